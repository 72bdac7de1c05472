/- Entering a function, coming back from it, calling. -/
import Derived.Test.YtdhmflhncidjaaaGreatSyF
set_option linter.unusedSectionVars false
set_option linter.unusedVariables false
set_option linter.unusedSimpArgs false
namespace Go.Sy
mutual
inductive NL:DV->Prop
 | v (x:Value):NL (.v x)
 | agg {xs:List DV} (h:NLs xs):NL (.agg xs)
 | sl {n:Nat} {g:Nat->List DV} (h:∀ i,i < n->NLs (g i)):NL (.sl true n g)
 | sl0 (t:Bool) (g:Nat->List DV):NL (.sl t 0 g)
 | rop {n:Nat} {g:Nat->List DV} {i off:Nat} (h:∀ i,i < n->NLs (g i)):NL (.rop true n g i off)
 | fn {f:FuncId} {xs:List DV} (h:NLs xs):NL (.fn f xs)
 | ifc {t:TypeId} {x:DV} (h:NL x):NL (.ifc t x)
inductive NLs:List DV->Prop
 | nil:NLs []
 | cons {x:DV} {xs:List DV} (h:NL x) (hs:NLs xs):NLs (x :: xs)
end
mutual
inductive NA:AV->Prop
 | d {x:DV} (h:NL x):NA (.d x)
 | agg {xs:List AV} (h:NAs xs):NA (.agg xs)
 | Ql {xs:List AV} (h:NAs xs):NA (.Ql xs)
 | own (id k off n:Nat):NA (.own id k off n)
 | ptr (id k i off:Nat):NA (.ptr id k i off)
 | win (id off n:Nat):NA (.win id off n)
 | mp (id:Nat):NA (.mp id)
 | fn {f:FuncId} {xs:List AV} (h:NAs xs):NA (.fn f xs)
 | ifc {t:TypeId} {x:AV} (h:NA x):NA (.ifc t x)
 | bm {f:FuncId} {x:AV} (h:NA x):NA (.bm f x)
inductive NAs:List AV->Prop
 | nil:NAs []
 | cons {x:AV} {xs:List AV} (h:NA x) (hs:NAs xs):NAs (x :: xs)
end
inductive NR:Row->Prop
 | flat {fz:Bool} {k:Nat} {ty:TypeId} {n:Nat} {g:Nat->List DV} (h:∀ i,i < n->NLs (g i)):NR (.flat fz k ty n g)
 | box {ty:TypeId} {cs:List AV} (h:NAs cs):NR (.box ty cs)
 | mix {k:Nat} {ty:TypeId} {n:Nat} {g:Nat->List AV} (h:∀ i,i < n->NAs (g i)):NR (.mix k ty n g)
 | gone:NR .gone
 | loop {l:Nat} {s:LoopState} {fn:FuncId} {nt:Nat} {is:List Nat} {xs:List AV} {ps:Array Tmp} {asg body:Code} (h:NAs xs):NR (.loop l s fn nt is xs ps asg body)
 | dfr (D:Nat):NR (.dfr D)
 | mp (es:List MapEntry) (clock:Nat):NR (.mp es clock)
 | it (id since:Nat) (seen:List Nat) (last:Nat):NR (.it id since seen last)
 | obj (o:Qls):NR (.obj o)
section
variable {w:World} {ok okr:Bool->Nat->Prop} {μ:List (Option Nat)} (Jj:∀ b,ok true b->okr true b)
include Jj
mutual
theorem VR.perm:∀ {x:DV} {v:Value},VR w ok x v->NL x->VR w okr x v
 | _,_,.v h,_=>.v h
 | _,_,.agg h,.agg k=>.agg (VRs.perm h k)
 | _,_,.sl0,_=>.sl0
 | _,_,.sl k vs h0 hc ho hl hr hm,.sl q=>.sl k vs h0 hc (Jj _ ho) hl (fun i hi=>VRs.perm (hr i hi) (q i hi)) hm
 | _,_,.sl k vs h0 hc ho hl hr hm,.sl0 _ _=>absurd h0 (Nat.lt_irrefl 0)
 | _,_,.rop k vs hi ho hl hr hm,.rop q=>.rop k vs hi (Jj _ ho) hl (fun i hi=>VRs.perm (hr i hi) (q i hi)) hm
 | _,_,.fn h,.fn k=>.fn (VRs.perm h k)
 | _,_,.ifc h,.ifc k=>.ifc (VR.perm h k)
theorem VRs.perm:∀ {x:List DV} {v:List Value},VRs w ok x v->NLs x->VRs w okr x v
 | _,_,.nil,_=>.nil
 | _,_,.cons h1 h hs,.cons k ks=>.cons h1 (VR.perm h k) (VRs.perm hs ks)
end
mutual
theorem Zj.perm:∀ {x:AV} {v:Value},Zj w ok μ x v->NA x->Zj w okr μ x v
 | _,_,.d h,.d k=>.d (VR.perm Jj h k)
 | _,_,.agg h,.agg k=>.agg (Jm.perm h k)
 | _,_,.Ql h,.Ql k=>.Ql (Qaw.perm h k)
 | _,_,.Qbj h,_=>.Qbj h
 | _,_,.own h h1 h2 h3 h4,_=>.own h h1 h2 h3 h4
 | _,_,.ptr h,_=>.ptr h
 | _,_,.win h h1 h2,_=>.win h h1 h2
 | _,_,.mp h,_=>.mp h
 | _,_,.fn h,.fn k=>.fn (Jm.perm h k)
 | _,_,.ifc h,.ifc k=>.ifc (Zj.perm h k)
 | _,_,.bm h,.bm k=>.bm (Zj.perm h k)
theorem Jm.perm:∀ {x:List AV} {v:List Value},Jm w ok μ x v->NAs x->Jm w okr μ x v
 | _,_,.nil,_=>.nil
 | _,_,.cons h1 h hs,.cons k ks=>.cons h1 (Zj.perm h k) (Jm.perm hs ks)
theorem Qaw.perm:∀ {x:List AV} {v:List Value},Qaw w ok μ x v->NAs x->Qaw w okr μ x v
 | _,_,.nil,_=>.nil
 | _,_,.cons h hs,.cons k ks=>.cons (Zj.perm h k) (Qaw.perm hs ks)
end
theorem Qbg.perm {ob:Option Nat} {r:Row} (h:Qbg w ok μ ob r) (hr:NR r):Qbg w okr μ ob r:=by
 cases ob with
 | none=>cases r<;>first | exact h | exact Qls.perm _ Jj h
 | some b=>
  cases hr with
  | gone=>trivial
  | loop k=>
   obtain ⟨h0,T,D,vs,h1,h2,h3,h4⟩:=h
   exact ⟨h0,T,D,vs,h1,h2,Qaw.perm Jj h3 k,h4⟩
  | dfr D=>exact h
  | mp es clock=>exact h
  | it id since seen last=>exact h
  | obj o=>exact o.perm Jj h
  | flat k=>
   obtain ⟨cs,vs,h1,h2,h3,h4,h5⟩:=h
   exact ⟨cs,vs,h1,h2,h3,fun i hi=>VRs.perm Jj (h4 i hi) (k i hi),h5⟩
  | mix k=>
   obtain ⟨cs,vs,h1,h2,h3,h4,h5⟩:=h
   exact ⟨cs,vs,h1,h2,h3,fun i hi=>Jm.perm Jj (h4 i hi) (k i hi),h5⟩
  | box k=>
   obtain ⟨vs,h1,h2⟩:=h
   exact ⟨vs,h1,Jm.perm Jj h2 k⟩
end
inductive Sel (rows:List Row) (ρ:Nat->Nat):List Nat->List Row->Prop
 | nil:Sel rows ρ [] []
 | cons {id:Nat} {r:Row} {Yu:List Nat} {rs:List Row} (h:rows[id]? = some (Qb0 ρ r)) (hs:Sel rows ρ Yu rs):Sel rows ρ (id :: Yu) (r :: rs)
theorem Sel.len {rows:List Row} {ρ:Nat->Nat}:∀ {Yu:List Nat} {rs:List Row},Sel rows ρ Yu rs->Yu.length=rs.length
 | _,_,.nil=>rfl
 | _,_,.cons _ hs=>by simp [Sel.len hs]
theorem Sel.at_ {rows:List Row} {ρ:Nat->Nat}:∀ {Yu:List Nat} {rs:List Row},Sel rows ρ Yu rs->∀ {j:Nat} {r:Row},rs[j]? = some r->∃ id,Yu[j]? = some id/\rows[id]? = some (Qb0 ρ r)
 | _,_,.nil,_,_,h=>by simp at h
 | _,_,.cons h hs,0,_,e=>by simp at e;subst e;exact ⟨_,rfl,h⟩
 | _,_,.cons h hs,j+1,_,e=>by simpa using Sel.at_ hs (by simpa using e)
def Qbm (Yu:List Nat) (N:Nat) (j:Nat):Nat:=Yu.getD j N
section
variable {X:Ctx} {C:Qq} {Yu:List Nat} {rs:List Row}
def Qc4 (C:Qq) (Yu:List Nat) (rs:List Row):Qq:=⟨Yu.map fun i=>(C.μ[i]?).getD none,rs,C.w⟩
structure Qjk (X:Ctx) (C:Qq) (Yu:List Nat) (rs:List Row):Prop where
 is:Sel C.rows (Qbm Yu C.rows.length) Yu rs
 nodup:Yu.Nodup
 first:∀ j,j < X.μ0.length->Yu[j]? = some j
theorem Qq9 (h:Wt X C) (p:Qjk X C Yu rs) {j:Nat} {x:Option Nat}:(Qc4 C Yu rs).μ[j]? = some x↔∃ id,Yu[j]? = some id/\C.μ[id]? = some x:=by
 simp only [Qc4,List.getElem?_map,Option.map_eq_some_iff]
 constructor
 ·rintro ⟨id,h1,h2⟩
  refine ⟨id,h1, ?_⟩
  have hj:=(List.getElem?_eq_some_iff.1 h1).1
  rw [p.is.len] at hj
  obtain ⟨id',e1,e2⟩:=p.is.at_ (List.getElem?_eq_getElem hj)
  rw [h1] at e1
  injection e1 with e1
  subst e1
  obtain ⟨y,hy⟩:=h.Qip e2
  rw [hy] at h2 ⊢
  simpa using h2
 rintro ⟨id,h1,h2⟩
 exact ⟨id,h1,by simp [h2]⟩
theorem Qz5 (h:Wt X C) (p:Qjk X C Yu rs) {j:Nat} {x:Option Nat} (e:C.μ[Qbm Yu C.rows.length j]? = some x):(Qc4 C Yu rs).μ[j]? = some x:=by
 rw [Qq9 h p]
 by_cases hj:j < Yu.length
 ·refine ⟨Yu[j],List.getElem?_eq_getElem hj, ?_⟩
  simpa [Qbm,List.getD_eq_getElem?_getD,List.getElem?_eq_getElem hj] using e
 have:=(List.getElem?_eq_some_iff.1 e).1
 simp only [Qbm,List.getD_eq_getElem?_getD,List.getElem?_eq_none (Nat.le_of_not_lt hj),Option.getD_none] at this
 have:=h.len
 omega
theorem Wk9 (h:Wt X C) (p:Qjk X C Yu rs) {b:Nat} (e:(Qc4 C Yu rs).live b):C.live b:=by
 obtain ⟨j,m,r,h1,h2,h3,h4⟩:=e
 obtain ⟨id,e1,e2⟩:=(Qq9 h p).1 h1
 obtain ⟨id',e3,e4⟩:=p.is.at_ h2
 rw [e1] at e3
 injection e3 with e3
 subst e3
 exact ⟨id,m,_,e2,e4,by rw [Qez];exact h3,(Qlq _ _ _ _ _).2 h4⟩
theorem Wie (h:Wt X C) (p:Qjk X C Yu rs):∀ t b,C.ok X t b->(Qc4 C Yu rs).ok X t b:=fun _ _ ⟨h1,h2,h3⟩=>⟨h1,fun e=>h2 (Wk9 h p e),h3⟩
theorem Qmh (h:Wt X C) (p:Qjk X C Yu rs):Wt X (Qc4 C Yu rs):=by
 have hat:∀ {j:Nat} {x:Option Nat} {r:Row},(Qc4 C Yu rs).μ[j]? = some x->rs[j]? = some r->∃ id,Yu[j]? = some id/\C.μ[id]? = some x/\C.rows[id]? = some (Qb0 (Qbm Yu C.rows.length) r):=by
  intro j x r h1 h2
  obtain ⟨id,e1,e2⟩:=(Qq9 h p).1 h1
  obtain ⟨id',e3,e4⟩:=p.is.at_ h2
  rw [e1] at e3
  injection e3 with e3
  subst e3
  exact ⟨id,e1,e2,e4⟩
 refine ⟨by simp [Qc4,p.is.len],h.os,h.tape,h.output,h.size,h.keep,h.shape, ?_, ?_, ?_, ?_, ?_, ?_⟩
 ·intro j x hx
  have hj:=(List.getElem?_eq_some_iff.1 hx).1
  exact (Qq9 h p).2 ⟨j,p.first j hj,h.first j x hx⟩
 ·intro j b hb
  obtain ⟨id,e1,e2⟩:=(Qq9 h p).1 hb
  exact h.place id b e2
 ·intro i j b r s h1 h2 h3 h4 h5 h6
  obtain ⟨id,e1,e2,e3⟩:=hat h1 h3
  obtain ⟨jd,f1,f2,f3⟩:=hat h2 h4
  have:=h.apart id jd b _ _ e2 f2 e3 f3 (by rw [Qez];exact h5) (by rw [ne_eq,Qhp];exact h6)
  subst this
  exact (List.getElem?_inj (List.getElem?_eq_some_iff.1 e1).1 p.nodup).1 (e1.trans f1.symm)
 ·intro i m b r h1 h2 h3
  obtain ⟨id,e1,e2,e3⟩:=hat h1 h2
  exact h.Qb4 id m b _ e2 e3 (by rw [Qeh];exact h3)
 ·intro i j m n b r s h1 h2 h3 h4 h5 h6
  obtain ⟨id,e1,e2,e3⟩:=hat h1 h3
  obtain ⟨jd,f1,f2,f3⟩:=hat h2 h4
  have:=h.Qb7 id jd m n b _ _ e2 f2 e3 f3 (by rw [Qeh];exact h5) (by rw [ne_eq,Qhp];exact h6)
  refine ⟨this.1,fun h7=>?_⟩
  have:=this.2 (by rw [Qeh];exact h7)
  subst this
  exact (List.getElem?_inj (List.getElem?_eq_some_iff.1 e1).1 p.nodup).1 (e1.trans f1.symm)
 intro j ob r h1 h2
 obtain ⟨id,e1,e2,e3⟩:=hat h1 h2
 exact (h.rel id ob _ e2 e3).Qfa (Wie h p) (fun _ _ e=>Qz5 h p e)
theorem Qoh (h:Wt X C) (p:Qjk X C Yu rs) {av:AV} {v:Value} (k:Zj C.w (C.ok X) C.μ (Qa0 (Qbm Yu C.rows.length) av) v):Zj C.w ((Qc4 C Yu rs).ok X) (Qc4 C Yu rs).μ av v:=
 k.Qfa (Wie h p) (fun _ _ e=>Qz5 h p e)
end
theorem Wba {X:Ctx} {f:FuncId} {k:List Item} {Q:Frame->Frame->Qq->Prop} {st:St} (Yu:List Nat) (rs:List Row) (tm:List (Nat × AV)) (hs:Sel st.rows (Qbm Yu st.rows.length) Yu rs) (hn:Yu.Nodup)
  (h0:Yu.take X.μ0.length=List.range X.μ0.length) (ht:∀ i av,tm.lookup i=some av->st.tm.lookup i=some (Qa0 (Qbm Yu st.rows.length) av)) (h:AK X f k Q { nt:=st.nt,tm:=tm,rows:=rs }):AK X f k Q st:=by
 intro a C hC b cs hb hk
 have p:Qjk X C Yu rs:=by
  refine ⟨by rw [hC.rows];exact hs,hn,fun j hj=>?_⟩
  have:(Yu.take X.μ0.length)[j]? = some j:=by rw [h0];simp [hj]
  rw [List.getElem?_take_of_lt hj] at this
  exact this
 refine h a (Qc4 C Yu rs) ⟨Qmh hC.rel p,rfl,hC.defers,hC.nt,fun i av e=>?_⟩ b cs hb hk
 obtain ⟨v,h1,h2⟩:=hC.tm i _ (ht i av e)
 rw [<- hC.rows] at h2
 exact ⟨v,h1,Qoh hC.rel p h2⟩
def Qlj (tm:List (Nat × AV)):List ResultVar->Option AV
 | [.tmp t]=>tm.lookup t
 | [.tmp t,.tmp u]=>
  match tm.lookup t,tm.lookup u with
  | some a,some b=>some (.Ql [a,b])
  | _,_=>none
 | [.tmp t,.tmp u,.tmp v]=>
  match tm.lookup t,tm.lookup u,tm.lookup v with
  | some a,some b,some c=>some (.Ql [a,b,c])
  | _,_,_=>none
 | []=>some (.Ql [])
 | _=>none
theorem Qwt {X:Ctx} {st:St} {a:Act} {C:Qq} (h:Sim X st a C) {fn:Func} {av:AV} (e:Qlj st.tm fn.results.toList=some av):
  ∃ v,(results fn a.tmps).run X.P C.w=.ok v C.w/\Zj C.w (C.ok X) C.μ av v:=by
 have hr:fn.results=fn.results.toList.toArray:=by simp
 generalize fn.results.toList=l at e hr
 have get:∀ {t:Nat} {x:AV},st.tm.lookup t=some x->Zj C.w (C.ok X) C.μ x (a.tmps.getD t undef):=by
  intro t x ht
  obtain ⟨v,h1,h2⟩:=h.tm t x ht
  simpa [Array.getD_eq_getD_getElem?,h1] using h2
 unfold Qlj at e
 split at e
 ·exact ⟨_,by simp [results,hr],get e⟩
 ·split at e
  ·rename_i x y hx hy
   injection e with e
   subst e
   exact ⟨_,by simp [results,hr],.Ql (.cons (get hx) (.cons (get hy) .nil))⟩
  cases e
 ·split at e
  ·rename_i x y z hx hy hz
   injection e with e
   subst e
   exact ⟨_,by simp [results,hr],.Ql (.cons (get hx) (.cons (get hy) (.cons (get hz) .nil)))⟩
  cases e
 ·injection e with e
  subst e
  exact ⟨_,by simp [results,hr],.Ql .nil⟩
 cases e
def Ym (X:Ctx) (Qr:List Row) (ret:AV) (_ fr:Frame) (C:Qq):Prop:=∃ v,C.rows=Qr/\Qa3 X C ret v/\fr.leaving X.P C.w (.returned v)
theorem Qui {X:Ctx} {f:FuncId} {fn:Func} {Qr:List Row} {ret av:AV} {st:St} {k:List Item} (hf:X.P.funcs[f]? = some fn) (e:Qlj st.tm fn.results.toList=some av)
  (Yu:List Nat) (hs:Sel st.rows (Qbm Yu st.rows.length) Yu Qr) (hn:Yu.Nodup) (h0:Yu.take X.μ0.length=List.range X.μ0.length) (Qhx:av=Qa0 (Qbm Yu st.rows.length) ret)
  (nr:∀ r∈Qr,NR r) (na:NA ret)
  (Qay:∀ (a:Act) (C:Qq),a.defers=X.ds->∀ (b:Frame) (cs:List Frame),b.fn=f->(b.kind=.normal/\b.roundOf=X.rnd)->∃ fr,Steps X.P (lone (b.atR a k) cs C.w) (lone fr cs C.w)/\fr.fn=f/\fr.mode=.returning/\fr.defers=[]/\fr.kind=.normal/\fr.tmps=a.tmps):
  AK X f k (Ym X Qr ret) st:=by
 intro a C hC b cs hb hk
 obtain ⟨v,h1,h2⟩:=Qwt hC e
 have p:Qjk X C Yu Qr:=by
  refine ⟨by rw [hC.rows];exact hs,hn,fun j hj=>?_⟩
  have:(Yu.take X.μ0.length)[j]? = some j:=by rw [h0];simp [hj]
  rw [List.getElem?_take_of_lt hj] at this
  exact this
 obtain ⟨fr,s1,s2,s3,s4,s5,s6⟩:=Qay a C hC.defers b cs hb hk
 have Zb:=Qmh hC.rel p
 have Qgc:∀ b,(Qc4 C Yu Qr).ok X true b->(Qc4 C Yu Qr).okR X true b:=fun _ h=>⟨rfl,h⟩
 refine ⟨Qc4 C Yu Qr,fr,⟨v,rfl,⟨Zb, ?_, ?_⟩,s3,s4,s5,fn,by rw [s2];exact hf,by rw [s6];exact h1⟩,s1,s2⟩
 ·intro id ob r e1 e2
  exact (Zb.rel id ob r e1 e2).perm Qgc (nr r (List.mem_of_getElem? e2))
 rw [Qhx,<- hC.rows] at h2
 exact (Qoh hC.rel p h2).perm Qgc na
theorem Qf9 {X:Ctx} {f:FuncId} {fn:Func} {Qr:List Row} {ret av:AV} {st:St} {k:List Item} (hf:X.P.funcs[f]? = some fn) (hX:X.ds=[]/\X.rnd=none) (e:Qlj st.tm fn.results.toList=some av)
  (Yu:List Nat) (hs:Sel st.rows (Qbm Yu st.rows.length) Yu Qr) (hn:Yu.Nodup) (h0:Yu.take X.μ0.length=List.range X.μ0.length) (Qhx:av=Qa0 (Qbm Yu st.rows.length) ret)
  (nr:∀ r∈Qr,NR r) (na:NA ret):AK X f (.code .ret :: k) (Ym X Qr ret) st:=
 Qui hf e Yu hs hn h0 Qhx nr na fun a C hd b cs hb hk=>⟨_,.one (stepR_ret (hk.2.trans hX.2)),hb,rfl,hd.trans hX.1,hk.1,rfl⟩
theorem Qtp {X:Ctx} {f:FuncId} {fn:Func} {Qr:List Row} {ret av:AV} {st:St} (hf:X.P.funcs[f]? = some fn) (hX:X.ds=[]/\X.rnd=none) (e:Qlj st.tm fn.results.toList=some av)
  (Yu:List Nat) (hs:Sel st.rows (Qbm Yu st.rows.length) Yu Qr) (hn:Yu.Nodup) (h0:Yu.take X.μ0.length=List.range X.μ0.length) (Qhx:av=Qa0 (Qbm Yu st.rows.length) ret)
  (nr:∀ r∈Qr,NR r) (na:NA ret):AK X f [] (Ym X Qr ret) st:=
 Qui hf e Yu hs hn h0 Qhx nr na fun a C hd b cs hb hk=>⟨_,.one (stepR_end (hk.2.trans hX.2)),hb,rfl,hd.trans hX.1,hk.1,rfl⟩
def Ctx.plain (X:Ctx):Ctx:={ X with ds:=[],rnd:=none }
theorem Wt.plain {X:Ctx} {C:Qq} (h:Wt X C):Wt X.plain C:=⟨h.len,h.os,h.tape,h.output,h.size,h.keep,h.shape,h.first,h.place,h.apart,h.Qb4,h.Qb7,h.rel⟩
theorem Wt.Wbw {X:Ctx} {C:Qq} (h:Wt X.plain C):Wt X C:=⟨h.len,h.os,h.tape,h.output,h.size,h.keep,h.shape,h.first,h.place,h.apart,h.Qb4,h.Qb7,h.rel⟩
def Qha:Nat->List AV->List (Nat × AV)
 | _,[]=>[]
 | i,x :: xs=>(i,x) :: Qha (i+1) xs
theorem Qoy:∀ {xs:List AV} {j i:Nat} {av:AV},(Qha j xs).lookup i=some av->j<=i/\xs[i - j]? = some av
 | [],_,_,_,h=>by simp [Qha] at h
 | x :: xs,j,i,av,h=>by
  simp only [Qha,List.lookup_cons] at h
  split at h
  ·rename_i e
   have e:i=j:=by simpa using e
   subst e
   injection h with h
   subst h
   simp
  rename_i e
  obtain ⟨h1,h2⟩:=Qoy h
  have:i - j=i - (j+1)+1:=by omega
  exact ⟨by omega,by rw [this];simpa using h2⟩
theorem Qaw.length {w:World} {ok:Bool->Nat->Prop} {μ:List (Option Nat)}:∀ {xs:List AV} {vs:List Value},Qaw w ok μ xs vs->xs.length=vs.length
 | _,_,.nil=>rfl
 | _,_,.cons _ hs=>by simp [Qaw.length hs]
theorem Wx {P:Program} {f:FuncId} {fn:Func} {c:Code} {Xb Qr:List Row} {args:List AV} {ret:AV} {nt:Nat} (hf:P.funcs[f]? = some fn) (hb:fn.body=some c) (hn:fn.ntmps=nt) (hl:args.length<=nt)
  (h:∀ X:Ctx,X.P=P->X.μ0.length=Xb.length->(X.ds=[]/\X.rnd=none)->AK X f [.code c] (Ym X Qr ret) { nt:=nt,tm:=Qha 0 args,rows:=Xb }):Xt P f Xb args Qr ret:=by
 intro X vs hP hX Zb Qb5 cs
 have hvl:=Qb5.length
 have Wjx:Frame.enter P f vs.toArray .normal =
   ({ (default:Frame) with fn:=f,kind:=.normal,roundOf:=none }:Frame).atR { tmps:=vs.toArray ++ Array.replicate (fn.ntmps - vs.toArray.size) undef,defers:=[] } [.code c]:=by
  simp [Frame.enter,Frame.atR,hf,hb]
 have hrel':Wt X.plain ⟨X.μ0,Xb,X.w0⟩:=Zb.plain
 obtain ⟨C',fr,⟨v,hq1,hq2,h4⟩,h2,h3⟩:=h X.plain hP Zb.len ⟨rfl,rfl⟩ { tmps:=vs.toArray ++ Array.replicate (fn.ntmps - vs.toArray.size) undef,defers:=[] } ⟨X.μ0,Xb,X.w0⟩
  ⟨hrel',rfl,rfl,by simp [hn];omega,fun i av e=>by
   obtain ⟨_,e2⟩:=Qoy e
   obtain ⟨u,h1,h2⟩:=Qb5.at_ e2
   have hi:=(List.getElem?_eq_some_iff.1 h1).1
   refine ⟨u, ?_,h2⟩
   rw [Array.getElem?_append_left (by simpa using hi)]
   simpa using h1⟩ { (default:Frame) with fn:=f,kind:=.normal,roundOf:=none } cs rfl ⟨rfl,rfl⟩
 subst hP
 rw [<- Wjx] at h2
 obtain ⟨μ',rows',w'⟩:=C'
 simp only at hq1
 subst hq1
 exact ⟨.returned v,w',fr,⟨v,μ',rfl,⟨hq2.rel.Wbw,hq2.rows,hq2.ret⟩⟩,h2,h3,h4⟩
def Qdo (st:St):List Item->Option (FuncId × List AV × Option Tmp × List Item)
 | .inRegion ops (i :: rest) :: k=>
  match ops[i]? with
  | some o=>
   match o.op with
   | .call c=>
    match c.callee with
    | .value g=>
     match guardOf st.tm ops o,valOf st.tm g,mapVal (valOf st.tm) c.args.toList with
     | some true,some (.fn fid caps),some xs=>some (fid,xs ++ caps,o.dst,.inRegion ops rest :: k)
     | some true,some (.d (.fn fid caps)),some xs=>some (fid,xs ++ caps.map .d,o.dst,.inRegion ops rest :: k)
     | some true,some (.bm fid x),some xs=>some (fid,x :: xs,o.dst,.inRegion ops rest :: k)
     | _,_,_=>none
    | _=>none
   | _=>none
  | none=>none
 | _=>none
theorem Qaw.append {w:World} {ok:Bool->Nat->Prop} {μ:List (Option Nat)}:∀ {xs ys:List AV} {vs us:List Value},Qaw w ok μ xs vs->Qaw w ok μ ys us->Qaw w ok μ (xs ++ ys) (vs ++ us)
 | _,_,_,_,.nil,k=>k
 | _,_,_,_,.cons h hs,k=>.cons h (Qaw.append hs k)
theorem Jm.toL {w:World} {ok:Bool->Nat->Prop} {μ:List (Option Nat)}:∀ {xs:List AV} {vs:List Value},Jm w ok μ xs vs->Qaw w ok μ xs vs
 | _,_,.nil=>.nil
 | _,_,.cons _ h hs=>.cons h (Jm.toL hs)
def Enters (P:Program) (g:FuncId):Prop:=∀ (args:Array Value) (w:World),(callFunc g args).run P w=.ok (.enter g args) w
theorem Qy {P:Program} {g:FuncId} {fn:Func} (hf:P.funcs[g]? = some fn) (hn:(fn.name == "runtime.NumGoroutine")=false) (hb:fn.body.isNone=false):Enters P g:=by
 intro args w
 simp only [callFunc,Sem.run_bind,run_program,Result.andThen_ok,hf,hn,hb]
 rfl
def Wll {γ:Type} (P:Program) (f:FuncId) (Xb:List Row) (args:List AV) (G:γ->Prop) (Qr:γ->List Row) (ret:γ->AV):Prop:=
 ∀ (X:Ctx) (vs:List Value),X.P=P->X.Fits->Wt X ⟨X.μ0,Xb,X.w0⟩->Qaw X.w0 ((⟨X.μ0,Xb,X.w0⟩:Qq).ok X) X.μ0 args vs ->
  Calls P f vs.toArray X.w0 fun e w'=>∃ g v μ',G g/\e=.returned v/\Qa3 X ⟨μ',Qr g,w'⟩ (ret g) v
theorem Wi5 {γ:Type} {X:Ctx} {f:FuncId} {k k':List Item} {Q:Frame->Frame->Qq->Prop} {st:St} {G:γ->Prop} {st':γ->St} (h:∀ g,G g->AK X f k' Q (st' g))
  (hs:∀ a C,Sim X st a C->∀ (b:Frame) (cs:List Frame),b.fn=f->∃ g a' C',G g/\Sim X (st' g) a' C'/\Steps X.P (lone (b.atR a k) cs C.w) (lone (b.atR a' k') cs C'.w)):AK X f k Q st:=by
 intro a C hC b cs hb hk
 obtain ⟨g,a',C',hg,h1,h2⟩:=hs a C hC b cs hb
 obtain ⟨C2,fr,q,h3,h4⟩:=h g hg a' C' h1 b cs hb hk
 exact ⟨C2,fr,q,h2.trans h3,h4⟩
theorem We7 {γ:Type} {X:Ctx} {P:Program} {f g:FuncId} {k k':List Item} {Q:Frame->Frame->Qq->Prop} {st:St} {G:γ->Prop} {st':γ->St} {Xx args:List AV} {dst:Option Tmp} (ids:List Nat) {Xb:List Row} {Qr:γ->List Row} {ret:γ->AV}
  (hP:X.P=P) (he:Enters P g) (hs:Wll P g Xb args G Qr ret)
  (e:Qdo st k=some (g,Xx,dst,k')) (hh:Qbz st.rows ids Xb) 
  (hp:∀ (C:Qq) (vs:List Value),Wt X C->C.rows=st.rows->Qaw C.w (C.ok X) C.μ Xx vs->Qaw C.w ((Qdm X C ids Xb).ok (Qaf X C ids)) (Qaf X C ids).μ0 args vs)
  (Qat:∀ x,St.put { st with rows:=Qav st.rows ids (Qr x) } dst (Qa0 (Zw ids st.rows.length) (ret x))=some (st' x)) (h:∀ x,G x->AK X f k' Q (st' x)):AK X f k Q st:=by
 subst hP
 unfold Qdo at e
 split at e
 ·rename_i ops i rest k0
  split at e
  ·rename_i o ho
   split at e
   ·rename_i c hc
    split at e
    ·rename_i gv hg
     refine Wi5 h fun a C hC b cs _=>?_
     have Qcx:∃ vs,(execOp a.eval o).run X.P C.w=.ok (.enter g vs.toArray) C.w/\Qaw C.w (C.ok X) C.μ Xx vs/\guardOf st.tm ops o=some true/\o.dst=dst/\k'=.inRegion ops rest :: k0:=by
      have key:∀ (fid:FuncId) (caps:Array Value),a.eval gv=.func (.func fid) #[] caps->fid=g->(execOp a.eval o).run X.P C.w=.ok (.enter g (c.args.map a.eval ++ caps)) C.w:=by
       rintro fid caps hv rfl
       simp only [execOp,hc,resolve,hg,hv,Deferred.ofValue,Sem.run_bind,Sem.run_pure,Result.andThen_ok,invoke]
       rw [he]
       simp
      split at e
      ·rename_i fid caps xs h1 h2 h3
       injection e with e;injection e with e1 e;injection e with e2 e;injection e with e3 e4
       subst e1;subst e2
       have hv:=hC.val _ _ h2
       obtain ⟨cs,hcs,hr⟩:∃ cs,a.eval gv=.func (.func fid) #[] cs.toArray/\Jm C.w (C.ok X) C.μ caps cs:=by
        generalize a.eval gv=u at hv
        cases hv with
        | fn hv=>exact ⟨_,rfl,hv⟩
       refine ⟨c.args.toList.map a.eval ++ cs, ?_,(Qgu hC.val h3).append hr.toL,h1,e3,e4.symm⟩
       rw [key fid cs.toArray hcs rfl]
       congr 2
       exact Array.ext' (by simp)
      ·rename_i fid caps xs h1 h2 h3
       injection e with e;injection e with e1 e;injection e with e2 e;injection e with e3 e4
       subst e1;subst e2
       have hv:=hC.val _ _ h2
       obtain ⟨cs,hcs,hr⟩:∃ cs,a.eval gv=.func (.func fid) #[] cs.toArray/\VRs C.w (C.ok X) caps cs:=by
        generalize a.eval gv=u at hv
        cases hv with
        | d hv=>
         cases hv with
         | fn hv=>exact ⟨_,rfl,hv⟩
       refine ⟨c.args.toList.map a.eval ++ cs, ?_,(Qgu hC.val h3).append (hr.toA).toL,h1,e3,e4.symm⟩
       rw [key fid cs.toArray hcs rfl]
       congr 2
       exact Array.ext' (by simp)
      ·rename_i fid x xs h1 h2 h3
       injection e with e;injection e with e1 e;injection e with e2 e;injection e with e3 e4
       subst e1;subst e2
       have hv:=hC.val _ _ h2
       obtain ⟨y,hy,hr⟩:∃ y,a.eval gv=.func (.func fid) #[y] #[]/\Zj C.w (C.ok X) C.μ x y:=by
        generalize a.eval gv=u at hv
        cases hv with
        | bm hv=>exact ⟨_,rfl,hv⟩
       refine ⟨y :: c.args.toList.map a.eval, ?_,.cons hr (Qgu hC.val h3),h1,e3,e4.symm⟩
       simp only [execOp,hc,resolve,hg,hy,Deferred.ofValue,Sem.run_bind,Sem.run_pure,Result.andThen_ok,invoke]
       rw [he]
       congr 2
       exact Array.ext' (by simp)
      cases e
     obtain ⟨vs,hx,Qb5,hgd,Qo7,rfl⟩:=Qcx
     subst Qo7
     rw [<- hC.rows] at hh Qat
     have Qdd:=hs (Qaf X C ids) vs rfl (Qmm hC.rel hh) (Qoa hC.rel hh) (hp C vs hC.rel hC.rows Qb5)
     obtain ⟨e,w',fr,⟨x,v,μ',hx0,rfl,hd⟩,Qhc,_,Qmv⟩:=Qdd (b.atR a (.inRegion ops (i :: rest) :: k0) :: cs)
     have hgg:=stepGR_op (P:=X.P) (b:=b) (k:=k0) (cs:=cs) (w:=C.w) (rest:=rest) ho (Qdv hC hgd)
     rw [Oper.semAt_eq _ _ _ (by intro c' hc';rw [hc] at hc';cases hc')] at hgg
     have Qin:step X.P (lone (b.atR a (.inRegion ops (i :: rest) :: k0)) cs C.w)=.next (lone (Frame.enter X.P g vs.toArray .normal) (b.atR a (.inRegion ops (i :: rest) :: k0) :: cs) C.w):=
      step_lone_go (by rw [hgg];simp [stepG.apply,hx,Frame.atR])
     have Qdw:(b.atR a (.inRegion ops (i :: rest) :: k0)).finish v=b.atR (a.put o.dst v) (.inRegion ops rest :: k0):=by
      rw [Frame.finish_atR,ho];rfl
     have Qhy:Sim X { st with rows:=(Qa4 C ids μ' (Qr x) w').rows } a (Qa4 C ids μ' (Qr x) w'):=hC.Qds (Qmd hC.rel hh hd.rel) (Qml hC.rel hh hd)
     refine ⟨x,_,Qa4 C ids μ' (Qr x) w',hx0,Qhy.put (Qat x) (Wi9 hC.rel hh hd),.head Qin (Qhc.trans (.one ?_))⟩
     rw [<- Qdw]
     exact step_leave_returned Qmv
    cases e
   cases e
  cases e
 cases e
theorem Xt.toE {P:Program} {f:FuncId} {Xb Qr:List Row} {args:List AV} {ret:AV} (h:Xt P f Xb args Qr ret):Wll P f Xb args (fun _:Unit=>True) (fun _=>Qr) (fun _=>ret):=
 fun X vs hP hX hR hA=>(h X vs hP hX hR hA).mono fun _ _ ⟨v,μ',h1,h2⟩=>⟨(),v,μ',trivial,h1,h2⟩
theorem We8 {X:Ctx} {P:Program} {f g:FuncId} {k k':List Item} {Q:Frame->Frame->Qq->Prop} {st st':St} {Xx args:List AV} {dst:Option Tmp} (ids:List Nat) {Xb Qr:List Row} {ret:AV}
  (hP:X.P=P) (he:Enters P g) (hs:Xt P g Xb args Qr ret) (e:Qdo st k=some (g,Xx,dst,k')) (hh:Qbz st.rows ids Xb)
  (hp:∀ (C:Qq) (vs:List Value),Wt X C->C.rows=st.rows->Qaw C.w (C.ok X) C.μ Xx vs->Qaw C.w ((Qdm X C ids Xb).ok (Qaf X C ids)) (Qaf X C ids).μ0 args vs)
  (hpu:St.put { st with rows:=Qav st.rows ids Qr } dst (Qa0 (Zw ids st.rows.length) ret)=some st') (h:AK X f k' Q st'):AK X f k Q st:=
 We7 ids hP he hs.toE e hh hp (fun _=>hpu) fun _ _=>h
theorem Wpt {X:Ctx} {st:St} {ids:List Nat} {Xb:List Row} {Xx args:List AV} (hh:Qbz st.rows ids Xb) (hp:Qff st.rows ids (Zw ids st.rows.length) Xx args) (C:Qq) (vs:List Value) (hR:Wt X C) (hr:C.rows=st.rows) (hv:Qaw C.w (C.ok X) C.μ Xx vs):
  Qaw C.w ((Qdm X C ids Xb).ok (Qaf X C ids)) (Qaf X C ids).μ0 args vs:=by
 rw [<- hr] at hh hp
 exact Qj5 hR hh hp hv
theorem Qiv {X:Ctx} {f g:FuncId} {k k':List Item} {Q:Frame->Frame->Qq->Prop} {st st':St} {Xx args:List AV} {dst:Option Tmp} (ids:List Nat) {Xb Qr:List Row} {ret:AV}
  (e:Qdo st k=some (g,Xx,dst,k')) (he:Enters X.P g) (hh:Qbz st.rows ids Xb) (hp:Qff st.rows ids (Zw ids st.rows.length) Xx args) (hs:Xt X.P g Xb args Qr ret)
  (Qat:St.put { st with rows:=Qav st.rows ids Qr } dst (Qa0 (Zw ids st.rows.length) ret)=some st') (h:AK X f k' Q st'):AK X f k Q st:=
 We8 ids rfl he hs e hh (Wpt hh hp) Qat h
end Go.Sy
namespace Go.Sy
section
variable {X:Ctx} {C:Qq}
def Qq.renew (C:Qq) (id:Nat) (ob:Option Nat) (r:Row):Qq:=⟨C.μ ++ [ob],C.rows.set id .gone ++ [r],C.w⟩
theorem Wee (h:Wt X C) {id:Nat} {ob:Option Nat} {r:Row} (hμ:C.μ[id]? = some ob) (hr:C.rows[id]? = some r) {b:Nat}:(C.renew id ob r).live b->C.live b:=by
 have hlt:=(List.getElem?_eq_some_iff.1 hr).1
 rintro ⟨i,m,s,h1,h2,h3,h4⟩
 simp only [Qq.renew] at h1 h2
 rcases Jp.1 h1 with h1 | ⟨e1,h1⟩<;>rcases Jp.1 h2 with h2 | ⟨e2,h2⟩
 ·rcases (Qb2 hlt).1 h2 with ⟨_,rfl⟩ | ⟨_,h2⟩
  ·cases h3
  exact ⟨i,m,s,h1,h2,h3,h4⟩
 ·have:=(List.getElem?_eq_some_iff.1 h1).1
  have:=h.len
  simp at e2
  omega
 ·have k1:=(List.getElem?_eq_some_iff.1 h2).1
  have k2:=h.len
  simp at k1
  omega
 subst h1
 subst h2
 exact ⟨id,_,r,hμ,hr,h3,h4⟩
theorem Qkv (h:Wt X C) {id:Nat} {ob:Option Nat} {r:Row} (hμ:C.μ[id]? = some ob) (hr:C.rows[id]? = some r):Ev X C (C.renew id ob r):=
 ⟨Nat.le_refl _,fun _ _ _=>rfl,fun b _ hl k=>hl (Wee h hμ hr k),fun _ _ _ k=>⟨_,k,rfl⟩,fun _ _ hx=>Qda hx⟩
theorem Qj7 (h:Wt X C) {id:Nat} {ob:Option Nat} {r:Row} (hμ:C.μ[id]? = some ob) (hr:C.rows[id]? = some r) (Qii:r.live=true):Wt X (C.renew id ob r):=by
 have ev:=Qkv h hμ hr
 have hlt:=(List.getElem?_eq_some_iff.1 hr).1
 have hlen:=h.len
 have hat:∀ {i:Nat} {b:Option Nat} {s:Row},(C.renew id ob r).μ[i]? = some b->(C.renew id ob r).rows[i]? = some s->s≠.gone->∃ i',C.μ[i']? = some b/\C.rows[i']? = some s/\((i=C.rows.length/\i'=id)\/(i'=i/\i≠id)):=by
  intro i b s h1 h2 hg
  simp only [Qq.renew] at h1 h2
  rcases Jp.1 h1 with h1 | ⟨e1,h1⟩<;>rcases Jp.1 h2 with h2 | ⟨e2,h2⟩
  ·rcases (Qb2 hlt).1 h2 with ⟨_,rfl⟩ | ⟨n1,h2⟩
   ·exact absurd rfl hg
   exact ⟨i,h1,h2,.inr ⟨rfl,Ne.symm n1⟩⟩
  ·have:=(List.getElem?_eq_some_iff.1 h1).1
   simp at e2
   omega
  ·have:=(List.getElem?_eq_some_iff.1 h2).1
   simp at this
   omega
  subst h1
  subst h2
  simp at e2
  exact ⟨id,hμ,hr,.inl ⟨e2,rfl⟩⟩
 refine ⟨by simp [Qq.renew,hlen],h.os,h.tape,h.output,h.size,h.keep,h.shape,fun i x hx=>Qda (h.first i x hx), ?_, ?_, ?_, ?_, ?_⟩
 ·intro i b hb
  simp only [Qq.renew] at hb
  rcases Jp.1 hb with hb | ⟨_,hb⟩
  ·exact h.place i b hb
  subst hb
  exact h.place id b hμ
 ·intro i j b p q h1 h2 h3 h4 h5 h6
  obtain ⟨i',a1,a2,a3⟩:=hat h1 h3 (by rintro rfl;cases h5)
  obtain ⟨j',b1,b2,b3⟩:=hat h2 h4 h6
  have:=h.apart i' j' b p q a1 b1 a2 b2 h5 h6
  omega
 ·intro i m b p h1 h2 h3
  obtain ⟨i',a1,a2,a3⟩:=hat h1 h2 (by rintro rfl;cases h3)
  exact h.Qb4 i' m b p a1 a2 h3
 ·intro i j m n b p q h1 h2 h3 h4 h5 h6
  obtain ⟨i',a1,a2,a3⟩:=hat h1 h3 (by rintro rfl;cases h5)
  obtain ⟨j',b1,b2,b3⟩:=hat h2 h4 h6
  have:=h.Qb7 i' j' m n b p q a1 b1 a2 b2 h5 h6
  exact ⟨this.1,fun h7=>by have:=this.2 h7;omega⟩
 intro i o s h1 h2
 simp only [Qq.renew] at h1 h2
 rcases Jp.1 h1 with h1 | ⟨e1,h1⟩<;>rcases Jp.1 h2 with h2 | ⟨e2,h2⟩
 ·rcases (Qb2 hlt).1 h2 with ⟨_,rfl⟩ | ⟨n1,h2⟩
  ·cases o<;>trivial
  exact (h.rel i o s h1 h2).mono ev.ok ev.same ev.pre ev.shape (fun _ _=>rfl) (fun _ _=>rfl)
 ·have:=(List.getElem?_eq_some_iff.1 h1).1
  simp at e2
  omega
 ·have:=(List.getElem?_eq_some_iff.1 h2).1
  simp at this
  omega
 subst h1
 subst h2
 exact (h.rel id ob r hμ hr).mono ev.ok ev.same ev.pre ev.shape (fun _ _=>rfl) (fun _ _=>rfl)
theorem Qiy (h:Wt X C) {id b:Nat} {r:Row} (hμ:C.μ[id]? = some (some b)) (hr:C.rows[id]? = some r) (hl:r.live=true) (hx:∀ w m,r.ext w m=[]:=by intros;rfl):Qgo X C id b r .gone C.w:=
 ⟨hμ,hr,hl,rfl,rfl,⟨rfl,Nat.le_refl _⟩,rfl,fun _ _=>rfl,fun _ _ k=>⟨_,k,rfl⟩,hx,fun _ _=>rfl⟩
theorem Qw1 (h:Wt X C) {id:Nat} (hμ:C.μ[id]? = some none):Wt X ⟨C.μ,C.rows.set id .gone,C.w⟩/\Ev X C ⟨C.μ,C.rows.set id .gone,C.w⟩:=by
 have Qii:∀ {b:Nat},(⟨C.μ,C.rows.set id .gone,C.w⟩:Qq).live b->C.live b:=by
  rintro b ⟨i,m,s,h1,h2,h3,h4⟩
  simp only [List.getElem?_set] at h2
  split at h2
  ·split at h2
   ·injection h2 with h2;subst h2;cases h3
   cases h2
  exact ⟨i,m,s,h1,h2,h3,h4⟩
 have ev:Ev X C ⟨C.μ,C.rows.set id .gone,C.w⟩:=⟨Nat.le_refl _,fun _ _ _=>rfl,fun _ _ hl k=>hl (Qii k),fun _ _ _ k=>⟨_,k,rfl⟩,fun _ _ hx=>hx⟩
 have Qgh:∀ {i:Nat} {s:Row},(C.rows.set id .gone)[i]? = some s->s≠.gone->C.rows[i]? = some s:=by
  intro i s h2 hg
  simp only [List.getElem?_set] at h2
  split at h2
  ·split at h2
   ·injection h2 with h2;exact absurd h2.symm hg
   cases h2
  exact h2
 refine ⟨⟨by simp [h.len],h.os,h.tape,h.output,h.size,h.keep,h.shape,h.first,h.place, ?_, ?_, ?_, ?_⟩,ev⟩
 ·intro i j b p q h1 h2 h3 h4 h5 h6
  exact h.apart i j b p q h1 h2 (Qgh h3 (by rintro rfl;cases h5)) (Qgh h4 h6) h5 h6
 ·intro i m b p h1 h2 h3
  exact h.Qb4 i m b p h1 (Qgh h2 (by rintro rfl;cases h3)) h3
 ·intro i j m n b p q h1 h2 h3 h4 h5 h6
  exact h.Qb7 i j m n b p q h1 h2 (Qgh h3 (by rintro rfl;cases h5)) (Qgh h4 h6) h5 h6
 intro i o s h1 h2
 by_cases hg:s=.gone
 ·subst hg;cases o<;>trivial
 exact (h.rel i o s h1 (Qgh h2 hg)).mono ev.ok ev.same ev.pre ev.shape (fun _ _=>rfl) (fun _ _=>rfl)
structure Source (C:Qq) (X:Ctx) (k m:Nat) (gs:Nat->List DV) (u:Value) (news:List Value):Prop where
 shape:∃ A c,u=.slice A m c/\(0 < m->∃ ad,A=some ad/\∀ (j:Nat) v,news[j]? = some v->C.w.cell? (ad.add j)=some v)
 len:news.length=m * k
 rel:∀ i,i < m->VRs C.w (C.ok X) (gs i) ((news.drop (i * k)).take k)
 one:∀ v∈news,v.oneCell'=true
theorem Qq8 {vs:Nat->List Value} {k n:Nat} (hk:∀ i,i < n->(vs i).length=k):∃ xs:List Value,xs.length=n * k/\(∀ i j v,i < n->(vs i)[j]? = some v->xs[i * k+j]? = some v)/\(∀ i,i < n->(xs.drop (i * k)).take k=vs i)/\(∀ v∈xs,∃ i,i < n/\v∈vs i):=by
 let ls:=(List.range n).map vs
 have hl:∀ l∈ls,l.length=k:=by
  intro l h
  obtain ⟨i,hi,rfl⟩:=List.mem_map.1 h
  exact hk i (by simpa using hi)
 have hat:∀ i,i < n->ls[i]? = some (vs i):=by
  intro i hi
  simp [ls,hi]
 refine ⟨ls.flatten,by rw [Qo6 hl];simp [ls],fun i j v hi hj=>Qmr hl (hat i hi) hj,fun i hi=>?_,fun v hv=>?_⟩
 ·apply List.ext_getElem?
  intro j
  rw [List.getElem?_take]
  split
  ·rename_i hj
   rw [List.getElem?_drop]
   have hj':j < (vs i).length:=by rw [hk i hi];exact hj
   rw [Qmr hl (hat i hi) (List.getElem?_eq_getElem hj'),List.getElem?_eq_getElem hj']
  rename_i hj
  rw [List.getElem?_eq_none (by rw [hk i hi];omega)]
 obtain ⟨l,h1,h2⟩:=List.mem_flatten.1 hv
 obtain ⟨i,hi,rfl⟩:=List.mem_map.1 h1
 exact ⟨i,by simpa using hi,h2⟩
variable {T:Tab}
set_option maxHeartbeats 1000000 in
theorem Qsl (hT:Qw X.P T) (h:Wt X C) {id k m n by':Nat} {t e ty:TypeId} {z:List Value} {g gs g':Nat->List DV} {v u:Value} {news:List Value}
  (hr:C.rows[id]? = some (.flat false k e n g)) (hv:Zj C.w (C.ok X) C.μ (.own id k 0 n) v) (ht:T.Qbn.lookup t=some e) (hi:T.info.lookup e=some (k,by',z)) (hz:z.length=k) (hk:0 < k)
  (src:Source C X k m gs u news) (hb:(n+m) * by'<=140737488355328) (Qkx:n+m<=9223372036854775807) (h1:∀ i,i < n->g' i=g i) (h2:∀ i,i < m->g' (n+i)=gs i):
  ∃ v' C',(Builtin.append_ #[t,t] ty #[v,u]).run X.P C.w=.ok v' C'.w/\C'.rows=C.rows.set id .gone ++ [.flat false k e (n+m) g']/\Wt X C'/\Ev X C C'/\Zj C'.w (C'.ok X) C'.μ (.own C.rows.length k 0 (n+m)) v':=by
 obtain ⟨i0,hi0,hs0,hb0,hz0⟩:=hT.infoAt hi
 obtain ⟨zv,hzv,hzc⟩:=Option.map_eq_some_iff.1 hz0
 have hu:=hT.slice ht
 obtain ⟨A,c,rfl,Qmw⟩:=src.shape
 have hzs:zv.cells.size=k:=by rw [hzc];simpa using hz
 have hlt:=(List.getElem?_eq_some_iff.1 hr).1
 -- what the new row's cells are
 have Qks:∀ (old:List Value) (cur:Array Value),old.length=n * k->(∀ i,i < n->VRs C.w (C.ok X) (g i) ((old.drop (i * k)).take k))->cur.toList.take ((n+m) * k)=old ++ news ->
   (n+m) * k<=cur.size->∀ (C':Qq),Ev X C C'->∀ b,C'.w.heap[b]? = some (.cells cur e (0,0))->Qbg C'.w (C'.ok X) C'.μ (some b) (.flat false k e (n+m) g'):=by
  intro old cur ho Zb htk hsz C' ev b hh
  have hlen:(old ++ news).length=(n+m) * k:=by rw [List.length_append,ho,src.len,Nat.add_mul]
  refine ⟨cur,fun i=>((old ++ news).drop (i * k)).take k,hh,hsz, ?_, ?_, ?_⟩
  ·intro i hi
   rw [List.length_take,List.length_drop,hlen]
   have:i * k+k<=(n+m) * k:=by rw [<- Nat.succ_mul];exact Nat.mul_le_mul_right k hi
   omega
  ·intro i hi
   show VRs _ _ (g' i) (((old ++ news).drop (i * k)).take k)
   by_cases hin:i < n
   ·rw [h1 i hin]
    have e1:i * k+k<=n * k:=by rw [<- Nat.succ_mul];exact Nat.mul_le_mul_right k hin
    have:((old ++ news).drop (i * k)).take k=(old.drop (i * k)).take k:=by
     rw [List.drop_append_of_le_length (by rw [ho];omega),List.take_append_of_le_length (by rw [List.length_drop,ho];omega)]
    rw [this]
    exact (Zb i hin).mono ev.ok ev.same
   obtain ⟨q,rfl⟩:∃ q,i=n+q:=⟨i - n,by omega⟩
   rw [h2 q (by omega)]
   have:((old ++ news).drop ((n+q) * k)).take k=(news.drop (q * k)).take k:=by
    rw [Nat.add_mul,List.drop_append,List.drop_of_length_le (by rw [ho];omega),List.nil_append,ho,Nat.add_sub_cancel_left]
   rw [this]
   exact (src.rel q (by omega)).mono ev.ok ev.same
  intro i j w hi hj
  have:=Qka hj
  rw [<- htk] at this
  rw [List.getElem?_take] at this
  split at this
  ·simpa using this
  cases this
 have Qs9:∀ (C':Qq) (b c':Nat) (cur:Array Value),C'.μ[C.rows.length]? = some (some b)->C'.w.heap[b]? = some (.cells cur e (0,0))->c' * k=cur.size->n+m<=c'->c'<=maxLen ->
   Zj C'.w (C'.ok X) C'.μ (.own C.rows.length k 0 (n+m)) (.slice (some ⟨b,0,none⟩) (n+m) c'):=by
  intro C' b c' cur e1 e2 e3 e4 e5
  have:=Zj.own (w:=C'.w) (ok:=C'.ok X) (μ:=C'.μ) (off:=0) (k:=k) (n:=n+m) e1 e2 (by rw [Nat.zero_add];exact e3) e4 e5
  rwa [Nat.zero_mul] at this
 -- a new array
 have fresh:∀ (C1:Qq),Wt X C1->Ev X C C1->C1.rows=C.rows.set id .gone->∀ (old:List Value) (q:Nat),q < n+m->old.length=n * k->(∀ i,i < n->VRs C.w (C.ok X) (g i) ((old.drop (i * k)).take k)) ->
   C1.w=C.w->(Builtin.append_ #[t,t] ty #[v,.slice A m c]).run X.P C.w=.ok (.slice (some ⟨C.w.heap.size,0,none⟩) (n+m) (grownCap C.w (n+m) q e))
    (C.w.drew.alloc (.cells (old.toArray ++ news.toArray ++ Builtin.zeroCells zv.cells (grownCap C.w (n+m) q e - (n+m))) e)) ->
   ∃ v' C',(Builtin.append_ #[t,t] ty #[v,.slice A m c]).run X.P C.w=.ok v' C'.w/\C'.rows=C.rows.set id .gone ++ [.flat false k e (n+m) g']/\Wt X C'/\Ev X C C'/\Zj C'.w (C'.ok X) C'.μ (.own C.rows.length k 0 (n+m)) v':=by
  intro C1 hC1 ev1 Qd3 old q hq ho Zb hw Qcx
  have hge:=grownCap_ge C.w (n+m) q e
  have hcm:grownCap C.w (n+m) q e<=maxLen:=grownCap_le_maxLen C.w (n+m) q e (by simp only [maxLen];omega)
  let cur:Array Value:=old.toArray ++ news.toArray ++ Builtin.zeroCells zv.cells (grownCap C.w (n+m) q e - (n+m))
  have hcs:cur.size=grownCap C.w (n+m) q e * k:=by
   simp only [cur,Array.size_append,List.size_toArray,size_zeroCells,hzs,ho,src.len,<- Nat.add_mul]
   congr 1
   omega
  have htk:cur.toList.take ((n+m) * k)=old ++ news:=by
   have hlen:(old ++ news).length=(n+m) * k:=by rw [List.length_append,ho,src.len,Nat.add_mul]
   simp only [cur,Array.toList_append,List.append_assoc]
   rw [<- List.append_assoc,<- hlen]
   exact List.take_left
  have hd:=hC1.drew
  have ev2:=Ev.push hd (.cells cur e) (.flat false k e (n+m) g')
  have ev:=(ev1.trans Ev.drew).trans ev2
  have Qnn:C1.drew.w.heap.size=C.w.heap.size:=by rw [Qq.drew,hw];rfl
  refine ⟨.slice (some ⟨C.w.heap.size,0,none⟩) (n+m) (grownCap C.w (n+m) q e),C1.drew.push (.cells cur e) (.flat false k e (n+m) g'), ?_,by simp [Qq.push,Qq.drew,Qd3],Wt.push hd ?_,ev, ?_⟩
  ·rw [Qcx,Qq.push,Qq.drew,hw]
  ·exact Qks old cur ho Zb htk (by rw [hcs];exact Nat.mul_le_mul_right k hge) _ ev _ (heap_alloc_new _ _)
  refine Qs9 _ C.w.heap.size _ cur ?_ ?_ hcs.symm hge hcm
  ·have:C1.μ.length=C.rows.length:=by rw [hC1.len,Qd3];simp
   simp [Qq.push,<- this,Qnn,Qq.drew]
   rw [hw]
  rw [<- Qnn]
  exact heap_alloc_new _ _
 cases hv with
 | Qbj hμ=>
  obtain ⟨hg1,hg2⟩:=Qw1 h hμ
  by_cases hm:m=0
  ·subst hm
   have hn:news=[]:=List.eq_nil_of_length_eq_zero (by simpa using src.len)
   subst hn
   have Qcx:(Builtin.append_ #[t,t] ty #[.slice none 0 0,.slice A 0 c]).run X.P C.w=.ok (.slice none 0 0) C.w:=by
    cases A<;>simp [Builtin.append_,run_underlying hu,sizeOf,typeInfo,hi0,Builtin.lenOf,Builtin.firstCells,loadCells,loadCellsFrom]
   have hvr:Wt X ((⟨C.μ,C.rows.set id .gone,C.w⟩:Qq).Qcl (.flat false k e 0 g')):=Wt.Qcl hg1 rfl
   refine ⟨_,(⟨C.μ,C.rows.set id .gone,C.w⟩:Qq).Qcl (.flat false k e 0 g'),Qcx,rfl,hvr,hg2.trans (Ev.Qcl hg1 _), ?_⟩
   refine .Qbj ?_
   simp [Qq.Qcl,<- h.len]
  obtain ⟨ad,rfl,Qhw⟩:=Qmw (by omega)
  have hr2:=run_append_nil (P:=X.P) C.w t ty e i0 zv hu hi0 hzv ad m c news (by rw [hs0];exact src.len) Qhw (by omega) (by omega) (by rw [hb0];simp only [Nat.zero_add] at hb;omega)
  refine fresh _ hg1 hg2 rfl [] 0 (by omega) (by simp) (fun i hi=>by omega) rfl ?_
  simpa using hr2
 | own hμ hh hs hn hc=>
  rename_i b cap cur ty'
  simp only [Nat.zero_mul,Nat.zero_add] at hs fresh ⊢
  obtain ⟨cur',vs,e1,e2,e3,e4,e5⟩:=h.rel id _ _ hμ hr
  rw [hh] at e1
  injection e1 with e1
  injection e1 with e1 e1'
  subst e1
  have e1':=e1'.symm
  subst e1'
  obtain ⟨old,o1,o2,o3,o4⟩:=Qq8 e3
  have hold:old=cur.toList.take (n * k):=by
   apply List.ext_getElem?
   intro j
   by_cases hj:j < n * k
   ·have hi':j / k < n:=Nat.div_lt_of_lt_mul (by rwa [Nat.mul_comm] at hj)
    have hjj:j % k < (vs (j / k)).length:=by rw [e3 _ hi'];exact Nat.mod_lt _ hk
    have key:j / k * k+j % k=j:=by rw [Nat.mul_comm];exact Nat.div_add_mod j k
    have a1:=o2 (j / k) (j % k) _ hi' (List.getElem?_eq_getElem hjj)
    have a2:=e5 (j / k) (j % k) _ hi' (List.getElem?_eq_getElem hjj)
    rw [key] at a1 a2
    rw [a1,List.getElem?_take_of_lt hj]
    simpa using a2.symm
   rw [List.getElem?_eq_none (by omega),List.getElem?_eq_none (by simp;omega)]
  have Zb:∀ i,i < n->VRs C.w (C.ok X) (g i) ((old.drop (i * k)).take k):=fun i hi=>by rw [o3 i hi];exact e4 i hi
  by_cases hm:m=0
  ·subst hm
   have hn0:news=[]:=List.eq_nil_of_length_eq_zero (by simpa using src.len)
   subst hn0
   have Qcx:(Builtin.append_ #[t,t] ty #[.slice (some ⟨b,0,none⟩) n cap,.slice A 0 c]).run X.P C.w=.ok (.slice (some ⟨b,0,none⟩) n cap) C.w:=by
    cases A<;>simp [Builtin.append_,run_underlying hu,sizeOf,typeInfo,hi0,Builtin.lenOf,Builtin.firstCells,loadCells,loadCellsFrom,hn,storeCells]
   have tu:Qgo X C id b (.flat false k e n g) (.flat false k e (n+0) g') C.w:=⟨hμ,hr,rfl,rfl,rfl,⟨rfl,Nat.le_refl _⟩,rfl,fun _ _=>rfl,fun _ _ k=>⟨_,k,rfl⟩,fun _ _=>rfl,fun _ _=>rfl⟩
   have ev1:=Ev.Yw h tu
   have hC1:=Wt.Yw h tu (.inl (by simp)) (Qks old cur o1 Zb (by simpa using hold.symm) (by simpa using e2) _ ev1 b hh)
   have hr1:(C.Yw id (.flat false k e (n+0) g') C.w).rows[id]? = some (.flat false k e (n+0) g'):=by simp [Qq.Yw,hlt]
   have hμ1:(C.Yw id (.flat false k e (n+0) g') C.w).μ[id]? = some (some b):=hμ
   refine ⟨.slice (some ⟨b,0,none⟩) n cap,(C.Yw id (.flat false k e (n+0) g') C.w).renew id (some b) (.flat false k e (n+0) g'),Qcx, ?_,Qj7 hC1 hμ1 hr1 rfl,ev1.trans (Qkv hC1 hμ1 hr1), ?_⟩
   ·simp [Qq.renew,Qq.Yw]
   refine Qs9 _ b cap cur ?_ hh hs hn hc
   simp [Qq.renew,Qq.Yw,<- h.len]
  obtain ⟨ad,rfl,Qhw⟩:=Qmw (by omega)
  by_cases Qgt:n+m<=cap
  ·have Qs8:n * i0.size+news.length<=cur.size:=by
    rw [src.len,<- hs,hs0,<- Nat.add_mul]
    exact Nat.mul_le_mul_right _ Qgt
   have Qcx:=run_append_room (P:=X.P) C.w t ty e i0 hu hi0 b n cap cur hh ad m c news (by rw [hs0];exact src.len) Qhw src.one Qgt Qs8
   rw [hs0] at Qcx Qs8
   let Qfl:Array Value:=(cur.toList.take (n * k) ++ news ++ cur.toList.drop (n * k+news.length)).toArray
   have Qkz:Qfl.size=cur.size:=by
    simp only [Qfl,List.size_toArray,List.length_append,List.length_take,List.length_drop,Array.length_toList]
    omega
   have tu:Qgo X C id b (.flat false k e n g) (.flat false k e (n+m) g') (C.w.setRow b Qfl):=Qgf h hμ hr rfl hh Qkz
   have ev1:=Ev.Yw h tu
   have hh2:(C.w.setRow b Qfl).heap[b]? = some (.cells Qfl e (0,0)):=setRow_heap _ _ _ _ _ _ hh
   have htk:Qfl.toList.take ((n+m) * k)=old ++ news:=by
    have hlen:(old ++ news).length=(n+m) * k:=by rw [List.length_append,o1,src.len,Nat.add_mul]
    simp only [Qfl]
    rw [<- hold,<- hlen]
    exact List.take_left
   have hC1:=Wt.Yw h tu (.inl (by simp)) (Qks old Qfl o1 Zb htk (by rw [Qkz,<- hs];exact Nat.mul_le_mul_right k Qgt) _ ev1 b hh2)
   have hr1:(C.Yw id (.flat false k e (n+m) g') (C.w.setRow b Qfl)).rows[id]? = some (.flat false k e (n+m) g'):=by simp [Qq.Yw,hlt]
   have hμ1:(C.Yw id (.flat false k e (n+m) g') (C.w.setRow b Qfl)).μ[id]? = some (some b):=hμ
   refine ⟨.slice (some ⟨b,0,none⟩) (n+m) cap,(C.Yw id (.flat false k e (n+m) g') (C.w.setRow b Qfl)).renew id (some b) (.flat false k e (n+m) g'),Qcx, ?_,Qj7 hC1 hμ1 hr1 rfl,ev1.trans (Qkv hC1 hμ1 hr1), ?_⟩
   ·simp [Qq.renew,Qq.Yw]
   refine Qs9 _ b cap Qfl ?_ hh2 (by rw [Qkz];exact hs) Qgt hc
   simp [Qq.renew,Qq.Yw,<- h.len]
  have Qyy:∀ (j:Nat) v,old[j]? = some v->C.w.cell? ((⟨b,0,none⟩:Addr).add j)=some v:=by
   intro j v hj
   rw [Qgx,Nat.zero_add,cell_of_row _ _ _ _ _ _ hh]
   rw [hold] at hj
   have:=hj
   rw [List.getElem?_take] at this
   split at this
   ·simpa using this
   cases this
  have Qcx:=run_append_grow (P:=X.P) C.w t ty e i0 zv hu hi0 hzv ⟨b,0,none⟩ n cap old (by rw [hs0];exact o1) Qyy ad m c news (by rw [hs0];exact src.len) Qhw (by omega) (by omega) (growslice_fits (by omega) (by rw [hb0];exact hb))
  have tu:=Qiy h hμ hr rfl
  have ev1:=Ev.Yw h tu
  have hC1:=Wt.Yw h tu (.inr rfl) trivial
  exact fresh _ hC1 ev1 rfl old cap (by omega) o1 Zb rfl Qcx
end
end Go.Sy
