/- Entering a function, coming back from it, calling. -/
import Derived.Test.YtdndobkfnmommaaGreatSyF
set_option linter.unusedSectionVars false
set_option linter.unusedVariables false
set_option linter.unusedSimpArgs false
namespace Go.Sy
mutual
inductive NL:DV->Prop
 | v (x:Value):NL (.v x)
 | agg {xs:List DV} (h:NLs xs):NL (.agg xs)
 | sl {n:Nat} {g:Nat->List DV} (h:∀ i,i < n->NLs (g i)):NL (.sl true n g)
 | sl0 (t:Bool) (g:Nat->List DV):NL (.sl t 0 g)
 | rop {n:Nat} {g:Nat->List DV} {i off:Nat} (h:∀ i,i < n->NLs (g i)):NL (.rop true n g i off)
 | fn {f:FuncId} {xs:List DV} (h:NLs xs):NL (.fn f xs)
 | ifc {t:TypeId} {x:DV} (h:NL x):NL (.ifc t x)
inductive NLs:List DV->Prop
 | nil:NLs []
 | cons {x:DV} {xs:List DV} (h:NL x) (hs:NLs xs):NLs (x :: xs)
end
mutual
inductive NA:AV->Prop
 | d {x:DV} (h:NL x):NA (.d x)
 | agg {xs:List AV} (h:NAs xs):NA (.agg xs)
 | Qn {xs:List AV} (h:NAs xs):NA (.Qn xs)
 | own (id k off n:Nat):NA (.own id k off n)
 | ptr (id k i off:Nat):NA (.ptr id k i off)
 | win (id off n:Nat):NA (.win id off n)
 | fn {f:FuncId} {xs:List AV} (h:NAs xs):NA (.fn f xs)
 | ifc {t:TypeId} {x:AV} (h:NA x):NA (.ifc t x)
inductive NAs:List AV->Prop
 | nil:NAs []
 | cons {x:AV} {xs:List AV} (h:NA x) (hs:NAs xs):NAs (x :: xs)
end
inductive NR:Row->Prop
 | flat {fz:Bool} {k:Nat} {ty:TypeId} {n:Nat} {g:Nat->List DV} (h:∀ i,i < n->NLs (g i)):NR (.flat fz k ty n g)
 | box {ty:TypeId} {cs:List AV} (h:NAs cs):NR (.box ty cs)
 | mix {k:Nat} {ty:TypeId} {n:Nat} {g:Nat->List AV} (h:∀ i,i < n->NAs (g i)):NR (.mix k ty n g)
 | gone:NR .gone
 | loop {l:Nat} {s:LoopState} {fn:FuncId} {nt:Nat} {is:List Nat} {xs:List AV} {ps:Array Tmp} {asg body:Code} (h:NAs xs):NR (.loop l s fn nt is xs ps asg body)
 | dfr (D:Nat):NR (.dfr D)
 | obj (o:Qip):NR (.obj o)
section
variable {w:World} {ok okr:Bool->Nat->Prop} {μ:List (Option Nat)} (Jg:∀ b,ok true b->okr true b)
include Jg
mutual
theorem VR.perm:∀ {x:DV} {v:Value},VR w ok x v->NL x->VR w okr x v
 | _,_,.v h,_=>.v h
 | _,_,.agg h,.agg k=>.agg (VRs.perm h k)
 | _,_,.sl0,_=>.sl0
 | _,_,.sl k vs h0 hc ho hl hr hm,.sl q=>.sl k vs h0 hc (Jg _ ho) hl (fun i hi=>VRs.perm (hr i hi) (q i hi)) hm
 | _,_,.sl k vs h0 hc ho hl hr hm,.sl0 _ _=>absurd h0 (Nat.lt_irrefl 0)
 | _,_,.rop k vs hi ho hl hr hm,.rop q=>.rop k vs hi (Jg _ ho) hl (fun i hi=>VRs.perm (hr i hi) (q i hi)) hm
 | _,_,.fn h,.fn k=>.fn (VRs.perm h k)
 | _,_,.ifc h,.ifc k=>.ifc (VR.perm h k)
theorem VRs.perm:∀ {x:List DV} {v:List Value},VRs w ok x v->NLs x->VRs w okr x v
 | _,_,.nil,_=>.nil
 | _,_,.cons h1 h hs,.cons k ks=>.cons h1 (VR.perm h k) (VRs.perm hs ks)
end
mutual
theorem Js.perm:∀ {x:AV} {v:Value},Js w ok μ x v->NA x->Js w okr μ x v
 | _,_,.d h,.d k=>.d (VR.perm Jg h k)
 | _,_,.agg h,.agg k=>.agg (Qak.perm h k)
 | _,_,.Qn h,.Qn k=>.Qn (Qbf.perm h k)
 | _,_,.Qce h,_=>.Qce h
 | _,_,.own h h1 h2 h3 h4,_=>.own h h1 h2 h3 h4
 | _,_,.ptr h,_=>.ptr h
 | _,_,.win h h1 h2,_=>.win h h1 h2
 | _,_,.fn h,.fn k=>.fn (Qak.perm h k)
 | _,_,.ifc h,.ifc k=>.ifc (Js.perm h k)
theorem Qak.perm:∀ {x:List AV} {v:List Value},Qak w ok μ x v->NAs x->Qak w okr μ x v
 | _,_,.nil,_=>.nil
 | _,_,.cons h1 h hs,.cons k ks=>.cons h1 (Js.perm h k) (Qak.perm hs ks)
theorem Qbf.perm:∀ {x:List AV} {v:List Value},Qbf w ok μ x v->NAs x->Qbf w okr μ x v
 | _,_,.nil,_=>.nil
 | _,_,.cons h hs,.cons k ks=>.cons (Js.perm h k) (Qbf.perm hs ks)
end
theorem Qbm.perm {ob:Option Nat} {r:Row} (h:Qbm w ok μ ob r) (hr:NR r):Qbm w okr μ ob r:=by
 cases ob with
 | none=>cases r<;>first | exact h | exact Qip.perm _ Jg h
 | some b=>
  cases hr with
  | gone=>trivial
  | loop k=>
   obtain ⟨h0,T,D,vs,h1,h2,h3,h4⟩:=h
   exact ⟨h0,T,D,vs,h1,h2,Qbf.perm Jg h3 k,h4⟩
  | dfr D=>exact h
  | obj o=>exact o.perm Jg h
  | flat k=>
   obtain ⟨cs,vs,h1,h2,h3,h4,h5⟩:=h
   exact ⟨cs,vs,h1,h2,h3,fun i hi=>VRs.perm Jg (h4 i hi) (k i hi),h5⟩
  | mix k=>
   obtain ⟨cs,vs,h1,h2,h3,h4,h5⟩:=h
   exact ⟨cs,vs,h1,h2,h3,fun i hi=>Qak.perm Jg (h4 i hi) (k i hi),h5⟩
  | box k=>
   obtain ⟨vs,h1,h2⟩:=h
   exact ⟨vs,h1,Qak.perm Jg h2 k⟩
end
inductive Sel (rows:List Row) (ρ:Nat->Nat):List Nat->List Row->Prop
 | nil:Sel rows ρ [] []
 | cons {id:Nat} {r:Row} {Yx:List Nat} {rs:List Row} (h:rows[id]? = some (Qc7 ρ r)) (hs:Sel rows ρ Yx rs):Sel rows ρ (id :: Yx) (r :: rs)
theorem Sel.len {rows:List Row} {ρ:Nat->Nat}:∀ {Yx:List Nat} {rs:List Row},Sel rows ρ Yx rs->Yx.length=rs.length
 | _,_,.nil=>rfl
 | _,_,.cons _ hs=>by simp [Sel.len hs]
theorem Sel.at_ {rows:List Row} {ρ:Nat->Nat}:∀ {Yx:List Nat} {rs:List Row},Sel rows ρ Yx rs->∀ {j:Nat} {r:Row},rs[j]? = some r->∃ id,Yx[j]? = some id/\rows[id]? = some (Qc7 ρ r)
 | _,_,.nil,_,_,h=>by simp at h
 | _,_,.cons h hs,0,_,e=>by simp at e;subst e;exact ⟨_,rfl,h⟩
 | _,_,.cons h hs,j+1,_,e=>by simpa using Sel.at_ hs (by simpa using e)
def Qcg (Yx:List Nat) (N:Nat) (j:Nat):Nat:=Yx.getD j N
section
variable {X:Ctx} {C:Wp} {Yx:List Nat} {rs:List Row}
def Qc8 (C:Wp) (Yx:List Nat) (rs:List Row):Wp:=⟨Yx.map fun i=>(C.μ[i]?).getD none,rs,C.w⟩
structure Qi8 (X:Ctx) (C:Wp) (Yx:List Nat) (rs:List Row):Prop where
 is:Sel C.rows (Qcg Yx C.rows.length) Yx rs
 nodup:Yx.Nodup
 first:∀ j,j < X.μ0.length->Yx[j]? = some j
theorem Qpn (h:Xp X C) (p:Qi8 X C Yx rs) {j:Nat} {x:Option Nat}:(Qc8 C Yx rs).μ[j]? = some x↔∃ id,Yx[j]? = some id/\C.μ[id]? = some x:=by
 simp only [Qc8,List.getElem?_map,Option.map_eq_some_iff]
 constructor
 ·rintro ⟨id,h1,h2⟩
  refine ⟨id,h1, ?_⟩
  have hj:=(List.getElem?_eq_some_iff.1 h1).1
  rw [p.is.len] at hj
  obtain ⟨id',e1,e2⟩:=p.is.at_ (List.getElem?_eq_getElem hj)
  rw [h1] at e1
  injection e1 with e1
  subst e1
  obtain ⟨y,hy⟩:=h.Qd8 e2
  rw [hy] at h2 ⊢
  simpa using h2
 rintro ⟨id,h1,h2⟩
 exact ⟨id,h1,by simp [h2]⟩
theorem Qxe (h:Xp X C) (p:Qi8 X C Yx rs) {j:Nat} {x:Option Nat} (e:C.μ[Qcg Yx C.rows.length j]? = some x):(Qc8 C Yx rs).μ[j]? = some x:=by
 rw [Qpn h p]
 by_cases hj:j < Yx.length
 ·refine ⟨Yx[j],List.getElem?_eq_getElem hj, ?_⟩
  simpa [Qcg,List.getD_eq_getElem?_getD,List.getElem?_eq_getElem hj] using e
 have:=(List.getElem?_eq_some_iff.1 e).1
 simp only [Qcg,List.getD_eq_getElem?_getD,List.getElem?_eq_none (Nat.le_of_not_lt hj),Option.getD_none] at this
 have:=h.len
 omega
theorem Wgd (h:Xp X C) (p:Qi8 X C Yx rs) {b:Nat} (e:(Qc8 C Yx rs).live b):C.live b:=by
 obtain ⟨j,m,r,h1,h2,h3,h4⟩:=e
 obtain ⟨id,e1,e2⟩:=(Qpn h p).1 h1
 obtain ⟨id',e3,e4⟩:=p.is.at_ h2
 rw [e1] at e3
 injection e3 with e3
 subst e3
 exact ⟨id,m,_,e2,e4,by rw [Qey];exact h3,(Qi4 _ _ _ _ _).2 h4⟩
theorem Qpo (h:Xp X C) (p:Qi8 X C Yx rs):∀ t b,C.ok X t b->(Qc8 C Yx rs).ok X t b:=fun _ _ ⟨h1,h2,h3⟩=>⟨h1,fun e=>h2 (Wgd h p e),h3⟩
theorem Qm8 (h:Xp X C) (p:Qi8 X C Yx rs):Xp X (Qc8 C Yx rs):=by
 have hat:∀ {j:Nat} {x:Option Nat} {r:Row},(Qc8 C Yx rs).μ[j]? = some x->rs[j]? = some r->∃ id,Yx[j]? = some id/\C.μ[id]? = some x/\C.rows[id]? = some (Qc7 (Qcg Yx C.rows.length) r):=by
  intro j x r h1 h2
  obtain ⟨id,e1,e2⟩:=(Qpn h p).1 h1
  obtain ⟨id',e3,e4⟩:=p.is.at_ h2
  rw [e1] at e3
  injection e3 with e3
  subst e3
  exact ⟨id,e1,e2,e4⟩
 refine ⟨by simp [Qc8,p.is.len],h.os,h.tape,h.output,h.size,h.keep,h.shape, ?_, ?_, ?_, ?_, ?_, ?_⟩
 ·intro j x hx
  have hj:=(List.getElem?_eq_some_iff.1 hx).1
  exact (Qpn h p).2 ⟨j,p.first j hj,h.first j x hx⟩
 ·intro j b hb
  obtain ⟨id,e1,e2⟩:=(Qpn h p).1 hb
  exact h.place id b e2
 ·intro i j b r s h1 h2 h3 h4 h5 h6
  obtain ⟨id,e1,e2,e3⟩:=hat h1 h3
  obtain ⟨jd,f1,f2,f3⟩:=hat h2 h4
  have:=h.apart id jd b _ _ e2 f2 e3 f3 (by rw [Qey];exact h5) (by rw [ne_eq,Qhe];exact h6)
  subst this
  exact (List.getElem?_inj (List.getElem?_eq_some_iff.1 e1).1 p.nodup).1 (e1.trans f1.symm)
 ·intro i m b r h1 h2 h3
  obtain ⟨id,e1,e2,e3⟩:=hat h1 h2
  exact h.Qbh id m b _ e2 e3 (by rw [Qel];exact h3)
 ·intro i j m n b r s h1 h2 h3 h4 h5 h6
  obtain ⟨id,e1,e2,e3⟩:=hat h1 h3
  obtain ⟨jd,f1,f2,f3⟩:=hat h2 h4
  have:=h.Qa0 id jd m n b _ _ e2 f2 e3 f3 (by rw [Qel];exact h5) (by rw [ne_eq,Qhe];exact h6)
  refine ⟨this.1,fun h7=>?_⟩
  have:=this.2 (by rw [Qel];exact h7)
  subst this
  exact (List.getElem?_inj (List.getElem?_eq_some_iff.1 e1).1 p.nodup).1 (e1.trans f1.symm)
 intro j ob r h1 h2
 obtain ⟨id,e1,e2,e3⟩:=hat h1 h2
 exact (h.rel id ob _ e2 e3).Qfn (Qpo h p) (fun _ _ e=>Qxe h p e)
theorem Qpm (h:Xp X C) (p:Qi8 X C Yx rs) {av:AV} {v:Value} (k:Js C.w (C.ok X) C.μ (Qdk (Qcg Yx C.rows.length) av) v):Js C.w ((Qc8 C Yx rs).ok X) (Qc8 C Yx rs).μ av v:=
 k.Qfn (Qpo h p) (fun _ _ e=>Qxe h p e)
end
theorem Wg8 {X:Ctx} {f:FuncId} {k:List Item} {Q:Frame->Frame->Wp->Prop} {st:St} (Yx:List Nat) (rs:List Row) (tm:List (Nat × AV)) (hs:Sel st.rows (Qcg Yx st.rows.length) Yx rs) (hn:Yx.Nodup)
  (h0:Yx.take X.μ0.length=List.range X.μ0.length) (ht:∀ i av,tm.lookup i=some av->st.tm.lookup i=some (Qdk (Qcg Yx st.rows.length) av)) (h:AK X f k Q { nt:=st.nt,tm:=tm,rows:=rs }):AK X f k Q st:=by
 intro a C hC b cs hb hk
 have p:Qi8 X C Yx rs:=by
  refine ⟨by rw [hC.rows];exact hs,hn,fun j hj=>?_⟩
  have:(Yx.take X.μ0.length)[j]? = some j:=by rw [h0];simp [hj]
  rw [List.getElem?_take_of_lt hj] at this
  exact this
 refine h a (Qc8 C Yx rs) ⟨Qm8 hC.rel p,rfl,hC.defers,hC.nt,fun i av e=>?_⟩ b cs hb hk
 obtain ⟨v,h1,h2⟩:=hC.tm i _ (ht i av e)
 rw [<- hC.rows] at h2
 exact ⟨v,h1,Qpm hC.rel p h2⟩
def Qk4 (tm:List (Nat × AV)):List ResultVar->Option AV
 | [.tmp t]=>tm.lookup t
 | [.tmp t,.tmp u]=>
  match tm.lookup t,tm.lookup u with
  | some a,some b=>some (.Qn [a,b])
  | _,_=>none
 | [.tmp t,.tmp u,.tmp v]=>
  match tm.lookup t,tm.lookup u,tm.lookup v with
  | some a,some b,some c=>some (.Qn [a,b,c])
  | _,_,_=>none
 | []=>some (.Qn [])
 | _=>none
theorem Qpk {X:Ctx} {st:St} {a:Act} {C:Wp} (h:Sim X st a C) {fn:Func} {av:AV} (e:Qk4 st.tm fn.results.toList=some av):
  ∃ v,(results fn a.tmps).run X.P C.w=.ok v C.w/\Js C.w (C.ok X) C.μ av v:=by
 have hr:fn.results=fn.results.toList.toArray:=by simp
 generalize fn.results.toList=l at e hr
 have get:∀ {t:Nat} {x:AV},st.tm.lookup t=some x->Js C.w (C.ok X) C.μ x (a.tmps.getD t undef):=by
  intro t x ht
  obtain ⟨v,h1,h2⟩:=h.tm t x ht
  simpa [Array.getD_eq_getD_getElem?,h1] using h2
 unfold Qk4 at e
 split at e
 ·exact ⟨_,by simp [results,hr],get e⟩
 ·split at e
  ·rename_i x y hx hy
   injection e with e
   subst e
   exact ⟨_,by simp [results,hr],.Qn (.cons (get hx) (.cons (get hy) .nil))⟩
  cases e
 ·split at e
  ·rename_i x y z hx hy hz
   injection e with e
   subst e
   exact ⟨_,by simp [results,hr],.Qn (.cons (get hx) (.cons (get hy) (.cons (get hz) .nil)))⟩
  cases e
 ·injection e with e
  subst e
  exact ⟨_,by simp [results,hr],.Qn .nil⟩
 cases e
def Yt (X:Ctx) (Wj:List Row) (ret:AV) (_ fr:Frame) (C:Wp):Prop:=∃ v,C.rows=Wj/\Jt X C ret v/\fr.leaving X.P C.w (.returned v)
theorem Qsu {X:Ctx} {f:FuncId} {fn:Func} {Wj:List Row} {ret av:AV} {st:St} {k:List Item} (hf:X.P.funcs[f]? = some fn) (e:Qk4 st.tm fn.results.toList=some av)
  (Yx:List Nat) (hs:Sel st.rows (Qcg Yx st.rows.length) Yx Wj) (hn:Yx.Nodup) (h0:Yx.take X.μ0.length=List.range X.μ0.length) (Qhx:av=Qdk (Qcg Yx st.rows.length) ret)
  (nr:∀ r∈Wj,NR r) (na:NA ret)
  (Ye:∀ (a:Act) (C:Wp),a.defers=X.ds->∀ (b:Frame) (cs:List Frame),b.fn=f->(b.kind=.normal/\b.roundOf=X.rnd)->∃ fr,Steps X.P (lone (b.atR a k) cs C.w) (lone fr cs C.w)/\fr.fn=f/\fr.mode=.returning/\fr.defers=[]/\fr.kind=.normal/\fr.tmps=a.tmps):
  AK X f k (Yt X Wj ret) st:=by
 intro a C hC b cs hb hk
 obtain ⟨v,h1,h2⟩:=Qpk hC e
 have p:Qi8 X C Yx Wj:=by
  refine ⟨by rw [hC.rows];exact hs,hn,fun j hj=>?_⟩
  have:(Yx.take X.μ0.length)[j]? = some j:=by rw [h0];simp [hj]
  rw [List.getElem?_take_of_lt hj] at this
  exact this
 obtain ⟨fr,s1,s2,s3,s4,s5,s6⟩:=Ye a C hC.defers b cs hb hk
 have Yo:=Qm8 hC.rel p
 have Qlt:∀ b,(Qc8 C Yx Wj).ok X true b->(Qc8 C Yx Wj).okR X true b:=fun _ h=>⟨rfl,h⟩
 refine ⟨Qc8 C Yx Wj,fr,⟨v,rfl,⟨Yo, ?_, ?_⟩,s3,s4,s5,fn,by rw [s2];exact hf,by rw [s6];exact h1⟩,s1,s2⟩
 ·intro id ob r e1 e2
  exact (Yo.rel id ob r e1 e2).perm Qlt (nr r (List.mem_of_getElem? e2))
 rw [Qhx,<- hC.rows] at h2
 exact (Qpm hC.rel p h2).perm Qlt na
theorem Qee {X:Ctx} {f:FuncId} {fn:Func} {Wj:List Row} {ret av:AV} {st:St} {k:List Item} (hf:X.P.funcs[f]? = some fn) (hX:X.ds=[]/\X.rnd=none) (e:Qk4 st.tm fn.results.toList=some av)
  (Yx:List Nat) (hs:Sel st.rows (Qcg Yx st.rows.length) Yx Wj) (hn:Yx.Nodup) (h0:Yx.take X.μ0.length=List.range X.μ0.length) (Qhx:av=Qdk (Qcg Yx st.rows.length) ret)
  (nr:∀ r∈Wj,NR r) (na:NA ret):AK X f (.code .ret :: k) (Yt X Wj ret) st:=
 Qsu hf e Yx hs hn h0 Qhx nr na fun a C hd b cs hb hk=>⟨_,.one (stepR_ret (hk.2.trans hX.2)),hb,rfl,hd.trans hX.1,hk.1,rfl⟩
theorem Wbh {X:Ctx} {f:FuncId} {fn:Func} {Wj:List Row} {ret av:AV} {st:St} (hf:X.P.funcs[f]? = some fn) (hX:X.ds=[]/\X.rnd=none) (e:Qk4 st.tm fn.results.toList=some av)
  (Yx:List Nat) (hs:Sel st.rows (Qcg Yx st.rows.length) Yx Wj) (hn:Yx.Nodup) (h0:Yx.take X.μ0.length=List.range X.μ0.length) (Qhx:av=Qdk (Qcg Yx st.rows.length) ret)
  (nr:∀ r∈Wj,NR r) (na:NA ret):AK X f [] (Yt X Wj ret) st:=
 Qsu hf e Yx hs hn h0 Qhx nr na fun a C hd b cs hb hk=>⟨_,.one (stepR_end (hk.2.trans hX.2)),hb,rfl,hd.trans hX.1,hk.1,rfl⟩
def Ctx.plain (X:Ctx):Ctx:={ X with ds:=[],rnd:=none }
theorem Xp.plain {X:Ctx} {C:Wp} (h:Xp X C):Xp X.plain C:=⟨h.len,h.os,h.tape,h.output,h.size,h.keep,h.shape,h.first,h.place,h.apart,h.Qbh,h.Qa0,h.rel⟩
theorem Xp.Qy0 {X:Ctx} {C:Wp} (h:Xp X.plain C):Xp X C:=⟨h.len,h.os,h.tape,h.output,h.size,h.keep,h.shape,h.first,h.place,h.apart,h.Qbh,h.Qa0,h.rel⟩
def Qjy:Nat->List AV->List (Nat × AV)
 | _,[]=>[]
 | i,x :: xs=>(i,x) :: Qjy (i+1) xs
theorem Qnq:∀ {xs:List AV} {j i:Nat} {av:AV},(Qjy j xs).lookup i=some av->j<=i/\xs[i - j]? = some av
 | [],_,_,_,h=>by simp [Qjy] at h
 | x :: xs,j,i,av,h=>by
  simp only [Qjy,List.lookup_cons] at h
  split at h
  ·rename_i e
   have e:i=j:=by simpa using e
   subst e
   injection h with h
   subst h
   simp
  rename_i e
  obtain ⟨h1,h2⟩:=Qnq h
  have:i - j=i - (j+1)+1:=by omega
  exact ⟨by omega,by rw [this];simpa using h2⟩
theorem Qbf.length {w:World} {ok:Bool->Nat->Prop} {μ:List (Option Nat)}:∀ {xs:List AV} {vs:List Value},Qbf w ok μ xs vs->xs.length=vs.length
 | _,_,.nil=>rfl
 | _,_,.cons _ hs=>by simp [Qbf.length hs]
theorem Yc {P:Program} {f:FuncId} {fn:Func} {c:Code} {Xr Wj:List Row} {args:List AV} {ret:AV} {nt:Nat} (hf:P.funcs[f]? = some fn) (hb:fn.body=some c) (hn:fn.ntmps=nt) (hl:args.length<=nt)
  (h:∀ X:Ctx,X.P=P->X.μ0.length=Xr.length->(X.ds=[]/\X.rnd=none)->AK X f [.code c] (Yt X Wj ret) { nt:=nt,tm:=Qjy 0 args,rows:=Xr }):Yy P f Xr args Wj ret:=by
 intro X vs hP hX Yo Qeb cs
 have hvl:=Qeb.length
 have Wfn:Frame.enter P f vs.toArray .normal =
   ({ (default:Frame) with fn:=f,kind:=.normal,roundOf:=none }:Frame).atR { tmps:=vs.toArray ++ Array.replicate (fn.ntmps - vs.toArray.size) undef,defers:=[] } [.code c]:=by
  simp [Frame.enter,Frame.atR,hf,hb]
 have hrel':Xp X.plain ⟨X.μ0,Xr,X.w0⟩:=Yo.plain
 obtain ⟨C',fr,⟨v,hq1,hq2,h4⟩,h2,h3⟩:=h X.plain hP Yo.len ⟨rfl,rfl⟩ { tmps:=vs.toArray ++ Array.replicate (fn.ntmps - vs.toArray.size) undef,defers:=[] } ⟨X.μ0,Xr,X.w0⟩
  ⟨hrel',rfl,rfl,by simp [hn];omega,fun i av e=>by
   obtain ⟨_,e2⟩:=Qnq e
   obtain ⟨u,h1,h2⟩:=Qeb.at_ e2
   have hi:=(List.getElem?_eq_some_iff.1 h1).1
   refine ⟨u, ?_,h2⟩
   rw [Array.getElem?_append_left (by simpa using hi)]
   simpa using h1⟩ { (default:Frame) with fn:=f,kind:=.normal,roundOf:=none } cs rfl ⟨rfl,rfl⟩
 subst hP
 rw [<- Wfn] at h2
 obtain ⟨μ',rows',w'⟩:=C'
 simp only at hq1
 subst hq1
 exact ⟨.returned v,w',fr,⟨v,μ',rfl,⟨hq2.rel.Qy0,hq2.rows,hq2.ret⟩⟩,h2,h3,h4⟩
def Qkh (st:St):List Item->Option (FuncId × List AV × Option Tmp × List Item)
 | .inRegion ops (i :: rest) :: k=>
  match ops[i]? with
  | some o=>
   match o.op with
   | .call c=>
    match c.callee with
    | .value g=>
     match guardOf st.tm ops o,valOf st.tm g,mapVal (valOf st.tm) c.args.toList with
     | some true,some (.fn fid caps),some xs=>some (fid,xs ++ caps,o.dst,.inRegion ops rest :: k)
     | some true,some (.d (.fn fid caps)),some xs=>some (fid,xs ++ caps.map .d,o.dst,.inRegion ops rest :: k)
     | _,_,_=>none
    | _=>none
   | _=>none
  | none=>none
 | _=>none
theorem Qbf.append {w:World} {ok:Bool->Nat->Prop} {μ:List (Option Nat)}:∀ {xs ys:List AV} {vs us:List Value},Qbf w ok μ xs vs->Qbf w ok μ ys us->Qbf w ok μ (xs ++ ys) (vs ++ us)
 | _,_,_,_,.nil,k=>k
 | _,_,_,_,.cons h hs,k=>.cons h (Qbf.append hs k)
theorem Qak.toL {w:World} {ok:Bool->Nat->Prop} {μ:List (Option Nat)}:∀ {xs:List AV} {vs:List Value},Qak w ok μ xs vs->Qbf w ok μ xs vs
 | _,_,.nil=>.nil
 | _,_,.cons _ h hs=>.cons h (Qak.toL hs)
def Enters (P:Program) (g:FuncId):Prop:=∀ (args:Array Value) (w:World),(callFunc g args).run P w=.ok (.enter g args) w
theorem Xg {P:Program} {g:FuncId} {fn:Func} (hf:P.funcs[g]? = some fn) (hn:(fn.name == "runtime.NumGoroutine")=false) (hb:fn.body.isNone=false):Enters P g:=by
 intro args w
 simp only [callFunc,Sem.run_bind,run_program,Result.andThen_ok,hf,hn,hb]
 rfl
def Qpy {γ:Type} (P:Program) (f:FuncId) (Xr:List Row) (args:List AV) (G:γ->Prop) (Wj:γ->List Row) (ret:γ->AV):Prop:=
 ∀ (X:Ctx) (vs:List Value),X.P=P->X.Fits->Xp X ⟨X.μ0,Xr,X.w0⟩->Qbf X.w0 ((⟨X.μ0,Xr,X.w0⟩:Wp).ok X) X.μ0 args vs ->
  Calls P f vs.toArray X.w0 fun e w'=>∃ g v μ',G g/\e=.returned v/\Jt X ⟨μ',Wj g,w'⟩ (ret g) v
theorem Qv5 {γ:Type} {X:Ctx} {f:FuncId} {k k':List Item} {Q:Frame->Frame->Wp->Prop} {st:St} {G:γ->Prop} {st':γ->St} (h:∀ g,G g->AK X f k' Q (st' g))
  (hs:∀ a C,Sim X st a C->∀ (b:Frame) (cs:List Frame),b.fn=f->∃ g a' C',G g/\Sim X (st' g) a' C'/\Steps X.P (lone (b.atR a k) cs C.w) (lone (b.atR a' k') cs C'.w)):AK X f k Q st:=by
 intro a C hC b cs hb hk
 obtain ⟨g,a',C',hg,h1,h2⟩:=hs a C hC b cs hb
 obtain ⟨C2,fr,q,h3,h4⟩:=h g hg a' C' h1 b cs hb hk
 exact ⟨C2,fr,q,h2.trans h3,h4⟩
theorem Qt0 {γ:Type} {X:Ctx} {P:Program} {f g:FuncId} {k k':List Item} {Q:Frame->Frame->Wp->Prop} {st:St} {G:γ->Prop} {st':γ->St} {Yk args:List AV} {dst:Option Tmp} (ids:List Nat) {Xr:List Row} {Wj:γ->List Row} {ret:γ->AV}
  (hP:X.P=P) (he:Enters P g) (hs:Qpy P g Xr args G Wj ret)
  (e:Qkh st k=some (g,Yk,dst,k')) (hh:Qbo st.rows ids Xr) 
  (hp:∀ (C:Wp) (vs:List Value),Xp X C->C.rows=st.rows->Qbf C.w (C.ok X) C.μ Yk vs->Qbf C.w ((Qcf X C ids Xr).ok (Jz X C ids)) (Jz X C ids).μ0 args vs)
  (Qcd:∀ x,St.put { st with rows:=Qbx st.rows ids (Wj x) } dst (Qdk (Qaq ids st.rows.length) (ret x))=some (st' x)) (h:∀ x,G x->AK X f k' Q (st' x)):AK X f k Q st:=by
 subst hP
 unfold Qkh at e
 split at e
 ·rename_i ops i rest k0
  split at e
  ·rename_i o ho
   split at e
   ·rename_i c hc
    split at e
    ·rename_i gv hg
     refine Qv5 h fun a C hC b cs _=>?_
     have Qhi:∃ vs,(execOp a.eval o).run X.P C.w=.ok (.enter g vs.toArray) C.w/\Qbf C.w (C.ok X) C.μ Yk vs/\guardOf st.tm ops o=some true/\o.dst=dst/\k'=.inRegion ops rest :: k0:=by
      have key:∀ (fid:FuncId) (caps:Array Value),a.eval gv=.func (.func fid) #[] caps->fid=g->(execOp a.eval o).run X.P C.w=.ok (.enter g (c.args.map a.eval ++ caps)) C.w:=by
       rintro fid caps hv rfl
       simp only [execOp,hc,resolve,hg,hv,Deferred.ofValue,Sem.run_bind,Sem.run_pure,Result.andThen_ok,invoke]
       rw [he]
       simp
      split at e
      ·rename_i fid caps xs h1 h2 h3
       injection e with e;injection e with e1 e;injection e with e2 e;injection e with e3 e4
       subst e1;subst e2
       have hv:=hC.val _ _ h2
       obtain ⟨cs,hcs,hr⟩:∃ cs,a.eval gv=.func (.func fid) #[] cs.toArray/\Qak C.w (C.ok X) C.μ caps cs:=by
        generalize a.eval gv=u at hv
        cases hv with
        | fn hv=>exact ⟨_,rfl,hv⟩
       refine ⟨c.args.toList.map a.eval ++ cs, ?_,(Qk3 hC.val h3).append hr.toL,h1,e3,e4.symm⟩
       rw [key fid cs.toArray hcs rfl]
       congr 2
       exact Array.ext' (by simp)
      ·rename_i fid caps xs h1 h2 h3
       injection e with e;injection e with e1 e;injection e with e2 e;injection e with e3 e4
       subst e1;subst e2
       have hv:=hC.val _ _ h2
       obtain ⟨cs,hcs,hr⟩:∃ cs,a.eval gv=.func (.func fid) #[] cs.toArray/\VRs C.w (C.ok X) caps cs:=by
        generalize a.eval gv=u at hv
        cases hv with
        | d hv=>
         cases hv with
         | fn hv=>exact ⟨_,rfl,hv⟩
       refine ⟨c.args.toList.map a.eval ++ cs, ?_,(Qk3 hC.val h3).append (hr.toA).toL,h1,e3,e4.symm⟩
       rw [key fid cs.toArray hcs rfl]
       congr 2
       exact Array.ext' (by simp)
      cases e
     obtain ⟨vs,hx,Qeb,hgd,Wfm,rfl⟩:=Qhi
     subst Wfm
     rw [<- hC.rows] at hh Qcd
     have Qnx:=hs (Jz X C ids) vs rfl (Qlm hC.rel hh) (Qm4 hC.rel hh) (hp C vs hC.rel hC.rows Qeb)
     obtain ⟨e,w',fr,⟨x,v,μ',hx0,rfl,hd⟩,Qhy,_,Qo6⟩:=Qnx (b.atR a (.inRegion ops (i :: rest) :: k0) :: cs)
     have hgg:=stepGR_op (P:=X.P) (b:=b) (k:=k0) (cs:=cs) (w:=C.w) (rest:=rest) ho (Qeg hC hgd)
     rw [Oper.semAt_eq _ _ _ (by intro c' hc';rw [hc] at hc';cases hc')] at hgg
     have Qjc:step X.P (lone (b.atR a (.inRegion ops (i :: rest) :: k0)) cs C.w)=.next (lone (Frame.enter X.P g vs.toArray .normal) (b.atR a (.inRegion ops (i :: rest) :: k0) :: cs) C.w):=
      step_lone_go (by rw [hgg];simp [stepG.apply,hx,Frame.atR])
     have Qd1:(b.atR a (.inRegion ops (i :: rest) :: k0)).finish v=b.atR (a.put o.dst v) (.inRegion ops rest :: k0):=by
      rw [Frame.finish_atR,ho];rfl
     have Qfi:Sim X { st with rows:=(Qa5 C ids μ' (Wj x) w').rows } a (Qa5 C ids μ' (Wj x) w'):=hC.Qdl (Qld hC.rel hh hd.rel) (Qll hC.rel hh hd)
     refine ⟨x,_,Qa5 C ids μ' (Wj x) w',hx0,Qfi.put (Qcd x) (We1 hC.rel hh hd),.head Qjc (Qhy.trans (.one ?_))⟩
     rw [<- Qd1]
     exact step_leave_returned Qo6
    cases e
   cases e
  cases e
 cases e
theorem Yy.toE {P:Program} {f:FuncId} {Xr Wj:List Row} {args:List AV} {ret:AV} (h:Yy P f Xr args Wj ret):Qpy P f Xr args (fun _:Unit=>True) (fun _=>Wj) (fun _=>ret):=
 fun X vs hP hX hR hA=>(h X vs hP hX hR hA).mono fun _ _ ⟨v,μ',h1,h2⟩=>⟨(),v,μ',trivial,h1,h2⟩
theorem Qt1 {X:Ctx} {P:Program} {f g:FuncId} {k k':List Item} {Q:Frame->Frame->Wp->Prop} {st st':St} {Yk args:List AV} {dst:Option Tmp} (ids:List Nat) {Xr Wj:List Row} {ret:AV}
  (hP:X.P=P) (he:Enters P g) (hs:Yy P g Xr args Wj ret) (e:Qkh st k=some (g,Yk,dst,k')) (hh:Qbo st.rows ids Xr)
  (hp:∀ (C:Wp) (vs:List Value),Xp X C->C.rows=st.rows->Qbf C.w (C.ok X) C.μ Yk vs->Qbf C.w ((Qcf X C ids Xr).ok (Jz X C ids)) (Jz X C ids).μ0 args vs)
  (hpu:St.put { st with rows:=Qbx st.rows ids Wj } dst (Qdk (Qaq ids st.rows.length) ret)=some st') (h:AK X f k' Q st'):AK X f k Q st:=
 Qt0 ids hP he hs.toE e hh hp (fun _=>hpu) fun _ _=>h
theorem Wgz {X:Ctx} {st:St} {ids:List Nat} {Xr:List Row} {Yk args:List AV} (hh:Qbo st.rows ids Xr) (hp:Qg2 st.rows ids (Qaq ids st.rows.length) Yk args) (C:Wp) (vs:List Value) (hR:Xp X C) (hr:C.rows=st.rows) (hv:Qbf C.w (C.ok X) C.μ Yk vs):
  Qbf C.w ((Qcf X C ids Xr).ok (Jz X C ids)) (Jz X C ids).μ0 args vs:=by
 rw [<- hr] at hh hp
 exact Qh0 hR hh hp hv
theorem Qyc {X:Ctx} {f g:FuncId} {k k':List Item} {Q:Frame->Frame->Wp->Prop} {st st':St} {Yk args:List AV} {dst:Option Tmp} (ids:List Nat) {Xr Wj:List Row} {ret:AV}
  (e:Qkh st k=some (g,Yk,dst,k')) (he:Enters X.P g) (hh:Qbo st.rows ids Xr) (hp:Qg2 st.rows ids (Qaq ids st.rows.length) Yk args) (hs:Yy X.P g Xr args Wj ret)
  (Qcd:St.put { st with rows:=Qbx st.rows ids Wj } dst (Qdk (Qaq ids st.rows.length) ret)=some st') (h:AK X f k' Q st'):AK X f k Q st:=
 Qt1 ids rfl he hs e hh (Wgz hh hp) Qcd h
end Go.Sy
namespace Go.Sy
section
variable {X:Ctx} {C:Wp}
def Wp.renew (C:Wp) (id:Nat) (ob:Option Nat) (r:Row):Wp:=⟨C.μ ++ [ob],C.rows.set id .gone ++ [r],C.w⟩
theorem Wan (h:Xp X C) {id:Nat} {ob:Option Nat} {r:Row} (hμ:C.μ[id]? = some ob) (hr:C.rows[id]? = some r) {b:Nat}:(C.renew id ob r).live b->C.live b:=by
 have hlt:=(List.getElem?_eq_some_iff.1 hr).1
 rintro ⟨i,m,s,h1,h2,h3,h4⟩
 simp only [Wp.renew] at h1 h2
 rcases Ji.1 h1 with h1 | ⟨e1,h1⟩<;>rcases Ji.1 h2 with h2 | ⟨e2,h2⟩
 ·rcases (Jr hlt).1 h2 with ⟨_,rfl⟩ | ⟨_,h2⟩
  ·cases h3
  exact ⟨i,m,s,h1,h2,h3,h4⟩
 ·have:=(List.getElem?_eq_some_iff.1 h1).1
  have:=h.len
  simp at e2
  omega
 ·have k1:=(List.getElem?_eq_some_iff.1 h2).1
  have k2:=h.len
  simp at k1
  omega
 subst h1
 subst h2
 exact ⟨id,_,r,hμ,hr,h3,h4⟩
theorem Qns (h:Xp X C) {id:Nat} {ob:Option Nat} {r:Row} (hμ:C.μ[id]? = some ob) (hr:C.rows[id]? = some r):Ev X C (C.renew id ob r):=
 ⟨Nat.le_refl _,fun _ _ _=>rfl,fun b _ hl k=>hl (Wan h hμ hr k),fun _ _ _ k=>⟨_,k,rfl⟩,fun _ _ hx=>Qcl hx⟩
theorem Qmk (h:Xp X C) {id:Nat} {ob:Option Nat} {r:Row} (hμ:C.μ[id]? = some ob) (hr:C.rows[id]? = some r) (Qho:r.live=true):Xp X (C.renew id ob r):=by
 have ev:=Qns h hμ hr
 have hlt:=(List.getElem?_eq_some_iff.1 hr).1
 have hlen:=h.len
 have hat:∀ {i:Nat} {b:Option Nat} {s:Row},(C.renew id ob r).μ[i]? = some b->(C.renew id ob r).rows[i]? = some s->s≠.gone->∃ i',C.μ[i']? = some b/\C.rows[i']? = some s/\((i=C.rows.length/\i'=id)\/(i'=i/\i≠id)):=by
  intro i b s h1 h2 hg
  simp only [Wp.renew] at h1 h2
  rcases Ji.1 h1 with h1 | ⟨e1,h1⟩<;>rcases Ji.1 h2 with h2 | ⟨e2,h2⟩
  ·rcases (Jr hlt).1 h2 with ⟨_,rfl⟩ | ⟨n1,h2⟩
   ·exact absurd rfl hg
   exact ⟨i,h1,h2,.inr ⟨rfl,Ne.symm n1⟩⟩
  ·have:=(List.getElem?_eq_some_iff.1 h1).1
   simp at e2
   omega
  ·have:=(List.getElem?_eq_some_iff.1 h2).1
   simp at this
   omega
  subst h1
  subst h2
  simp at e2
  exact ⟨id,hμ,hr,.inl ⟨e2,rfl⟩⟩
 refine ⟨by simp [Wp.renew,hlen],h.os,h.tape,h.output,h.size,h.keep,h.shape,fun i x hx=>Qcl (h.first i x hx), ?_, ?_, ?_, ?_, ?_⟩
 ·intro i b hb
  simp only [Wp.renew] at hb
  rcases Ji.1 hb with hb | ⟨_,hb⟩
  ·exact h.place i b hb
  subst hb
  exact h.place id b hμ
 ·intro i j b p q h1 h2 h3 h4 h5 h6
  obtain ⟨i',a1,a2,a3⟩:=hat h1 h3 (by rintro rfl;cases h5)
  obtain ⟨j',b1,b2,b3⟩:=hat h2 h4 h6
  have:=h.apart i' j' b p q a1 b1 a2 b2 h5 h6
  omega
 ·intro i m b p h1 h2 h3
  obtain ⟨i',a1,a2,a3⟩:=hat h1 h2 (by rintro rfl;cases h3)
  exact h.Qbh i' m b p a1 a2 h3
 ·intro i j m n b p q h1 h2 h3 h4 h5 h6
  obtain ⟨i',a1,a2,a3⟩:=hat h1 h3 (by rintro rfl;cases h5)
  obtain ⟨j',b1,b2,b3⟩:=hat h2 h4 h6
  have:=h.Qa0 i' j' m n b p q a1 b1 a2 b2 h5 h6
  exact ⟨this.1,fun h7=>by have:=this.2 h7;omega⟩
 intro i o s h1 h2
 simp only [Wp.renew] at h1 h2
 rcases Ji.1 h1 with h1 | ⟨e1,h1⟩<;>rcases Ji.1 h2 with h2 | ⟨e2,h2⟩
 ·rcases (Jr hlt).1 h2 with ⟨_,rfl⟩ | ⟨n1,h2⟩
  ·cases o<;>trivial
  exact (h.rel i o s h1 h2).mono ev.ok ev.same ev.pre ev.shape (fun _ _=>rfl) (fun _ _=>rfl)
 ·have:=(List.getElem?_eq_some_iff.1 h1).1
  simp at e2
  omega
 ·have:=(List.getElem?_eq_some_iff.1 h2).1
  simp at this
  omega
 subst h1
 subst h2
 exact (h.rel id ob r hμ hr).mono ev.ok ev.same ev.pre ev.shape (fun _ _=>rfl) (fun _ _=>rfl)
theorem Qjb (h:Xp X C) {id b:Nat} {r:Row} (hμ:C.μ[id]? = some (some b)) (hr:C.rows[id]? = some r) (hl:r.live=true) (hx:∀ w m,r.ext w m=[]:=by intros;rfl):Qii X C id b r .gone C.w:=
 ⟨hμ,hr,hl,rfl,rfl,⟨rfl,Nat.le_refl _⟩,rfl,fun _ _=>rfl,fun _ _ k=>⟨_,k,rfl⟩,hx,fun _ _=>rfl⟩
theorem Wei (h:Xp X C) {id:Nat} (hμ:C.μ[id]? = some none):Xp X ⟨C.μ,C.rows.set id .gone,C.w⟩/\Ev X C ⟨C.μ,C.rows.set id .gone,C.w⟩:=by
 have Qho:∀ {b:Nat},(⟨C.μ,C.rows.set id .gone,C.w⟩:Wp).live b->C.live b:=by
  rintro b ⟨i,m,s,h1,h2,h3,h4⟩
  simp only [List.getElem?_set] at h2
  split at h2
  ·split at h2
   ·injection h2 with h2;subst h2;cases h3
   cases h2
  exact ⟨i,m,s,h1,h2,h3,h4⟩
 have ev:Ev X C ⟨C.μ,C.rows.set id .gone,C.w⟩:=⟨Nat.le_refl _,fun _ _ _=>rfl,fun _ _ hl k=>hl (Qho k),fun _ _ _ k=>⟨_,k,rfl⟩,fun _ _ hx=>hx⟩
 have Qgg:∀ {i:Nat} {s:Row},(C.rows.set id .gone)[i]? = some s->s≠.gone->C.rows[i]? = some s:=by
  intro i s h2 hg
  simp only [List.getElem?_set] at h2
  split at h2
  ·split at h2
   ·injection h2 with h2;exact absurd h2.symm hg
   cases h2
  exact h2
 refine ⟨⟨by simp [h.len],h.os,h.tape,h.output,h.size,h.keep,h.shape,h.first,h.place, ?_, ?_, ?_, ?_⟩,ev⟩
 ·intro i j b p q h1 h2 h3 h4 h5 h6
  exact h.apart i j b p q h1 h2 (Qgg h3 (by rintro rfl;cases h5)) (Qgg h4 h6) h5 h6
 ·intro i m b p h1 h2 h3
  exact h.Qbh i m b p h1 (Qgg h2 (by rintro rfl;cases h3)) h3
 ·intro i j m n b p q h1 h2 h3 h4 h5 h6
  exact h.Qa0 i j m n b p q h1 h2 (Qgg h3 (by rintro rfl;cases h5)) (Qgg h4 h6) h5 h6
 intro i o s h1 h2
 by_cases hg:s=.gone
 ·subst hg;cases o<;>trivial
 exact (h.rel i o s h1 (Qgg h2 hg)).mono ev.ok ev.same ev.pre ev.shape (fun _ _=>rfl) (fun _ _=>rfl)
structure Source (C:Wp) (X:Ctx) (k m:Nat) (gs:Nat->List DV) (u:Value) (news:List Value):Prop where
 shape:∃ A c,u=.slice A m c/\(0 < m->∃ ad,A=some ad/\∀ (j:Nat) v,news[j]? = some v->C.w.cell? (ad.add j)=some v)
 len:news.length=m * k
 rel:∀ i,i < m->VRs C.w (C.ok X) (gs i) ((news.drop (i * k)).take k)
 one:∀ v∈news,v.oneCell'=true
theorem Qu0 {vs:Nat->List Value} {k n:Nat} (hk:∀ i,i < n->(vs i).length=k):∃ xs:List Value,xs.length=n * k/\(∀ i j v,i < n->(vs i)[j]? = some v->xs[i * k+j]? = some v)/\(∀ i,i < n->(xs.drop (i * k)).take k=vs i)/\(∀ v∈xs,∃ i,i < n/\v∈vs i):=by
 let ls:=(List.range n).map vs
 have hl:∀ l∈ls,l.length=k:=by
  intro l h
  obtain ⟨i,hi,rfl⟩:=List.mem_map.1 h
  exact hk i (by simpa using hi)
 have hat:∀ i,i < n->ls[i]? = some (vs i):=by
  intro i hi
  simp [ls,hi]
 refine ⟨ls.flatten,by rw [Qnu hl];simp [ls],fun i j v hi hj=>Qls hl (hat i hi) hj,fun i hi=>?_,fun v hv=>?_⟩
 ·apply List.ext_getElem?
  intro j
  rw [List.getElem?_take]
  split
  ·rename_i hj
   rw [List.getElem?_drop]
   have hj':j < (vs i).length:=by rw [hk i hi];exact hj
   rw [Qls hl (hat i hi) (List.getElem?_eq_getElem hj'),List.getElem?_eq_getElem hj']
  rename_i hj
  rw [List.getElem?_eq_none (by rw [hk i hi];omega)]
 obtain ⟨l,h1,h2⟩:=List.mem_flatten.1 hv
 obtain ⟨i,hi,rfl⟩:=List.mem_map.1 h1
 exact ⟨i,by simpa using hi,h2⟩
variable {T:Tab}
set_option maxHeartbeats 1000000 in
theorem Qq7 (hT:Xo X.P T) (h:Xp X C) {id k m n by':Nat} {t e ty:TypeId} {z:List Value} {g gs g':Nat->List DV} {v u:Value} {news:List Value}
  (hr:C.rows[id]? = some (.flat false k e n g)) (hv:Js C.w (C.ok X) C.μ (.own id k 0 n) v) (ht:T.Qck.lookup t=some e) (hi:T.info.lookup e=some (k,by',z)) (hz:z.length=k) (hk:0 < k)
  (src:Source C X k m gs u news) (hb:(n+m) * by'<=140737488355328) (Qo7:n+m<=9223372036854775807) (h1:∀ i,i < n->g' i=g i) (h2:∀ i,i < m->g' (n+i)=gs i):
  ∃ v' C',(Builtin.append_ #[t,t] ty #[v,u]).run X.P C.w=.ok v' C'.w/\C'.rows=C.rows.set id .gone ++ [.flat false k e (n+m) g']/\Xp X C'/\Ev X C C'/\Js C'.w (C'.ok X) C'.μ (.own C.rows.length k 0 (n+m)) v':=by
 obtain ⟨i0,hi0,hs0,hb0,hz0⟩:=hT.infoAt hi
 obtain ⟨zv,hzv,hzc⟩:=Option.map_eq_some_iff.1 hz0
 have hu:=hT.slice ht
 obtain ⟨A,c,rfl,Qtj⟩:=src.shape
 have hzs:zv.cells.size=k:=by rw [hzc];simpa using hz
 have hlt:=(List.getElem?_eq_some_iff.1 hr).1
 -- what the new row's cells are
 have Qtg:∀ (old:List Value) (cur:Array Value),old.length=n * k->(∀ i,i < n->VRs C.w (C.ok X) (g i) ((old.drop (i * k)).take k))->cur.toList.take ((n+m) * k)=old ++ news ->
   (n+m) * k<=cur.size->∀ (C':Wp),Ev X C C'->∀ b,C'.w.heap[b]? = some (.cells cur e (0,0))->Qbm C'.w (C'.ok X) C'.μ (some b) (.flat false k e (n+m) g'):=by
  intro old cur ho Yo htk hsz C' ev b hh
  have hlen:(old ++ news).length=(n+m) * k:=by rw [List.length_append,ho,src.len,Nat.add_mul]
  refine ⟨cur,fun i=>((old ++ news).drop (i * k)).take k,hh,hsz, ?_, ?_, ?_⟩
  ·intro i hi
   rw [List.length_take,List.length_drop,hlen]
   have:i * k+k<=(n+m) * k:=by rw [<- Nat.succ_mul];exact Nat.mul_le_mul_right k hi
   omega
  ·intro i hi
   show VRs _ _ (g' i) (((old ++ news).drop (i * k)).take k)
   by_cases hin:i < n
   ·rw [h1 i hin]
    have e1:i * k+k<=n * k:=by rw [<- Nat.succ_mul];exact Nat.mul_le_mul_right k hin
    have:((old ++ news).drop (i * k)).take k=(old.drop (i * k)).take k:=by
     rw [List.drop_append_of_le_length (by rw [ho];omega),List.take_append_of_le_length (by rw [List.length_drop,ho];omega)]
    rw [this]
    exact (Yo i hin).mono ev.ok ev.same
   obtain ⟨q,rfl⟩:∃ q,i=n+q:=⟨i - n,by omega⟩
   rw [h2 q (by omega)]
   have:((old ++ news).drop ((n+q) * k)).take k=(news.drop (q * k)).take k:=by
    rw [Nat.add_mul,List.drop_append,List.drop_of_length_le (by rw [ho];omega),List.nil_append,ho,Nat.add_sub_cancel_left]
   rw [this]
   exact (src.rel q (by omega)).mono ev.ok ev.same
  intro i j w hi hj
  have:=Qk0 hj
  rw [<- htk] at this
  rw [List.getElem?_take] at this
  split at this
  ·simpa using this
  cases this
 have Wfq:∀ (C':Wp) (b c':Nat) (cur:Array Value),C'.μ[C.rows.length]? = some (some b)->C'.w.heap[b]? = some (.cells cur e (0,0))->c' * k=cur.size->n+m<=c'->c'<=maxLen ->
   Js C'.w (C'.ok X) C'.μ (.own C.rows.length k 0 (n+m)) (.slice (some ⟨b,0,none⟩) (n+m) c'):=by
  intro C' b c' cur e1 e2 e3 e4 e5
  have:=Js.own (w:=C'.w) (ok:=C'.ok X) (μ:=C'.μ) (off:=0) (k:=k) (n:=n+m) e1 e2 (by rw [Nat.zero_add];exact e3) e4 e5
  rwa [Nat.zero_mul] at this
 -- a new array
 have fresh:∀ (C1:Wp),Xp X C1->Ev X C C1->C1.rows=C.rows.set id .gone->∀ (old:List Value) (q:Nat),q < n+m->old.length=n * k->(∀ i,i < n->VRs C.w (C.ok X) (g i) ((old.drop (i * k)).take k)) ->
   C1.w=C.w->(Builtin.append_ #[t,t] ty #[v,.slice A m c]).run X.P C.w=.ok (.slice (some ⟨C.w.heap.size,0,none⟩) (n+m) (grownCap C.w (n+m) q e))
    (C.w.drew.alloc (.cells (old.toArray ++ news.toArray ++ Builtin.zeroCells zv.cells (grownCap C.w (n+m) q e - (n+m))) e)) ->
   ∃ v' C',(Builtin.append_ #[t,t] ty #[v,.slice A m c]).run X.P C.w=.ok v' C'.w/\C'.rows=C.rows.set id .gone ++ [.flat false k e (n+m) g']/\Xp X C'/\Ev X C C'/\Js C'.w (C'.ok X) C'.μ (.own C.rows.length k 0 (n+m)) v':=by
  intro C1 hC1 ev1 Qgu old q hq ho Yo hw Qhi
  have hge:=grownCap_ge C.w (n+m) q e
  have hcm:grownCap C.w (n+m) q e<=maxLen:=grownCap_le_maxLen C.w (n+m) q e (by simp only [maxLen];omega)
  let cur:Array Value:=old.toArray ++ news.toArray ++ Builtin.zeroCells zv.cells (grownCap C.w (n+m) q e - (n+m))
  have hcs:cur.size=grownCap C.w (n+m) q e * k:=by
   simp only [cur,Array.size_append,List.size_toArray,size_zeroCells,hzs,ho,src.len,<- Nat.add_mul]
   congr 1
   omega
  have htk:cur.toList.take ((n+m) * k)=old ++ news:=by
   have hlen:(old ++ news).length=(n+m) * k:=by rw [List.length_append,ho,src.len,Nat.add_mul]
   simp only [cur,Array.toList_append,List.append_assoc]
   rw [<- List.append_assoc,<- hlen]
   exact List.take_left
  have hd:=hC1.drew
  have ev2:=Ev.push hd (.cells cur e) (.flat false k e (n+m) g')
  have ev:=(ev1.trans Ev.drew).trans ev2
  have Qss:C1.drew.w.heap.size=C.w.heap.size:=by rw [Wp.drew,hw];rfl
  refine ⟨.slice (some ⟨C.w.heap.size,0,none⟩) (n+m) (grownCap C.w (n+m) q e),C1.drew.push (.cells cur e) (.flat false k e (n+m) g'), ?_,by simp [Wp.push,Wp.drew,Qgu],Xp.push hd ?_,ev, ?_⟩
  ·rw [Qhi,Wp.push,Wp.drew,hw]
  ·exact Qtg old cur ho Yo htk (by rw [hcs];exact Nat.mul_le_mul_right k hge) _ ev _ (heap_alloc_new _ _)
  refine Wfq _ C.w.heap.size _ cur ?_ ?_ hcs.symm hge hcm
  ·have:C1.μ.length=C.rows.length:=by rw [hC1.len,Qgu];simp
   simp [Wp.push,<- this,Qss,Wp.drew]
   rw [hw]
  rw [<- Qss]
  exact heap_alloc_new _ _
 cases hv with
 | Qce hμ=>
  obtain ⟨hg1,hg2⟩:=Wei h hμ
  by_cases hm:m=0
  ·subst hm
   have hn:news=[]:=List.eq_nil_of_length_eq_zero (by simpa using src.len)
   subst hn
   have Qhi:(Builtin.append_ #[t,t] ty #[.slice none 0 0,.slice A 0 c]).run X.P C.w=.ok (.slice none 0 0) C.w:=by
    cases A<;>simp [Builtin.append_,run_underlying hu,sizeOf,typeInfo,hi0,Builtin.lenOf,Builtin.firstCells,loadCells,loadCellsFrom]
   have hvr:Xp X ((⟨C.μ,C.rows.set id .gone,C.w⟩:Wp).Qby (.flat false k e 0 g')):=Xp.Qby hg1 rfl
   refine ⟨_,(⟨C.μ,C.rows.set id .gone,C.w⟩:Wp).Qby (.flat false k e 0 g'),Qhi,rfl,hvr,hg2.trans (Ev.Qby hg1 _), ?_⟩
   refine .Qce ?_
   simp [Wp.Qby,<- h.len]
  obtain ⟨ad,rfl,Qgh⟩:=Qtj (by omega)
  have hr2:=run_append_nil (P:=X.P) C.w t ty e i0 zv hu hi0 hzv ad m c news (by rw [hs0];exact src.len) Qgh (by omega) (by omega) (by rw [hb0];simp only [Nat.zero_add] at hb;omega)
  refine fresh _ hg1 hg2 rfl [] 0 (by omega) (by simp) (fun i hi=>by omega) rfl ?_
  simpa using hr2
 | own hμ hh hs hn hc=>
  rename_i b cap cur ty'
  simp only [Nat.zero_mul,Nat.zero_add] at hs fresh ⊢
  obtain ⟨cur',vs,e1,e2,e3,e4,e5⟩:=h.rel id _ _ hμ hr
  rw [hh] at e1
  injection e1 with e1
  injection e1 with e1 e1'
  subst e1
  have e1':=e1'.symm
  subst e1'
  obtain ⟨old,o1,o2,o3,o4⟩:=Qu0 e3
  have hold:old=cur.toList.take (n * k):=by
   apply List.ext_getElem?
   intro j
   by_cases hj:j < n * k
   ·have hi':j / k < n:=Nat.div_lt_of_lt_mul (by rwa [Nat.mul_comm] at hj)
    have hjj:j % k < (vs (j / k)).length:=by rw [e3 _ hi'];exact Nat.mod_lt _ hk
    have key:j / k * k+j % k=j:=by rw [Nat.mul_comm];exact Nat.div_add_mod j k
    have a1:=o2 (j / k) (j % k) _ hi' (List.getElem?_eq_getElem hjj)
    have a2:=e5 (j / k) (j % k) _ hi' (List.getElem?_eq_getElem hjj)
    rw [key] at a1 a2
    rw [a1,List.getElem?_take_of_lt hj]
    simpa using a2.symm
   rw [List.getElem?_eq_none (by omega),List.getElem?_eq_none (by simp;omega)]
  have Yo:∀ i,i < n->VRs C.w (C.ok X) (g i) ((old.drop (i * k)).take k):=fun i hi=>by rw [o3 i hi];exact e4 i hi
  by_cases hm:m=0
  ·subst hm
   have hn0:news=[]:=List.eq_nil_of_length_eq_zero (by simpa using src.len)
   subst hn0
   have Qhi:(Builtin.append_ #[t,t] ty #[.slice (some ⟨b,0,none⟩) n cap,.slice A 0 c]).run X.P C.w=.ok (.slice (some ⟨b,0,none⟩) n cap) C.w:=by
    cases A<;>simp [Builtin.append_,run_underlying hu,sizeOf,typeInfo,hi0,Builtin.lenOf,Builtin.firstCells,loadCells,loadCellsFrom,hn,storeCells]
   have tu:Qii X C id b (.flat false k e n g) (.flat false k e (n+0) g') C.w:=⟨hμ,hr,rfl,rfl,rfl,⟨rfl,Nat.le_refl _⟩,rfl,fun _ _=>rfl,fun _ _ k=>⟨_,k,rfl⟩,fun _ _=>rfl,fun _ _=>rfl⟩
   have ev1:=Ev.Zw h tu
   have hC1:=Xp.Zw h tu (.inl (by simp)) (Qtg old cur o1 Yo (by simpa using hold.symm) (by simpa using e2) _ ev1 b hh)
   have hr1:(C.Zw id (.flat false k e (n+0) g') C.w).rows[id]? = some (.flat false k e (n+0) g'):=by simp [Wp.Zw,hlt]
   have hμ1:(C.Zw id (.flat false k e (n+0) g') C.w).μ[id]? = some (some b):=hμ
   refine ⟨.slice (some ⟨b,0,none⟩) n cap,(C.Zw id (.flat false k e (n+0) g') C.w).renew id (some b) (.flat false k e (n+0) g'),Qhi, ?_,Qmk hC1 hμ1 hr1 rfl,ev1.trans (Qns hC1 hμ1 hr1), ?_⟩
   ·simp [Wp.renew,Wp.Zw]
   refine Wfq _ b cap cur ?_ hh hs hn hc
   simp [Wp.renew,Wp.Zw,<- h.len]
  obtain ⟨ad,rfl,Qgh⟩:=Qtj (by omega)
  by_cases Qka:n+m<=cap
  ·have Wac:n * i0.size+news.length<=cur.size:=by
    rw [src.len,<- hs,hs0,<- Nat.add_mul]
    exact Nat.mul_le_mul_right _ Qka
   have Qhi:=run_append_room (P:=X.P) C.w t ty e i0 hu hi0 b n cap cur hh ad m c news (by rw [hs0];exact src.len) Qgh src.one Qka Wac
   rw [hs0] at Qhi Wac
   let Qkt:Array Value:=(cur.toList.take (n * k) ++ news ++ cur.toList.drop (n * k+news.length)).toArray
   have Qtk:Qkt.size=cur.size:=by
    simp only [Qkt,List.size_toArray,List.length_append,List.length_take,List.length_drop,Array.length_toList]
    omega
   have tu:Qii X C id b (.flat false k e n g) (.flat false k e (n+m) g') (C.w.setRow b Qkt):=Qh3 h hμ hr rfl hh Qtk
   have ev1:=Ev.Zw h tu
   have hh2:(C.w.setRow b Qkt).heap[b]? = some (.cells Qkt e (0,0)):=setRow_heap _ _ _ _ _ _ hh
   have htk:Qkt.toList.take ((n+m) * k)=old ++ news:=by
    have hlen:(old ++ news).length=(n+m) * k:=by rw [List.length_append,o1,src.len,Nat.add_mul]
    simp only [Qkt]
    rw [<- hold,<- hlen]
    exact List.take_left
   have hC1:=Xp.Zw h tu (.inl (by simp)) (Qtg old Qkt o1 Yo htk (by rw [Qtk,<- hs];exact Nat.mul_le_mul_right k Qka) _ ev1 b hh2)
   have hr1:(C.Zw id (.flat false k e (n+m) g') (C.w.setRow b Qkt)).rows[id]? = some (.flat false k e (n+m) g'):=by simp [Wp.Zw,hlt]
   have hμ1:(C.Zw id (.flat false k e (n+m) g') (C.w.setRow b Qkt)).μ[id]? = some (some b):=hμ
   refine ⟨.slice (some ⟨b,0,none⟩) (n+m) cap,(C.Zw id (.flat false k e (n+m) g') (C.w.setRow b Qkt)).renew id (some b) (.flat false k e (n+m) g'),Qhi, ?_,Qmk hC1 hμ1 hr1 rfl,ev1.trans (Qns hC1 hμ1 hr1), ?_⟩
   ·simp [Wp.renew,Wp.Zw]
   refine Wfq _ b cap Qkt ?_ hh2 (by rw [Qtk];exact hs) Qka hc
   simp [Wp.renew,Wp.Zw,<- h.len]
  have hholds:∀ (j:Nat) v,old[j]? = some v->C.w.cell? ((⟨b,0,none⟩:Addr).add j)=some v:=by
   intro j v hj
   rw [Qhp,Nat.zero_add,cell_of_row _ _ _ _ _ _ hh]
   rw [hold] at hj
   have:=hj
   rw [List.getElem?_take] at this
   split at this
   ·simpa using this
   cases this
  have Qhi:=run_append_grow (P:=X.P) C.w t ty e i0 zv hu hi0 hzv ⟨b,0,none⟩ n cap old (by rw [hs0];exact o1) hholds ad m c news (by rw [hs0];exact src.len) Qgh (by omega) (by omega) (growslice_fits (by omega) (by rw [hb0];exact hb))
  have tu:=Qjb h hμ hr rfl
  have ev1:=Ev.Zw h tu
  have hC1:=Xp.Zw h tu (.inr rfl) trivial
  exact fresh _ hC1 ev1 rfl old cap (by omega) o1 Yo rfl Qhi
end
end Go.Sy
