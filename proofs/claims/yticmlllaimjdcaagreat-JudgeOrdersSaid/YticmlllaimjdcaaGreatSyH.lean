/- Entering a function, coming back from it, calling. -/
import Derived.Test.YticmlllaimjdcaaGreatSyF
set_option linter.unusedSectionVars false
set_option linter.unusedVariables false
set_option linter.unusedSimpArgs false
namespace Go.Sy
mutual
inductive NL:DV->Prop
 | v (x:Value):NL (.v x)
 | agg {xs:List DV} (h:NLs xs):NL (.agg xs)
 | sl {n:Nat} {g:Nat->List DV} (h:∀ i,i < n->NLs (g i)):NL (.sl true n g)
 | sl0 (t:Bool) (g:Nat->List DV):NL (.sl t 0 g)
 | rop {n:Nat} {g:Nat->List DV} {i off:Nat} (h:∀ i,i < n->NLs (g i)):NL (.rop true n g i off)
 | fn {f:FuncId} {xs:List DV} (h:NLs xs):NL (.fn f xs)
 | ifc {t:TypeId} {x:DV} (h:NL x):NL (.ifc t x)
inductive NLs:List DV->Prop
 | nil:NLs []
 | cons {x:DV} {xs:List DV} (h:NL x) (hs:NLs xs):NLs (x :: xs)
end
mutual
inductive NA:AV->Prop
 | d {x:DV} (h:NL x):NA (.d x)
 | agg {xs:List AV} (h:NAs xs):NA (.agg xs)
 | Qn {xs:List AV} (h:NAs xs):NA (.Qn xs)
 | own (id k off n:Nat):NA (.own id k off n)
 | ptr (id k i off:Nat):NA (.ptr id k i off)
 | win (id off n:Nat):NA (.win id off n)
 | fn {f:FuncId} {xs:List AV} (h:NAs xs):NA (.fn f xs)
 | ifc {t:TypeId} {x:AV} (h:NA x):NA (.ifc t x)
inductive NAs:List AV->Prop
 | nil:NAs []
 | cons {x:AV} {xs:List AV} (h:NA x) (hs:NAs xs):NAs (x :: xs)
end
inductive NR:Row->Prop
 | flat {fz:Bool} {k:Nat} {ty:TypeId} {n:Nat} {g:Nat->List DV} (h:∀ i,i < n->NLs (g i)):NR (.flat fz k ty n g)
 | box {ty:TypeId} {cs:List AV} (h:NAs cs):NR (.box ty cs)
 | mix {k:Nat} {ty:TypeId} {n:Nat} {g:Nat->List AV} (h:∀ i,i < n->NAs (g i)):NR (.mix k ty n g)
 | gone:NR .gone
 | loop {l:Nat} {s:LoopState} {fn:FuncId} {nt:Nat} {is:List Nat} {xs:List AV} {ps:Array Tmp} {asg body:Code} (h:NAs xs):NR (.loop l s fn nt is xs ps asg body)
 | dfr (D:Nat):NR (.dfr D)
 | obj (o:Qmy):NR (.obj o)
section
variable {w:World} {ok okr:Bool->Nat->Prop} {μ:List (Option Nat)} (Jp:∀ b,ok true b->okr true b)
include Jp
mutual
theorem VR.perm:∀ {x:DV} {v:Value},VR w ok x v->NL x->VR w okr x v
 | _,_,.v h,_=>.v h
 | _,_,.agg h,.agg k=>.agg (VRs.perm h k)
 | _,_,.sl0,_=>.sl0
 | _,_,.sl k vs h0 hc ho hl hr hm,.sl q=>.sl k vs h0 hc (Jp _ ho) hl (fun i hi=>VRs.perm (hr i hi) (q i hi)) hm
 | _,_,.sl k vs h0 hc ho hl hr hm,.sl0 _ _=>absurd h0 (Nat.lt_irrefl 0)
 | _,_,.rop k vs hi ho hl hr hm,.rop q=>.rop k vs hi (Jp _ ho) hl (fun i hi=>VRs.perm (hr i hi) (q i hi)) hm
 | _,_,.fn h,.fn k=>.fn (VRs.perm h k)
 | _,_,.ifc h,.ifc k=>.ifc (VR.perm h k)
theorem VRs.perm:∀ {x:List DV} {v:List Value},VRs w ok x v->NLs x->VRs w okr x v
 | _,_,.nil,_=>.nil
 | _,_,.cons h1 h hs,.cons k ks=>.cons h1 (VR.perm h k) (VRs.perm hs ks)
end
mutual
theorem AVR.perm:∀ {x:AV} {v:Value},AVR w ok μ x v->NA x->AVR w okr μ x v
 | _,_,.d h,.d k=>.d (VR.perm Jp h k)
 | _,_,.agg h,.agg k=>.agg (Qax.perm h k)
 | _,_,.Qn h,.Qn k=>.Qn (Qb1.perm h k)
 | _,_,.Qcc h,_=>.Qcc h
 | _,_,.own h h1 h2 h3 h4,_=>.own h h1 h2 h3 h4
 | _,_,.ptr h,_=>.ptr h
 | _,_,.win h h1 h2,_=>.win h h1 h2
 | _,_,.fn h,.fn k=>.fn (Qax.perm h k)
 | _,_,.ifc h,.ifc k=>.ifc (AVR.perm h k)
theorem Qax.perm:∀ {x:List AV} {v:List Value},Qax w ok μ x v->NAs x->Qax w okr μ x v
 | _,_,.nil,_=>.nil
 | _,_,.cons h1 h hs,.cons k ks=>.cons h1 (AVR.perm h k) (Qax.perm hs ks)
theorem Qb1.perm:∀ {x:List AV} {v:List Value},Qb1 w ok μ x v->NAs x->Qb1 w okr μ x v
 | _,_,.nil,_=>.nil
 | _,_,.cons h hs,.cons k ks=>.cons (AVR.perm h k) (Qb1.perm hs ks)
end
theorem Qcz.perm {ob:Option Nat} {r:Row} (h:Qcz w ok μ ob r) (hr:NR r):Qcz w okr μ ob r:=by
 cases ob with
 | none=>cases r<;>first | exact h | exact Qmy.perm _ Jp h
 | some b=>
  cases hr with
  | gone=>trivial
  | loop k=>
   obtain ⟨h0,T,D,vs,h1,h2,h3,h4⟩:=h
   exact ⟨h0,T,D,vs,h1,h2,Qb1.perm Jp h3 k,h4⟩
  | dfr D=>exact h
  | obj o=>exact o.perm Jp h
  | flat k=>
   obtain ⟨cs,vs,h1,h2,h3,h4,h5⟩:=h
   exact ⟨cs,vs,h1,h2,h3,fun i hi=>VRs.perm Jp (h4 i hi) (k i hi),h5⟩
  | mix k=>
   obtain ⟨cs,vs,h1,h2,h3,h4,h5⟩:=h
   exact ⟨cs,vs,h1,h2,h3,fun i hi=>Qax.perm Jp (h4 i hi) (k i hi),h5⟩
  | box k=>
   obtain ⟨vs,h1,h2⟩:=h
   exact ⟨vs,h1,Qax.perm Jp h2 k⟩
end
inductive Sel (rows:List Row) (ρ:Nat->Nat):List Nat->List Row->Prop
 | nil:Sel rows ρ [] []
 | cons {id:Nat} {r:Row} {Zp:List Nat} {rs:List Row} (h:rows[id]? = some (Qeh ρ r)) (hs:Sel rows ρ Zp rs):Sel rows ρ (id :: Zp) (r :: rs)
theorem Sel.len {rows:List Row} {ρ:Nat->Nat}:∀ {Zp:List Nat} {rs:List Row},Sel rows ρ Zp rs->Zp.length=rs.length
 | _,_,.nil=>rfl
 | _,_,.cons _ hs=>by simp [Sel.len hs]
theorem Sel.at_ {rows:List Row} {ρ:Nat->Nat}:∀ {Zp:List Nat} {rs:List Row},Sel rows ρ Zp rs->∀ {j:Nat} {r:Row},rs[j]? = some r->∃ id,Zp[j]? = some id/\rows[id]? = some (Qeh ρ r)
 | _,_,.nil,_,_,h=>by simp at h
 | _,_,.cons h hs,0,_,e=>by simp at e;subst e;exact ⟨_,rfl,h⟩
 | _,_,.cons h hs,j+1,_,e=>by simpa using Sel.at_ hs (by simpa using e)
def Qdf (Zp:List Nat) (N:Nat) (j:Nat):Nat:=Zp.getD j N
section
variable {X:Ctx} {C:Wt} {Zp:List Nat} {rs:List Row}
def Qd1 (C:Wt) (Zp:List Nat) (rs:List Row):Wt:=⟨Zp.map fun i=>(C.μ[i]?).getD none,rs,C.w⟩
structure Qkz (X:Ctx) (C:Wt) (Zp:List Nat) (rs:List Row):Prop where
 is:Sel C.rows (Qdf Zp C.rows.length) Zp rs
 nodup:Zp.Nodup
 first:∀ j,j < X.μ0.length->Zp[j]? = some j
theorem Qre (h:Yd X C) (p:Qkz X C Zp rs) {j:Nat} {x:Option Nat}:(Qd1 C Zp rs).μ[j]? = some x↔∃ id,Zp[j]? = some id/\C.μ[id]? = some x:=by
 simp only [Qd1,List.getElem?_map,Option.map_eq_some_iff]
 constructor
 ·rintro ⟨id,h1,h2⟩
  refine ⟨id,h1, ?_⟩
  have hj:=(List.getElem?_eq_some_iff.1 h1).1
  rw [p.is.len] at hj
  obtain ⟨id',e1,e2⟩:=p.is.at_ (List.getElem?_eq_getElem hj)
  rw [h1] at e1
  injection e1 with e1
  subst e1
  obtain ⟨y,hy⟩:=h.Qh4 e2
  rw [hy] at h2 ⊢
  simpa using h2
 rintro ⟨id,h1,h2⟩
 exact ⟨id,h1,by simp [h2]⟩
theorem Qzg (h:Yd X C) (p:Qkz X C Zp rs) {j:Nat} {x:Option Nat} (e:C.μ[Qdf Zp C.rows.length j]? = some x):(Qd1 C Zp rs).μ[j]? = some x:=by
 rw [Qre h p]
 by_cases hj:j < Zp.length
 ·refine ⟨Zp[j],List.getElem?_eq_getElem hj, ?_⟩
  simpa [Qdf,List.getD_eq_getElem?_getD,List.getElem?_eq_getElem hj] using e
 have:=(List.getElem?_eq_some_iff.1 e).1
 simp only [Qdf,List.getD_eq_getElem?_getD,List.getElem?_eq_none (Nat.le_of_not_lt hj),Option.getD_none] at this
 have:=h.len
 omega
theorem Wjf (h:Yd X C) (p:Qkz X C Zp rs) {b:Nat} (e:(Qd1 C Zp rs).live b):C.live b:=by
 obtain ⟨j,m,r,h1,h2,h3,h4⟩:=e
 obtain ⟨id,e1,e2⟩:=(Qre h p).1 h1
 obtain ⟨id',e3,e4⟩:=p.is.at_ h2
 rw [e1] at e3
 injection e3 with e3
 subst e3
 exact ⟨id,m,_,e2,e4,by rw [Qgi];exact h3,(Qmc _ _ _ _ _).2 h4⟩
theorem Whg (h:Yd X C) (p:Qkz X C Zp rs):∀ t b,C.ok X t b->(Qd1 C Zp rs).ok X t b:=fun _ _ ⟨h1,h2,h3⟩=>⟨h1,fun e=>h2 (Wjf h p e),h3⟩
theorem Qox (h:Yd X C) (p:Qkz X C Zp rs):Yd X (Qd1 C Zp rs):=by
 have hat:∀ {j:Nat} {x:Option Nat} {r:Row},(Qd1 C Zp rs).μ[j]? = some x->rs[j]? = some r->∃ id,Zp[j]? = some id/\C.μ[id]? = some x/\C.rows[id]? = some (Qeh (Qdf Zp C.rows.length) r):=by
  intro j x r h1 h2
  obtain ⟨id,e1,e2⟩:=(Qre h p).1 h1
  obtain ⟨id',e3,e4⟩:=p.is.at_ h2
  rw [e1] at e3
  injection e3 with e3
  subst e3
  exact ⟨id,e1,e2,e4⟩
 refine ⟨by simp [Qd1,p.is.len],h.os,h.tape,h.output,h.size,h.keep,h.shape, ?_, ?_, ?_, ?_, ?_, ?_⟩
 ·intro j x hx
  have hj:=(List.getElem?_eq_some_iff.1 hx).1
  exact (Qre h p).2 ⟨j,p.first j hj,h.first j x hx⟩
 ·intro j b hb
  obtain ⟨id,e1,e2⟩:=(Qre h p).1 hb
  exact h.place id b e2
 ·intro i j b r s h1 h2 h3 h4 h5 h6
  obtain ⟨id,e1,e2,e3⟩:=hat h1 h3
  obtain ⟨jd,f1,f2,f3⟩:=hat h2 h4
  have:=h.apart id jd b _ _ e2 f2 e3 f3 (by rw [Qgi];exact h5) (by rw [ne_eq,Qii];exact h6)
  subst this
  exact (List.getElem?_inj (List.getElem?_eq_some_iff.1 e1).1 p.nodup).1 (e1.trans f1.symm)
 ·intro i m b r h1 h2 h3
  obtain ⟨id,e1,e2,e3⟩:=hat h1 h2
  exact h.Qco id m b _ e2 e3 (by rw [Qfg];exact h3)
 ·intro i j m n b r s h1 h2 h3 h4 h5 h6
  obtain ⟨id,e1,e2,e3⟩:=hat h1 h3
  obtain ⟨jd,f1,f2,f3⟩:=hat h2 h4
  have:=h.Qbt id jd m n b _ _ e2 f2 e3 f3 (by rw [Qfg];exact h5) (by rw [ne_eq,Qii];exact h6)
  refine ⟨this.1,fun h7=>?_⟩
  have:=this.2 (by rw [Qfg];exact h7)
  subst this
  exact (List.getElem?_inj (List.getElem?_eq_some_iff.1 e1).1 p.nodup).1 (e1.trans f1.symm)
 intro j ob r h1 h2
 obtain ⟨id,e1,e2,e3⟩:=hat h1 h2
 exact (h.rel id ob _ e2 e3).Qgl (Whg h p) (fun _ _ e=>Qzg h p e)
theorem Qrd (h:Yd X C) (p:Qkz X C Zp rs) {av:AV} {v:Value} (k:AVR C.w (C.ok X) C.μ (Qdm (Qdf Zp C.rows.length) av) v):AVR C.w ((Qd1 C Zp rs).ok X) (Qd1 C Zp rs).μ av v:=
 k.Qgl (Whg h p) (fun _ _ e=>Qzg h p e)
end
theorem Wkb {X:Ctx} {f:FuncId} {k:List Item} {Q:Frame->Frame->Wt->Prop} {st:St} (Zp:List Nat) (rs:List Row) (tm:List (Nat × AV)) (hs:Sel st.rows (Qdf Zp st.rows.length) Zp rs) (hn:Zp.Nodup)
  (h0:Zp.take X.μ0.length=List.range X.μ0.length) (ht:∀ i av,tm.lookup i=some av->st.tm.lookup i=some (Qdm (Qdf Zp st.rows.length) av)) (h:AK X f k Q { nt:=st.nt,tm:=tm,rows:=rs }):AK X f k Q st:=by
 intro a C hC b cs hb hk
 have p:Qkz X C Zp rs:=by
  refine ⟨by rw [hC.rows];exact hs,hn,fun j hj=>?_⟩
  have:(Zp.take X.μ0.length)[j]? = some j:=by rw [h0];simp [hj]
  rw [List.getElem?_take_of_lt hj] at this
  exact this
 refine h a (Qd1 C Zp rs) ⟨Qox hC.rel p,rfl,hC.defers,hC.nt,fun i av e=>?_⟩ b cs hb hk
 obtain ⟨v,h1,h2⟩:=hC.tm i _ (ht i av e)
 rw [<- hC.rows] at h2
 exact ⟨v,h1,Qrd hC.rel p h2⟩
def Ql2 (tm:List (Nat × AV)):List ResultVar->Option AV
 | [.tmp t]=>tm.lookup t
 | [.tmp t,.tmp u]=>
  match tm.lookup t,tm.lookup u with
  | some a,some b=>some (.Qn [a,b])
  | _,_=>none
 | [.tmp t,.tmp u,.tmp v]=>
  match tm.lookup t,tm.lookup u,tm.lookup v with
  | some a,some b,some c=>some (.Qn [a,b,c])
  | _,_,_=>none
 | []=>some (.Qn [])
 | _=>none
theorem Qwr {X:Ctx} {st:St} {a:Act} {C:Wt} (h:Sim X st a C) {fn:Func} {av:AV} (e:Ql2 st.tm fn.results.toList=some av):
  ∃ v,(results fn a.tmps).run X.P C.w=.ok v C.w/\AVR C.w (C.ok X) C.μ av v:=by
 have hr:fn.results=fn.results.toList.toArray:=by simp
 generalize fn.results.toList=l at e hr
 have get:∀ {t:Nat} {x:AV},st.tm.lookup t=some x->AVR C.w (C.ok X) C.μ x (a.tmps.getD t undef):=by
  intro t x ht
  obtain ⟨v,h1,h2⟩:=h.tm t x ht
  simpa [Array.getD_eq_getD_getElem?,h1] using h2
 unfold Ql2 at e
 split at e
 ·exact ⟨_,by simp [results,hr],get e⟩
 ·split at e
  ·rename_i x y hx hy
   injection e with e
   subst e
   exact ⟨_,by simp [results,hr],.Qn (.cons (get hx) (.cons (get hy) .nil))⟩
  cases e
 ·split at e
  ·rename_i x y z hx hy hz
   injection e with e
   subst e
   exact ⟨_,by simp [results,hr],.Qn (.cons (get hx) (.cons (get hy) (.cons (get hz) .nil)))⟩
  cases e
 ·injection e with e
  subst e
  exact ⟨_,by simp [results,hr],.Qn .nil⟩
 cases e
def Yc (X:Ctx) (Wv:List Row) (ret:AV) (_ fr:Frame) (C:Wt):Prop:=∃ v,C.rows=Wv/\Zw X C ret v/\fr.leaving X.P C.w (.returned v)
theorem Quk {X:Ctx} {f:FuncId} {fn:Func} {Wv:List Row} {ret av:AV} {st:St} {k:List Item} (hf:X.P.funcs[f]? = some fn) (e:Ql2 st.tm fn.results.toList=some av)
  (Zp:List Nat) (hs:Sel st.rows (Qdf Zp st.rows.length) Zp Wv) (hn:Zp.Nodup) (h0:Zp.take X.μ0.length=List.range X.μ0.length) (Qh2:av=Qdm (Qdf Zp st.rows.length) ret)
  (nr:∀ r∈Wv,NR r) (na:NA ret)
  (Xu:∀ (a:Act) (C:Wt),a.defers=X.ds->∀ (b:Frame) (cs:List Frame),b.fn=f->(b.kind=.normal/\b.roundOf=X.rnd)->∃ fr,Steps X.P (lone (b.atR a k) cs C.w) (lone fr cs C.w)/\fr.fn=f/\fr.mode=.returning/\fr.defers=[]/\fr.kind=.normal/\fr.tmps=a.tmps):
  AK X f k (Yc X Wv ret) st:=by
 intro a C hC b cs hb hk
 obtain ⟨v,h1,h2⟩:=Qwr hC e
 have p:Qkz X C Zp Wv:=by
  refine ⟨by rw [hC.rows];exact hs,hn,fun j hj=>?_⟩
  have:(Zp.take X.μ0.length)[j]? = some j:=by rw [h0];simp [hj]
  rw [List.getElem?_take_of_lt hj] at this
  exact this
 obtain ⟨fr,s1,s2,s3,s4,s5,s6⟩:=Xu a C hC.defers b cs hb hk
 have Jz:=Qox hC.rel p
 have Qm8:∀ b,(Qd1 C Zp Wv).ok X true b->(Qd1 C Zp Wv).okR X true b:=fun _ h=>⟨rfl,h⟩
 refine ⟨Qd1 C Zp Wv,fr,⟨v,rfl,⟨Jz, ?_, ?_⟩,s3,s4,s5,fn,by rw [s2];exact hf,by rw [s6];exact h1⟩,s1,s2⟩
 ·intro id ob r e1 e2
  exact (Jz.rel id ob r e1 e2).perm Qm8 (nr r (List.mem_of_getElem? e2))
 rw [Qh2,<- hC.rows] at h2
 exact (Qrd hC.rel p h2).perm Qm8 na
theorem Qjd {X:Ctx} {f:FuncId} {fn:Func} {Wv:List Row} {ret av:AV} {st:St} {k:List Item} (hf:X.P.funcs[f]? = some fn) (hX:X.ds=[]/\X.rnd=none) (e:Ql2 st.tm fn.results.toList=some av)
  (Zp:List Nat) (hs:Sel st.rows (Qdf Zp st.rows.length) Zp Wv) (hn:Zp.Nodup) (h0:Zp.take X.μ0.length=List.range X.μ0.length) (Qh2:av=Qdm (Qdf Zp st.rows.length) ret)
  (nr:∀ r∈Wv,NR r) (na:NA ret):AK X f (.code .ret :: k) (Yc X Wv ret) st:=
 Quk hf e Zp hs hn h0 Qh2 nr na fun a C hd b cs hb hk=>⟨_,.one (stepR_ret (hk.2.trans hX.2)),hb,rfl,hd.trans hX.1,hk.1,rfl⟩
theorem Qx1 {X:Ctx} {f:FuncId} {fn:Func} {Wv:List Row} {ret av:AV} {st:St} (hf:X.P.funcs[f]? = some fn) (hX:X.ds=[]/\X.rnd=none) (e:Ql2 st.tm fn.results.toList=some av)
  (Zp:List Nat) (hs:Sel st.rows (Qdf Zp st.rows.length) Zp Wv) (hn:Zp.Nodup) (h0:Zp.take X.μ0.length=List.range X.μ0.length) (Qh2:av=Qdm (Qdf Zp st.rows.length) ret)
  (nr:∀ r∈Wv,NR r) (na:NA ret):AK X f [] (Yc X Wv ret) st:=
 Quk hf e Zp hs hn h0 Qh2 nr na fun a C hd b cs hb hk=>⟨_,.one (stepR_end (hk.2.trans hX.2)),hb,rfl,hd.trans hX.1,hk.1,rfl⟩
def Ctx.plain (X:Ctx):Ctx:={ X with ds:=[],rnd:=none }
theorem Yd.plain {X:Ctx} {C:Wt} (h:Yd X C):Yd X.plain C:=⟨h.len,h.os,h.tape,h.output,h.size,h.keep,h.shape,h.first,h.place,h.apart,h.Qco,h.Qbt,h.rel⟩
theorem Yd.Wk2 {X:Ctx} {C:Wt} (h:Yd X.plain C):Yd X C:=⟨h.len,h.os,h.tape,h.output,h.size,h.keep,h.shape,h.first,h.place,h.apart,h.Qco,h.Qbt,h.rel⟩
def Qmu:Nat->List AV->List (Nat × AV)
 | _,[]=>[]
 | i,x :: xs=>(i,x) :: Qmu (i+1) xs
theorem Qt4:∀ {xs:List AV} {j i:Nat} {av:AV},(Qmu j xs).lookup i=some av->j<=i/\xs[i - j]? = some av
 | [],_,_,_,h=>by simp [Qmu] at h
 | x :: xs,j,i,av,h=>by
  simp only [Qmu,List.lookup_cons] at h
  split at h
  ·rename_i e
   have e:i=j:=by simpa using e
   subst e
   injection h with h
   subst h
   simp
  rename_i e
  obtain ⟨h1,h2⟩:=Qt4 h
  have:i - j=i - (j+1)+1:=by omega
  exact ⟨by omega,by rw [this];simpa using h2⟩
theorem Qb1.length {w:World} {ok:Bool->Nat->Prop} {μ:List (Option Nat)}:∀ {xs:List AV} {vs:List Value},Qb1 w ok μ xs vs->xs.length=vs.length
 | _,_,.nil=>rfl
 | _,_,.cons _ hs=>by simp [Qb1.length hs]
theorem Xj {P:Program} {f:FuncId} {fn:Func} {c:Code} {Yn Wv:List Row} {args:List AV} {ret:AV} {nt:Nat} (hf:P.funcs[f]? = some fn) (hb:fn.body=some c) (hn:fn.ntmps=nt) (hl:args.length<=nt)
  (h:∀ X:Ctx,X.P=P->X.μ0.length=Yn.length->(X.ds=[]/\X.rnd=none)->AK X f [.code c] (Yc X Wv ret) { nt:=nt,tm:=Qmu 0 args,rows:=Yn }):Xz P f Yn args Wv ret:=by
 intro X vs hP hX Jz Qfd cs
 have hvl:=Qfd.length
 have hent:Frame.enter P f vs.toArray .normal =
   ({ (default:Frame) with fn:=f,kind:=.normal,roundOf:=none }:Frame).atR { tmps:=vs.toArray ++ Array.replicate (fn.ntmps - vs.toArray.size) undef,defers:=[] } [.code c]:=by
  simp [Frame.enter,Frame.atR,hf,hb]
 have hrel':Yd X.plain ⟨X.μ0,Yn,X.w0⟩:=Jz.plain
 obtain ⟨C',fr,⟨v,hq1,hq2,h4⟩,h2,h3⟩:=h X.plain hP Jz.len ⟨rfl,rfl⟩ { tmps:=vs.toArray ++ Array.replicate (fn.ntmps - vs.toArray.size) undef,defers:=[] } ⟨X.μ0,Yn,X.w0⟩
  ⟨hrel',rfl,rfl,by simp [hn];omega,fun i av e=>by
   obtain ⟨_,e2⟩:=Qt4 e
   obtain ⟨u,h1,h2⟩:=Qfd.at_ e2
   have hi:=(List.getElem?_eq_some_iff.1 h1).1
   refine ⟨u, ?_,h2⟩
   rw [Array.getElem?_append_left (by simpa using hi)]
   simpa using h1⟩ { (default:Frame) with fn:=f,kind:=.normal,roundOf:=none } cs rfl ⟨rfl,rfl⟩
 subst hP
 rw [<- hent] at h2
 obtain ⟨μ',rows',w'⟩:=C'
 simp only at hq1
 subst hq1
 exact ⟨.returned v,w',fr,⟨v,μ',rfl,⟨hq2.rel.Wk2,hq2.rows,hq2.ret⟩⟩,h2,h3,h4⟩
def Qhx (st:St):List Item->Option (FuncId × List AV × Option Tmp × List Item)
 | .inRegion ops (i :: rest) :: k=>
  match ops[i]? with
  | some o=>
   match o.op with
   | .call c=>
    match c.callee with
    | .value g=>
     match guardOf st.tm ops o,valOf st.tm g,mapVal (valOf st.tm) c.args.toList with
     | some true,some (.fn fid caps),some xs=>some (fid,xs ++ caps,o.dst,.inRegion ops rest :: k)
     | some true,some (.d (.fn fid caps)),some xs=>some (fid,xs ++ caps.map .d,o.dst,.inRegion ops rest :: k)
     | _,_,_=>none
    | _=>none
   | _=>none
  | none=>none
 | _=>none
theorem Qb1.append {w:World} {ok:Bool->Nat->Prop} {μ:List (Option Nat)}:∀ {xs ys:List AV} {vs us:List Value},Qb1 w ok μ xs vs->Qb1 w ok μ ys us->Qb1 w ok μ (xs ++ ys) (vs ++ us)
 | _,_,_,_,.nil,k=>k
 | _,_,_,_,.cons h hs,k=>.cons h (Qb1.append hs k)
theorem Qax.toL {w:World} {ok:Bool->Nat->Prop} {μ:List (Option Nat)}:∀ {xs:List AV} {vs:List Value},Qax w ok μ xs vs->Qb1 w ok μ xs vs
 | _,_,.nil=>.nil
 | _,_,.cons _ h hs=>.cons h (Qax.toL hs)
def Enters (P:Program) (g:FuncId):Prop:=∀ (args:Array Value) (w:World),(callFunc g args).run P w=.ok (.enter g args) w
theorem Wp {P:Program} {g:FuncId} {fn:Func} (hf:P.funcs[g]? = some fn) (hn:(fn.name == "runtime.NumGoroutine")=false) (hb:fn.body.isNone=false):Enters P g:=by
 intro args w
 simp only [callFunc,Sem.run_bind,run_program,Result.andThen_ok,hf,hn,hb]
 rfl
def Wjt {γ:Type} (P:Program) (f:FuncId) (Yn:List Row) (args:List AV) (G:γ->Prop) (Wv:γ->List Row) (ret:γ->AV):Prop:=
 ∀ (X:Ctx) (vs:List Value),X.P=P->X.Fits->Yd X ⟨X.μ0,Yn,X.w0⟩->Qb1 X.w0 ((⟨X.μ0,Yn,X.w0⟩:Wt).ok X) X.μ0 args vs ->
  Calls P f vs.toArray X.w0 fun e w'=>∃ g v μ',G g/\e=.returned v/\Zw X ⟨μ',Wv g,w'⟩ (ret g) v
theorem Wh6 {γ:Type} {X:Ctx} {f:FuncId} {k k':List Item} {Q:Frame->Frame->Wt->Prop} {st:St} {G:γ->Prop} {st':γ->St} (h:∀ g,G g->AK X f k' Q (st' g))
  (hs:∀ a C,Sim X st a C->∀ (b:Frame) (cs:List Frame),b.fn=f->∃ g a' C',G g/\Sim X (st' g) a' C'/\Steps X.P (lone (b.atR a k) cs C.w) (lone (b.atR a' k') cs C'.w)):AK X f k Q st:=by
 intro a C hC b cs hb hk
 obtain ⟨g,a',C',hg,h1,h2⟩:=hs a C hC b cs hb
 obtain ⟨C2,fr,q,h3,h4⟩:=h g hg a' C' h1 b cs hb hk
 exact ⟨C2,fr,q,h2.trans h3,h4⟩
theorem Web {γ:Type} {X:Ctx} {P:Program} {f g:FuncId} {k k':List Item} {Q:Frame->Frame->Wt->Prop} {st:St} {G:γ->Prop} {st':γ->St} {Zk args:List AV} {dst:Option Tmp} (ids:List Nat) {Yn:List Row} {Wv:γ->List Row} {ret:γ->AV}
  (hP:X.P=P) (he:Enters P g) (hs:Wjt P g Yn args G Wv ret)
  (e:Qhx st k=some (g,Zk,dst,k')) (hh:Qci st.rows ids Yn) 
  (hp:∀ (C:Wt) (vs:List Value),Yd X C->C.rows=st.rows->Qb1 C.w (C.ok X) C.μ Zk vs->Qb1 C.w ((Qeb X C ids Yn).ok (Qay X C ids)) (Qay X C ids).μ0 args vs)
  (Qcs:∀ x,St.put { st with rows:=Qcn st.rows ids (Wv x) } dst (Qdm (Qa2 ids st.rows.length) (ret x))=some (st' x)) (h:∀ x,G x->AK X f k' Q (st' x)):AK X f k Q st:=by
 subst hP
 unfold Qhx at e
 split at e
 ·rename_i ops i rest k0
  split at e
  ·rename_i o ho
   split at e
   ·rename_i c hc
    split at e
    ·rename_i gv hg
     refine Wh6 h fun a C hC b cs _=>?_
     have Qi4:∃ vs,(execOp a.eval o).run X.P C.w=.ok (.enter g vs.toArray) C.w/\Qb1 C.w (C.ok X) C.μ Zk vs/\guardOf st.tm ops o=some true/\o.dst=dst/\k'=.inRegion ops rest :: k0:=by
      have key:∀ (fid:FuncId) (caps:Array Value),a.eval gv=.func (.func fid) #[] caps->fid=g->(execOp a.eval o).run X.P C.w=.ok (.enter g (c.args.map a.eval ++ caps)) C.w:=by
       rintro fid caps hv rfl
       simp only [execOp,hc,resolve,hg,hv,Deferred.ofValue,Sem.run_bind,Sem.run_pure,Result.andThen_ok,invoke]
       rw [he]
       simp
      split at e
      ·rename_i fid caps xs h1 h2 h3
       injection e with e;injection e with e1 e;injection e with e2 e;injection e with e3 e4
       subst e1;subst e2
       have hv:=hC.val _ _ h2
       obtain ⟨cs,hcs,hr⟩:∃ cs,a.eval gv=.func (.func fid) #[] cs.toArray/\Qax C.w (C.ok X) C.μ caps cs:=by
        generalize a.eval gv=u at hv
        cases hv with
        | fn hv=>exact ⟨_,rfl,hv⟩
       refine ⟨c.args.toList.map a.eval ++ cs, ?_,(Qk8 hC.val h3).append hr.toL,h1,e3,e4.symm⟩
       rw [key fid cs.toArray hcs rfl]
       congr 2
       exact Array.ext' (by simp)
      ·rename_i fid caps xs h1 h2 h3
       injection e with e;injection e with e1 e;injection e with e2 e;injection e with e3 e4
       subst e1;subst e2
       have hv:=hC.val _ _ h2
       obtain ⟨cs,hcs,hr⟩:∃ cs,a.eval gv=.func (.func fid) #[] cs.toArray/\VRs C.w (C.ok X) caps cs:=by
        generalize a.eval gv=u at hv
        cases hv with
        | d hv=>
         cases hv with
         | fn hv=>exact ⟨_,rfl,hv⟩
       refine ⟨c.args.toList.map a.eval ++ cs, ?_,(Qk8 hC.val h3).append (hr.toA).toL,h1,e3,e4.symm⟩
       rw [key fid cs.toArray hcs rfl]
       congr 2
       exact Array.ext' (by simp)
      cases e
     obtain ⟨vs,hx,Qfd,hgd,Qym,rfl⟩:=Qi4
     subst Qym
     rw [<- hC.rows] at hh Qcs
     have Qmr:=hs (Qay X C ids) vs rfl (Qm2 hC.rel hh) (Qoo hC.rel hh) (hp C vs hC.rel hC.rows Qfd)
     obtain ⟨e,w',fr,⟨x,v,μ',hx0,rfl,hd⟩,Ql9,_,Qq0⟩:=Qmr (b.atR a (.inRegion ops (i :: rest) :: k0) :: cs)
     have hgg:=stepGR_op (P:=X.P) (b:=b) (k:=k0) (cs:=cs) (w:=C.w) (rest:=rest) ho (Qft hC hgd)
     rw [Oper.semAt_eq _ _ _ (by intro c' hc';rw [hc] at hc';cases hc')] at hgg
     have Qm7:step X.P (lone (b.atR a (.inRegion ops (i :: rest) :: k0)) cs C.w)=.next (lone (Frame.enter X.P g vs.toArray .normal) (b.atR a (.inRegion ops (i :: rest) :: k0) :: cs) C.w):=
      step_lone_go (by rw [hgg];simp [stepG.apply,hx,Frame.atR])
     have Qfu:(b.atR a (.inRegion ops (i :: rest) :: k0)).finish v=b.atR (a.put o.dst v) (.inRegion ops rest :: k0):=by
      rw [Frame.finish_atR,ho];rfl
     have Qk6:Sim X { st with rows:=(Qbe C ids μ' (Wv x) w').rows } a (Qbe C ids μ' (Wv x) w'):=hC.Qgy (Qom hC.rel hh hd.rel) (Qm1 hC.rel hh hd)
     refine ⟨x,_,Qbe C ids μ' (Wv x) w',hx0,Qk6.put (Qcs x) (Qta hC.rel hh hd),.head Qm7 (Ql9.trans (.one ?_))⟩
     rw [<- Qfu]
     exact step_leave_returned Qq0
    cases e
   cases e
  cases e
 cases e
theorem Xz.toE {P:Program} {f:FuncId} {Yn Wv:List Row} {args:List AV} {ret:AV} (h:Xz P f Yn args Wv ret):Wjt P f Yn args (fun _:Unit=>True) (fun _=>Wv) (fun _=>ret):=
 fun X vs hP hX hR hA=>(h X vs hP hX hR hA).mono fun _ _ ⟨v,μ',h1,h2⟩=>⟨(),v,μ',trivial,h1,h2⟩
theorem Wec {X:Ctx} {P:Program} {f g:FuncId} {k k':List Item} {Q:Frame->Frame->Wt->Prop} {st st':St} {Zk args:List AV} {dst:Option Tmp} (ids:List Nat) {Yn Wv:List Row} {ret:AV}
  (hP:X.P=P) (he:Enters P g) (hs:Xz P g Yn args Wv ret) (e:Qhx st k=some (g,Zk,dst,k')) (hh:Qci st.rows ids Yn)
  (hp:∀ (C:Wt) (vs:List Value),Yd X C->C.rows=st.rows->Qb1 C.w (C.ok X) C.μ Zk vs->Qb1 C.w ((Qeb X C ids Yn).ok (Qay X C ids)) (Qay X C ids).μ0 args vs)
  (hpu:St.put { st with rows:=Qcn st.rows ids Wv } dst (Qdm (Qa2 ids st.rows.length) ret)=some st') (h:AK X f k' Q st'):AK X f k Q st:=
 Web ids hP he hs.toE e hh hp (fun _=>hpu) fun _ _=>h
theorem Wmj {X:Ctx} {st:St} {ids:List Nat} {Yn:List Row} {Zk args:List AV} (hh:Qci st.rows ids Yn) (hp:Qgv st.rows ids (Qa2 ids st.rows.length) Zk args) (C:Wt) (vs:List Value) (hR:Yd X C) (hr:C.rows=st.rows) (hv:Qb1 C.w (C.ok X) C.μ Zk vs):
  Qb1 C.w ((Qeb X C ids Yn).ok (Qay X C ids)) (Qay X C ids).μ0 args vs:=by
 rw [<- hr] at hh hp
 exact Qkv hR hh hp hv
theorem Qol {X:Ctx} {f g:FuncId} {k k':List Item} {Q:Frame->Frame->Wt->Prop} {st st':St} {Zk args:List AV} {dst:Option Tmp} (ids:List Nat) {Yn Wv:List Row} {ret:AV}
  (e:Qhx st k=some (g,Zk,dst,k')) (he:Enters X.P g) (hh:Qci st.rows ids Yn) (hp:Qgv st.rows ids (Qa2 ids st.rows.length) Zk args) (hs:Xz X.P g Yn args Wv ret)
  (Qcs:St.put { st with rows:=Qcn st.rows ids Wv } dst (Qdm (Qa2 ids st.rows.length) ret)=some st') (h:AK X f k' Q st'):AK X f k Q st:=
 Wec ids rfl he hs e hh (Wmj hh hp) Qcs h
end Go.Sy
namespace Go.Sy
section
variable {X:Ctx} {C:Wt}
def Wt.renew (C:Wt) (id:Nat) (ob:Option Nat) (r:Row):Wt:=⟨C.μ ++ [ob],C.rows.set id .gone ++ [r],C.w⟩
theorem Wc8 (h:Yd X C) {id:Nat} {ob:Option Nat} {r:Row} (hμ:C.μ[id]? = some ob) (hr:C.rows[id]? = some r) {b:Nat}:(C.renew id ob r).live b->C.live b:=by
 have hlt:=(List.getElem?_eq_some_iff.1 hr).1
 rintro ⟨i,m,s,h1,h2,h3,h4⟩
 simp only [Wt.renew] at h1 h2
 rcases Qan.1 h1 with h1 | ⟨e1,h1⟩<;>rcases Qan.1 h2 with h2 | ⟨e2,h2⟩
 ·rcases (Qbs hlt).1 h2 with ⟨_,rfl⟩ | ⟨_,h2⟩
  ·cases h3
  exact ⟨i,m,s,h1,h2,h3,h4⟩
 ·have:=(List.getElem?_eq_some_iff.1 h1).1
  have:=h.len
  simp at e2
  omega
 ·have k1:=(List.getElem?_eq_some_iff.1 h2).1
  have k2:=h.len
  simp at k1
  omega
 subst h1
 subst h2
 exact ⟨id,_,r,hμ,hr,h3,h4⟩
theorem Qpg (h:Yd X C) {id:Nat} {ob:Option Nat} {r:Row} (hμ:C.μ[id]? = some ob) (hr:C.rows[id]? = some r):Ev X C (C.renew id ob r):=
 ⟨Nat.le_refl _,fun _ _ _=>rfl,fun b _ hl k=>hl (Wc8 h hμ hr k),fun _ _ _ k=>⟨_,k,rfl⟩,fun _ _ hx=>Qdn hx⟩
theorem Qn5 (h:Yd X C) {id:Nat} {ob:Option Nat} {r:Row} (hμ:C.μ[id]? = some ob) (hr:C.rows[id]? = some r) (Qkh:r.live=true):Yd X (C.renew id ob r):=by
 have ev:=Qpg h hμ hr
 have hlt:=(List.getElem?_eq_some_iff.1 hr).1
 have hlen:=h.len
 have hat:∀ {i:Nat} {b:Option Nat} {s:Row},(C.renew id ob r).μ[i]? = some b->(C.renew id ob r).rows[i]? = some s->s≠.gone->∃ i',C.μ[i']? = some b/\C.rows[i']? = some s/\((i=C.rows.length/\i'=id)\/(i'=i/\i≠id)):=by
  intro i b s h1 h2 hg
  simp only [Wt.renew] at h1 h2
  rcases Qan.1 h1 with h1 | ⟨e1,h1⟩<;>rcases Qan.1 h2 with h2 | ⟨e2,h2⟩
  ·rcases (Qbs hlt).1 h2 with ⟨_,rfl⟩ | ⟨n1,h2⟩
   ·exact absurd rfl hg
   exact ⟨i,h1,h2,.inr ⟨rfl,Ne.symm n1⟩⟩
  ·have:=(List.getElem?_eq_some_iff.1 h1).1
   simp at e2
   omega
  ·have:=(List.getElem?_eq_some_iff.1 h2).1
   simp at this
   omega
  subst h1
  subst h2
  simp at e2
  exact ⟨id,hμ,hr,.inl ⟨e2,rfl⟩⟩
 refine ⟨by simp [Wt.renew,hlen],h.os,h.tape,h.output,h.size,h.keep,h.shape,fun i x hx=>Qdn (h.first i x hx), ?_, ?_, ?_, ?_, ?_⟩
 ·intro i b hb
  simp only [Wt.renew] at hb
  rcases Qan.1 hb with hb | ⟨_,hb⟩
  ·exact h.place i b hb
  subst hb
  exact h.place id b hμ
 ·intro i j b p q h1 h2 h3 h4 h5 h6
  obtain ⟨i',a1,a2,a3⟩:=hat h1 h3 (by rintro rfl;cases h5)
  obtain ⟨j',b1,b2,b3⟩:=hat h2 h4 h6
  have:=h.apart i' j' b p q a1 b1 a2 b2 h5 h6
  omega
 ·intro i m b p h1 h2 h3
  obtain ⟨i',a1,a2,a3⟩:=hat h1 h2 (by rintro rfl;cases h3)
  exact h.Qco i' m b p a1 a2 h3
 ·intro i j m n b p q h1 h2 h3 h4 h5 h6
  obtain ⟨i',a1,a2,a3⟩:=hat h1 h3 (by rintro rfl;cases h5)
  obtain ⟨j',b1,b2,b3⟩:=hat h2 h4 h6
  have:=h.Qbt i' j' m n b p q a1 b1 a2 b2 h5 h6
  exact ⟨this.1,fun h7=>by have:=this.2 h7;omega⟩
 intro i o s h1 h2
 simp only [Wt.renew] at h1 h2
 rcases Qan.1 h1 with h1 | ⟨e1,h1⟩<;>rcases Qan.1 h2 with h2 | ⟨e2,h2⟩
 ·rcases (Qbs hlt).1 h2 with ⟨_,rfl⟩ | ⟨n1,h2⟩
  ·cases o<;>trivial
  exact (h.rel i o s h1 h2).mono ev.ok ev.same ev.pre ev.shape (fun _ _=>rfl) (fun _ _=>rfl)
 ·have:=(List.getElem?_eq_some_iff.1 h1).1
  simp at e2
  omega
 ·have:=(List.getElem?_eq_some_iff.1 h2).1
  simp at this
  omega
 subst h1
 subst h2
 exact (h.rel id ob r hμ hr).mono ev.ok ev.same ev.pre ev.shape (fun _ _=>rfl) (fun _ _=>rfl)
theorem Qk5 (h:Yd X C) {id b:Nat} {r:Row} (hμ:C.μ[id]? = some (some b)) (hr:C.rows[id]? = some r) (hl:r.live=true) (hx:∀ w m,r.ext w m=[]:=by intros;rfl):Qjp X C id b r .gone C.w:=
 ⟨hμ,hr,hl,rfl,rfl,⟨rfl,Nat.le_refl _⟩,rfl,fun _ _=>rfl,fun _ _ k=>⟨_,k,rfl⟩,hx,fun _ _=>rfl⟩
theorem Whq (h:Yd X C) {id:Nat} (hμ:C.μ[id]? = some none):Yd X ⟨C.μ,C.rows.set id .gone,C.w⟩/\Ev X C ⟨C.μ,C.rows.set id .gone,C.w⟩:=by
 have Qkh:∀ {b:Nat},(⟨C.μ,C.rows.set id .gone,C.w⟩:Wt).live b->C.live b:=by
  rintro b ⟨i,m,s,h1,h2,h3,h4⟩
  simp only [List.getElem?_set] at h2
  split at h2
  ·split at h2
   ·injection h2 with h2;subst h2;cases h3
   cases h2
  exact ⟨i,m,s,h1,h2,h3,h4⟩
 have ev:Ev X C ⟨C.μ,C.rows.set id .gone,C.w⟩:=⟨Nat.le_refl _,fun _ _ _=>rfl,fun _ _ hl k=>hl (Qkh k),fun _ _ _ k=>⟨_,k,rfl⟩,fun _ _ hx=>hx⟩
 have Qip:∀ {i:Nat} {s:Row},(C.rows.set id .gone)[i]? = some s->s≠.gone->C.rows[i]? = some s:=by
  intro i s h2 hg
  simp only [List.getElem?_set] at h2
  split at h2
  ·split at h2
   ·injection h2 with h2;exact absurd h2.symm hg
   cases h2
  exact h2
 refine ⟨⟨by simp [h.len],h.os,h.tape,h.output,h.size,h.keep,h.shape,h.first,h.place, ?_, ?_, ?_, ?_⟩,ev⟩
 ·intro i j b p q h1 h2 h3 h4 h5 h6
  exact h.apart i j b p q h1 h2 (Qip h3 (by rintro rfl;cases h5)) (Qip h4 h6) h5 h6
 ·intro i m b p h1 h2 h3
  exact h.Qco i m b p h1 (Qip h2 (by rintro rfl;cases h3)) h3
 ·intro i j m n b p q h1 h2 h3 h4 h5 h6
  exact h.Qbt i j m n b p q h1 h2 (Qip h3 (by rintro rfl;cases h5)) (Qip h4 h6) h5 h6
 intro i o s h1 h2
 by_cases hg:s=.gone
 ·subst hg;cases o<;>trivial
 exact (h.rel i o s h1 (Qip h2 hg)).mono ev.ok ev.same ev.pre ev.shape (fun _ _=>rfl) (fun _ _=>rfl)
structure Source (C:Wt) (X:Ctx) (k m:Nat) (gs:Nat->List DV) (u:Value) (news:List Value):Prop where
 shape:∃ A c,u=.slice A m c/\(0 < m->∃ ad,A=some ad/\∀ (j:Nat) v,news[j]? = some v->C.w.cell? (ad.add j)=some v)
 len:news.length=m * k
 rel:∀ i,i < m->VRs C.w (C.ok X) (gs i) ((news.drop (i * k)).take k)
 one:∀ v∈news,v.oneCell'=true
theorem Qwt {vs:Nat->List Value} {k n:Nat} (hk:∀ i,i < n->(vs i).length=k):∃ xs:List Value,xs.length=n * k/\(∀ i j v,i < n->(vs i)[j]? = some v->xs[i * k+j]? = some v)/\(∀ i,i < n->(xs.drop (i * k)).take k=vs i)/\(∀ v∈xs,∃ i,i < n/\v∈vs i):=by
 let ls:=(List.range n).map vs
 have hl:∀ l∈ls,l.length=k:=by
  intro l h
  obtain ⟨i,hi,rfl⟩:=List.mem_map.1 h
  exact hk i (by simpa using hi)
 have hat:∀ i,i < n->ls[i]? = some (vs i):=by
  intro i hi
  simp [ls,hi]
 refine ⟨ls.flatten,by rw [Qpi hl];simp [ls],fun i j v hi hj=>Qm6 hl (hat i hi) hj,fun i hi=>?_,fun v hv=>?_⟩
 ·apply List.ext_getElem?
  intro j
  rw [List.getElem?_take]
  split
  ·rename_i hj
   rw [List.getElem?_drop]
   have hj':j < (vs i).length:=by rw [hk i hi];exact hj
   rw [Qm6 hl (hat i hi) (List.getElem?_eq_getElem hj'),List.getElem?_eq_getElem hj']
  rename_i hj
  rw [List.getElem?_eq_none (by rw [hk i hi];omega)]
 obtain ⟨l,h1,h2⟩:=List.mem_flatten.1 hv
 obtain ⟨i,hi,rfl⟩:=List.mem_map.1 h1
 exact ⟨i,by simpa using hi,h2⟩
variable {T:Tab}
set_option maxHeartbeats 1000000 in
theorem Qss (hT:Xb X.P T) (h:Yd X C) {id k m n by':Nat} {t e ty:TypeId} {z:List Value} {g gs g':Nat->List DV} {v u:Value} {news:List Value}
  (hr:C.rows[id]? = some (.flat false k e n g)) (hv:AVR C.w (C.ok X) C.μ (.own id k 0 n) v) (ht:T.Qdr.lookup t=some e) (hi:T.info.lookup e=some (k,by',z)) (hz:z.length=k) (hk:0 < k)
  (src:Source C X k m gs u news) (hb:(n+m) * by'<=140737488355328) (Qvb:n+m<=9223372036854775807) (h1:∀ i,i < n->g' i=g i) (h2:∀ i,i < m->g' (n+i)=gs i):
  ∃ v' C',(Builtin.append_ #[t,t] ty #[v,u]).run X.P C.w=.ok v' C'.w/\C'.rows=C.rows.set id .gone ++ [.flat false k e (n+m) g']/\Yd X C'/\Ev X C C'/\AVR C'.w (C'.ok X) C'.μ (.own C.rows.length k 0 (n+m)) v':=by
 obtain ⟨i0,hi0,hs0,hb0,hz0⟩:=hT.infoAt hi
 obtain ⟨zv,hzv,hzc⟩:=Option.map_eq_some_iff.1 hz0
 have hu:=hT.slice ht
 obtain ⟨A,c,rfl,Qve⟩:=src.shape
 have hzs:zv.cells.size=k:=by rw [hzc];simpa using hz
 have hlt:=(List.getElem?_eq_some_iff.1 hr).1
 -- what the new row's cells are
 have Qu6:∀ (old:List Value) (cur:Array Value),old.length=n * k->(∀ i,i < n->VRs C.w (C.ok X) (g i) ((old.drop (i * k)).take k))->cur.toList.take ((n+m) * k)=old ++ news ->
   (n+m) * k<=cur.size->∀ (C':Wt),Ev X C C'->∀ b,C'.w.heap[b]? = some (.cells cur e (0,0))->Qcz C'.w (C'.ok X) C'.μ (some b) (.flat false k e (n+m) g'):=by
  intro old cur ho Jz htk hsz C' ev b hh
  have hlen:(old ++ news).length=(n+m) * k:=by rw [List.length_append,ho,src.len,Nat.add_mul]
  refine ⟨cur,fun i=>((old ++ news).drop (i * k)).take k,hh,hsz, ?_, ?_, ?_⟩
  ·intro i hi
   rw [List.length_take,List.length_drop,hlen]
   have:i * k+k<=(n+m) * k:=by rw [<- Nat.succ_mul];exact Nat.mul_le_mul_right k hi
   omega
  ·intro i hi
   show VRs _ _ (g' i) (((old ++ news).drop (i * k)).take k)
   by_cases hin:i < n
   ·rw [h1 i hin]
    have e1:i * k+k<=n * k:=by rw [<- Nat.succ_mul];exact Nat.mul_le_mul_right k hin
    have:((old ++ news).drop (i * k)).take k=(old.drop (i * k)).take k:=by
     rw [List.drop_append_of_le_length (by rw [ho];omega),List.take_append_of_le_length (by rw [List.length_drop,ho];omega)]
    rw [this]
    exact (Jz i hin).mono ev.ok ev.same
   obtain ⟨q,rfl⟩:∃ q,i=n+q:=⟨i - n,by omega⟩
   rw [h2 q (by omega)]
   have:((old ++ news).drop ((n+q) * k)).take k=(news.drop (q * k)).take k:=by
    rw [Nat.add_mul,List.drop_append,List.drop_of_length_le (by rw [ho];omega),List.nil_append,ho,Nat.add_sub_cancel_left]
   rw [this]
   exact (src.rel q (by omega)).mono ev.ok ev.same
  intro i j w hi hj
  have:=Qmp hj
  rw [<- htk] at this
  rw [List.getElem?_take] at this
  split at this
  ·simpa using this
  cases this
 have Wiu:∀ (C':Wt) (b c':Nat) (cur:Array Value),C'.μ[C.rows.length]? = some (some b)->C'.w.heap[b]? = some (.cells cur e (0,0))->c' * k=cur.size->n+m<=c'->c'<=maxLen ->
   AVR C'.w (C'.ok X) C'.μ (.own C.rows.length k 0 (n+m)) (.slice (some ⟨b,0,none⟩) (n+m) c'):=by
  intro C' b c' cur e1 e2 e3 e4 e5
  have:=AVR.own (w:=C'.w) (ok:=C'.ok X) (μ:=C'.μ) (off:=0) (k:=k) (n:=n+m) e1 e2 (by rw [Nat.zero_add];exact e3) e4 e5
  rwa [Nat.zero_mul] at this
 -- a new array
 have fresh:∀ (C1:Wt),Yd X C1->Ev X C C1->C1.rows=C.rows.set id .gone->∀ (old:List Value) (q:Nat),q < n+m->old.length=n * k->(∀ i,i < n->VRs C.w (C.ok X) (g i) ((old.drop (i * k)).take k)) ->
   C1.w=C.w->(Builtin.append_ #[t,t] ty #[v,.slice A m c]).run X.P C.w=.ok (.slice (some ⟨C.w.heap.size,0,none⟩) (n+m) (grownCap C.w (n+m) q e))
    (C.w.drew.alloc (.cells (old.toArray ++ news.toArray ++ Builtin.zeroCells zv.cells (grownCap C.w (n+m) q e - (n+m))) e)) ->
   ∃ v' C',(Builtin.append_ #[t,t] ty #[v,.slice A m c]).run X.P C.w=.ok v' C'.w/\C'.rows=C.rows.set id .gone ++ [.flat false k e (n+m) g']/\Yd X C'/\Ev X C C'/\AVR C'.w (C'.ok X) C'.μ (.own C.rows.length k 0 (n+m)) v':=by
  intro C1 hC1 ev1 Qi9 old q hq ho Jz hw Qi4
  have hge:=grownCap_ge C.w (n+m) q e
  have hcm:grownCap C.w (n+m) q e<=maxLen:=grownCap_le_maxLen C.w (n+m) q e (by simp only [maxLen];omega)
  let cur:Array Value:=old.toArray ++ news.toArray ++ Builtin.zeroCells zv.cells (grownCap C.w (n+m) q e - (n+m))
  have hcs:cur.size=grownCap C.w (n+m) q e * k:=by
   simp only [cur,Array.size_append,List.size_toArray,size_zeroCells,hzs,ho,src.len,<- Nat.add_mul]
   congr 1
   omega
  have htk:cur.toList.take ((n+m) * k)=old ++ news:=by
   have hlen:(old ++ news).length=(n+m) * k:=by rw [List.length_append,ho,src.len,Nat.add_mul]
   simp only [cur,Array.toList_append,List.append_assoc]
   rw [<- List.append_assoc,<- hlen]
   exact List.take_left
  have hd:=hC1.drew
  have ev2:=Ev.push hd (.cells cur e) (.flat false k e (n+m) g')
  have ev:=(ev1.trans Ev.drew).trans ev2
  have Qnx:C1.drew.w.heap.size=C.w.heap.size:=by rw [Wt.drew,hw];rfl
  refine ⟨.slice (some ⟨C.w.heap.size,0,none⟩) (n+m) (grownCap C.w (n+m) q e),C1.drew.push (.cells cur e) (.flat false k e (n+m) g'), ?_,by simp [Wt.push,Wt.drew,Qi9],Yd.push hd ?_,ev, ?_⟩
  ·rw [Qi4,Wt.push,Wt.drew,hw]
  ·exact Qu6 old cur ho Jz htk (by rw [hcs];exact Nat.mul_le_mul_right k hge) _ ev _ (heap_alloc_new _ _)
  refine Wiu _ C.w.heap.size _ cur ?_ ?_ hcs.symm hge hcm
  ·have:C1.μ.length=C.rows.length:=by rw [hC1.len,Qi9];simp
   simp [Wt.push,<- this,Qnx,Wt.drew]
   rw [hw]
  rw [<- Qnx]
  exact heap_alloc_new _ _
 cases hv with
 | Qcc hμ=>
  obtain ⟨hg1,hg2⟩:=Whq h hμ
  by_cases hm:m=0
  ·subst hm
   have hn:news=[]:=List.eq_nil_of_length_eq_zero (by simpa using src.len)
   subst hn
   have Qi4:(Builtin.append_ #[t,t] ty #[.slice none 0 0,.slice A 0 c]).run X.P C.w=.ok (.slice none 0 0) C.w:=by
    cases A<;>simp [Builtin.append_,run_underlying hu,sizeOf,typeInfo,hi0,Builtin.lenOf,Builtin.firstCells,loadCells,loadCellsFrom]
   have hvr:Yd X ((⟨C.μ,C.rows.set id .gone,C.w⟩:Wt).Qdu (.flat false k e 0 g')):=Yd.Qdu hg1 rfl
   refine ⟨_,(⟨C.μ,C.rows.set id .gone,C.w⟩:Wt).Qdu (.flat false k e 0 g'),Qi4,rfl,hvr,hg2.trans (Ev.Qdu hg1 _), ?_⟩
   refine .Qcc ?_
   simp [Wt.Qdu,<- h.len]
  obtain ⟨ad,rfl,Qhl⟩:=Qve (by omega)
  have hr2:=run_append_nil (P:=X.P) C.w t ty e i0 zv hu hi0 hzv ad m c news (by rw [hs0];exact src.len) Qhl (by omega) (by omega) (by rw [hb0];simp only [Nat.zero_add] at hb;omega)
  refine fresh _ hg1 hg2 rfl [] 0 (by omega) (by simp) (fun i hi=>by omega) rfl ?_
  simpa using hr2
 | own hμ hh hs hn hc=>
  rename_i b cap cur ty'
  simp only [Nat.zero_mul,Nat.zero_add] at hs fresh ⊢
  obtain ⟨cur',vs,e1,e2,e3,e4,e5⟩:=h.rel id _ _ hμ hr
  rw [hh] at e1
  injection e1 with e1
  injection e1 with e1 e1'
  subst e1
  have e1':=e1'.symm
  subst e1'
  obtain ⟨old,o1,o2,o3,o4⟩:=Qwt e3
  have hold:old=cur.toList.take (n * k):=by
   apply List.ext_getElem?
   intro j
   by_cases hj:j < n * k
   ·have hi':j / k < n:=Nat.div_lt_of_lt_mul (by rwa [Nat.mul_comm] at hj)
    have hjj:j % k < (vs (j / k)).length:=by rw [e3 _ hi'];exact Nat.mod_lt _ hk
    have key:j / k * k+j % k=j:=by rw [Nat.mul_comm];exact Nat.div_add_mod j k
    have a1:=o2 (j / k) (j % k) _ hi' (List.getElem?_eq_getElem hjj)
    have a2:=e5 (j / k) (j % k) _ hi' (List.getElem?_eq_getElem hjj)
    rw [key] at a1 a2
    rw [a1,List.getElem?_take_of_lt hj]
    simpa using a2.symm
   rw [List.getElem?_eq_none (by omega),List.getElem?_eq_none (by simp;omega)]
  have Jz:∀ i,i < n->VRs C.w (C.ok X) (g i) ((old.drop (i * k)).take k):=fun i hi=>by rw [o3 i hi];exact e4 i hi
  by_cases hm:m=0
  ·subst hm
   have hn0:news=[]:=List.eq_nil_of_length_eq_zero (by simpa using src.len)
   subst hn0
   have Qi4:(Builtin.append_ #[t,t] ty #[.slice (some ⟨b,0,none⟩) n cap,.slice A 0 c]).run X.P C.w=.ok (.slice (some ⟨b,0,none⟩) n cap) C.w:=by
    cases A<;>simp [Builtin.append_,run_underlying hu,sizeOf,typeInfo,hi0,Builtin.lenOf,Builtin.firstCells,loadCells,loadCellsFrom,hn,storeCells]
   have tu:Qjp X C id b (.flat false k e n g) (.flat false k e (n+0) g') C.w:=⟨hμ,hr,rfl,rfl,rfl,⟨rfl,Nat.le_refl _⟩,rfl,fun _ _=>rfl,fun _ _ k=>⟨_,k,rfl⟩,fun _ _=>rfl,fun _ _=>rfl⟩
   have ev1:=Ev.Qah h tu
   have hC1:=Yd.Qah h tu (.inl (by simp)) (Qu6 old cur o1 Jz (by simpa using hold.symm) (by simpa using e2) _ ev1 b hh)
   have hr1:(C.Qah id (.flat false k e (n+0) g') C.w).rows[id]? = some (.flat false k e (n+0) g'):=by simp [Wt.Qah,hlt]
   have hμ1:(C.Qah id (.flat false k e (n+0) g') C.w).μ[id]? = some (some b):=hμ
   refine ⟨.slice (some ⟨b,0,none⟩) n cap,(C.Qah id (.flat false k e (n+0) g') C.w).renew id (some b) (.flat false k e (n+0) g'),Qi4, ?_,Qn5 hC1 hμ1 hr1 rfl,ev1.trans (Qpg hC1 hμ1 hr1), ?_⟩
   ·simp [Wt.renew,Wt.Qah]
   refine Wiu _ b cap cur ?_ hh hs hn hc
   simp [Wt.renew,Wt.Qah,<- h.len]
  obtain ⟨ad,rfl,Qhl⟩:=Qve (by omega)
  by_cases Qlz:n+m<=cap
  ·have Wct:n * i0.size+news.length<=cur.size:=by
    rw [src.len,<- hs,hs0,<- Nat.add_mul]
    exact Nat.mul_le_mul_right _ Qlz
   have Qi4:=run_append_room (P:=X.P) C.w t ty e i0 hu hi0 b n cap cur hh ad m c news (by rw [hs0];exact src.len) Qhl src.one Qlz Wct
   rw [hs0] at Qi4 Wct
   let Qmh:Array Value:=(cur.toList.take (n * k) ++ news ++ cur.toList.drop (n * k+news.length)).toArray
   have Qvf:Qmh.size=cur.size:=by
    simp only [Qmh,List.size_toArray,List.length_append,List.length_take,List.length_drop,Array.length_toList]
    omega
   have tu:Qjp X C id b (.flat false k e n g) (.flat false k e (n+m) g') (C.w.setRow b Qmh):=Qjo h hμ hr rfl hh Qvf
   have ev1:=Ev.Qah h tu
   have hh2:(C.w.setRow b Qmh).heap[b]? = some (.cells Qmh e (0,0)):=setRow_heap _ _ _ _ _ _ hh
   have htk:Qmh.toList.take ((n+m) * k)=old ++ news:=by
    have hlen:(old ++ news).length=(n+m) * k:=by rw [List.length_append,o1,src.len,Nat.add_mul]
    simp only [Qmh]
    rw [<- hold,<- hlen]
    exact List.take_left
   have hC1:=Yd.Qah h tu (.inl (by simp)) (Qu6 old Qmh o1 Jz htk (by rw [Qvf,<- hs];exact Nat.mul_le_mul_right k Qlz) _ ev1 b hh2)
   have hr1:(C.Qah id (.flat false k e (n+m) g') (C.w.setRow b Qmh)).rows[id]? = some (.flat false k e (n+m) g'):=by simp [Wt.Qah,hlt]
   have hμ1:(C.Qah id (.flat false k e (n+m) g') (C.w.setRow b Qmh)).μ[id]? = some (some b):=hμ
   refine ⟨.slice (some ⟨b,0,none⟩) (n+m) cap,(C.Qah id (.flat false k e (n+m) g') (C.w.setRow b Qmh)).renew id (some b) (.flat false k e (n+m) g'),Qi4, ?_,Qn5 hC1 hμ1 hr1 rfl,ev1.trans (Qpg hC1 hμ1 hr1), ?_⟩
   ·simp [Wt.renew,Wt.Qah]
   refine Wiu _ b cap Qmh ?_ hh2 (by rw [Qvf];exact hs) Qlz hc
   simp [Wt.renew,Wt.Qah,<- h.len]
  have hholds:∀ (j:Nat) v,old[j]? = some v->C.w.cell? ((⟨b,0,none⟩:Addr).add j)=some v:=by
   intro j v hj
   rw [Qja,Nat.zero_add,cell_of_row _ _ _ _ _ _ hh]
   rw [hold] at hj
   have:=hj
   rw [List.getElem?_take] at this
   split at this
   ·simpa using this
   cases this
  have Qi4:=run_append_grow (P:=X.P) C.w t ty e i0 zv hu hi0 hzv ⟨b,0,none⟩ n cap old (by rw [hs0];exact o1) hholds ad m c news (by rw [hs0];exact src.len) Qhl (by omega) (by omega) (growslice_fits (by omega) (by rw [hb0];exact hb))
  have tu:=Qk5 h hμ hr rfl
  have ev1:=Ev.Qah h tu
  have hC1:=Yd.Qah h tu (.inr rfl) trivial
  exact fresh _ hC1 ev1 rfl old cap (by omega) o1 Jz rfl Qi4
end
end Go.Sy
