/- Yield, the statement itself, and leaving behind it. -/
import Derived.Test.YticmlllaimjdcaaGreatSyM
import Derived.RangeFuncLeaves
import Derived.Shelf.SlSortCmp.NoneTotal
set_option linter.unusedVariables false
set_option linter.unusedSimpArgs false
namespace Go.Sy
section
variable {X:Ctx}
def Wa0 (st:St):List Item->Option (Nat × AV × Option Tmp × List Item)
 | .inRegion ops (i :: rest) :: k=>
  match ops[i]? with
  | some o=>
   match o.op with
   | .call c=>
    match c.callee,c.args.toList with
    | .value g,[x]=>
     match guardOf st.tm ops o,valOf st.tm g,valOf st.tm x with
     | some true,some (.d (.v (.func (.yield l) fa fc))),some av=>bif fa.isEmpty && fc.isEmpty then some (l,av,o.dst,.inRegion ops rest :: k) else none
     | _,_,_=>none
    | _,_=>none
   | _=>none
  | none=>none
 | _=>none
theorem Wh8 {P:Program} {f:FuncId} {k k':List Item} {Q:Frame->Frame->Wt->Prop} {st st':St} {l:Nat} {av x:AV} {dst:Option Tmp} (S ids:List Nat) {Yn Wv:List Row} (hP:X.P=P) (hs:Qqh P l Yn x Wv)
  (e:Wa0 st k=some (l,av,dst,k')) (hh:Qci st.rows ids Yn) (hp:Qgv st.rows ids (Qa2 ids st.rows.length) [av] [x])
  (Qcs:(St.put { st with rows:=Qcn st.rows ids Wv } dst (.d (.v (.bool true)))).map (St.only S)=some st') (h:AK X f k' Q st'):AK X f k Q st:=by
 subst hP
 obtain ⟨s0,hput1,rfl⟩:=Option.map_eq_some_iff.1 Qcs
 clear Qcs
 unfold Wa0 at e
 split at e
 ·rename_i ops i rest k0
  split at e
  ·rename_i o ho
   split at e
   ·rename_i c hc
    split at e
    ·rename_i g x0 hg Qfd
     split at e
     ·rename_i l0 fa fc av0 hgd hv hx
      cases hb:fa.isEmpty && fc.isEmpty with
      | false=>rw [hb] at e;cases e
      | true=>
       rw [hb] at e
       simp only [cond_true,Option.some.injEq,Prod.mk.injEq] at e
       obtain ⟨rfl,rfl,rfl,rfl⟩:=e
       simp only [Bool.and_eq_true,Array.isEmpty_iff] at hb
       obtain ⟨rfl,rfl⟩:=hb
       refine Qko (Qel S h) fun a C hC b cs _=>?_
       have hg2:=(hC.val _ _ hv).Qep
       have hx2:=hC.val _ _ hx
       have hargs':c.args=#[x0]:=by rw [<- Array.toArray_toList (xs:=c.args),Qfd]
       rw [<- hC.rows] at hh hp hput1
       have hpx:=Qkv hC.rel hh hp (Qb1.cons hx2 .nil)
       obtain ⟨fn,tmps,asg,body,hy,hround⟩:=hs (Qay X C ids) (a.eval x0) rfl (Qm2 hC.rel hh) (Qoo hC.rel hh) (by cases hpx with | cons h _=>exact h)
       have hxe:(execOp a.eval o).run X.P C.w=.ok (.round l0 fn tmps asg body) C.w:=by
        simp only [execOp,hc,resolve,hg,hg2,Deferred.ofValue,Sem.run_bind,Sem.run_pure,Result.andThen_ok,invoke,hargs']
        simpa [Qay] using hy
       have hgg:=stepGR_op (P:=X.P) (b:=b) (k:=k0) (cs:=cs) (w:=C.w) (rest:=rest) ho (Qft hC hgd)
       rw [Oper.semAt_eq _ _ _ (by intro c' hc';rw [hc] at hc';cases hc')] at hgg
       obtain ⟨w',μ',hd,Ql9⟩:=hround (b.atR a (.inRegion ops (i :: rest) :: k0)) cs
       have Qm7:step X.P (lone (b.atR a (.inRegion ops (i :: rest) :: k0)) cs C.w)=.next (lone (Frame.round l0 fn tmps asg body .normal) (b.atR a (.inRegion ops (i :: rest) :: k0) :: cs) C.w):=
        step_lone_go (by rw [hgg];simp [stepG.apply,hxe,Frame.atR])
       have Qfu:(b.atR a (.inRegion ops (i :: rest) :: k0)).finish (.bool true)=b.atR (a.put o.dst (.bool true)) (.inRegion ops rest :: k0):=by
        rw [Frame.finish_atR,ho];rfl
       rw [Qfu] at Ql9
       have Qk6:Sim X { st with rows:=(Qbe C ids μ' Wv w').rows } a (Qbe C ids μ' Wv w'):=hC.Qgy (Qom hC.rel hh hd.rel) (Qm1 hC.rel hh hd)
       exact ⟨_,Qbe C ids μ' Wv w',Qk6.put hput1 (.d (.v rfl)),.head Qm7 Ql9⟩
     cases e
    cases e
   cases e
  cases e
 cases e
theorem Wkc {f:FuncId} {fn:Func} {Wv:List Row} {ret av:AV} {st:St} {k:List Item} {D:Nat} (id:Nat) (hf:X.P.funcs[f]? = some fn) (hX:X.ds=[{ target:=.collected D,args:=#[] }]/\X.rnd=none) (hr:st.rows[id]? = some (.dfr D))
  (e:Ql2 st.tm fn.results.toList=some av) (Zp:List Nat) (hid:id ∉ Zp) (hs:Sel st.rows (Qdf Zp st.rows.length) Zp Wv) (hn:Zp.Nodup) (h0:Zp.take X.μ0.length=List.range X.μ0.length) (Qh2:av=Qdm (Qdf Zp st.rows.length) ret)
  (nr:∀ r∈Wv,NR r) (na:NA ret):AK X f (.code .ret :: k) (Yc X.plain Wv ret) st:=by
 intro a C hC b cs hb hk
 have hrC:C.rows[id]? = some (.dfr D):=by rw [hC.rows];exact hr
 obtain ⟨ob,hμ⟩:=hC.rel.Qh4 hrC
 have hd:=hC.rel.rel id ob _ hμ hrC
 cases ob with
 | none=>exact hd.elim
 | some q=>
  obtain ⟨rfl,hd⟩:=hd
  have tu:Qjp X C id q (.dfr q) .gone (C.w.putObj q (.deferred none)):=⟨hμ,hrC,rfl,rfl,rfl,⟨rfl,Nat.le_refl _⟩,by simp [World.putObj],fun j hj=>World.putObj_heap_other hj,fun cs ty hc=>(by rw [hd] at hc;cases hc),fun _ _=>rfl,fun _ _=>rfl⟩
  have ev:=Ev.Qah hC.rel tu
  have Wcx:=Yd.Qah hC.rel tu (.inr rfl) trivial
  have hm:=hC.Qgy ev Wcx
  obtain ⟨v,r1,r2⟩:=Qwr hm (fn:=fn) (av:=av) e
  let C1:=C.Qah id .gone (C.w.putObj q (.deferred none))
  have Wcz:Sel C1.rows (Qdf Zp C1.rows.length) Zp Wv:=by
   have hl:C1.rows.length=st.rows.length:=by simp [C1,Wt.Qah,hC.rows]
   rw [hl]
   have gen:∀ {Wdt:List Nat} {rs:List Row},Sel st.rows (Qdf Zp st.rows.length) Wdt rs->id ∉ Wdt->Sel C1.rows (Qdf Zp st.rows.length) Wdt rs:=by
    intro Wdt rs hs
    induction hs with
    | nil=>exact fun _=>.nil
    | cons h1 _ ih=>
     intro hni
     simp only [List.mem_cons,not_or] at hni
     exact .cons (by simp only [C1,Wt.Qah,hC.rows];rw [List.getElem?_set_ne hni.1];exact h1) (ih hni.2)
   exact gen hs hid
  have p:Qkz X C1 Zp Wv:=by
   refine ⟨Wcz,hn,fun j hj=>?_⟩
   have:(Zp.take X.μ0.length)[j]? = some j:=by rw [h0];simp [hj]
   rw [List.getElem?_take_of_lt hj] at this
   exact this
  have Jz:=Qox Wcx p
  have Qm8:∀ b,(Qd1 C1 Zp Wv).ok X true b->(Qd1 C1 Zp Wv).okR X true b:=fun _ h=>⟨rfl,h⟩
  have s1:=stepR_ret (P:=X.P) (b:=b) (a:=a) (k:=k) (cs:=cs) (w:=C.w) (hk.2.trans hX.2)
  have hdf:({ b.atR a (.code .ret :: k) with mode:=.returning }:Frame).defers=({ target:=.collected q,args:=#[] }:Deferred) :: []:=hC.defers.trans hX.1
  have s2:=step_collected (P:=X.P) (cs:=cs) (w:=C.w) (fr:={ b.atR a (.code .ret :: k) with mode:=.returning }) (by simp) hdf rfl (run_takeDeferred hd)
  refine ⟨Qd1 C1 Zp Wv,_,⟨v,rfl,⟨Jz.plain, ?_, ?_⟩, ?_⟩,.head s1 (.one s2),hb⟩
  ·intro j ob r e1 e2
   exact (Jz.rel j ob r e1 e2).perm Qm8 (nr r (List.mem_of_getElem? e2))
  ·have hl:C1.rows.length=st.rows.length:=by simp [C1,Wt.Qah,hC.rows]
   rw [Qh2,<- hl] at r2
   exact (Qrd Wcx p r2).perm Qm8 na
  exact ⟨rfl,rfl,hk.1,fn,by show X.P.funcs[b.fn]? = _;rw [hb];exact hf,r1⟩
def Ctx.mark (X:Ctx) (D:Nat):Ctx:={ X with ds:=[{ target:=.collected D,args:=#[] }],rnd:=none }
theorem Wdb (D:Nat) (hX:X.ds=[]/\X.rnd=none):(X.mark D).plain=X:=by
 obtain ⟨P,w0,μ0,okp,ds,rnd⟩:=X
 obtain ⟨h1,h2⟩:=hX
 simp only at h1 h2
 subst h1
 subst h2
 rfl
theorem Yd.mark {C:Wt} (D:Nat) (h:Yd X C):Yd (X.mark D) C:=⟨h.len,h.os,h.tape,h.output,h.size,h.keep,h.shape,h.first,h.place,h.apart,h.Qco,h.Qbt,h.rel⟩
theorem Qwv {st:St} {a:Act} {C:Wt} (h:Sim X st a C):∀ {is:List Nat} {xs:List AV},is.map (fun i=>st.tm.lookup i)=xs.map some ->
  ∃ vs,Qb1 C.w (C.ok X) C.μ xs vs/\∀ (j i:Nat) v,is[j]? = some i->vs[j]? = some v->a.tmps[i]? = some v
 | [],[],_=>⟨[],.nil,fun _ _ _ h=>by simp at h⟩
 | [],_ :: _,e=>by simp at e
 | _ :: _,[],e=>by simp at e
 | i :: is,x :: xs,e=>by
  simp only [List.map_cons,List.cons.injEq] at e
  obtain ⟨v,h1,h2⟩:=h.tm i x e.1
  obtain ⟨vs,h3,h4⟩:=Qwv h e.2
  refine ⟨v :: vs,.cons h2 h3,fun j q u hj hu=>?_⟩
  cases j with
  | zero=>
   simp at hj hu
   subst hj
   subst hu
   exact h1
  | succ j=>exact h4 j q u (by simpa using hj) (by simpa using hu)
def Qpv (rows:List Row) (D:Nat) (f:FuncId) (nt:Nat) (is:List Nat) (xs:List AV) (p:Tmp) (asg body:Code):List Row:=rows ++ [.dfr D,.loop (D+1) .ready f nt is xs #[p] asg body]
set_option maxHeartbeats 1000000 in
theorem Qx3 {P:Program} {f g:FuncId} {fop:Operand} {p:Tmp} {asg body:Code} {k:List Item} {Q:Frame->Frame->Wt->Prop} {st:St} {caps:List DV} {ret:AV} (is:List Nat) (xs xs':List AV) (ids:List Nat) (Yn Wv:Nat->List Row) (args:Nat->List AV)
  (hP:X.P=P) (hX:X.ds=[]/\X.rnd=none) (hv:valOf st.tm fop=some (.d (.fn g caps))) (he:Enters P g) (hxs:is.map (fun i=>st.tm.lookup i)=xs.map some)
  (hs:∀ l,Xz P g (Yn l) (args l) (Wv l) ret)
  (hh:∀ D,Qci (Qpv st.rows D f st.nt is xs p asg body) ids (Yn (D+1)))
  (hp:∀ D,Qgv (Qpv st.rows D f st.nt is xs p asg body) ids (Qa2 ids (Qpv st.rows D f st.nt is xs p asg body).length) (.d (.v (.func (.yield (D+1)) #[] #[])) :: caps.map .d) (args (D+1)))
  (hl:∀ D,(Qcn (Qpv st.rows D f st.nt is xs p asg body) ids (Wv (D+1)))[st.rows.length+1]? = some (.loop (D+1) .ready f st.nt is xs' #[p] asg body))
  (h:∀ D,AK (X.mark D) f k Q ⟨st.nt,st.tm,(Qcn (Qpv st.rows D f st.nt is xs p asg body) ids (Wv (D+1))).set (st.rows.length+1) .gone⟩):
  AK X f (.code (.rangeFunc fop #[p] asg body) :: k) Q st:=by
 subst hP
 intro a C hC b cs hb hk
 obtain ⟨vs,v1,v2⟩:=Qwv hC hxs
 let D:=C.w.heap.size
 let C1:=C.push (.deferred (some [])) (.dfr D)
 have h1:Yd X C1:=Yd.push hC.rel ⟨rfl,heap_alloc_new _ _⟩
 have e1:Ev X C C1:=Ev.push hC.rel _ _
 have hD1:C1.w.heap.size=D+1:=World.size_alloc _ _
 let lp:Loop:={ state:=.ready,pending:=none,fn:=f,tmps:=a.tmps,params:=#[p],assign:=asg,body:=body,defers:=D }
 let C2:=C1.push (.loop lp) (.loop (D+1) .ready f st.nt is xs #[p] asg body)
 have e2:Ev X C1 C2:=Ev.push h1 _ _
 have ev:=e1.trans e2
 have h2:Yd X C2:=Yd.push h1 ⟨hD1,a.tmps,D,vs,heap_alloc_new _ _,hC.nt,Qb1.mono ev.ok ev.same ev.pre ev.shape v1,v2⟩
 have hrows2:C2.rows=Qpv st.rows D f st.nt is xs p asg body:=by simp [C2,C1,Wt.push,hC.rows,Qpv]
 have s2:Sim X { st with rows:=C2.rows } a C2:=hC.Qgy ev h2
 -- the call
 obtain ⟨gcs,hgv,hgr⟩:∃ gcs:List Value,a.eval fop=.func (.func g) #[] gcs.toArray/\VRs C2.w (C2.ok X) caps gcs:=by
  have:=s2.val fop _ hv
  generalize a.eval fop=u at this
  cases this with
  | d hh=>
   cases hh with
   | fn hh=>exact ⟨_,rfl,hh⟩
 have Qm7:(Instr.enterLoop b.fn a.tmps #[p] asg body b.roundOf).run X.P C.w=.ok (D+1,[{ target:=.collected D,args:=#[] }]) C2.w:=by
  rw [hb,hk.2.trans hX.2]
  exact run_enterLoop_outer f a.tmps #[p] asg body
 have Wix:(resolve a.eval (rangeCall fop (D+1)) 0).run X.P C2.w=.ok { target:=.fn (.func g) gcs.toArray,args:=#[.func (.yield (D+1)) #[] #[]] } C2.w:=by
  have hcv:a.eval (.const (.func (.yield (D+1)) #[] #[]))=.func (.yield (D+1)) #[] #[]:=rfl
  simp [resolve,rangeCall,hgv,Deferred.ofValue,hcv]
 have hinv:(invoke (.fn (.func g) gcs.toArray) #[.func (.yield (D+1)) #[] #[]]).run X.P C2.w=.ok (.enter g (#[.func (.yield (D+1)) #[] #[]] ++ gcs.toArray)) C2.w:=by
  simp only [invoke]
  exact he _ _
 have Xu:=stepR_rangeFunc (P:=X.P) (b:=b) (a:=a) (k:=k) (cs:=cs) Qm7 Wix hinv
 have hhd:=hh D
 have hpd:=hp D
 have hld:=hl D
 have hkd:=h D
 rw [<- hrows2] at hhd hpd hld hkd
 have Qfd:Qb1 C2.w (C2.ok X) C2.μ (.d (.v (.func (.yield (D+1)) #[] #[])) :: caps.map .d) (.func (.yield (D+1)) #[] #[] :: gcs):=.cons (.d (.v rfl)) (hgr.toA).toL
 have Qmr:=hs (D+1) (Qay X C2 ids) _ rfl (Qm2 h2 hhd) (Qoo h2 hhd) (Qkv h2 hhd hpd Qfd)
 have hae:(Value.func (.yield (D+1)) #[] #[] :: gcs).toArray=#[.func (.yield (D+1)) #[] #[]] ++ gcs.toArray:=by simp
 rw [hae] at Qmr
 obtain ⟨e,w',fr,⟨v,μ',rfl,hd⟩,Ql9,_,Qq0⟩:=Qmr (b.atR { a with defers:=[{ target:=.collected D,args:=#[] }] ++ a.defers } (.inRangeFunc (D+1) :: k) :: cs)
 have Qip:=step_leave_returned (c:=b.atR { a with defers:=[{ target:=.collected D,args:=#[] }] ++ a.defers } (.inRangeFunc (D+1) :: k)) (cs:=cs) Qq0
 rw [finish_atR_inRangeFunc] at Qip
 have hb2:=Qm1 h2 hhd hd
 have eb:=Qom h2 hhd hd.rel
 have sb:=s2.Qgy eb hb2
 -- the loop is over
 obtain ⟨ob,hμ⟩:=hb2.Qh4 hld
 have hlr:=hb2.rel _ ob _ hμ hld
 cases ob with
 | none=>exact hlr.elim
 | some q=>
  obtain ⟨rfl,T,D',vs',r1,r2,r3,r4⟩:=hlr
  have Qj8:=stepR_endRangeFunc (P:=X.P) (b:=b) (a:={ a with defers:=[{ target:=.collected D,args:=#[] }] ++ a.defers }) (k:=k) (cs:=cs) (run_endLoop r1 (by simp))
  have tu:=Qq9 (r':=.gone) hb2 (.loop { state:=.exhausted,pending:=none,fn:=f,tmps:=T,params:=#[p],assign:=asg,body:=body,defers:=D' }) hμ hld rfl r1
  have h3:=Yd.Qah hb2 tu (.inr rfl) trivial
  have ev3:=Ev.Qah hb2 tu
  have s3:=sb.Qgy ev3 h3
  have Qfu:Sim (X.mark D) ⟨st.nt,st.tm,(Qcn C2.rows ids (Wv (D+1))).set (st.rows.length+1) .gone⟩ { a with defers:=[{ target:=.collected D,args:=#[] }] ++ a.defers } _:=⟨s3.rel.mark D,s3.rows,by simp [Ctx.mark,hC.defers,hX.1],s3.nt,s3.tm⟩
  obtain ⟨C',fr',q1,q2,q3⟩:=hkd _ _ Qfu b cs hb ⟨hk.1,hk.2.trans hX.2⟩
  exact ⟨C',fr',q1,.head Xu (Ql9.trans (.head Qip (.head Qj8 q2))),q3⟩
end
theorem Qey {rows:List Row} {i j k:Nat} {a b c:Row} (h1:rows[i]? = some (Qeh (Qa2 [i,j,k] rows.length) a)) (h2:rows[j]? = some (Qeh (Qa2 [i,j,k] rows.length) b)) (h3:rows[k]? = some (Qeh (Qa2 [i,j,k] rows.length) c))
  (hn:[i,j,k].Nodup) (l1:a.live=true:=by rfl) (l2:b.live=true:=by rfl) (l3:c.live=true:=by rfl):Qci rows [i,j,k] [a,b,c]:=by
 refine ⟨hn,rfl,fun q id r hq hr=>?_⟩
 match q with
 | 0=>simp at hq hr;subst hq;subst hr;exact ⟨h1,l1⟩
 | 1=>simp at hq hr;subst hq;subst hr;exact ⟨h2,l2⟩
 | 2=>simp at hq hr;subst hq;subst hr;exact ⟨h3,l3⟩
 | q+3=>simp at hq
end Go.Sy
namespace Go.Sy
open Go.Proofs Go.Shelf Go.Sort Go.Lib
section
variable {X:Ctx} {C:Wt}
def Wt.grown (C:Wt) (w':World):Wt:={ C with w:=w' }
structure Grown (w w':World):Prop where
 os:w'.os=w.os
 tape:w'.tape=w.tape
 output:w'.output=w.output/\w.drawn<=w'.drawn
 size:w.heap.size<=w'.heap.size
 old:∀ b,b < w.heap.size->w'.heap[b]? = w.heap[b]?
theorem Yd.Qjk (h:Yd X C) {w':World} (g:Grown C.w w') {i:Nat} {m:Option Nat} {r:Row} (h1:C.μ[i]? = some m) (h2:C.rows[i]? = some r):(∀ k,m=some k->w'.heap[k]? = C.w.heap[k]?)/\∀ c∈r.ext C.w m,w'.heap[c]? = C.w.heap[c]?:=
 ⟨fun k e=>g.old k (h.place i k (e▸h1)).2,fun c hc=>g.old c (h.Qco i m c r h1 h2 hc).2⟩
theorem Wt.Wc7 (h:Yd X C) {w':World} (g:Grown C.w w') {b:Nat}:(C.grown w').live b↔C.live b:=by
 constructor
 ·rintro ⟨i,m,r,h1,h2,h3,h4⟩
  obtain ⟨q1,q2⟩:=h.Qjk g h1 h2
  exact ⟨i,m,r,h1,h2,h3,(Row.Qio r q1 q2).1 h4⟩
 rintro ⟨i,m,r,h1,h2,h3,h4⟩
 obtain ⟨q1,q2⟩:=h.Qjk g h1 h2
 exact ⟨i,m,r,h1,h2,h3,(Row.Qio r q1 q2).2 h4⟩
theorem Ev.grown (h:Yd X C) {w':World} (g:Grown C.w w'):Ev X C (C.grown w'):=
 ⟨g.size,fun b hb _=>g.old b hb,fun b _ hl hk=>hl ((Wt.Wc7 h g).1 hk),fun b cs ty hc=>⟨cs,(g.old b (Array.getElem?_eq_some_iff.1 hc).1).trans hc,rfl⟩,fun _ _ hx=>hx⟩
theorem Yd.grown (h:Yd X C) {w':World} (g:Grown C.w w'):Yd X (C.grown w'):=by
 have ev:=Ev.grown h g
 refine ⟨h.len,g.os.trans h.os,g.tape.trans h.tape,⟨g.output.1.trans h.output.1,Nat.le_trans h.output.2 g.output.2⟩,Nat.le_trans h.size g.size, ?_, ?_,h.first, ?_,h.apart, ?_, ?_, ?_⟩
 ·intro b hb ho
  rw [<- h.keep b hb ho]
  exact g.old b (Nat.lt_of_lt_of_le hb h.size)
 ·intro b cs ty hc
  obtain ⟨cs',h1,h2⟩:=h.shape b cs ty hc
  obtain ⟨cs2,h3,h4⟩:=ev.shape b cs' ty h1
  exact ⟨cs2,h3,h4.trans h2⟩
 ·intro id b hb
  have:=h.place id b hb
  exact ⟨this.1,Nat.lt_of_lt_of_le this.2 g.size⟩
 ·intro i m b r h1 h2 h3
  obtain ⟨q1,q2⟩:=h.Qjk g h1 h2
  rw [show (C.grown w').w=w' from rfl,Row.Qdp r q1 q2] at h3
  have:=h.Qco i m b r h1 h2 h3
  exact ⟨this.1,Nat.lt_of_lt_of_le this.2 g.size⟩
 ·intro i j m n b r s h1 h2 h3 h4 h5 h6
  obtain ⟨q1,q2⟩:=h.Qjk g h1 h3
  obtain ⟨q3,q4⟩:=h.Qjk g h2 h4
  rw [show (C.grown w').w=w' from rfl] at h5 ⊢
  rw [Row.Qdp r q1 q2] at h5
  rw [Row.Qdp s q3 q4]
  exact h.Qbt i j m n b r s h1 h2 h3 h4 h5 h6
 intro id ob r h1 h2
 refine (h.rel id ob r h1 h2).mono ev.ok ev.same ev.pre ev.shape ?_ ?_
 ·exact (h.Qjk g h1 h2).1
 exact (h.Qjk g h1 h2).2
end
noncomputable def Qai {α:Type} (z:α) (cf:α->α->Int) (xs:List α):List α:=
 letI:Inhabited α:=⟨z⟩
 (pdq (ltOf cf) xs.toArray 0 xs.toArray.size (Lib.bitLen xs.toArray.size) true true).toList
theorem Qpz {α:Type} (z:α) {cf:α->α->Int} (hO:SWO (ltOf cf)) (xs:List α):(Qai z cf xs).Perm xs:=by
 letI:Inhabited α:=⟨z⟩
 have h:=(pdq_sorts (ltOf cf) hO xs.toArray 0 xs.toArray.size (Lib.bitLen xs.toArray.size) true true (Nat.zero_le _) (Nat.le_refl _) (Or.inl rfl)).1
 have h3:=h.2.2
 have hs:=h.1
 have e1:∀ (A:Array α),A.extract 0 A.size=A:=fun A=>by simp
 rw [e1] at h3
 show (pdq (ltOf cf) xs.toArray 0 xs.toArray.size (Lib.bitLen xs.toArray.size) true true).toList.Perm xs
 generalize pdq (ltOf cf) xs.toArray 0 xs.toArray.size (Lib.bitLen xs.toArray.size) true true=Y at h3 hs ⊢
 rw [<- hs,e1] at h3
 exact h3
theorem Qla {α:Type} (z:α) {cf:α->α->Int} (hO:SWO (ltOf cf)) (xs:List α):(Qai z cf xs).length=xs.length:=(Qpz z hO xs).length_eq
theorem Qri {α:Type} (z:α) {cf:α->α->Int} (hO:SWO (ltOf cf)) (xs:List α):(Qai z cf xs).Pairwise fun x y=>ltOf cf y x=false:=by
 letI:Inhabited α:=⟨z⟩
 have h:=pdq_sorts (ltOf cf) hO xs.toArray 0 xs.toArray.size (Lib.bitLen xs.toArray.size) true true (Nat.zero_le _) (Nat.le_refl _) (Or.inl rfl)
 have hl:=Qla z hO xs
 have hs:=h.2
 rw [List.pairwise_iff_getElem]
 intro i j hi hj hij
 have:=hs i j (Nat.zero_le _) hij (by rw [hl] at hj;simpa using hj)
 have e:∀ q (hq:q < (Qai z cf xs).length),(pdq (ltOf cf) xs.toArray 0 xs.toArray.size (Lib.bitLen xs.toArray.size) true true)[q]! = (Qai z cf xs)[q]:=by
  intro q hq
  have hq':q < (pdq (ltOf cf) xs.toArray 0 xs.toArray.size (Lib.bitLen xs.toArray.size) true true).size:=by simpa [Qai] using hq
  rw [getElem!_pos _ q hq']
  simp [Qai]
 rw [e j hj,e i hi] at this
 exact this
theorem VRs.plain {w:World} {ok:Bool->Nat->Prop}:∀ {cs vs:List Value},VRs w ok (cs.map DV.v) vs->vs=cs
 | [],_,h=>by cases h;rfl
 | c :: cs,_,h=>by
  simp only [List.map_cons] at h
  cases h with
  | cons h1 h hs=>
   cases h with
   | v h=>rw [VRs.plain hs]
theorem VRs.Qrw {w:World} {ok:Bool->Nat->Prop}:∀ {cs:List Value},(∀ v∈cs,v.oneCell'=true)->VRs w ok (cs.map DV.v) cs
 | [],_=>.nil
 | c :: cs,h=>.cons (h c (List.mem_cons_self ..)) (.v (h c (List.mem_cons_self ..))) (VRs.Qrw fun v hv=>h v (List.mem_cons_of_mem _ hv))
theorem Whi {P:Program} {ρ:Ren} {α:Type} (L:SlLaysF0.n6 P ρ) (z:α) (k:Nat) (aE:∀ w,(isAgg (ρ.t 24)).run P w=.ok true w) (zE:∀ w,(Go.sizeOf (ρ.t 24)).run P w=.ok k w)
  (enc:α->List Value) (hk:∀ x,(enc x).length=k) (h1:∀ x,∀ v∈enc x,v.oneCell'=true) (e:α->List DV) (he:∀ x,e x=(enc x).map DV.v) (cf:α->α->Int) (hO:SWO (ltOf cf)) (g:Nat)
  (eg:∀ args w,(callFunc g args).run P w=.ok (.enter g args) w)
  (hc:∀ (x y:α) (W:World),Calls P g #[.agg (enc x).toArray,.agg (enc y).toArray] W fun e w'=>e=.returned (.int .i64 (cf x y))/\∃ q os',w'=grow (W.drewN q) os') {ty:TypeId} {xs:List α} (hsz:xs.length < 4611686018427387904):
  Xz P (ρ.f 6) [.flat false k ty xs.length (vec e z xs)] [.own 0 k 0 xs.length,.d (.fn g [])] [.flat false k ty (Qai z cf xs).length (vec e z (Qai z cf xs))] (.Qn []):=by
 intro X vs hP hF Jz Qfd
 subst hP
 have hlen:=Qla z hO xs
 cases Qfd with
 | cons ha hs=>
  cases hs with
  | cons hf hn=>
   cases hn
   cases hf with
   | d hf=>
    cases hf with
    | fn hf=>
     cases hf
     have nr:∀ (n:Nat) (ys:List α),NR (.flat false k ty n (vec e z ys)):=fun n ys=>Qat (fun x=>by
      rw [he]
      have:∀ cs:List Value,NLs (cs.map DV.v):=fun cs=>by
       induction cs with
       | nil=>exact .nil
       | cons c cs ih=>exact .cons (.v _) ih
      exact this _)
     have fin:∀ {C':Wt},Yd X C'->C'.rows=[.flat false k ty (Qai z cf xs).length (vec e z (Qai z cf xs))]->Zw X ⟨C'.μ,[.flat false k ty (Qai z cf xs).length (vec e z (Qai z cf xs))],C'.w⟩ (.Qn []) (.tuple #[]):=by
      intro C' h hr
      have h':Yd X ⟨C'.μ,[.flat false k ty (Qai z cf xs).length (vec e z (Qai z cf xs))],C'.w⟩:=by rw [<- hr];exact h
      refine ⟨h', ?_,.Qn .nil⟩
      intro j ob r e1 e2
      refine (h'.rel j ob r e1 e2).perm (fun _ h=>⟨rfl,h⟩) ?_
      have:=List.mem_of_getElem? e2
      simp only [List.mem_singleton] at this
      subst this
      exact nr _ _
     generalize hN:xs.length=N at ha hlen
     cases ha with
     | Qcc hm=>
      have hx:xs=[]:=List.length_eq_zero_iff.1 hN
      have hy:Qai z cf xs=[]:=List.length_eq_zero_iff.1 hlen
      refine (AnyF.slices_SortFunc_none L none 0 _ X.w0).mono ?_
      rintro e0 w' ⟨rfl,rfl⟩
      refine ⟨_,X.μ0,rfl,fin (C':=⟨X.μ0,_,X.w0⟩) Jz ?_⟩
      subst hx
      rw [hy]
     | @own _ _ _ _ b c cs ty' hm hh hs' hn Qu9=>
      letI:Inhabited α:=⟨z⟩
      have Qc5:=Jz.rel 0 (some b) _ hm rfl
      obtain ⟨cs2,vs,r1,r2,r3,r4,r5⟩:=Qc5
      have hh2:cs2=cs/\ty=ty':=by
       have:=r1.symm.trans hh
       injection this with this
       injection this with a1 a2 a3
       exact ⟨a1,a2⟩
      obtain ⟨rfl,rfl⟩:=hh2
      have hblk:b < X.w0.heap.size:=(Array.getElem?_eq_some_iff.1 hh).1
      subst hN
      have hvs:∀ i,i < xs.length->vs i=enc (xs.getD i z):=fun i hi=>by
       have:=r4 i hi
       simp only [vec,he] at this
       exact this.plain
      have Qhl:∀ i j,i < xs.length->j < k->cs2[i * k+j]? = some ((enc (xs.getD i z))[j]!):=fun i j hi hj=>by
       refine r5 i j _ hi ?_
       rw [hvs i hi]
       have:j < (enc (xs.getD i z)).length:=by rw [hk];exact hj
       rw [getElem!_pos _ j this]
       exact List.getElem?_eq_getElem this
      have Qyk:HoldsK enc k X.w0 b 0 xs.toArray:=by
       intro j hj
       rw [size_flatK] at hj
       simp only [List.size_toArray] at hj
       have k0:0 < k:=Nat.pos_of_ne_zero (by rintro rfl;simp at hj)
       have hd:j / k < xs.length:=Nat.div_lt_of_lt_mul (by rw [Nat.mul_comm];exact hj)
       have hm':j % k < k:=Nat.mod_lt _ k0
       rw [get_flatK _ _ _ _ (by simpa using hj)]
       have hc2:=Qhl (j / k) (j % k) hd hm'
       rw [show j / k * k+j % k=j by rw [Nat.mul_comm];exact Nat.div_add_mod j k] at hc2
       have hx:xs.toArray[j / k]! = xs.getD (j / k) z:=by
        rw [getElem!_pos _ _ (by simpa using hd)]
        simp [hd]
       refine ⟨?_, ?_⟩
       ·simp only [World.cell?,hh,hx]
        simpa using hc2
       simp only [World.frozen?,hh]
       simp
      have hz0:b * 1=b:=by omega
      have main:=AnyQ.slices_SortFunc_eq L k aE zE enc hk h1 cf hO g #[] b 0 c xs.toArray X.w0 eg (fun m os dk _ x y=>by simpa using hc x y _) Qyk hblk (by simpa using hsz)
      rw [show ([Value.slice (some ⟨b,0 * k,none⟩) xs.length c,Value.func (.func g) #[] ([]:List Value).toArray]:List Value).toArray=#[.slice (some ⟨b,0,none⟩) xs.toArray.size c,.func (.func g) #[] #[]] by simp]
      refine main.mono ?_
      rintro e0 w' ⟨rfl,n,os,rfl⟩
      have hyl:(pdq (ltOf cf) xs.toArray 0 xs.toArray.size (Lib.bitLen xs.toArray.size) true true).toList=Qai z cf xs:=rfl
      generalize hY:pdq (ltOf cf) xs.toArray 0 xs.toArray.size (Lib.bitLen xs.toArray.size) true true=ya at hyl
      have hya:ya.size=xs.length:=by rw [<- hlen,<- hyl];simp
      have hw1:(putRowK enc k (Sort.ahead X.w0 n) b 0 ya).heap=X.w0.heap.modify b (onCells (putCells id 0 (flatK enc k ya))):=rfl
      let C0:Wt:=⟨X.μ0,[.flat false k ty xs.length (vec e z xs)],X.w0⟩
      have hat:(putRowK enc k (Sort.ahead X.w0 n) b 0 ya).heap[b]? = some (.cells (putCells id 0 (flatK enc k ya) cs2) ty (0,0)):=by
       rw [hw1]
       simp [Array.getElem?_modify,hh,onCells]
      have Qnx:(putCells id 0 (flatK enc k ya) cs2).size=cs2.size:=by simp [putCells]
      have tu:Qjp X C0 0 b (.flat false k ty xs.length (vec e z xs)) (.flat false k ty (Qai z cf xs).length (vec e z (Qai z cf xs))) (putRowK enc k (Sort.ahead X.w0 n) b 0 ya):=by
       refine ⟨hm,rfl,rfl,rfl,rfl,⟨rfl,Nat.le_add_right _ _⟩, ?_, ?_, ?_,fun _ _=>rfl,fun _ _=>rfl⟩
       ·rw [hw1];simp [C0]
       ·intro q hq
        rw [hw1]
        simp [C0,Array.getElem?_modify,Ne.symm hq]
       intro cs3 ty3 h3
       have:cs3=cs2/\ty3=ty:=by
        have:=h3.symm.trans hh
        injection this with this
        injection this with a1 a2 a3
        exact ⟨a1,a2⟩
       obtain ⟨rfl,rfl⟩:=this
       exact ⟨_,hat,Qnx⟩
      have Wcy:∀ (ok:Bool->Nat->Prop),Qcz (putRowK enc k (Sort.ahead X.w0 n) b 0 ya) ok X.μ0 (some b) (.flat false k ty (Qai z cf xs).length (vec e z (Qai z cf xs))):=by
       intro ok
       refine ⟨_,fun i=>enc ((Qai z cf xs).getD i z),hat, ?_,fun i _=>hk _,fun i _=>?_, ?_⟩
       ·rw [Qnx,hlen];exact r2
       ·simp only [vec,he]
        exact VRs.Qrw (h1 _)
       intro i j v hi hj
       have hjk:j < k:=by
        have:=(List.getElem?_eq_some_iff.1 hj).1
        rwa [hk] at this
       rw [hlen] at hi
       have lt:i * k+j < xs.length * k:=by
        have:=Nat.mul_le_mul_right k (show i+1<=xs.length from hi)
        rw [Nat.add_mul,Nat.one_mul] at this
        omega
       have e1:(i * k+j) / k=i:=(blk_iff k i _ (by omega)).1 ⟨by omega,by omega⟩
       have e2:(i * k+j) % k=j:=by rw [Nat.mod_eq_sub_div_mul,e1];omega
       have lt2:i * k+j < cs2.size:=Nat.lt_of_lt_of_le lt r2
       have lty:i * k+j < ya.size * k:=by rw [hya];exact lt
       simp only [putCells,Array.getElem?_mapIdx]
       rw [Array.getElem?_eq_getElem lt2]
       simp only [Option.map_some,Nat.zero_le,true_and,Nat.zero_add,size_flatK,lty,if_true,Nat.sub_zero,id]
       rw [get_flatK _ _ _ _ lty,e1,e2]
       have hyi:ya[i]! = (Qai z cf xs).getD i z:=by
        rw [getElem!_pos _ _ (by omega),<- hyl]
        simp [hya,hi]
       rw [hyi]
       have:j < (enc ((Qai z cf xs).getD i z)).length:=by rw [hk];exact hjk
       rw [getElem!_pos _ j this,<- hj]
       exact (List.getElem?_eq_getElem this).symm
      have h2:=Yd.Qah (C:=C0) Jz tu (.inl (by simp)) (Wcy _)
      have h3:=h2.grown (w':=sortWorldK enc k X.w0 b 0 n ya os) ⟨rfl,rfl,⟨rfl,Nat.le_refl _⟩,by simp [sortWorldK,grow,Wt.Qah],fun q hq=>by
       simp only [sortWorldK,grow,Wt.Qah] at hq ⊢
       exact Array.getElem?_append_left hq⟩
      exact ⟨_,X.μ0,rfl,fin h3 rfl⟩
theorem Wdw {P:Program} {ρ:Ren} {α:Type} (L:SlLaysF0.n6 P ρ) (z:α) (k:Nat) (aE:∀ w,(isAgg (ρ.t 24)).run P w=.ok true w) (zE:∀ w,(Go.sizeOf (ρ.t 24)).run P w=.ok k w)
  (enc:α->List Value) (hk:∀ x,(enc x).length=k) (h1:∀ x,∀ v∈enc x,v.oneCell'=true) (e:α->List DV) (he:∀ x,e x=(enc x).map DV.v) (cf:α->α->Int) (hO:SWO (ltOf cf)) (g:Nat)
  (eg:∀ args w,(callFunc g args).run P w=.ok (.enter g args) w)
  (hc:∀ (x y:α) (W:World),Calls P g #[.agg (enc x).toArray,.agg (enc y).toArray] W fun e w'=>e=.returned (.int .i64 (cf x y))/\∃ q os',w'=grow (W.drewN q) os') {ty:TypeId} {xs:List α} (hsz:xs.length < 4611686018427387904):
  Xz P (ρ.f 6) [.flat false k ty xs.length (vec e z xs)] [.own 0 k 0 xs.length,.d (.fn g [])] [.flat false k ty xs.length (vec e z (Qai z cf xs))] (.Qn []):=by
 have h:=Whi L z k aE zE enc hk h1 e he cf hO g eg hc (ty:=ty) hsz
 rw [Qla z hO xs] at h
 exact h
theorem Wer {P:Program} {g:FuncId} {α:Type} {enc:α->List Value} {e:α->List DV} (h1:∀ x,∀ v∈enc x,v.oneCell'=true) (he:∀ x,e x=(enc x).map DV.v) {cf:α->α->Int}
  (hs:∀ x y,Xz P g [] [.d (.agg (e x)),.d (.agg (e y))] [] (.d (.v (.int .i64 (cf x y))))) (x y:α) (W:World):
  Calls P g #[.agg (enc x).toArray,.agg (enc y).toArray] W fun e w'=>e=.returned (.int .i64 (cf x y))/\∃ q os',w'=grow (W.drewN q) os':=by
 have h0:Yd (Qgt P W) ⟨[],[],W⟩:=⟨rfl,rfl,rfl,⟨rfl,Nat.le_refl _⟩,Nat.le_refl _,fun _ _ _=>rfl,fun _ _ _ k=>⟨_,k,rfl⟩,fun _ _ k=>k,fun _ _ h=>by simp at h,fun _ _ _ _ _ h=>by simp at h,fun _ _ _ _ h=>by simp at h,fun _ _ _ _ _ _ _ h=>by simp at h,fun _ _ _ h=>by simp at h⟩
 have hv:∀ x,VR W ((⟨[],[],W⟩:Wt).ok (Qgt P W)) (.agg (e x)) (.agg (enc x).toArray):=fun x=>by
  rw [he]
  exact .agg (VRs.Qrw (h1 x))
 have:=hs x y (Qgt P W) [.agg (enc x).toArray,.agg (enc y).toArray] rfl (fun b hb=>⟨hb,by simp [Ctx.Qcc,Qgt]⟩) h0 (.cons (.d (hv x)) (.cons (.d (hv y)) .nil))
 refine this.mono ?_
 rintro e0 w' ⟨v,μ',rfl,hd⟩
 have hr:=hd.ret
 cases hr with
 | d hr=>
  cases hr with
  | v hr=>
   refine ⟨rfl,w'.drawn - W.drawn,w'.heap.extract W.heap.size w'.heap.size, ?_⟩
   have hk:=hd.rel.keep
   have hsz:=hd.rel.size
   have ho:=hd.rel.output
   have hos:=hd.rel.os
   have ht:=hd.rel.tape
   simp only [Qgt] at hk hsz ho hos ht
   have hh:w'.heap=W.heap ++ w'.heap.extract W.heap.size w'.heap.size:=by
    apply Array.ext_getElem?
    intro i
    by_cases hi:i < W.heap.size
    ·rw [Array.getElem?_append_left hi]
     exact hk i hi (by simp [Ctx.Qcc])
    rw [Array.getElem?_append_right (by omega),Array.getElem?_extract]
    by_cases hi2:i < w'.heap.size
    ·rw [if_pos (by omega)]
     congr 1
     omega
    rw [if_neg (by omega)]
    exact Array.getElem?_eq_none (by omega)
   cases w'
   cases W
   simp only at hh ho hos ht hsz ⊢
   obtain ⟨ho1,ho2⟩:=ho
   subst hos
   subst ht
   subst ho1
   simp only [grow,World.drewN,World.mk.injEq,true_and,and_true]
   exact ⟨hh,by omega⟩
end Go.Sy
