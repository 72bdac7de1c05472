/- A range over a function: the record of the loop, the rounds, and what lies about them. -/
import Derived.Test.YtdhmflhncidjaaaGreatSyM
import Derived.RangeFuncIn
import Derived.RangeFuncRecord
import Derived.RangeFuncLeaves
import Derived.Test.YtdhmflhncidjaaaGreatSyU
set_option linter.unusedVariables false
set_option linter.unusedSimpArgs false
namespace Go.Sy
def Qht (i N j:Nat):Nat:=if j=N then i else j
theorem Wfb {X:Ctx} {f:FuncId} {k:List Item} {Q:Frame->Frame->Qq->Prop} {st st':St} (i:Nat) {r:Row} (hr:st.rows[i]? = some r) (hl:r.live=true)
  (e1:st'.rows.map (Qb0 (Qht i st.rows.length))=st.rows.set i .gone ++ [r]) (e2:(st'.tm.map fun p=>(p.1,Qa0 (Qht i st.rows.length) p.2))=st.tm) (e3:st'.nt=st.nt) (h:AK X f k Q st'):AK X f k Q st:=by
 intro a C hC b cs hb hk
 have hrC:C.rows[i]? = some r:=by rw [hC.rows];exact hr
 obtain ⟨ob,hμ⟩:=hC.rel.Qip hrC
 have h1:=Qj7 hC.rel hμ hrC hl
 have ev:=Qkv hC.rel hμ hrC
 let C':Qq:=⟨C.μ ++ [ob],st'.rows,C.w⟩
 have hlen:C.μ.length=st.rows.length:=by rw [hC.rel.len,hC.rows]
 have Qd3:st'.rows.map (Qb0 (Qht i st.rows.length))=(C.renew i ob r).rows:=by rw [e1];simp [Qq.renew,hC.rows]
 have hat:∀ {j:Nat} {s:Row},st'.rows[j]? = some s->(C.renew i ob r).rows[j]? = some (Qb0 (Qht i st.rows.length) s):=by
  intro j s hs
  rw [<- Qd3,List.getElem?_map,hs]
  rfl
 have hρ:∀ (j:Nat) x,(C.renew i ob r).μ[Qht i st.rows.length j]? = some x->C'.μ[j]? = some x:=by
  intro j x hx
  simp only [C',Qq.renew] at hx ⊢
  unfold Qht at hx
  split at hx
  ·rename_i hj
   subst hj
   rw [Qda hμ] at hx
   injection hx with hx
   subst hx
   rw [<- hlen]
   simp
  exact hx
 have Qii:∀ {q:Nat},C'.live q->(C.renew i ob r).live q:=by
  rintro q ⟨j,m,s,a1,a2,a3,a4⟩
  exact ⟨j,m,_,a1,hat a2,by rw [Qez];exact a3,(Qlq _ _ _ _ _).2 a4⟩
 have Jj:∀ t q,(C.renew i ob r).ok X t q->C'.ok X t q:=fun t q ⟨a1,a2,a3⟩=>⟨a1,fun e=>a2 (Qii e),a3⟩
 have Zb:Wt X C':=by
  refine ⟨?_,h1.os,h1.tape,h1.output,h1.size,h1.keep,h1.shape,h1.first,h1.place, ?_, ?_, ?_, ?_⟩
  ·have:=congrArg List.length Qd3
   simp only [List.length_map] at this
   show (C.μ ++ [ob]).length=st'.rows.length
   rw [this]
   exact h1.len
  ·intro p q c s u b1 b2 b3 b4 b5 b6
   exact h1.apart p q c _ _ b1 b2 (hat b3) (hat b4) (by rw [Qez];exact b5) (by rw [ne_eq,Qhp];exact b6)
  ·intro p m c s b1 b2 b3
   exact h1.Qb4 p m c _ b1 (hat b2) (by rw [Qeh];exact b3)
  ·intro p q m n c s u b1 b2 b3 b4 b5 b6
   have:=h1.Qb7 p q m n c _ _ b1 b2 (hat b3) (hat b4) (by rw [Qeh];exact b5) (by rw [ne_eq,Qhp];exact b6)
   exact ⟨this.1,fun b7=>this.2 (by rw [Qeh];exact b7)⟩
  intro j o s b1 b2
  exact (h1.rel j o _ b1 (hat b2)).Qfa Jj hρ
 refine h a C' ⟨Zb,rfl,hC.defers,hC.nt.trans e3.symm,fun j av e=>?_⟩ b cs hb hk
 have:=Qpa (ρ:=Qht i st.rows.length) e
 rw [e2] at this
 obtain ⟨v,c1,c2⟩:=hC.tm j _ this
 exact ⟨v,c1,(ev.avr c2).Qfa Jj hρ⟩
section
variable {X:Ctx} {C:Qq}
theorem Qm3 (h:Wt X C) {id l:Nat} {r r':Row} {lp:Loop} (o:Obj) (hμ:C.μ[id]? = some (some l)) (hr:C.rows[id]? = some r) (hl:r.live=true) (hh:C.w.heap[l]? = some (.loop lp)) (hx:∀ w m,r.ext w m=[]:=by intros;rfl) (hx':∀ w m,r'.ext w m=[]:=by intros;rfl):Qgo X C id l r r' (C.w.putObj l o):=
 ⟨hμ,hr,hl,rfl,rfl,⟨rfl,Nat.le_refl _⟩,by simp [World.putObj],fun k hk=>World.putObj_heap_other hk,fun cs ty hc=>(by rw [hh] at hc;cases hc),hx,hx'⟩
theorem Wh8 {w:World} {l:Nat} {o o':Obj} (h:w.heap[l]? = some o):(w.putObj l o').heap[l]? = some o':=by
 obtain ⟨hlt,_⟩:=Array.getElem?_eq_some_iff.1 h
 simp [World.putObj,hlt]
theorem Qqy (h:Wt X C) {id l:Nat} {s s':LoopState} {fn:FuncId} {nt:Nat} {is:List Nat} {xs:List AV} {ps:Array Tmp} {asg body:Code} (hr:C.rows[id]? = some (.loop l s fn nt is xs ps asg body)):
  ∃ lp:Loop,C.w.heap[l]? = some (.loop lp)/\lp.state=s/\lp.pending=none/\Wt X (C.Yw id (.loop l s' fn nt is xs ps asg body) (C.w.putObj l (.loop { lp with state:=s' })))/\Ev X C (C.Yw id (.loop l s' fn nt is xs ps asg body) (C.w.putObj l (.loop { lp with state:=s' }))):=by
 obtain ⟨ob,hμ⟩:=h.Qip hr
 have Zb:=h.rel id ob _ hμ hr
 cases ob with
 | none=>exact Zb.elim
 | some b=>
  obtain ⟨rfl,T,D,vs,h1,h2,h3,h4⟩:=Zb
  have tu:=Qm3 (r':=.loop b s' fn nt is xs ps asg body) h (.loop { state:=s',pending:=none,fn:=fn,tmps:=T,params:=ps,assign:=asg,body:=body,defers:=D }) hμ hr rfl h1
  have ev:=Ev.Yw h tu
  refine ⟨_,h1,rfl,rfl,Wt.Yw h tu (.inl (by simp)) ⟨rfl,T,D,vs,Wh8 h1,h2, ?_,h4⟩,ev⟩
  exact Qaw.mono ev.ok ev.same ev.pre ev.shape h3
theorem Qx1 {f:FuncId} {k:List Item} {Q:Frame->Frame->Qq->Prop} {st st':St} (id:Nat) {l:Nat} {fn:FuncId} {nt:Nat} {is:List Nat} {xs:List AV} {ps:Array Tmp} {asg body:Code} (hX:X.rnd=some l) (hr:st.rows[id]? = some (.loop l .ready fn nt is xs ps asg body))
  (hs:st'={ st with rows:=st.rows.set id (.loop l .busy fn nt is xs ps asg body) }) (h:AK X f k Q st'):AK X f (.beginRound :: k) Q st:=by
 subst hs
 intro a C hC b cs hb hk
 obtain ⟨lp,h1,h2,h3,h4,h5⟩:=Qqy (s':=.busy) hC.rel (by rw [hC.rows];exact hr)
 have hst:=stepR_beginRound (P:=X.P) (b:=b) (a:=a) (k:=k) (cs:=cs) (w:=C.w) (hk.2.trans hX) (run_beginRound h1 h2)
 have hm:=hC.Qds h5 h4
 simp only [Qq.Yw,hC.rows] at hm
 obtain ⟨C',fr,q,s1,s2⟩:=h a _ hm b cs hb hk
 exact ⟨C',fr,q,.head hst s1,s2⟩
def Qxx (X:Ctx) (l:Nat) (Qr:List Row) (b fr:Frame) (C:Qq):Prop:=
 ∃ a w2,fr=b.atR a []/\(Instr.endRound l none).run X.P C.w=.ok (.bool true) w2/\Qa3 X ⟨C.μ,Qr,w2⟩ (.d (.v (.bool true))) (.bool true)
theorem Wap {f:FuncId} {st:St} (id:Nat) {l:Nat} {fn:FuncId} {nt:Nat} {is:List Nat} {xs:List AV} {ps:Array Tmp} {asg body:Code} (hr:st.rows[id]? = some (.loop l .busy fn nt is xs ps asg body))
  {Qr:List Row} (hs:Qr=st.rows.set id (.loop l .ready fn nt is xs ps asg body)) (nr:∀ r∈Qr,NR r):AK X f [] (Qxx X l Qr) st:=by
 subst hs
 intro a C hC b cs hb hk
 obtain ⟨lp,h1,h2,h3,h4,h5⟩:=Qqy (s':=.ready) hC.rel (by rw [hC.rows];exact hr)
 have Qhb:=run_endRound (P:=X.P) none h1
 have e:({ lp with state:=if (none:Option Code).isNone then LoopState.ready else .done,pending:=(none:Option Code) }:Loop)={ lp with state:=.ready }:=by
  cases lp
  simp only at h3
  subst h3
  rfl
 rw [e] at Qhb
 simp only [Qq.Yw,hC.rows] at h4
 refine ⟨C,b.atR a [],⟨a,_,rfl,Qhb,h4, ?_,.d (.v rfl)⟩,.refl _ _,hb⟩
 intro j ob r e1 e2
 exact (h4.rel j ob r e1 e2).perm (fun _ h=>⟨rfl,h⟩) (nr r (List.mem_of_getElem? e2))
def Qp2 (P:Program) (l:Nat) (Xb:List Row) (x:AV) (Qr:List Row):Prop:=
 ∀ (X:Ctx) (v:Value),X.P=P->X.Fits->Wt X ⟨X.μ0,Xb,X.w0⟩->Zj X.w0 ((⟨X.μ0,Xb,X.w0⟩:Qq).ok X) X.μ0 x v ->
  ∃ fn tmps asg body,(Instr.yield l #[v]).run P X.w0=.ok (.round l fn tmps asg body) X.w0/\∀ (c:Frame) (cs:List Frame),∃ w' μ',Qa3 X ⟨μ',Qr,w'⟩ (.d (.v (.bool true))) (.bool true) /\
   Steps P (lone (Frame.round l fn tmps asg body .normal) (c :: cs) X.w0) (lone (c.finish (.bool true)) cs w')
def Ctx.round (X:Ctx) (l:Nat):Ctx:={ X with ds:=[],rnd:=some l }
theorem Wt.round {C:Qq} (l:Nat) (h:Wt X C):Wt (X.round l) C:=⟨h.len,h.os,h.tape,h.output,h.size,h.keep,h.shape,h.first,h.place,h.apart,h.Qb4,h.Qb7,h.rel⟩
theorem Wt.Wbx {C:Qq} {l:Nat} (h:Wt (X.round l) C):Wt X C:=⟨h.len,h.os,h.tape,h.output,h.size,h.keep,h.shape,h.first,h.place,h.apart,h.Qb4,h.Qb7,h.rel⟩
theorem Qpu:∀ {is:List Nat} {xs:List AV} {i:Nat} {av:AV},(is.zip xs).lookup i=some av->∃ j:Nat,is[j]? = some i/\xs[j]? = some av
 | [],_,_,_,h=>by simp at h
 | _ :: _,[],_,_,h=>by simp at h
 | q :: is,y :: xs,i,av,h=>by
  rw [List.zip_cons_cons,List.lookup_cons] at h
  split at h
  ·rename_i e
   have e:i=q:=by simpa using e
   subst e
   injection h with h
   subst h
   exact ⟨0,rfl,rfl⟩
  obtain ⟨j,h1,h2⟩:=Qpu h
  exact ⟨j+1,by simpa using h1,by simpa using h2⟩
theorem Wet {P:Program} {l:Nat} {fn:FuncId} {nt:Nat} {is:List Nat} {xs:List AV} {p:Tmp} {asg body:Code} {rest:List Row} {x:AV} {Qr:List Row} (hp:p < nt)
  (h:∀ X:Ctx,X.P=P->X.μ0.length=(.loop l .ready fn nt is xs #[p] asg body :: rest).length->X.rnd=some l->AK X fn (.code asg :: .beginRound :: .code body :: []) (Qxx X l Qr) ⟨nt,(p,x) :: is.zip xs,.loop l .ready fn nt is xs #[p] asg body :: rest⟩):
  Qp2 P l (.loop l .ready fn nt is xs #[p] asg body :: rest) x Qr:=by
 intro X v hP hX Zb hx
 subst hP
 obtain ⟨ob,hμ⟩:=Zb.Qip (id:=0) rfl
 have h0:=Zb.rel 0 ob _ hμ rfl
 cases ob with
 | none=>exact h0.elim
 | some b=>
  obtain ⟨rfl,T,D,vs,h1,h2,h3,h4⟩:=h0
  refine ⟨fn,_,asg,body,run_yield h1 rfl,fun c cs=>?_⟩
  have hT:((#[p].zip #[v]).foldl (fun tmps (q:Tmp × Value)=>tmps.setIfInBounds q.1 q.2) T)=T.setIfInBounds p v:=by simp
  let a:Act:=⟨T.setIfInBounds p v,[]⟩
  have Qhy:Sim (X.round b) ⟨nt,(p,x) :: is.zip xs,.loop b .ready fn nt is xs #[p] asg body :: rest⟩ a ⟨X.μ0,.loop b .ready fn nt is xs #[p] asg body :: rest,X.w0⟩:=by
   refine ⟨Zb.round b,rfl,rfl,by simp [a,h2],fun i av e=>?_⟩
   simp only [List.lookup_cons] at e
   split at e
   ·rename_i hi
    have hi:i=p:=by simpa using hi
    subst hi
    injection e with e
    subst e
    exact ⟨v,by simp [a,h2,hp],hx⟩
   rename_i hi
   obtain ⟨j,j1,j2⟩:=Qpu e
   obtain ⟨u,u1,u2⟩:=h3.at_ j2
   have hne:p≠i:=fun e=>by subst e;simp at hi
   exact ⟨u,by simp [a,Array.getElem?_setIfInBounds,hne,h4 j i u j1 u1],u2⟩
  obtain ⟨C',fr,⟨a2,w2,rfl,q2,q3⟩,s1,s2⟩:=h (X.round b) rfl Zb.len rfl a _ Qhy { (default:Frame) with fn:=fn,kind:=.normal,roundOf:=some b } (c :: cs) rfl ⟨rfl,rfl⟩
  refine ⟨w2,C'.μ,⟨q3.rel.Wbx,q3.rows,q3.ret⟩, ?_⟩
  have Qhb:=stepR_round_end (P:=X.P) (b:={ (default:Frame) with fn:=fn,kind:=.normal,roundOf:=some b }) (a:=a2) (cs:=cs) (w:=C'.w) (c:=c) rfl rfl q2
  have hfr:∀ T2:Array Value,T2=T.setIfInBounds p v->Frame.round b fn T2 asg body .normal=({ (default:Frame) with fn:=fn,kind:=.normal,roundOf:=some b }:Frame).atR a [.code asg,.beginRound,.code body]:=by
   rintro T2 rfl
   rfl
  rw [hfr _ (by simp)]
  exact s1.trans (.one Qhb)
end
end Go.Sy
namespace Go.Sy
section
variable {X:Ctx}
def Wbz (st:St):List Item->Option (Nat × AV × Option Tmp × List Item)
 | .inRegion ops (i :: rest) :: k=>
  match ops[i]? with
  | some o=>
   match o.op with
   | .call c=>
    match c.callee,c.args.toList with
    | .value g,[x]=>
     match guardOf st.tm ops o,valOf st.tm g,valOf st.tm x with
     | some true,some (.d (.v (.func (.yield l) fa fc))),some av=>bif fa.isEmpty && fc.isEmpty then some (l,av,o.dst,.inRegion ops rest :: k) else none
     | _,_,_=>none
    | _,_=>none
   | _=>none
  | none=>none
 | _=>none
theorem Wi7 {P:Program} {f:FuncId} {k k':List Item} {Q:Frame->Frame->Qq->Prop} {st st':St} {l:Nat} {av x:AV} {dst:Option Tmp} (S ids:List Nat) {Xb Qr:List Row} (hP:X.P=P) (hs:Qp2 P l Xb x Qr)
  (e:Wbz st k=some (l,av,dst,k')) (hh:Qbz st.rows ids Xb) (hp:Qff st.rows ids (Zw ids st.rows.length) [av] [x])
  (Qat:(St.put { st with rows:=Qav st.rows ids Qr } dst (.d (.v (.bool true)))).map (St.only S)=some st') (h:AK X f k' Q st'):AK X f k Q st:=by
 subst hP
 obtain ⟨s0,Que,rfl⟩:=Option.map_eq_some_iff.1 Qat
 clear Qat
 unfold Wbz at e
 split at e
 ·rename_i ops i rest k0
  split at e
  ·rename_i o ho
   split at e
   ·rename_i c hc
    split at e
    ·rename_i g x0 hg Qb5
     split at e
     ·rename_i l0 fa fc av0 hgd hv hx
      cases hb:fa.isEmpty && fc.isEmpty with
      | false=>rw [hb] at e;cases e
      | true=>
       rw [hb] at e
       simp only [cond_true,Option.some.injEq,Prod.mk.injEq] at e
       obtain ⟨rfl,rfl,rfl,rfl⟩:=e
       simp only [Bool.and_eq_true,Array.isEmpty_iff] at hb
       obtain ⟨rfl,rfl⟩:=hb
       refine Qix (Qdh S h) fun a C hC b cs _=>?_
       have hg2:=(hC.val _ _ hv).Qbt
       have hx2:=hC.val _ _ hx
       have hargs':c.args=#[x0]:=by rw [<- Array.toArray_toList (xs:=c.args),Qb5]
       rw [<- hC.rows] at hh hp Que
       have hpx:=Qj5 hC.rel hh hp (Qaw.cons hx2 .nil)
       obtain ⟨fn,tmps,asg,body,hy,Qy5⟩:=hs (Qaf X C ids) (a.eval x0) rfl (Qmm hC.rel hh) (Qoa hC.rel hh) (by cases hpx with | cons h _=>exact h)
       have hxe:(execOp a.eval o).run X.P C.w=.ok (.round l0 fn tmps asg body) C.w:=by
        simp only [execOp,hc,resolve,hg,hg2,Deferred.ofValue,Sem.run_bind,Sem.run_pure,Result.andThen_ok,invoke,hargs']
        simpa [Qaf] using hy
       have hgg:=stepGR_op (P:=X.P) (b:=b) (k:=k0) (cs:=cs) (w:=C.w) (rest:=rest) ho (Qdv hC hgd)
       rw [Oper.semAt_eq _ _ _ (by intro c' hc';rw [hc] at hc';cases hc')] at hgg
       obtain ⟨w',μ',hd,Qhc⟩:=Qy5 (b.atR a (.inRegion ops (i :: rest) :: k0)) cs
       have Qin:step X.P (lone (b.atR a (.inRegion ops (i :: rest) :: k0)) cs C.w)=.next (lone (Frame.round l0 fn tmps asg body .normal) (b.atR a (.inRegion ops (i :: rest) :: k0) :: cs) C.w):=
        step_lone_go (by rw [hgg];simp [stepG.apply,hxe,Frame.atR])
       have Qdw:(b.atR a (.inRegion ops (i :: rest) :: k0)).finish (.bool true)=b.atR (a.put o.dst (.bool true)) (.inRegion ops rest :: k0):=by
        rw [Frame.finish_atR,ho];rfl
       rw [Qdw] at Qhc
       have Qhy:Sim X { st with rows:=(Qa4 C ids μ' Qr w').rows } a (Qa4 C ids μ' Qr w'):=hC.Qds (Qmd hC.rel hh hd.rel) (Qml hC.rel hh hd)
       exact ⟨_,Qa4 C ids μ' Qr w',Qhy.put Que (.d (.v rfl)),.head Qin Qhc⟩
     cases e
    cases e
   cases e
  cases e
 cases e
theorem Wl0 {f:FuncId} {fn:Func} {Qr:List Row} {ret av:AV} {st:St} {k:List Item} {D:Nat} (id:Nat) (hf:X.P.funcs[f]? = some fn) (hX:X.ds=[{ target:=.collected D,args:=#[] }]/\X.rnd=none) (hr:st.rows[id]? = some (.dfr D))
  (e:Qlj st.tm fn.results.toList=some av) (Yu:List Nat) (hid:id ∉ Yu) (hs:Sel st.rows (Qbm Yu st.rows.length) Yu Qr) (hn:Yu.Nodup) (h0:Yu.take X.μ0.length=List.range X.μ0.length) (Qhx:av=Qa0 (Qbm Yu st.rows.length) ret)
  (nr:∀ r∈Qr,NR r) (na:NA ret):AK X f (.code .ret :: k) (Ym X.plain Qr ret) st:=by
 intro a C hC b cs hb hk
 have hrC:C.rows[id]? = some (.dfr D):=by rw [hC.rows];exact hr
 obtain ⟨ob,hμ⟩:=hC.rel.Qip hrC
 have hd:=hC.rel.rel id ob _ hμ hrC
 cases ob with
 | none=>exact hd.elim
 | some q=>
  obtain ⟨rfl,hd⟩:=hd
  have tu:Qgo X C id q (.dfr q) .gone (C.w.putObj q (.deferred none)):=⟨hμ,hrC,rfl,rfl,rfl,⟨rfl,Nat.le_refl _⟩,by simp [World.putObj],fun j hj=>World.putObj_heap_other hj,fun cs ty hc=>(by rw [hd] at hc;cases hc),fun _ _=>rfl,fun _ _=>rfl⟩
  have ev:=Ev.Yw hC.rel tu
  have Qfu:=Wt.Yw hC.rel tu (.inr rfl) trivial
  have hm:=hC.Qds ev Qfu
  obtain ⟨v,r1,r2⟩:=Qwt hm (fn:=fn) (av:=av) e
  let C1:=C.Yw id .gone (C.w.putObj q (.deferred none))
  have Qy7:Sel C1.rows (Qbm Yu C1.rows.length) Yu Qr:=by
   have hl:C1.rows.length=st.rows.length:=by simp [C1,Qq.Yw,hC.rows]
   rw [hl]
   have gen:∀ {Qpj:List Nat} {rs:List Row},Sel st.rows (Qbm Yu st.rows.length) Qpj rs->id ∉ Qpj->Sel C1.rows (Qbm Yu st.rows.length) Qpj rs:=by
    intro Qpj rs hs
    induction hs with
    | nil=>exact fun _=>.nil
    | cons h1 _ ih=>
     intro hni
     simp only [List.mem_cons,not_or] at hni
     exact .cons (by simp only [C1,Qq.Yw,hC.rows];rw [List.getElem?_set_ne hni.1];exact h1) (ih hni.2)
   exact gen hs hid
  have p:Qjk X C1 Yu Qr:=by
   refine ⟨Qy7,hn,fun j hj=>?_⟩
   have:(Yu.take X.μ0.length)[j]? = some j:=by rw [h0];simp [hj]
   rw [List.getElem?_take_of_lt hj] at this
   exact this
  have Zb:=Qmh Qfu p
  have Qgc:∀ b,(Qc4 C1 Yu Qr).ok X true b->(Qc4 C1 Yu Qr).okR X true b:=fun _ h=>⟨rfl,h⟩
  have s1:=stepR_ret (P:=X.P) (b:=b) (a:=a) (k:=k) (cs:=cs) (w:=C.w) (hk.2.trans hX.2)
  have hdf:({ b.atR a (.code .ret :: k) with mode:=.returning }:Frame).defers=({ target:=.collected q,args:=#[] }:Deferred) :: []:=hC.defers.trans hX.1
  have s2:=step_collected (P:=X.P) (cs:=cs) (w:=C.w) (fr:={ b.atR a (.code .ret :: k) with mode:=.returning }) (by simp) hdf rfl (run_takeDeferred hd)
  refine ⟨Qc4 C1 Yu Qr,_,⟨v,rfl,⟨Zb.plain, ?_, ?_⟩, ?_⟩,.head s1 (.one s2),hb⟩
  ·intro j ob r e1 e2
   exact (Zb.rel j ob r e1 e2).perm Qgc (nr r (List.mem_of_getElem? e2))
  ·have hl:C1.rows.length=st.rows.length:=by simp [C1,Qq.Yw,hC.rows]
   rw [Qhx,<- hl] at r2
   exact (Qoh Qfu p r2).perm Qgc na
  exact ⟨rfl,rfl,hk.1,fn,by show X.P.funcs[b.fn]? = _;rw [hb];exact hf,r1⟩
def Ctx.mark (X:Ctx) (D:Nat):Ctx:={ X with ds:=[{ target:=.collected D,args:=#[] }],rnd:=none }
theorem Weh (D:Nat) (hX:X.ds=[]/\X.rnd=none):(X.mark D).plain=X:=by
 obtain ⟨P,w0,μ0,okp,ds,rnd⟩:=X
 obtain ⟨h1,h2⟩:=hX
 simp only at h1 h2
 subst h1
 subst h2
 rfl
theorem Wt.mark {C:Qq} (D:Nat) (h:Wt X C):Wt (X.mark D) C:=⟨h.len,h.os,h.tape,h.output,h.size,h.keep,h.shape,h.first,h.place,h.apart,h.Qb4,h.Qb7,h.rel⟩
theorem Qra {st:St} {a:Act} {C:Qq} (h:Sim X st a C):∀ {is:List Nat} {xs:List AV},is.map (fun i=>st.tm.lookup i)=xs.map some ->
  ∃ vs,Qaw C.w (C.ok X) C.μ xs vs/\∀ (j i:Nat) v,is[j]? = some i->vs[j]? = some v->a.tmps[i]? = some v
 | [],[],_=>⟨[],.nil,fun _ _ _ h=>by simp at h⟩
 | [],_ :: _,e=>by simp at e
 | _ :: _,[],e=>by simp at e
 | i :: is,x :: xs,e=>by
  simp only [List.map_cons,List.cons.injEq] at e
  obtain ⟨v,h1,h2⟩:=h.tm i x e.1
  obtain ⟨vs,h3,h4⟩:=Qra h e.2
  refine ⟨v :: vs,.cons h2 h3,fun j q u hj hu=>?_⟩
  cases j with
  | zero=>
   simp at hj hu
   subst hj
   subst hu
   exact h1
  | succ j=>exact h4 j q u (by simpa using hj) (by simpa using hu)
def Qpg (rows:List Row) (D:Nat) (f:FuncId) (nt:Nat) (is:List Nat) (xs:List AV) (p:Tmp) (asg body:Code):List Row:=rows ++ [.dfr D,.loop (D+1) .ready f nt is xs #[p] asg body]
set_option maxHeartbeats 1000000 in
theorem Qx3 {P:Program} {f g:FuncId} {fop:Operand} {p:Tmp} {asg body:Code} {k:List Item} {Q:Frame->Frame->Qq->Prop} {st:St} {caps:List DV} {ret:AV} (is:List Nat) (xs xs':List AV) (ids:List Nat) (Xb Qr:Nat->List Row) (args:Nat->List AV)
  (hP:X.P=P) (hX:X.ds=[]/\X.rnd=none) (hv:valOf st.tm fop=some (.d (.fn g caps))) (he:Enters P g) (hxs:is.map (fun i=>st.tm.lookup i)=xs.map some)
  (hs:∀ l,Xt P g (Xb l) (args l) (Qr l) ret)
  (hh:∀ D,Qbz (Qpg st.rows D f st.nt is xs p asg body) ids (Xb (D+1)))
  (hp:∀ D,Qff (Qpg st.rows D f st.nt is xs p asg body) ids (Zw ids (Qpg st.rows D f st.nt is xs p asg body).length) (.d (.v (.func (.yield (D+1)) #[] #[])) :: caps.map .d) (args (D+1)))
  (hl:∀ D,(Qav (Qpg st.rows D f st.nt is xs p asg body) ids (Qr (D+1)))[st.rows.length+1]? = some (.loop (D+1) .ready f st.nt is xs' #[p] asg body))
  (h:∀ D,AK (X.mark D) f k Q ⟨st.nt,st.tm,(Qav (Qpg st.rows D f st.nt is xs p asg body) ids (Qr (D+1))).set (st.rows.length+1) .gone⟩):
  AK X f (.code (.rangeFunc fop #[p] asg body) :: k) Q st:=by
 subst hP
 intro a C hC b cs hb hk
 obtain ⟨vs,v1,v2⟩:=Qra hC hxs
 let D:=C.w.heap.size
 let C1:=C.push (.deferred (some [])) (.dfr D)
 have h1:Wt X C1:=Wt.push hC.rel ⟨rfl,heap_alloc_new _ _⟩
 have e1:Ev X C C1:=Ev.push hC.rel _ _
 have hD1:C1.w.heap.size=D+1:=World.size_alloc _ _
 let lp:Loop:={ state:=.ready,pending:=none,fn:=f,tmps:=a.tmps,params:=#[p],assign:=asg,body:=body,defers:=D }
 let C2:=C1.push (.loop lp) (.loop (D+1) .ready f st.nt is xs #[p] asg body)
 have e2:Ev X C1 C2:=Ev.push h1 _ _
 have ev:=e1.trans e2
 have h2:Wt X C2:=Wt.push h1 ⟨hD1,a.tmps,D,vs,heap_alloc_new _ _,hC.nt,Qaw.mono ev.ok ev.same ev.pre ev.shape v1,v2⟩
 have Qy6:C2.rows=Qpg st.rows D f st.nt is xs p asg body:=by simp [C2,C1,Qq.push,hC.rows,Qpg]
 have s2:Sim X { st with rows:=C2.rows } a C2:=hC.Qds ev h2
 -- the call
 obtain ⟨gcs,hgv,hgr⟩:∃ gcs:List Value,a.eval fop=.func (.func g) #[] gcs.toArray/\VRs C2.w (C2.ok X) caps gcs:=by
  have:=s2.val fop _ hv
  generalize a.eval fop=u at this
  cases this with
  | d hh=>
   cases hh with
   | fn hh=>exact ⟨_,rfl,hh⟩
 have Qin:(Instr.enterLoop b.fn a.tmps #[p] asg body b.roundOf).run X.P C.w=.ok (D+1,[{ target:=.collected D,args:=#[] }]) C2.w:=by
  rw [hb,hk.2.trans hX.2]
  exact run_enterLoop_outer f a.tmps #[p] asg body
 have Qy4:(resolve a.eval (rangeCall fop (D+1)) 0).run X.P C2.w=.ok { target:=.fn (.func g) gcs.toArray,args:=#[.func (.yield (D+1)) #[] #[]] } C2.w:=by
  have hcv:a.eval (.const (.func (.yield (D+1)) #[] #[]))=.func (.yield (D+1)) #[] #[]:=rfl
  simp [resolve,rangeCall,hgv,Deferred.ofValue,hcv]
 have hinv:(invoke (.fn (.func g) gcs.toArray) #[.func (.yield (D+1)) #[] #[]]).run X.P C2.w=.ok (.enter g (#[.func (.yield (D+1)) #[] #[]] ++ gcs.toArray)) C2.w:=by
  simp only [invoke]
  exact he _ _
 have Qay:=stepR_rangeFunc (P:=X.P) (b:=b) (a:=a) (k:=k) (cs:=cs) Qin Qy4 hinv
 have hhd:=hh D
 have hpd:=hp D
 have hld:=hl D
 have hkd:=h D
 rw [<- Qy6] at hhd hpd hld hkd
 have Qb5:Qaw C2.w (C2.ok X) C2.μ (.d (.v (.func (.yield (D+1)) #[] #[])) :: caps.map .d) (.func (.yield (D+1)) #[] #[] :: gcs):=.cons (.d (.v rfl)) (hgr.toA).toL
 have Qdd:=hs (D+1) (Qaf X C2 ids) _ rfl (Qmm h2 hhd) (Qoa h2 hhd) (Qj5 h2 hhd hpd Qb5)
 have hae:(Value.func (.yield (D+1)) #[] #[] :: gcs).toArray=#[.func (.yield (D+1)) #[] #[]] ++ gcs.toArray:=by simp
 rw [hae] at Qdd
 obtain ⟨e,w',fr,⟨v,μ',rfl,hd⟩,Qhc,_,Qmv⟩:=Qdd (b.atR { a with defers:=[{ target:=.collected D,args:=#[] }] ++ a.defers } (.inRangeFunc (D+1) :: k) :: cs)
 have Qgh:=step_leave_returned (c:=b.atR { a with defers:=[{ target:=.collected D,args:=#[] }] ++ a.defers } (.inRangeFunc (D+1) :: k)) (cs:=cs) Qmv
 rw [finish_atR_inRangeFunc] at Qgh
 have hb2:=Qml h2 hhd hd
 have eb:=Qmd h2 hhd hd.rel
 have sb:=s2.Qds eb hb2
 -- the loop is over
 obtain ⟨ob,hμ⟩:=hb2.Qip hld
 have hlr:=hb2.rel _ ob _ hμ hld
 cases ob with
 | none=>exact hlr.elim
 | some q=>
  obtain ⟨rfl,T,D',vs',r1,r2,r3,r4⟩:=hlr
  have Qhb:=stepR_endRangeFunc (P:=X.P) (b:=b) (a:={ a with defers:=[{ target:=.collected D,args:=#[] }] ++ a.defers }) (k:=k) (cs:=cs) (run_endLoop r1 (by simp))
  have tu:=Qm3 (r':=.gone) hb2 (.loop { state:=.exhausted,pending:=none,fn:=f,tmps:=T,params:=#[p],assign:=asg,body:=body,defers:=D' }) hμ hld rfl r1
  have h3:=Wt.Yw hb2 tu (.inr rfl) trivial
  have ev3:=Ev.Yw hb2 tu
  have s3:=sb.Qds ev3 h3
  have Qdw:Sim (X.mark D) ⟨st.nt,st.tm,(Qav C2.rows ids (Qr (D+1))).set (st.rows.length+1) .gone⟩ { a with defers:=[{ target:=.collected D,args:=#[] }] ++ a.defers } _:=⟨s3.rel.mark D,s3.rows,by simp [Ctx.mark,hC.defers,hX.1],s3.nt,s3.tm⟩
  obtain ⟨C',fr',q1,q2,q3⟩:=hkd _ _ Qdw b cs hb ⟨hk.1,hk.2.trans hX.2⟩
  exact ⟨C',fr',q1,.head Qay (Qhc.trans (.head Qgh (.head Qhb q2))),q3⟩
end
theorem Qsr {rows:List Row} {i j k:Nat} {a b c:Row} (h1:rows[i]? = some (Qb0 (Zw [i,j,k] rows.length) a)) (h2:rows[j]? = some (Qb0 (Zw [i,j,k] rows.length) b)) (h3:rows[k]? = some (Qb0 (Zw [i,j,k] rows.length) c))
  (hn:[i,j,k].Nodup) (l1:a.live=true:=by rfl) (l2:b.live=true:=by rfl) (l3:c.live=true:=by rfl):Qbz rows [i,j,k] [a,b,c]:=by
 refine ⟨hn,rfl,fun q id r hq hr=>?_⟩
 match q with
 | 0=>simp at hq hr;subst hq;subst hr;exact ⟨h1,l1⟩
 | 1=>simp at hq hr;subst hq;subst hr;exact ⟨h2,l2⟩
 | 2=>simp at hq hr;subst hq;subst hr;exact ⟨h3,l3⟩
 | q+3=>simp at hq
end Go.Sy
namespace Go.Sy
section
variable {X:Ctx} {T:Tab} {f:FuncId} {k k':List Item} {Q:Frame->Frame->Qq->Prop} {st st':St}
theorem Qdb {P:Program} {g:FuncId} {Xx args:List AV} {dst:Option Tmp} {Qr:List Row} {ret:AV} (hP:X.P=P) (he:Enters P g) (hs:Xt P g [] args Qr ret) (e:Qdo st k=some (g,Xx,dst,k')) (hp:Qff st.rows [] (Zw [] st.rows.length) Xx args)
  (Qat:St.put { st with rows:=Qav st.rows [] Qr } dst (Qa0 (Zw [] st.rows.length) ret)=some st') (h:AK X f k' Q st'):AK X f k Q st:=by
 subst hP
 exact Qiv [] e he (Qao _) hp hs Qat h
theorem Qj2 {rows:List Row} {i j:Nat} {a b:Row} (h1:rows[i]? = some (Qb0 (Zw [i,j] rows.length) a)) (h2:rows[j]? = some (Qb0 (Zw [i,j] rows.length) b)) (l1:a.live=true) (l2:b.live=true) (hn:[i,j].Nodup):Qbz rows [i,j] [a,b]:=by
 refine ⟨hn,rfl, ?_⟩
 intro q id r e1 e2
 match q,e1,e2 with
 | 0,e1,e2=>
  simp at e1 e2
  subst e1
  subst e2
  exact ⟨h1,l1⟩
 | 1,e1,e2=>
  simp at e1 e2
  subst e1
  subst e2
  exact ⟨h2,l2⟩
def Wbe (T:Tab) (st:St):List Item->Option (Nat × Nat × Nat × Nat × IntKind × Int × Tmp × List Item)
 | .inRegion ops (i :: j :: rest) :: k=>
  match ops[i]?,ops[j]? with
  | some o,some p=>
   match o.op,o.dst,o.guard,p.op,p.dst,p.guard with
   | .slice t x (some lo) none none,some d,none,.call c,none,none=>
    match c.callee,c.args.toList,c.argTypes.toList with
    | .builtin .clear,[.tmp d'],[t']=>
     match valOf st.tm x,valOf st.tm lo,T.Qbn.lookup t,T.Qbn.lookup t' with
     | some (.own id s off n),some (.d (.v (.int kk l))),some e,some e'=>
      match T.info.lookup e with
      | some (s',_,z)=>bif Nat.beq d d' && Nat.beq e e' && Nat.beq s s' && Nat.beq z.length s && z.all (·.oneCell') && Nat.blt d st.nt then some (id,s,off,n,kk,l,d,.inRegion ops rest :: k) else none
      | none=>none
     | _,_,_,_=>none
    | _,_,_=>none
   | _,_,_,_,_,_=>none
  | _,_=>none
 | _=>none
theorem Qp0 {z:Array Value} {n:Nat} (hz:∀ v∈z.toList,v.oneCell'=true) (hp:0 < z.size):∀ v∈(Builtin.zeroCells z n).toList,v.oneCell'=true:=by
 intro v hv
 simp only [Builtin.zeroCells,Array.toList_map,List.mem_map] at hv
 obtain ⟨i,_,rfl⟩:=hv
 have:i % z.size < z.size:=Nat.mod_lt _ hp
 rw [getElem!_pos z _ this]
 exact hz _ (by simp)
theorem Qq4 {d:Nat} {x:AV} {tm:List (Nat × AV)}:∀ (S:List Nat),S.contains d=false->(S.filterMap fun i=>(((d,x) :: tm).lookup i).map fun av=>(i,av))=S.filterMap fun i=>(tm.lookup i).map fun av=>(i,av)
 | [],_=>rfl
 | q :: S,h=>by
  have h1:¬ (q=d)/\S.contains d=false:=by
   simp only [List.contains_cons,Bool.or_eq_false_iff] at h
   exact ⟨fun e=>by subst e;simp at h,h.2⟩
  have h2:(q == d)=false:=by simpa using h1.1
  have ih:=Qq4 (d:=d) (x:=x) (tm:=tm) S h1.2
  simp only [List.filterMap_cons,List.lookup_cons,h2]
  simp only [List.lookup_cons] at ih
  rw [ih]
theorem Wi2 (hT:Qw X.P T) (S:List Nat) {id s off n N:Nat} {kk:IntKind} {l:Int} {d:Tmp} {ty:TypeId} {g:Nat->List DV} (e:Wbe T st k=some (id,s,off,n,kk,l,d,k')) (hr:st.rows[id]? = some (.flat false s ty N g))
  (h0:0<=l) (h1:l<=n) (ho:off=0) (hN:N=n) (hs0:0 < s) (hS:S.contains d=false) (hst:St.only S { st with rows:=st.rows.set id (.flat false s ty l.toNat g) }=st') (h:AK X f k' Q st'):AK X f k Q st:=by
 subst ho
 subst hN
 unfold Wbe at e
 split at e
 ·rename_i ops i j rest k0
  split at e
  ·rename_i o p hoi hpj
   split at e
   ·rename_i t x lo dd c hop Qo7 hgd Qy3 Wd3 Wj2
    split at e
    ·rename_i d' t' Qmu Qb5 Wdu
     split at e
     ·rename_i id' s1 off' n' kk' l' el el' hx hlo hsl Qy8
      split at e
      ·rename_i s' by' z hi
       cases hb:(Nat.beq dd d' && Nat.beq el el' && Nat.beq s1 s' && Nat.beq z.length s1 && z.all (·.oneCell') && Nat.blt dd st.nt) with
       | false=>rw [hb] at e;cases e
       | true=>
        rw [hb] at e
        simp only [cond_true,Option.some.injEq,Prod.mk.injEq] at e
        obtain ⟨rfl,rfl,rfl,rfl,rfl,rfl,rfl,rfl⟩:=e
        simp only [Bool.and_eq_true] at hb
        obtain ⟨⟨⟨⟨⟨b1,b2⟩,b3⟩,b4⟩,b5⟩,b6⟩:=hb
        have b1:=Nat.eq_of_beq_eq_true b1
        have b2:=Nat.eq_of_beq_eq_true b2
        have b3:=Nat.eq_of_beq_eq_true b3
        have b4:=Nat.eq_of_beq_eq_true b4
        subst b1
        subst b2
        subst b3
        intro a C hC b cs hb hk
        have hav:=hC.val _ _ hx
        have hlv:=(hC.val _ _ hlo).Qbt
        obtain ⟨xv,hxv⟩:∃ xv,a.eval x=xv:=⟨_,rfl⟩
        rw [hxv] at hav
        -- the first operation
        have first:∀ (A:Option Addr) (cc:Nat),xv=.slice A n' cc->n'<=cc->(execOp a.eval o).run X.P C.w=.ok (.value (sliced A l'.toNat n' cc s1)) C.w:=by
         intro A cc hA hc
         have:=Qlr (P:=X.P) C.w (hT.slice hsl) (hT.size hi C.w) A n' cc (some (kk',l')) none hc (by simpa [loN] using h0) (by simpa [loN,hiN] using h1) (by simp [hiN])
         simp only [execOp,hop,hxv,hA,hlv,Option.map_some,Option.map_none]
         simp only [Option.map_some,Option.map_none,loN,hiN,Int.toNat_natCast] at this
         rw [Sem.run_bind,this]
         rfl
        have hw1:Region.wanted o (yielded ops a.tmps)=true:=by simp [Region.wanted,hgd]
        have hw2:∀ a':Act,Region.wanted p (yielded ops a'.tmps)=true:=fun a'=>by simp [Region.wanted,Wj2]
        have key:∃ v1 C',(execOp a.eval o).run X.P C.w=.ok (.value v1) C.w/\v1.oneCell'=true/\(Builtin.clear_ #[t'] p.type #[v1]).run X.P C.w=.ok (.tuple #[]) C'.w/\C'.rows=C.rows.set id' (.flat false s1 ty l'.toNat g)/\Wt X C'/\Ev X C C':=by
         have hrC:C.rows[id']? = some (.flat false s1 ty n' g):=by rw [hC.rows];exact hr
         have weak:Wt X ⟨C.μ,C.rows.set id' (.flat false s1 ty l'.toNat g),C.w⟩/\Ev X C ⟨C.μ,C.rows.set id' (.flat false s1 ty l'.toNat g),C.w⟩:=by
          refine Qpf hC.rel hrC (fun h=>h) (by simp) (fun ok ob hb=>?_)
          cases ob with
          | none=>simp only [Qbg] at hb ⊢;omega
          | some bb=>
           obtain ⟨cs',vs,q1,q2,q3,q4,q5⟩:=hb
           exact ⟨cs',vs,q1,Nat.le_trans (Nat.mul_le_mul_right _ (by omega)) q2,fun i hi=>q3 i (by omega),fun i hi=>q4 i (by omega),fun i j v hi=>q5 i j v (by omega)⟩
         have quiet:∀ (A:Option Addr) (cc:Nat),(Builtin.clear_ #[t'] p.type #[.slice A 0 cc]).run X.P C.w=.ok (.tuple #[]) C.w:=by
          intro A cc
          cases A<;>simp [Builtin.clear_,run_underlying (hT.slice Qy8)]
         generalize hNN:n'=N' at hav
         cases hav with
         | Qbj hμ=>
          subst hNN
          have hl:l'.toNat=0:=by omega
          refine ⟨_,_,first none 0 rfl (Nat.le_refl _),rfl, ?_,rfl,weak.1,weak.2⟩
          unfold sliced
          rw [hl]
          exact quiet _ _
         | @own _ _ _ _ b0 cc cs0 ty0 hμ hh hsz hn hc=>
          subst hNN
          have hf:=first _ cc rfl hn
          by_cases hln:n' - l'.toNat=0
          ·refine ⟨_,_,hf,rfl, ?_,rfl,weak.1,weak.2⟩
           unfold sliced
           rw [hln]
           exact quiet _ _
          have hne:¬ cc=l'.toNat:=by omega
          have hv1:sliced (some ⟨b0,0 * s1,none⟩) l'.toNat n' cc s1=.slice (some ⟨b0,l'.toNat * s1,none⟩) (n' - l'.toNat) (cc - l'.toNat):=by
           unfold sliced
           rw [if_neg hne]
           simp [Addr.add]
           try (intro h;exact h.symm)
          rw [hv1] at hf
          obtain ⟨csr,vs,r1,r2,r3,r4,r5⟩:=hC.rel.rel id' _ _ hμ hrC
          have hcs:csr=cs0/\ty=ty0:=by
           have:=r1.symm.trans hh
           injection this with this
           injection this with a1 a2 a3
           exact ⟨a1,a2⟩
          obtain ⟨rfl,rfl⟩:=hcs
          obtain ⟨zv,z1,z2⟩:=hT.zero hi C.w
          have hzs:zv.cells.size=s1:=by rw [z2];simpa using b4
          let us:=(Builtin.zeroCells zv.cells (n' - l'.toNat)).toList
          have hul:us.length=(n' - l'.toNat) * s1:=by simp [us,Builtin.zeroCells,hzs]
          have hsum:l'.toNat * s1+(n' - l'.toNat) * s1=n' * s1:=by rw [<- Nat.add_mul];congr 1;omega
          have Qio:∀ v∈us,v.oneCell'=true:=Qp0 (fun v hv=>List.all_eq_true.1 b5 v (by rw [z2] at hv;simpa using hv)) (by omega)
          have Qqr:=run_storeCells_at X.P b0 (l'.toNat * s1) ty us 0 csr C.w r1 (by rw [hul];omega) Qio
          have Qyt:(Builtin.clear_ #[t'] p.type #[.slice (some ⟨b0,l'.toNat * s1,none⟩) (n' - l'.toNat) (cc - l'.toNat)]).run X.P C.w=.ok (.tuple #[]) (C.w.setRow b0 (csr.toList.take (l'.toNat * s1+0) ++ us ++ csr.toList.drop (l'.toNat * s1+0+us.length)).toArray):=by
           obtain ⟨q,hq⟩:∃ q,n' - l'.toNat=q+1:=⟨n' - l'.toNat - 1,by omega⟩
           have Wj5:us=(Builtin.zeroCells zv.cells (q+1)).toList:=by simp only [us,hq]
           rw [Wj5] at Qqr ⊢
           rw [hq]
           simp [Builtin.clear_,run_underlying (hT.slice Qy8),z1,Qqr]
          have Qkz:(csr.toList.take (l'.toNat * s1+0) ++ us ++ csr.toList.drop (l'.toNat * s1+0+us.length)).toArray.size=csr.size:=by
           simp only [List.size_toArray,List.length_append,List.length_take,List.length_drop,Array.length_toList,hul]
           omega
          have tu:=Qgf (r':=.flat false s1 ty l'.toNat g) hC.rel hμ hrC rfl r1 Qkz
          have ev:=Ev.Yw hC.rel tu
          have hle:l'.toNat * s1<=n' * s1:=Nat.mul_le_mul_right _ (by omega)
          refine ⟨_,C.Yw id' (.flat false s1 ty l'.toNat g) (C.w.setRow b0 _),hf,rfl,Qyt,rfl,Wt.Yw hC.rel tu (.inl (by simp)) ?_,ev⟩
          refine ⟨_,vs,setRow_heap _ _ _ _ _ _ r1,by rw [Qkz];omega,fun i hi=>r3 i (by omega),fun i hi=>(r4 i (by omega)).mono ev.ok ev.same,fun i j v hi hj=>?_⟩
          have hjs:j < s1:=by
           have:=(List.getElem?_eq_some_iff.1 hj).1
           rwa [r3 i (by omega)] at this
          have hlt:i * s1+j < l'.toNat * s1:=by
           have:i * s1+s1<=l'.toNat * s1:=by rw [<- Nat.succ_mul];exact Nat.mul_le_mul_right _ hi
           omega
          have:=r5 i j v (by omega) hj
          rw [List.getElem?_toArray,Nat.add_zero,List.append_assoc,List.getElem?_append_left (by rw [List.length_take,Array.length_toList];omega),List.getElem?_take_of_lt hlt]
          simpa using this
        obtain ⟨v1,C',k1,k2,k3,k4,k5,k6⟩:=key
        have s1':=Qe0 (b:=b) (k:=k0) (cs:=cs) (rest:=j :: rest) hoi (by rw [hop];intro c' hc';cases hc') hw1 k1
        rw [Qo7] at s1'
        have Qat:St.put st (some dd) (.d (.v v1))=some { st with tm:=(dd,.d (.v v1)) :: st.tm }:=by
         simp only [St.put]
         rw [b6]
         rfl
        have Qhy:=hC.put Qat (v:=v1) (.d (.v k2))
        have Wjy:(execOp (a.put (some dd) v1).eval p).run X.P C.w=.ok (.value (.tuple #[])) C'.w:=by
         have hargs':c.args=#[.tmp dd]:=by rw [<- Array.toArray_toList (xs:=c.args),Qb5]
         have Qyr:c.argTypes=#[t']:=by rw [<- Array.toArray_toList (xs:=c.argTypes),Wdu]
         have hev:(a.put (some dd) v1).eval (.tmp dd)=v1:=by
          have:=(Qhy.val (.tmp dd) (.d (.v v1)) (by simp [valOf])).Qbt
          exact this
         simp only [execOp,Qy3,resolve,Qmu,hargs',Qyr,Sem.run_bind,Sem.run_pure,Result.andThen_ok,invoke,builtin,List.map_toArray,List.map_cons,List.map_nil,hev,k3]
        have s2':=Qe0 (b:=b) (k:=k0) (cs:=cs) (rest:=rest) hpj (by rw [Qy3];intro c' hc';cases hc') (hw2 (a.put (some dd) v1)) Wjy
        rw [Wd3] at s2'
        have Wd4:=Qhy.Qds k6 k5
        have Wd5:=Wd4.only S
        have Qdw:({ nt:=st.nt,tm:=(dd,.d (.v v1)) :: st.tm,rows:=C'.rows }:St).only S=st':=by
         rw [<- hst]
         simp only [St.only,k4,hC.rows]
         rw [Qq4 _ hS]
        have Wd6:Sim X st' (a.put (some dd) v1) C':=Qdw▸Wd5
        obtain ⟨C2,fr,q,t1,t2⟩:=h _ C' Wd6 b cs hb hk
        exact ⟨C2,fr,q,((Steps.one s1').trans (Steps.one s2')).trans t1,t2⟩
      cases e
     cases e
    cases e
   cases e
  cases e
 cases e
end
end Go.Sy
namespace Go.Sy
abbrev DV.i (n:Int):DV:=.v (.int .i64 n)
abbrev DV.b (b:Bool):DV:=.v (.bool b)
abbrev DV.ns:DV:=.v (.slice none 0 0)
abbrev DV.np:DV:=.v (.pointer none)
abbrev AV.i (n:Int):AV:=.d (.v (.int .i64 n))
abbrev AV.b (b:Bool):AV:=.d (.v (.bool b))
abbrev AV.s (s:ByteArray):AV:=.d (.v (.string s))
abbrev AV.ns:AV:=.d (.v (.slice none 0 0))
abbrev AV.np:AV:=.d (.v (.pointer none))
def dgs:Nat->Nat->List Nat->List Nat
 | 0,_,l=>l
 | f+1,n,l=>match Nat.ble n 9 with
  | true=>l
  | false=>dgs f (n / 10) (n % 10 :: l)
section
variable {X:Ctx} {T:Tab} {f:FuncId} {k:List Item} {Q:Frame->Frame->Qq->Prop} {st:St}
theorem Xq (hT:Qw X.P T) (n:Nat) (k':List Item) (st':St) (h:AK X f k' Q st') (e:(fun r:List Item × St=>(r.1,r.2.only (st'.tm.map Prod.fst))) (adv T n k st)=(k',st'):=by kernel_rfl):AK X f k Q st:=go hT n _ e h
theorem Qik {n0:Nat} (Yu:List Nat) (st':St) (h0:X.μ0.length=n0) (h:AK X f k Q st') (e1:(st.only (st'.tm.map Prod.fst)).tm=st'.tm.map (fun p=>(p.1,Qa0 (Qbm Yu st.rows.length) p.2)):=by kernel_rfl)
  (e2:Yu.map (fun i=>st.rows[i]?)=st'.rows.map (fun r=>some (Qb0 (Qbm Yu st.rows.length) r)):=by kernel_rfl) (e3:st'.nt=st.nt:=by rfl) (hn:Yu.Nodup:=by decide) (h1:Yu.take n0=List.range n0:=by rfl):AK X f k Q st:=
 Qtn _ Yu e1 e2 e3 hn (by rw [h0];exact h1) h
theorem Zr (hT:Qw X.P T) {n0:Nat} (n:Nat) (k':List Item) (Yu:List Nat) (st':St) (h0:X.μ0.length=n0) (h:AK X f k' Q st') (e0:(adv T n k st).1=k':=by kernel_rfl)
  (e1:((adv T n k st).2.only (st'.tm.map Prod.fst)).tm=st'.tm.map (fun p=>(p.1,Qa0 (Qbm Yu (adv T n k st).2.rows.length) p.2)):=by kernel_rfl)
  (e2:Yu.map (fun i=>(adv T n k st).2.rows[i]?)=st'.rows.map (fun r=>some (Qb0 (Qbm Yu (adv T n k st).2.rows.length) r)):=by kernel_rfl) (e3:st'.nt=(adv T n k st).2.nt:=by kernel_rfl) (hn:Yu.Nodup:=by decide) (h1:Yu.take n0=List.range n0:=by rfl):AK X f k Q st:=
 Qm8 hT n (by rw [e0];exact Qik Yu st' h0 h e1 e2 e3 hn h1)
end
section
variable {X:Ctx} {T:Tab} {f:FuncId} {k:List Item} {Q:Frame->Frame->Qq->Prop} {nt:Nat} {rows:List Row} {ops:Array Oper} {m:Nat} {base:List (Nat × AV)} {Φ:List (Option AV)} {E:List Nat}
theorem Wh4 (hT:Qw X.P T) {i:Nat} (d:Nat) (V V':AV) (hv:V=V') (e:∀ R rest,Qfv T (.inRegion ops (i :: R) :: k) ⟨nt,Qbx ops base Φ i ++ rest,rows⟩=some (.inRegion ops R :: k,⟨nt,(d,V) :: (Qbx ops base Φ i ++ rest),rows⟩))
  (e2:Qd5 (Qc7 ops i) ((Φ[i]?).join)=Qd5 (some d) (some V')):Qko X f k Q nt rows ops base Φ i:=Wo3 hT e fun R rest=>by rw [e2,hv];rfl
theorem Qd (h:Qlw X f k Q nt rows ops base Φ m) (hT:Qw X.P T) (e:∀ R rest,Qfv T (.inRegion ops (m :: R) :: k) ⟨nt,Qbx ops base Φ m ++ rest,rows⟩=some (.inRegion ops R :: k,⟨nt,Qd5 (Qc7 ops m) ((Φ[m]?).join) (Qbx ops base Φ m ++ rest),rows⟩):=by intro R rest;kernel_rfl):
  Qlw X f k Q nt rows ops base Φ (m+1):=opS h (Weo hT e)
theorem opV (h:Qlw X f k Q nt rows ops base Φ m) (hT:Qw X.P T) (d:Nat) (V V':AV) (hv:V=V') (e:∀ R rest,Qfv T (.inRegion ops (m :: R) :: k) ⟨nt,Qbx ops base Φ m ++ rest,rows⟩=some (.inRegion ops R :: k,⟨nt,(d,V) :: (Qbx ops base Φ m ++ rest),rows⟩):=by intro R rest;kernel_rfl)
  (e2:Qd5 (Qc7 ops m) ((Φ[m]?).join)=Qd5 (some d) (some V'):=by kernel_rfl):Qlw X f k Q nt rows ops base Φ (m+1):=opS h (Wh4 hT d V V' hv e e2)
theorem Wh (h:Qgm X f k Q nt rows ops base Φ E m) (hT:Qw X.P T) (e:∀ R rest,Qfv T (.inRegion ops (m :: R) :: k) ⟨nt,Qbx ops base Φ m ++ rest,rows⟩=some (.inRegion ops R :: k,⟨nt,Qd5 (Qc7 ops m) ((Φ[m]?).join) (Qbx ops base Φ m ++ rest),rows⟩):=by intro R rest;kernel_rfl):
  Qgm X f k Q nt rows ops base Φ E (m+1):=Qir h (Weo hT e)
theorem Qpd (h:Qgm X f k Q nt rows ops base Φ E m) (hT:Qw X.P T) (d:Nat) (V V':AV) (hv:V=V') (e:∀ R rest,Qfv T (.inRegion ops (m :: R) :: k) ⟨nt,Qbx ops base Φ m ++ rest,rows⟩=some (.inRegion ops R :: k,⟨nt,(d,V) :: (Qbx ops base Φ m ++ rest),rows⟩):=by intro R rest;kernel_rfl)
  (e2:Qd5 (Qc7 ops m) ((Φ[m]?).join)=Qd5 (some d) (some V'):=by kernel_rfl):Qgm X f k Q nt rows ops base Φ E (m+1):=Qir h (Wh4 hT d V V' hv e e2)
theorem Qcj (h:Qgm X f k Q nt rows ops base Φ E m) (he:E.contains m=true:=by decide):Qgm X f k Q nt rows ops base Φ E (m+1):=Wqa h he
theorem Qkf {s:Nat} (h:Qgn X f k Q nt rows ops base Φ E s m) (hT:Qw X.P T) (e:∀ R rest,Qfv T (.inRegion ops (m :: R) :: k) ⟨nt,Qbx ops base Φ m ++ rest,rows⟩=some (.inRegion ops R :: k,⟨nt,Qd5 (Qc7 ops m) ((Φ[m]?).join) (Qbx ops base Φ m ++ rest),rows⟩):=by intro R rest;kernel_rfl):
  Qgn X f k Q nt rows ops base Φ E s (m+1):=Wo1 h (Weo hT e)
theorem Wo2 {s:Nat} (h:Qgn X f k Q nt rows ops base Φ E s m) (he:E.contains m=true:=by decide):Qgn X f k Q nt rows ops base Φ E s (m+1):=Wqc h he
theorem Qk2 {s:Nat} (h:Qgn X f k Q nt rows ops base Φ E s m) (he:Qnp ops E m s=false:=by kernel_rfl):Qgn X f k Q nt rows ops base Φ E s (m+1):=Wqb h he
theorem Qj4 (hT:Qw X.P T) {i:Nat} {rows':List Row} (e:∀ R rest,Qfv T (.inRegion ops (i :: R) :: k) ⟨nt,Qbx ops base Φ i ++ rest,rows⟩=some (.inRegion ops R :: k,⟨nt,Qd5 (Qc7 ops i) ((Φ[i]?).join) (Qbx ops base Φ i ++ rest),rows'⟩):=by intro R rest;kernel_rfl):
  Qlx X f k Q nt rows rows' ops base Φ i:=Wo4 hT e
theorem Qab {st:St} (hm:X.P.follows .mixedOrders=true) (m:Nat) (S:List Nat) (Φ:List (Option AV)) (hop:Qlw X f k.tail Q st.nt st.rows (Qdt k) (st.only S).tm Φ m)
  (Qdw:AK X f (.inRegion (Qdt k) (List.range' m ((Qdt k).size - m)) :: k.tail) Q ⟨st.nt,Qh3 (Qdt k) Φ m ++ Qlv (Qdt k) m (st.only S).tm,st.rows⟩) (hd:Qmx k=true:=by kernel_rfl) (hck:Qjf (Qdt k) m ((st.only S).tm.map (·.1))=true:=by kernel_rfl):AK X f k Q st:=
 Wfa hm m S _ Φ hd rfl hck hop Qdw
end
theorem Wt.forget {X:Ctx} {μ:List (Option Nat)} {rows:List Row} {w:World} (h:Wt X ⟨μ,rows,w⟩) (h0:X.μ0=[]):Wt X ⟨[],[],w⟩:=
 ⟨rfl,h.os,h.tape,h.output,h.size,h.keep,h.shape,fun id x hx=>by rw [h0] at hx;simp at hx,fun id b hb=>by simp at hb,fun i j b r s hb=>by simp at hb,fun id m b r hb=>by simp at hb,fun i j m n b r s hb=>by simp at hb,fun id ob r hb=>by simp at hb⟩
theorem Wen {X:Ctx} {μ:List (Option Nat)} {rows:List Row} {w:World}:∀ t b,Qq.okR X ⟨μ,rows,w⟩ t b->Qq.okR X ⟨[],[],w⟩ t b:=
 fun t b ⟨h1,h2,h3,h4⟩=>⟨h1,h2,fun ⟨id,m,r,hb,_⟩=>by simp at hb,h4⟩
theorem Wep {X:Ctx} {μ:List (Option Nat)} {rows:List Row} {w:World} {id k n:Nat} {ty:TypeId} {g:Nat->List DV} {v:Value} (h:Wt X ⟨μ,rows,w⟩)
  (hr:rows[id]? = some (.flat false k ty n g)) (hrs:∀ (j:Nat) (ob:Option Nat) (r:Row),μ[j]? = some ob->rows[j]? = some r->Qbg w (Qq.okR X ⟨μ,rows,w⟩) μ ob r)
  (hv:Zj w (Qq.okR X ⟨μ,rows,w⟩) μ (.own id k 0 n) v):VR w (Qq.okR X ⟨[],[],w⟩) (.sl true n g) v:=by
 generalize ho:(0:Nat)=off at hv
 cases hv with
 | Qbj hm=>exact .sl0
 | own hm hh hs hn hc=>
  rename_i b c cs ty'
  subst ho
  rcases Nat.eq_zero_or_pos n with h0 | h0
  ·subst h0
   exact .sl0
  obtain ⟨cs2,vs,r1,r2,r3,r4,r5⟩:=hrs id (some b) _ hm hr
  have hp:=h.place id b hm
  refine .sl k vs h0 hn ⟨rfl,hp.2,fun ⟨id,m,r,hb,_⟩=>by simp at hb,fun _=>.inr hp.1⟩ r3 (fun i hi=>(r4 i hi).mono Wen fun _ _ _=>rfl) fun i j u hi hj=>?_
  have:=r5 i j u hi hj
  simp only [World.cell?,r1,Nat.zero_mul,Nat.zero_add]
  simpa using this
theorem Xt.Wqi {P:Program} {f:FuncId} {args:List AV} {k n:Nat} {ty:TypeId} {g:Nat->List DV} (h:Xt P f [] args [.flat false k ty n g] (.own 0 k 0 n)):Xt P f [] args [] (.d (.sl true n g)):=by
 intro X vs hP hF Zb Qb5
 have hl0:X.μ0=[]:=List.length_eq_zero_iff.1 Zb.len
 refine (h X vs hP hF Zb Qb5).mono ?_
 rintro e w' ⟨v,μ',rfl,hd⟩
 exact ⟨v,[],rfl,hd.rel.forget hl0,fun id ob r hb=>by simp at hb,.d (Wep hd.rel rfl hd.rows hd.ret)⟩
section
variable {α γ σ ρ δ:Type} {c:Prop} [Decidable c] {g:σ->Option ρ} {r:ρ}
theorem sT {a b:Option (σ ⊕ ρ)} (h:c) (H:Jq (if c then a else b) g=some r):Jq a g=some r:=by rwa [if_pos h] at H
theorem sF {a b:Option (σ ⊕ ρ)} (h:¬ c) (H:Jq (if c then a else b) g=some r):Jq b g=some r:=by rwa [if_neg h] at H
theorem sC {a:Option (σ ⊕ ρ)} (H:Jq (if c then a else none) g=some r):c/\Jq a g=some r:=Wok (K:=fun o=>Jq o g) rfl H
theorem sbC {o:Option δ} {f:δ->Option (σ ⊕ ρ)} (H:Jq (o.bind f) g=some r):∃ v,o=some v/\Jq (f v) g=some r:=Wlm (K:=fun o=>Jq o g) rfl H
theorem sdC {e:δ} {f:δ->Option (σ ⊕ ρ)} (H:Jq (bnd e f) g=some r):∃ v,v=e/\Jq (f v) g=some r:=⟨e,rfl,H⟩
theorem iT {a b x:α} (h:c) (H:(if c then a else b)=x):a=x:=by rwa [if_pos h] at H
theorem iF {a b x:α} (h:¬ c) (H:(if c then a else b)=x):b=x:=by rwa [if_neg h] at H
theorem iC {a:Option α} {y:α} (H:(if c then a else none)=some y):c/\a=some y:=Wok (K:=fun o=>o) rfl H
theorem ibC {o:Option δ} {f:δ->Option α} {y:α} (H:(o.bind f)=some y):∃ v,o=some v/\(f v)=some y:=Wlm (K:=fun o=>o) rfl H
theorem idC {e:δ} {f:δ->α} {x:α} (H:(bnd e f)=x):∃ v,v=e/\(f v)=x:=⟨e,rfl,H⟩
end
theorem Qd9 {X:Ctx} {f:FuncId} {fn:Func} {Qr:List Row} {ret:AV} {st:St} {k:List Item} {n0:Nat} (hf:X.P.funcs[f]? = some fn) (hX:X.ds=[]/\X.rnd=none) (h0:X.μ0.length=n0) (av:AV) (Yu:List Nat) (nr:∀ r∈Qr,NR r) (na:NA ret)
  (e:Qlj st.tm fn.results.toList=some av:=by kernel_rfl) (hs:Yu.map (fun i=>st.rows[i]?)=Qr.map (fun r=>some (Qb0 (Qbm Yu st.rows.length) r)):=by kernel_rfl) (hn:Yu.Nodup:=by decide) (h1:Yu.take n0=List.range n0:=by rfl) (Qhx:av=Qa0 (Qbm Yu st.rows.length) ret:=by kernel_rfl):
  AK X f (.code .ret :: k) (Ym X Qr ret) st:=Qf9 hf hX e Yu (Qal hs) hn (by rw [h0];exact h1) Qhx nr na
theorem Woe {X:Ctx} {f:FuncId} {fn:Func} {Qr:List Row} {ret:AV} {st:St} {n0:Nat} (hf:X.P.funcs[f]? = some fn) (hX:X.ds=[]/\X.rnd=none) (h0:X.μ0.length=n0) (av:AV) (Yu:List Nat) (nr:∀ r∈Qr,NR r) (na:NA ret)
  (e:Qlj st.tm fn.results.toList=some av:=by kernel_rfl) (hs:Yu.map (fun i=>st.rows[i]?)=Qr.map (fun r=>some (Qb0 (Qbm Yu st.rows.length) r)):=by kernel_rfl) (hn:Yu.Nodup:=by decide) (h1:Yu.take n0=List.range n0:=by rfl) (Qhx:av=Qa0 (Qbm Yu st.rows.length) ret:=by kernel_rfl):
  AK X f [] (Ym X Qr ret) st:=Qtp hf hX e Yu (Qal hs) hn (by rw [h0];exact h1) Qhx nr na
end Go.Sy
