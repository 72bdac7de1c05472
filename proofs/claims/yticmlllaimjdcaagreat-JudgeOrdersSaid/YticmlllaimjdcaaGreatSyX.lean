/- Results that lie in memory; a nil slice in a variable as an empty row. -/
import Derived.Test.YticmlllaimjdcaaGreatSyU
import Derived.Test.YticmlllaimjdcaaGreatSyS
set_option linter.unusedVariables false
set_option linter.unusedSimpArgs false
namespace Go.Sy
section
variable {X:Ctx} {T:Tab} {f:FuncId} {k:List Item} {st:St} {a:Act} {C:Wt}
def Qn6 (T:Tab) (st:St):ResultVar->Option AV
 | .tmp t=>st.tm.lookup t
 | .cell p t=>(st.tm.lookup p).bind fun av=>match av with
  | .ptr id k i off=>Qph T st.rows t (.ptr id k i off)
  | _=>none
def Quo (T:Tab) (st:St):List ResultVar->Option AV
 | [x]=>Qn6 T st x
 | [x,y]=>match Qn6 T st x,Qn6 T st y with
  | some a,some b=>some (.Qn [a,b])
  | _,_=>none
 | [x,y,z]=>match Qn6 T st x,Qn6 T st y,Qn6 T st z with
  | some a,some b,some c=>some (.Qn [a,b,c])
  | _,_,_=>none
 | _=>none
def Qzd (tmps:Array Value):ResultVar->Sem Value
 | .tmp t=>pure (tmps.getD t undef)
 | .cell a t=>do loadVar t (<- asAddr (tmps.getD a undef))
theorem Qkw (hT:Xb X.P T) (h:Sim X st a C) {x:ResultVar} {av:AV} (e:Qn6 T st x=some av):∃ v,(Qzd a.tmps x).run X.P C.w=.ok v C.w/\AVR C.w (C.ok X) C.μ av v:=by
 have get:∀ {t:Nat} {x:AV},st.tm.lookup t=some x->AVR C.w (C.ok X) C.μ x (a.tmps.getD t undef):=by
  intro t x ht
  obtain ⟨v,h1,h2⟩:=h.tm t x ht
  simpa [Array.getD_eq_getD_getElem?,h1] using h2
 cases x with
 | tmp t=>exact ⟨_,rfl,get e⟩
 | cell p t=>
  simp only [Qn6] at e
  obtain ⟨pv,hp,e⟩:=Option.bind_eq_some_iff.1 e
  split at e
  ·rename_i id kk i off
   have hpv:=get hp
   rw [<- h.rows] at e
   obtain ⟨v,h1,h2⟩:=Qyw hT h.rel hpv e
   refine ⟨v, ?_,h2⟩
   simp only [Qzd]
   generalize a.tmps.getD p undef=u at hpv h1
   cases hpv with
   | ptr hμ=>
    simp only [Instr.loadAt,Instr.sureAddr] at h1
    simpa [asAddr] using h1
  cases e
theorem Wdo (fn:Func) (tmps:Array Value):results fn tmps=(do
  let vs <- fn.results.mapM (Qzd tmps)
  pure (if h:vs.size=1 then vs[0] else .tuple vs)):=by
 unfold results
 congr 1
theorem Wdq (hT:Xb X.P T) (h:Sim X st a C) {fn:Func} {av:AV} (e:Quo T st fn.results.toList=some av):
  ∃ v,(results fn a.tmps).run X.P C.w=.ok v C.w/\AVR C.w (C.ok X) C.μ av v:=by
 have hr:fn.results=fn.results.toList.toArray:=by simp
 generalize fn.results.toList=l at e hr
 rw [Wdo,hr]
 unfold Quo at e
 split at e
 ·obtain ⟨v,h1,h2⟩:=Qkw hT h e
  exact ⟨v,by simp [h1],h2⟩
 ·split at e
  ·rename_i x y p q hp hq
   injection e with e
   subst e
   obtain ⟨v,h1,h2⟩:=Qkw hT h hp
   obtain ⟨u,h3,h4⟩:=Qkw hT h hq
   exact ⟨_,by simp [h1,h3],.Qn (.cons h2 (.cons h4 .nil))⟩
  cases e
 ·split at e
  ·rename_i x y z p q r hp hq hz
   injection e with e
   subst e
   obtain ⟨v,h1,h2⟩:=Qkw hT h hp
   obtain ⟨u,h3,h4⟩:=Qkw hT h hq
   obtain ⟨s,h5,h6⟩:=Qkw hT h hz
   exact ⟨_,by simp [h1,h3,h5],.Qn (.cons h2 (.cons h4 (.cons h6 .nil)))⟩
  cases e
 cases e
theorem Qzu {fn:Func} {Wv:List Row} {ret av:AV} (hT:Xb X.P T) (hf:X.P.funcs[f]? = some fn) (e:Quo T st fn.results.toList=some av)
  (Zp:List Nat) (hs:Sel st.rows (Qdf Zp st.rows.length) Zp Wv) (hn:Zp.Nodup) (h0:Zp.take X.μ0.length=List.range X.μ0.length) (Qh2:av=Qdm (Qdf Zp st.rows.length) ret)
  (nr:∀ r∈Wv,NR r) (na:NA ret)
  (Xu:∀ (a:Act) (C:Wt),a.defers=X.ds->∀ (b:Frame) (cs:List Frame),b.fn=f->(b.kind=.normal/\b.roundOf=X.rnd)->∃ fr,Steps X.P (lone (b.atR a k) cs C.w) (lone fr cs C.w)/\fr.fn=f/\fr.mode=.returning/\fr.defers=[]/\fr.kind=.normal/\fr.tmps=a.tmps):
  AK X f k (Yc X Wv ret) st:=by
 intro a C hC b cs hb hk
 obtain ⟨v,h1,h2⟩:=Wdq hT hC e
 have p:Qkz X C Zp Wv:=by
  refine ⟨by rw [hC.rows];exact hs,hn,fun j hj=>?_⟩
  have:(Zp.take X.μ0.length)[j]? = some j:=by rw [h0];simp [hj]
  rw [List.getElem?_take_of_lt hj] at this
  exact this
 obtain ⟨fr,s1,s2,s3,s4,s5,s6⟩:=Xu a C hC.defers b cs hb hk
 have Jz:=Qox hC.rel p
 have Qm8:∀ b,(Qd1 C Zp Wv).ok X true b->(Qd1 C Zp Wv).okR X true b:=fun _ h=>⟨rfl,h⟩
 refine ⟨Qd1 C Zp Wv,fr,⟨v,rfl,⟨Jz, ?_, ?_⟩,s3,s4,s5,fn,by rw [s2];exact hf,by rw [s6];exact h1⟩,s1,s2⟩
 ·intro id ob r e1 e2
  exact (Jz.rel id ob r e1 e2).perm Qm8 (nr r (List.mem_of_getElem? e2))
 rw [Qh2,<- hC.rows] at h2
 exact (Qrd hC.rel p h2).perm Qm8 na
theorem Qhw {fn:Func} {Wv:List Row} {ret av:AV} (hT:Xb X.P T) (hf:X.P.funcs[f]? = some fn) (hX:X.ds=[]/\X.rnd=none) (e:Quo T st fn.results.toList=some av)
  (Zp:List Nat) (hs:Sel st.rows (Qdf Zp st.rows.length) Zp Wv) (hn:Zp.Nodup) (h0:Zp.take X.μ0.length=List.range X.μ0.length) (Qh2:av=Qdm (Qdf Zp st.rows.length) ret)
  (nr:∀ r∈Wv,NR r) (na:NA ret):AK X f (.code .ret :: k) (Yc X Wv ret) st:=
 Qzu hT hf e Zp hs hn h0 Qh2 nr na fun a C hd b cs hb hk=>⟨_,.one (stepR_ret (hk.2.trans hX.2)),hb,rfl,hd.trans hX.1,hk.1,rfl⟩
theorem Qax.at_set {w:World} {ok:Bool->Nat->Prop} {μ:List (Option Nat)}:∀ {xs:List AV} {vs:List Value} {j:Nat} {y:AV},Qax w ok μ xs vs->(∀ v,vs[j]? = some v->AVR w ok μ y v)->Qax w ok μ (xs.set j y) vs
 | _,_,_,_,.nil,_=>.nil
 | _,_,0,_,.cons h1 h hs,k=>.cons h1 (k _ rfl) hs
 | _,_,j+1,_,.cons h1 h hs,k=>.cons h1 h (Qax.at_set hs fun v hv=>k v (by simpa using hv))
theorem Qax.Weo {w:World} {ok:Bool->Nat->Prop} {μ:List (Option Nat)}:∀ {xs:List AV} {vs:List Value} {j:Nat} {y:AV} {v:Value},Qax w ok μ xs vs->xs[j]? = some y->vs[j]? = some v->AVR w ok μ y v
 | _,_,j,_,_,.nil,h,_=>by simp at h
 | _,_,0,_,_,.cons h1 h hs,e1,e2=>by
  simp at e1 e2
  subst e1
  subst e2
  exact h
 | _,_,j+1,_,_,.cons h1 h hs,e1,e2=>Qax.Weo hs (by simpa using e1) (by simpa using e2)
variable {k:List Item} {Q:Frame->Frame->Wt->Prop} {st':St}
theorem Qjc (id j kk:Nat) (ty:TypeId) (g:Nat->List DV) {tb:TypeId} {cs:List AV} (e:(st.rows[id]?).bind (fun r=>match r with | .box tb cs=>(match cs[j]? with | some (.d (.v (.slice none 0 0)))=>some (tb,cs) | _=>none) | _=>none)=some (tb,cs))
  (hs:(⟨st.nt,st.tm,st.rows.set id (.box tb (cs.set j (.own st.rows.length kk 0 0))) ++ [.flat false kk ty 0 g]⟩:St)=st') (h:AK X f k Q st'):AK X f k Q st:=by
 subst hs
 obtain ⟨r,hr,e⟩:=Option.bind_eq_some_iff.1 e
 have hr2:r=.box tb cs/\cs[j]? = some (.d (.v (.slice none 0 0))):=by
  split at e
  ·split at e
   ·rename_i h1
    simp only [Option.some.injEq,Prod.mk.injEq] at e
    obtain ⟨rfl,rfl⟩:=e
    exact ⟨rfl,h1⟩
   cases e
  cases e
 obtain ⟨rfl,hj⟩:=hr2
 intro a C hC b ss hb hk
 have Jz:Qcz C.w ((C.Qdu (.flat false kk ty 0 g)).ok X) (C.Qdu (.flat false kk ty 0 g)).μ none (.flat false kk ty 0 g):=rfl
 have hv:=Yd.Qdu hC.rel Jz
 have ev:=Ev.Qdu hC.rel (.flat false kk ty 0 g)
 have hlt:=(List.getElem?_eq_some_iff.1 hr).1
 have hr3:(C.Qdu (.flat false kk ty 0 g)).rows[id]? = some (.box tb cs):=by
  simp only [Wt.Qdu,hC.rows]
  rw [List.getElem?_append_left hlt]
  exact hr
 have hN:(C.Qdu (.flat false kk ty 0 g)).μ[st.rows.length]? = some none:=by
  simp [Wt.Qdu,<- hC.rows,<- hC.rel.len]
 obtain ⟨h1,h2⟩:=Qtq (r':=.box tb (cs.set j (.own st.rows.length kk 0 0))) hv hr3 (fun _=>rfl) (by simp) (fun ok ob hb=>by
  cases ob with
  | none=>exact hb
  | some bb=>
   obtain ⟨vs,q1,q2⟩:=hb
   refine ⟨vs,q1,q2.at_set fun v hv=>?_⟩
   have:=(q2.Weo hj hv).Qep
   subst this
   exact .Qcc hN)
 refine h a _ ⟨h1, ?_,hC.defers,hC.nt,fun i av e'=>?_⟩ b ss hb hk
 ·simp only [Wt.Qdu,hC.rows]
  rw [List.set_append_left _ _ hlt]
 obtain ⟨v,q1,q2⟩:=hC.tm i av e'
 exact ⟨v,q1,h2.avr (ev.avr q2)⟩
def emptyAt (T:Tab) (st:St) (k:List Item):Option (TypeId × Nat × Option Tmp × List Item):=
 match Qhn st k with
 | some (o,k')=>
  match o.op with
  | .buildSlice t 0 parts=>
   match T.Qdr.lookup t,parts.toList with
   | some e,[]=>match T.info.lookup e with
    | some (s,_,_)=>some (e,s,o.dst,k')
    | none=>none
   | _,_=>none
  | _=>none
 | none=>none
theorem Weg {k':List Item} (hT:Xb X.P T) (S:List Nat) {e s:Nat} {dst:Option Tmp} (g:Nat->List DV) (he:emptyAt T st k=some (e,s,dst,k'))
  (Qcs:(St.put { st with rows:=st.rows ++ [.flat false s e 0 g] } dst (.own st.rows.length s 0 0)).map (St.only S)=some st') (h:AK X f k' Q st'):AK X f k Q st:=by
 obtain ⟨s0,hp,rfl⟩:=Option.map_eq_some_iff.1 Qcs
 unfold emptyAt at he
 split at he
 ·rename_i o k3 Qg7
  split at he
  ·rename_i t parts hop
   split at he
   ·rename_i e' hs hparts
    split at he
    ·rename_i s' b z hi
     simp only [Option.some.injEq,Prod.mk.injEq] at he
     obtain ⟨rfl,rfl,rfl,rfl⟩:=he
     refine Ql5 Qg7 (Qel S h) fun a C hC=>?_
     have hparts':parts=#[]:=by simpa using hparts
     have ev:=Ev.push hC.rel (.cells #[] e') (.flat false s' e' 0 g)
     have Jz:=Yd.push hC.rel (o:=.cells #[] e') (r:=.flat false s' e' 0 g) ⟨#[],fun _=>[],heap_alloc_new _ _,by simp,fun i hi=>by simp at hi,fun i hi=>by simp at hi,fun i j v hi=>by simp at hi⟩
     have hm:=hC.Qgy ev Jz
     refine ⟨.slice (some ⟨C.w.heap.size,0,none⟩) 0 0,C.push (.cells #[] e') (.flat false s' e' 0 g),_, ?_,hm,.own st.rows.length s' 0 0, ?_, ?_⟩
     ·have hsz:=hT.size hi C.w
      subst hparts'
      simp only [execOp,hop,Instr.buildSlice,Sem.run_bind,run_underlying (hT.slice hs),Result.andThen_ok,hsz]
      have h0:∀ f:Nat->Value,(Array.range 0).map f=#[]:=fun f=>Array.eq_empty_of_size_eq_zero (by simp)
      simp [Instr.fill,newRow,run_newObj,Wt.push,h0]
     ·rw [<- hp]
      simp [Wt.push,hC.rows]
     have hμ:(C.push (.cells #[] e') (.flat false s' e' 0 g)).μ[st.rows.length]? = some (some C.w.heap.size):=by simp [Wt.push,<- hC.rows,<- hC.rel.len]
     have:=AVR.own (w:=(C.push (.cells #[] e') (.flat false s' e' 0 g)).w) (ok:=(C.push (.cells #[] e') (.flat false s' e' 0 g)).ok X) (off:=0) (k:=s') (n:=0) (c:=0) hμ (heap_alloc_new C.w (.cells #[] e')) (by simp) (Nat.le_refl _) (Nat.zero_le _)
     rw [Nat.zero_mul] at this
     exact this
    cases he
   cases he
  cases he
 cases he
end
end Go.Sy
namespace Go.Sy
section
variable {X:Ctx} {T:Tab} {f:FuncId} {k k':List Item} {Q:Frame->Frame->Wt->Prop} {st st':St}
theorem Qib {P:Program} {g:FuncId} {Zk args:List AV} {dst:Option Tmp} {Wv:List Row} {ret:AV} (hP:X.P=P) (he:Enters P g) (hs:Xz P g [] args Wv ret) (e:Qhx st k=some (g,Zk,dst,k')) (hp:Qgv st.rows [] (Qa2 [] st.rows.length) Zk args)
  (Qcs:St.put { st with rows:=Qcn st.rows [] Wv } dst (Qdm (Qa2 [] st.rows.length) ret)=some st') (h:AK X f k' Q st'):AK X f k Q st:=by
 subst hP
 exact Qol [] e he (Jy _) hp hs Qcs h
theorem Wf6 {rows:List Row} {i j:Nat} {a b:Row} (h1:rows[i]? = some (Qeh (Qa2 [i,j] rows.length) a)) (h2:rows[j]? = some (Qeh (Qa2 [i,j] rows.length) b)) (l1:a.live=true) (l2:b.live=true) (hn:[i,j].Nodup):Qci rows [i,j] [a,b]:=by
 refine ⟨hn,rfl, ?_⟩
 intro q id r e1 e2
 match q,e1,e2 with
 | 0,e1,e2=>
  simp at e1 e2
  subst e1
  subst e2
  exact ⟨h1,l1⟩
 | 1,e1,e2=>
  simp at e1 e2
  subst e1
  subst e2
  exact ⟨h2,l2⟩
def Waa (T:Tab) (st:St):List Item->Option (Nat × Nat × Nat × Nat × IntKind × Int × Tmp × List Item)
 | .inRegion ops (i :: j :: rest) :: k=>
  match ops[i]?,ops[j]? with
  | some o,some p=>
   match o.op,o.dst,o.guard,p.op,p.dst,p.guard with
   | .slice t x (some lo) none none,some d,none,.call c,none,none=>
    match c.callee,c.args.toList,c.argTypes.toList with
    | .builtin .clear,[.tmp d'],[t']=>
     match valOf st.tm x,valOf st.tm lo,T.Qdr.lookup t,T.Qdr.lookup t' with
     | some (.own id s off n),some (.d (.v (.int kk l))),some e,some e'=>
      match T.info.lookup e with
      | some (s',_,z)=>bif Nat.beq d d' && Nat.beq e e' && Nat.beq s s' && Nat.beq z.length s && z.all (·.oneCell') && Nat.blt d st.nt then some (id,s,off,n,kk,l,d,.inRegion ops rest :: k) else none
      | none=>none
     | _,_,_,_=>none
    | _,_,_=>none
   | _,_,_,_,_,_=>none
  | _,_=>none
 | _=>none
theorem Qxd {z:Array Value} {n:Nat} (hz:∀ v∈z.toList,v.oneCell'=true) (hp:0 < z.size):∀ v∈(Builtin.zeroCells z n).toList,v.oneCell'=true:=by
 intro v hv
 simp only [Builtin.zeroCells,Array.toList_map,List.mem_map] at hv
 obtain ⟨i,_,rfl⟩:=hv
 have:i % z.size < z.size:=Nat.mod_lt _ hp
 rw [getElem!_pos z _ this]
 exact hz _ (by simp)
theorem Qwo {d:Nat} {x:AV} {tm:List (Nat × AV)}:∀ (S:List Nat),S.contains d=false->(S.filterMap fun i=>(((d,x) :: tm).lookup i).map fun av=>(i,av))=S.filterMap fun i=>(tm.lookup i).map fun av=>(i,av)
 | [],_=>rfl
 | q :: S,h=>by
  have h1:¬ (q=d)/\S.contains d=false:=by
   simp only [List.contains_cons,Bool.or_eq_false_iff] at h
   exact ⟨fun e=>by subst e;simp at h,h.2⟩
  have h2:(q == d)=false:=by simpa using h1.1
  have ih:=Qwo (d:=d) (x:=x) (tm:=tm) S h1.2
  simp only [List.filterMap_cons,List.lookup_cons,h2]
  simp only [List.lookup_cons] at ih
  rw [ih]
theorem Wh4 (hT:Xb X.P T) (S:List Nat) {id s off n N:Nat} {kk:IntKind} {l:Int} {d:Tmp} {ty:TypeId} {g:Nat->List DV} (e:Waa T st k=some (id,s,off,n,kk,l,d,k')) (hr:st.rows[id]? = some (.flat false s ty N g))
  (h0:0<=l) (h1:l<=n) (ho:off=0) (hN:N=n) (hs0:0 < s) (hS:S.contains d=false) (hst:St.only S { st with rows:=st.rows.set id (.flat false s ty l.toNat g) }=st') (h:AK X f k' Q st'):AK X f k Q st:=by
 subst ho
 subst hN
 unfold Waa at e
 split at e
 ·rename_i ops i j rest k0
  split at e
  ·rename_i o p hoi hpj
   split at e
   ·rename_i t x lo dd c hop Qym hgd hpop hpdst hpgd
    split at e
    ·rename_i d' t' Wio Qfd hatys
     split at e
     ·rename_i id' s1 off' n' kk' l' el el' hx hlo hsl hsl'
      split at e
      ·rename_i s' by' z hi
       cases hb:(Nat.beq dd d' && Nat.beq el el' && Nat.beq s1 s' && Nat.beq z.length s1 && z.all (·.oneCell') && Nat.blt dd st.nt) with
       | false=>rw [hb] at e;cases e
       | true=>
        rw [hb] at e
        simp only [cond_true,Option.some.injEq,Prod.mk.injEq] at e
        obtain ⟨rfl,rfl,rfl,rfl,rfl,rfl,rfl,rfl⟩:=e
        simp only [Bool.and_eq_true] at hb
        obtain ⟨⟨⟨⟨⟨b1,b2⟩,b3⟩,b4⟩,b5⟩,b6⟩:=hb
        have b1:=Nat.eq_of_beq_eq_true b1
        have b2:=Nat.eq_of_beq_eq_true b2
        have b3:=Nat.eq_of_beq_eq_true b3
        have b4:=Nat.eq_of_beq_eq_true b4
        subst b1
        subst b2
        subst b3
        intro a C hC b cs hb hk
        have hav:=hC.val _ _ hx
        have hlv:=(hC.val _ _ hlo).Qep
        obtain ⟨xv,hxv⟩:∃ xv,a.eval x=xv:=⟨_,rfl⟩
        rw [hxv] at hav
        -- the first operation
        have first:∀ (A:Option Addr) (cc:Nat),xv=.slice A n' cc->n'<=cc->(execOp a.eval o).run X.P C.w=.ok (.value (sliced A l'.toNat n' cc s1)) C.w:=by
         intro A cc hA hc
         have:=Qrh (P:=X.P) C.w (hT.slice hsl) (hT.size hi C.w) A n' cc (some (kk',l')) none hc (by simpa [loN] using h0) (by simpa [loN,hiN] using h1) (by simp [hiN])
         simp only [execOp,hop,hxv,hA,hlv,Option.map_some,Option.map_none]
         simp only [Option.map_some,Option.map_none,loN,hiN,Int.toNat_natCast] at this
         rw [Sem.run_bind,this]
         rfl
        have hw1:Region.wanted o (yielded ops a.tmps)=true:=by simp [Region.wanted,hgd]
        have hw2:∀ a':Act,Region.wanted p (yielded ops a'.tmps)=true:=fun a'=>by simp [Region.wanted,hpgd]
        have key:∃ v1 C',(execOp a.eval o).run X.P C.w=.ok (.value v1) C.w/\v1.oneCell'=true/\(Builtin.clear_ #[t'] p.type #[v1]).run X.P C.w=.ok (.tuple #[]) C'.w/\C'.rows=C.rows.set id' (.flat false s1 ty l'.toNat g)/\Yd X C'/\Ev X C C':=by
         have hrC:C.rows[id']? = some (.flat false s1 ty n' g):=by rw [hC.rows];exact hr
         have weak:Yd X ⟨C.μ,C.rows.set id' (.flat false s1 ty l'.toNat g),C.w⟩/\Ev X C ⟨C.μ,C.rows.set id' (.flat false s1 ty l'.toNat g),C.w⟩:=by
          refine Qtq hC.rel hrC (fun h=>h) (by simp) (fun ok ob hb=>?_)
          cases ob with
          | none=>simp only [Qcz] at hb ⊢;omega
          | some bb=>
           obtain ⟨cs',vs,q1,q2,q3,q4,q5⟩:=hb
           exact ⟨cs',vs,q1,Nat.le_trans (Nat.mul_le_mul_right _ (by omega)) q2,fun i hi=>q3 i (by omega),fun i hi=>q4 i (by omega),fun i j v hi=>q5 i j v (by omega)⟩
         have quiet:∀ (A:Option Addr) (cc:Nat),(Builtin.clear_ #[t'] p.type #[.slice A 0 cc]).run X.P C.w=.ok (.tuple #[]) C.w:=by
          intro A cc
          cases A<;>simp [Builtin.clear_,run_underlying (hT.slice hsl')]
         generalize hNN:n'=N' at hav
         cases hav with
         | Qcc hμ=>
          subst hNN
          have hl:l'.toNat=0:=by omega
          refine ⟨_,_,first none 0 rfl (Nat.le_refl _),rfl, ?_,rfl,weak.1,weak.2⟩
          unfold sliced
          rw [hl]
          exact quiet _ _
         | @own _ _ _ _ b0 cc cs0 ty0 hμ hh hsz hn hc=>
          subst hNN
          have hf:=first _ cc rfl hn
          by_cases hln:n' - l'.toNat=0
          ·refine ⟨_,_,hf,rfl, ?_,rfl,weak.1,weak.2⟩
           unfold sliced
           rw [hln]
           exact quiet _ _
          have hne:¬ cc=l'.toNat:=by omega
          have hv1:sliced (some ⟨b0,0 * s1,none⟩) l'.toNat n' cc s1=.slice (some ⟨b0,l'.toNat * s1,none⟩) (n' - l'.toNat) (cc - l'.toNat):=by
           unfold sliced
           rw [if_neg hne]
           simp [Addr.add]
           try (intro h;exact h.symm)
          rw [hv1] at hf
          obtain ⟨csr,vs,r1,r2,r3,r4,r5⟩:=hC.rel.rel id' _ _ hμ hrC
          have hcs:csr=cs0/\ty=ty0:=by
           have:=r1.symm.trans hh
           injection this with this
           injection this with a1 a2 a3
           exact ⟨a1,a2⟩
          obtain ⟨rfl,rfl⟩:=hcs
          obtain ⟨zv,z1,z2⟩:=hT.zero hi C.w
          have hzs:zv.cells.size=s1:=by rw [z2];simpa using b4
          let us:=(Builtin.zeroCells zv.cells (n' - l'.toNat)).toList
          have hul:us.length=(n' - l'.toNat) * s1:=by simp [us,Builtin.zeroCells,hzs]
          have hsum:l'.toNat * s1+(n' - l'.toNat) * s1=n' * s1:=by rw [<- Nat.add_mul];congr 1;omega
          have Wcv:∀ v∈us,v.oneCell'=true:=Qxd (fun v hv=>List.all_eq_true.1 b5 v (by rw [z2] at hv;simpa using hv)) (by omega)
          have hstore:=run_storeCells_at X.P b0 (l'.toNat * s1) ty us 0 csr C.w r1 (by rw [hul];omega) Wcv
          have hclear:(Builtin.clear_ #[t'] p.type #[.slice (some ⟨b0,l'.toNat * s1,none⟩) (n' - l'.toNat) (cc - l'.toNat)]).run X.P C.w=.ok (.tuple #[]) (C.w.setRow b0 (csr.toList.take (l'.toNat * s1+0) ++ us ++ csr.toList.drop (l'.toNat * s1+0+us.length)).toArray):=by
           obtain ⟨q,hq⟩:∃ q,n' - l'.toNat=q+1:=⟨n' - l'.toNat - 1,by omega⟩
           have hus2:us=(Builtin.zeroCells zv.cells (q+1)).toList:=by simp only [us,hq]
           rw [hus2] at hstore ⊢
           rw [hq]
           simp [Builtin.clear_,run_underlying (hT.slice hsl'),z1,hstore]
          have Qvf:(csr.toList.take (l'.toNat * s1+0) ++ us ++ csr.toList.drop (l'.toNat * s1+0+us.length)).toArray.size=csr.size:=by
           simp only [List.size_toArray,List.length_append,List.length_take,List.length_drop,Array.length_toList,hul]
           omega
          have tu:=Qjo (r':=.flat false s1 ty l'.toNat g) hC.rel hμ hrC rfl r1 Qvf
          have ev:=Ev.Qah hC.rel tu
          have hle:l'.toNat * s1<=n' * s1:=Nat.mul_le_mul_right _ (by omega)
          refine ⟨_,C.Qah id' (.flat false s1 ty l'.toNat g) (C.w.setRow b0 _),hf,rfl,hclear,rfl,Yd.Qah hC.rel tu (.inl (by simp)) ?_,ev⟩
          refine ⟨_,vs,setRow_heap _ _ _ _ _ _ r1,by rw [Qvf];omega,fun i hi=>r3 i (by omega),fun i hi=>(r4 i (by omega)).mono ev.ok ev.same,fun i j v hi hj=>?_⟩
          have hjs:j < s1:=by
           have:=(List.getElem?_eq_some_iff.1 hj).1
           rwa [r3 i (by omega)] at this
          have hlt:i * s1+j < l'.toNat * s1:=by
           have:i * s1+s1<=l'.toNat * s1:=by rw [<- Nat.succ_mul];exact Nat.mul_le_mul_right _ hi
           omega
          have:=r5 i j v (by omega) hj
          rw [List.getElem?_toArray,Nat.add_zero,List.append_assoc,List.getElem?_append_left (by rw [List.length_take,Array.length_toList];omega),List.getElem?_take_of_lt hlt]
          simpa using this
        obtain ⟨v1,C',k1,k2,k3,k4,k5,k6⟩:=key
        have s1':=Qiv (b:=b) (k:=k0) (cs:=cs) (rest:=j :: rest) hoi (by rw [hop];intro c' hc';cases hc') hw1 k1
        rw [Qym] at s1'
        have Qcs:St.put st (some dd) (.d (.v v1))=some { st with tm:=(dd,.d (.v v1)) :: st.tm }:=by
         simp only [St.put]
         rw [b6]
         rfl
        have Qk6:=hC.put Qcs (v:=v1) (.d (.v k2))
        have hex2:(execOp (a.put (some dd) v1).eval p).run X.P C.w=.ok (.value (.tuple #[])) C'.w:=by
         have hargs':c.args=#[.tmp dd]:=by rw [<- Array.toArray_toList (xs:=c.args),Qfd]
         have hatys':c.argTypes=#[t']:=by rw [<- Array.toArray_toList (xs:=c.argTypes),hatys]
         have hev:(a.put (some dd) v1).eval (.tmp dd)=v1:=by
          have:=(Qk6.val (.tmp dd) (.d (.v v1)) (by simp [valOf])).Qep
          exact this
         simp only [execOp,hpop,resolve,Wio,hargs',hatys',Sem.run_bind,Sem.run_pure,Result.andThen_ok,invoke,builtin,List.map_toArray,List.map_cons,List.map_nil,hev,k3]
        have s2':=Qiv (b:=b) (k:=k0) (cs:=cs) (rest:=rest) hpj (by rw [hpop];intro c' hc';cases hc') (hw2 (a.put (some dd) v1)) hex2
        rw [hpdst] at s2'
        have hsim2:=Qk6.Qgy k6 k5
        have hsim3:=hsim2.only S
        have Qfu:({ nt:=st.nt,tm:=(dd,.d (.v v1)) :: st.tm,rows:=C'.rows }:St).only S=st':=by
         rw [<- hst]
         simp only [St.only,k4,hC.rows]
         rw [Qwo _ hS]
        have hsim4:Sim X st' (a.put (some dd) v1) C':=Qfu▸hsim3
        obtain ⟨C2,fr,q,t1,t2⟩:=h _ C' hsim4 b cs hb hk
        exact ⟨C2,fr,q,((Steps.one s1').trans (Steps.one s2')).trans t1,t2⟩
      cases e
     cases e
    cases e
   cases e
  cases e
 cases e
end
end Go.Sy
namespace Go.Sy
open Go.Proofs Go.Lib
theorem Wkh {P:Program} {dT sT elem:TypeId} (hu:P.underlying dT=some (.slice elem)) {k:Nat} (hs:(P.info? elem).map (·.size)=some k) (W:World) (g:Nat) (t:TypeId) (A B R:List Value) (a m:Nat)
  (hA:A.length=a) (hB:B.length=m * k) (hR:k<=R.length) (hg:W.heap[g]? = some (.cells (A ++ B ++ R).toArray t (0,0))) (h1:∀ v∈B,v.oneCell'=true) (ty:TypeId) (dL dC sL sC:Nat) (hm:m=Nat.min sL dL):
  (Builtin.copy_ #[dT,sT] ty #[.slice (some ⟨g,a+k,none⟩) dL dC,.slice (some ⟨g,a,none⟩) sL sC]).run P W=.ok (goInt m) (W.setRow g (A ++ (B ++ R).take k ++ B ++ R.drop k).toArray):=by
 have e:=Qp9 W dT sT ty elem k m g (a+k) dL dC ⟨g,a,none⟩ sL sC (A ++ B ++ R).toArray t B hu hs hg hm hB
  (fun j v hj=>by
   rw [Addr.add_lit]
   simp only [World.cell?,hg]
   subst hA
   simp only [List.getElem?_toArray]
   rw [List.append_assoc,List.getElem?_append_right (by omega),Nat.add_sub_cancel_left,List.getElem?_append_left (List.getElem?_eq_some_iff.1 hj).1,hj]
   rfl)
  (by simp only [List.size_toArray,List.length_append];omega) h1
 rw [e]
 congr 2
 simp only [List.append_assoc]
 subst hA
 congr 1
 rw [List.take_append,List.take_of_length_le (by omega),Nat.add_sub_cancel_left]
 simp only [List.append_assoc,List.append_cancel_left_eq]
 rw [show A.length+k+B.length=A.length+(B.length+k) by omega,List.drop_append,List.drop_of_length_le (by omega),List.nil_append,Nat.add_sub_cancel_left,List.drop_append,List.drop_of_length_le (by omega),List.nil_append,Nat.add_sub_cancel_left]
theorem Qqq {P:Program} {dT sT elem:TypeId} (hu:P.underlying dT=some (.slice elem)) {k:Nat} (hs:(P.info? elem).map (·.size)=some k) (W:World) (g h:Nat) (t t':TypeId) (A B R:List Value) (S:Array Value) (V:List Value) (a o m:Nat)
  (hA:A.length=a) (hB:B.length=V.length) (hV:V.length=m * k) (hg:W.heap[g]? = some (.cells (A ++ B ++ R).toArray t (0,0))) (hh:W.heap[h]? = some (.cells S t' (0,0))) (hS:∀ (j:Nat) v,V[j]? = some v->S[o+j]? = some v) (h1:∀ v∈V,v.oneCell'=true) (ty:TypeId) (dL dC sL sC:Nat) (hm:m=Nat.min sL dL):
  (Builtin.copy_ #[dT,sT] ty #[.slice (some ⟨g,a,none⟩) dL dC,.slice (some ⟨h,o,none⟩) sL sC]).run P W=.ok (goInt m) (W.setRow g (A ++ V ++ R).toArray):=by
 have e:=Qp9 W dT sT ty elem k m g a dL dC ⟨h,o,none⟩ sL sC (A ++ B ++ R).toArray t V hu hs hg hm hV
  (fun j v hj=>by
   rw [Addr.add_lit]
   simp only [World.cell?,hh]
   simpa using hS j v hj)
  (by simp only [List.size_toArray,List.length_append];omega) h1
 rw [e]
 congr 2
 simp only [List.append_assoc]
 subst hA
 congr 1
 rw [List.take_left]
 simp only [List.append_assoc,List.append_cancel_left_eq]
 rw [List.drop_append,List.drop_of_length_le (by omega),List.nil_append,Nat.add_sub_cancel_left,<- hB,List.drop_left]
theorem Qrf (w:World) (cs ds:Array Value) (t:TypeId) (b:Nat) (h:b=w.heap.size):(w.alloc (.cells cs t)).setRow b ds=w.alloc (.cells ds t):=by
 subst h
 have:((w.alloc (.cells cs t)).setRow w.heap.size ds).heap=(w.alloc (.cells ds t)).heap:=by
  apply Array.ext_getElem?
  intro j
  simp only [World.setRow,World.alloc,Array.getElem?_modify,Array.getElem?_push]
  by_cases h:w.heap.size=j
  ·subst h
   simp
  rw [if_neg h,if_neg (Ne.symm h),if_neg (Ne.symm h)]
 exact congrArg (fun h=>({ w.alloc (.cells ds t) with heap:=h }:World)) this
theorem setRow_setRow (w:World) (b:Nat) (cs ds:Array Value):(w.setRow b cs).setRow b ds=w.setRow b ds:=by
 have:((w.setRow b cs).setRow b ds).heap=(w.setRow b ds).heap:=by
  apply Array.ext_getElem?
  intro j
  simp only [World.setRow,Array.getElem?_modify]
  by_cases h:b=j
  ·subst h
   simp only [if_true,Option.map_map]
   congr 1
   funext o
   cases o<;>rfl
  simp only [if_neg h]
 exact congrArg (fun h=>({ w with heap:=h }:World)) this
section
variable {α:Type} {enc:α->List Value} {e:α->List DV} {k:Nat} {w:World} {ok:Bool->Nat->Prop} {μ:List (Option Nat)}
theorem Wag (hk:∀ x,(enc x).length=k) (z:α) (xs:List α) {i j:Nat} {v:Value} (hi:i < xs.length) (hj:(enc (xs.getD i z))[j]? = some v):(xs.flatMap enc)[i * k+j]? = some v:=by
 rw [List.flatMap_def]
 refine Qm6 (fun l hl=>?_) ?_ hj
 ·obtain ⟨x,_,rfl⟩:=List.mem_map.1 hl
  exact hk x
 rw [List.getElem?_map,List.getElem?_eq_getElem hi]
 simp [hi]
theorem Qnb (hk:∀ x,(enc x).length=k) (xs:List α):(xs.flatMap enc).length=xs.length * k:=by
 rw [List.flatMap_def,Qpi (k:=k) (fun l hl=>?_),List.length_map]
 obtain ⟨x,_,rfl⟩:=List.mem_map.1 hl
 exact hk x
theorem Qze (hk:∀ x,(enc x).length=k) (he:∀ x,e x=(enc x).map DV.v) (z:α) {b:Nat} {fz:Bool} {ty:TypeId} {xs:List α} {g:Nat->List DV} (hg:∀ i,i < xs.length->g i=e (xs.getD i z))
  (h:Qcz w ok μ (some b) (.flat fz k ty xs.length g)):∃ R:List Value,w.heap[b]? = some (.cells (xs.flatMap enc ++ R).toArray ty (0,0)):=by
 obtain ⟨cs,vs,r1,r2,r3,r4,r5⟩:=h
 refine ⟨cs.toList.drop (xs.length * k), ?_⟩
 have:xs.flatMap enc ++ cs.toList.drop (xs.length * k)=cs.toList:=by
  have h2:xs.flatMap enc=cs.toList.take (xs.length * k):=by
   apply List.ext_getElem?
   intro q
   by_cases hq:q < xs.length * k
   ·have k0:0 < k:=Nat.pos_of_ne_zero (by rintro rfl;simp at hq)
    have hi:q / k < xs.length:=Nat.div_lt_of_lt_mul (by rwa [Nat.mul_comm] at hq)
    have hm:q % k < k:=Nat.mod_lt _ k0
    have hj:q % k < (enc (xs.getD (q / k) z)).length:=by rw [hk];exact hm
    have key:q / k * k+q % k=q:=by rw [Nat.mul_comm];exact Nat.div_add_mod q k
    have a1:=Wag hk z xs hi (List.getElem?_eq_getElem hj)
    have hvs:vs (q / k)=enc (xs.getD (q / k) z):=by
     have:=r4 _ hi
     rw [hg _ hi,he] at this
     exact this.plain
    have a2:=r5 (q / k) (q % k) _ hi (by rw [hvs];exact List.getElem?_eq_getElem hj)
    rw [key] at a1 a2
    rw [a1,List.getElem?_take_of_lt hq]
    simpa using a2.symm
   rw [List.getElem?_eq_none (by rw [Qnb hk];omega),List.getElem?_eq_none (by simp;omega)]
  rw [h2,List.take_append_drop]
 rw [this,r1]
theorem Qyv (hk:∀ x,(enc x).length=k) (he:∀ x,e x=(enc x).map DV.v) (h1:∀ x,∀ v∈enc x,v.oneCell'=true) (z:α) {b:Nat} {fz:Bool} {ty:TypeId} {xs:List α} {R:List Value}
  (h:w.heap[b]? = some (.cells (xs.flatMap enc ++ R).toArray ty (0,0))):Qcz w ok μ (some b) (.flat fz k ty xs.length (vec e z xs)):=by
 refine ⟨_,fun i=>enc (xs.getD i z),h, ?_,fun i _=>hk _,fun i _=>?_, ?_⟩
 ·simp only [List.size_toArray,List.length_append,Qnb hk]
  omega
 ·simp only [vec,he]
  exact VRs.Qrw (h1 _)
 intro i j v hi hj
 have:=Wag hk z xs hi hj
 simp only [List.getElem?_toArray]
 rw [List.getElem?_append_left (List.getElem?_eq_some_iff.1 this).1,this]
end
theorem Wg4 {X:Ctx} {C:Wt} {id k n b c:Nat} {cs:Array Value} {ty:TypeId} (h:C.μ[id]? = some (some b)) (hh:C.w.heap[b]? = some (.cells cs ty (0,0))) (hs:c * k=cs.size) (hn:n<=c) (hc:c<=maxLen):
  AVR C.w (C.okR X) C.μ (.own id k 0 n) (.slice (some ⟨b,0,none⟩) n c):=by
 have:=@AVR.own C.w (C.okR X) C.μ id k 0 n b c cs ty h hh (by rw [Nat.zero_add];exact hs) hn hc
 rwa [Nat.zero_mul] at this
set_option maxHeartbeats 1000000 in
theorem Qzt {P:Program} {T:Tab} (hT:Xb P T) {f:FuncId} {α:Type} (z:α) (k by':Nat) (hk0:0 < k) {t ty:TypeId} {zs:List Value} (ht:T.Qdr.lookup t=some ty) (hi:T.info.lookup ty=some (k,by',zs)) (hzs:zs.length=k)
  (enc:α->List Value) (hk:∀ x,(enc x).length=k) (h1:∀ x,∀ v∈enc x,v.oneCell'=true) (e:α->List DV) (he:∀ x,e x=(enc x).map DV.v)
  (Qj8:∀ (base:Option Addr) (n c vb vc:Nat) (w w':World) (v':Value),n<=c->c<=9223372036854775807->(base=none->n=0/\c=0) ->
   ((Builtin.append_ #[t,t] t #[.slice base n c,.slice (some ⟨vb,0,none⟩) 1 vc]).run P w=.ok v' w') ->
   Calls P f #[.slice base n c,.int .i64 n,.slice (some ⟨vb,0,none⟩) 1 vc] w fun e w2=>e=.returned v'/\w2=w')
  (hshift:∀ (b n c i vb vc:Nat) (A B R V:List Value) (VS:Array Value) (w:World),i < n->n+1<=c->c<=9223372036854775807->vb≠b ->
   w.heap[b]? = some (.cells (A ++ B ++ R).toArray ty (0,0))->w.heap[vb]? = some (.cells VS ty (0,0))->A.length=i * k->B.length=(n - i) * k->k<=R.length->V.length=k ->
   (∀ (j:Nat) v,V[j]? = some v->VS[j]? = some v)->(∀ v∈B,v.oneCell'=true)->(∀ v∈V,v.oneCell'=true) ->
   Calls P f #[.slice (some ⟨b,0,none⟩) n c,.int .i64 i,.slice (some ⟨vb,0,none⟩) 1 vc] w fun e w'=>
    e=.returned (.slice (some ⟨b,0,none⟩) (n+1) c)/\w'=(w.drew.setRow b (A ++ (B ++ R).take k ++ B ++ R.drop k).toArray).setRow b (A ++ V ++ B ++ R.drop k).toArray)
  (hgrow:∀ (b n c i vb vc:Nat) (A B R V:List Value) (VS:Array Value) (w:World),i < n->n<=c->c < n+1->(n+1) * by'<=140737488355328->vb≠b ->
   w.heap[b]? = some (.cells (A ++ B ++ R).toArray ty (0,0))->w.heap[vb]? = some (.cells VS ty (0,0))->A.length=i * k->B.length=(n - i) * k->V.length=k ->
   (∀ (j:Nat) v,V[j]? = some v->VS[j]? = some v)->(∀ v∈B,v.oneCell'=true)->(∀ v∈V,v.oneCell'=true) ->
   Calls P f #[.slice (some ⟨b,0,none⟩) n c,.int .i64 i,.slice (some ⟨vb,0,none⟩) 1 vc] w fun e w'=>
    e=.returned (.slice (some ⟨w.heap.size,0,none⟩) (n+1) (grownCap w (n+1) c ty))/\∃ Z:List Value,Z.length=(grownCap w (n+1) c ty - (n+1)) * k/\w'=(w.drew.alloc (.cells (A ++ V ++ B ++ Z).toArray ty)).drew)
  (xs:List α) (i:Int) (x:α) (h:(0<=i/\i<=(xs.length:Int))/\(xs.length+1) * by'<=140737488355328) (hl:xs.length+1<=4611686018427387904):
  Xz P f [.flat false k ty xs.length (vec e z xs),.flat false k ty 1 (fun j=>[e x].getD j [])] [.own 0 k 0 xs.length,.d (.v (.int .i64 i)),.own 1 k 0 1]
   [.gone,.gone,.flat false k ty (xs.take i.toNat ++ x :: xs.drop i.toNat).length (vec e z (xs.take i.toNat ++ x :: xs.drop i.toNat))] (.own 2 k 0 (xs.take i.toNat ++ x :: xs.drop i.toNat).length):=by
 obtain ⟨⟨hi0,hin⟩,hb⟩:=h
 obtain ⟨q,rfl⟩:∃ q:Nat,i=q:=⟨i.toNat,by omega⟩
 rw [show ((q:Int)).toNat=q from rfl]
 have hlen:(xs.take q ++ x :: xs.drop q).length=xs.length+1:=by
  simp only [List.length_append,List.length_take,List.length_cons,List.length_drop]
  omega
 have Qpk:(xs.take q ++ x :: xs.drop q).flatMap enc=(xs.take q).flatMap enc ++ enc x ++ (xs.drop q).flatMap enc:=by
  simp only [List.flatMap_append,List.flatMap_cons,List.append_assoc]
 have hA:((xs.take q).flatMap enc).length=q * k:=by rw [Qnb hk,List.length_take];congr 1;omega
 have hB:((xs.drop q).flatMap enc).length=(xs.length - q) * k:=by rw [Qnb hk,List.length_drop]
 have hAB:xs.flatMap enc=(xs.take q).flatMap enc ++ (xs.drop q).flatMap enc:=by rw [<- List.flatMap_append,List.take_append_drop]
 have h1B:∀ v∈(xs.drop q).flatMap enc,v.oneCell'=true:=fun v hv=>by
  obtain ⟨y,_,hy⟩:=List.mem_flatMap.1 hv
  exact h1 y v hy
 generalize hys:xs.take q ++ x :: xs.drop q=ys at hlen Qpk ⊢
 intro X vs hP hF Jz Qfd
 subst hP
 have nr:NR (.flat false k ty ys.length (vec e z ys)):=Qat (fun x=>by
  rw [he]
  have:∀ cs:List Value,NLs (cs.map DV.v):=fun cs=>by
   induction cs with
   | nil=>exact .nil
   | cons c cs ih=>exact .cons (.v _) ih
  exact this _)
 have fin:∀ {C':Wt} {v:Value},Yd X C'->C'.rows=[.gone,.gone,.flat false k ty ys.length (vec e z ys)]->AVR C'.w (C'.okR X) C'.μ (.own 2 k 0 ys.length) v ->
   Zw X ⟨C'.μ,[.gone,.gone,.flat false k ty ys.length (vec e z ys)],C'.w⟩ (.own 2 k 0 ys.length) v:=by
  rintro ⟨μ',rows',w'⟩ v h hr hv
  simp only at hr
  subst hr
  refine ⟨h, ?_,hv⟩
  intro j ob r e1 e2
  match j,e2 with
  | 0,e2=>simp at e2;subst e2;cases ob<;>trivial
  | 1,e2=>simp at e2;subst e2;cases ob<;>trivial
  | 2,e2=>
   simp at e2
   subst e2
   exact (h.rel 2 ob _ e1 rfl).perm (fun _ h=>⟨rfl,h⟩) nr
  | j+3,e2=>simp at e2
 cases Qfd with
 | cons ha hs=>
 cases hs with
 | cons hf hs2=>
 cases hs2 with
 | cons hv hn=>
 cases hn
 have hf:=hf.Qep
 subst hf
 -- the element's block
 generalize Wcv:(1:Nat)=one at hv
 cases hv with
 | Qcc hm=>cases Wcv
 | @own _ _ _ _ vb vc cv tv hmv hhv hsv hnv hcv=>
 subst Wcv
 obtain ⟨RV,hrv⟩:=Qze (xs:=[x]) hk he z (fun i hi=>by
  have:i=0:=by simpa using hi
  subst this
  rfl) (Jz.rel 1 (some vb) _ hmv rfl)
 simp only [List.flatMap_cons,List.flatMap_nil,List.append_nil] at hrv
 have hcvv:cv=(enc x ++ RV).toArray/\tv=ty:=by
  have:=hhv.symm.trans hrv
  injection this with this
  injection this with a1 a2 a3
  exact ⟨a1,a2⟩
 obtain ⟨rfl,rfl⟩:=hcvv
 have hVS:∀ (j:Nat) v,(enc x)[j]? = some v->(enc x ++ RV).toArray[j]? = some v:=fun j v hj=>by
  simp only [List.getElem?_toArray]
  rw [List.getElem?_append_left (List.getElem?_eq_some_iff.1 hj).1,hj]
 simp only [Nat.zero_mul] at *
 rcases Nat.lt_or_ge q xs.length with hq | hq
 ·-- in the midst
  generalize hN:xs.length=N at ha
  cases ha with
  | Qcc hm=>omega
  | @own _ _ _ _ b c cs ty' hm hh hs' hn Qu9=>
  subst hN
  obtain ⟨R,hr⟩:=Qze (xs:=xs) hk he z (fun i _=>rfl) (Jz.rel 0 (some b) _ hm rfl)
  have hcc:cs=(xs.flatMap enc ++ R).toArray/\ty'=tv:=by
   have:=hh.symm.trans hr
   injection this with this
   injection this with a1 a2 a3
   exact ⟨a1,a2⟩
  obtain ⟨rfl,rfl⟩:=hcc
  have hvb:vb≠b:=by
   rintro rfl
   have:=Jz.apart 0 1 vb _ _ hm hmv rfl rfl rfl (by simp)
   omega
  rw [hAB] at hr hh hs'
  have hRl:R.length=(c - xs.length) * k:=by
   simp only [List.size_toArray,List.length_append,hA,hB,Nat.zero_add] at hs'
   have:q * k+(xs.length - q) * k=xs.length * k:=by rw [<- Nat.add_mul];congr 1;omega
   rw [Nat.sub_mul]
   omega
  simp only [Nat.zero_mul]
  by_cases Qlz:xs.length+1<=c
  ·have hkR:k<=R.length:=by
    rw [hRl]
    exact Nat.le_mul_of_pos_left k (by omega)
   refine (hshift b xs.length c q vb vc _ _ R (enc x) _ X.w0 hq Qlz (by unfold maxLen at Qu9;omega) hvb hr hrv hA hB hkR (hk x) hVS h1B (h1 x)).mono ?_
   rintro e0 w' ⟨rfl,rfl⟩
   rw [setRow_setRow]
   let C0:Wt:=(⟨X.μ0,[.flat false k ty' xs.length (vec e z xs),.flat false k ty' 1 (fun j=>[e x].getD j [])],X.w0⟩:Wt).drew
   have hC0:Yd X C0:=Jz.drew
   have hsz:((xs.take q).flatMap enc ++ enc x ++ (xs.drop q).flatMap enc ++ R.drop k).toArray.size=((xs.take q).flatMap enc ++ (xs.drop q).flatMap enc ++ R).toArray.size:=by
    simp only [List.size_toArray,List.length_append,List.length_drop,hk]
    omega
   have tu:Qjp X C0 0 b (.flat false k ty' xs.length (vec e z xs)) (.flat false k ty' ys.length (vec e z ys)) (X.w0.drew.setRow b ((xs.take q).flatMap enc ++ enc x ++ (xs.drop q).flatMap enc ++ R.drop k).toArray):=
    Qjo hC0 hm rfl rfl hr hsz
   have hat:(X.w0.drew.setRow b ((xs.take q).flatMap enc ++ enc x ++ (xs.drop q).flatMap enc ++ R.drop k).toArray).heap[b]? = some (.cells (ys.flatMap enc ++ R.drop k).toArray ty' (0,0)):=by
    rw [Qpk]
    exact setRow_heap _ _ _ _ _ _ hr
   have h2:=Yd.Qah hC0 tu (.inl (by simp)) (Qyv hk he h1 z hat)
   have h3:=Qn5 (id:=0) (ob:=some b) (r:=.flat false k ty' ys.length (vec e z ys)) h2 hm (by simp [Wt.Qah,C0,Wt.drew]) rfl
   have h4:=Yd.Qah (id:=1) (b:=vb) (r:=.flat false k ty' 1 (fun j=>[e x].getD j [])) (r':=.gone) h3 (Qk5 h3 (by
     have hmv':X.μ0[1]? = some (some vb):=hmv
     simp only [Wt.renew,Wt.Qah,C0,Wt.drew]
     exact Qdn hmv') (by simp [Wt.renew,Wt.Qah,C0,Wt.drew]) rfl) (.inr rfl) trivial
   have hlm:X.μ0.length=2:=Jz.len
   have hmu:(X.μ0 ++ [some b])[2]? = some (some b):=by
    rw [List.getElem?_append_right (by omega),hlm]
    rfl
   refine ⟨_,_,rfl,fin h4 (by simp [Wt.renew,Wt.Qah,C0,Wt.drew]) ?_⟩
   rw [hlen]
   refine Wg4 (C:=(Wt.renew (Wt.Qah C0 0 _ _) 0 (some b) _).Qah 1 .gone _) hmu hat ?_ Qlz Qu9
   rw [<- Qpk] at hsz
   rw [hsz,<- hs',Nat.zero_add]
  refine (hgrow b xs.length c q vb vc _ _ R (enc x) _ X.w0 hq hn (by omega) hb hvb hr hrv hA hB (hk x) hVS h1B (h1 x)).mono ?_
  rintro e0 w' ⟨rfl,Z,hZ,rfl⟩
  have hG:=grownCap_ge X.w0 (xs.length+1) c ty'
  have hM:=grownCap_le_maxLen X.w0 (xs.length+1) c ty' (by unfold maxLen;omega)
  generalize grownCap X.w0 (xs.length+1) c ty'=G at hG hM hZ ⊢
  have t1:=Yd.Qah (id:=0) (b:=b) (r:=.flat false k ty' xs.length (vec e z xs)) (r':=.gone) Jz (Qk5 Jz hm rfl rfl) (.inr rfl) trivial
  have t2:=Yd.Qah (id:=1) (b:=vb) (r:=.flat false k ty' 1 (fun j=>[e x].getD j [])) (r':=.gone) t1 (Qk5 t1 hmv (by simp [Wt.Qah]) rfl) (.inr rfl) trivial
  have hd:=Yd.drew t2
  have hat:(X.w0.drew.alloc (.cells ((xs.take q).flatMap enc ++ enc x ++ (xs.drop q).flatMap enc ++ Z).toArray ty')).heap[X.w0.heap.size]? = some (.cells (ys.flatMap enc ++ Z).toArray ty' (0,0)):=by
   rw [Qpk]
   exact heap_alloc_new X.w0.drew _
  have hp:=Yd.push hd (o:=.cells ((xs.take q).flatMap enc ++ enc x ++ (xs.drop q).flatMap enc ++ Z).toArray ty') (r:=.flat false k ty' ys.length (vec e z ys)) (Qyv hk he h1 z hat)
  have hp2:=Yd.drew hp
  have hlm:X.μ0.length=2:=Jz.len
  have hmu:(X.μ0 ++ [some X.w0.heap.size])[2]? = some (some X.w0.heap.size):=by
   rw [List.getElem?_append_right (by omega),hlm]
   rfl
  refine ⟨_,_,rfl,fin hp2 (by simp [Wt.push,Wt.Qah,Wt.drew]) ?_⟩
  rw [hlen]
  refine Wg4 (C:=Wt.drew (Wt.push (Wt.drew _) _ _)) hmu hat ?_ hG hM
  rw [List.size_toArray,List.length_append,hZ,Qnb hk,hlen,<- Nat.add_mul]
  congr 1
  omega
 -- behind all
 have hqe:q=xs.length:=by omega
 subst hqe
 have hyy:ys=xs ++ [x]:=by rw [<- hys,List.take_length,List.drop_length]
 have hvo:=AVR.own (ok:=(⟨X.μ0,[.flat false k tv xs.length (vec e z xs),.flat false k tv 1 (fun j=>[e x].getD j [])],X.w0⟩:Wt).ok X) (off:=0) hmv hhv hsv hnv hcv
 rw [Nat.zero_mul] at hvo
 obtain ⟨news,src⟩:=Qww Jz (Qrl.own (id:=1) rfl) hvo
 have Wcu:∀ (base:Option Addr) (c:Nat),xs.length<=c->c<=maxLen->(base=none->xs.length=0/\c=0) ->
   AVR X.w0 ((⟨X.μ0,[.flat false k tv xs.length (vec e z xs),.flat false k tv 1 (fun j=>[e x].getD j [])],X.w0⟩:Wt).ok X) X.μ0 (.own 0 k 0 xs.length) (.slice base xs.length c) ->
   Calls X.P f #[.slice base xs.length c,.int .i64 xs.length,.slice (some ⟨vb,0,none⟩) 1 vc] X.w0 fun e0 w'=>∃ v μ',e0=.returned v/\Zw X ⟨μ',[.gone,.gone,.flat false k tv ys.length (vec e z ys)],w'⟩ (.own 2 k 0 ys.length) v:=by
  intro base c hnc Qu9 Wit hav
  obtain ⟨v',C',Qi4,Qi9,hrelC,hev,Win⟩:=Qss hT Jz (id:=0) (ty:=t) (g':=vec e z ys) rfl hav ht hi hzs hk0 src hb (by omega)
   (fun i hi=>by rw [hyy];simp only [vec,List.getD_eq_getElem?_getD,List.getElem?_append_left hi])
   (fun i hi=>by
    have:i=0:=by omega
    subst this
    rw [hyy]
    simp [vec,List.getD_eq_getElem?_getD])
  refine (Qj8 base xs.length c vb vc X.w0 C'.w v' hnc (by unfold maxLen at Qu9;omega) Wit Qi4).mono ?_
  rintro e0 w' ⟨rfl,rfl⟩
  have hmv2:C'.μ[1]? = some (some vb):=hev.pre 1 _ hmv
  have hr1:C'.rows[1]? = some (.flat false k tv 1 (fun j=>[e x].getD j [])):=by rw [Qi9];rfl
  have h4:=Yd.Qah (id:=1) (b:=vb) (r':=.gone) hrelC (Qk5 hrelC hmv2 hr1 rfl) (.inr rfl) trivial
  refine ⟨v',_,rfl,fin (C':=C'.Qah 1 .gone C'.w) h4 (by simp [Wt.Qah,Qi9,hlen]) ?_⟩
  rw [hlen]
  have hlt:(2:Nat)=([Row.flat false k tv xs.length (vec e z xs),.flat false k tv 1 (fun j=>[e x].getD j [])]:List Row).length:=rfl
  rw [<- hlt] at Win
  generalize hm2:xs.length+1=m2 at Win ⊢
  cases Win with
  | Qcc hm=>exact .Qcc hm
  | own hm hh hs hn hc=>exact .own hm hh hs hn hc
 generalize hN:xs.length=N at ha Wcu
 have ha':=ha
 cases ha with
 | Qcc hm=>exact Wcu none 0 (Nat.le_refl _) (by unfold maxLen;omega) (fun _=>⟨rfl,rfl⟩) ha'
 | own hm hh hs hn hc=>exact Wcu _ _ hn hc (fun h=>by cases h) ha'
end Go.Sy
