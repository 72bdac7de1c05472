/- Slices of objects that are known by their addresses: their blocks as one row; a block is taken out of it, or put into it. -/
import Derived.Test.YtdhmflhncidjaaaGreatSyPtr
import Derived.Test.YtdhmflhncidjaaaGreatSyQ
set_option linter.unusedVariables false
set_option linter.unusedSimpArgs false
set_option linter.unusedSectionVars false
namespace Go.Sy
theorem Wo5 {X:Ctx} {C:Qq} (h:Wt X C) {μ':List (Option Nat)} {rows':List Row} (ch:Nat->Prop) (hlen:μ'.length=rows'.length)
  (hμ:∀ (i:Nat) x,C.μ[i]? = some x->μ'[i]? = some x)
  (Qnm:∀ (i:Nat) (m:Option Nat) (r:Row),μ'[i]? = some m->rows'[i]? = some r->r≠.gone->¬ ch i->C.μ[i]? = some m/\C.rows[i]? = some r)
  (hplace:∀ (i b:Nat),μ'[i]? = some (some b)->C.μ[i]? = some (some b)\/∃ (j:Nat) (m0:Option Nat) (r0:Row),C.μ[j]? = some m0/\C.rows[j]? = some r0/\r0.hasB C.w m0 b)
  (Qxl:∀ (i:Nat) (m:Option Nat) (r:Row) (b:Nat),ch i->μ'[i]? = some m->rows'[i]? = some r->r≠.gone->r.hasB C.w m b->∃ (j:Nat) (m0:Option Nat) (r0:Row),ch j/\C.μ[j]? = some m0/\C.rows[j]? = some r0/\r0.live=true/\r0.hasB C.w m0 b)
  (hapart:∀ (i j:Nat) (m n:Option Nat) (r s:Row) (b:Nat),ch i->ch j->μ'[i]? = some m->μ'[j]? = some n->rows'[i]? = some r->rows'[j]? = some s->r≠.gone->s≠.gone->r.hasB C.w m b->s.hasB C.w n b->i=j)
  (hself:∀ (i:Nat) (m:Option Nat) (r:Row) (b:Nat),ch i->μ'[i]? = some m->rows'[i]? = some r->b∈r.ext C.w m->m≠some b)
  (Zb:∀ ok:Bool->Nat->Prop,(∀ t b,C.ok X t b->ok t b)->∀ (i:Nat) (m:Option Nat) (r:Row),ch i->μ'[i]? = some m->rows'[i]? = some r->r≠.gone->Qbg C.w ok μ' m r):
  Ev X C ⟨μ',rows',C.w⟩/\Wt X ⟨μ',rows',C.w⟩:=by
 have Qii:∀ {b:Nat},(⟨μ',rows',C.w⟩:Qq).live b->C.live b:=by
  rintro b ⟨i,m,r,h1,h2,h3,h4⟩
  have hg:r≠.gone:=by rintro rfl;cases h3
  by_cases hc:ch i
  ·obtain ⟨j,m0,r0,_,k1,k2,k3,k4⟩:=Qxl i m r b hc h1 h2 hg h4
   exact ⟨j,m0,r0,k1,k2,k3,k4⟩
  obtain ⟨k1,k2⟩:=Qnm i m r h1 h2 hg hc
  exact ⟨i,m,r,k1,k2,h3,h4⟩
 have ev:Ev X C ⟨μ',rows',C.w⟩:=⟨Nat.le_refl _,fun _ _ _=>rfl,fun _ _ hl k=>hl (Qii k),fun _ _ _ k=>⟨_,k,rfl⟩,hμ⟩
 have key:∀ {i j b:Nat} {m n:Option Nat} {r s:Row},μ'[i]? = some m->μ'[j]? = some n->rows'[i]? = some r->rows'[j]? = some s->r.live=true->s≠.gone->r.hasB C.w m b->s.hasB C.w n b->i=j:=by
  intro i j b m n r s h1 h2 h3 h4 h5 h6 h7 h8
  have hg:r≠.gone:=by rintro rfl;cases h5
  by_cases hc:ch i<;>by_cases hd:ch j
  ·exact hapart i j m n r s b hc hd h1 h2 h3 h4 hg h6 h7 h8
  ·obtain ⟨p,m0,r0,q0,q1,q2,q3,q4⟩:=Qxl i m r b hc h1 h3 hg h7
   obtain ⟨k1,k2⟩:=Qnm j n s h2 h4 h6 hd
   exact absurd (h.Qjc q1 k1 q2 k2 q3 h6 q4 h8▸q0) hd
  ·obtain ⟨p,m0,r0,q0,q1,q2,q3,q4⟩:=Qxl j n s b hd h2 h4 h6 h8
   obtain ⟨k1,k2⟩:=Qnm i m r h1 h3 hg hc
   exact absurd ((h.Qjc k1 q1 k2 q2 h5 (by rintro rfl;cases q3) h7 q4).symm▸q0) hc
  obtain ⟨k1,k2⟩:=Qnm i m r h1 h3 hg hc
  obtain ⟨l1,l2⟩:=Qnm j n s h2 h4 h6 hd
  exact h.Qjc k1 l1 k2 l2 h5 h6 h7 h8
 refine ⟨ev,⟨hlen,h.os,h.tape,h.output,h.size,h.keep,h.shape,fun i x hx=>hμ i x (h.first i x hx), ?_, ?_, ?_, ?_, ?_⟩⟩
 ·intro i b hb
  rcases hplace i b hb with k | ⟨j,m0,r0,k1,k2,k3⟩
  ·exact h.place i b k
  exact h.Qm2 k1 k2 k3
 ·intro i j b r s h1 h2 h3 h4 h5 h6
  exact key h1 h2 h3 h4 h5 h6 (.inl rfl) (.inl rfl)
 ·intro i m b r h1 h2 h3
  have hl:=Row.Qyo h3
  have hg:r≠.gone:=by rintro rfl;cases hl
  by_cases hc:ch i
  ·obtain ⟨j,m0,r0,_,k1,k2,k3,k4⟩:=Qxl i m r b hc h1 h2 hg (.inr h3)
   exact h.Qm2 k1 k2 k4
  obtain ⟨k1,k2⟩:=Qnm i m r h1 h2 hg hc
  exact h.Qb4 i m b r k1 k2 h3
 ·intro i j m n b r s h1 h2 h3 h4 h5 h6
  have hl:=Row.Qyo h5
  have hg:r≠.gone:=by rintro rfl;cases hl
  refine ⟨fun hn=>?_,fun h7=>key h1 h2 h3 h4 hl h6 (.inr h5) (.inr h7)⟩
  have e:=key h1 h2 h3 h4 hl h6 (.inr h5) (.inl hn)
  subst e
  have h1':μ'[i]? = some m:=h1
  have h2':μ'[i]? = some n:=h2
  rw [h1'] at h2'
  injection h2' with h2'
  subst h2'
  by_cases hc:ch i
  ·exact hself i m r b hc h1 h3 h5 hn
  obtain ⟨k1,k2⟩:=Qnm i m r h1 h3 hg hc
  exact (h.Qb7 i i m m b r r k1 k1 k2 k2 h5 hg).1 hn
 intro i ob r h1 h2
 by_cases hg:r=.gone
 ·subst hg;cases ob<;>trivial
 by_cases hc:ch i
 ·exact Zb _ ev.ok i ob r hc h1 h2 hg
 obtain ⟨k1,k2⟩:=Qnm i ob r h1 h2 hg hc
 exact (h.rel i ob r k1 k2).mono ev.ok ev.same ev.pre ev.shape (fun _ _=>rfl) (fun _ _=>rfl)
section
variable {X:Ctx} {T:Tab} {f:FuncId} {k k':List Item} {Q:Frame->Frame->Qq->Prop} {st st':St}
variable {α:Type} {e:α->List DV} {z:α} {he:∀ x,NLs (e x)} {kk:Nat} {ty:TypeId}
end
end Go.Sy
namespace Go.Sy
def Wck (l:Nat) (j:Code):Qls where
 ext _ _:=[]
 rel w _ m:=m=some l/\∃ lp:Loop,w.heap[l]? = some (.loop lp)/\lp.state=.done/\lp.pending=some j
 Qc3 _ _:=rfl
 Qgv:=by
  rintro w w' ok ok' m ⟨rfl,lp,h1,h2,h3⟩ _ _ hb _
  exact ⟨rfl,lp,(hb _ rfl).trans h1,h2,h3⟩
 perm _ h:=h
def Qeo (A O:List Nat):Qls where
 ext _ _:=A
 rel w _ m:=m=none/\O.Nodup/\(∀ D∈O,D∈A)/\∀ D∈O,w.heap[D]? = some (.deferred (some []))
 Qc3 _ _:=rfl
 Qgv:=by
  rintro w w' ok ok' m ⟨h0,h1,h2,h3⟩ _ _ _ hx
  exact ⟨h0,h1,h2,fun D hD=>(hx D (h2 D hD)).trans (h3 D hD)⟩
 perm _ h:=h
def Ctx.marks (X:Ctx) (Ds:List Nat):Ctx:={ X with ds:=Ds.map (fun D=>{ target:=.collected D,args:=#[] }) }
theorem Wt.marks {X:Ctx} {C:Qq} (Ds:List Nat) (h:Wt X C):Wt (X.marks Ds) C:=⟨h.len,h.os,h.tape,h.output,h.size,h.keep,h.shape,h.first,h.place,h.apart,h.Qb4,h.Qb7,h.rel⟩
theorem Wt.Qe8 {X:Ctx} {C:Qq} {Ds:List Nat} (h:Wt (X.marks Ds) C):Wt X C:=⟨h.len,h.os,h.tape,h.output,h.size,h.keep,h.shape,h.first,h.place,h.apart,h.Qb4,h.Qb7,h.rel⟩
theorem Wht {X:Ctx} (hX:X.ds=[]/\X.rnd=none):X.marks []=X:=by
 obtain ⟨P,w0,μ0,okp,ds,rnd⟩:=X
 obtain ⟨h1,h2⟩:=hX
 simp only at h1
 subst h1
 rfl
section
variable {X:Ctx} {f:FuncId} {k:List Item} {Q:Frame->Frame->Qq->Prop} {st st':St}
theorem Wlv (h:AK X f k Q ⟨st.nt,st.tm,st.rows ++ [.obj (Qeo [] [])]⟩):AK X f k Q st:=by
 intro a C hC b cs hb hk
 have Zb:Qbg C.w ((C.Qcl (.obj (Qeo [] []))).ok X) (C.Qcl (.obj (Qeo [] []))).μ none (.obj (Qeo [] [])):=⟨rfl,.nil,by simp,by simp⟩
 have hv:=Wt.Qcl hC.rel Zb
 have ev:=Ev.Qcl hC.rel (.obj (Qeo [] []))
 exact h a (C.Qcl (.obj (Qeo [] []))) (by
  have:=hC.Qds ev hv
  have e:(C.Qcl (.obj (Qeo [] []))).rows=st.rows ++ [.obj (Qeo [] [])]:=by simp only [Qq.Qcl,hC.rows]
  rw [e] at this
  exact this) b cs hb hk
theorem Wnx (i j:Nat) {D:Nat} {A O:List Nat} (hi:st.rows[i]? = some (.obj (Qeo A O))) (hj:st.rows[j]? = some (.dfr D)) (hs:st'=⟨st.nt,st.tm,(st.rows.set i (.obj (Qeo (D :: A) (D :: O)))).set j .gone⟩) (h:AK X f k Q st'):AK X f k Q st:=by
 subst hs
 intro a C hC b cs hb hk
 have Zb:=hC.rel
 have hiC:C.rows[i]? = some (.obj (Qeo A O)):=by rw [hC.rows];exact hi
 have hjC:C.rows[j]? = some (.dfr D):=by rw [hC.rows];exact hj
 have hij:i≠j:=by rintro rfl;rw [hiC] at hjC;cases hjC
 obtain ⟨m,hμ⟩:=Zb.Qip hiC
 obtain ⟨n,hν⟩:=Zb.Qip hjC
 obtain ⟨rfl,hnd,Qky,Qd8⟩:=Zb.rel i m _ hμ hiC
 have hd:=Zb.rel j n _ hν hjC
 cases n with
 | none=>exact hd.elim
 | some q=>
  obtain ⟨rfl,hq⟩:=hd
  have hqA:q ∉ A:=fun hx=>(Zb.Qb7 i j _ _ q _ _ hμ hν hiC hjC hx (by simp)).1 rfl
  have hli:=(List.getElem?_eq_some_iff.1 hiC).1
  have hlj:=(List.getElem?_eq_some_iff.1 hjC).1
  let rows':=(C.rows.set i (.obj (Qeo (q :: A) (q :: O)))).set j .gone
  have Qg1:∀ {x:Nat} {r:Row},rows'[x]? = some r->(x=j/\r=.gone)\/(x=i/\r=.obj (Qeo (q :: A) (q :: O)))\/(x≠i/\x≠j/\C.rows[x]? = some r):=by
   intro x r h2
   rcases (Qb2 (by simpa using hlj)).1 h2 with ⟨rfl,rfl⟩ | ⟨n1,h2⟩
   ·exact .inl ⟨rfl,rfl⟩
   rcases (Qb2 hli).1 h2 with ⟨rfl,rfl⟩ | ⟨n2,h2⟩
   ·exact .inr (.inl ⟨rfl,rfl⟩)
   exact .inr (.inr ⟨Ne.symm n2,Ne.symm n1,h2⟩)
  obtain ⟨ev,hR⟩:=Wo5 Zb (μ':=C.μ) (rows':=rows') (fun x=>x=i\/x=j) (by simp [rows',Zb.len]) (fun x y hx=>hx)
   (by
    intro x m r h1 h2 hg hc
    rcases Qg1 h2 with ⟨_,e⟩ | ⟨e,_⟩ | ⟨_,_,k2⟩
    ·exact absurd e hg
    ·exact absurd (.inl e) hc
    exact ⟨h1,k2⟩)
   (fun x b hb=>.inl hb)
   (by
    intro x m' r y hc h1 h2 hg hx
    rcases Qg1 h2 with ⟨_,e⟩ | ⟨rfl,rfl⟩ | ⟨n1,n2,_⟩
    ·exact absurd e hg
    ·rw [hμ] at h1
     cases h1
     rcases hx with hx | hx
     ·cases hx
     rcases List.mem_cons.1 hx with rfl | hx
     ·exact ⟨j,_,_,.inr rfl,hν,hjC,rfl,.inl rfl⟩
     exact ⟨x,_,_,.inl rfl,hμ,hiC,rfl,.inr hx⟩
    rcases hc with hc | hc
    ·exact absurd hc n1
    exact absurd hc n2)
   (by
    intro x y m1 m2 r s z hc hd h1 h2 h3 h4 g1 g2 _ _
    have key:∀ {x:Nat} {r:Row},(x=i\/x=j)->rows'[x]? = some r->r≠.gone->x=i:=by
     intro x r hc h2 hg
     rcases Qg1 h2 with ⟨_,e⟩ | ⟨e,_⟩ | ⟨n1,n2,_⟩
     ·exact absurd e hg
     ·exact e
     rcases hc with hc | hc
     ·exact absurd hc n1
     exact absurd hc n2
    rw [key hc h3 g1,key hd h4 g2])
   (by
    intro x m' r z hc h1 h2 hx
    rcases Qg1 h2 with ⟨_,e⟩ | ⟨rfl,rfl⟩ | ⟨n1,n2,_⟩
    ·subst e;cases hx
    ·rw [hμ] at h1
     cases h1
     simp
    rcases hc with hc | hc
    ·exact absurd hc n1
    exact absurd hc n2)
   (by
    intro ok Jj x m' r hc h1 h2 hg
    rcases Qg1 h2 with ⟨_,e⟩ | ⟨rfl,rfl⟩ | ⟨n1,n2,_⟩
    ·exact absurd e hg
    ·rw [hμ] at h1
     cases h1
     exact ⟨rfl,List.nodup_cons.2 ⟨fun hx=>hqA (Qky _ hx),hnd⟩,fun D hD=>by
      rcases List.mem_cons.1 hD with rfl | hD
      ·exact List.mem_cons_self ..
      ·exact List.mem_cons_of_mem _ (Qky D hD),fun D hD=>by
      rcases List.mem_cons.1 hD with rfl | hD
      ·exact hq
      exact Qd8 D hD⟩
    rcases hc with hc | hc
    ·exact absurd hc n1
    exact absurd hc n2)
  have:=hC.Qds ev hR
  simp only [rows',hC.rows] at this
  exact h a _ this b cs hb hk
def Qv4 (X:Ctx) (Qr:List Row) (go:Bool) (_ fr:Frame) (C:Qq):Prop:=
 ∃ w2,(∀ c cs,step X.P (lone fr (c :: cs) C.w)=.next (lone (c.finish (.bool go)) cs w2))/\Qa3 X ⟨C.μ,Qr,w2⟩ (.d (.v (.bool go))) (.bool go)
theorem Qx4 (id:Nat) {l:Nat} {fn:FuncId} {nt:Nat} {is:List Nat} {xs:List AV} {ps:Array Tmp} {asg body:Code} (hX:X.rnd=some l) (hr:st.rows[id]? = some (.loop l .busy fn nt is xs ps asg body))
  {Qr:List Row} (hs:Qr=st.rows.set id (.loop l .ready fn nt is xs ps asg body)) (nr:∀ r∈Qr,NR r):AK X f [] (Qv4 X Qr true) st:=by
 subst hs
 intro a C hC b cs hb hk
 obtain ⟨lp,h1,h2,h3,h4,h5⟩:=Qqy (s':=.ready) hC.rel (by rw [hC.rows];exact hr)
 have Qhb:=run_endRound (P:=X.P) none h1
 have e:({ lp with state:=if (none:Option Code).isNone then LoopState.ready else .done,pending:=(none:Option Code) }:Loop)={ lp with state:=.ready }:=by
  cases lp
  simp only at h3
  subst h3
  rfl
 rw [e] at Qhb
 simp only [Qq.Yw,hC.rows] at h4
 refine ⟨C,b.atR a [],⟨_,fun c cs=>stepR_round_end (hk.2.trans hX) hk.1 Qhb,h4, ?_,.d (.v rfl)⟩,.refl _ _,hb⟩
 intro j ob r e1 e2
 exact (h4.rel j ob r e1 e2).perm (fun _ h=>⟨rfl,h⟩) (nr r (List.mem_of_getElem? e2))
end
def Qor (P:Program) (l:Nat) (Xb:List Row) (x y:AV) (Qr:List Row) (go:Bool):Prop:=
 ∀ (X:Ctx) (u v:Value),X.P=P->X.Fits->Wt X ⟨X.μ0,Xb,X.w0⟩->Zj X.w0 ((⟨X.μ0,Xb,X.w0⟩:Qq).ok X) X.μ0 x u->Zj X.w0 ((⟨X.μ0,Xb,X.w0⟩:Qq).ok X) X.μ0 y v ->
  ∃ fn tmps asg body,(Instr.yield l #[u,v]).run P X.w0=.ok (.round l fn tmps asg body) X.w0/\∀ (c:Frame) (cs:List Frame),∃ w' μ',Qa3 X ⟨μ',Qr,w'⟩ (.d (.v (.bool go))) (.bool go) /\
   Steps P (lone (Frame.round l fn tmps asg body .normal) (c :: cs) X.w0) (lone (c.finish (.bool go)) cs w')
theorem Wa1 {P:Program} {l:Nat} {fn:FuncId} {nt:Nat} {is:List Nat} {xs:List AV} {p q:Tmp} {asg body:Code} {rest:List Row} {x y:AV} {Qr:List Row} {go:Bool} (hp:p < nt) (hq:q < nt) (hpq:p≠q)
  (h:∀ X:Ctx,X.P=P->X.μ0.length=(.loop l .ready fn nt is xs #[p,q] asg body :: rest).length->X.rnd=some l->AK X fn (.code asg :: .beginRound :: .code body :: []) (Qv4 X Qr go) ⟨nt,(q,y) :: (p,x) :: is.zip xs,.loop l .ready fn nt is xs #[p,q] asg body :: rest⟩):
  Qor P l (.loop l .ready fn nt is xs #[p,q] asg body :: rest) x y Qr go:=by
 intro X u v hP hX Zb hx hy
 subst hP
 obtain ⟨ob,hμ⟩:=Zb.Qip (id:=0) rfl
 have h0:=Zb.rel 0 ob _ hμ rfl
 cases ob with
 | none=>exact h0.elim
 | some b=>
  obtain ⟨rfl,T,D,vs,h1,h2,h3,h4⟩:=h0
  refine ⟨fn,_,asg,body,run_yield h1 rfl,fun c cs=>?_⟩
  let a:Act:=⟨(T.setIfInBounds p u).setIfInBounds q v,[]⟩
  have Qhy:Sim (X.round b) ⟨nt,(q,y) :: (p,x) :: is.zip xs,.loop b .ready fn nt is xs #[p,q] asg body :: rest⟩ a ⟨X.μ0,.loop b .ready fn nt is xs #[p,q] asg body :: rest,X.w0⟩:=by
   refine ⟨Zb.round b,rfl,rfl,by simp [a,h2],fun i av e=>?_⟩
   simp only [List.lookup_cons] at e
   split at e
   ·rename_i hi
    have hi:i=q:=by simpa using hi
    subst hi
    injection e with e
    subst e
    exact ⟨v,by simp [a,h2,hq],hy⟩
   rename_i hi
   have hi:q≠i:=fun e=>by subst e;simp at hi
   split at e
   ·rename_i hj
    have hj:i=p:=by simpa using hj
    subst hj
    injection e with e
    subst e
    exact ⟨u,by simp [a,h2,hp,Array.getElem?_setIfInBounds,hi],hx⟩
   rename_i hj
   have hne:p≠i:=fun e=>by subst e;simp at hj
   obtain ⟨j,j1,j2⟩:=Qpu e
   obtain ⟨t,u1,u2⟩:=h3.at_ j2
   exact ⟨t,by simp [a,Array.getElem?_setIfInBounds,hne,hi,h4 j i t j1 u1],u2⟩
  obtain ⟨C',fr,⟨w2,q2,q3⟩,s1,s2⟩:=h (X.round b) rfl Zb.len rfl a _ Qhy { (default:Frame) with fn:=fn,kind:=.normal,roundOf:=some b } (c :: cs) rfl ⟨rfl,rfl⟩
  refine ⟨w2,C'.μ,⟨q3.rel.Wbx,q3.rows,q3.ret⟩, ?_⟩
  have Qhb:=q2 c cs
  have hfr:∀ T2:Array Value,T2=(T.setIfInBounds p u).setIfInBounds q v->Frame.round b fn T2 asg body .normal=({ (default:Frame) with fn:=fn,kind:=.normal,roundOf:=some b }:Frame).atR a [.code asg,.beginRound,.code body]:=by
   rintro T2 rfl
   rfl
  rw [hfr _ (by simp)]
  exact s1.trans (.one Qhb)
def Wam (st:St):List Item->Option (Nat × AV × AV × Option Tmp × List Item)
 | .inRegion ops (i :: rest) :: k=>
  match ops[i]? with
  | some o=>
   match o.op with
   | .call c=>
    match c.callee,c.args.toList with
    | .value g,[x,y]=>
     match guardOf st.tm ops o,valOf st.tm g,valOf st.tm x,valOf st.tm y with
     | some true,some (.d (.v (.func (.yield l) fa fc))),some av,some bv=>bif fa.isEmpty && fc.isEmpty then some (l,av,bv,o.dst,.inRegion ops rest :: k) else none
     | _,_,_,_=>none
    | _,_=>none
   | _=>none
  | none=>none
 | _=>none
section
variable {X:Ctx}
theorem Wfk {P:Program} {f:FuncId} {k k':List Item} {Q:Frame->Frame->Qq->Prop} {st st':St} {l:Nat} {av bv x y:AV} {go:Bool} {dst:Option Tmp} (S ids:List Nat) {Xb Qr:List Row} (hP:X.P=P) (hs:Qor P l Xb x y Qr go)
  (e:Wam st k=some (l,av,bv,dst,k')) (hh:Qbz st.rows ids Xb) (hp:Qff st.rows ids (Zw ids st.rows.length) [av,bv] [x,y])
  (Qat:(St.put { st with rows:=Qav st.rows ids Qr } dst (.d (.v (.bool go)))).map (St.only S)=some st') (h:AK X f k' Q st'):AK X f k Q st:=by
 subst hP
 obtain ⟨s0,Que,rfl⟩:=Option.map_eq_some_iff.1 Qat
 clear Qat
 unfold Wam at e
 split at e
 ·rename_i ops i rest k0
  split at e
  ·rename_i o ho
   split at e
   ·rename_i c hc
    split at e
    ·rename_i g x0 y0 hg Qb5
     split at e
     ·rename_i l0 fa fc av0 bv0 hgd hv hx hy
      cases hb:fa.isEmpty && fc.isEmpty with
      | false=>rw [hb] at e;cases e
      | true=>
       rw [hb] at e
       simp only [cond_true,Option.some.injEq,Prod.mk.injEq] at e
       obtain ⟨rfl,rfl,rfl,rfl,rfl⟩:=e
       simp only [Bool.and_eq_true,Array.isEmpty_iff] at hb
       obtain ⟨rfl,rfl⟩:=hb
       refine Qix (Qdh S h) fun a C hC b cs _=>?_
       have hg2:=(hC.val _ _ hv).Qbt
       have hx2:=hC.val _ _ hx
       have hy2:=hC.val _ _ hy
       have hargs':c.args=#[x0,y0]:=by rw [<- Array.toArray_toList (xs:=c.args),Qb5]
       rw [<- hC.rows] at hh hp Que
       have hpx:=Qj5 hC.rel hh hp (Qaw.cons hx2 (.cons hy2 .nil))
       obtain ⟨fn,tmps,asg,body,hyl,Qy5⟩:=hs (Qaf X C ids) (a.eval x0) (a.eval y0) rfl (Qmm hC.rel hh) (Qoa hC.rel hh) (by cases hpx with | cons h _=>exact h) (by cases hpx with | cons _ h=>cases h with | cons h _=>exact h)
       have hxe:(execOp a.eval o).run X.P C.w=.ok (.round l0 fn tmps asg body) C.w:=by
        simp only [execOp,hc,resolve,hg,hg2,Deferred.ofValue,Sem.run_bind,Sem.run_pure,Result.andThen_ok,invoke,hargs']
        simpa [Qaf] using hyl
       have hgg:=stepGR_op (P:=X.P) (b:=b) (k:=k0) (cs:=cs) (w:=C.w) (rest:=rest) ho (Qdv hC hgd)
       rw [Oper.semAt_eq _ _ _ (by intro c' hc';rw [hc] at hc';cases hc')] at hgg
       obtain ⟨w',μ',hd,Qhc⟩:=Qy5 (b.atR a (.inRegion ops (i :: rest) :: k0)) cs
       have Qin:step X.P (lone (b.atR a (.inRegion ops (i :: rest) :: k0)) cs C.w)=.next (lone (Frame.round l0 fn tmps asg body .normal) (b.atR a (.inRegion ops (i :: rest) :: k0) :: cs) C.w):=
        step_lone_go (by rw [hgg];simp [stepG.apply,hxe,Frame.atR])
       have Qdw:(b.atR a (.inRegion ops (i :: rest) :: k0)).finish (.bool go)=b.atR (a.put o.dst (.bool go)) (.inRegion ops rest :: k0):=by
        rw [Frame.finish_atR,ho];rfl
       rw [Qdw] at Qhc
       have Qhy:Sim X { st with rows:=(Qa4 C ids μ' Qr w').rows } a (Qa4 C ids μ' Qr w'):=hC.Qds (Qmd hC.rel hh hd.rel) (Qml hC.rel hh hd)
       exact ⟨_,Qa4 C ids μ' Qr w',Qhy.put Que (.d (.v rfl)),.head Qin Qhc⟩
     cases e
    cases e
   cases e
  cases e
 cases e
def Qhf (rows:List Row) (D:Nat) (f:FuncId) (nt:Nat) (is:List Nat) (xs:List AV) (p q:Tmp) (asg body:Code):List Row:=rows ++ [.dfr D,.loop (D+1) .ready f nt is xs #[p,q] asg body]
set_option maxHeartbeats 1000000 in
theorem Qpv {P:Program} {f g:FuncId} {fop:Operand} {p q:Tmp} {asg body:Code} {k:List Item} {Q:Frame->Frame->Qq->Prop} {st:St} {caps:List AV} {ret:AV} {jm:Option Nat} (Ds is:List Nat) (xs xs':List AV) (ids:List Nat) (Xb Qr:Nat->List Row) (args:Nat->List AV)
  (hP:X.P=P) (hX:X.ds=[]/\X.rnd=none) (hv:valOf st.tm fop=some (.fn g caps)) (he:Enters P g) (hxs:is.map (fun i=>st.tm.lookup i)=xs.map some)
  (hs:∀ l,Xt P g (Xb l) (args l) (Qr l) ret)
  (hh:∀ D,Qbz (Qhf st.rows D f st.nt is xs p q asg body) ids (Xb (D+1)))
  (hp:∀ D,Qff (Qhf st.rows D f st.nt is xs p q asg body) ids (Zw ids (Qhf st.rows D f st.nt is xs p q asg body).length) (.d (.v (.func (.yield (D+1)) #[] #[])) :: caps) (args (D+1)))
  (hl:∀ D,(Qav (Qhf st.rows D f st.nt is xs p q asg body) ids (Qr (D+1)))[st.rows.length+1]? = some (match jm with | none=>.loop (D+1) .ready f st.nt is xs' #[p,q] asg body | some j=>.obj (Wck (D+1) (.exit j))))
  (h:∀ D,AK (X.marks (D :: Ds)) f ((jm.map fun j=>Item.code (.exit j)).toList ++ k) Q ⟨st.nt,st.tm,(Qav (Qhf st.rows D f st.nt is xs p q asg body) ids (Qr (D+1))).set (st.rows.length+1) .gone⟩):
  AK (X.marks Ds) f (.code (.rangeFunc fop #[p,q] asg body) :: k) Q st:=by
 subst hP
 intro a C hC b cs hb hk
 have hCr:Wt X C:=hC.rel.Qe8
 have hCX:Sim { X with ds:=a.defers } st a C:=⟨⟨hCr.len,hCr.os,hCr.tape,hCr.output,hCr.size,hCr.keep,hCr.shape,hCr.first,hCr.place,hCr.apart,hCr.Qb4,hCr.Qb7,hCr.rel⟩,hC.rows,rfl,hC.nt,hC.tm⟩
 obtain ⟨vs,v1,v2⟩:=Qra hCX hxs
 let Y:Ctx:={ X with ds:=a.defers }
 have hCY:Wt Y C:=hCX.rel
 let D:=C.w.heap.size
 let C1:=C.push (.deferred (some [])) (.dfr D)
 have h1:Wt Y C1:=Wt.push hCY ⟨rfl,heap_alloc_new _ _⟩
 have e1:Ev Y C C1:=Ev.push hCY _ _
 have hD1:C1.w.heap.size=D+1:=World.size_alloc _ _
 let lp:Loop:={ state:=.ready,pending:=none,fn:=f,tmps:=a.tmps,params:=#[p,q],assign:=asg,body:=body,defers:=D }
 let C2:=C1.push (.loop lp) (.loop (D+1) .ready f st.nt is xs #[p,q] asg body)
 have e2:Ev Y C1 C2:=Ev.push h1 _ _
 have ev:=e1.trans e2
 have h2:Wt Y C2:=Wt.push h1 ⟨hD1,a.tmps,D,vs,heap_alloc_new _ _,hC.nt,Qaw.mono ev.ok ev.same ev.pre ev.shape v1,v2⟩
 have Qy6:C2.rows=Qhf st.rows D f st.nt is xs p q asg body:=by simp [C2,C1,Qq.push,hC.rows,Qhf]
 have s2:Sim Y { st with rows:=C2.rows } a C2:=hCX.Qds ev h2
 -- the call
 obtain ⟨gcs,hgv,hgr⟩:∃ gcs:List Value,a.eval fop=.func (.func g) #[] gcs.toArray/\Jm C2.w (C2.ok Y) C2.μ caps gcs:=by
  have:=s2.val fop _ hv
  generalize a.eval fop=u at this
  cases this with
  | fn hh=>exact ⟨_,rfl,hh⟩
 have hrnd:b.roundOf=none:=hk.2.trans hX.2
 have Qin:(Instr.enterLoop b.fn a.tmps #[p,q] asg body b.roundOf).run X.P C.w=.ok (D+1,[{ target:=.collected D,args:=#[] }]) C2.w:=by
  rw [hb,hrnd]
  exact run_enterLoop_outer f a.tmps #[p,q] asg body
 have Qy4:(resolve a.eval (rangeCall fop (D+1)) 0).run X.P C2.w=.ok { target:=.fn (.func g) gcs.toArray,args:=#[.func (.yield (D+1)) #[] #[]] } C2.w:=by
  have hcv:a.eval (.const (.func (.yield (D+1)) #[] #[]))=.func (.yield (D+1)) #[] #[]:=rfl
  simp [resolve,rangeCall,hgv,Deferred.ofValue,hcv]
 have hinv:(invoke (.fn (.func g) gcs.toArray) #[.func (.yield (D+1)) #[] #[]]).run X.P C2.w=.ok (.enter g (#[.func (.yield (D+1)) #[] #[]] ++ gcs.toArray)) C2.w:=by
  simp only [invoke]
  exact he _ _
 have Qay:=stepR_rangeFunc (P:=X.P) (b:=b) (a:=a) (k:=k) (cs:=cs) Qin Qy4 hinv
 have hhd:=hh D
 have hpd:=hp D
 have hld:=hl D
 have hkd:=h D
 rw [<- Qy6] at hhd hpd hld hkd
 have Qb5:Qaw C2.w (C2.ok Y) C2.μ (.d (.v (.func (.yield (D+1)) #[] #[])) :: caps) (.func (.yield (D+1)) #[] #[] :: gcs):=.cons (.d (.v rfl)) hgr.toL
 have Qdd:=hs (D+1) (Qaf Y C2 ids) _ rfl (Qmm h2 hhd) (Qoa h2 hhd) (Qj5 h2 hhd hpd Qb5)
 have hae:(Value.func (.yield (D+1)) #[] #[] :: gcs).toArray=#[.func (.yield (D+1)) #[] #[]] ++ gcs.toArray:=by simp
 rw [hae] at Qdd
 obtain ⟨e,w',fr,⟨v,μ',rfl,hd⟩,Qhc,_,Qmv⟩:=Qdd (b.atR { a with defers:=[{ target:=.collected D,args:=#[] }] ++ a.defers } (.inRangeFunc (D+1) :: k) :: cs)
 have Qgh:=step_leave_returned (c:=b.atR { a with defers:=[{ target:=.collected D,args:=#[] }] ++ a.defers } (.inRangeFunc (D+1) :: k)) (cs:=cs) Qmv
 rw [finish_atR_inRangeFunc] at Qgh
 have hb2:=Qml h2 hhd hd
 have eb:=Qmd h2 hhd hd.rel
 have sb:=s2.Qds eb hb2
 -- the loop is over
 obtain ⟨ob,hμ⟩:=hb2.Qip hld
 have hlr:=hb2.rel _ ob _ hμ hld
 obtain ⟨lp2,r1,r2,r3,r4⟩:∃ lp2:Loop,ob=some (D+1)/\w'.heap[D+1]? = some (.loop lp2)/\lp2.state≠.busy/\lp2.pending=jm.map fun j=>.exit j:=by
  cases jm with
  | none=>
   cases ob with
   | none=>exact hlr.elim
   | some q=>
    obtain ⟨rfl,T,D',vs',r1,r2,r3,r4⟩:=hlr
    exact ⟨_,rfl,r1,by simp,rfl⟩
  | some j=>
   obtain ⟨rfl,lp2,r1,r2,r3⟩:=hlr
   exact ⟨lp2,rfl,r1,by rw [r2];simp,r3⟩
 subst r1
 have Qhb:=stepR_endRangeFunc (P:=X.P) (b:=b) (a:={ a with defers:=[{ target:=.collected D,args:=#[] }] ++ a.defers }) (k:=k) (cs:=cs) (run_endLoop r2 r3)
 have Qii:(match jm with | none=>Row.loop (D+1) .ready f st.nt is xs' #[p,q] asg body | some j=>.obj (Wck (D+1) (.exit j))).live=true:=by cases jm<;>rfl
 have tu:=Qm3 (r':=.gone) hb2 (.loop { lp2 with state:=.exhausted }) hμ hld Qii r2 (by intro w m;cases jm<;>rfl)
 have h3:=Wt.Yw hb2 tu (.inr rfl) trivial
 have ev3:=Ev.Yw hb2 tu
 have s3:=sb.Qds ev3 h3
 have h3':Wt X (Qq.Yw (Qa4 C2 ids μ' (Qr (D+1)) w') (st.rows.length+1) .gone (w'.putObj (D+1) (.loop { lp2 with state:=.exhausted }))):=⟨h3.len,h3.os,h3.tape,h3.output,h3.size,h3.keep,h3.shape,h3.first,h3.place,h3.apart,h3.Qb4,h3.Qb7,h3.rel⟩
 have Qdw:Sim (X.marks (D :: Ds)) ⟨st.nt,st.tm,(Qav C2.rows ids (Qr (D+1))).set (st.rows.length+1) .gone⟩ { a with defers:=[{ target:=.collected D,args:=#[] }] ++ a.defers } _:=⟨h3'.marks (D :: Ds),s3.rows,by simp [Ctx.marks,hC.defers],s3.nt,s3.tm⟩
 obtain ⟨C',fr',q1,q2,q3⟩:=hkd _ _ Qdw b cs hb ⟨hk.1,hk.2⟩
 have e5:(lp2.pending.map Item.code).toList=(jm.map fun j=>Item.code (.exit j)).toList:=by rw [r4];cases jm<;>rfl
 rw [e5] at Qhb
 exact ⟨C',fr',q1,.head Qay (Qhc.trans (.head Qgh (.head Qhb q2))),q3⟩
theorem Qw3 {P:Program} {f g:FuncId} {fop:Operand} {p q:Tmp} {asg body:Code} {k0 k:List Item} {Q:Frame->Frame->Qq->Prop} {st:St} {caps:List AV} {ret:AV} (go:Bool) {jd:Nat} (Ds is:List Nat) (xs xs':List AV) (ids:List Nat) (Xb Qr:Nat->List Row) (args:Nat->List AV)
  (hP:X.P=P) (hX:X.ds=[]/\X.rnd=none) (hv:valOf st.tm fop=some (.fn g caps)) (he:Enters P g) (hxs:is.map (fun i=>st.tm.lookup i)=xs.map some)
  (hs:∀ l,Xt P g (Xb l) (args l) (Qr l) ret) (hk0:k0=.code (.rangeFunc fop #[p,q] asg body) :: .inBlock jd :: k)
  (hh:∀ D,Qbz (Qhf st.rows D f st.nt is xs p q asg body) ids (Xb (D+1)))
  (hp:∀ D,Qff (Qhf st.rows D f st.nt is xs p q asg body) ids (Zw ids (Qhf st.rows D f st.nt is xs p q asg body).length) (.d (.v (.func (.yield (D+1)) #[] #[])) :: caps) (args (D+1)))
  (hl1:go=true->∀ D,(Qav (Qhf st.rows D f st.nt is xs p q asg body) ids (Qr (D+1)))[st.rows.length+1]? = some (.loop (D+1) .ready f st.nt is xs' #[p,q] asg body))
  (hl0:go=false->∀ D,(Qav (Qhf st.rows D f st.nt is xs p q asg body) ids (Qr (D+1)))[st.rows.length+1]? = some (.obj (Wck (D+1) (.exit jd))))
  (h:∀ D,AK (X.marks (D :: Ds)) f k Q ⟨st.nt,st.tm,(Qav (Qhf st.rows D f st.nt is xs p q asg body) ids (Qr (D+1))).set (st.rows.length+1) .gone⟩):
  AK (X.marks Ds) f k0 Q st:=by
 subst hk0
 cases go with
 | true=>
  refine Qpv (jm:=none) Ds is xs xs' ids Xb Qr args hP hX hv he hxs hs hh hp (fun D=>hl1 rfl D) fun D=>?_
  intro a C hC b cs hb hk
  obtain ⟨C',fr,q1,q2,q3⟩:=h D a C hC b cs hb hk
  exact ⟨C',fr,q1,.head stepR_inBlock q2,q3⟩
 | false=>
  refine Qpv (jm:=some jd) Ds is xs xs' ids Xb Qr args hP hX hv he hxs hs hh hp (fun D=>hl0 rfl D) fun D=>?_
  intro a C hC b cs hb hk
  obtain ⟨C',fr,q1,q2,q3⟩:=h D a C hC b cs hb hk
  exact ⟨C',fr,q1,.head (stepR_exit (by simp [exitTo])) q2,q3⟩
theorem Qtz {P:Program} (id:Nat) (hP:X.P=P):∀ (O:List Nat) (A:List Nat) (C:Qq) (fr:Frame) (cs:List Frame),Wt X C->C.rows[id]? = some (.obj (Qeo A O))->fr.mode=.returning->fr.defers=O.map (fun D=>{ target:=.collected D,args:=#[] }) ->
  ∃ C':Qq,Wt X C'/\Ev X C C'/\C'.rows=C.rows.set id (.obj (Qeo A []))/\Steps P (lone fr cs C.w) (lone { fr with defers:=[] } cs C'.w)
 | [],A,C,fr,cs,h,hr,hm,hd=>by
  refine ⟨C,h,Ev.refl _ _, ?_, ?_⟩
  ·apply List.ext_getElem?
   intro i
   by_cases hi:id=i
   ·subst hi
    rw [List.getElem?_set_self (List.getElem?_eq_some_iff.1 hr).1,hr]
   rw [List.getElem?_set_ne hi]
  have:({ fr with defers:=[] }:Frame)=fr:=by cases fr;simp at hd;simp [hd]
  rw [this]
  exact .refl _ _
 | D :: O,A,C,fr,cs,h,hr,hm,hd=>by
  subst hP
  obtain ⟨m,hμ⟩:=h.Qip hr
  obtain ⟨rfl,hnd,Qky,Qd8⟩:=h.rel id m _ hμ hr
  have hDd:=Qd8 D (List.mem_cons_self ..)
  have tu:Qp5 X C id D (Qeo A (D :: O)) (Qeo A O) (C.w.putObj D (.deferred none)):=
   ⟨fun ob _=>.inr (Qky D (List.mem_cons_self ..)),fun _=>rfl,rfl,rfl,⟨rfl,Nat.le_refl _⟩,by simp [World.putObj],fun k hk=>World.putObj_heap_other hk,fun cs ty hc=>by rw [hDd] at hc;cases hc⟩
  have ev:=Qym h hr tu
  have Zb:=Wh9 h hr tu fun ob hob=>by
   rw [hμ] at hob
   cases hob
   exact ⟨rfl,(List.nodup_cons.1 hnd).2,fun x hx=>Qky x (List.mem_cons_of_mem _ hx),fun x hx=>by
    have hne:x≠D:=by rintro rfl;exact (List.nodup_cons.1 hnd).1 hx
    exact (World.putObj_heap_other hne).trans (Qd8 x (List.mem_cons_of_mem _ hx))⟩
  have s2:=step_collected (P:=X.P) (cs:=cs) (w:=C.w) (fr:=fr) (by rw [hm];simp) hd rfl (run_takeDeferred hDd)
  obtain ⟨C',q1,q2,q3,q4⟩:=Qtz id rfl O A (C.Yw id (.obj (Qeo A O)) (C.w.putObj D (.deferred none))) { fr with defers:=[] ++ O.map (fun D=>{ target:=.collected D,args:=#[] }) } cs Zb (by simp [Qq.Yw,(List.getElem?_eq_some_iff.1 hr).1]) hm (by simp)
  refine ⟨C',q1,ev.trans q2,by rw [q3];simp [Qq.Yw],.head s2 q4⟩
theorem Wax {f:FuncId} {k:List Item} {Q:Frame->Frame->Qq->Prop} {st:St} {Ds:List Nat} (hX:X.ds=[]/\X.rnd=none) (hD:Ds=[]) (h:AK (X.marks Ds) f k Q st):AK X f k Q st:=by
 subst hD
 rw [Wht hX] at h
 exact h
end
end Go.Sy
