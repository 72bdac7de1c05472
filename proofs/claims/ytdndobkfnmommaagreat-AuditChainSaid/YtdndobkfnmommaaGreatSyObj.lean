/- Objects of one type, each in a block of its own, known by their addresses: loads and stores through addresses. -/
import Derived.Test.YtdndobkfnmommaaGreatSyArr
set_option linter.unusedVariables false
set_option linter.unusedSimpArgs false
namespace Go.Sy
abbrev pA (a off:Nat):DV:=.v (.pointer (some ⟨a,off,none⟩))
def eA (a:Nat):List DV:=[pA a 0]
def arO {α:Type} (e:α->List DV) (he:∀ x,NLs (e x)) (ty:TypeId) (dom:List Nat) (m:Nat->α):Qip where
 ext:=fun _ _=>dom
 rel:=fun w ok _=>dom.Nodup/\∀ a∈dom,∃ vs:List Value,w.heap[a]? = some (.cells vs.toArray ty (0,0))/\VRs w ok (e (m a)) vs
 Qb5:=fun _ _=>rfl
 Qfk:=fun h Jg hw _ hx=>⟨h.1,fun a ha=>by
  obtain ⟨vs,h1,h2⟩:=h.2 a ha
  exact ⟨vs,(hx a ha).trans h1,h2.mono Jg hw⟩⟩
 perm:=fun Jg h=>⟨h.1,fun a ha=>by
  obtain ⟨vs,h1,h2⟩:=h.2 a ha
  exact ⟨vs,h1,VRs.perm Jg h2 (he _)⟩⟩
section
variable {X:Ctx} {T:Tab} {f:FuncId} {k k':List Item} {Q:Frame->Frame->Wp->Prop} {st st':St}
def Qw4 (st:St) (x:Operand):Option (Nat × Nat):=
 match valOf st.tm x with
 | some (.d (.v (.pointer (some ⟨a,off,none⟩))))=>some (a,off)
 | _=>none
theorem Wf8 {st:St} {x:Operand} {a off:Nat} (h:Qw4 st x=some (a,off)):valOf st.tm x=some (.d (pA a off)):=by
 unfold Qw4 at h
 split at h
 ·rename_i a' off' e
  injection h with h
  injection h with h1 h2
  subst h1;subst h2
  exact e
 cases h
def Wak (T:Tab) (st:St) (k:List Item):Option (Nat × Nat × Nat × Bool × Option Tmp × List Item):=
 match Qe3 st k with
 | some (o,k')=>
  match o.op with
  | .load t x=>
   match T.Qks.lookup t,T.info.lookup t,Qw4 st x with
   | some agg,some (s,_,_),some (a,off)=>some (a,off,s,agg,o.dst,k')
   | _,_,_=>none
  | _=>none
 | none=>none
theorem Qw5 {a':Act} {C:Wp} (hC:Sim X st a' C) {x:Operand} {a off:Nat} (h:Qw4 st x=some (a,off)):a'.eval x=.pointer (some ⟨a,off,none⟩):=by
 have:=hC.val _ _ (Wf8 h)
 generalize a'.eval x=v at this ⊢
 cases this with
 | d r=>cases r;rfl
theorem Qv8 {C:Wp} (h:Xp X C) {α:Type} {e:α->List DV} {he:∀ x,NLs (e x)} {ty:TypeId} {dom:List Nat} {m:Nat->α} {id a:Nat} (hr:C.rows[id]? = some (.obj (arO e he ty dom m))) (ha:a∈dom):
  ∃ vs:List Value,C.w.heap[a]? = some (.cells vs.toArray ty (0,0))/\VRs C.w (C.ok X) (e (m a)) vs:=by
 obtain ⟨ob,hμ⟩:=h.Qd8 hr
 have:=h.rel id ob _ hμ hr
 cases ob<;>exact this.2 a ha
theorem Qtb (hT:Xo X.P T) {α:Type} {e:α->List DV} {he:∀ x,NLs (e x)} {ty:TypeId} {dom:List Nat} {m:Nat->α} (id:Nat) {a off s:Nat} {agg:Bool} {dst:Option Tmp} (ds:List DV)
  (e1:Wak T st k=some (a,off,s,agg,dst,k')) (hr:st.rows[id]? = some (.obj (arO e he ty dom m))) (ha:a∈dom) (hd:((e (m a)).drop off).take s=ds) (hl:ds.length=s) (hs:agg=false->s=1)
  (Qcd:St.put st dst (if agg then .d (.agg ds) else .d (ds.getD 0 dv0))=some st') (h:AK X f k' Q st'):AK X f k Q st:=by
 unfold Wak at e1
 split at e1
 ·rename_i o k3 Qe7
  split at e1
  ·rename_i t x hop
   split at e1
   ·rename_i agg' s' by' z a0 Qdx hag hi hx
    simp only [Option.some.injEq,Prod.mk.injEq] at e1
    obtain ⟨rfl,rfl,rfl,rfl,rfl,rfl⟩:=e1
    refine Qkg Qe7 h fun a' C hC=>?_
    have hu:=Qw5 hC hx
    obtain ⟨vs,h1,h2⟩:=Qv8 hC.rel (by rw [hC.rows];exact hr) ha
    have u2:=(h2.drop Qdx).take s'
    rw [hd] at u2
    generalize hus:(vs.drop Qdx).take s'=us at u2
    have hm:∀ (j:Nat) v,us[j]? = some v->C.w.cell? ⟨a0,Qdx+j,none⟩=some v:=fun j v hj=>by
     rw [cell_of_row _ _ _ _ _ _ h1]
     have hjs:j < s':=by
      have:=(List.getElem?_eq_some_iff.1 hj).1
      rw [<- u2.length,hl] at this
      exact this
     rw [<- hus,List.getElem?_take_of_lt hjs,List.getElem?_drop] at hj
     simpa using hj
    cases agg' with
    | true=>
     have:=Qen hT (w:=C.w) (b:=a0) (off:=Qdx) hag hi us (fun _=>by rw [<- u2.length,hl]) hm undef (by simp)
     simp only [if_true] at this
     refine ⟨.agg us.toArray,C,st, ?_,hC,_,Qcd, ?_⟩
     ·simp only [execOp,hop,hu,Instr.loadAt,Instr.sureAddr,Sem.run_bind,Sem.run_pure,Result.andThen_ok,this]
     simp only [if_true]
     exact .d (.agg u2)
    | false=>
     have hs1:=hs rfl
     obtain ⟨d,rfl⟩:∃ d,ds=[d]:=List.length_eq_one_iff.1 (by omega)
     cases u2 with
     | cons o1 o2 o3=>
      cases o3
      rename_i v
      have:=Qen hT (w:=C.w) (b:=a0) (off:=Qdx) hag hi [v] (by simp) hm v (fun _=>rfl)
      simp only [Bool.false_eq_true,if_false] at this
      refine ⟨v,C,st, ?_,hC,_,Qcd, ?_⟩
      ·simp only [execOp,hop,hu,Instr.loadAt,Instr.sureAddr,Sem.run_bind,Sem.run_pure,Result.andThen_ok,this]
      exact .d o2
   cases e1
  cases e1
 cases e1
section
variable {C:Wp} {α:Type} {e:α->List DV} {he:∀ x,NLs (e x)} {ty:TypeId} {dom:List Nat} {m m':Nat->α} {id a:Nat} {w':World}
structure Qop (X:Ctx) (C:Wp) (id a:Nat) (dom:List Nat) (w':World):Prop where
 mem:a∈dom
 os:w'.os=C.w.os
 tape:w'.tape=C.w.tape
 output:w'.output=C.w.output/\C.w.drawn<=w'.drawn
 size:w'.heap.size=C.w.heap.size
 other:∀ k,k≠a->w'.heap[k]? = C.w.heap[k]?
 shape:∀ cs ty,C.w.heap[a]? = some (.cells cs ty (0,0))->∃ cs',w'.heap[a]? = some (.cells cs' ty (0,0))/\cs'.size=cs.size
theorem Qk6 (h:Xp X C) (hr:C.rows[id]? = some (.obj (arO e he ty dom m))) (t:Qop X C id a dom w') {i:Nat} {n:Option Nat} {s:Row} (ne:id≠i) (h1:C.μ[i]? = some n) (h2:C.rows[i]? = some s) (hs:s≠.gone):
  (∀ k,n=some k->w'.heap[k]? = C.w.heap[k]?)/\∀ c∈s.ext C.w n,w'.heap[c]? = C.w.heap[c]?:=by
 obtain ⟨ob,hμ⟩:=h.Qd8 hr
 refine ⟨fun k ek=>t.other k ?_,fun c hc=>t.other c ?_⟩
 ·rintro rfl
  exact ne (h.Qe4 hμ h1 hr h2 rfl hs (.inr t.mem) (.inl ek))
 rintro rfl
 exact ne (h.Qe4 hμ h1 hr h2 rfl hs (.inr t.mem) (.inr hc))
theorem Wao (h:Xp X C) (hr:C.rows[id]? = some (.obj (arO e he ty dom m))) (t:Qop X C id a dom w') {c:Nat} (hc:(C.Zw id (.obj (arO e he ty dom m')) w').live c):C.live c:=by
 obtain ⟨i,n,s,h1,h2,h3,h4⟩:=hc
 simp only [Wp.Zw] at h1 h2 h4
 rcases (Jr (List.getElem?_eq_some_iff.1 hr).1).1 h2 with ⟨rfl,rfl⟩ | ⟨ne,h2⟩
 ·exact ⟨id,n,_,h1,hr,rfl,h4⟩
 obtain ⟨q1,q2⟩:=Qk6 h hr t ne h1 h2 (by rintro rfl;cases h3)
 exact ⟨i,n,s,h1,h2,h3,(Row.Qgt s q1 q2).1 h4⟩
theorem Qwg (h:Xp X C) (hr:C.rows[id]? = some (.obj (arO e he ty dom m))) (t:Qop X C id a dom w'):Ev X C (C.Zw id (.obj (arO e he ty dom m')) w'):=by
 obtain ⟨ob,hμ⟩:=h.Qd8 hr
 exact ⟨Nat.le_of_eq t.size.symm,fun k _ hl=>t.other k (fun ek=>hl (ek▸⟨id,ob,_,hμ,hr,rfl,.inr t.mem⟩)),fun k _ hl hk=>hl (Wao h hr t hk),
  fun k cs ty hc=>by
   by_cases ek:k=a
   ·subst ek;exact t.shape cs ty hc
   exact ⟨cs,(t.other k ek).trans hc,rfl⟩,fun _ _ hx=>hx⟩
theorem Wd4 (h:Xp X C) (hr:C.rows[id]? = some (.obj (arO e he ty dom m))) (t:Qop X C id a dom w') (Yo:∀ ob,C.μ[id]? = some ob->(arO e he ty dom m').rel w' ((C.Zw id (.obj (arO e he ty dom m')) w').ok X) ob):Xp X (C.Zw id (.obj (arO e he ty dom m')) w'):=by
 have ev:=Qwg (m':=m') h hr t
 obtain ⟨ob0,hμ0⟩:=h.Qd8 hr
 have hlt:=(List.getElem?_eq_some_iff.1 hr).1
 have hold:∀ {i c:Nat} {n:Option Nat} {s:Row},(C.Zw id (.obj (arO e he ty dom m')) w').μ[i]? = some n->(C.Zw id (.obj (arO e he ty dom m')) w').rows[i]? = some s->s≠.gone->∃ s0,C.μ[i]? = some n/\C.rows[i]? = some s0/\s0≠.gone/\s.ext w' n=s0.ext C.w n/\(s.live=true->s0.live=true):=by
  intro i c n s h1 h2 hg
  simp only [Wp.Zw] at h1 h2
  rcases (Jr hlt).1 h2 with ⟨rfl,rfl⟩ | ⟨ne,h2⟩
  ·exact ⟨_,h1,hr,by simp,rfl,fun _=>rfl⟩
  obtain ⟨q1,q2⟩:=Qk6 h hr t ne h1 h2 hg
  exact ⟨s,h1,h2,hg,Row.Qb5 s q1 q2,fun hl=>hl⟩
 have hw:(C.Zw id (.obj (arO e he ty dom m')) w').w=w':=rfl
 refine ⟨by simp [Wp.Zw,h.len],t.os.trans h.os,t.tape.trans h.tape,⟨t.output.1.trans h.output.1,Nat.le_trans h.output.2 t.output.2⟩,by rw [hw,t.size];exact h.size, ?_, ?_,h.first, ?_, ?_, ?_, ?_, ?_⟩
 ·intro k hk ho
  rw [<- h.keep k hk ho]
  refine t.other k ?_
  rintro rfl
  rcases (h.Qbh id ob0 k _ hμ0 hr t.mem).1 with h1 | h1
  ·exact ho h1
  omega
 ·intro k cs ty hc
  obtain ⟨cs',h1,h2⟩:=h.shape k cs ty hc
  obtain ⟨cs2,h3,h4⟩:=ev.shape k cs' ty h1
  exact ⟨cs2,h3,h4.trans h2⟩
 ·intro i k hk
  have:=h.place i k hk
  exact ⟨this.1,by rw [hw,t.size];exact this.2⟩
 ·intro i j k p q h1 h2 h3 h4 h5 h6
  obtain ⟨p0,a1,a2,a3,a4,a5⟩:=hold (c:=0) h1 h3 (by rintro rfl;cases h5)
  obtain ⟨q0,b1,b2,b3,b4,b5⟩:=hold (c:=0) h2 h4 h6
  exact h.apart i j k p0 q0 a1 b1 a2 b2 (a5 h5) b3
 ·intro i n c s h1 h2 h3
  obtain ⟨s0,a1,a2,a3,a4,a5⟩:=hold (c:=0) h1 h2 (by rintro rfl;cases h3)
  rw [hw,a4] at h3
  have:=h.Qbh i n c s0 a1 a2 h3
  exact ⟨this.1,by rw [hw,t.size];exact this.2⟩
 ·intro i j n n' c p q h1 h2 h3 h4 h5 h6
  obtain ⟨p0,a1,a2,a3,a4,a5⟩:=hold (c:=0) h1 h3 (by rintro rfl;cases h5)
  obtain ⟨q0,b1,b2,b3,b4,b5⟩:=hold (c:=0) h2 h4 h6
  rw [hw,a4] at h5
  rw [hw,b4]
  exact h.Qa0 i j n n' c p0 q0 a1 b1 a2 b2 h5 b3
 intro i ob s h1 h2
 simp only [Wp.Zw] at h1 h2
 rcases (Jr hlt).1 h2 with ⟨rfl,rfl⟩ | ⟨ne,h2⟩
 ·cases ob<;>exact Yo _ h1
 by_cases hs:s=.gone
 ·subst hs;cases ob<;>trivial
 exact (h.rel i ob s h1 h2).mono ev.ok ev.same ev.pre ev.shape (Qk6 h hr t ne h1 h2 hs).1 (Qk6 h hr t ne h1 h2 hs).2
end
def Wa6 (T:Tab) (st:St) (k:List Item):Option (Nat × Nat × Nat × List DV × List Item):=
 match Qe3 st k with
 | some (o,k')=>
  match o.op with
  | .store t x y=>
   match T.info.lookup t,Qw4 st x,valOf st.tm y with
   | some (s,_,_),some (a,off),some v=>
    match Qie (cellsOf v) with
    | some ds=>bif Nat.beq ds.length s && !Qh7 v && o.dst.isNone then some (a,off,s,ds,k') else none
    | none=>none
   | _,_,_=>none
  | _=>none
 | none=>none
theorem Whb (hT:Xo X.P T) {α:Type} {e:α->List DV} {he:∀ x,NLs (e x)} {ty:TypeId} {dom:List Nat} {m:Nat->α} (id:Nat) {a off s:Nat} {ds:List DV} (y:α) (e1:Wa6 T st k=some (a,off,s,ds,k'))
  (hr:st.rows[id]? = some (.obj (arO e he ty dom m))) (ha:a∈dom) (hl:off+s<=(e (m a)).length) (hd:e y=(e (m a)).take off ++ ds ++ (e (m a)).drop (off+s))
  (hs:st'={ st with rows:=st.rows.set id (.obj (arO e he ty dom (upd m a y))) }) (h:AK X f k' Q st'):AK X f k Q st:=by
 subst hs
 unfold Wa6 at e1
 split at e1
 ·rename_i o k3 Qe7
  split at e1
  ·rename_i t x y' hop
   split at e1
   ·rename_i s0 by' z a0 Qdx v hi hx hy
    split at e1
    ·rename_i ds0 hds
     cases hb:(Nat.beq ds0.length s0 && !Qh7 v && o.dst.isNone) with
     | false=>rw [hb] at e1;cases e1
     | true=>
      rw [hb] at e1
      simp only [cond_true,Option.some.injEq,Prod.mk.injEq] at e1
      obtain ⟨rfl,rfl,rfl,rfl,rfl⟩:=e1
      simp only [Bool.and_eq_true,Bool.not_eq_true',Option.isNone_iff_eq_none] at hb
      obtain ⟨⟨b1,b3⟩,b4⟩:=hb
      have b1:=Nat.eq_of_beq_eq_true b1
      refine Qmq Qe7 b4 h fun a' C hC=>?_
      have hu:=Qw5 hC hx
      have Qbv:C.rows[id]? = some (.obj (arO e he ty dom m)):=by rw [hC.rows];exact hr
      obtain ⟨vs,r1,r2⟩:=Qv8 hC.rel Qbv ha
      have hv:=Qhl (hC.val _ _ hy) (Qjz b3)
      rw [Qjo hds] at hv
      have hv:=hv.toD
      obtain ⟨v0,hv0⟩:∃ v,a'.eval y'=v:=⟨_,rfl⟩
      rw [hv0] at hv
      have hvl:v0.cells.toList.length=s0:=by rw [<- hv.length,b1]
      have hlen:=r2.length
      have hst:=run_storeCells_at X.P a0 Qdx ty v0.cells.toList 0 vs.toArray C.w r1 (by rw [List.size_toArray];omega) hv.one
      let us:Array Value:=(vs.take Qdx ++ v0.cells.toList ++ vs.drop (Qdx+v0.cells.toList.length)).toArray
      have hus:us.size=vs.toArray.size:=by
       simp only [us,List.size_toArray,List.length_append,List.length_take,List.length_drop,hvl]
       omega
      have tu:Qop X C id a0 dom (C.w.setRow a0 us):=⟨ha,rfl,rfl,⟨rfl,Nat.le_refl _⟩,by simp [World.setRow],fun k hk=>setRow_other _ _ _ _ hk,fun cs ty' hc=>by
       rw [r1] at hc
       injection hc with hc
       injection hc with e1 e2
       subst e1
       subst e2
       exact ⟨us,setRow_heap _ _ _ _ _ _ r1,hus⟩⟩
      have ev:=Qwg (m':=upd m a0 y) hC.rel Qbv tu
      obtain ⟨ob0,hμ0⟩:=hC.rel.Qd8 Qbv
      have hold:(arO e he ty dom m).rel C.w (C.ok X) ob0:=by
       have:=hC.rel.rel id ob0 _ hμ0 Qbv
       cases ob0<;>exact this
      have Yo:Xp X (C.Zw id (.obj (arO e he ty dom (upd m a0 y))) (C.w.setRow a0 us)):=by
       refine Wd4 hC.rel Qbv tu fun ob hob=>⟨hold.1,fun b hbm=>?_⟩
       by_cases eb:b=a0
       ·subst eb
        refine ⟨vs.take Qdx ++ v0.cells.toList ++ vs.drop (Qdx+v0.cells.toList.length),setRow_heap _ _ _ _ _ _ r1, ?_⟩
        have:upd m b y b=y:=by simp [upd]
        rw [this,hd,hvl]
        exact (((r2.take Qdx).append hv).append (r2.drop (Qdx+s0))).mono ev.ok ev.same
       obtain ⟨ws,q1,q2⟩:=hold.2 b hbm
       refine ⟨ws,(tu.other b eb).trans q1, ?_⟩
       have:upd m a0 y b=m b:=by simp [upd,eb]
       rw [this]
       exact q2.mono ev.ok ev.same
      refine ⟨C.Zw id (.obj (arO e he ty dom (upd m a0 y))) (C.w.setRow a0 us), ?_, ?_⟩
      ·have hs:=hT.size hi (w:=C.w)
       have h1:(Instr.storeAt t (a'.eval x) (a'.eval y')).run X.P C.w=.ok () (C.w.setRow a0 us):=by
        rw [hu,hv0]
        simp only [Instr.storeAt,Instr.sureAddr,storeVar,Sem.run_bind,Sem.run_pure,Result.andThen_ok,hs]
        rw [if_neg (by simp at hvl;simp [hvl])]
        simpa [us] using hst
       simp only [execOp,hop]
       rw [Sem.run_bind,h1]
       rfl
      have:=hC.Qdl ev Yo
      simpa [Wp.Zw,hC.rows] using this
    cases e1
   cases e1
  cases e1
 cases e1
theorem Wbn (hT:Xo X.P T) (S:List Nat) {α:Type} {e:α->List DV} {he:∀ x,NLs (e x)} {ty:TypeId} {dom:List Nat} {m:Nat->α} (id:Nat) {a off s:Nat} {ds:List DV} (y:α) (e1:Wa6 T st k=some (a,off,s,ds,k'))
  (hr:st.rows[id]? = some (.obj (arO e he ty dom m))) (ha:a∈dom) (hl:off+s<=(e (m a)).length) (hd:e y=(e (m a)).take off ++ ds ++ (e (m a)).drop (off+s))
  (hs:St.only S { st with rows:=st.rows.set id (.obj (arO e he ty dom (upd m a y))) }=st') (h:AK X f k' Q st'):AK X f k Q st:=by
 subst hs
 exact Whb hT id y e1 hr ha hl hd rfl (Qed S h)
theorem Wbd {α:Type} {e:α->List DV} {he:∀ x,NLs (e x)} {ty:TypeId} {dom:List Nat} {m:Nat->α} (i id:Nat) (y:α) (hne:i≠id) (hi:st.rows[i]? = some (.box ty ((e y).map .d))) (hr:st.rows[id]? = some (.obj (arO e he ty dom m)))
  (h:∀ a,a ∉ dom->∃ st',(∀ j av,st'.tm.lookup j=some av->∃ av0,st.tm.lookup j=some av0/\(av=av0\/(∃ off,av0=.ptr i 0 0 off/\av=.d (pA a off))\/∃ t off,av0=.ifc t (.ptr i 0 0 off)/\av=.d (.ifc t (pA a off))))/\st'.nt=st.nt/\st'.rows=(st.rows.set i .gone).set id (.obj (arO e he ty (dom ++ [a]) (upd m a y)))/\AK X f k Q st'):AK X f k Q st:=by
 intro a' C hC b cs hb hk
 have Yo:=hC.rel
 have hiC:C.rows[i]? = some (.box ty ((e y).map .d)):=by rw [hC.rows];exact hi
 have hrC:C.rows[id]? = some (.obj (arO e he ty dom m)):=by rw [hC.rows];exact hr
 obtain ⟨obi,hμi⟩:=Yo.Qd8 hiC
 obtain ⟨ob0,hμ0⟩:=Yo.Qd8 hrC
 have hbox:=Yo.rel i obi _ hμi hiC
 obtain ⟨a,rfl⟩:∃ a,obi=some a:=by
  cases obi with
  | none=>exact hbox.elim
  | some a=>exact ⟨a,rfl⟩
 obtain ⟨vs,c1,c2⟩:=hbox
 have hold:(arO e he ty dom m).rel C.w (C.ok X) ob0:=by
  have:=Yo.rel id ob0 _ hμ0 hrC
  cases ob0<;>exact this
 have hna:a ∉ dom:=fun ha=>hne (Yo.Qe4 hμi hμ0 hiC hrC rfl (by simp) (.inl rfl) (.inr ha))
 obtain ⟨st',t1,t2,t3,t4⟩:=h a hna
 have hlti:=(List.getElem?_eq_some_iff.1 hiC).1
 have hltr:=(List.getElem?_eq_some_iff.1 hrC).1
 let o':Qip:=arO e he ty (dom ++ [a]) (upd m a y)
 let C':Wp:=⟨C.μ,(C.rows.set i .gone).set id (.obj o'),C.w⟩
 have Qbv:∀ {j:Nat} {s:Row},C'.rows[j]? = some s->s≠.gone->(j=id/\s=.obj o')\/(j≠id/\j≠i/\C.rows[j]? = some s):=by
  intro j s h2 hg
  simp only [C'] at h2
  rcases (Jr (by simpa using hltr)).1 h2 with ⟨rfl,rfl⟩ | ⟨n1,h2⟩
  ·exact .inl ⟨rfl,rfl⟩
  rcases (Jr hlti).1 h2 with ⟨rfl,rfl⟩ | ⟨n2,h2⟩
  ·exact absurd rfl hg
  exact .inr ⟨Ne.symm n1,Ne.symm n2,h2⟩
 have Qho:∀ {c:Nat},C'.live c->C.live c:=by
  rintro c ⟨j,n,s,h1,h2,h3,h4⟩
  rcases Qbv h2 (by rintro rfl;cases h3) with ⟨rfl,rfl⟩ | ⟨n1,n2,h2⟩
  ·have h1':C.μ[j]? = some n:=h1
   rw [hμ0] at h1'
   injection h1' with h1'
   subst h1'
   rcases h4 with h4 | h4
   ·exact ⟨j,_,_,hμ0,hrC,rfl,.inl h4⟩
   rcases List.mem_append.1 h4 with h4 | h4
   ·exact ⟨j,_,_,hμ0,hrC,rfl,.inr h4⟩
   rw [List.mem_singleton.1 h4]
   exact ⟨i,_,_,hμi,hiC,rfl,.inl rfl⟩
  exact ⟨j,n,s,h1,h2,h3,h4⟩
 have ev:Ev X C C':=⟨Nat.le_refl _,fun _ _ _=>rfl,fun c _ hl hk=>hl (Qho hk),fun _ _ _ k=>⟨_,k,rfl⟩,fun _ _ hx=>hx⟩
 have hC':Xp X C':=by
  refine ⟨by simp [C',Yo.len],Yo.os,Yo.tape,Yo.output,Yo.size,Yo.keep,Yo.shape,Yo.first,Yo.place, ?_, ?_, ?_, ?_⟩
  ·intro p q c r s h1 h2 h3 h4 h5 h6
   rcases Qbv h3 (by rintro rfl;cases h5) with ⟨e1,e2⟩ | ⟨n1,n2,k3⟩<;>rcases Qbv h4 h6 with ⟨e3,e4⟩ | ⟨m1,m2,k4⟩
   ·rw [e1,e3]
   ·subst e1;subst e2
    exact Yo.apart _ q c _ s h1 h2 hrC k4 rfl h6
   ·subst e3;subst e4
    exact Yo.apart p _ c r _ h1 h2 k3 hrC h5 (by simp)
   exact Yo.apart p q c r s h1 h2 k3 k4 h5 h6
  ·intro p n c r h1 h2 h3
   rcases Qbv h2 (by rintro rfl;cases h3) with ⟨e1,e2⟩ | ⟨n1,n2,k2⟩
   ·subst e1;subst e2
    rcases List.mem_append.1 h3 with h3 | h3
    ·exact Yo.Qbh _ n c _ h1 hrC h3
    rw [List.mem_singleton.1 h3]
    exact Yo.place i a hμi
   exact Yo.Qbh p n c r h1 k2 h3
  ·intro p q n n' c r s h1 h2 h3 h4 h5 h6
   rcases Qbv h3 (by rintro rfl;cases h5) with ⟨e1,e2⟩ | ⟨n1,n2,k3⟩
   ·subst e1;subst e2
    rcases List.mem_append.1 h5 with k5 | k5
    ·rcases Qbv h4 h6 with ⟨e3,e4⟩ | ⟨m1,m2,k4⟩
     ·subst e3;subst e4
      exact ⟨(Yo.Qa0 _ _ n n' c _ _ h1 h2 hrC hrC k5 (by simp)).1,fun _=>rfl⟩
     exact Yo.Qa0 _ q n n' c _ s h1 h2 hrC k4 k5 h6
    have ec:=List.mem_singleton.1 k5
    subst ec
    rcases Qbv h4 h6 with ⟨e3,e4⟩ | ⟨m1,m2,k4⟩
    ·refine ⟨fun en=>?_,fun _=>e3.symm⟩
     subst e3
     exact hne (Yo.Qe4 hμi h2 hiC hrC rfl (by simp) (.inl rfl) (.inl en))
    refine ⟨fun en=>?_,fun h7=>?_⟩
    ·exact m2 (Yo.Qe4 hμi h2 hiC k4 rfl h6 (.inl rfl) (.inl en)).symm
    exact absurd (Yo.Qe4 hμi h2 hiC k4 rfl h6 (.inl rfl) (.inr h7)).symm m2
   rcases Qbv h4 h6 with ⟨e3,e4⟩ | ⟨m1,m2,k4⟩
   ·subst e3;subst e4
    have h8:=Yo.Qa0 p _ n n' c r _ h1 h2 k3 hrC h5 (by simp)
    refine ⟨h8.1,fun h7=>?_⟩
    rcases List.mem_append.1 h7 with h7 | h7
    ·exact h8.2 h7
    have ec:=List.mem_singleton.1 h7
    subst ec
    exact absurd (Yo.Qe4 h1 hμi k3 hiC (Row.Qrl h5) (by simp) (.inr h5) (.inl rfl)) n2
   exact Yo.Qa0 p q n n' c r s h1 h2 k3 k4 h5 h6
  intro j o s h1 h2
  by_cases hg:s=.gone
  ·subst hg;cases o<;>trivial
  rcases Qbv h2 hg with ⟨e5,e6⟩ | ⟨n1,n2,h2⟩
  ·subst e6
   have key:o'.rel C'.w (C'.ok X) o:=by
    refine ⟨List.nodup_append.2 ⟨hold.1,by simp,fun x hx z hz=>by rw [List.mem_singleton.1 hz];rintro rfl;exact hna hx⟩,fun c hc=>?_⟩
    rcases List.mem_append.1 hc with k1 | k1
    ·obtain ⟨ws,q1,q2⟩:=hold.2 c k1
     have:upd m a y c=m c:=by
      have:c≠a:=by rintro rfl;exact hna k1
      simp [upd,this]
     refine ⟨ws,q1, ?_⟩
     rw [this]
     exact q2.mono ev.ok ev.same
    have ec:=List.mem_singleton.1 k1
    rw [ec]
    refine ⟨vs,c1, ?_⟩
    have:upd m a y a=y:=by simp [upd]
    rw [this]
    exact c2.toD.mono ev.ok ev.same
   cases o<;>exact key
  exact (Yo.rel j o s h1 h2).mono ev.ok ev.same ev.pre ev.shape (fun _ _=>rfl) (fun _ _=>rfl)
 refine t4 a' C' ⟨hC',by rw [t3,<- hC.rows],hC.defers,hC.nt.trans t2.symm,fun j av e2=>?_⟩ b cs hb hk
 obtain ⟨av0,e3,e4⟩:=t1 j av e2
 obtain ⟨v,q1,q2⟩:=hC.tm j av0 e3
 refine ⟨v,q1, ?_⟩
 rcases e4 with rfl | ⟨off,rfl,rfl⟩ | ⟨t,off,rfl,rfl⟩
 ·exact ev.avr q2
 ·obtain ⟨b2,hb2,rfl⟩:=q2.Qgm
  rw [hμi] at hb2
  injection hb2 with hb2
  injection hb2 with hb2
  subst hb2
  rw [Nat.zero_mul,Nat.zero_add]
  exact .d (.v rfl)
 cases q2 with
 | ifc q2=>
  obtain ⟨b2,hb2,rfl⟩:=q2.Qgm
  rw [hμi] at hb2
  injection hb2 with hb2
  injection hb2 with hb2
  subst hb2
  rw [Nat.zero_mul,Nat.zero_add]
  exact .d (.ifc (.v rfl))
end
end Go.Sy
set_option linter.unusedSectionVars false
namespace Go.Sy
section
variable {X:Ctx} {T:Tab} {f:FuncId} {k k':List Item} {Q:Frame->Frame->Wp->Prop} {st st':St}
end
theorem Qq6 {X:Ctx} {T:Tab} {f:FuncId} {k k':List Item} {Q:Frame->Frame->Wp->Prop} {st st':St} {α:Type} (hT:Xo X.P T) {id kk id2 by':Nat} {t e e2:TypeId} {z:List Value} {dst:Option Tmp} {fz:Bool} (enc:α->List DV) (d:α) (xs:List α) (x:α)
  (e1:Qsc st k=some (id,kk,xs.length,.own id2 kk 0 1,t,dst,k')) (hr:st.rows[id]? = some (.flat false kk e xs.length (vec enc d xs))) (hr2:st.rows[id2]? = some (.flat fz kk e2 1 (fun j=>[enc x].getD j [])))
  (ht:T.Qck.lookup t=some e) (hi:T.info.lookup e=some (kk,by',z)) (hz:Nat.beq z.length kk=true) (hk:Nat.blt 0 kk=true) (hb:(xs.length+1) * by'<=140737488355328) (Qo7:xs.length+1<=9223372036854775807)
  (Qcd:St.put { st with rows:=st.rows.set id .gone ++ [.flat false kk e (xs ++ [x]).length (vec enc d (xs ++ [x]))] } dst (.own st.rows.length kk 0 (xs ++ [x]).length)=some st') (h:AK X f k' Q st'):AK X f k Q st:=
 Qor hT (vec enc d (xs ++ [x])) e1 hr (.own hr2) ht hi hz hk (by simp) hb Qo7 Qxm Qxl Qcd h
theorem Qm0 {X:Ctx} {f:FuncId} {k:List Item} {Q:Frame->Frame->Wp->Prop} {st st':St} (S:List Nat) (e:St.only S st=st') (h:AK X f k Q st'):AK X f k Q st:=Qed S (e▸h)
end Go.Sy
