/- Objects of one type, each in a block of its own, known by their addresses: loads and stores through addresses. -/
import Derived.Test.YticmlllaimjdcaaGreatSyArr
set_option linter.unusedVariables false
set_option linter.unusedSimpArgs false
namespace Go.Sy
abbrev pA (a off:Nat):DV:=.v (.pointer (some ⟨a,off,none⟩))
def eA (a:Nat):List DV:=[pA a 0]
theorem nlA (a:Nat):NLs (eA a):=.cons (.v _) .nil
def Zf {α:Type} (e:α->List DV) (he:∀ x,NLs (e x)) (ty:TypeId) (dom:List Nat) (m:Nat->α):Ql1 where
 ext:=fun _ _=>dom
 rel:=fun w ok _=>dom.Nodup/\∀ a∈dom,∃ vs:List Value,w.heap[a]? = some (.cells vs.toArray ty (0,0))/\VRs w ok (e (m a)) vs
 Qcy:=fun _ _=>rfl
 Qgb:=fun h Jl hw _ hx=>⟨h.1,fun a ha=>by
  obtain ⟨vs,h1,h2⟩:=h.2 a ha
  exact ⟨vs,(hx a ha).trans h1,h2.mono Jl hw⟩⟩
 perm:=fun Jl h=>⟨h.1,fun a ha=>by
  obtain ⟨vs,h1,h2⟩:=h.2 a ha
  exact ⟨vs,h1,VRs.perm Jl h2 (he _)⟩⟩
section
variable {X:Ctx} {T:Tab} {f:FuncId} {k k':List Item} {Q:Frame->Frame->Wp->Prop} {st st':St}
def Qxr (st:St) (x:Operand):Option (Nat × Nat):=
 match valOf st.tm x with
 | some (.d (.v (.pointer (some ⟨a,off,none⟩))))=>some (a,off)
 | _=>none
theorem Whi {st:St} {x:Operand} {a off:Nat} (h:Qxr st x=some (a,off)):valOf st.tm x=some (.d (pA a off)):=by
 unfold Qxr at h
 split at h
 ·rename_i a' off' e
  injection h with h
  injection h with h1 h2
  subst h1;subst h2
  exact e
 cases h
def Wbn (T:Tab) (st:St) (k:List Item):Option (Nat × Nat × Nat × Bool × Option Tmp × List Item):=
 match Qgq st k with
 | some (o,k')=>
  match o.op with
  | .load t x=>
   match T.Qlg.lookup t,T.info.lookup t,Qxr st x with
   | some agg,some (s,_,_),some (a,off)=>some (a,off,s,agg,o.dst,k')
   | _,_,_=>none
  | _=>none
 | none=>none
theorem Qxs {a':Act} {C:Wp} (hC:Sim X st a' C) {x:Operand} {a off:Nat} (h:Qxr st x=some (a,off)):a'.eval x=.pointer (some ⟨a,off,none⟩):=by
 have:=hC.val _ _ (Whi h)
 generalize a'.eval x=v at this ⊢
 cases this with
 | d r=>cases r;rfl
theorem Wc4 {C:Wp} (h:Xz X C) {α:Type} {e:α->List DV} {he:∀ x,NLs (e x)} {ty:TypeId} {dom:List Nat} {m:Nat->α} {id a:Nat} (hr:C.rows[id]? = some (.obj (Zf e he ty dom m))) (ha:a∈dom):
  ∃ vs:List Value,C.w.heap[a]? = some (.cells vs.toArray ty (0,0))/\VRs C.w (C.ok X) (e (m a)) vs:=by
 obtain ⟨ob,hμ⟩:=h.Qg3 hr
 have:=h.rel id ob _ hμ hr
 cases ob<;>exact this.2 a ha
theorem Qtz (hT:Xl X.P T) {α:Type} {e:α->List DV} {he:∀ x,NLs (e x)} {ty:TypeId} {dom:List Nat} {m:Nat->α} (id:Nat) {a off s:Nat} {agg:Bool} {dst:Option Tmp} (ds:List DV)
  (e1:Wbn T st k=some (a,off,s,agg,dst,k')) (hr:st.rows[id]? = some (.obj (Zf e he ty dom m))) (ha:a∈dom) (hd:((e (m a)).drop off).take s=ds) (hl:ds.length=s) (hs:agg=false->s=1)
  (Qb9:St.put st dst (if agg then .d (.agg ds) else .d (ds.getD 0 dv0))=some st') (h:AK X f k' Q st'):AK X f k Q st:=by
 unfold Wbn at e1
 split at e1
 ·rename_i o k3 Qge
  split at e1
  ·rename_i t x hop
   split at e1
   ·rename_i agg' s' by' z a0 Qd5 hag hi hx
    simp only [Option.some.injEq,Prod.mk.injEq] at e1
    obtain ⟨rfl,rfl,rfl,rfl,rfl,rfl⟩:=e1
    refine Qk7 Qge h fun a' C hC=>?_
    have hu:=Qxs hC hx
    obtain ⟨vs,h1,h2⟩:=Wc4 hC.rel (by rw [hC.rows];exact hr) ha
    have u2:=(h2.drop Qd5).take s'
    rw [hd] at u2
    generalize hus:(vs.drop Qd5).take s'=us at u2
    have hm:∀ (j:Nat) v,us[j]? = some v->C.w.cell? ⟨a0,Qd5+j,none⟩=some v:=fun j v hj=>by
     rw [cell_of_row _ _ _ _ _ _ h1]
     have hjs:j < s':=by
      have:=(List.getElem?_eq_some_iff.1 hj).1
      rw [<- u2.length,hl] at this
      exact this
     rw [<- hus,List.getElem?_take_of_lt hjs,List.getElem?_drop] at hj
     simpa using hj
    cases agg' with
    | true=>
     have:=Qew hT (w:=C.w) (b:=a0) (off:=Qd5) hag hi us (fun _=>by rw [<- u2.length,hl]) hm undef (by simp)
     simp only [if_true] at this
     refine ⟨.agg us.toArray,C,st, ?_,hC,_,Qb9, ?_⟩
     ·simp only [execOp,hop,hu,Instr.loadAt,Instr.sureAddr,Sem.run_bind,Sem.run_pure,Result.andThen_ok,this]
     simp only [if_true]
     exact .d (.agg u2)
    | false=>
     have hs1:=hs rfl
     obtain ⟨d,rfl⟩:∃ d,ds=[d]:=List.length_eq_one_iff.1 (by omega)
     cases u2 with
     | cons o1 o2 o3=>
      cases o3
      rename_i v
      have:=Qew hT (w:=C.w) (b:=a0) (off:=Qd5) hag hi [v] (by simp) hm v (fun _=>rfl)
      simp only [Bool.false_eq_true,if_false] at this
      refine ⟨v,C,st, ?_,hC,_,Qb9, ?_⟩
      ·simp only [execOp,hop,hu,Instr.loadAt,Instr.sureAddr,Sem.run_bind,Sem.run_pure,Result.andThen_ok,this]
      exact .d o2
   cases e1
  cases e1
 cases e1
theorem Qwr (hT:Xl X.P T) (S:List Nat) {α:Type} {e:α->List DV} {he:∀ x,NLs (e x)} {ty:TypeId} {dom:List Nat} {m:Nat->α} (id:Nat) {a off s:Nat} {agg:Bool} {dst:Option Tmp} (ds:List DV)
  (e1:Wbn T st k=some (a,off,s,agg,dst,k')) (hr:st.rows[id]? = some (.obj (Zf e he ty dom m))) (ha:a∈dom) (hd:((e (m a)).drop off).take s=ds) (hl:ds.length=s) (hs:agg=false->s=1)
  (Qb9:(St.put st dst (if agg then .d (.agg ds) else .d (ds.getD 0 dv0))).map (St.only S)=some st') (h:AK X f k' Q st'):AK X f k Q st:=by
 obtain ⟨s0,h1,rfl⟩:=Option.map_eq_some_iff.1 Qb9
 exact Qtz hT id ds e1 hr ha hd hl hs h1 (Qd1 S h)
section
variable {C:Wp} {α:Type} {e:α->List DV} {he:∀ x,NLs (e x)} {ty:TypeId} {dom:List Nat} {m m':Nat->α} {id a:Nat} {w':World}
structure Qpn (X:Ctx) (C:Wp) (id a:Nat) (dom:List Nat) (w':World):Prop where
 mem:a∈dom
 os:w'.os=C.w.os
 tape:w'.tape=C.w.tape
 output:w'.output=C.w.output/\C.w.drawn<=w'.drawn
 size:w'.heap.size=C.w.heap.size
 other:∀ k,k≠a->w'.heap[k]? = C.w.heap[k]?
 shape:∀ cs ty,C.w.heap[a]? = some (.cells cs ty (0,0))->∃ cs',w'.heap[a]? = some (.cells cs' ty (0,0))/\cs'.size=cs.size
theorem Qlu (h:Xz X C) (hr:C.rows[id]? = some (.obj (Zf e he ty dom m))) (t:Qpn X C id a dom w') {i:Nat} {n:Option Nat} {s:Row} (ne:id≠i) (h1:C.μ[i]? = some n) (h2:C.rows[i]? = some s) (hs:s≠.gone):
  (∀ k,n=some k->w'.heap[k]? = C.w.heap[k]?)/\∀ c∈s.ext C.w n,w'.heap[c]? = C.w.heap[c]?:=by
 obtain ⟨ob,hμ⟩:=h.Qg3 hr
 refine ⟨fun k ek=>t.other k ?_,fun c hc=>t.other c ?_⟩
 ·rintro rfl
  exact ne (h.Qhq hμ h1 hr h2 rfl hs (.inr t.mem) (.inl ek))
 rintro rfl
 exact ne (h.Qhq hμ h1 hr h2 rfl hs (.inr t.mem) (.inr hc))
theorem Wbr (h:Xz X C) (hr:C.rows[id]? = some (.obj (Zf e he ty dom m))) (t:Qpn X C id a dom w') {c:Nat} (hc:(C.Qaa id (.obj (Zf e he ty dom m')) w').live c):C.live c:=by
 obtain ⟨i,n,s,h1,h2,h3,h4⟩:=hc
 simp only [Wp.Qaa] at h1 h2 h4
 rcases (Qbh (List.getElem?_eq_some_iff.1 hr).1).1 h2 with ⟨rfl,rfl⟩ | ⟨ne,h2⟩
 ·exact ⟨id,n,_,h1,hr,rfl,h4⟩
 obtain ⟨q1,q2⟩:=Qlu h hr t ne h1 h2 (by rintro rfl;cases h3)
 exact ⟨i,n,s,h1,h2,h3,(Row.Qhm s q1 q2).1 h4⟩
theorem Qw3 (h:Xz X C) (hr:C.rows[id]? = some (.obj (Zf e he ty dom m))) (t:Qpn X C id a dom w'):Ev X C (C.Qaa id (.obj (Zf e he ty dom m')) w'):=by
 obtain ⟨ob,hμ⟩:=h.Qg3 hr
 exact ⟨Nat.le_of_eq t.size.symm,fun k _ hl=>t.other k (fun ek=>hl (ek▸⟨id,ob,_,hμ,hr,rfl,.inr t.mem⟩)),fun k _ hl hk=>hl (Wbr h hr t hk),
  fun k cs ty hc=>by
   by_cases ek:k=a
   ·subst ek;exact t.shape cs ty hc
   exact ⟨cs,(t.other k ek).trans hc,rfl⟩,fun _ _ hx=>hx⟩
theorem Wfk (h:Xz X C) (hr:C.rows[id]? = some (.obj (Zf e he ty dom m))) (t:Qpn X C id a dom w') (Jq:∀ ob,C.μ[id]? = some ob->(Zf e he ty dom m').rel w' ((C.Qaa id (.obj (Zf e he ty dom m')) w').ok X) ob):Xz X (C.Qaa id (.obj (Zf e he ty dom m')) w'):=by
 have ev:=Qw3 (m':=m') h hr t
 obtain ⟨ob0,hμ0⟩:=h.Qg3 hr
 have hlt:=(List.getElem?_eq_some_iff.1 hr).1
 have hold:∀ {i c:Nat} {n:Option Nat} {s:Row},(C.Qaa id (.obj (Zf e he ty dom m')) w').μ[i]? = some n->(C.Qaa id (.obj (Zf e he ty dom m')) w').rows[i]? = some s->s≠.gone->∃ s0,C.μ[i]? = some n/\C.rows[i]? = some s0/\s0≠.gone/\s.ext w' n=s0.ext C.w n/\(s.live=true->s0.live=true):=by
  intro i c n s h1 h2 hg
  simp only [Wp.Qaa] at h1 h2
  rcases (Qbh hlt).1 h2 with ⟨rfl,rfl⟩ | ⟨ne,h2⟩
  ·exact ⟨_,h1,hr,by simp,rfl,fun _=>rfl⟩
  obtain ⟨q1,q2⟩:=Qlu h hr t ne h1 h2 hg
  exact ⟨s,h1,h2,hg,Row.Qcy s q1 q2,fun hl=>hl⟩
 have hw:(C.Qaa id (.obj (Zf e he ty dom m')) w').w=w':=rfl
 refine ⟨by simp [Wp.Qaa,h.len],t.os.trans h.os,t.tape.trans h.tape,⟨t.output.1.trans h.output.1,Nat.le_trans h.output.2 t.output.2⟩,by rw [hw,t.size];exact h.size, ?_, ?_,h.first, ?_, ?_, ?_, ?_, ?_⟩
 ·intro k hk ho
  rw [<- h.keep k hk ho]
  refine t.other k ?_
  rintro rfl
  rcases (h.Qb7 id ob0 k _ hμ0 hr t.mem).1 with h1 | h1
  ·exact ho h1
  omega
 ·intro k cs ty hc
  obtain ⟨cs',h1,h2⟩:=h.shape k cs ty hc
  obtain ⟨cs2,h3,h4⟩:=ev.shape k cs' ty h1
  exact ⟨cs2,h3,h4.trans h2⟩
 ·intro i k hk
  have:=h.place i k hk
  exact ⟨this.1,by rw [hw,t.size];exact this.2⟩
 ·intro i j k p q h1 h2 h3 h4 h5 h6
  obtain ⟨p0,a1,a2,a3,a4,a5⟩:=hold (c:=0) h1 h3 (by rintro rfl;cases h5)
  obtain ⟨q0,b1,b2,b3,b4,b5⟩:=hold (c:=0) h2 h4 h6
  exact h.apart i j k p0 q0 a1 b1 a2 b2 (a5 h5) b3
 ·intro i n c s h1 h2 h3
  obtain ⟨s0,a1,a2,a3,a4,a5⟩:=hold (c:=0) h1 h2 (by rintro rfl;cases h3)
  rw [hw,a4] at h3
  have:=h.Qb7 i n c s0 a1 a2 h3
  exact ⟨this.1,by rw [hw,t.size];exact this.2⟩
 ·intro i j n n' c p q h1 h2 h3 h4 h5 h6
  obtain ⟨p0,a1,a2,a3,a4,a5⟩:=hold (c:=0) h1 h3 (by rintro rfl;cases h5)
  obtain ⟨q0,b1,b2,b3,b4,b5⟩:=hold (c:=0) h2 h4 h6
  rw [hw,a4] at h5
  rw [hw,b4]
  exact h.Qbj i j n n' c p0 q0 a1 b1 a2 b2 h5 b3
 intro i ob s h1 h2
 simp only [Wp.Qaa] at h1 h2
 rcases (Qbh hlt).1 h2 with ⟨rfl,rfl⟩ | ⟨ne,h2⟩
 ·cases ob<;>exact Jq _ h1
 by_cases hs:s=.gone
 ·subst hs;cases ob<;>trivial
 exact (h.rel i ob s h1 h2).mono ev.ok ev.same ev.pre ev.shape (Qlu h hr t ne h1 h2 hs).1 (Qlu h hr t ne h1 h2 hs).2
end
def Wcd (T:Tab) (st:St) (k:List Item):Option (Nat × Nat × Nat × List DV × List Item):=
 match Qgq st k with
 | some (o,k')=>
  match o.op with
  | .store t x y=>
   match T.info.lookup t,Qxr st x,valOf st.tm y with
   | some (s,_,_),some (a,off),some v=>
    match Qi4 (cellsOf v) with
    | some ds=>bif Nat.beq ds.length s && !Qir v && o.dst.isNone then some (a,off,s,ds,k') else none
    | none=>none
   | _,_,_=>none
  | _=>none
 | none=>none
theorem Qyt (hT:Xl X.P T) {α:Type} {e:α->List DV} {he:∀ x,NLs (e x)} {ty:TypeId} {dom:List Nat} {m:Nat->α} (id:Nat) {a off s:Nat} {ds:List DV} (y:α) (e1:Wcd T st k=some (a,off,s,ds,k'))
  (hr:st.rows[id]? = some (.obj (Zf e he ty dom m))) (ha:a∈dom) (hl:off+s<=(e (m a)).length) (hd:e y=(e (m a)).take off ++ ds ++ (e (m a)).drop (off+s))
  (hs:st'={ st with rows:=st.rows.set id (.obj (Zf e he ty dom (upd m a y))) }) (h:AK X f k' Q st'):AK X f k Q st:=by
 subst hs
 unfold Wcd at e1
 split at e1
 ·rename_i o k3 Qge
  split at e1
  ·rename_i t x y' hop
   split at e1
   ·rename_i s0 by' z a0 Qd5 v hi hx hy
    split at e1
    ·rename_i ds0 hds
     cases hb:(Nat.beq ds0.length s0 && !Qir v && o.dst.isNone) with
     | false=>rw [hb] at e1;cases e1
     | true=>
      rw [hb] at e1
      simp only [cond_true,Option.some.injEq,Prod.mk.injEq] at e1
      obtain ⟨rfl,rfl,rfl,rfl,rfl⟩:=e1
      simp only [Bool.and_eq_true,Bool.not_eq_true',Option.isNone_iff_eq_none] at hb
      obtain ⟨⟨b1,b3⟩,b4⟩:=hb
      have b1:=Nat.eq_of_beq_eq_true b1
      refine Qrs Qge b4 h fun a' C hC=>?_
      have hu:=Qxs hC hx
      have Qck:C.rows[id]? = some (.obj (Zf e he ty dom m)):=by rw [hC.rows];exact hr
      obtain ⟨vs,r1,r2⟩:=Wc4 hC.rel Qck ha
      have hv:=Qhv (hC.val _ _ hy) (Qkt b3)
      rw [Qkn hds] at hv
      have hv:=hv.toD
      obtain ⟨v0,hv0⟩:∃ v,a'.eval y'=v:=⟨_,rfl⟩
      rw [hv0] at hv
      have hvl:v0.cells.toList.length=s0:=by rw [<- hv.length,b1]
      have hlen:=r2.length
      have hst:=run_storeCells_at X.P a0 Qd5 ty v0.cells.toList 0 vs.toArray C.w r1 (by rw [List.size_toArray];omega) hv.one
      let us:Array Value:=(vs.take Qd5 ++ v0.cells.toList ++ vs.drop (Qd5+v0.cells.toList.length)).toArray
      have hus:us.size=vs.toArray.size:=by
       simp only [us,List.size_toArray,List.length_append,List.length_take,List.length_drop,hvl]
       omega
      have tu:Qpn X C id a0 dom (C.w.setRow a0 us):=⟨ha,rfl,rfl,⟨rfl,Nat.le_refl _⟩,by simp [World.setRow],fun k hk=>setRow_other _ _ _ _ hk,fun cs ty' hc=>by
       rw [r1] at hc
       injection hc with hc
       injection hc with e1 e2
       subst e1
       subst e2
       exact ⟨us,setRow_heap _ _ _ _ _ _ r1,hus⟩⟩
      have ev:=Qw3 (m':=upd m a0 y) hC.rel Qck tu
      obtain ⟨ob0,hμ0⟩:=hC.rel.Qg3 Qck
      have hold:(Zf e he ty dom m).rel C.w (C.ok X) ob0:=by
       have:=hC.rel.rel id ob0 _ hμ0 Qck
       cases ob0<;>exact this
      have Jq:Xz X (C.Qaa id (.obj (Zf e he ty dom (upd m a0 y))) (C.w.setRow a0 us)):=by
       refine Wfk hC.rel Qck tu fun ob hob=>⟨hold.1,fun b hbm=>?_⟩
       by_cases eb:b=a0
       ·subst eb
        refine ⟨vs.take Qd5 ++ v0.cells.toList ++ vs.drop (Qd5+v0.cells.toList.length),setRow_heap _ _ _ _ _ _ r1, ?_⟩
        have:upd m b y b=y:=by simp [upd]
        rw [this,hd,hvl]
        exact (((r2.take Qd5).append hv).append (r2.drop (Qd5+s0))).mono ev.ok ev.same
       obtain ⟨ws,q1,q2⟩:=hold.2 b hbm
       refine ⟨ws,(tu.other b eb).trans q1, ?_⟩
       have:upd m a0 y b=m b:=by simp [upd,eb]
       rw [this]
       exact q2.mono ev.ok ev.same
      refine ⟨C.Qaa id (.obj (Zf e he ty dom (upd m a0 y))) (C.w.setRow a0 us), ?_, ?_⟩
      ·have hs:=hT.size hi (w:=C.w)
       have h1:(Instr.storeAt t (a'.eval x) (a'.eval y')).run X.P C.w=.ok () (C.w.setRow a0 us):=by
        rw [hu,hv0]
        simp only [Instr.storeAt,Instr.sureAddr,storeVar,Sem.run_bind,Sem.run_pure,Result.andThen_ok,hs]
        rw [if_neg (by simp at hvl;simp [hvl])]
        simpa [us] using hst
       simp only [execOp,hop]
       rw [Sem.run_bind,h1]
       rfl
      have:=hC.Qf6 ev Jq
      simpa [Wp.Qaa,hC.rows] using this
    cases e1
   cases e1
  cases e1
 cases e1
theorem Wc1 (hT:Xl X.P T) (S:List Nat) {α:Type} {e:α->List DV} {he:∀ x,NLs (e x)} {ty:TypeId} {dom:List Nat} {m:Nat->α} (id:Nat) {a off s:Nat} {ds:List DV} (y:α) (e1:Wcd T st k=some (a,off,s,ds,k'))
  (hr:st.rows[id]? = some (.obj (Zf e he ty dom m))) (ha:a∈dom) (hl:off+s<=(e (m a)).length) (hd:e y=(e (m a)).take off ++ ds ++ (e (m a)).drop (off+s))
  (hs:St.only S { st with rows:=st.rows.set id (.obj (Zf e he ty dom (upd m a y))) }=st') (h:AK X f k' Q st'):AK X f k Q st:=by
 subst hs
 exact Qyt hT id y e1 hr ha hl hd rfl (Qd1 S h)
theorem Wcp {α:Type} {e:α->List DV} {he:∀ x,NLs (e x)} {ty:TypeId} {dom:List Nat} {m:Nat->α} (i id:Nat) (y:α) (hne:i≠id) (hi:st.rows[i]? = some (.box ty ((e y).map .d))) (hr:st.rows[id]? = some (.obj (Zf e he ty dom m)))
  (h:∀ a,a ∉ dom->∃ st',(∀ j av,st'.tm.lookup j=some av->∃ av0,st.tm.lookup j=some av0/\(av=av0\/(∃ off,av0=.ptr i 0 0 off/\av=.d (pA a off))\/∃ t off,av0=.ifc t (.ptr i 0 0 off)/\av=.d (.ifc t (pA a off))))/\st'.nt=st.nt/\st'.rows=(st.rows.set i .gone).set id (.obj (Zf e he ty (dom ++ [a]) (upd m a y)))/\AK X f k Q st'):AK X f k Q st:=by
 intro a' C hC b cs hb hk
 have Jq:=hC.rel
 have hiC:C.rows[i]? = some (.box ty ((e y).map .d)):=by rw [hC.rows];exact hi
 have hrC:C.rows[id]? = some (.obj (Zf e he ty dom m)):=by rw [hC.rows];exact hr
 obtain ⟨obi,hμi⟩:=Jq.Qg3 hiC
 obtain ⟨ob0,hμ0⟩:=Jq.Qg3 hrC
 have Qw8:=Jq.rel i obi _ hμi hiC
 obtain ⟨a,rfl⟩:∃ a,obi=some a:=by
  cases obi with
  | none=>exact Qw8.elim
  | some a=>exact ⟨a,rfl⟩
 obtain ⟨vs,c1,c2⟩:=Qw8
 have hold:(Zf e he ty dom m).rel C.w (C.ok X) ob0:=by
  have:=Jq.rel id ob0 _ hμ0 hrC
  cases ob0<;>exact this
 have hna:a ∉ dom:=fun ha=>hne (Jq.Qhq hμi hμ0 hiC hrC rfl (by simp) (.inl rfl) (.inr ha))
 obtain ⟨st',t1,t2,t3,t4⟩:=h a hna
 have hlti:=(List.getElem?_eq_some_iff.1 hiC).1
 have hltr:=(List.getElem?_eq_some_iff.1 hrC).1
 let o':Ql1:=Zf e he ty (dom ++ [a]) (upd m a y)
 let C':Wp:=⟨C.μ,(C.rows.set i .gone).set id (.obj o'),C.w⟩
 have Qck:∀ {j:Nat} {s:Row},C'.rows[j]? = some s->s≠.gone->(j=id/\s=.obj o')\/(j≠id/\j≠i/\C.rows[j]? = some s):=by
  intro j s h2 hg
  simp only [C'] at h2
  rcases (Qbh (by simpa using hltr)).1 h2 with ⟨rfl,rfl⟩ | ⟨n1,h2⟩
  ·exact .inl ⟨rfl,rfl⟩
  rcases (Qbh hlti).1 h2 with ⟨rfl,rfl⟩ | ⟨n2,h2⟩
  ·exact absurd rfl hg
  exact .inr ⟨Ne.symm n1,Ne.symm n2,h2⟩
 have Qjh:∀ {c:Nat},C'.live c->C.live c:=by
  rintro c ⟨j,n,s,h1,h2,h3,h4⟩
  rcases Qck h2 (by rintro rfl;cases h3) with ⟨rfl,rfl⟩ | ⟨n1,n2,h2⟩
  ·have h1':C.μ[j]? = some n:=h1
   rw [hμ0] at h1'
   injection h1' with h1'
   subst h1'
   rcases h4 with h4 | h4
   ·exact ⟨j,_,_,hμ0,hrC,rfl,.inl h4⟩
   rcases List.mem_append.1 h4 with h4 | h4
   ·exact ⟨j,_,_,hμ0,hrC,rfl,.inr h4⟩
   rw [List.mem_singleton.1 h4]
   exact ⟨i,_,_,hμi,hiC,rfl,.inl rfl⟩
  exact ⟨j,n,s,h1,h2,h3,h4⟩
 have ev:Ev X C C':=⟨Nat.le_refl _,fun _ _ _=>rfl,fun c _ hl hk=>hl (Qjh hk),fun _ _ _ k=>⟨_,k,rfl⟩,fun _ _ hx=>hx⟩
 have hC':Xz X C':=by
  refine ⟨by simp [C',Jq.len],Jq.os,Jq.tape,Jq.output,Jq.size,Jq.keep,Jq.shape,Jq.first,Jq.place, ?_, ?_, ?_, ?_⟩
  ·intro p q c r s h1 h2 h3 h4 h5 h6
   rcases Qck h3 (by rintro rfl;cases h5) with ⟨e1,e2⟩ | ⟨n1,n2,k3⟩<;>rcases Qck h4 h6 with ⟨e3,e4⟩ | ⟨m1,m2,k4⟩
   ·rw [e1,e3]
   ·subst e1;subst e2
    exact Jq.apart _ q c _ s h1 h2 hrC k4 rfl h6
   ·subst e3;subst e4
    exact Jq.apart p _ c r _ h1 h2 k3 hrC h5 (by simp)
   exact Jq.apart p q c r s h1 h2 k3 k4 h5 h6
  ·intro p n c r h1 h2 h3
   rcases Qck h2 (by rintro rfl;cases h3) with ⟨e1,e2⟩ | ⟨n1,n2,k2⟩
   ·subst e1;subst e2
    rcases List.mem_append.1 h3 with h3 | h3
    ·exact Jq.Qb7 _ n c _ h1 hrC h3
    rw [List.mem_singleton.1 h3]
    exact Jq.place i a hμi
   exact Jq.Qb7 p n c r h1 k2 h3
  ·intro p q n n' c r s h1 h2 h3 h4 h5 h6
   rcases Qck h3 (by rintro rfl;cases h5) with ⟨e1,e2⟩ | ⟨n1,n2,k3⟩
   ·subst e1;subst e2
    rcases List.mem_append.1 h5 with k5 | k5
    ·rcases Qck h4 h6 with ⟨e3,e4⟩ | ⟨m1,m2,k4⟩
     ·subst e3;subst e4
      exact ⟨(Jq.Qbj _ _ n n' c _ _ h1 h2 hrC hrC k5 (by simp)).1,fun _=>rfl⟩
     exact Jq.Qbj _ q n n' c _ s h1 h2 hrC k4 k5 h6
    have ec:=List.mem_singleton.1 k5
    subst ec
    rcases Qck h4 h6 with ⟨e3,e4⟩ | ⟨m1,m2,k4⟩
    ·refine ⟨fun en=>?_,fun _=>e3.symm⟩
     subst e3
     exact hne (Jq.Qhq hμi h2 hiC hrC rfl (by simp) (.inl rfl) (.inl en))
    refine ⟨fun en=>?_,fun h7=>?_⟩
    ·exact m2 (Jq.Qhq hμi h2 hiC k4 rfl h6 (.inl rfl) (.inl en)).symm
    exact absurd (Jq.Qhq hμi h2 hiC k4 rfl h6 (.inl rfl) (.inr h7)).symm m2
   rcases Qck h4 h6 with ⟨e3,e4⟩ | ⟨m1,m2,k4⟩
   ·subst e3;subst e4
    have h8:=Jq.Qbj p _ n n' c r _ h1 h2 k3 hrC h5 (by simp)
    refine ⟨h8.1,fun h7=>?_⟩
    rcases List.mem_append.1 h7 with h7 | h7
    ·exact h8.2 h7
    have ec:=List.mem_singleton.1 h7
    subst ec
    exact absurd (Jq.Qhq h1 hμi k3 hiC (Row.Wgs h5) (by simp) (.inr h5) (.inl rfl)) n2
   exact Jq.Qbj p q n n' c r s h1 h2 k3 k4 h5 h6
  intro j o s h1 h2
  by_cases hg:s=.gone
  ·subst hg;cases o<;>trivial
  rcases Qck h2 hg with ⟨e5,e6⟩ | ⟨n1,n2,h2⟩
  ·subst e6
   have key:o'.rel C'.w (C'.ok X) o:=by
    refine ⟨List.nodup_append.2 ⟨hold.1,by simp,fun x hx z hz=>by rw [List.mem_singleton.1 hz];rintro rfl;exact hna hx⟩,fun c hc=>?_⟩
    rcases List.mem_append.1 hc with k1 | k1
    ·obtain ⟨ws,q1,q2⟩:=hold.2 c k1
     have:upd m a y c=m c:=by
      have:c≠a:=by rintro rfl;exact hna k1
      simp [upd,this]
     refine ⟨ws,q1, ?_⟩
     rw [this]
     exact q2.mono ev.ok ev.same
    have ec:=List.mem_singleton.1 k1
    rw [ec]
    refine ⟨vs,c1, ?_⟩
    have:upd m a y a=y:=by simp [upd]
    rw [this]
    exact c2.toD.mono ev.ok ev.same
   cases o<;>exact key
  exact (Jq.rel j o s h1 h2).mono ev.ok ev.same ev.pre ev.shape (fun _ _=>rfl) (fun _ _=>rfl)
 refine t4 a' C' ⟨hC',by rw [t3,<- hC.rows],hC.defers,hC.nt.trans t2.symm,fun j av e2=>?_⟩ b cs hb hk
 obtain ⟨av0,e3,e4⟩:=t1 j av e2
 obtain ⟨v,q1,q2⟩:=hC.tm j av0 e3
 refine ⟨v,q1, ?_⟩
 rcases e4 with rfl | ⟨off,rfl,rfl⟩ | ⟨t,off,rfl,rfl⟩
 ·exact ev.avr q2
 ·obtain ⟨b2,hb2,rfl⟩:=q2.Qgl
  rw [hμi] at hb2
  injection hb2 with hb2
  injection hb2 with hb2
  subst hb2
  rw [Nat.zero_mul,Nat.zero_add]
  exact .d (.v rfl)
 cases q2 with
 | ifc q2=>
  obtain ⟨b2,hb2,rfl⟩:=q2.Qgl
  rw [hμi] at hb2
  injection hb2 with hb2
  injection hb2 with hb2
  subst hb2
  rw [Nat.zero_mul,Nat.zero_add]
  exact .d (.ifc (.v rfl))
end
end Go.Sy
set_option linter.unusedSectionVars false
namespace Go.Sy
def Qtw (P:Program) (t:TypeId) (name:String) (g:FuncId):Prop:=
 ∀ (a:Addr) (w:World),(Go.method (P.types.size+Made.depth) t (.pointer (some a)) name).run P w=.ok (g,.pointer (some a)) w
def Qoj:AV->Option (TypeId × AV)
 | .ifc t x=>some (t,x)
 | .d (.ifc t x)=>some (t,.d x)
 | _=>none
def Qt3 (st:St):List Item->Option (TypeId × String × AV × List AV × Option Tmp × List Item)
 | .inRegion ops (i :: rest) :: k=>
  match ops[i]? with
  | some o=>
   match o.op with
   | .call c=>
    match c.callee with
    | .invoke r name=>
     match guardOf st.tm ops o,(valOf st.tm r).bind Qoj,mapVal (valOf st.tm) c.args.toList with
     | some true,some (t,x),some xs=>bif isRef x then some (t,name,x,xs,o.dst,.inRegion ops rest :: k) else none
     | _,_,_=>none
    | _=>none
   | _=>none
  | none=>none
 | _=>none
section
variable {X:Ctx} {T:Tab} {f:FuncId} {k k':List Item} {Q:Frame->Frame->Wp->Prop} {st st':St}
theorem Qy3 {w:World} {ok:Bool->Nat->Prop} {μ:List (Option Nat)} {x y:AV} {t:TypeId} {v:Value} (h:AVR w ok μ x v) (e:Qoj x=some (t,y)):∃ u,v=.iface t u/\AVR w ok μ y u:=by
 cases h with
 | ifc h=>simp only [Qoj,Option.some.injEq,Prod.mk.injEq] at e;obtain ⟨rfl,rfl⟩:=e;exact ⟨_,rfl,h⟩
 | d h=>
  cases h with
  | ifc h=>simp only [Qoj,Option.some.injEq,Prod.mk.injEq] at e;obtain ⟨rfl,rfl⟩:=e;exact ⟨_,rfl,.d h⟩
  | _=>simp [Qoj] at e
 | _=>simp [Qoj] at e
theorem Wcu {g:FuncId} {Xw args:List AV} {x:AV} {t:TypeId} {name:String} {dst:Option Tmp} (ids:List Nat) {Yp Wx:List Row} {ret:AV}
  (e:Qt3 st k=some (t,name,x,Xw,dst,k')) (hm:Qtw X.P t name g) (hnf:∀ f c,x≠.d (.fn f c)) (Wg1:∀ f c,x≠.fn f c) (he:Enters X.P g) (hh:Qbz st.rows ids Yp) (hp:Qgj st.rows ids (Qaz ids st.rows.length) (x :: Xw) args) (hs:Yn X.P g Yp args Wx ret)
  (Qb9:St.put { st with rows:=Qch st.rows ids Wx } dst (Qdg (Qaz ids st.rows.length) ret)=some st') (h:AK X f k' Q st'):AK X f k Q st:=by
 unfold Qt3 at e
 split at e
 ·rename_i ops i rest k0
  split at e
  ·rename_i o ho
   split at e
   ·rename_i c hc
    split at e
    ·rename_i rv nm hg
     refine Qjn h fun a C hC b cs _=>?_
     have Qh4:∃ vs,(execOp a.eval o).run X.P C.w=.ok (.enter g vs.toArray) C.w/\Qbp C.w (C.ok X) C.μ (x :: Xw) vs/\guardOf st.tm ops o=some true/\o.dst=dst/\k'=.inRegion ops rest :: k0:=by
      split at e
      ·rename_i t0 x0 xs h1 h2 h3
       cases hb:isRef x0 with
       | false=>rw [hb] at e;cases e
       | true=>
        rw [hb] at e
        simp only [cond_true,Option.some.injEq,Prod.mk.injEq] at e
        obtain ⟨rfl,rfl,rfl,rfl,e3,e4⟩:=e
        obtain ⟨av,h4,h5⟩:=Option.bind_eq_some_iff.1 h2
        have hv:=hC.val _ _ h4
        obtain ⟨u,hu,hr⟩:=Qy3 hv h5
        obtain ⟨ad,had⟩:∃ ad,u=.pointer (some ad):=by
         rcases hr.Qze hb with ⟨ad,rfl⟩ | ⟨f',c',rfl⟩
         ·exact ⟨ad,rfl⟩
         exfalso
         cases hr with
         | fn hr=>exact Wg1 _ _ rfl
         | d hr=>
          cases hr with
          | fn hr=>exact hnf _ _ rfl
          | v hr=>simp [isRef] at hb
        subst had
        refine ⟨.pointer (some ad) :: c.args.toList.map a.eval, ?_,.cons hr (Qj7 hC.val h3),h1,e3,e4.symm⟩
        simp only [execOp,hc,resolve,hg,hu,Sem.run_bind,Sem.run_pure,Result.andThen_ok,invoke,callMethod]
        have hz:(#[Value.iface t0 (.pointer (some ad))] ++ Array.map a.eval c.args)[0]? = some (.iface t0 (.pointer (some ad))):=by
         rw [Array.getElem?_append_left (by simp)]
         rfl
        rw [hz]
        simp only [Sem.run_bind,run_program,Result.andThen_ok,hm ad C.w]
        rw [he]
        congr 2
        refine Array.ext' ?_
        have:List.take c.args.size (List.map a.eval c.args.toList)=List.map a.eval c.args.toList:=List.take_of_length_le (by rw [List.length_map,Array.length_toList];exact Nat.le_refl _)
        simp [this]
      cases e
     obtain ⟨vs,hx,Qeq,hgd,Qw9,rfl⟩:=Qh4
     subst Qw9
     rw [<- hC.rows] at hh hp Qb9
     have Qlr:=hs (Qas X C ids) vs rfl (Ql5 hC.rel hh) (Qns hC.rel hh) (Qju hC.rel hh hp Qeq)
     obtain ⟨e,w',fr,⟨v,μ',rfl,hd⟩,Qlb,_,Qp4⟩:=Qlr (b.atR a (.inRegion ops (i :: rest) :: k0) :: cs)
     have hgg:=stepGR_op (P:=X.P) (b:=b) (k:=k0) (cs:=cs) (w:=C.w) (rest:=rest) ho (Qe3 hC hgd)
     rw [Oper.semAt_eq _ _ _ (by intro c' hc';rw [hc] at hc';cases hc')] at hgg
     have Ql9:step X.P (lone (b.atR a (.inRegion ops (i :: rest) :: k0)) cs C.w)=.next (lone (Frame.enter X.P g vs.toArray .normal) (b.atR a (.inRegion ops (i :: rest) :: k0) :: cs) C.w):=
      step_lone_go (by rw [hgg];simp [stepG.apply,hx,Frame.atR])
     have Qe4:(b.atR a (.inRegion ops (i :: rest) :: k0)).finish v=b.atR (a.put o.dst v) (.inRegion ops rest :: k0):=by
      rw [Frame.finish_atR,ho];rfl
     have Qj5:Sim X { st with rows:=(Qa8 C ids μ' Wx w').rows } a (Qa8 C ids μ' Wx w'):=hC.Qf6 (Qnq hC.rel hh hd.rel) (Ql4 hC.rel hh hd)
     refine ⟨_,Qa8 C ids μ' Wx w',Qj5.put Qb9 (Qsc hC.rel hh hd),.head Ql9 (Qlb.trans (.one ?_))⟩
     rw [<- Qe4]
     exact step_leave_returned Qp4
    cases e
   cases e
  cases e
 cases e
theorem Qmn {P:Program} {g:FuncId} {Xw args:List AV} {x:AV} {t:TypeId} {name:String} {dst:Option Tmp} (S ids:List Nat) {Yp Wx:List Row} {ret:AV}
  (hP:X.P=P) (hm:Qtw P t name g) (he:Enters P g) (hs:Yn P g Yp args Wx ret) (e:Qt3 st k=some (t,name,x,Xw,dst,k')) (hnf:∀ f c,x≠.d (.fn f c)) (Wg1:∀ f c,x≠.fn f c) (hh:Qbz st.rows ids Yp) (hp:Qgj st.rows ids (Qaz ids st.rows.length) (x :: Xw) args)
  (Qb9:(St.put { st with rows:=Qch st.rows ids Wx } dst (Qdg (Qaz ids st.rows.length) ret)).map (St.only S)=some st') (h:AK X f k' Q st'):AK X f k Q st:=by
 subst hP
 obtain ⟨s0,h1,rfl⟩:=Option.map_eq_some_iff.1 Qb9
 exact Wcu ids e hm hnf Wg1 he hh hp hs h1 (Qd1 S h)
def oA:Option Nat->AV
 | none=>.d .np
 | some a=>.d (pA a 0)
def assertAt (st:St) (k:List Item):Option (TypeId × AV × Option Tmp × List Item):=
 match Qgq st k with
 | some (o,k')=>
  match o.op with
  | .typeAssert x t a true=>
   match (valOf st.tm x).bind Qoj with
   | some (t',y)=>bif Nat.beq t' a then some (a,y,o.dst,k') else none
   | none=>none
  | _=>none
 | none=>none
theorem Wcq (hT:Xl X.P T) (S:List Nat) {a:TypeId} {y:AV} {dst:Option Tmp} (e:assertAt st k=some (a,y,dst,k')) {d:TypeDesc} (hd:X.P.underlying a=some d) (hni:∀ ms,d≠.interface ms)
  (Qb9:(St.put st dst (.Qq [y,.d (.v (.bool true))])).map (St.only S)=some st') (h:AK X f k' Q st'):AK X f k Q st:=by
 obtain ⟨s0,h1,rfl⟩:=Option.map_eq_some_iff.1 Qb9
 unfold assertAt at e
 split at e
 ·rename_i o k3 Qge
  split at e
  ·rename_i x t a0 hop
   split at e
   ·rename_i t' y' hx
    cases hb:Nat.beq t' a0 with
    | false=>rw [hb] at e;cases e
    | true=>
     rw [hb] at e
     simp only [cond_true,Option.some.injEq,Prod.mk.injEq] at e
     obtain ⟨rfl,rfl,rfl,rfl⟩:=e
     have ht:=Nat.eq_of_beq_eq_true hb
     subst ht
     refine Qk7 Qge (Qd1 S h) fun a' C hC=>?_
     obtain ⟨av,h4,h5⟩:=Option.bind_eq_some_iff.1 hx
     obtain ⟨u,hu,hr⟩:=Qy3 (hC.val _ _ h4) h5
     refine ⟨.tuple #[u,.bool true],C,st, ?_,hC,_,h1,.Qq (.cons hr (.cons (.d (.v rfl)) .nil))⟩
     simp only [execOp,hop,hu,Instr.typeAssert,Sem.run_bind,run_underlying hd,Result.andThen_ok]
     cases d<;>first | (exact absurd rfl (hni _)) | simp
   cases e
  cases e
 cases e
end
theorem Wil {X:Ctx} {f:FuncId} {k:List Item} {Q:Frame->Frame->Wp->Prop} {st st':St} (S:List Nat) (e:St.only S st=st') (h:AK X f k Q st'):AK X f k Q st:=Qd1 S (e▸h)
end Go.Sy
