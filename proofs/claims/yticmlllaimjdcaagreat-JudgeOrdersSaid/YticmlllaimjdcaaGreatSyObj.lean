/- Objects of one type, each in a block of its own, known by their addresses: loads and stores through addresses. -/
import Derived.Test.YticmlllaimjdcaaGreatSyArr
set_option linter.unusedVariables false
set_option linter.unusedSimpArgs false
namespace Go.Sy
abbrev pA (a off:Nat):DV:=.v (.pointer (some ⟨a,off,none⟩))
def eA (a:Nat):List DV:=[pA a 0]
theorem nlA (a:Nat):NLs (eA a):=.cons (.v _) .nil
def Zj {α:Type} (e:α->List DV) (he:∀ x,NLs (e x)) (ty:TypeId) (dom:List Nat) (m:Nat->α):Qmy where
 ext:=fun _ _=>dom
 rel:=fun w ok _=>dom.Nodup/\∀ a∈dom,∃ vs:List Value,w.heap[a]? = some (.cells vs.toArray ty (0,0))/\VRs w ok (e (m a)) vs
 Qdp:=fun _ _=>rfl
 Qg2:=fun h Jp hw _ hx=>⟨h.1,fun a ha=>by
  obtain ⟨vs,h1,h2⟩:=h.2 a ha
  exact ⟨vs,(hx a ha).trans h1,h2.mono Jp hw⟩⟩
 perm:=fun Jp h=>⟨h.1,fun a ha=>by
  obtain ⟨vs,h1,h2⟩:=h.2 a ha
  exact ⟨vs,h1,VRs.perm Jp h2 (he _)⟩⟩
section
variable {X:Ctx} {T:Tab} {f:FuncId} {k k':List Item} {Q:Frame->Frame->Wt->Prop} {st st':St}
def Qy4 (st:St) (x:Operand):Option (Nat × Nat):=
 match valOf st.tm x with
 | some (.d (.v (.pointer (some ⟨a,off,none⟩))))=>some (a,off)
 | _=>none
theorem Wja {st:St} {x:Operand} {a off:Nat} (h:Qy4 st x=some (a,off)):valOf st.tm x=some (.d (pA a off)):=by
 unfold Qy4 at h
 split at h
 ·rename_i a' off' e
  injection h with h
  injection h with h1 h2
  subst h1;subst h2
  exact e
 cases h
def Wc5 (T:Tab) (st:St) (k:List Item):Option (Nat × Nat × Nat × Bool × Option Tmp × List Item):=
 match Qhn st k with
 | some (o,k')=>
  match o.op with
  | .load t x=>
   match T.Qme.lookup t,T.info.lookup t,Qy4 st x with
   | some agg,some (s,_,_),some (a,off)=>some (a,off,s,agg,o.dst,k')
   | _,_,_=>none
  | _=>none
 | none=>none
theorem Qy5 {a':Act} {C:Wt} (hC:Sim X st a' C) {x:Operand} {a off:Nat} (h:Qy4 st x=some (a,off)):a'.eval x=.pointer (some ⟨a,off,none⟩):=by
 have:=hC.val _ _ (Wja h)
 generalize a'.eval x=v at this ⊢
 cases this with
 | d r=>cases r;rfl
theorem Wen {C:Wt} (h:Yd X C) {α:Type} {e:α->List DV} {he:∀ x,NLs (e x)} {ty:TypeId} {dom:List Nat} {m:Nat->α} {id a:Nat} (hr:C.rows[id]? = some (.obj (Zj e he ty dom m))) (ha:a∈dom):
  ∃ vs:List Value,C.w.heap[a]? = some (.cells vs.toArray ty (0,0))/\VRs C.w (C.ok X) (e (m a)) vs:=by
 obtain ⟨ob,hμ⟩:=h.Qh4 hr
 have:=h.rel id ob _ hμ hr
 cases ob<;>exact this.2 a ha
theorem Qu1 (hT:Xb X.P T) {α:Type} {e:α->List DV} {he:∀ x,NLs (e x)} {ty:TypeId} {dom:List Nat} {m:Nat->α} (id:Nat) {a off s:Nat} {agg:Bool} {dst:Option Tmp} (ds:List DV)
  (e1:Wc5 T st k=some (a,off,s,agg,dst,k')) (hr:st.rows[id]? = some (.obj (Zj e he ty dom m))) (ha:a∈dom) (hd:((e (m a)).drop off).take s=ds) (hl:ds.length=s) (hs:agg=false->s=1)
  (Qcs:St.put st dst (if agg then .d (.agg ds) else .d (ds.getD 0 dv0))=some st') (h:AK X f k' Q st'):AK X f k Q st:=by
 unfold Wc5 at e1
 split at e1
 ·rename_i o k3 Qg7
  split at e1
  ·rename_i t x hop
   split at e1
   ·rename_i agg' s' by' z a0 Qex hag hi hx
    simp only [Option.some.injEq,Prod.mk.injEq] at e1
    obtain ⟨rfl,rfl,rfl,rfl,rfl,rfl⟩:=e1
    refine Ql5 Qg7 h fun a' C hC=>?_
    have hu:=Qy5 hC hx
    obtain ⟨vs,h1,h2⟩:=Wen hC.rel (by rw [hC.rows];exact hr) ha
    have u2:=(h2.drop Qex).take s'
    rw [hd] at u2
    generalize hus:(vs.drop Qex).take s'=us at u2
    have hm:∀ (j:Nat) v,us[j]? = some v->C.w.cell? ⟨a0,Qex+j,none⟩=some v:=fun j v hj=>by
     rw [cell_of_row _ _ _ _ _ _ h1]
     have hjs:j < s':=by
      have:=(List.getElem?_eq_some_iff.1 hj).1
      rw [<- u2.length,hl] at this
      exact this
     rw [<- hus,List.getElem?_take_of_lt hjs,List.getElem?_drop] at hj
     simpa using hj
    cases agg' with
    | true=>
     have:=Qfj hT (w:=C.w) (b:=a0) (off:=Qex) hag hi us (fun _=>by rw [<- u2.length,hl]) hm undef (by simp)
     simp only [if_true] at this
     refine ⟨.agg us.toArray,C,st, ?_,hC,_,Qcs, ?_⟩
     ·simp only [execOp,hop,hu,Instr.loadAt,Instr.sureAddr,Sem.run_bind,Sem.run_pure,Result.andThen_ok,this]
     simp only [if_true]
     exact .d (.agg u2)
    | false=>
     have hs1:=hs rfl
     obtain ⟨d,rfl⟩:∃ d,ds=[d]:=List.length_eq_one_iff.1 (by omega)
     cases u2 with
     | cons o1 o2 o3=>
      cases o3
      rename_i v
      have:=Qfj hT (w:=C.w) (b:=a0) (off:=Qex) hag hi [v] (by simp) hm v (fun _=>rfl)
      simp only [Bool.false_eq_true,if_false] at this
      refine ⟨v,C,st, ?_,hC,_,Qcs, ?_⟩
      ·simp only [execOp,hop,hu,Instr.loadAt,Instr.sureAddr,Sem.run_bind,Sem.run_pure,Result.andThen_ok,this]
      exact .d o2
   cases e1
  cases e1
 cases e1
theorem Qx2 (hT:Xb X.P T) (S:List Nat) {α:Type} {e:α->List DV} {he:∀ x,NLs (e x)} {ty:TypeId} {dom:List Nat} {m:Nat->α} (id:Nat) {a off s:Nat} {agg:Bool} {dst:Option Tmp} (ds:List DV)
  (e1:Wc5 T st k=some (a,off,s,agg,dst,k')) (hr:st.rows[id]? = some (.obj (Zj e he ty dom m))) (ha:a∈dom) (hd:((e (m a)).drop off).take s=ds) (hl:ds.length=s) (hs:agg=false->s=1)
  (Qcs:(St.put st dst (if agg then .d (.agg ds) else .d (ds.getD 0 dv0))).map (St.only S)=some st') (h:AK X f k' Q st'):AK X f k Q st:=by
 obtain ⟨s0,h1,rfl⟩:=Option.map_eq_some_iff.1 Qcs
 exact Qu1 hT id ds e1 hr ha hd hl hs h1 (Qel S h)
section
variable {C:Wt} {α:Type} {e:α->List DV} {he:∀ x,NLs (e x)} {ty:TypeId} {dom:List Nat} {m m':Nat->α} {id a:Nat} {w':World}
structure Qqk (X:Ctx) (C:Wt) (id a:Nat) (dom:List Nat) (w':World):Prop where
 mem:a∈dom
 os:w'.os=C.w.os
 tape:w'.tape=C.w.tape
 output:w'.output=C.w.output/\C.w.drawn<=w'.drawn
 size:w'.heap.size=C.w.heap.size
 other:∀ k,k≠a->w'.heap[k]? = C.w.heap[k]?
 shape:∀ cs ty,C.w.heap[a]? = some (.cells cs ty (0,0))->∃ cs',w'.heap[a]? = some (.cells cs' ty (0,0))/\cs'.size=cs.size
theorem Qmt (h:Yd X C) (hr:C.rows[id]? = some (.obj (Zj e he ty dom m))) (t:Qqk X C id a dom w') {i:Nat} {n:Option Nat} {s:Row} (ne:id≠i) (h1:C.μ[i]? = some n) (h2:C.rows[i]? = some s) (hs:s≠.gone):
  (∀ k,n=some k->w'.heap[k]? = C.w.heap[k]?)/\∀ c∈s.ext C.w n,w'.heap[c]? = C.w.heap[c]?:=by
 obtain ⟨ob,hμ⟩:=h.Qh4 hr
 refine ⟨fun k ek=>t.other k ?_,fun c hc=>t.other c ?_⟩
 ·rintro rfl
  exact ne (h.Qit hμ h1 hr h2 rfl hs (.inr t.mem) (.inl ek))
 rintro rfl
 exact ne (h.Qit hμ h1 hr h2 rfl hs (.inr t.mem) (.inr hc))
theorem Wc9 (h:Yd X C) (hr:C.rows[id]? = some (.obj (Zj e he ty dom m))) (t:Qqk X C id a dom w') {c:Nat} (hc:(C.Qah id (.obj (Zj e he ty dom m')) w').live c):C.live c:=by
 obtain ⟨i,n,s,h1,h2,h3,h4⟩:=hc
 simp only [Wt.Qah] at h1 h2 h4
 rcases (Qbs (List.getElem?_eq_some_iff.1 hr).1).1 h2 with ⟨rfl,rfl⟩ | ⟨ne,h2⟩
 ·exact ⟨id,n,_,h1,hr,rfl,h4⟩
 obtain ⟨q1,q2⟩:=Qmt h hr t ne h1 h2 (by rintro rfl;cases h3)
 exact ⟨i,n,s,h1,h2,h3,(Row.Qio s q1 q2).1 h4⟩
theorem Qyg (h:Yd X C) (hr:C.rows[id]? = some (.obj (Zj e he ty dom m))) (t:Qqk X C id a dom w'):Ev X C (C.Qah id (.obj (Zj e he ty dom m')) w'):=by
 obtain ⟨ob,hμ⟩:=h.Qh4 hr
 exact ⟨Nat.le_of_eq t.size.symm,fun k _ hl=>t.other k (fun ek=>hl (ek▸⟨id,ob,_,hμ,hr,rfl,.inr t.mem⟩)),fun k _ hl hk=>hl (Wc9 h hr t hk),
  fun k cs ty hc=>by
   by_cases ek:k=a
   ·subst ek;exact t.shape cs ty hc
   exact ⟨cs,(t.other k ek).trans hc,rfl⟩,fun _ _ hx=>hx⟩
theorem Whb (h:Yd X C) (hr:C.rows[id]? = some (.obj (Zj e he ty dom m))) (t:Qqk X C id a dom w') (Jz:∀ ob,C.μ[id]? = some ob->(Zj e he ty dom m').rel w' ((C.Qah id (.obj (Zj e he ty dom m')) w').ok X) ob):Yd X (C.Qah id (.obj (Zj e he ty dom m')) w'):=by
 have ev:=Qyg (m':=m') h hr t
 obtain ⟨ob0,hμ0⟩:=h.Qh4 hr
 have hlt:=(List.getElem?_eq_some_iff.1 hr).1
 have hold:∀ {i c:Nat} {n:Option Nat} {s:Row},(C.Qah id (.obj (Zj e he ty dom m')) w').μ[i]? = some n->(C.Qah id (.obj (Zj e he ty dom m')) w').rows[i]? = some s->s≠.gone->∃ s0,C.μ[i]? = some n/\C.rows[i]? = some s0/\s0≠.gone/\s.ext w' n=s0.ext C.w n/\(s.live=true->s0.live=true):=by
  intro i c n s h1 h2 hg
  simp only [Wt.Qah] at h1 h2
  rcases (Qbs hlt).1 h2 with ⟨rfl,rfl⟩ | ⟨ne,h2⟩
  ·exact ⟨_,h1,hr,by simp,rfl,fun _=>rfl⟩
  obtain ⟨q1,q2⟩:=Qmt h hr t ne h1 h2 hg
  exact ⟨s,h1,h2,hg,Row.Qdp s q1 q2,fun hl=>hl⟩
 have hw:(C.Qah id (.obj (Zj e he ty dom m')) w').w=w':=rfl
 refine ⟨by simp [Wt.Qah,h.len],t.os.trans h.os,t.tape.trans h.tape,⟨t.output.1.trans h.output.1,Nat.le_trans h.output.2 t.output.2⟩,by rw [hw,t.size];exact h.size, ?_, ?_,h.first, ?_, ?_, ?_, ?_, ?_⟩
 ·intro k hk ho
  rw [<- h.keep k hk ho]
  refine t.other k ?_
  rintro rfl
  rcases (h.Qco id ob0 k _ hμ0 hr t.mem).1 with h1 | h1
  ·exact ho h1
  omega
 ·intro k cs ty hc
  obtain ⟨cs',h1,h2⟩:=h.shape k cs ty hc
  obtain ⟨cs2,h3,h4⟩:=ev.shape k cs' ty h1
  exact ⟨cs2,h3,h4.trans h2⟩
 ·intro i k hk
  have:=h.place i k hk
  exact ⟨this.1,by rw [hw,t.size];exact this.2⟩
 ·intro i j k p q h1 h2 h3 h4 h5 h6
  obtain ⟨p0,a1,a2,a3,a4,a5⟩:=hold (c:=0) h1 h3 (by rintro rfl;cases h5)
  obtain ⟨q0,b1,b2,b3,b4,b5⟩:=hold (c:=0) h2 h4 h6
  exact h.apart i j k p0 q0 a1 b1 a2 b2 (a5 h5) b3
 ·intro i n c s h1 h2 h3
  obtain ⟨s0,a1,a2,a3,a4,a5⟩:=hold (c:=0) h1 h2 (by rintro rfl;cases h3)
  rw [hw,a4] at h3
  have:=h.Qco i n c s0 a1 a2 h3
  exact ⟨this.1,by rw [hw,t.size];exact this.2⟩
 ·intro i j n n' c p q h1 h2 h3 h4 h5 h6
  obtain ⟨p0,a1,a2,a3,a4,a5⟩:=hold (c:=0) h1 h3 (by rintro rfl;cases h5)
  obtain ⟨q0,b1,b2,b3,b4,b5⟩:=hold (c:=0) h2 h4 h6
  rw [hw,a4] at h5
  rw [hw,b4]
  exact h.Qbt i j n n' c p0 q0 a1 b1 a2 b2 h5 b3
 intro i ob s h1 h2
 simp only [Wt.Qah] at h1 h2
 rcases (Qbs hlt).1 h2 with ⟨rfl,rfl⟩ | ⟨ne,h2⟩
 ·cases ob<;>exact Jz _ h1
 by_cases hs:s=.gone
 ·subst hs;cases ob<;>trivial
 exact (h.rel i ob s h1 h2).mono ev.ok ev.same ev.pre ev.shape (Qmt h hr t ne h1 h2 hs).1 (Qmt h hr t ne h1 h2 hs).2
end
def Wdx (T:Tab) (st:St) (k:List Item):Option (Nat × Nat × Nat × List DV × List Item):=
 match Qhn st k with
 | some (o,k')=>
  match o.op with
  | .store t x y=>
   match T.info.lookup t,Qy4 st x,valOf st.tm y with
   | some (s,_,_),some (a,off),some v=>
    match Qj6 (cellsOf v) with
    | some ds=>bif Nat.beq ds.length s && !Qjs v && o.dst.isNone then some (a,off,s,ds,k') else none
    | none=>none
   | _,_,_=>none
  | _=>none
 | none=>none
theorem Qz6 (hT:Xb X.P T) {α:Type} {e:α->List DV} {he:∀ x,NLs (e x)} {ty:TypeId} {dom:List Nat} {m:Nat->α} (id:Nat) {a off s:Nat} {ds:List DV} (y:α) (e1:Wdx T st k=some (a,off,s,ds,k'))
  (hr:st.rows[id]? = some (.obj (Zj e he ty dom m))) (ha:a∈dom) (hl:off+s<=(e (m a)).length) (hd:e y=(e (m a)).take off ++ ds ++ (e (m a)).drop (off+s))
  (hs:st'={ st with rows:=st.rows.set id (.obj (Zj e he ty dom (upd m a y))) }) (h:AK X f k' Q st'):AK X f k Q st:=by
 subst hs
 unfold Wdx at e1
 split at e1
 ·rename_i o k3 Qg7
  split at e1
  ·rename_i t x y' hop
   split at e1
   ·rename_i s0 by' z a0 Qex v hi hx hy
    split at e1
    ·rename_i ds0 hds
     cases hb:(Nat.beq ds0.length s0 && !Qjs v && o.dst.isNone) with
     | false=>rw [hb] at e1;cases e1
     | true=>
      rw [hb] at e1
      simp only [cond_true,Option.some.injEq,Prod.mk.injEq] at e1
      obtain ⟨rfl,rfl,rfl,rfl,rfl⟩:=e1
      simp only [Bool.and_eq_true,Bool.not_eq_true',Option.isNone_iff_eq_none] at hb
      obtain ⟨⟨b1,b3⟩,b4⟩:=hb
      have b1:=Nat.eq_of_beq_eq_true b1
      refine Qsr Qg7 b4 h fun a' C hC=>?_
      have hu:=Qy5 hC hx
      have Qc5:C.rows[id]? = some (.obj (Zj e he ty dom m)):=by rw [hC.rows];exact hr
      obtain ⟨vs,r1,r2⟩:=Wen hC.rel Qc5 ha
      have hv:=Qiy (hC.val _ _ hy) (Qlj b3)
      rw [Qle hds] at hv
      have hv:=hv.toD
      obtain ⟨v0,hv0⟩:∃ v,a'.eval y'=v:=⟨_,rfl⟩
      rw [hv0] at hv
      have hvl:v0.cells.toList.length=s0:=by rw [<- hv.length,b1]
      have hlen:=r2.length
      have hst:=run_storeCells_at X.P a0 Qex ty v0.cells.toList 0 vs.toArray C.w r1 (by rw [List.size_toArray];omega) hv.one
      let us:Array Value:=(vs.take Qex ++ v0.cells.toList ++ vs.drop (Qex+v0.cells.toList.length)).toArray
      have hus:us.size=vs.toArray.size:=by
       simp only [us,List.size_toArray,List.length_append,List.length_take,List.length_drop,hvl]
       omega
      have tu:Qqk X C id a0 dom (C.w.setRow a0 us):=⟨ha,rfl,rfl,⟨rfl,Nat.le_refl _⟩,by simp [World.setRow],fun k hk=>setRow_other _ _ _ _ hk,fun cs ty' hc=>by
       rw [r1] at hc
       injection hc with hc
       injection hc with e1 e2
       subst e1
       subst e2
       exact ⟨us,setRow_heap _ _ _ _ _ _ r1,hus⟩⟩
      have ev:=Qyg (m':=upd m a0 y) hC.rel Qc5 tu
      obtain ⟨ob0,hμ0⟩:=hC.rel.Qh4 Qc5
      have hold:(Zj e he ty dom m).rel C.w (C.ok X) ob0:=by
       have:=hC.rel.rel id ob0 _ hμ0 Qc5
       cases ob0<;>exact this
      have Jz:Yd X (C.Qah id (.obj (Zj e he ty dom (upd m a0 y))) (C.w.setRow a0 us)):=by
       refine Whb hC.rel Qc5 tu fun ob hob=>⟨hold.1,fun b hbm=>?_⟩
       by_cases eb:b=a0
       ·subst eb
        refine ⟨vs.take Qex ++ v0.cells.toList ++ vs.drop (Qex+v0.cells.toList.length),setRow_heap _ _ _ _ _ _ r1, ?_⟩
        have:upd m b y b=y:=by simp [upd]
        rw [this,hd,hvl]
        exact (((r2.take Qex).append hv).append (r2.drop (Qex+s0))).mono ev.ok ev.same
       obtain ⟨ws,q1,q2⟩:=hold.2 b hbm
       refine ⟨ws,(tu.other b eb).trans q1, ?_⟩
       have:upd m a0 y b=m b:=by simp [upd,eb]
       rw [this]
       exact q2.mono ev.ok ev.same
      refine ⟨C.Qah id (.obj (Zj e he ty dom (upd m a0 y))) (C.w.setRow a0 us), ?_, ?_⟩
      ·have hs:=hT.size hi (w:=C.w)
       have h1:(Instr.storeAt t (a'.eval x) (a'.eval y')).run X.P C.w=.ok () (C.w.setRow a0 us):=by
        rw [hu,hv0]
        simp only [Instr.storeAt,Instr.sureAddr,storeVar,Sem.run_bind,Sem.run_pure,Result.andThen_ok,hs]
        rw [if_neg (by simp at hvl;simp [hvl])]
        simpa [us] using hst
       simp only [execOp,hop]
       rw [Sem.run_bind,h1]
       rfl
      have:=hC.Qgy ev Jz
      simpa [Wt.Qah,hC.rows] using this
    cases e1
   cases e1
  cases e1
 cases e1
theorem Wel (hT:Xb X.P T) (S:List Nat) {α:Type} {e:α->List DV} {he:∀ x,NLs (e x)} {ty:TypeId} {dom:List Nat} {m:Nat->α} (id:Nat) {a off s:Nat} {ds:List DV} (y:α) (e1:Wdx T st k=some (a,off,s,ds,k'))
  (hr:st.rows[id]? = some (.obj (Zj e he ty dom m))) (ha:a∈dom) (hl:off+s<=(e (m a)).length) (hd:e y=(e (m a)).take off ++ ds ++ (e (m a)).drop (off+s))
  (hs:St.only S { st with rows:=st.rows.set id (.obj (Zj e he ty dom (upd m a y))) }=st') (h:AK X f k' Q st'):AK X f k Q st:=by
 subst hs
 exact Qz6 hT id y e1 hr ha hl hd rfl (Qel S h)
theorem Wd8 {α:Type} {e:α->List DV} {he:∀ x,NLs (e x)} {ty:TypeId} {dom:List Nat} {m:Nat->α} (i id:Nat) (y:α) (hne:i≠id) (hi:st.rows[i]? = some (.box ty ((e y).map .d))) (hr:st.rows[id]? = some (.obj (Zj e he ty dom m)))
  (h:∀ a,a ∉ dom->∃ st',(∀ j av,st'.tm.lookup j=some av->∃ av0,st.tm.lookup j=some av0/\(av=av0\/(∃ off,av0=.ptr i 0 0 off/\av=.d (pA a off))\/∃ t off,av0=.ifc t (.ptr i 0 0 off)/\av=.d (.ifc t (pA a off))))/\st'.nt=st.nt/\st'.rows=(st.rows.set i .gone).set id (.obj (Zj e he ty (dom ++ [a]) (upd m a y)))/\AK X f k Q st'):AK X f k Q st:=by
 intro a' C hC b cs hb hk
 have Jz:=hC.rel
 have hiC:C.rows[i]? = some (.box ty ((e y).map .d)):=by rw [hC.rows];exact hi
 have hrC:C.rows[id]? = some (.obj (Zj e he ty dom m)):=by rw [hC.rows];exact hr
 obtain ⟨obi,hμi⟩:=Jz.Qh4 hiC
 obtain ⟨ob0,hμ0⟩:=Jz.Qh4 hrC
 have Qyl:=Jz.rel i obi _ hμi hiC
 obtain ⟨a,rfl⟩:∃ a,obi=some a:=by
  cases obi with
  | none=>exact Qyl.elim
  | some a=>exact ⟨a,rfl⟩
 obtain ⟨vs,c1,c2⟩:=Qyl
 have hold:(Zj e he ty dom m).rel C.w (C.ok X) ob0:=by
  have:=Jz.rel id ob0 _ hμ0 hrC
  cases ob0<;>exact this
 have hna:a ∉ dom:=fun ha=>hne (Jz.Qit hμi hμ0 hiC hrC rfl (by simp) (.inl rfl) (.inr ha))
 obtain ⟨st',t1,t2,t3,t4⟩:=h a hna
 have hlti:=(List.getElem?_eq_some_iff.1 hiC).1
 have hltr:=(List.getElem?_eq_some_iff.1 hrC).1
 let o':Qmy:=Zj e he ty (dom ++ [a]) (upd m a y)
 let C':Wt:=⟨C.μ,(C.rows.set i .gone).set id (.obj o'),C.w⟩
 have Qc5:∀ {j:Nat} {s:Row},C'.rows[j]? = some s->s≠.gone->(j=id/\s=.obj o')\/(j≠id/\j≠i/\C.rows[j]? = some s):=by
  intro j s h2 hg
  simp only [C'] at h2
  rcases (Qbs (by simpa using hltr)).1 h2 with ⟨rfl,rfl⟩ | ⟨n1,h2⟩
  ·exact .inl ⟨rfl,rfl⟩
  rcases (Qbs hlti).1 h2 with ⟨rfl,rfl⟩ | ⟨n2,h2⟩
  ·exact absurd rfl hg
  exact .inr ⟨Ne.symm n1,Ne.symm n2,h2⟩
 have Qkh:∀ {c:Nat},C'.live c->C.live c:=by
  rintro c ⟨j,n,s,h1,h2,h3,h4⟩
  rcases Qc5 h2 (by rintro rfl;cases h3) with ⟨rfl,rfl⟩ | ⟨n1,n2,h2⟩
  ·have h1':C.μ[j]? = some n:=h1
   rw [hμ0] at h1'
   injection h1' with h1'
   subst h1'
   rcases h4 with h4 | h4
   ·exact ⟨j,_,_,hμ0,hrC,rfl,.inl h4⟩
   rcases List.mem_append.1 h4 with h4 | h4
   ·exact ⟨j,_,_,hμ0,hrC,rfl,.inr h4⟩
   rw [List.mem_singleton.1 h4]
   exact ⟨i,_,_,hμi,hiC,rfl,.inl rfl⟩
  exact ⟨j,n,s,h1,h2,h3,h4⟩
 have ev:Ev X C C':=⟨Nat.le_refl _,fun _ _ _=>rfl,fun c _ hl hk=>hl (Qkh hk),fun _ _ _ k=>⟨_,k,rfl⟩,fun _ _ hx=>hx⟩
 have hC':Yd X C':=by
  refine ⟨by simp [C',Jz.len],Jz.os,Jz.tape,Jz.output,Jz.size,Jz.keep,Jz.shape,Jz.first,Jz.place, ?_, ?_, ?_, ?_⟩
  ·intro p q c r s h1 h2 h3 h4 h5 h6
   rcases Qc5 h3 (by rintro rfl;cases h5) with ⟨e1,e2⟩ | ⟨n1,n2,k3⟩<;>rcases Qc5 h4 h6 with ⟨e3,e4⟩ | ⟨m1,m2,k4⟩
   ·rw [e1,e3]
   ·subst e1;subst e2
    exact Jz.apart _ q c _ s h1 h2 hrC k4 rfl h6
   ·subst e3;subst e4
    exact Jz.apart p _ c r _ h1 h2 k3 hrC h5 (by simp)
   exact Jz.apart p q c r s h1 h2 k3 k4 h5 h6
  ·intro p n c r h1 h2 h3
   rcases Qc5 h2 (by rintro rfl;cases h3) with ⟨e1,e2⟩ | ⟨n1,n2,k2⟩
   ·subst e1;subst e2
    rcases List.mem_append.1 h3 with h3 | h3
    ·exact Jz.Qco _ n c _ h1 hrC h3
    rw [List.mem_singleton.1 h3]
    exact Jz.place i a hμi
   exact Jz.Qco p n c r h1 k2 h3
  ·intro p q n n' c r s h1 h2 h3 h4 h5 h6
   rcases Qc5 h3 (by rintro rfl;cases h5) with ⟨e1,e2⟩ | ⟨n1,n2,k3⟩
   ·subst e1;subst e2
    rcases List.mem_append.1 h5 with k5 | k5
    ·rcases Qc5 h4 h6 with ⟨e3,e4⟩ | ⟨m1,m2,k4⟩
     ·subst e3;subst e4
      exact ⟨(Jz.Qbt _ _ n n' c _ _ h1 h2 hrC hrC k5 (by simp)).1,fun _=>rfl⟩
     exact Jz.Qbt _ q n n' c _ s h1 h2 hrC k4 k5 h6
    have ec:=List.mem_singleton.1 k5
    subst ec
    rcases Qc5 h4 h6 with ⟨e3,e4⟩ | ⟨m1,m2,k4⟩
    ·refine ⟨fun en=>?_,fun _=>e3.symm⟩
     subst e3
     exact hne (Jz.Qit hμi h2 hiC hrC rfl (by simp) (.inl rfl) (.inl en))
    refine ⟨fun en=>?_,fun h7=>?_⟩
    ·exact m2 (Jz.Qit hμi h2 hiC k4 rfl h6 (.inl rfl) (.inl en)).symm
    exact absurd (Jz.Qit hμi h2 hiC k4 rfl h6 (.inl rfl) (.inr h7)).symm m2
   rcases Qc5 h4 h6 with ⟨e3,e4⟩ | ⟨m1,m2,k4⟩
   ·subst e3;subst e4
    have h8:=Jz.Qbt p _ n n' c r _ h1 h2 k3 hrC h5 (by simp)
    refine ⟨h8.1,fun h7=>?_⟩
    rcases List.mem_append.1 h7 with h7 | h7
    ·exact h8.2 h7
    have ec:=List.mem_singleton.1 h7
    subst ec
    exact absurd (Jz.Qit h1 hμi k3 hiC (Row.Wij h5) (by simp) (.inr h5) (.inl rfl)) n2
   exact Jz.Qbt p q n n' c r s h1 h2 k3 k4 h5 h6
  intro j o s h1 h2
  by_cases hg:s=.gone
  ·subst hg;cases o<;>trivial
  rcases Qc5 h2 hg with ⟨e5,e6⟩ | ⟨n1,n2,h2⟩
  ·subst e6
   have key:o'.rel C'.w (C'.ok X) o:=by
    refine ⟨List.nodup_append.2 ⟨hold.1,by simp,fun x hx z hz=>by rw [List.mem_singleton.1 hz];rintro rfl;exact hna hx⟩,fun c hc=>?_⟩
    rcases List.mem_append.1 hc with k1 | k1
    ·obtain ⟨ws,q1,q2⟩:=hold.2 c k1
     have:upd m a y c=m c:=by
      have:c≠a:=by rintro rfl;exact hna k1
      simp [upd,this]
     refine ⟨ws,q1, ?_⟩
     rw [this]
     exact q2.mono ev.ok ev.same
    have ec:=List.mem_singleton.1 k1
    rw [ec]
    refine ⟨vs,c1, ?_⟩
    have:upd m a y a=y:=by simp [upd]
    rw [this]
    exact c2.toD.mono ev.ok ev.same
   cases o<;>exact key
  exact (Jz.rel j o s h1 h2).mono ev.ok ev.same ev.pre ev.shape (fun _ _=>rfl) (fun _ _=>rfl)
 refine t4 a' C' ⟨hC',by rw [t3,<- hC.rows],hC.defers,hC.nt.trans t2.symm,fun j av e2=>?_⟩ b cs hb hk
 obtain ⟨av0,e3,e4⟩:=t1 j av e2
 obtain ⟨v,q1,q2⟩:=hC.tm j av0 e3
 refine ⟨v,q1, ?_⟩
 rcases e4 with rfl | ⟨off,rfl,rfl⟩ | ⟨t,off,rfl,rfl⟩
 ·exact ev.avr q2
 ·obtain ⟨b2,hb2,rfl⟩:=q2.Qhh
  rw [hμi] at hb2
  injection hb2 with hb2
  injection hb2 with hb2
  subst hb2
  rw [Nat.zero_mul,Nat.zero_add]
  exact .d (.v rfl)
 cases q2 with
 | ifc q2=>
  obtain ⟨b2,hb2,rfl⟩:=q2.Qhh
  rw [hμi] at hb2
  injection hb2 with hb2
  injection hb2 with hb2
  subst hb2
  rw [Nat.zero_mul,Nat.zero_add]
  exact .d (.ifc (.v rfl))
end
end Go.Sy
set_option linter.unusedSectionVars false
namespace Go.Sy
def Quy (P:Program) (t:TypeId) (name:String) (g:FuncId):Prop:=
 ∀ (a:Addr) (w:World),(Go.method (P.types.size+Made.depth) t (.pointer (some a)) name).run P w=.ok (g,.pointer (some a)) w
def Qpl:AV->Option (TypeId × AV)
 | .ifc t x=>some (t,x)
 | .d (.ifc t x)=>some (t,.d x)
 | _=>none
def Qu5 (st:St):List Item->Option (TypeId × String × AV × List AV × Option Tmp × List Item)
 | .inRegion ops (i :: rest) :: k=>
  match ops[i]? with
  | some o=>
   match o.op with
   | .call c=>
    match c.callee with
    | .invoke r name=>
     match guardOf st.tm ops o,(valOf st.tm r).bind Qpl,mapVal (valOf st.tm) c.args.toList with
     | some true,some (t,x),some xs=>bif isRef x then some (t,name,x,xs,o.dst,.inRegion ops rest :: k) else none
     | _,_,_=>none
    | _=>none
   | _=>none
  | none=>none
 | _=>none
section
variable {X:Ctx} {T:Tab} {f:FuncId} {k k':List Item} {Q:Frame->Frame->Wt->Prop} {st st':St}
theorem Wai {w:World} {ok:Bool->Nat->Prop} {μ:List (Option Nat)} {x y:AV} {t:TypeId} {v:Value} (h:AVR w ok μ x v) (e:Qpl x=some (t,y)):∃ u,v=.iface t u/\AVR w ok μ y u:=by
 cases h with
 | ifc h=>simp only [Qpl,Option.some.injEq,Prod.mk.injEq] at e;obtain ⟨rfl,rfl⟩:=e;exact ⟨_,rfl,h⟩
 | d h=>
  cases h with
  | ifc h=>simp only [Qpl,Option.some.injEq,Prod.mk.injEq] at e;obtain ⟨rfl,rfl⟩:=e;exact ⟨_,rfl,.d h⟩
  | _=>simp [Qpl] at e
 | _=>simp [Qpl] at e
theorem Wee {g:FuncId} {Zk args:List AV} {x:AV} {t:TypeId} {name:String} {dst:Option Tmp} (ids:List Nat) {Yn Wv:List Row} {ret:AV}
  (e:Qu5 st k=some (t,name,x,Zk,dst,k')) (hm:Quy X.P t name g) (hnf:∀ f c,x≠.d (.fn f c)) (Wis:∀ f c,x≠.fn f c) (he:Enters X.P g) (hh:Qci st.rows ids Yn) (hp:Qgv st.rows ids (Qa2 ids st.rows.length) (x :: Zk) args) (hs:Xz X.P g Yn args Wv ret)
  (Qcs:St.put { st with rows:=Qcn st.rows ids Wv } dst (Qdm (Qa2 ids st.rows.length) ret)=some st') (h:AK X f k' Q st'):AK X f k Q st:=by
 unfold Qu5 at e
 split at e
 ·rename_i ops i rest k0
  split at e
  ·rename_i o ho
   split at e
   ·rename_i c hc
    split at e
    ·rename_i rv nm hg
     refine Qko h fun a C hC b cs _=>?_
     have Qi4:∃ vs,(execOp a.eval o).run X.P C.w=.ok (.enter g vs.toArray) C.w/\Qb1 C.w (C.ok X) C.μ (x :: Zk) vs/\guardOf st.tm ops o=some true/\o.dst=dst/\k'=.inRegion ops rest :: k0:=by
      split at e
      ·rename_i t0 x0 xs h1 h2 h3
       cases hb:isRef x0 with
       | false=>rw [hb] at e;cases e
       | true=>
        rw [hb] at e
        simp only [cond_true,Option.some.injEq,Prod.mk.injEq] at e
        obtain ⟨rfl,rfl,rfl,rfl,e3,e4⟩:=e
        obtain ⟨av,h4,h5⟩:=Option.bind_eq_some_iff.1 h2
        have hv:=hC.val _ _ h4
        obtain ⟨u,hu,hr⟩:=Wai hv h5
        obtain ⟨ad,had⟩:∃ ad,u=.pointer (some ad):=by
         rcases hr.Wat hb with ⟨ad,rfl⟩ | ⟨f',c',rfl⟩
         ·exact ⟨ad,rfl⟩
         exfalso
         cases hr with
         | fn hr=>exact Wis _ _ rfl
         | d hr=>
          cases hr with
          | fn hr=>exact hnf _ _ rfl
          | v hr=>simp [isRef] at hb
        subst had
        refine ⟨.pointer (some ad) :: c.args.toList.map a.eval, ?_,.cons hr (Qk8 hC.val h3),h1,e3,e4.symm⟩
        simp only [execOp,hc,resolve,hg,hu,Sem.run_bind,Sem.run_pure,Result.andThen_ok,invoke,callMethod]
        have hz:(#[Value.iface t0 (.pointer (some ad))] ++ Array.map a.eval c.args)[0]? = some (.iface t0 (.pointer (some ad))):=by
         rw [Array.getElem?_append_left (by simp)]
         rfl
        rw [hz]
        simp only [Sem.run_bind,run_program,Result.andThen_ok,hm ad C.w]
        rw [he]
        congr 2
        refine Array.ext' ?_
        have:List.take c.args.size (List.map a.eval c.args.toList)=List.map a.eval c.args.toList:=List.take_of_length_le (by rw [List.length_map,Array.length_toList];exact Nat.le_refl _)
        simp [this]
      cases e
     obtain ⟨vs,hx,Qfd,hgd,Qym,rfl⟩:=Qi4
     subst Qym
     rw [<- hC.rows] at hh hp Qcs
     have Qmr:=hs (Qay X C ids) vs rfl (Qm2 hC.rel hh) (Qoo hC.rel hh) (Qkv hC.rel hh hp Qfd)
     obtain ⟨e,w',fr,⟨v,μ',rfl,hd⟩,Ql9,_,Qq0⟩:=Qmr (b.atR a (.inRegion ops (i :: rest) :: k0) :: cs)
     have hgg:=stepGR_op (P:=X.P) (b:=b) (k:=k0) (cs:=cs) (w:=C.w) (rest:=rest) ho (Qft hC hgd)
     rw [Oper.semAt_eq _ _ _ (by intro c' hc';rw [hc] at hc';cases hc')] at hgg
     have Qm7:step X.P (lone (b.atR a (.inRegion ops (i :: rest) :: k0)) cs C.w)=.next (lone (Frame.enter X.P g vs.toArray .normal) (b.atR a (.inRegion ops (i :: rest) :: k0) :: cs) C.w):=
      step_lone_go (by rw [hgg];simp [stepG.apply,hx,Frame.atR])
     have Qfu:(b.atR a (.inRegion ops (i :: rest) :: k0)).finish v=b.atR (a.put o.dst v) (.inRegion ops rest :: k0):=by
      rw [Frame.finish_atR,ho];rfl
     have Qk6:Sim X { st with rows:=(Qbe C ids μ' Wv w').rows } a (Qbe C ids μ' Wv w'):=hC.Qgy (Qom hC.rel hh hd.rel) (Qm1 hC.rel hh hd)
     refine ⟨_,Qbe C ids μ' Wv w',Qk6.put Qcs (Qta hC.rel hh hd),.head Qm7 (Ql9.trans (.one ?_))⟩
     rw [<- Qfu]
     exact step_leave_returned Qq0
    cases e
   cases e
  cases e
 cases e
theorem Qnl {P:Program} {g:FuncId} {Zk args:List AV} {x:AV} {t:TypeId} {name:String} {dst:Option Tmp} (S ids:List Nat) {Yn Wv:List Row} {ret:AV}
  (hP:X.P=P) (hm:Quy P t name g) (he:Enters P g) (hs:Xz P g Yn args Wv ret) (e:Qu5 st k=some (t,name,x,Zk,dst,k')) (hnf:∀ f c,x≠.d (.fn f c)) (Wis:∀ f c,x≠.fn f c) (hh:Qci st.rows ids Yn) (hp:Qgv st.rows ids (Qa2 ids st.rows.length) (x :: Zk) args)
  (Qcs:(St.put { st with rows:=Qcn st.rows ids Wv } dst (Qdm (Qa2 ids st.rows.length) ret)).map (St.only S)=some st') (h:AK X f k' Q st'):AK X f k Q st:=by
 subst hP
 obtain ⟨s0,h1,rfl⟩:=Option.map_eq_some_iff.1 Qcs
 exact Wee ids e hm hnf Wis he hh hp hs h1 (Qel S h)
def oA:Option Nat->AV
 | none=>.d .np
 | some a=>.d (pA a 0)
def assertAt (st:St) (k:List Item):Option (TypeId × AV × Option Tmp × List Item):=
 match Qhn st k with
 | some (o,k')=>
  match o.op with
  | .typeAssert x t a true=>
   match (valOf st.tm x).bind Qpl with
   | some (t',y)=>bif Nat.beq t' a then some (a,y,o.dst,k') else none
   | none=>none
  | _=>none
 | none=>none
theorem Wd9 (hT:Xb X.P T) (S:List Nat) {a:TypeId} {y:AV} {dst:Option Tmp} (e:assertAt st k=some (a,y,dst,k')) {d:TypeDesc} (hd:X.P.underlying a=some d) (hni:∀ ms,d≠.interface ms)
  (Qcs:(St.put st dst (.Qn [y,.d (.v (.bool true))])).map (St.only S)=some st') (h:AK X f k' Q st'):AK X f k Q st:=by
 obtain ⟨s0,h1,rfl⟩:=Option.map_eq_some_iff.1 Qcs
 unfold assertAt at e
 split at e
 ·rename_i o k3 Qg7
  split at e
  ·rename_i x t a0 hop
   split at e
   ·rename_i t' y' hx
    cases hb:Nat.beq t' a0 with
    | false=>rw [hb] at e;cases e
    | true=>
     rw [hb] at e
     simp only [cond_true,Option.some.injEq,Prod.mk.injEq] at e
     obtain ⟨rfl,rfl,rfl,rfl⟩:=e
     have ht:=Nat.eq_of_beq_eq_true hb
     subst ht
     refine Ql5 Qg7 (Qel S h) fun a' C hC=>?_
     obtain ⟨av,h4,h5⟩:=Option.bind_eq_some_iff.1 hx
     obtain ⟨u,hu,hr⟩:=Wai (hC.val _ _ h4) h5
     refine ⟨.tuple #[u,.bool true],C,st, ?_,hC,_,h1,.Qn (.cons hr (.cons (.d (.v rfl)) .nil))⟩
     simp only [execOp,hop,hu,Instr.typeAssert,Sem.run_bind,run_underlying hd,Result.andThen_ok]
     cases d<;>first | (exact absurd rfl (hni _)) | simp
   cases e
  cases e
 cases e
end
theorem Wj9 {X:Ctx} {f:FuncId} {k:List Item} {Q:Frame->Frame->Wt->Prop} {st st':St} (S:List Nat) (e:St.only S st=st') (h:AK X f k Q st'):AK X f k Q st:=Qel S (e▸h)
end Go.Sy
