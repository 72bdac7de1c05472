/- The builder for the runner: rows that are given up while others stay. -/
import Derived.Test.YtdhmflhncidjaaaGreatSyRunP
import Derived.Test.YtdhmflhncidjaaaGreatSyBd
set_option linter.unusedVariables false
set_option linter.unusedSimpArgs false
set_option linter.unusedSectionVars false
namespace Go.Sy
mutual
def rfA (p:Nat->Bool):AV->Bool
 | .d _=>true
 | .agg xs=>rfL p xs
 | .Ql xs=>rfL p xs
 | .own id _ _ _=>p id
 | .ptr id _ _ _=>p id
 | .win id _ _=>p id
 | .mp id=>p id
 | .fn _ xs=>rfL p xs
 | .ifc _ x=>rfA p x
 | .bm _ x=>rfA p x
def rfL (p:Nat->Bool):List AV->Bool
 | []=>true
 | x :: xs=>rfA p x && rfL p xs
end
def rfR (p:Nat->Bool):Row->Bool
 | .flat ..=>true
 | .box _ cs=>rfL p cs
 | .mix ..=>false
 | .gone=>true
 | .loop _ _ _ _ _ xs _ _ _=>rfL p xs
 | .dfr _=>true
 | .mp _ _=>true
 | .it id _ _ _=>p id
 | .obj _=>false
theorem Wmz {p:Nat->Bool} {r:Row} (h:rfR p r=true) (w:World) (m:Option Nat):r.ext w m=[]:=by
 cases r<;>first | rfl | cases h
section
variable {w w':World} {ok ok':Bool->Nat->Prop} {μ μ':List (Option Nat)} {p:Nat->Bool} (Jj:∀ t b,ok t b->ok' t b) (hw:∀ t b,ok t b->w'.heap[b]? = w.heap[b]?)
 (hμ:∀ (id:Nat) x,p id=true->μ[id]? = some x->μ'[id]? = some x)
 (hs:∀ (id b:Nat) cs ty,p id=true->μ[id]? = some (some b)->w.heap[b]? = some (.cells cs ty (0,0))->∃ cs',w'.heap[b]? = some (.cells cs' ty (0,0))/\cs'.size=cs.size)
include Jj hw hμ hs
mutual
theorem Zj.on:∀ {x:AV} {v:Value},rfA p x=true->Zj w ok μ x v->Zj w' ok' μ' x v
 | _,_,_,.d h=>.d (h.mono Jj hw)
 | _,_,r,.agg h=>.agg (Jm.on r h)
 | _,_,r,.Ql h=>.Ql (Qaw.on r h)
 | _,_,r,.Qbj h=>.Qbj (hμ _ _ r h)
 | _,_,r,.own h hh h1 h2 h3=>by
  obtain ⟨cs',e1,e2⟩:=hs _ _ _ _ r h hh
  exact .own (hμ _ _ r h) e1 (h1.trans e2.symm) h2 h3
 | _,_,r,.ptr h=>.ptr (hμ _ _ r h)
 | _,_,r,.win h h1 h2=>.win (hμ _ _ r h) h1 h2
 | _,_,r,.mp h=>.mp (hμ _ _ r h)
 | _,_,r,.fn h=>.fn (Jm.on r h)
 | _,_,r,.ifc h=>.ifc (Zj.on r h)
 | _,_,r,.bm h=>.bm (Zj.on r h)
theorem Jm.on:∀ {x:List AV} {v:List Value},rfL p x=true->Jm w ok μ x v->Jm w' ok' μ' x v
 | _,_,_,.nil=>.nil
 | _,_,r,.cons h1 h hs'=>by
  simp only [rfL,Bool.and_eq_true] at r
  exact .cons h1 (Zj.on r.1 h) (Jm.on r.2 hs')
theorem Qaw.on:∀ {x:List AV} {v:List Value},rfL p x=true->Qaw w ok μ x v->Qaw w' ok' μ' x v
 | _,_,_,.nil=>.nil
 | _,_,r,.cons h hs'=>by
  simp only [rfL,Bool.and_eq_true] at r
  exact .cons (Zj.on r.1 h) (Qaw.on r.2 hs')
end
theorem Qbg.on {ob:Option Nat} {r:Row} (hr:rfR p r=true) (h:Qbg w ok μ ob r) (hb:∀ b,ob=some b->w'.heap[b]? = w.heap[b]?):Qbg w' ok' μ' ob r:=by
 cases ob with
 | none=>cases r<;>first | exact h | cases hr
 | some b=>
  have e:=hb b rfl
  cases r with
  | gone=>trivial
  | loop l s fn nt is xs ps asg body=>
   obtain ⟨h0,T,D,vs,h1,h2,h3,h4⟩:=h
   exact ⟨h0,T,D,vs,e.trans h1,h2,Qaw.on Jj hw hμ hs hr h3,h4⟩
  | dfr D=>exact ⟨h.1,e.trans h.2⟩
  | mp es clock=>exact e.trans h
  | it id since seen last=>exact let ⟨m,h1,h2⟩:=h;⟨m,hμ _ _ hr h1,e.trans h2⟩
  | obj o=>cases hr
  | flat fz k ty n g=>
   obtain ⟨cs,vs,h1,h2,h3,h4,h5⟩:=h
   exact ⟨cs,vs,e.trans h1,h2,h3,fun i hi=>(h4 i hi).mono Jj hw,h5⟩
  | mix k ty n g=>cases hr
  | box ty xs=>
   obtain ⟨vs,h1,h2⟩:=h
   exact ⟨vs,e.trans h1,Jm.on Jj hw hμ hs hr h2⟩
end
def Wos:Row:=.flat false 1 0 0 fun _=>[]
def Qrm:Row->Bool
 | .gone=>true
 | _=>false
theorem Qyq {r:Row} (h:Qrm r=false):r≠.gone:=by rintro rfl;cases h
def Qgi (vs:List Nat) (rows:List Row):List Row:=rows.mapIdx fun j r=>bif vs.contains j then Wos else r
def Qjq (vs:List Nat) (μ:List (Option Nat)):List (Option Nat):=μ.mapIdx fun j m=>bif vs.contains j then none else m
def Qhz (vs:List Nat) (rows:List Row) (j:Nat):Bool:=!vs.contains j && match rows[j]? with
 | some r=>!Qrm r
 | none=>false
theorem Qpp {vs:List Nat} {rows:List Row} {j:Nat} {r:Row} (h:(Qgi vs rows)[j]? = some r):(vs.contains j=true/\r=Wos)\/(vs.contains j=false/\rows[j]? = some r):=by
 rw [Qgi,List.getElem?_mapIdx] at h
 obtain ⟨q,h1,h2⟩:=Option.map_eq_some_iff.1 h
 cases hb:vs.contains j with
 | true=>rw [hb] at h2;exact .inl ⟨rfl,h2.symm⟩
 | false=>rw [hb] at h2;exact .inr ⟨rfl,by rw [h1];exact congrArg some h2⟩
theorem Qth {vs:List Nat} {μ:List (Option Nat)} {j:Nat} {m:Option Nat} (h:(Qjq vs μ)[j]? = some m):(vs.contains j=true/\m=none)\/(vs.contains j=false/\μ[j]? = some m):=by
 rw [Qjq,List.getElem?_mapIdx] at h
 obtain ⟨q,h1,h2⟩:=Option.map_eq_some_iff.1 h
 cases hb:vs.contains j with
 | true=>rw [hb] at h2;exact .inl ⟨rfl,h2.symm⟩
 | false=>rw [hb] at h2;exact .inr ⟨rfl,by rw [h1];exact congrArg some h2⟩
theorem Ql9 {vs:List Nat} {μ:List (Option Nat)} {j b:Nat} (h:(Qjq vs μ)[j]? = some (some b)):vs.contains j=false/\μ[j]? = some (some b):=by
 rcases Qth h with ⟨_,h⟩ | h
 ·cases h
 exact h
theorem Qu0 {vs:List Nat} {μ:List (Option Nat)} {j:Nat} {m:Option Nat} (hj:vs.contains j=false) (h:μ[j]? = some m):(Qjq vs μ)[j]? = some m:=by
 rw [Qjq,List.getElem?_mapIdx,h,Option.map_some,hj]
 rfl
def Qjg (p:AV->Bool):List (Nat × AV)->List (Nat × AV)
 | []=>[]
 | (i,av) :: l=>match p av with
  | true=>(i,av) :: Qjg p l
  | false=>(Qjg p l).filter fun q=>!Nat.beq q.1 i
theorem Qqu {p:AV->Bool} {i:Nat} {av:AV}:∀ {l:List (Nat × AV)},(Qjg p l).lookup i=some av->l.lookup i=some av/\p av=true
 | [],h=>by cases h
 | (j,x) :: l,h=>by
  simp only [Qjg] at h
  rw [List.lookup_cons]
  split at h
  ·rename_i hx
   rw [List.lookup_cons] at h
   split at h
   ·rename_i e
    injection h with h
    subst h
    exact ⟨rfl,hx⟩
   exact Qqu h
  obtain ⟨h1,h2⟩:=Qjp h
  have:(i == j)=false:=by simpa using h1
  rw [this]
  exact Qqu h2
theorem Qz6 {X:Ctx} {st:St} {a:Act} {C:Qq} (hC:Sim X st a C) (vs:List Nat) (g:Option Nat) (w':World) (h0:∀ b,¬ X.Qkw b) (hvs:vs.all (Nat.ble X.μ0.length)=true) (Qvd:(st.rows.take X.μ0.length).all (fun r=>!Qrm r)=true)
  (Qd3:(Qgi vs st.rows).all (rfR (Qhz vs st.rows))=true) (t:Aft g C.w w') (hg:∀ q,g=some q->∃ i r,vs.contains i=true/\C.μ[i]? = some (some q)/\st.rows[i]? = some r/\r.live=true):
  Sim X ⟨st.nt,Qjg (rfA (Qhz vs st.rows)) st.tm,Qgi vs st.rows⟩ a ⟨Qjq vs C.μ,Qgi vs C.rows,w'⟩:=by
 have h:=hC.rel
 rw [<- hC.rows] at Qvd Qd3 hg ⊢
 have hge:∀ i,vs.contains i=true->X.μ0.length<=i:=fun i hi=>Nat.le_of_ble_eq_true (List.all_eq_true.1 hvs i (by simpa using hi))
 have Wd0:∀ {j:Nat} {r:Row} {b:Nat} {m:Option Nat},(Qgi vs C.rows)[j]? = some r->b∈r.ext w' m->False:=fun {j r b m} h1 h2=>by
  rw [Wmz (List.all_eq_true.1 Qd3 r (List.mem_of_getElem? h1))] at h2
  cases h2
 have hgn:∀ q,g=some q->X.w0.heap.size<=q:=by
  intro q hq
  obtain ⟨i,r,h1,h2,h3,h4⟩:=hg q hq
  rcases (h.place i q h2).1 with k | k
  ·exfalso
   rcases k with k | k
   ·obtain ⟨j,hj⟩:=List.mem_iff_getElem?.1 k
    have hjl:=(List.getElem?_eq_some_iff.1 hj).1
    have e1:=h.first j _ hj
    have hjr:j < C.rows.length:=by rw [<- h.len];exact (List.getElem?_eq_some_iff.1 e1).1
    have e2:C.rows[j]? = some C.rows[j]:=List.getElem?_eq_getElem hjr
    have Qie:C.rows[j]∈C.rows.take X.μ0.length:=List.mem_of_getElem? (i:=j) (by rw [List.getElem?_take_of_lt hjl];exact e2)
    have e3:=List.all_eq_true.1 Qvd _ Qie
    have:=h.apart i j q r _ h2 e1 h3 e2 h4 (Qyq (by simpa using e3))
    have:=hge i h1
    omega
   exact h0 _ k.2
  exact k
 have Qii:∀ q,g=some q->C.live q:=fun q hq=>by
  obtain ⟨i,r,h1,h2,h3,h4⟩:=hg q hq
  exact Qq.Qrr h2 h3 h4
 have Qy2:∀ b,b < C.w.heap.size->g≠some b->w'.heap[b]? = C.w.heap[b]?:=t.block
 have hlv:∀ b,(⟨Qjq vs C.μ,Qgi vs C.rows,w'⟩:Qq).live b->C.live b:=by
  rintro b ⟨id,m,r,h1,h2,h3,h4⟩
  rcases h4 with rfl | h4
  ·obtain ⟨e1,e2⟩:=Ql9 h1
   rcases Qpp h2 with ⟨e3,_⟩ | ⟨_,e4⟩
   ·rw [e1] at e3;cases e3
   exact Qq.Qrr e2 e4 h3
  exact (Wd0 h2 h4).elim
 have Jj:∀ t b,C.ok X t b->(⟨Qjq vs C.μ,Qgi vs C.rows,w'⟩:Qq).ok X t b:=fun t' b ⟨h1,h2,h3⟩=>⟨Nat.lt_of_lt_of_le h1 t.size,fun k=>h2 (hlv b k),h3⟩
 have hw:∀ t b,C.ok X t b->w'.heap[b]? = C.w.heap[b]?:=fun t' b ⟨h1,h2,h3⟩=>Qy2 b h1 fun e=>h2 (Qii b e)
 have hp:∀ {id:Nat},Qhz vs C.rows id=true->vs.contains id=false/\∃ r,C.rows[id]? = some r/\r≠.gone:=by
  intro id hid
  unfold Qhz at hid
  simp only [Bool.and_eq_true,Bool.not_eq_true'] at hid
  obtain ⟨h1,h2⟩:=hid
  split at h2
  ·rename_i r hr
   exact ⟨h1,r,hr,Qyq (by simpa using h2)⟩
  cases h2
 have hμ:∀ (id:Nat) x,Qhz vs C.rows id=true->C.μ[id]? = some x->(Qjq vs C.μ)[id]? = some x:=fun id x hid hx=>Qu0 (hp hid).1 hx
 have hne:∀ (id b:Nat),Qhz vs C.rows id=true->C.μ[id]? = some (some b)->g≠some b:=by
  intro id b hid hx e
  obtain ⟨i,r,h1,h2,h3,h4⟩:=hg b e
  obtain ⟨q1,s,q2,q3⟩:=hp hid
  have:=h.apart i id b r s h2 hx h3 q2 h4 q3
  subst this
  rw [h1] at q1
  cases q1
 have hs:∀ (id b:Nat) cs ty,Qhz vs C.rows id=true->C.μ[id]? = some (some b)->C.w.heap[b]? = some (.cells cs ty (0,0))->∃ cs',w'.heap[b]? = some (.cells cs' ty (0,0))/\cs'.size=cs.size:=by
  intro id b cs ty hid hx hc
  exact ⟨cs,(Qy2 b (Array.getElem?_eq_some_iff.1 hc).1 (hne id b hid hx)).trans hc,rfl⟩
 refine ⟨⟨?_,t.os.trans h.os,t.tape.trans h.tape,⟨t.output.trans h.output.1,Nat.le_trans h.output.2 t.drawn⟩,Nat.le_trans h.size t.size, ?_, ?_, ?_, ?_, ?_, ?_, ?_, ?_⟩,rfl,hC.defers,hC.nt, ?_⟩
 ·simp [Qjq,Qgi,h.len]
 ·intro b hb ho
  exact (Qy2 b (Nat.lt_of_lt_of_le hb h.size) fun e=>by have:=hgn b e;omega).trans (h.keep b hb ho)
 ·intro b cs ty hc
  have hb:=(Array.getElem?_eq_some_iff.1 hc).1
  obtain ⟨cs',h1,h2⟩:=h.shape b cs ty hc
  exact ⟨cs',(Qy2 b (Nat.lt_of_lt_of_le hb h.size) fun e=>by have:=hgn b e;omega).trans h1,h2⟩
 ·intro id x hx
  refine Qu0 ?_ (h.first id x hx)
  cases hb:vs.contains id with
  | false=>rfl
  | true=>
   have:=hge id hb
   have:=(List.getElem?_eq_some_iff.1 hx).1
   omega
 ·intro id b hb
  obtain ⟨_,e⟩:=Ql9 hb
  exact ⟨(h.place id b e).1,Nat.lt_of_lt_of_le (h.place id b e).2 t.size⟩
 ·intro i j b r s h1 h2 h3 h4 h5 h6
  obtain ⟨v1,e1⟩:=Ql9 h1
  obtain ⟨v2,e2⟩:=Ql9 h2
  rcases Qpp h3 with ⟨q,_⟩ | ⟨_,e3⟩
  ·rw [v1] at q;cases q
  rcases Qpp h4 with ⟨q,_⟩ | ⟨_,e4⟩
  ·rw [v2] at q;cases q
  exact h.apart i j b r s e1 e2 e3 e4 h5 h6
 ·intro id m b r _ h2 h3
  exact (Wd0 h2 h3).elim
 ·intro i j m n b r s _ _ h3 _ h5 _
  exact (Wd0 h3 h5).elim
 ·intro id ob r h1 h2
  rcases Qpp h2 with ⟨q,rfl⟩ | ⟨q,e2⟩
  ·rcases Qth h1 with ⟨_,rfl⟩ | ⟨q2,_⟩
   ·rfl
   rw [q] at q2;cases q2
  rcases Qth h1 with ⟨q2,_⟩ | ⟨_,e1⟩
  ·rw [q] at q2;cases q2
  cases hgb:Qrm r with
  | true=>
   cases r<;>cases hgb
   cases ob<;>trivial
  | false=>
   refine Qbg.on Jj hw hμ hs (List.all_eq_true.1 Qd3 r (List.mem_of_getElem? h2)) (h.rel id ob r e1 e2) ?_
   rintro b rfl
   refine Qy2 b (h.place id b e1).2 (hne id b ?_ e1)
   unfold Qhz
   rw [q,e2]
   simp [hgb]
 intro i av e
 obtain ⟨e1,e2⟩:=Qqu e
 obtain ⟨v,h1,h2⟩:=hC.tm i av e1
 exact ⟨v,h1,Zj.on Jj hw hμ hs e2 h2⟩
theorem Wao {X:Ctx} {f g:FuncId} {k k':List Item} {Q:Frame->Frame->Qq->Prop} {st st1 st':St} {Xx:List AV} {dst:Option Tmp} {ret:AV}
  (e:Qdo st k=some (g,Xx,dst,k')) (he:Enters X.P g)
  (H:∀ (a:Act) (C:Qq) (vs:List Value),Sim X st a C->Qaw C.w (C.ok X) C.μ Xx vs->Calls X.P g vs.toArray C.w fun e w'=>∃ v C',e=.returned v/\C'.w=w'/\Sim X st1 a C'/\Zj C'.w (C'.ok X) C'.μ ret v)
  (Qat:St.put st1 dst ret=some st') (h:AK X f k' Q st'):AK X f k Q st:=by
 unfold Qdo at e
 split at e
 ·rename_i ops i rest k0
  split at e
  ·rename_i o ho
   split at e
   ·rename_i c hc
    split at e
    ·rename_i gv hg
     refine Qix h fun a C hC b cs _=>?_
     have Qcx:∃ vs,(execOp a.eval o).run X.P C.w=.ok (.enter g vs.toArray) C.w/\Qaw C.w (C.ok X) C.μ Xx vs/\guardOf st.tm ops o=some true/\o.dst=dst/\k'=.inRegion ops rest :: k0:=by
      have key:∀ (fid:FuncId) (caps:Array Value),a.eval gv=.func (.func fid) #[] caps->fid=g->(execOp a.eval o).run X.P C.w=.ok (.enter g (c.args.map a.eval ++ caps)) C.w:=by
       rintro fid caps hv rfl
       simp only [execOp,hc,resolve,hg,hv,Deferred.ofValue,Sem.run_bind,Sem.run_pure,Result.andThen_ok,invoke]
       rw [he]
       simp
      split at e
      ·rename_i fid caps xs h1 h2 h3
       injection e with e;injection e with e1 e;injection e with e2 e;injection e with e3 e4
       subst e1;subst e2
       have hv:=hC.val _ _ h2
       obtain ⟨cs,hcs,hr⟩:∃ cs,a.eval gv=.func (.func fid) #[] cs.toArray/\Jm C.w (C.ok X) C.μ caps cs:=by
        generalize a.eval gv=u at hv
        cases hv with
        | fn hv=>exact ⟨_,rfl,hv⟩
       refine ⟨c.args.toList.map a.eval ++ cs, ?_,(Qgu hC.val h3).append hr.toL,h1,e3,e4.symm⟩
       rw [key fid cs.toArray hcs rfl]
       congr 2
       exact Array.ext' (by simp)
      ·rename_i fid caps xs h1 h2 h3
       injection e with e;injection e with e1 e;injection e with e2 e;injection e with e3 e4
       subst e1;subst e2
       have hv:=hC.val _ _ h2
       obtain ⟨cs,hcs,hr⟩:∃ cs,a.eval gv=.func (.func fid) #[] cs.toArray/\VRs C.w (C.ok X) caps cs:=by
        generalize a.eval gv=u at hv
        cases hv with
        | d hv=>
         cases hv with
         | fn hv=>exact ⟨_,rfl,hv⟩
       refine ⟨c.args.toList.map a.eval ++ cs, ?_,(Qgu hC.val h3).append (hr.toA).toL,h1,e3,e4.symm⟩
       rw [key fid cs.toArray hcs rfl]
       congr 2
       exact Array.ext' (by simp)
      ·rename_i fid x xs h1 h2 h3
       injection e with e;injection e with e1 e;injection e with e2 e;injection e with e3 e4
       subst e1;subst e2
       have hv:=hC.val _ _ h2
       obtain ⟨y,hy,hr⟩:∃ y,a.eval gv=.func (.func fid) #[y] #[]/\Zj C.w (C.ok X) C.μ x y:=by
        generalize a.eval gv=u at hv
        cases hv with
        | bm hv=>exact ⟨_,rfl,hv⟩
       refine ⟨y :: c.args.toList.map a.eval, ?_,.cons hr (Qgu hC.val h3),h1,e3,e4.symm⟩
       simp only [execOp,hc,resolve,hg,hy,Deferred.ofValue,Sem.run_bind,Sem.run_pure,Result.andThen_ok,invoke]
       rw [he]
       congr 2
       exact Array.ext' (by simp)
      cases e
     obtain ⟨vs,hx,Qb5,hgd,Qo7,rfl⟩:=Qcx
     subst Qo7
     obtain ⟨e,w',fr,⟨v,C',rfl,rfl,Qhy,Qhx⟩,Qhc,_,Qmv⟩:=H a C vs hC Qb5 (b.atR a (.inRegion ops (i :: rest) :: k0) :: cs)
     have hgg:=stepGR_op (P:=X.P) (b:=b) (k:=k0) (cs:=cs) (w:=C.w) (rest:=rest) ho (Qdv hC hgd)
     rw [Oper.semAt_eq _ _ _ (by intro c' hc';rw [hc] at hc';cases hc')] at hgg
     have Qin:step X.P (lone (b.atR a (.inRegion ops (i :: rest) :: k0)) cs C.w)=.next (lone (Frame.enter X.P g vs.toArray .normal) (b.atR a (.inRegion ops (i :: rest) :: k0) :: cs) C.w):=
      step_lone_go (by rw [hgg];simp [stepG.apply,hx,Frame.atR])
     have Qdw:(b.atR a (.inRegion ops (i :: rest) :: k0)).finish v=b.atR (a.put o.dst v) (.inRegion ops rest :: k0):=by
      rw [Frame.finish_atR,ho];rfl
     refine ⟨_,C',Qhy.put Qat Qhx,.head Qin (Qhc.trans (.one ?_))⟩
     rw [<- Qdw]
     exact step_leave_returned Qmv
    cases e
   cases e
  cases e
 cases e
theorem Wl3 {X:Ctx} {f:FuncId} {k:List Item} {Q:Frame->Frame->Qq->Prop} {st:St} (vs:List Nat) (h0:∀ b,¬ X.Qkw b) (hvs:vs.all (Nat.ble X.μ0.length)=true) (Qvd:(st.rows.take X.μ0.length).all (fun r=>!Qrm r)=true)
  (Qd3:(Qgi vs st.rows).all (rfR (Qhz vs st.rows))=true) (h:AK X f k Q ⟨st.nt,Qjg (rfA (Qhz vs st.rows)) st.tm,Qgi vs st.rows⟩):AK X f k Q st:=fun a C hC=>
 h a ⟨Qjq vs C.μ,Qgi vs C.rows,C.w⟩ (Qz6 hC vs none C.w h0 hvs Qvd Qd3 ⟨rfl,rfl,rfl,Nat.le_refl _,Nat.le_refl _,fun _ _ _=>rfl⟩ fun _ e=>by cases e)
def Qu1 (n0:Nat) (vs:List Nat) (rows:List Row):Bool:=vs.all (Nat.ble n0) && (rows.take n0).all (fun r=>!Qrm r) && (Qgi vs rows).all (rfR (Qhz vs rows))
def Woz:Int->Bool
 | .ofNat a=>Nat.blt a 256
 | .negSucc _=>false
theorem Waq {xs:List Int} (h:xs.all Woz=true):Xr (Qm4 xs)=xs:=by
 have e:Xr (Qm4 xs)=xs.map fun n=>((UInt8.ofNat n.toNat).toNat:Int):=by
  unfold Xr Qm4
  simp
 rw [e]
 clear e
 induction xs with
 | nil=>rfl
 | cons x xs ih=>
  simp only [List.all_cons,Bool.and_eq_true] at h
  rw [List.map_cons,ih h.2]
  congr 1
  cases x with
  | ofNat n=>
   have:=Nat.le_of_ble_eq_true h.1
   simp only [Int.ofNat_eq_natCast,Int.toNat_natCast,UInt8.toNat_ofNat']
   omega
  | negSucc n=>cases h.1
def Qtv (T E:TypeId) (rows:List Row) (bid:Nat):Option (Nat × List Int):=
 match rows[bid]? with
 | some (.box t [_,.own id 1 0 n])=>
  match rows[id]? with
  | some (.flat false 1 e n' g)=>
   match Nat.beq t T && Nat.beq e E && Nat.beq n n',u8s n g with
   | true,some xs=>match Nat.beq xs.length n && xs.all Woz with
    | true=>some (id,xs)
    | false=>none
   | _,_=>none
  | _=>none
 | _=>none
def Wkh (gS:Nat) (T E:TypeId) (n0:Nat) (k:List Item) (st:St):Option (List Item × St):=
 match Qdo st k with
 | some (g,[.ptr bid 0 0 0],dst,k')=>
  match Nat.beq g gS,Qtv T E st.rows bid with
  | true,some (id,xs)=>match Qu1 n0 [bid,id] st.rows with
   | true=>Qjb ⟨st.nt,Qjg (rfA (Qhz [bid,id] st.rows)) st.tm,Qgi [bid,id] st.rows⟩ dst (.d (.v (.string (Qm4 xs)))) k'
   | false=>none
  | _,_=>none
 | _=>none
theorem Qsm {T E:TypeId} {rows:List Row} {bid id:Nat} {xs:List Int} (h:Qtv T E rows bid=some (id,xs)):
  ∃ a g,rows[bid]? = some (.box T [a,.own id 1 0 xs.length])/\rows[id]? = some (.flat false 1 E xs.length g)/\(∀ i,i < xs.length->g i=vec (eI .u8) 0 xs i)/\Xr (Qm4 xs)=xs:=by
 unfold Qtv at h
 split at h
 ·rename_i t a id' n hb
  split at h
  ·rename_i e n' g hf
   split at h
   ·rename_i ys hc hu
    split at h
    ·rename_i hl
     simp only [Bool.and_eq_true] at hc hl
     injection h with h
     injection h with h1 h2
     subst h1 h2
     have c1:=Nat.eq_of_beq_eq_true hc.1.1
     have c2:=Nat.eq_of_beq_eq_true hc.1.2
     have c3:=Nat.eq_of_beq_eq_true hc.2
     have c4:=Nat.eq_of_beq_eq_true hl.1
     subst c1 c2 c3
     subst c4
     exact ⟨_,_,hb,hf,Wbv hu rfl,Waq hl.2⟩
    cases h
   cases h
  cases h
 cases h
theorem Wmi {X:Ctx} {f:FuncId} {k k':List Item} {Q:Frame->Frame->Qq->Prop} {st st':St} {gS T E:Nat} (hb:We2 X.P gS T E) (he:Enters X.P gS) (h0:∀ b,¬ X.Qkw b) (e:Wkh gS T E X.μ0.length k st=some (k',st')) (h:AK X f k' Q st'):AK X f k Q st:=by
 unfold Wkh at e
 split at e
 ·rename_i g bid dst k2 Qdd
  split at e
  ·rename_i id xs hg hbl
   split at e
   ·rename_i hv
    have hg:=Nat.eq_of_beq_eq_true hg
    subst hg
    obtain ⟨rfl,hp⟩:=Qeg e
    simp only [Qu1,Bool.and_eq_true] at hv
    obtain ⟨⟨v1,v2⟩,v3⟩:=hv
    obtain ⟨a,gg,hr1,hr2,Wj7,hbs⟩:=Qsm hbl
    generalize hs:Qm4 xs=s at hp hbs
    subst hbs
    refine Wao Qdd he (fun a C vs hC Qb5=>?_) hp h
    have Zb:=hC.rel
    rw [<- hC.rows] at hr1 hr2
    cases Qb5 with
    | cons h1 hs=>
     cases hs
     cases h1 with
     | ptr hm=>
      rename_i b
      obtain ⟨us,c1,c2⟩:=Zb.rel bid _ _ hm hr1
      cases c2 with
      | cons p1 c3 c4=>
       rename_i pv us
       cases c4 with
       | cons p2 c5 c6=>
        rename_i sv us
        cases c6
        have fin:∀ (go:Option Nat),(∀ q,go=some q->C.μ[id]? = some (some q))->∀ (w':World),Aft go C.w w'->∃ v C',Ending.returned (.string s)=.returned v/\C'.w=w'/\Sim X ⟨st.nt,Qjg (rfA (Qhz [bid,id] st.rows)) st.tm,Qgi [bid,id] st.rows⟩ a C'/\Zj C'.w (C'.ok X) C'.μ (.d (.v (.string s))) v:=
         fun go hgo w' t=>⟨_,⟨Qjq [bid,id] C.μ,Qgi [bid,id] C.rows,w'⟩,rfl,rfl,Qz6 hC [bid,id] go w' h0 v1 v2 v3 t (fun q hq=>⟨id,_,by simp,hgo q hq,by rw [<- hC.rows];exact hr2,rfl⟩),.d (.v rfl)⟩
        have hsz:(Xr s).length=s.data.toList.length:=by simp [Xr]
        have hz:∀ n,n=(Xr s).length->n=0->s=⟨#[]⟩:=fun n h1 h2=>by
         have hd:s.data.toList=[]:=List.length_eq_zero_iff.1 (by rw [<- hsz,<- h1,h2])
         cases s with
         | mk d=>
          have:d=#[]:=Array.ext' hd
          rw [this]
        generalize hn:(Xr s).length=n at c5
        generalize ho:(0:Nat)=off at c5
        cases c5 with
        | Qbj hμ=>
         have:=hz 0 hn.symm rfl
         subst this
         exact (hb.empty b pv C.w c1).mono fun e w' ⟨e1,e2⟩=>by subst e1;subst e2;exact fin none (by intro _ h;cases h) _ (Qx0 _)
        | own hμ hh hs hn2 hc=>
         rename_i g cap cur ty
         subst ho
         obtain ⟨cur',ws,r1,r2,r3,r4,r5⟩:=Zb.rel id _ _ hμ hr2
         rw [hh] at r1
         injection r1 with r1
         injection r1 with r1 r1'
         subst r1
         subst r1'
         rw [Nat.zero_mul] at c1
         by_cases hn0:n=0
         ·have:=hz n hn.symm hn0
          subst this
          subst hn0
          by_cases hc0:cap=0
          ·subst hc0
           exact (hb.noroom b g pv cur C.w c1 hh).mono fun e w' ⟨e1,e2⟩=>by subst e1;subst e2;exact fin none (by intro _ h;cases h) _ (We4 _ _)
          exact (hb.room b g cap pv C.w hc0 c1).mono fun e w' ⟨e1,e2⟩=>by subst e1;subst e2;exact fin none (by intro _ h;cases h) _ (Qx0 _)
         have hll:n=s.data.toList.length:=hn.symm.trans hsz
         rw [hll] at c1
         have Qdd:=hb.full b g cap pv cur s.data.toList C.w (fun e=>hn0 (by rw [hll,e];rfl)) (by omega) hc (by omega) c1 hh (fun j x hx=>?_)
         ·exact Qdd.mono fun e w' ⟨e1,e2⟩=>by
           subst e1;subst e2
           rw [show (⟨s.data.toList.toArray⟩:ByteArray)=s by simp]
           exact fin (some g) (by intro k hk;cases hk;exact hμ) _ (Wb7 _ _ _)
         have hj:j < n:=by rw [hll];exact (List.getElem?_eq_some_iff.1 hx).1
         have hv:=r4 j (by rw [hn];exact hj)
         have hl:=r3 j (by rw [hn];exact hj)
         have hg5:=fun u=>r5 j 0 u (by rw [hn];exact hj)
         rw [Wj7 j (by rw [hn];exact hj)] at hv
         simp only [vec,eI,Wfp hx] at hv
         generalize ws j=q at hv hl hg5
         cases hv with
         | cons o1 o2 o3=>
          cases o3
          cases o2
          have:=hg5 _ rfl
          simpa using this
   cases e
  cases e
 cases e
def Wng (P:Program) (gW T E:Nat):Prop:=∀ (a:AV),a=.d (.v (.pointer none))\/a=.ptr 0 0 0 0->∀ (s t:ByteArray),s.size+t.size<=140737488355328 ->
 Xt P gW [.box T [a,.own 1 1 0 (Xr s).length],.flat false 1 E (Xr s).length (vec (eI .u8) 0 (Xr s))] [.ptr 0 0 0 0,.d (.v (.string t))]
  [.box T [.ptr 0 0 0 0,.own 2 1 0 (Xr (s ++ t)).length],.gone,.flat false 1 E (Xr (s ++ t)).length (vec (eI .u8) 0 (Xr (s ++ t)))] (.Ql [.d (.v (.int .i64 (t.size:Int))),.d (.v .nilIface)])
def Wkv (gW T E:Nat) (k:List Item) (st:St):Option (List Item × St):=
 match Qdo st k with
 | some (g,[.ptr bid 0 0 0,_],_,_)=>
  match Nat.beq g gW,st.rows[bid]? with
  | true,some (.box t [a,.d (.v (.slice none 0 0))])=>match Nat.beq t T with
   | true=>some (k,{ st with rows:=st.rows.set bid (.box T [a,.own st.rows.length 1 0 0]) ++ [.flat false 1 E 0 fun _=>[]] })
   | false=>none
  | _,_=>none
 | _=>none
theorem Wms {X:Ctx} {f:FuncId} {k k':List Item} {Q:Frame->Frame->Qq->Prop} {st st':St} {gW T E:Nat} (e:Wkv gW T E k st=some (k',st')) (h:AK X f k' Q st'):AK X f k Q st:=by
 unfold Wkv at e
 split at e
 ·rename_i g bid _ _ _ Qdd
  split at e
  ·rename_i t a hg hr
   split at e
   ·rename_i ht
    have ht:=Nat.eq_of_beq_eq_true ht
    subst ht
    injection e with e
    injection e with e1 e2
    subst e1 e2
    exact Qjx bid 1 1 E (fun _=>[]) (tb:=t) (cs:=[a,.d (.v (.slice none 0 0))]) (by rw [hr];rfl) rfl h
   cases e
  cases e
 cases e
def wsA (bid:Nat):AV->Option AV
 | .d (.v (.pointer none))=>some (.d (.v (.pointer none)))
 | .ptr i 0 0 0=>match Nat.beq i bid with
  | true=>some (.ptr 0 0 0 0)
  | false=>none
 | _=>none
theorem Wli {bid:Nat} {a a0:AV} (h:wsA bid a=some a0) (ρ:Nat->Nat) (hρ:ρ 0=bid):a=Qa0 ρ a0/\(a0=.d (.v (.pointer none))\/a0=.ptr 0 0 0 0):=by
 unfold wsA at h
 split at h
 ·injection h with h
  subst h
  exact ⟨rfl,.inl rfl⟩
 ·split at h
  ·rename_i hb
   have hb:=Nat.eq_of_beq_eq_true hb
   injection h with h
   subst h hb
   exact ⟨by simp [Qa0,hρ],.inr rfl⟩
  cases h
 cases h
def Qkm (T E bid id:Nat) (ys:List Int) (rows:List Row):List Row:=
 ((rows.set bid (.box T [.ptr bid 0 0 0,.own rows.length 1 0 ys.length])).set id .gone) ++ [.flat false 1 E ys.length (vec (eI .u8) 0 ys)]
def Wkw (gW T E:Nat) (n0:Nat) (k:List Item) (st:St):Option (List Item × St):=
 match Qdo st k with
 | some (g,[.ptr bid 0 0 0,.d (.v (.string t))],dst,k')=>
  match Nat.beq g gW,Qtv T E st.rows bid,st.rows[bid]? with
  | true,some (id,xs),some (.box _ (a :: _))=>
   match wsA bid a,!Nat.beq bid id && Nat.ble (xs.length+t.size) 140737488355328 && Qu1 n0 [id] (Qkm T E bid id (xs ++ Xr t) st.rows) with
   | some _,true=>Qjb ⟨st.nt,Qjg (rfA (Qhz [id] (Qkm T E bid id (xs ++ Xr t) st.rows))) st.tm,Qgi [id] (Qkm T E bid id (xs ++ Xr t) st.rows)⟩ dst (.Ql [.d (.v (.int .i64 (t.size:Int))),.d (.v .nilIface)]) k'
   | _,_=>none
  | _,_,_=>none
 | _=>none
def Wcj (dst:Option Tmp) (v:AV) (tm:List (Nat × AV)):List (Nat × AV):=match dst with
 | none=>tm
 | some d=>(d,v) :: tm
theorem Wmt {X:Ctx} {f:FuncId} {k k':List Item} {Q:Frame->Frame->Qq->Prop} {st st':St} {gW T E:Nat} (hw:Wng X.P gW T E) (he:Enters X.P gW) (h0:∀ b,¬ X.Qkw b) (e:Wkw gW T E X.μ0.length k st=some (k',st')) (h:AK X f k' Q st'):AK X f k Q st:=by
 unfold Wkw at e
 split at e
 ·rename_i g bid t dst k2 Qdd
  split at e
  ·rename_i id xs tt a tl hg hbl Wdv
   split at e
   ·rename_i a0 hwa hc
    simp only [Bool.and_eq_true,Qu1,Bool.not_eq_true'] at hc
    obtain ⟨⟨hne,hsz⟩,⟨v1,v2⟩,v3⟩:=hc
    have hne:bid≠id:=fun e=>by subst e;simp at hne
    have hsz:=Nat.le_of_ble_eq_true hsz
    have hg:=Nat.eq_of_beq_eq_true hg
    subst hg
    obtain ⟨rfl,hp⟩:=Qeg e
    obtain ⟨a1,gg,hr1,hr2,Wj7,hbs⟩:=Qsm hbl
    rw [hr1] at Wdv
    injection Wdv with Wdv
    injection Wdv with hb1 hb2
    injection hb2 with hb2 hb3
    subst hb1 hb2 hb3
    generalize hs:Qm4 xs=s at hbs
    subst hbs
    have hlen:(Xr (s ++ t)).length=(Xr s ++ Xr t).length:=by rw [Qjm]
    have hl2:=(List.getElem?_eq_some_iff.1 hr2).1
    have hl1:=(List.getElem?_eq_some_iff.1 hr1).1
    obtain ⟨ea,ha0⟩:=Wli hwa (Zw [bid,id] (st.rows.set id (.flat false 1 E (Xr s).length (vec (eI .u8) 0 (Xr s)))).length) (by simp [Zw])
    refine Qgp id (vec (eI .u8) 0 (Xr s)) hr2 Wj7 rfl ?_
    have Qat:St.put ⟨st.nt,st.tm,Qkm T E bid id (Xr s ++ Xr t) st.rows⟩ dst (.Ql [.d (.v (.int .i64 (t.size:Int))),.d (.v .nilIface)])=some ⟨st.nt,(Wcj dst (.Ql [.d (.v (.int .i64 (t.size:Int))),.d (.v .nilIface)]) st.tm),Qkm T E bid id (Xr s ++ Xr t) st.rows⟩:=by
     cases dst with
     | none=>rfl
     | some d=>
      simp only [St.put] at hp ⊢
      cases hd:Nat.blt d st.nt with
      | true=>rfl
      | false=>rw [hd] at hp;cases hp
    refine Qiv [bid,id] (Xb:=[.box T [a0,.own 1 1 0 (Xr s).length],.flat false 1 E (Xr s).length (vec (eI .u8) 0 (Xr s))]) (args:=[.ptr 0 0 0 0,.d (.v (.string t))])
     (by exact Qdd) he ?_ ?_ (hw a0 ha0 s t (by rw [Qfk] at hsz;exact hsz)) (st':=⟨st.nt,(Wcj dst (.Ql [.d (.v (.int .i64 (t.size:Int))),.d (.v .nilIface)]) st.tm),Qkm T E bid id (Xr s ++ Xr t) st.rows⟩) ?_ ?_
    ·refine Qj2 ?_ ?_ rfl rfl (by simp [hne])
     ·simp only [List.length_set] at ea ⊢
      rw [List.getElem?_set_ne (Ne.symm hne),hr1]
      simp only [Qb0,Qg3]
      rw [<- ea]
      simp [Qa0,Zw]
     simp [hl2,Qb0]
    ·exact .cons (by have:=Pass.same (rows:=(st.rows.set id (.flat false 1 E (Xr s).length (vec (eI .u8) 0 (Xr s))))) (ids:=[bid,id]) (ρ:=Zw [bid,id] (st.rows.set id (.flat false 1 E (Xr s).length (vec (eI .u8) 0 (Xr s)))).length) (.ptr 0 0 0 0);simpa [Qa0,Zw] using this) (.cons (Qk _) .nil)
    ·refine Eq.trans (congrArg (fun s=>St.put s dst (.Ql [.d (.v (.int .i64 (t.size:Int))),.d (.v .nilIface)])) ?_) Qat
     simp only [St.mk.injEq,true_and]
     have hmv:∀ N,Zw [bid,id] N 2=N:=fun N=>by simp [Zw]
     simp [Qav,Qew,Qkm,Qb0,Qg3,Qa0,hmv,Qjm,List.set_comm _ _ hne]
     simp [Zw]
    refine Wl3 [id] h0 v1 v2 v3 ?_
    have:(⟨st.nt,Qjg (rfA (Qhz [id] (Qkm T E bid id (Xr s ++ Xr t) st.rows))) (Wcj dst (.Ql [.d (.v (.int .i64 (t.size:Int))),.d (.v .nilIface)]) st.tm),Qgi [id] (Qkm T E bid id (Xr s ++ Xr t) st.rows)⟩:St)=st':=by
     cases dst with
     | none=>
      injection hp with hp
     | some d=>
      simp only [St.put] at hp
      cases hd:Nat.blt d st.nt with
      | true=>
       rw [hd] at hp
       injection hp with hp
      | false=>rw [hd] at hp;cases hp
    rw [this]
    exact h
   cases e
  cases e
 cases e
end Go.Sy
