/- More rules: cuts, rows that are frozen or seen otherwise, calls that keep some slots, stores into rows. -/
import Derived.Test.YtdhmflhncidjaaaGreatSyJ
import Derived.Orders
set_option linter.unusedVariables false
set_option linter.unusedSimpArgs false
namespace Go.Sy
section
variable {X:Ctx} {T:Tab} {f:FuncId} {k k':List Item} {Q:Frame->Frame->Qq->Prop} {st st':St}
theorem Qpa {ρ:Nat->Nat}:∀ {l:List (Nat × AV)} {i:Nat} {av:AV},l.lookup i=some av->(l.map fun p=>(p.1,Qa0 ρ p.2)).lookup i=some (Qa0 ρ av)
 | [],_,_,h=>by simp at h
 | (j,x) :: l,i,av,h=>by
  rw [List.lookup_cons] at h
  rw [List.map_cons,List.lookup_cons]
  split at h
  ·rename_i e
   injection h with h
   subst h
   simp [e]
  rename_i e
  simp only [e]
  exact Qpa h
theorem Waw {S:List Nat} {tm:List (Nat × AV)} {i:Nat} {av:AV} (e:(S.filterMap fun j=>(tm.lookup j).map fun a=>(j,a)).lookup i=some av):tm.lookup i=some av:=by
 have:=Qce e
 simp only [List.mem_filterMap] at this
 obtain ⟨j,_,e⟩:=this
 obtain ⟨y,h1,h2⟩:=Option.map_eq_some_iff.1 e
 injection h2 with h2 h3
 subst h2
 subst h3
 exact h1
theorem Qal {rows:List Row} {ρ:Nat->Nat}:∀ {Yu:List Nat} {rs:List Row},Yu.map (fun i=>rows[i]?)=rs.map (fun r=>some (Qb0 ρ r))->Sel rows ρ Yu rs
 | [],[],_=>.nil
 | [],_ :: _,h=>by simp at h
 | _ :: _,[],h=>by simp at h
 | i :: Yu,r :: rs,h=>by
  simp only [List.map_cons,List.cons.injEq] at h
  exact .cons h.1 (Qal h.2)
theorem Qtn (S Yu:List Nat) (e1:(st.only S).tm=st'.tm.map fun p=>(p.1,Qa0 (Qbm Yu st.rows.length) p.2)) (e2:Yu.map (fun i=>st.rows[i]?)=st'.rows.map fun r=>some (Qb0 (Qbm Yu st.rows.length) r))
  (e3:st'.nt=st.nt) (hn:Yu.Nodup) (h0:Yu.take X.μ0.length=List.range X.μ0.length) (h:AK X f k Q st'):AK X f k Q st:=by
 obtain ⟨nt,tm,rows⟩:=st'
 simp only at e1 e2 e3
 subst e3
 refine Wba Yu rows tm (Qal e2) hn h0 (fun i av e=>?_) h
 have:=Qpa (ρ:=Qbm Yu st.rows.length) e
 rw [<- e1] at this
 exact Waw this
theorem Qx6 (tm':List (Nat × AV)) (ht:∀ i av,tm'.lookup i=some av->st.tm.lookup i=some av) (h:AK X f k Q { st with tm:=tm' }):AK X f k Q st:=
 fun a C hC=>h a C ⟨hC.rel,hC.rows,hC.defers,hC.nt,fun i av e=>hC.tm i av (ht i av e)⟩
theorem Wi1 {X:Ctx} {f g:FuncId} {k k':List Item} {Q:Frame->Frame->Qq->Prop} {st st':St} {Xx args:List AV} {dst:Option Tmp} (S ids:List Nat) {Xb Qr:List Row} {ret:AV}
  (he:Enters X.P g) (hs:Xt X.P g Xb args Qr ret) (e:Qdo st k=some (g,Xx,dst,k')) (hh:Qbz st.rows ids Xb) (hp:Qff st.rows ids (Zw ids st.rows.length) Xx args)
  (Qat:(St.put { st with rows:=Qav st.rows ids Qr } dst (Qa0 (Zw ids st.rows.length) ret)).map (St.only S)=some st') (h:AK X f k' Q st'):AK X f k Q st:=by
 obtain ⟨s0,h1,rfl⟩:=Option.map_eq_some_iff.1 Qat
 exact Qiv ids e he hh hp hs h1 (Qdh S h)
theorem Qao (rows:List Row):Qbz rows [] []:=⟨List.nodup_nil,rfl,fun _ _ _ h=>by simp at h⟩
theorem Qpf {C:Qq} (h:Wt X C) {id:Nat} {r r':Row} (hr:C.rows[id]? = some r) (hl:r'.live=true->r.live=true) (hg:r≠.gone)
  (Zb:∀ (ok:Bool->Nat->Prop) (ob:Option Nat),Qbg C.w ok C.μ ob r->Qbg C.w ok C.μ ob r') (hx:∀ w m,r'.ext w m=[]:=by intros;rfl):
  Wt X ⟨C.μ,C.rows.set id r',C.w⟩/\Ev X C ⟨C.μ,C.rows.set id r',C.w⟩:=by
 have hlt:=(List.getElem?_eq_some_iff.1 hr).1
 have Qii:∀ {b:Nat},(⟨C.μ,C.rows.set id r',C.w⟩:Qq).live b->C.live b:=by
  rintro b ⟨i,m,s,h1,h2,h3,h4⟩
  rcases (Qb2 hlt).1 h2 with ⟨rfl,rfl⟩ | ⟨_,h2⟩
  ·rcases h4 with h4 | h4
   ·exact ⟨id,m,r,h1,hr,hl h3,.inl h4⟩
   rw [hx] at h4;cases h4
  exact ⟨i,m,s,h1,h2,h3,h4⟩
 have ev:Ev X C ⟨C.μ,C.rows.set id r',C.w⟩:=⟨Nat.le_refl _,fun _ _ _=>rfl,fun _ _ hl k=>hl (Qii k),fun _ _ _ k=>⟨_,k,rfl⟩,fun _ _ hx=>hx⟩
 have hold:∀ {i b:Nat} {m:Option Nat} {s:Row},(C.rows.set id r')[i]? = some s->b∈s.ext C.w m->C.rows[i]? = some s:=by
  intro i b m s h2 h3
  rcases (Qb2 hlt).1 h2 with ⟨rfl,rfl⟩ | ⟨_,h2⟩
  ·rw [hx] at h3;cases h3
  exact h2
 refine ⟨⟨by simp [h.len],h.os,h.tape,h.output,h.size,h.keep,h.shape,h.first,h.place, ?_, ?_, ?_, ?_⟩,ev⟩
 ·intro i j b p q h1 h2 h3 h4 h5 h6
  rcases (Qb2 hlt).1 h3 with ⟨rfl,rfl⟩ | ⟨n1,h3⟩<;>rcases (Qb2 hlt).1 h4 with ⟨rfl,rfl⟩ | ⟨n2,h4⟩
  ·rfl
  ·exact h.apart id j b r q h1 h2 hr h4 (hl h5) h6
  ·exact h.apart i id b p r h1 h2 h3 hr h5 hg
  exact h.apart i j b p q h1 h2 h3 h4 h5 h6
 ·intro i m b p h1 h2 h3
  exact h.Qb4 i m b p h1 (hold h2 h3) h3
 ·intro i j m n b p q h1 h2 h3 h4 h5 h6
  have h3:=hold h3 h5
  rcases (Qb2 hlt).1 h4 with ⟨rfl,rfl⟩ | ⟨n2,h4⟩
  ·exact ⟨(h.Qb7 i id m n b p r h1 h2 h3 hr h5 hg).1,fun h7=>by rw [hx] at h7;cases h7⟩
  exact h.Qb7 i j m n b p q h1 h2 h3 h4 h5 h6
 intro i o s h1 h2
 rcases (Qb2 hlt).1 h2 with ⟨rfl,rfl⟩ | ⟨n1,h2⟩
 ·exact Zb _ _ ((h.rel id o r h1 hr).mono ev.ok ev.same ev.pre ev.shape (fun _ _=>rfl) (fun _ _=>rfl))
 exact (h.rel i o s h1 h2).mono ev.ok ev.same ev.pre ev.shape (fun _ _=>rfl) (fun _ _=>rfl)
theorem Qrg {id:Nat} {r r':Row} (hr:st.rows[id]? = some r) (hl:r'.live=true->r.live=true) (hg:r≠.gone)
  (Zb:∀ (w:World) (μ:List (Option Nat)) (ok:Bool->Nat->Prop) (ob:Option Nat),Qbg w ok μ ob r->Qbg w ok μ ob r') (hs:st'={ st with rows:=st.rows.set id r' }) (h:AK X f k Q st') (hx:∀ w m,r'.ext w m=[]:=by intros;rfl):AK X f k Q st:=by
 subst hs
 intro a C hC b cs hb hk
 obtain ⟨h1,h2⟩:=Qpf hC.rel (by rw [hC.rows];exact hr) hl hg (Zb C.w C.μ) hx
 have:=hC.Qds h2 h1
 simp only at this
 rw [hC.rows] at this
 obtain ⟨C',fr,q1,q2,q3⟩:=h a _ this b cs hb hk
 exact ⟨C',fr,q1,q2,q3⟩
theorem Qcb (id:Nat) {kk n:Nat} {ty:TypeId} {g:Nat->List DV} (hr:st.rows[id]? = some (.flat false kk ty n g)) (hs:st'={ st with rows:=st.rows.set id (.flat true kk ty n g) }) (h:AK X f k Q st'):AK X f k Q st:=
 Qrg hr (by intro h;cases h) (by simp) (fun w μ ok ob h=>by cases ob<;>exact h) hs h
theorem Qgp (id:Nat) {kk n:Nat} {fz:Bool} {ty:TypeId} {g:Nat->List DV} (g':Nat->List DV) (hr:st.rows[id]? = some (.flat fz kk ty n g)) (hg:∀ i,i < n->g i=g' i)
  (hs:st'={ st with rows:=st.rows.set id (.flat fz kk ty n g') }) (h:AK X f k Q st'):AK X f k Q st:=
 Qrg (r':=.flat fz kk ty n g') hr (fun h=>h) (by simp) (fun w μ ok ob h=>by
  cases ob with
  | none=>exact h
  | some b=>
   obtain ⟨cs,vs,h1,h2,h3,h4,h5⟩:=h
   exact ⟨cs,vs,h1,h2,h3,fun i hi=>hg i hi▸h4 i hi,h5⟩) hs h
theorem Qhh {α:Type} {enc:α->List DV} {z:α} {xs:List α}:∀ i,i < xs.length->(fun j=>(xs.map enc).getD j []) i=vec enc z xs i:=by
 intro i hi
 simp [vec,hi]
mutual
inductive Qla (rows:List Row):AV->DV->Prop
 | d (x:DV):Qla rows (.d x) x
 | nil (g:Nat->List DV):Qla rows (.d (.v (.slice none 0 0))) (.sl true 0 g)
 | own {id k n:Nat} {ty:TypeId} {g:Nat->List DV} (h:rows[id]? = some (.flat true k ty n g)):Qla rows (.own id k 0 n) (.sl true n g)
 | part {id k off m n:Nat} {ty:TypeId} {g:Nat->List DV} (h:rows[id]? = some (.flat true k ty n g)) (hm:off+m<=n):Qla rows (.own id k off m) (.sl true m fun j=>g (off+j))
 | agg {xs:List AV} {ys:List DV} (h:Qn7 rows xs ys):Qla rows (.agg xs) (.agg ys)
 | Qp6 {xs:List DV} {ys:List DV} (h:Qn7 rows (xs.map .d) ys):Qla rows (.d (.agg xs)) (.agg ys)
inductive Qn7 (rows:List Row):List AV->List DV->Prop
 | nil:Qn7 rows [] []
 | cons {x:AV} {y:DV} {xs:List AV} {ys:List DV} (h:Qla rows x y) (hs:Qn7 rows xs ys):Qn7 rows (x :: xs) (y :: ys)
end
theorem Wg3 {C:Qq} (h:Wt X C) {id b k n:Nat} {ty:TypeId} {g:Nat->List DV} (hμ:C.μ[id]? = some (some b)) (hr:C.rows[id]? = some (.flat true k ty n g)):C.ok X true b:=by
 obtain ⟨h1,h2⟩:=h.place id b hμ
 refine ⟨h2, ?_,fun _=>.inr h1⟩
 rintro ⟨j,m,r,e1,e2,e3,e4⟩
 have:=h.Qjc e1 hμ e2 hr e3 (by simp) e4 (.inl rfl)
 subst this
 rw [hr] at e2
 injection e2 with e2
 subst e2
 cases e3
theorem Wbs {C:Qq} (h:Wt X C) {id k off m n:Nat} {ty:TypeId} {g g':Nat->List DV} (hr:C.rows[id]? = some (.flat true k ty n g)) (hm:off+m<=n) (hg:∀ j,j < m->g' j=g (off+j)) {v:Value}
  (hv:Zj C.w (C.ok X) C.μ (.own id k off m) v):VR C.w (C.ok X) (.sl true m g') v:=by
 cases hv with
 | Qbj _=>exact .sl0
 | own hμ hh hs hn hc=>
  obtain ⟨cs',vs,r1,r2,r3,r4,r5⟩:=h.rel id _ _ hμ hr
  rename_i b c cs ty'
  rcases Nat.eq_zero_or_pos m with h0 | h0
  ·subst h0;exact .sl0
  refine .sl k (fun j=>vs (off+j)) h0 hn (Wg3 h hμ hr) (fun i hi=>r3 _ (by omega)) (fun i hi=>by rw [hg i hi];exact r4 _ (by omega)) (fun i j v hi hj=>?_)
  rw [cell_of_row _ _ _ _ _ _ r1]
  have:=r5 (off+i) j v (by omega) hj
  rw [Nat.add_mul] at this
  exact this
mutual
theorem Qwv {C:Qq} (h:Wt X C):∀ {x:AV} {y:DV} {v:Value},Qla C.rows x y->Zj C.w (C.ok X) C.μ x v->VR C.w (C.ok X) y v
 | _,_,_,.d x,.d hv=>hv
 | _,_,v,.nil g,hv=>by
  have:=hv.Qbt
  subst this
  exact .sl0
 | _,_,_,.own hr,hv=>Wbs h hr (by omega) (fun j _=>by rw [Nat.zero_add]) hv
 | _,_,_,.part hr hm,hv=>Wbs h hr hm (fun _ _=>rfl) hv
 | _,_,_,.agg hs,hv=>by
  cases hv with
  | agg hv=>exact .agg (Qpi h hs hv)
 | _,_,_,.Qp6 hs,hv=>by
  cases hv with
  | d hv=>
   cases hv with
   | agg hv=>exact .agg (Qpi h hs hv.toA)
theorem Qpi {C:Qq} (h:Wt X C):∀ {x:List AV} {y:List DV} {v:List Value},Qn7 C.rows x y->Jm C.w (C.ok X) C.μ x v->VRs C.w (C.ok X) y v
 | _,_,_,.nil,.nil=>.nil
 | _,_,_,.cons k ks,.cons h1 hv hs=>.cons h1 (Qwv h k hv) (Qpi h ks hs)
end
theorem Wl1 (i:Nat) {av:AV} {y:DV} (e:st.tm.lookup i=some av) (hs:Qla st.rows av y) (he:st'={ st with tm:=(i,.d y) :: st.tm }) (h:AK X f k Q st'):AK X f k Q st:=by
 subst he
 intro a C hC b cs hb hk
 refine h a C ⟨hC.rel,hC.rows,hC.defers,hC.nt,fun j av' e'=>?_⟩ b cs hb hk
 simp only [List.lookup_cons] at e'
 split at e'
 ·rename_i hj
  have hj:j=i:=by simpa using hj
  subst hj
  injection e' with e'
  subst e'
  obtain ⟨v,h1,h2⟩:=hC.tm j _ e
  rw [<- hC.rows] at hs
  exact ⟨v,h1,.d (Qwv hC.rel hs h2)⟩
 exact hC.tm j av' e'
def Wb8 (T:Tab) (st:St) (k:List Item):Option (BinOp × TypeId × Value × Value × Option Tmp × List Item):=
 match Qde st k with
 | some (o,k')=>
  match o.op with
  | .binOp op t x y _=>
   match valOf st.tm x,valOf st.tm y with
   | some (.d (.v u)),some (.d (.v v))=>bif Qn8 T t u then some (op,t,u,v,o.dst,k') else none
   | _,_=>none
  | _=>none
 | none=>none
theorem Qrf (hT:Qw X.P T) {op:BinOp} {t:TypeId} {u v z:Value} {dst:Option Tmp} (e1:Wb8 T st k=some (op,t,u,v,dst,k')) (hz:Qjs op u v=some z)
  (h1:St.put st dst (.d (.v z))=some st') (h:AK X f k' Q st'):AK X f k Q st:=by
 unfold Wb8 at e1
 split at e1
 ·rename_i o k3 Qbe
  split at e1
  ·rename_i op' t' x y ty hop
   split at e1
   ·rename_i u' v' hx hy
    cases hb:Qn8 T t' u' with
    | false=>rw [hb] at e1;cases e1
    | true=>
     rw [hb] at e1
     simp only [cond_true,Option.some.injEq,Prod.mk.injEq] at e1
     obtain ⟨rfl,rfl,rfl,rfl,rfl,rfl⟩:=e1
     refine Qd6 Qbe h fun a C hC=>⟨z,C,st, ?_,hC,_,h1,.d (.v (Qyb hz))⟩
     have hu:=(hC.val _ _ hx).Qbt
     have hv:=(hC.val _ _ hy).Qbt
     have:=Qyc (P:=X.P) (w:=C.w) (t:=t') (x:=x) (y:=y) hz (fun p q h1 h2=>by
      subst h1
      exact hT.Qly.mem _ (by simpa [Qn8] using hb))
     simp only [execOp,hop,hu,hv]
     rw [Sem.run_bind,this]
     rfl
   cases e1
  cases e1
 cases e1
theorem We5 (hT:Qw X.P T) (S:List Nat) {op:BinOp} {t:TypeId} {u v z:Value} {dst:Option Tmp} (e1:Wb8 T st k=some (op,t,u,v,dst,k')) (hz:Qjs op u v=some z)
  (Qat:(St.put st dst (.d (.v z))).map (St.only S)=some st') (h:AK X f k' Q st'):AK X f k Q st:=by
 obtain ⟨s0,h1,rfl⟩:=Option.map_eq_some_iff.1 Qat
 exact Qrf hT e1 hz h1 (Qdh S h)
end
end Go.Sy
namespace Go.Sy
def Qc7 (ops:Array Oper) (i:Nat):Option Tmp:=(ops[i]?).bind (·.dst)
def Qil (ops:Array Oper) (Φ:List (Option AV)) (t:Nat):List Nat->Option AV
 | []=>none
 | j :: js=>match Qc7 ops j with
  | some d=>bif Nat.beq d t then (Φ[j]?).join else Qil ops Φ t js
  | none=>Qil ops Φ t js
def Qbx (ops:Array Oper) (base:List (Nat × AV)) (Φ:List (Option AV)) (i:Nat):List (Nat × AV):=
 match ops[i]? with
 | some o=>(o.looksAt ops).filterMap fun t=>(match Qil ops Φ t ((o.after.toList.filter fun e=>Region.binds .any e).map fun (e:Edge)=>e.on) with | some av=>some av | none=>base.lookup t).map fun av=>(t,av)
 | none=>[]
def Qd5 (dst:Option Tmp) (v:Option AV) (tm:List (Nat × AV)):List (Nat × AV):=
 match dst with
 | none=>tm
 | some d=>match v with
  | some av=>(d,av) :: tm
  | none=>tm.filter fun p=>!Nat.beq p.1 d
def Qko (X:Ctx) (f:FuncId) (k:List Item) (Q:Frame->Frame->Qq->Prop) (nt:Nat) (rows:List Row) (ops:Array Oper) (base:List (Nat × AV)) (Φ:List (Option AV)) (i:Nat):Prop:=
 ∀ (R:List Nat) (rest:List (Nat × AV)),AK X f (.inRegion ops R :: k) Q ⟨nt,Qd5 (Qc7 ops i) ((Φ[i]?).join) (Qbx ops base Φ i ++ rest),rows⟩->AK X f (.inRegion ops (i :: R) :: k) Q ⟨nt,Qbx ops base Φ i ++ rest,rows⟩
def Qfp (ops:Array Oper) (i:Nat):List Nat:=
 match ops[i]? with
 | some o=>(o.after.toList.filter fun e=>Region.binds .any e).map fun (e:Edge)=>e.on
 | none=>[]
def Qkq (ops:Array Oper):Nat->List Nat->List Nat
 | 0,s=>s
 | i+1,s=>Qkq ops i (bif s.contains i then Qfp ops i ++ s else s)
def Qjf (ops:Array Oper) (m:Nat) (keys:List Nat):Bool:=
 Nat.ble m ops.size &&
 (List.range ops.size).all (fun i=>match ops[i]? with
  | some o=>o.after.toList.all (fun e=>!Region.binds .any e || Nat.blt e.on i) && (Nat.blt i m || bif Nat.beq i m then (List.range i).all fun j=>(Qkq ops m (Qfp ops m)).contains j else o.after.toList.any fun e=>Nat.beq (e.on+1) i && Region.binds .any e)
  | none=>false) &&
 (List.range m).all (fun i=>match Qc7 ops i with
  | some d=>(!keys.contains d || (List.range m).all fun j=>match ops[j]? with
    | some oj=>!(oj.looksAt ops).contains d || Nat.beq j i || (Qkq ops i (Qfp ops i)).contains j
    | none=>false) && (List.range i).all fun j=>match Qc7 ops j with
   | some d'=>!Nat.beq d' d
   | none=>true
  | none=>true)
section
variable {ops:Array Oper} {m:Nat} {keys:List Nat}
structure Qn5 (ops:Array Oper) (m:Nat) (keys:List Nat):Prop where
 le:m<=ops.size
 back:∀ (i:Nat) (o:Oper),ops[i]? = some o->∀ e∈o.after.toList,Region.binds .any e=true->e.on < i
 tail:∀ (o:Oper),ops[m]? = some o->∀ j,j < m->j∈Qkq ops m (Qfp ops m)
 next:∀ (i:Nat) (o:Oper),ops[i]? = some o->m < i->∃ e∈o.after.toList,e.on+1=i/\Region.binds .any e=true
 stale:∀ (i d j:Nat) (oj:Oper),i < m->j < m->Qc7 ops i=some d->d∈keys->ops[j]? = some oj->d∈oj.looksAt ops->j=i\/j∈Qkq ops i (Qfp ops i)
 apart:∀ i j d,i < m->j < i->Qc7 ops i=some d->Qc7 ops j≠some d
theorem Qsq (h:Qjf ops m keys=true):Qn5 ops m keys:=by
 simp only [Qjf,Bool.and_eq_true,List.all_eq_true,List.mem_range] at h
 obtain ⟨⟨h1,h2⟩,h3⟩:=h
 have at2:∀ i o,ops[i]? = some o->(o.after.toList.all (fun e=>!Region.binds .any e || Nat.blt e.on i) && (Nat.blt i m || bif Nat.beq i m then (List.range i).all fun j=>(Qkq ops m (Qfp ops m)).contains j else o.after.toList.any fun e=>Nat.beq (e.on+1) i && Region.binds .any e))=true:=by
  intro i o ho
  have hi:i < ops.size:=by
   obtain ⟨hi,_⟩:=Array.getElem?_eq_some_iff.1 ho
   exact hi
  have:=h2 i hi
  rw [ho] at this
  simpa only [Bool.and_eq_true] using this
 refine ⟨Nat.le_of_ble_eq_true h1, ?_, ?_, ?_, ?_, ?_⟩
 ·intro i o ho e he hb
  have:=at2 i o ho
  simp only [Bool.and_eq_true,List.all_eq_true] at this
  have:=this.1 e he
  rw [hb] at this
  simpa using this
 ·intro o ho j hj
  have:=at2 m o ho
  simp only [Bool.and_eq_true,Bool.or_eq_true,List.all_eq_true,List.mem_range] at this
  rcases this.2 with h | h
  ·have:=Nat.le_of_ble_eq_true h
   omega
  rw [show Nat.beq m m=true from Nat.beq_refl m,cond_true,List.all_eq_true] at h
  have:=h j (by simpa using hj)
  simpa using this
 ·intro i o ho hm
  have:=at2 i o ho
  simp only [Bool.and_eq_true,Bool.or_eq_true,List.all_eq_true,List.mem_range] at this
  rcases this.2 with h | h
  ·have:=Nat.le_of_ble_eq_true h
   omega
  rw [show Nat.beq i m=false by
   cases hb:Nat.beq i m with
   | false=>rfl
   | true=>have:=Nat.eq_of_beq_eq_true hb;omega,cond_false] at h
  simp only [List.any_eq_true,Bool.and_eq_true] at h
  obtain ⟨e,he,hj,hb⟩:=h
  exact ⟨e,he,Nat.eq_of_beq_eq_true hj,hb⟩
 ·intro i d j oj hi hj hd hk ho hl
  have:=h3 i hi
  rw [hd] at this
  simp only [Bool.and_eq_true,Bool.or_eq_true] at this
  rcases this.1 with q | q
  ·exact absurd hk (by simpa using q)
  have q:=List.all_eq_true.1 q j (List.mem_range.2 hj)
  rw [ho] at q
  simp only [Bool.or_eq_true] at q
  rcases q with (q | q) | q
  ·exact absurd hl (by simpa using q)
  ·exact .inl (Nat.eq_of_beq_eq_true q)
  exact .inr (by simpa using q)
 intro i j d hi hj hd hd2
 have:=h3 i hi
 rw [hd] at this
 simp only [Bool.and_eq_true,List.all_eq_true,List.mem_range] at this
 have:=this.2 j hj
 rw [hd2] at this
 simp at this
def isL (listed:Array Bool) (i:Nat):Prop:=listed.getD i true=true
theorem Qiz {listed:Array Bool} {i j:Nat} (hi:i < listed.size):isL (listed.setIfInBounds i true) j↔j=i\/isL listed j:=by
 unfold isL
 simp only [Array.getD_eq_getD_getElem?,Array.getElem?_setIfInBounds]
 by_cases e:i=j
 ·subst e;simp [hi]
 simp [e]
 intro h
 exact absurd h.symm e
theorem mem_ready {md:Region.Mode} {listed:Array Bool} {i:Nat} (h:i∈Region.ready md ops listed):i < ops.size/\¬ isL listed i/\∃ o,ops[i]? = some o/\∀ e∈o.after.toList,Region.binds md e=true->listed.getD e.on false=true:=by
 simp only [Region.ready,List.mem_filter,List.mem_range,Bool.and_eq_true] at h
 obtain ⟨h1,h2,h3⟩:=h
 refine ⟨h1,by simpa [isL] using h2,ops[i],by simp [h1], ?_⟩
 rw [Array.getElem?_eq_getElem h1] at h3
 simp only [Option.map_some,Option.getD_some] at h3
 intro e he hb
 rw [<- Array.all_toList] at h3
 have:=List.all_eq_true.1 h3 e he
 simpa [hb] using this
theorem Qzz {md:Region.Mode} {listed:Array Bool} {i:Nat} {o:Oper} (ho:ops[i]? = some o) (hl:¬ isL listed i) (h:∀ e∈o.after.toList,Region.binds md e=true->listed.getD e.on false=true):i∈Region.ready md ops listed:=by
 have hi:i < ops.size:=(Array.getElem?_eq_some_iff.1 ho).1
 simp only [Region.ready,List.mem_filter,List.mem_range,Bool.and_eq_true]
 refine ⟨hi,by simpa [isL] using hl, ?_⟩
 rw [ho]
 simp only [Option.map_some,Option.getD_some]
 rw [<- Array.all_toList,List.all_eq_true]
 intro e he
 cases hb:Region.binds md e with
 | false=>rfl
 | true=>simp [h e he hb]
def Qn4 (ops:Array Oper) (listed:Array Bool):Prop:=∀ i,i < ops.size->isL listed i->∀ j∈Qfp ops i,isL listed j
theorem Qh5 {listed:Array Bool} (hc:Qn4 ops listed):∀ (n:Nat) (s:List Nat),n<=ops.size->(∀ j∈s,isL listed j)->∀ j∈Qkq ops n s,isL listed j
 | 0,s,_,h=>h
 | i+1,s,hn,h=>by
  simp only [Qkq]
  refine Qh5 hc i _ (by omega) fun j hj=>?_
  cases hb:s.contains i with
  | false=>rw [hb] at hj;exact h j hj
  | true=>
   rw [hb] at hj
   rcases List.mem_append.1 hj with hj | hj
   ·exact hc i (by omega) (h i (by simpa using hb)) j hj
   exact h j hj
theorem Qpe {listed:Array Bool} {i:Nat} (h:i∈Region.ready .any ops listed):∀ j∈Qfp ops i,listed.getD j false=true:=by
 obtain ⟨h1,h2,o,h3,h4⟩:=mem_ready h
 intro j hj
 unfold Qfp at hj
 rw [h3] at hj
 obtain ⟨e,he,rfl⟩:=List.mem_map.1 hj
 obtain ⟨he,hb⟩:=List.mem_filter.1 he
 exact h4 e he hb
theorem Qpx {listed:Array Bool} {j:Nat} (hj:j < listed.size) (h:isL listed j):listed.getD j false=true:=by
 unfold isL at h
 simpa [Array.getD_eq_getD_getElem?,hj] using h
theorem Qh7 {listed:Array Bool} {j:Nat} (h:listed.getD j false=true):isL listed j:=by
 unfold isL
 by_cases hj:j < listed.size
 ·simpa [Array.getD_eq_getD_getElem?,hj] using h
 simp [Array.getD_eq_getD_getElem?,hj]
theorem Wm6 (w:Qn5 ops m keys):∀ (fuel i t:Nat) (listed:Array Bool),m<=i->i+fuel=ops.size->listed.size=ops.size->(∀ j,j < ops.size->(isL listed j↔j < i)) ->
  Region.linearise.go .any ops fuel t listed []=List.range' i fuel:=by
 intro fuel
 induction fuel with
 | zero=>intro i t listed _ _ _ _;simp [Region.linearise.go]
 | succ fuel ih=>
  intro i t listed hm hi hs hl
  have hi':i < ops.size:=by omega
  have hready:Region.ready .any ops listed=[i]:=by
   have h1:∀ j,j∈Region.ready .any ops listed↔j=i:=by
    intro j
    constructor
    ·intro hj
     obtain ⟨a1,a2,o,a3,a4⟩:=mem_ready hj
     have hji:¬ j < i:=fun h=>a2 ((hl j a1).2 h)
     rcases Nat.lt_or_ge i j with h | h
     ·obtain ⟨e,he,hej,hb⟩:=w.next j o a3 (by omega)
      have:=Qh7 (a4 e he hb)
      rw [hl e.on (by omega)] at this
      omega
     omega
    rintro rfl
    refine Qzz (Array.getElem?_eq_getElem hi') (fun h=>by rw [hl j hi'] at h;omega) (fun e he hb=>?_)
    have:=w.back j _ (Array.getElem?_eq_getElem hi') e he hb
    exact Qpx (by omega) ((hl e.on (by omega)).2 this)
   have h2:(Region.ready .any ops listed).Nodup:=List.nodup_range.filter _
   generalize Region.ready .any ops listed=l at h1 h2
   match l,h1,h2 with
   | [],h1,_=>exact absurd ((h1 i).2 rfl) (by simp)
   | [x],h1,_=>rw [(h1 x).1 (by simp)]
   | x :: y :: l,h1,h2=>
    have e1:=(h1 x).1 (by simp)
    have e2:=(h1 y).1 (by simp)
    subst e1
    subst e2
    simp at h2
  simp only [Region.linearise.go]
  change (match (Region.ready .any ops listed)[t % (Region.ready .any ops listed).length]? with
   | some i=>Region.linearise.go .any ops fuel (t / (Region.ready .any ops listed).length) (listed.setIfInBounds i true) [i]
   | none=>[].reverse)=_
  rw [hready]
  simp only [List.length_singleton,Nat.mod_one,List.getElem?_cons_zero]
  rw [linearise_go_acc,ih (i+1) _ _ (by omega) (by omega) (by simpa using hs)]
  ·rw [List.range'_succ];rfl
  intro j hj
  rw [Qiz (by omega),hl j hj]
  omega
end
section
variable {X:Ctx} {T:Tab} {f:FuncId} {k:List Item} {Q:Frame->Frame->Qq->Prop} {nt:Nat} {rows:List Row} {ops:Array Oper} {m:Nat} {base:List (Nat × AV)} {Φ:List (Option AV)}
def Holds (ops:Array Oper) (base:List (Nat × AV)) (Φ:List (Option AV)) (listed:Array Bool) (m:Nat) (tm:List (Nat × AV)):Prop:=
 (∀ t av,base.lookup t=some av->(∀ j,j < m->isL listed j->Qc7 ops j≠some t)->tm.lookup t=some av)/\∀ j d av,j < m->isL listed j->Qc7 ops j=some d->(Φ[j]?).join=some av->tm.lookup d=some av
theorem Weg {l:List (Nat × AV)} {t:Nat} {av:AV} (h:l.lookup t=some av):t∈l.map (·.1):=List.mem_map.2 ⟨_,Qce h,rfl⟩
theorem Qn0 {t:Nat} {av:AV}:∀ {js:List Nat},Qil ops Φ t js=some av->∃ j∈js,Qc7 ops j=some t/\(Φ[j]?).join=some av
 | [],h=>by simp [Qil] at h
 | j :: js,h=>by
  simp only [Qil] at h
  split at h
  ·rename_i d hd
   cases hb:Nat.beq d t with
   | true=>
    rw [hb] at h
    have:=Nat.eq_of_beq_eq_true hb
    subst this
    exact ⟨j,by simp,hd,h⟩
   | false=>
    rw [hb] at h
    obtain ⟨j',h1,h2⟩:=Qn0 h
    exact ⟨j',by simp [h1],h2⟩
  obtain ⟨j',h1,h2⟩:=Qn0 h
  exact ⟨j',by simp [h1],h2⟩
theorem Qvj (w:Qn5 ops m (base.map (·.1))) {i:Nat} (him:i < m) {listed:Array Bool} {tm:List (Nat × AV)} (hs:listed.size=ops.size) (hr:i∈Region.ready .any ops listed) (hh:Holds ops base Φ listed m tm) (hcl:Qn4 ops listed):
  ∀ t av,(Qbx ops base Φ i ++ tm).lookup t=some av->tm.lookup t=some av:=by
 obtain ⟨h1,h2,o,h3,h4⟩:=mem_ready hr
 have all:∀ p∈Qbx ops base Φ i,tm.lookup p.1=some p.2:=by
  intro p hp
  simp only [Qbx,h3,List.mem_filterMap] at hp
  obtain ⟨t,ht,hp⟩:=hp
  split at hp
  ·rename_i av hd
   simp only [Option.map_some,Option.some.injEq] at hp
   subst hp
   obtain ⟨j,hj,e1,e2⟩:=Qn0 hd
   simp only [List.mem_map,List.mem_filter] at hj
   obtain ⟨e,⟨he,b2⟩,rfl⟩:=hj
   have b1:=w.back i o h3 e he b2
   exact hh.2 _ _ _ (by omega) (Qh7 (h4 e he b2)) e1 e2
  cases hb:base.lookup t with
  | none=>rw [hb] at hp;cases hp
  | some av=>
   rw [hb] at hp
   simp only [Option.map_some,Option.some.injEq] at hp
   subst hp
   refine hh.1 _ _ hb fun j hj hl hd=>?_
   have hle:=w.le
   rcases w.stale j t i o hj him hd (Weg hb) h3 ht with q | q
   ·subst q
    exact h2 hl
   exact h2 (Qh5 hcl j (Qfp ops j) (by omega) (hcl j (by omega) hl) i q)
 have key:∀ (l:List (Nat × AV)),(∀ p∈l,tm.lookup p.1=some p.2)->∀ t av,(l ++ tm).lookup t=some av->tm.lookup t=some av:=by
  intro l
  induction l with
  | nil=>intro _ t av h;exact h
  | cons p l ih=>
   intro hl t av h
   rw [List.cons_append,List.lookup_cons] at h
   split at h
   ·rename_i e
    have e:t=p.1:=by simpa using e
    subst e
    injection h with h
    subst h
    exact hl p (by simp)
   exact ih (fun p hp=>hl p (by simp [hp])) t av h
 exact key _ all
theorem Waf {dst:Option Tmp} {v:Option AV} {tm:List (Nat × AV)} {t:Nat} {av:AV} (h:tm.lookup t=some av) (hd:dst≠some t):(Qd5 dst v tm).lookup t=some av:=by
 cases dst with
 | none=>exact h
 | some d=>
  have hd:d≠t:=fun e=>hd (by rw [e])
  cases v with
  | some x=>
   simp only [Qd5,List.lookup_cons]
   rw [show (t == d)=false from by simpa using Ne.symm hd]
   exact h
  | none=>
   simp only [Qd5]
   induction tm with
   | nil=>simp at h
   | cons p tm ih=>
    rw [List.lookup_cons] at h
    rw [List.filter_cons]
    split at h
    ·rename_i e
     have e:t=p.1:=by simpa using e
     injection h with h
     subst h
     subst e
     rw [if_pos (by cases hb:Nat.beq p.1 d with | false=>rfl | true=>exact absurd (Nat.eq_of_beq_eq_true hb) (Ne.symm hd)),List.lookup_cons]
     simp
    rename_i e
    split
    ·rw [List.lookup_cons,e]
     exact ih h
    exact ih h
def Qh3 (ops:Array Oper) (Φ:List (Option AV)) (m:Nat):List (Nat × AV):=
 (List.range m).filterMap fun j=>match Qc7 ops j with
  | some d=>((Φ[j]?).join).map fun av=>(d,av)
  | none=>none
def Qlv (ops:Array Oper) (m:Nat) (base:List (Nat × AV)):List (Nat × AV):=base.filter fun p=>!(List.range m).any fun j=>match Qc7 ops j with
 | some d=>Nat.beq d p.1
 | none=>false
theorem Qvs {t:Nat} {av:AV}:∀ {base:List (Nat × AV)},(Qlv ops m base).lookup t=some av->base.lookup t=some av/\∀ j,j < m->Qc7 ops j≠some t
 | [],h=>by cases h
 | (i,x) :: base,h=>by
  simp only [Qlv,List.filter_cons] at h
  split at h
  ·rename_i hq
   rw [List.lookup_cons] at h ⊢
   split at h
   ·rename_i e
    have e:t=i:=by simpa using e
    subst e
    refine ⟨by rw [<- h],fun j hj hd=>?_⟩
    have:((List.range m).any fun j=>match Qc7 ops j with
     | some d=>Nat.beq d t
     | none=>false)=true:=List.any_eq_true.2 ⟨j,List.mem_range.2 hj,by rw [hd];exact Nat.beq_refl t⟩
    rw [this] at hq
    cases hq
   exact Qvs h
  rename_i hq
  obtain ⟨h1,h2⟩:=Qvs (base:=base) h
  rw [List.lookup_cons]
  split
  ·rename_i e
   have e:t=i:=by simpa using e
   subst e
   refine absurd ?_ hq
   have:((List.range m).any fun j=>match Qc7 ops j with
    | some d=>Nat.beq d t
    | none=>false)=false:=List.any_eq_false.2 fun j hj=>by
     split
     ·rename_i d hd
      intro hb
      have:=Nat.eq_of_beq_eq_true hb
      subst this
      exact h2 j (List.mem_range.1 hj) hd
     simp
   rw [this]
   rfl
  exact ⟨h1,h2⟩
def Qlx (X:Ctx) (f:FuncId) (k:List Item) (Q:Frame->Frame->Qq->Prop) (nt:Nat) (rows rows':List Row) (ops:Array Oper) (base:List (Nat × AV)) (Φ:List (Option AV)) (i:Nat):Prop:=
 ∀ (R:List Nat) (rest:List (Nat × AV)),AK X f (.inRegion ops R :: k) Q ⟨nt,Qd5 (Qc7 ops i) ((Φ[i]?).join) (Qbx ops base Φ i ++ rest),rows'⟩->AK X f (.inRegion ops (i :: R) :: k) Q ⟨nt,Qbx ops base Φ i ++ rest,rows⟩
def Qg7 (E:List Nat) (listed:Array Bool):Nat:=(E.filter fun e=>listed.getD e true).length
structure Qon (ops:Array Oper) (E:List Nat) (m:Nat):Prop where
 lt:∀ e∈E,e < m
 nodup:E.Nodup
 next:∀ (j e e':Nat),E[j]? = some e->E[j+1]? = some e'->e∈Qkq ops e' (Qfp ops e')
theorem Qon.down {E:List Nat} (hc:Qon ops E m) (hm:m<=ops.size) {listed:Array Bool} (hcl:Qn4 ops listed):∀ (d j e q:Nat),E[j]? = some e->E[j+d]? = some q->isL listed q->isL listed e
 | 0,j,e,q,h1,h2,hq=>by
  rw [Nat.add_zero,h1] at h2
  injection h2 with h2
  exact h2▸hq
 | d+1,j,e,q,h1,h2,hq=>by
  have hlt:=(List.getElem?_eq_some_iff.1 h2).1
  have Qqp:E[j+d]? = some E[j+d]:=List.getElem?_eq_getElem (by omega)
  refine Qon.down hc hm hcl d j e _ h1 Qqp ?_
  have hqm:=hc.lt q (List.mem_of_getElem? h2)
  exact Qh5 hcl q _ (by omega) (hcl q (by omega) hq) _ (hc.next (j+d) _ q Qqp h2)
theorem Qpn {E:List Nat} {listed:Array Bool} {j:Nat} (hj:j<=E.length) (h1:∀ (i e:Nat),i < j->E[i]? = some e->listed.getD e true=true) (h2:∀ (i e:Nat),j<=i->E[i]? = some e->listed.getD e true=false):Qg7 E listed=j:=by
 unfold Qg7
 rw [<- List.take_append_drop j E,List.filter_append,List.length_append]
 have e1:(E.take j).filter (fun e=>listed.getD e true)=E.take j:=by
  rw [List.filter_eq_self]
  intro e he
  obtain ⟨i,hi,rfl⟩:=List.mem_iff_getElem.1 he
  rw [List.length_take] at hi
  exact h1 i _ (by omega) (by rw [List.getElem_take];exact List.getElem?_eq_getElem (by omega))
 have e2:(E.drop j).filter (fun e=>listed.getD e true)=[]:=by
  rw [List.filter_eq_nil_iff]
  intro e he
  obtain ⟨i,hi,rfl⟩:=List.mem_iff_getElem.1 he
  rw [List.length_drop] at hi
  rw [h2 (j+i) _ (by omega) (by rw [List.getElem_drop];exact List.getElem?_eq_getElem (by omega))]
  simp
 rw [e1,e2,List.length_take,List.length_nil]
 omega
def Qnp (ops:Array Oper) (E:List Nat) (i s:Nat):Bool:=(E.take s).all fun e=>!(Qkq ops e (Qfp ops e)).contains i
theorem Wke {E:List Nat} (hc:Qon ops E m) (hm:m<=ops.size) {listed:Array Bool} (hcl:Qn4 ops listed) {i:Nat} (hi:¬ isL listed i):Qnp ops E i (Qg7 E listed)=true:=by
 unfold Qnp
 rw [List.all_eq_true]
 intro e he
 obtain ⟨q,hq,rfl⟩:=List.mem_iff_getElem.1 he
 rw [List.length_take] at hq
 rw [List.getElem_take]
 have hqE:q < E.length:=by omega
 have hl:isL listed E[q]:=by
  refine Classical.byContradiction fun hn=>?_
  have Qd8:∀ x∈E.drop q,¬ (listed.getD x true=true):=by
   intro x hx hlx
   obtain ⟨d,hd,rfl⟩:=List.mem_iff_getElem.1 hx
   rw [List.getElem_drop] at hlx
   rw [List.length_drop] at hd
   exact hn (hc.down hm hcl d q _ _ (List.getElem?_eq_getElem hqE) (List.getElem?_eq_getElem (by omega)) hlx)
  have:Qg7 E listed<=q:=by
   unfold Qg7
   rw [<- List.take_append_drop q E,List.filter_append,List.filter_eq_nil_iff.2 Qd8,List.append_nil]
   exact Nat.le_trans (List.length_filter_le _ _) (by rw [List.length_take];omega)
  omega
 have hlt:E[q] < ops.size:=Nat.lt_of_lt_of_le (hc.lt _ (List.getElem_mem hqE)) hm
 cases hb:(Qkq ops E[q] (Qfp ops E[q])).contains i with
 | false=>rfl
 | true=>exact absurd (Qh5 hcl E[q] (Qfp ops E[q]) (by omega) (hcl _ hlt hl) i (by simpa using hb)) hi
theorem Wmd {rw_:Nat->List Row} {E:List Nat} (w:Qn5 ops m (base.map (·.1))) (hE:Qon ops E m) (hop:∀ i,i < m->i ∉ E->∀ s,s<=E.length->Qnp ops E i s=true->Qko X f k Q nt (rw_ s) ops base Φ i) (Qs7:∀ (j e:Nat),E[j]? = some e->Qlx X f k Q nt (rw_ j) (rw_ (j+1)) ops base Φ e)
  (Qdw:AK X f (.inRegion ops (List.range' m (ops.size - m)) :: k) Q ⟨nt,Qh3 ops Φ m ++ Qlv ops m base,rw_ E.length⟩):
  ∀ (fuel t:Nat) (listed:Array Bool) (tm:List (Nat × AV)),listed.size=ops.size->(∀ j,m<=j->j < ops.size->¬ isL listed j)->((List.range m).filter fun j=>!listed.getD j true).length+(ops.size - m)=fuel ->
   Holds ops base Φ listed m tm->Qn4 ops listed->AK X f (.inRegion ops (Region.linearise.go .any ops fuel t listed []) :: k) Q ⟨nt,tm,rw_ (Qg7 E listed)⟩:=by
 intro fuel
 have full:∀ (fuel t:Nat) (listed:Array Bool) (tm:List (Nat × AV)),listed.size=ops.size->(∀ j,m<=j->j < ops.size->¬ isL listed j)->(∀ j,j < m->isL listed j)->ops.size - m=fuel ->
   Holds ops base Φ listed m tm->AK X f (.inRegion ops (Region.linearise.go .any ops fuel t listed []) :: k) Q ⟨nt,tm,rw_ (Qg7 E listed)⟩:=by
  intro fuel t listed tm hs hno Qd8 hf hh
  have hle:=w.le
  have hrw:Qg7 E listed=E.length:=Qpn (Nat.le_refl _) (fun i e _ he=>Qd8 e (hE.lt e (List.mem_of_getElem? he))) (fun i e h1 h2=>by
   have:=(List.getElem?_eq_some_iff.1 h2).1
   omega)
  rw [hrw]
  rw [Wm6 w fuel m t listed (Nat.le_refl _) (by omega) hs (fun j hj=>⟨fun h=>by
   rcases Nat.lt_or_ge j m with h1 | h1
   ·exact h1
   exact absurd h (hno j h1 hj),Qd8 j⟩),<- hf]
  refine Qx6 (Qh3 ops Φ m ++ Qlv ops m base) (fun t av e=>?_) Qdw
  rw [List.lookup_append] at e
  cases e1:(Qh3 ops Φ m).lookup t with
  | none=>
   rw [e1] at e
   obtain ⟨u1,u2⟩:=Qvs (ops:=ops) (m:=m) (base:=base) (t:=t) (av:=av) (by simpa using e)
   exact hh.1 _ _ u1 fun j hj _=>u2 j hj
  | some av'=>
   rw [e1] at e
   simp only [Option.some_or,Option.some.injEq] at e
   subst e
   have:=Qce e1
   simp only [Qh3,List.mem_filterMap,List.mem_range] at this
   obtain ⟨j,hj,e2⟩:=this
   split at e2
   ·rename_i d hd
    obtain ⟨x,e3,e4⟩:=Option.map_eq_some_iff.1 e2
    injection e4 with e4 e5
    subst e4
    subst e5
    exact hh.2 j _ _ hj (Qd8 j hj) hd e3
   cases e2
 induction fuel with
 | zero=>
  intro t listed tm hs hno hf hh hcl
  refine full 0 t listed tm hs hno (fun j hj=>?_) (by omega) hh
  have h0:((List.range m).filter fun j=>!listed.getD j true).length=0:=by omega
  rw [List.length_eq_zero_iff,List.filter_eq_nil_iff] at h0
  simpa [isL] using h0 j (by simpa using hj)
 | succ fuel ih=>
  intro t listed tm hs hno hf hh hcl
  by_cases Qd8:∀ j,j < m->isL listed j
  ·refine full (fuel+1) t listed tm hs hno Qd8 ?_ hh
   have h0:((List.range m).filter fun j=>!listed.getD j true).length=0:=by
    rw [List.length_eq_zero_iff,List.filter_eq_nil_iff]
    intro j hj
    have:=Qd8 j (by simpa using hj)
    simpa [isL] using this
   omega
  -- one comes up
  have hle:=w.le
  have some_ready:∃ i,i∈Region.ready .any ops listed:=by
   have:∃ j,j < m/\¬ isL listed j:=by
    apply Classical.byContradiction
    intro hc
    exact Qd8 fun j hj=>Classical.byContradiction fun hn=>hc ⟨j,hj,hn⟩
   obtain ⟨j,hj,hjn⟩:=this
   have least:∀ n j,j<=n->j < m->¬ isL listed j->∃ i,i < m/\¬ isL listed i/\∀ q,q < i->isL listed q:=by
    intro n
    induction n with
    | zero=>intro j hj hm hn;exact ⟨j,hm,hn,fun q hq=>by omega⟩
    | succ n ihn=>
     intro j hj hm hn
     by_cases hq:∀ q,q < j->isL listed q
     ·exact ⟨j,hm,hn,hq⟩
     have:∃ q,q < j/\¬ isL listed q:=by
      apply Classical.byContradiction
      intro hc
      exact hq fun q hq=>Classical.byContradiction fun hn=>hc ⟨q,hq,hn⟩
     obtain ⟨q,h1,h2⟩:=this
     exact ihn q (by omega) (by omega) h2
   obtain ⟨i,h1,h2,h3⟩:=least j j (Nat.le_refl _) hj hjn
   have hi:i < ops.size:=by omega
   refine ⟨i,Qzz (Array.getElem?_eq_getElem hi) h2 (fun e he hb=>?_)⟩
   have:=w.back i _ (Array.getElem?_eq_getElem hi) e he hb
   exact Qpx (by omega) (h3 _ this)
  simp only [Region.linearise.go]
  change AK X f (.inRegion ops (match (Region.ready .any ops listed)[t % (Region.ready .any ops listed).length]? with
   | some i=>Region.linearise.go .any ops fuel (t / (Region.ready .any ops listed).length) (listed.setIfInBounds i true) [i]
   | none=>[].reverse) :: k) Q _
  have hpos:0 < (Region.ready .any ops listed).length:=by
   obtain ⟨i,hi⟩:=some_ready
   exact List.length_pos_of_mem hi
  have hlt:=Nat.mod_lt t hpos
  rw [List.getElem?_eq_getElem hlt]
  simp only
  have Qie:(Region.ready .any ops listed)[t % (Region.ready .any ops listed).length]∈Region.ready .any ops listed:=List.getElem_mem hlt
  generalize (Region.ready .any ops listed)[t % (Region.ready .any ops listed).length]=i at Qie
  obtain ⟨h1,h2,o,h3,h4⟩:=mem_ready Qie
  have him:i < m:=by
   rcases Nat.lt_or_ge i m with h | h
   ·exact h
   exfalso
   rcases Nat.lt_or_ge m i with h5 | h5
   ·obtain ⟨e,he,hej,hb⟩:=w.next i o h3 h5
    exact hno e.on (by omega) (by omega) (Qh7 (h4 e he hb))
   have:i=m:=by omega
   subst this
   refine Qd8 fun j hj=>?_
   exact Qh5 hcl i _ (by omega) (fun q hq=>Qh7 (Qpe Qie q hq)) j (w.tail o h3 j hj)
  rw [linearise_go_acc]
  refine Qx6 (Qbx ops base Φ i ++ tm) (Qvj w him hs Qie hh hcl) ?_
  have hcl2:Qn4 ops (listed.setIfInBounds i true):=by
   intro q hq hql j hj
   rw [Qiz (by omega)] at hql ⊢
   rcases hql with rfl | hql
   ·exact .inr (Qh7 (Qpe Qie j hj))
   exact .inr (hcl q hq hql j hj)
  have hgo:AK X f (.inRegion ops (Region.linearise.go .any ops fuel (t / (Region.ready .any ops listed).length) (listed.setIfInBounds i true) []) :: k) Q ⟨nt,Qd5 (Qc7 ops i) ((Φ[i]?).join) (Qbx ops base Φ i ++ tm),rw_ (Qg7 E (listed.setIfInBounds i true))⟩->AK X f (.inRegion ops (i :: Region.linearise.go .any ops fuel (t / (Region.ready .any ops listed).length) (listed.setIfInBounds i true) []) :: k) Q ⟨nt,Qbx ops base Φ i ++ tm,rw_ (Qg7 E listed)⟩:=by
   by_cases hie:i∈E
   ·obtain ⟨j,hj⟩:=List.mem_iff_getElem?.1 hie
    have hjl:=(List.getElem?_eq_some_iff.1 hj).1
    have low:∀ (q e:Nat),q < j->E[q]? = some e->isL listed e:=fun q e hq he=>by
     have Qlf:E[j - 1]? = some E[j - 1]:=List.getElem?_eq_getElem (by omega)
     have h5:isL listed E[j - 1]:=by
      have hn:=hE.next (j - 1) _ i Qlf (by rw [show j - 1+1=j by omega];exact hj)
      exact Qh5 hcl i _ (by omega) (fun z hz=>Qh7 (Qpe Qie z hz)) _ hn
     exact hE.down hle hcl (j - 1 - q) q e _ he (by rw [show q+(j - 1 - q)=j - 1 by omega];exact Qlf) h5
    have high:∀ (q e:Nat),j<=q->E[q]? = some e->¬ isL listed e:=fun q e hq he hl=>h2 (hE.down hle hcl (q - j) j i e hj (by rw [show j+(q - j)=q by omega];exact he) hl)
    have e1:Qg7 E listed=j:=Qpn (by omega) (fun q e hq he=>low q e hq he) (fun q e hq he=>by simpa [isL] using high q e hq he)
    have e2:Qg7 E (listed.setIfInBounds i true)=j+1:=Qpn (by omega) (fun q e hq he=>(Qiz (j:=e) (by omega)).2 (by
     rcases Nat.lt_or_ge q j with h | h
     ·exact .inr (low q e h he)
     ·have:q=j:=by omega
      subst this
      rw [hj] at he
      injection he with he
      exact .inl he.symm)) (fun q e hq he=>by
     have hne:e≠i:=by
      rintro rfl
      have hql:=(List.getElem?_eq_some_iff.1 he).1
      have:=List.pairwise_iff_getElem.1 hE.nodup j q hjl hql (by omega)
      rw [List.getElem?_eq_getElem hjl] at hj
      rw [List.getElem?_eq_getElem hql] at he
      injection hj with hj
      injection he with he
      exact this (hj.trans he.symm)
     have h6:=high q e (by omega) he
     have h7:¬ isL (listed.setIfInBounds i true) e:=fun h=>by
      rcases (Qiz (by omega)).1 h with h | h
      ·exact hne h
      exact h6 h
     simpa [isL] using h7)
    rw [e1,e2]
    exact Qs7 j i hj _ tm
   have e1:Qg7 E (listed.setIfInBounds i true)=Qg7 E listed:=by
    unfold Qg7
    congr 1
    apply List.filter_congr
    intro e he
    have:i≠e:=fun h=>hie (h▸he)
    simp [Array.getD_eq_getD_getElem?,Array.getElem?_setIfInBounds,this]
   rw [e1]
   exact hop i him hie _ (List.length_filter_le _ _) (Wke hE hle hcl h2) _ tm
  refine hgo ?_
  refine ih _ _ _ (by simpa using hs) ?_ ?_ ?_ hcl2
  ·intro j hj hj2 hl
   rw [Qiz (by omega)] at hl
   rcases hl with h | h
   ·omega
   exact hno j hj hj2 h
  ·have hcount:∀ n,i < n->n<=m->((List.range n).filter fun j=>!listed.getD j true).length=((List.range n).filter fun j=>!(listed.setIfInBounds i true).getD j true).length+1:=by
    have same:∀ n,n<=i->((List.range n).filter fun j=>!listed.getD j true)=((List.range n).filter fun j=>!(listed.setIfInBounds i true).getD j true):=by
     intro n hn
     apply List.filter_congr
     intro j hj
     have hj:j < n:=by simpa using hj
     have:j≠i:=by omega
     simp [Array.getD_eq_getD_getElem?,Array.getElem?_setIfInBounds,Ne.symm this]
    intro n
    induction n with
    | zero=>intro h;omega
    | succ n ihn=>
     intro h1 h2
     rw [List.range_succ,List.filter_append,List.filter_append,List.length_append,List.length_append]
     by_cases e:i=n
     ·subst e
      rw [same i (Nat.le_refl _)]
      have a1:listed.getD i true=false:=by simpa [isL] using ‹¬ isL listed i›
      have a2:(listed.setIfInBounds i true).getD i true=true:=(Qiz (j:=i) (by omega)).2 (.inl rfl)
      simp only [List.filter_cons,List.filter_nil,a1,a2]
      simp
     have:=ihn (by omega) (by omega)
     have a3:(listed.setIfInBounds i true).getD n true=listed.getD n true:=by simp [Array.getD_eq_getD_getElem?,Array.getElem?_setIfInBounds,e]
     rw [this]
     simp only [List.filter_cons,List.filter_nil,a3]
     omega
   have:=hcount m him (Nat.le_refl _)
   omega
  refine ⟨fun t av ht hnw=>?_,fun j d av hj hl hd hv=>?_⟩
  ·refine Waf ?_ (fun e=>hnw i him ((Qiz (by omega)).2 (.inl rfl)) e)
   have:=hh.1 t av ht fun j hj hl=>hnw j hj ((Qiz (by omega)).2 (.inr hl))
   cases hq:(Qbx ops base Φ i).lookup t with
   | none=>rw [List.lookup_append,hq];simpa using this
   | some x=>
    have h5:=Qvj w him hs Qie hh hcl t x (by rw [List.lookup_append,hq];rfl)
    rw [List.lookup_append,hq,<- this,h5]
    rfl
  rw [Qiz (by omega)] at hl
  rcases hl with rfl | hl
  ·rw [hd,hv]
   simp [Qd5]
  have hji:j≠i:=by rintro rfl;exact h2 hl
  refine Waf ?_ ?_
  ·have:=hh.2 j d av hj hl hd hv
   cases hq:(Qbx ops base Φ i).lookup d with
   | none=>rw [List.lookup_append,hq];simpa using this
   | some x=>
    have h5:=Qvj w him hs Qie hh hcl d x (by rw [List.lookup_append,hq];rfl)
    rw [List.lookup_append,hq,<- this,h5]
    rfl
  intro e
  rcases Nat.lt_or_ge j i with h | h
  ·exact w.apart i j d him h e hd
  exact w.apart j i d hj (by omega) hd e
theorem Qv5 {rw_:Nat->List Row} {E:List Nat} {id:Nat} (hm:X.P.follows .mixedOrders=true) (m:Nat) (S:List Nat) (base:List (Nat × AV)) (Φ:List (Option AV)) {st:St} (e:st.only S=⟨nt,base,rw_ 0⟩) (hck:Qjf ops m (base.map (·.1))=true)
  (hE:Qon ops E m) (hop:∀ i,i < m->i ∉ E->∀ s,s<=E.length->Qnp ops E i s=true->Qko X f k Q nt (rw_ s) ops base Φ i) (Qs7:∀ (j e:Nat),E[j]? = some e->Qlx X f k Q nt (rw_ j) (rw_ (j+1)) ops base Φ e) (Qdw:AK X f (.inRegion ops (List.range' m (ops.size - m)) :: k) Q ⟨nt,Qh3 ops Φ m ++ Qlv ops m base,rw_ E.length⟩):AK X f (.code (.region id ops true) :: k) Q st:=by
 refine Qdh S ?_
 rw [e]
 intro a C hC b cs hb hk
 have hd:Sim X ⟨nt,base,rw_ 0⟩ a C.drew:=⟨hC.rel.drew,hC.rows,hC.defers,hC.nt,fun i av e=>let ⟨v,h1,h2⟩:=hC.tm i av e;⟨v,h1,Ev.drew.avr h2⟩⟩
 have w:=Qsq hck
 have Wj3:∀ t,Region.schedule (X.P.follows .mixedOrders) ops t=Region.linearise.go .any ops ops.size t (Array.replicate ops.size false) []:=by
  intro t
  simp [Region.schedule,hm,Region.linearise]
 have hl:∀ j,j < ops.size->¬ isL (Array.replicate ops.size false) j:=by
  intro j hj
  simp [isL,Array.getD_eq_getD_getElem?,hj]
 have hle:=w.le
 have h0:((List.range m).filter fun j=>!(Array.replicate ops.size false).getD j true).length=m:=by
  rw [List.filter_eq_self.2 (fun j hj=>?_)]
  ·simp
  have hj:j < m:=by simpa using hj
  have:=hl j (by omega)
  simpa [isL] using this
 have key:=Wmd w hE hop Qs7 Qdw ops.size (C.w.tape C.w.drawn (.order b.fn id)) (Array.replicate ops.size false) base (by simp) (fun j _ hj=>hl j hj) (by rw [h0];omega)
  ⟨fun _ _ h _=>h,fun j d av hj h _ _=>absurd h (hl j (by omega))⟩ (fun j hj h=>absurd h (hl j hj))
 have hr0:Qg7 E (Array.replicate ops.size false)=0:=Qpn (Nat.zero_le _) (fun i e h _=>by omega) (fun i e _ he=>by
  have:=hl e (by have:=hE.lt e (List.mem_of_getElem? he);omega)
  simpa [isL] using this)
 rw [hr0] at key
 obtain ⟨C',fr,q,h1,h2⟩:=key a C.drew hd b cs hb hk
 refine ⟨C',fr,q,.head ?_ h1,h2⟩
 have:=stepR_region_draw (P:=X.P) (b:=b) (a:=a) (k:=k) (cs:=cs) (w:=C.w) (ops:=ops) (id:=id)
 rw [Wj3] at this
 exact this
theorem Qx2 {rw_:Nat->List Row} {E:List Nat} {id:Nat} (hm:X.P.follows .mixedOrders=true) (m:Nat) (S:List Nat) (base:List (Nat × AV)) (Φ:List (Option AV)) {st:St} (e:st.only S=⟨nt,base,rw_ 0⟩) (hck:Qjf ops m (base.map (·.1))=true)
  (hE:Qon ops E m) (hop:∀ i,i < m->i ∉ E->∀ s,s<=E.length->Qko X f k Q nt (rw_ s) ops base Φ i) (Qs7:∀ (j e:Nat),E[j]? = some e->Qlx X f k Q nt (rw_ j) (rw_ (j+1)) ops base Φ e) (Qdw:AK X f (.inRegion ops (List.range' m (ops.size - m)) :: k) Q ⟨nt,Qh3 ops Φ m ++ Qlv ops m base,rw_ E.length⟩):AK X f (.code (.region id ops true) :: k) Q st:=
 Qv5 hm m S base Φ e hck hE (fun i h1 h2 s h3 _=>hop i h1 h2 s h3) Qs7 Qdw
theorem Wlw {id:Nat} (hm:X.P.follows .mixedOrders=true) (m:Nat) (S:List Nat) (base:List (Nat × AV)) (Φ:List (Option AV)) {st:St} (e:st.only S=⟨nt,base,rows⟩) (hck:Qjf ops m (base.map (·.1))=true)
  (hop:∀ i,i < m->Qko X f k Q nt rows ops base Φ i) (Qdw:AK X f (.inRegion ops (List.range' m (ops.size - m)) :: k) Q ⟨nt,Qh3 ops Φ m ++ Qlv ops m base,rows⟩):AK X f (.code (.region id ops true) :: k) Q st:=
 Qx2 (rw_:=fun _=>rows) (E:=[]) hm m S base Φ e hck ⟨fun _ h=>(by cases h),List.nodup_nil,fun _ _ _ h=>(by simp at h)⟩ (fun i hi _ _ _=>hop i hi) (fun _ _ h=>(by simp at h)) Qdw
theorem Weo (hT:Qw X.P T) {i:Nat} (e:∀ R rest,Qfv T (.inRegion ops (i :: R) :: k) ⟨nt,Qbx ops base Φ i ++ rest,rows⟩=some (.inRegion ops R :: k,⟨nt,Qd5 (Qc7 ops i) ((Φ[i]?).join) (Qbx ops base Φ i ++ rest),rows⟩)):
  Qko X f k Q nt rows ops base Φ i:=fun R rest h=>Qep hT (e R rest) h
end
end Go.Sy
