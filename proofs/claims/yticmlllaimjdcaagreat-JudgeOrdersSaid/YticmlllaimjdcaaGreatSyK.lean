/- More rules: cuts, rows that are frozen or seen otherwise, calls that keep some slots, stores into rows. -/
import Derived.Test.YticmlllaimjdcaaGreatSyJ
import Derived.Orders
set_option linter.unusedVariables false
set_option linter.unusedSimpArgs false
namespace Go.Sy
section
variable {X:Ctx} {T:Tab} {f:FuncId} {k k':List Item} {Q:Frame->Frame->Wt->Prop} {st st':St}
theorem Qpp {ρ:Nat->Nat}:∀ {l:List (Nat × AV)} {i:Nat} {av:AV},l.lookup i=some av->(l.map fun p=>(p.1,Qdm ρ p.2)).lookup i=some (Qdm ρ av)
 | [],_,_,h=>by simp at h
 | (j,x) :: l,i,av,h=>by
  rw [List.lookup_cons] at h
  rw [List.map_cons,List.lookup_cons]
  split at h
  ·rename_i e
   injection h with h
   subst h
   simp [e]
  rename_i e
  simp only [e]
  exact Qpp h
theorem Qzv {S:List Nat} {tm:List (Nat × AV)} {i:Nat} {av:AV} (e:(S.filterMap fun j=>(tm.lookup j).map fun a=>(j,a)).lookup i=some av):tm.lookup i=some av:=by
 have:=Qdw e
 simp only [List.mem_filterMap] at this
 obtain ⟨j,_,e⟩:=this
 obtain ⟨y,h1,h2⟩:=Option.map_eq_some_iff.1 e
 injection h2 with h2 h3
 subst h2
 subst h3
 exact h1
theorem Qbu {rows:List Row} {ρ:Nat->Nat}:∀ {Zp:List Nat} {rs:List Row},Zp.map (fun i=>rows[i]?)=rs.map (fun r=>some (Qeh ρ r))->Sel rows ρ Zp rs
 | [],[],_=>.nil
 | [],_ :: _,h=>by simp at h
 | _ :: _,[],h=>by simp at h
 | i :: Zp,r :: rs,h=>by
  simp only [List.map_cons,List.cons.injEq] at h
  exact .cons h.1 (Qbu h.2)
theorem Qtx (S Zp:List Nat) (e1:(st.only S).tm=st'.tm.map fun p=>(p.1,Qdm (Qdf Zp st.rows.length) p.2)) (e2:Zp.map (fun i=>st.rows[i]?)=st'.rows.map fun r=>some (Qeh (Qdf Zp st.rows.length) r))
  (e3:st'.nt=st.nt) (hn:Zp.Nodup) (h0:Zp.take X.μ0.length=List.range X.μ0.length) (h:AK X f k Q st'):AK X f k Q st:=by
 obtain ⟨nt,tm,rows⟩:=st'
 simp only at e1 e2 e3
 subst e3
 refine Wkb Zp rows tm (Qbu e2) hn h0 (fun i av e=>?_) h
 have:=Qpp (ρ:=Qdf Zp st.rows.length) e
 rw [<- e1] at this
 exact Qzv this
theorem Qx4 (tm':List (Nat × AV)) (ht:∀ i av,tm'.lookup i=some av->st.tm.lookup i=some av) (h:AK X f k Q { st with tm:=tm' }):AK X f k Q st:=
 fun a C hC=>h a C ⟨hC.rel,hC.rows,hC.defers,hC.nt,fun i av e=>hC.tm i av (ht i av e)⟩
theorem Wh3 {X:Ctx} {f g:FuncId} {k k':List Item} {Q:Frame->Frame->Wt->Prop} {st st':St} {Zk args:List AV} {dst:Option Tmp} (S ids:List Nat) {Yn Wv:List Row} {ret:AV}
  (he:Enters X.P g) (hs:Xz X.P g Yn args Wv ret) (e:Qhx st k=some (g,Zk,dst,k')) (hh:Qci st.rows ids Yn) (hp:Qgv st.rows ids (Qa2 ids st.rows.length) Zk args)
  (Qcs:(St.put { st with rows:=Qcn st.rows ids Wv } dst (Qdm (Qa2 ids st.rows.length) ret)).map (St.only S)=some st') (h:AK X f k' Q st'):AK X f k Q st:=by
 obtain ⟨s0,h1,rfl⟩:=Option.map_eq_some_iff.1 Qcs
 exact Qol ids e he hh hp hs h1 (Qel S h)
theorem Jy (rows:List Row):Qci rows [] []:=⟨List.nodup_nil,rfl,fun _ _ _ h=>by simp at h⟩
theorem Qtq {C:Wt} (h:Yd X C) {id:Nat} {r r':Row} (hr:C.rows[id]? = some r) (hl:r'.live=true->r.live=true) (hg:r≠.gone)
  (Jz:∀ (ok:Bool->Nat->Prop) (ob:Option Nat),Qcz C.w ok C.μ ob r->Qcz C.w ok C.μ ob r') (hx:∀ w m,r'.ext w m=[]:=by intros;rfl):
  Yd X ⟨C.μ,C.rows.set id r',C.w⟩/\Ev X C ⟨C.μ,C.rows.set id r',C.w⟩:=by
 have hlt:=(List.getElem?_eq_some_iff.1 hr).1
 have Qkh:∀ {b:Nat},(⟨C.μ,C.rows.set id r',C.w⟩:Wt).live b->C.live b:=by
  rintro b ⟨i,m,s,h1,h2,h3,h4⟩
  rcases (Qbs hlt).1 h2 with ⟨rfl,rfl⟩ | ⟨_,h2⟩
  ·rcases h4 with h4 | h4
   ·exact ⟨id,m,r,h1,hr,hl h3,.inl h4⟩
   rw [hx] at h4;cases h4
  exact ⟨i,m,s,h1,h2,h3,h4⟩
 have ev:Ev X C ⟨C.μ,C.rows.set id r',C.w⟩:=⟨Nat.le_refl _,fun _ _ _=>rfl,fun _ _ hl k=>hl (Qkh k),fun _ _ _ k=>⟨_,k,rfl⟩,fun _ _ hx=>hx⟩
 have hold:∀ {i b:Nat} {m:Option Nat} {s:Row},(C.rows.set id r')[i]? = some s->b∈s.ext C.w m->C.rows[i]? = some s:=by
  intro i b m s h2 h3
  rcases (Qbs hlt).1 h2 with ⟨rfl,rfl⟩ | ⟨_,h2⟩
  ·rw [hx] at h3;cases h3
  exact h2
 refine ⟨⟨by simp [h.len],h.os,h.tape,h.output,h.size,h.keep,h.shape,h.first,h.place, ?_, ?_, ?_, ?_⟩,ev⟩
 ·intro i j b p q h1 h2 h3 h4 h5 h6
  rcases (Qbs hlt).1 h3 with ⟨rfl,rfl⟩ | ⟨n1,h3⟩<;>rcases (Qbs hlt).1 h4 with ⟨rfl,rfl⟩ | ⟨n2,h4⟩
  ·rfl
  ·exact h.apart id j b r q h1 h2 hr h4 (hl h5) h6
  ·exact h.apart i id b p r h1 h2 h3 hr h5 hg
  exact h.apart i j b p q h1 h2 h3 h4 h5 h6
 ·intro i m b p h1 h2 h3
  exact h.Qco i m b p h1 (hold h2 h3) h3
 ·intro i j m n b p q h1 h2 h3 h4 h5 h6
  have h3:=hold h3 h5
  rcases (Qbs hlt).1 h4 with ⟨rfl,rfl⟩ | ⟨n2,h4⟩
  ·exact ⟨(h.Qbt i id m n b p r h1 h2 h3 hr h5 hg).1,fun h7=>by rw [hx] at h7;cases h7⟩
  exact h.Qbt i j m n b p q h1 h2 h3 h4 h5 h6
 intro i o s h1 h2
 rcases (Qbs hlt).1 h2 with ⟨rfl,rfl⟩ | ⟨n1,h2⟩
 ·exact Jz _ _ ((h.rel id o r h1 hr).mono ev.ok ev.same ev.pre ev.shape (fun _ _=>rfl) (fun _ _=>rfl))
 exact (h.rel i o s h1 h2).mono ev.ok ev.same ev.pre ev.shape (fun _ _=>rfl) (fun _ _=>rfl)
theorem Qu2 {id:Nat} {r r':Row} (hr:st.rows[id]? = some r) (hl:r'.live=true->r.live=true) (hg:r≠.gone)
  (Jz:∀ (w:World) (μ:List (Option Nat)) (ok:Bool->Nat->Prop) (ob:Option Nat),Qcz w ok μ ob r->Qcz w ok μ ob r') (hs:st'={ st with rows:=st.rows.set id r' }) (h:AK X f k Q st') (hx:∀ w m,r'.ext w m=[]:=by intros;rfl):AK X f k Q st:=by
 subst hs
 intro a C hC b cs hb hk
 obtain ⟨h1,h2⟩:=Qtq hC.rel (by rw [hC.rows];exact hr) hl hg (Jz C.w C.μ) hx
 have:=hC.Qgy h2 h1
 simp only at this
 rw [hC.rows] at this
 obtain ⟨C',fr,q1,q2,q3⟩:=h a _ this b cs hb hk
 exact ⟨C',fr,q1,q2,q3⟩
theorem Qen (id:Nat) {kk n:Nat} {ty:TypeId} {g:Nat->List DV} (hr:st.rows[id]? = some (.flat false kk ty n g)) (hs:st'={ st with rows:=st.rows.set id (.flat true kk ty n g) }) (h:AK X f k Q st'):AK X f k Q st:=
 Qu2 hr (by intro h;cases h) (by simp) (fun w μ ok ob h=>by cases ob<;>exact h) hs h
theorem Qje (id:Nat) {kk n:Nat} {fz:Bool} {ty:TypeId} {g:Nat->List DV} (g':Nat->List DV) (hr:st.rows[id]? = some (.flat fz kk ty n g)) (hg:∀ i,i < n->g i=g' i)
  (hs:st'={ st with rows:=st.rows.set id (.flat fz kk ty n g') }) (h:AK X f k Q st'):AK X f k Q st:=
 Qu2 (r':=.flat fz kk ty n g') hr (fun h=>h) (by simp) (fun w μ ok ob h=>by
  cases ob with
  | none=>exact h
  | some b=>
   obtain ⟨cs,vs,h1,h2,h3,h4,h5⟩:=h
   exact ⟨cs,vs,h1,h2,h3,fun i hi=>hg i hi▸h4 i hi,h5⟩) hs h
theorem Qh7 {α:Type} {enc:α->List DV} {z:α} {xs:List α}:∀ i,i < xs.length->(fun j=>(xs.map enc).getD j []) i=vec enc z xs i:=by
 intro i hi
 simp [vec,hi]
mutual
inductive Qlv (rows:List Row):AV->DV->Prop
 | d (x:DV):Qlv rows (.d x) x
 | nil (g:Nat->List DV):Qlv rows (.d (.v (.slice none 0 0))) (.sl true 0 g)
 | own {id k n:Nat} {ty:TypeId} {g:Nat->List DV} (h:rows[id]? = some (.flat true k ty n g)):Qlv rows (.own id k 0 n) (.sl true n g)
 | part {id k off m n:Nat} {ty:TypeId} {g:Nat->List DV} (h:rows[id]? = some (.flat true k ty n g)) (hm:off+m<=n):Qlv rows (.own id k off m) (.sl true m fun j=>g (off+j))
 | agg {xs:List AV} {ys:List DV} (h:Qoj rows xs ys):Qlv rows (.agg xs) (.agg ys)
 | Wh0 {xs:List DV} {ys:List DV} (h:Qoj rows (xs.map .d) ys):Qlv rows (.d (.agg xs)) (.agg ys)
inductive Qoj (rows:List Row):List AV->List DV->Prop
 | nil:Qoj rows [] []
 | cons {x:AV} {y:DV} {xs:List AV} {ys:List DV} (h:Qlv rows x y) (hs:Qoj rows xs ys):Qoj rows (x :: xs) (y :: ys)
end
theorem Wf5 {C:Wt} (h:Yd X C) {id b k n:Nat} {ty:TypeId} {g:Nat->List DV} (hμ:C.μ[id]? = some (some b)) (hr:C.rows[id]? = some (.flat true k ty n g)):C.ok X true b:=by
 obtain ⟨h1,h2⟩:=h.place id b hμ
 refine ⟨h2, ?_,fun _=>.inr h1⟩
 rintro ⟨j,m,r,e1,e2,e3,e4⟩
 have:=h.Qit e1 hμ e2 hr e3 (by simp) e4 (.inl rfl)
 subst this
 rw [hr] at e2
 injection e2 with e2
 subst e2
 cases e3
theorem Wau {C:Wt} (h:Yd X C) {id k off m n:Nat} {ty:TypeId} {g g':Nat->List DV} (hr:C.rows[id]? = some (.flat true k ty n g)) (hm:off+m<=n) (hg:∀ j,j < m->g' j=g (off+j)) {v:Value}
  (hv:AVR C.w (C.ok X) C.μ (.own id k off m) v):VR C.w (C.ok X) (.sl true m g') v:=by
 cases hv with
 | Qcc _=>exact .sl0
 | own hμ hh hs hn hc=>
  obtain ⟨cs',vs,r1,r2,r3,r4,r5⟩:=h.rel id _ _ hμ hr
  rename_i b c cs ty'
  rcases Nat.eq_zero_or_pos m with h0 | h0
  ·subst h0;exact .sl0
  refine .sl k (fun j=>vs (off+j)) h0 hn (Wf5 h hμ hr) (fun i hi=>r3 _ (by omega)) (fun i hi=>by rw [hg i hi];exact r4 _ (by omega)) (fun i j v hi hj=>?_)
  rw [cell_of_row _ _ _ _ _ _ r1]
  have:=r5 (off+i) j v (by omega) hj
  rw [Nat.add_mul] at this
  exact this
mutual
theorem Qwu {C:Wt} (h:Yd X C):∀ {x:AV} {y:DV} {v:Value},Qlv C.rows x y->AVR C.w (C.ok X) C.μ x v->VR C.w (C.ok X) y v
 | _,_,_,.d x,.d hv=>hv
 | _,_,v,.nil g,hv=>by
  have:=hv.Qep
  subst this
  exact .sl0
 | _,_,_,.own hr,hv=>Wau h hr (by omega) (fun j _=>by rw [Nat.zero_add]) hv
 | _,_,_,.part hr hm,hv=>Wau h hr hm (fun _ _=>rfl) hv
 | _,_,_,.agg hs,hv=>by
  cases hv with
  | agg hv=>exact .agg (Qpx h hs hv)
 | _,_,_,.Wh0 hs,hv=>by
  cases hv with
  | d hv=>
   cases hv with
   | agg hv=>exact .agg (Qpx h hs hv.toA)
theorem Qpx {C:Wt} (h:Yd X C):∀ {x:List AV} {y:List DV} {v:List Value},Qoj C.rows x y->Qax C.w (C.ok X) C.μ x v->VRs C.w (C.ok X) y v
 | _,_,_,.nil,.nil=>.nil
 | _,_,_,.cons k ks,.cons h1 hv hs=>.cons h1 (Qwu h k hv) (Qpx h ks hs)
end
theorem Wkd (i:Nat) {av:AV} {y:DV} (e:st.tm.lookup i=some av) (hs:Qlv st.rows av y) (he:st'={ st with tm:=(i,.d y) :: st.tm }) (h:AK X f k Q st'):AK X f k Q st:=by
 subst he
 intro a C hC b cs hb hk
 refine h a C ⟨hC.rel,hC.rows,hC.defers,hC.nt,fun j av' e'=>?_⟩ b cs hb hk
 simp only [List.lookup_cons] at e'
 split at e'
 ·rename_i hj
  have hj:j=i:=by simpa using hj
  subst hj
  injection e' with e'
  subst e'
  obtain ⟨v,h1,h2⟩:=hC.tm j _ e
  rw [<- hC.rows] at hs
  exact ⟨v,h1,.d (Qwu hC.rel hs h2)⟩
 exact hC.tm j av' e'
end
end Go.Sy
namespace Go.Sy
def Qf1 (ops:Array Oper) (i:Nat):Option Tmp:=(ops[i]?).bind (·.dst)
def Qor (ops:Array Oper) (Φ:List (Option AV)) (t:Nat):List Nat->Option AV
 | []=>none
 | j :: js=>match Qf1 ops j with
  | some d=>bif Nat.beq d t then (Φ[j]?).join else Qor ops Φ t js
  | none=>Qor ops Φ t js
def Qc4 (ops:Array Oper) (base:List (Nat × AV)) (Φ:List (Option AV)) (i:Nat):List (Nat × AV):=
 match ops[i]? with
 | some o=>(o.looksAt ops).filterMap fun t=>(match Qor ops Φ t ((o.after.toList.filter fun e=>Region.binds .any e).map fun (e:Edge)=>e.on) with | some av=>some av | none=>base.lookup t).map fun av=>(t,av)
 | none=>[]
def Qgm (dst:Option Tmp) (v:Option AV) (tm:List (Nat × AV)):List (Nat × AV):=
 match dst with
 | none=>tm
 | some d=>match v with
  | some av=>(d,av) :: tm
  | none=>tm.filter fun p=>!Nat.beq p.1 d
def Qld (X:Ctx) (f:FuncId) (k:List Item) (Q:Frame->Frame->Wt->Prop) (nt:Nat) (rows:List Row) (ops:Array Oper) (base:List (Nat × AV)) (Φ:List (Option AV)) (i:Nat):Prop:=
 ∀ (R:List Nat) (rest:List (Nat × AV)),AK X f (.inRegion ops R :: k) Q ⟨nt,Qgm (Qf1 ops i) ((Φ[i]?).join) (Qc4 ops base Φ i ++ rest),rows⟩->AK X f (.inRegion ops (i :: R) :: k) Q ⟨nt,Qc4 ops base Φ i ++ rest,rows⟩
def Qhy (ops:Array Oper) (i:Nat):List Nat:=
 match ops[i]? with
 | some o=>(o.after.toList.filter fun e=>Region.binds .any e).map fun (e:Edge)=>e.on
 | none=>[]
def Qm0 (ops:Array Oper):Nat->List Nat->List Nat
 | 0,s=>s
 | i+1,s=>Qm0 ops i (bif s.contains i then Qhy ops i ++ s else s)
def Qk0 (ops:Array Oper) (m:Nat) (keys:List Nat):Bool:=
 Nat.ble m ops.size &&
 (List.range ops.size).all (fun i=>match ops[i]? with
  | some o=>o.after.toList.all (fun e=>!Region.binds .any e || Nat.blt e.on i) && (Nat.blt i m || bif Nat.beq i m then (List.range i).all fun j=>(Qm0 ops m (Qhy ops m)).contains j else o.after.toList.any fun e=>Nat.beq (e.on+1) i && Region.binds .any e)
  | none=>false) &&
 (List.range m).all (fun i=>match Qf1 ops i with
  | some d=>!keys.contains d && (List.range i).all fun j=>match Qf1 ops j with
   | some d'=>!Nat.beq d' d
   | none=>true
  | none=>true)
section
variable {ops:Array Oper} {m:Nat} {keys:List Nat}
structure Qtv (ops:Array Oper) (m:Nat) (keys:List Nat):Prop where
 le:m<=ops.size
 back:∀ (i:Nat) (o:Oper),ops[i]? = some o->∀ e∈o.after.toList,Region.binds .any e=true->e.on < i
 tail:∀ (o:Oper),ops[m]? = some o->∀ j,j < m->j∈Qm0 ops m (Qhy ops m)
 next:∀ (i:Nat) (o:Oper),ops[i]? = some o->m < i->∃ e∈o.after.toList,e.on+1=i/\Region.binds .any e=true
 fresh:∀ i d,i < m->Qf1 ops i=some d->d ∉ keys
 apart:∀ i j d,i < m->j < i->Qf1 ops i=some d->Qf1 ops j≠some d
theorem Qzq (h:Qk0 ops m keys=true):Qtv ops m keys:=by
 simp only [Qk0,Bool.and_eq_true,List.all_eq_true,List.mem_range] at h
 obtain ⟨⟨h1,h2⟩,h3⟩:=h
 have at2:∀ i o,ops[i]? = some o->(o.after.toList.all (fun e=>!Region.binds .any e || Nat.blt e.on i) && (Nat.blt i m || bif Nat.beq i m then (List.range i).all fun j=>(Qm0 ops m (Qhy ops m)).contains j else o.after.toList.any fun e=>Nat.beq (e.on+1) i && Region.binds .any e))=true:=by
  intro i o ho
  have hi:i < ops.size:=by
   obtain ⟨hi,_⟩:=Array.getElem?_eq_some_iff.1 ho
   exact hi
  have:=h2 i hi
  rw [ho] at this
  simpa only [Bool.and_eq_true] using this
 refine ⟨Nat.le_of_ble_eq_true h1, ?_, ?_, ?_, ?_, ?_⟩
 ·intro i o ho e he hb
  have:=at2 i o ho
  simp only [Bool.and_eq_true,List.all_eq_true] at this
  have:=this.1 e he
  rw [hb] at this
  simpa using this
 ·intro o ho j hj
  have:=at2 m o ho
  simp only [Bool.and_eq_true,Bool.or_eq_true,List.all_eq_true,List.mem_range] at this
  rcases this.2 with h | h
  ·have:=Nat.le_of_ble_eq_true h
   omega
  rw [show Nat.beq m m=true from Nat.beq_refl m,cond_true,List.all_eq_true] at h
  have:=h j (by simpa using hj)
  simpa using this
 ·intro i o ho hm
  have:=at2 i o ho
  simp only [Bool.and_eq_true,Bool.or_eq_true,List.all_eq_true,List.mem_range] at this
  rcases this.2 with h | h
  ·have:=Nat.le_of_ble_eq_true h
   omega
  rw [show Nat.beq i m=false by
   cases hb:Nat.beq i m with
   | false=>rfl
   | true=>have:=Nat.eq_of_beq_eq_true hb;omega,cond_false] at h
  simp only [List.any_eq_true,Bool.and_eq_true] at h
  obtain ⟨e,he,hj,hb⟩:=h
  exact ⟨e,he,Nat.eq_of_beq_eq_true hj,hb⟩
 ·intro i d hi hd
  have:=h3 i hi
  rw [hd] at this
  simp only [Bool.and_eq_true] at this
  simpa using this.1
 intro i j d hi hj hd hd2
 have:=h3 i hi
 rw [hd] at this
 simp only [Bool.and_eq_true,List.all_eq_true,List.mem_range] at this
 have:=this.2 j hj
 rw [hd2] at this
 simp at this
def isL (listed:Array Bool) (i:Nat):Prop:=listed.getD i true=true
theorem Qli {listed:Array Bool} {i j:Nat} (hi:i < listed.size):isL (listed.setIfInBounds i true) j↔j=i\/isL listed j:=by
 unfold isL
 simp only [Array.getD_eq_getD_getElem?,Array.getElem?_setIfInBounds]
 by_cases e:i=j
 ·subst e;simp [hi]
 simp [e]
 intro h
 exact absurd h.symm e
theorem mem_ready {md:Region.Mode} {listed:Array Bool} {i:Nat} (h:i∈Region.ready md ops listed):i < ops.size/\¬ isL listed i/\∃ o,ops[i]? = some o/\∀ e∈o.after.toList,Region.binds md e=true->listed.getD e.on false=true:=by
 simp only [Region.ready,List.mem_filter,List.mem_range,Bool.and_eq_true] at h
 obtain ⟨h1,h2,h3⟩:=h
 refine ⟨h1,by simpa [isL] using h2,ops[i],by simp [h1], ?_⟩
 rw [Array.getElem?_eq_getElem h1] at h3
 simp only [Option.map_some,Option.getD_some] at h3
 intro e he hb
 rw [<- Array.all_toList] at h3
 have:=List.all_eq_true.1 h3 e he
 simpa [hb] using this
theorem Qza {md:Region.Mode} {listed:Array Bool} {i:Nat} {o:Oper} (ho:ops[i]? = some o) (hl:¬ isL listed i) (h:∀ e∈o.after.toList,Region.binds md e=true->listed.getD e.on false=true):i∈Region.ready md ops listed:=by
 have hi:i < ops.size:=(Array.getElem?_eq_some_iff.1 ho).1
 simp only [Region.ready,List.mem_filter,List.mem_range,Bool.and_eq_true]
 refine ⟨hi,by simpa [isL] using hl, ?_⟩
 rw [ho]
 simp only [Option.map_some,Option.getD_some]
 rw [<- Array.all_toList,List.all_eq_true]
 intro e he
 cases hb:Region.binds md e with
 | false=>rfl
 | true=>simp [h e he hb]
def Qqe (ops:Array Oper) (listed:Array Bool):Prop:=∀ i,i < ops.size->isL listed i->∀ j∈Qhy ops i,isL listed j
theorem Qka {listed:Array Bool} (hc:Qqe ops listed):∀ (n:Nat) (s:List Nat),n<=ops.size->(∀ j∈s,isL listed j)->∀ j∈Qm0 ops n s,isL listed j
 | 0,s,_,h=>h
 | i+1,s,hn,h=>by
  simp only [Qm0]
  refine Qka hc i _ (by omega) fun j hj=>?_
  cases hb:s.contains i with
  | false=>rw [hb] at hj;exact h j hj
  | true=>
   rw [hb] at hj
   rcases List.mem_append.1 hj with hj | hj
   ·exact hc i (by omega) (h i (by simpa using hb)) j hj
   exact h j hj
theorem Qpu {listed:Array Bool} {i:Nat} (h:i∈Region.ready .any ops listed):∀ j∈Qhy ops i,listed.getD j false=true:=by
 obtain ⟨h1,h2,o,h3,h4⟩:=mem_ready h
 intro j hj
 unfold Qhy at hj
 rw [h3] at hj
 obtain ⟨e,he,rfl⟩:=List.mem_map.1 hj
 obtain ⟨he,hb⟩:=List.mem_filter.1 he
 exact h4 e he hb
theorem Qp8 {listed:Array Bool} {j:Nat} (hj:j < listed.size) (h:isL listed j):listed.getD j false=true:=by
 unfold isL at h
 simpa [Array.getD_eq_getD_getElem?,hj] using h
theorem Qiz {listed:Array Bool} {j:Nat} (h:listed.getD j false=true):isL listed j:=by
 unfold isL
 by_cases hj:j < listed.size
 ·simpa [Array.getD_eq_getD_getElem?,hj] using h
 simp [Array.getD_eq_getD_getElem?,hj]
theorem Wkx (w:Qtv ops m keys):∀ (fuel i t:Nat) (listed:Array Bool),m<=i->i+fuel=ops.size->listed.size=ops.size->(∀ j,j < ops.size->(isL listed j↔j < i)) ->
  Region.linearise.go .any ops fuel t listed []=List.range' i fuel:=by
 intro fuel
 induction fuel with
 | zero=>intro i t listed _ _ _ _;simp [Region.linearise.go]
 | succ fuel ih=>
  intro i t listed hm hi hs hl
  have hi':i < ops.size:=by omega
  have hready:Region.ready .any ops listed=[i]:=by
   have h1:∀ j,j∈Region.ready .any ops listed↔j=i:=by
    intro j
    constructor
    ·intro hj
     obtain ⟨a1,a2,o,a3,a4⟩:=mem_ready hj
     have hji:¬ j < i:=fun h=>a2 ((hl j a1).2 h)
     rcases Nat.lt_or_ge i j with h | h
     ·obtain ⟨e,he,hej,hb⟩:=w.next j o a3 (by omega)
      have:=Qiz (a4 e he hb)
      rw [hl e.on (by omega)] at this
      omega
     omega
    rintro rfl
    refine Qza (Array.getElem?_eq_getElem hi') (fun h=>by rw [hl j hi'] at h;omega) (fun e he hb=>?_)
    have:=w.back j _ (Array.getElem?_eq_getElem hi') e he hb
    exact Qp8 (by omega) ((hl e.on (by omega)).2 this)
   have h2:(Region.ready .any ops listed).Nodup:=List.nodup_range.filter _
   generalize Region.ready .any ops listed=l at h1 h2
   match l,h1,h2 with
   | [],h1,_=>exact absurd ((h1 i).2 rfl) (by simp)
   | [x],h1,_=>rw [(h1 x).1 (by simp)]
   | x :: y :: l,h1,h2=>
    have e1:=(h1 x).1 (by simp)
    have e2:=(h1 y).1 (by simp)
    subst e1
    subst e2
    simp at h2
  simp only [Region.linearise.go]
  change (match (Region.ready .any ops listed)[t % (Region.ready .any ops listed).length]? with
   | some i=>Region.linearise.go .any ops fuel (t / (Region.ready .any ops listed).length) (listed.setIfInBounds i true) [i]
   | none=>[].reverse)=_
  rw [hready]
  simp only [List.length_singleton,Nat.mod_one,List.getElem?_cons_zero]
  rw [linearise_go_acc,ih (i+1) _ _ (by omega) (by omega) (by simpa using hs)]
  ·rw [List.range'_succ];rfl
  intro j hj
  rw [Qli (by omega),hl j hj]
  omega
end
section
variable {X:Ctx} {T:Tab} {f:FuncId} {k:List Item} {Q:Frame->Frame->Wt->Prop} {nt:Nat} {rows:List Row} {ops:Array Oper} {m:Nat} {base:List (Nat × AV)} {Φ:List (Option AV)}
def Holds (ops:Array Oper) (base:List (Nat × AV)) (Φ:List (Option AV)) (listed:Array Bool) (m:Nat) (tm:List (Nat × AV)):Prop:=
 (∀ t av,base.lookup t=some av->tm.lookup t=some av)/\∀ j d av,j < m->isL listed j->Qf1 ops j=some d->(Φ[j]?).join=some av->tm.lookup d=some av
theorem Wda {l:List (Nat × AV)} {t:Nat} {av:AV} (h:l.lookup t=some av):t∈l.map (·.1):=List.mem_map.2 ⟨_,Qdw h,rfl⟩
theorem Qoe {t:Nat} {av:AV}:∀ {js:List Nat},Qor ops Φ t js=some av->∃ j∈js,Qf1 ops j=some t/\(Φ[j]?).join=some av
 | [],h=>by simp [Qor] at h
 | j :: js,h=>by
  simp only [Qor] at h
  split at h
  ·rename_i d hd
   cases hb:Nat.beq d t with
   | true=>
    rw [hb] at h
    have:=Nat.eq_of_beq_eq_true hb
    subst this
    exact ⟨j,by simp,hd,h⟩
   | false=>
    rw [hb] at h
    obtain ⟨j',h1,h2⟩:=Qoe h
    exact ⟨j',by simp [h1],h2⟩
  obtain ⟨j',h1,h2⟩:=Qoe h
  exact ⟨j',by simp [h1],h2⟩
theorem Qvh (w:Qtv ops m (base.map (·.1))) {i:Nat} (him:i < m) {listed:Array Bool} {tm:List (Nat × AV)} (hs:listed.size=ops.size) (hr:i∈Region.ready .any ops listed) (hh:Holds ops base Φ listed m tm):
  ∀ t av,(Qc4 ops base Φ i ++ tm).lookup t=some av->tm.lookup t=some av:=by
 obtain ⟨h1,h2,o,h3,h4⟩:=mem_ready hr
 have all:∀ p∈Qc4 ops base Φ i,tm.lookup p.1=some p.2:=by
  intro p hp
  simp only [Qc4,h3,List.mem_filterMap] at hp
  obtain ⟨t,ht,hp⟩:=hp
  split at hp
  ·rename_i av hd
   simp only [Option.map_some,Option.some.injEq] at hp
   subst hp
   obtain ⟨j,hj,e1,e2⟩:=Qoe hd
   simp only [List.mem_map,List.mem_filter] at hj
   obtain ⟨e,⟨he,b2⟩,rfl⟩:=hj
   have b1:=w.back i o h3 e he b2
   exact hh.2 _ _ _ (by omega) (Qiz (h4 e he b2)) e1 e2
  cases hb:base.lookup t with
  | none=>rw [hb] at hp;cases hp
  | some av=>
   rw [hb] at hp
   simp only [Option.map_some,Option.some.injEq] at hp
   subst hp
   exact hh.1 _ _ hb
 have key:∀ (l:List (Nat × AV)),(∀ p∈l,tm.lookup p.1=some p.2)->∀ t av,(l ++ tm).lookup t=some av->tm.lookup t=some av:=by
  intro l
  induction l with
  | nil=>intro _ t av h;exact h
  | cons p l ih=>
   intro hl t av h
   rw [List.cons_append,List.lookup_cons] at h
   split at h
   ·rename_i e
    have e:t=p.1:=by simpa using e
    subst e
    injection h with h
    subst h
    exact hl p (by simp)
   exact ih (fun p hp=>hl p (by simp [hp])) t av h
 exact key _ all
theorem Qzm {dst:Option Tmp} {v:Option AV} {tm:List (Nat × AV)} {t:Nat} {av:AV} (h:tm.lookup t=some av) (hd:dst≠some t):(Qgm dst v tm).lookup t=some av:=by
 cases dst with
 | none=>exact h
 | some d=>
  have hd:d≠t:=fun e=>hd (by rw [e])
  cases v with
  | some x=>
   simp only [Qgm,List.lookup_cons]
   rw [show (t == d)=false from by simpa using Ne.symm hd]
   exact h
  | none=>
   simp only [Qgm]
   induction tm with
   | nil=>simp at h
   | cons p tm ih=>
    rw [List.lookup_cons] at h
    rw [List.filter_cons]
    split at h
    ·rename_i e
     have e:t=p.1:=by simpa using e
     injection h with h
     subst h
     subst e
     rw [if_pos (by cases hb:Nat.beq p.1 d with | false=>rfl | true=>exact absurd (Nat.eq_of_beq_eq_true hb) (Ne.symm hd)),List.lookup_cons]
     simp
    rename_i e
    split
    ·rw [List.lookup_cons,e]
     exact ih h
    exact ih h
def Qjl (ops:Array Oper) (Φ:List (Option AV)) (m:Nat):List (Nat × AV):=
 (List.range m).filterMap fun j=>match Qf1 ops j with
  | some d=>((Φ[j]?).join).map fun av=>(d,av)
  | none=>none
def Qmo (X:Ctx) (f:FuncId) (k:List Item) (Q:Frame->Frame->Wt->Prop) (nt:Nat) (rows rows':List Row) (ops:Array Oper) (base:List (Nat × AV)) (Φ:List (Option AV)) (i:Nat):Prop:=
 ∀ (R:List Nat) (rest:List (Nat × AV)),AK X f (.inRegion ops R :: k) Q ⟨nt,Qgm (Qf1 ops i) ((Φ[i]?).join) (Qc4 ops base Φ i ++ rest),rows'⟩->AK X f (.inRegion ops (i :: R) :: k) Q ⟨nt,Qc4 ops base Φ i ++ rest,rows⟩
def Qhv (E:List Nat) (listed:Array Bool):Nat:=(E.filter fun e=>listed.getD e true).length
structure Qo5 (ops:Array Oper) (E:List Nat) (m:Nat):Prop where
 lt:∀ e∈E,e < m
 nodup:E.Nodup
 next:∀ (j e e':Nat),E[j]? = some e->E[j+1]? = some e'->e∈Qm0 ops e' (Qhy ops e')
theorem Qo5.down {E:List Nat} (hc:Qo5 ops E m) (hm:m<=ops.size) {listed:Array Bool} (hcl:Qqe ops listed):∀ (d j e q:Nat),E[j]? = some e->E[j+d]? = some q->isL listed q->isL listed e
 | 0,j,e,q,h1,h2,hq=>by
  rw [Nat.add_zero,h1] at h2
  injection h2 with h2
  exact h2▸hq
 | d+1,j,e,q,h1,h2,hq=>by
  have hlt:=(List.getElem?_eq_some_iff.1 h2).1
  have Qvc:E[j+d]? = some E[j+d]:=List.getElem?_eq_getElem (by omega)
  refine Qo5.down hc hm hcl d j e _ h1 Qvc ?_
  have hqm:=hc.lt q (List.mem_of_getElem? h2)
  exact Qka hcl q _ (by omega) (hcl q (by omega) hq) _ (hc.next (j+d) _ q Qvc h2)
theorem Qp0 {E:List Nat} {listed:Array Bool} {j:Nat} (hj:j<=E.length) (h1:∀ (i e:Nat),i < j->E[i]? = some e->listed.getD e true=true) (h2:∀ (i e:Nat),j<=i->E[i]? = some e->listed.getD e true=false):Qhv E listed=j:=by
 unfold Qhv
 rw [<- List.take_append_drop j E,List.filter_append,List.length_append]
 have e1:(E.take j).filter (fun e=>listed.getD e true)=E.take j:=by
  rw [List.filter_eq_self]
  intro e he
  obtain ⟨i,hi,rfl⟩:=List.mem_iff_getElem.1 he
  rw [List.length_take] at hi
  exact h1 i _ (by omega) (by rw [List.getElem_take];exact List.getElem?_eq_getElem (by omega))
 have e2:(E.drop j).filter (fun e=>listed.getD e true)=[]:=by
  rw [List.filter_eq_nil_iff]
  intro e he
  obtain ⟨i,hi,rfl⟩:=List.mem_iff_getElem.1 he
  rw [List.length_drop] at hi
  rw [h2 (j+i) _ (by omega) (by rw [List.getElem_drop];exact List.getElem?_eq_getElem (by omega))]
  simp
 rw [e1,e2,List.length_take,List.length_nil]
 omega
def Qps (ops:Array Oper) (E:List Nat) (i s:Nat):Bool:=(E.take s).all fun e=>!(Qm0 ops e (Qhy ops e)).contains i
theorem Wi4 {E:List Nat} (hc:Qo5 ops E m) (hm:m<=ops.size) {listed:Array Bool} (hcl:Qqe ops listed) {i:Nat} (hi:¬ isL listed i):Qps ops E i (Qhv E listed)=true:=by
 unfold Qps
 rw [List.all_eq_true]
 intro e he
 obtain ⟨q,hq,rfl⟩:=List.mem_iff_getElem.1 he
 rw [List.length_take] at hq
 rw [List.getElem_take]
 have hqE:q < E.length:=by omega
 have hl:isL listed E[q]:=by
  refine Classical.byContradiction fun hn=>?_
  have Qi2:∀ x∈E.drop q,¬ (listed.getD x true=true):=by
   intro x hx hlx
   obtain ⟨d,hd,rfl⟩:=List.mem_iff_getElem.1 hx
   rw [List.getElem_drop] at hlx
   rw [List.length_drop] at hd
   exact hn (hc.down hm hcl d q _ _ (List.getElem?_eq_getElem hqE) (List.getElem?_eq_getElem (by omega)) hlx)
  have:Qhv E listed<=q:=by
   unfold Qhv
   rw [<- List.take_append_drop q E,List.filter_append,List.filter_eq_nil_iff.2 Qi2,List.append_nil]
   exact Nat.le_trans (List.length_filter_le _ _) (by rw [List.length_take];omega)
  omega
 have hlt:E[q] < ops.size:=Nat.lt_of_lt_of_le (hc.lt _ (List.getElem_mem hqE)) hm
 cases hb:(Qm0 ops E[q] (Qhy ops E[q])).contains i with
 | false=>rfl
 | true=>exact absurd (Qka hcl E[q] (Qhy ops E[q]) (by omega) (hcl _ hlt hl) i (by simpa using hb)) hi
theorem Wki {rw_:Nat->List Row} {E:List Nat} (w:Qtv ops m (base.map (·.1))) (hE:Qo5 ops E m) (hop:∀ i,i < m->i ∉ E->∀ s,s<=E.length->Qps ops E i s=true->Qld X f k Q nt (rw_ s) ops base Φ i) (Qyn:∀ (j e:Nat),E[j]? = some e->Qmo X f k Q nt (rw_ j) (rw_ (j+1)) ops base Φ e)
  (Qfu:AK X f (.inRegion ops (List.range' m (ops.size - m)) :: k) Q ⟨nt,Qjl ops Φ m ++ base,rw_ E.length⟩):
  ∀ (fuel t:Nat) (listed:Array Bool) (tm:List (Nat × AV)),listed.size=ops.size->(∀ j,m<=j->j < ops.size->¬ isL listed j)->((List.range m).filter fun j=>!listed.getD j true).length+(ops.size - m)=fuel ->
   Holds ops base Φ listed m tm->Qqe ops listed->AK X f (.inRegion ops (Region.linearise.go .any ops fuel t listed []) :: k) Q ⟨nt,tm,rw_ (Qhv E listed)⟩:=by
 intro fuel
 have full:∀ (fuel t:Nat) (listed:Array Bool) (tm:List (Nat × AV)),listed.size=ops.size->(∀ j,m<=j->j < ops.size->¬ isL listed j)->(∀ j,j < m->isL listed j)->ops.size - m=fuel ->
   Holds ops base Φ listed m tm->AK X f (.inRegion ops (Region.linearise.go .any ops fuel t listed []) :: k) Q ⟨nt,tm,rw_ (Qhv E listed)⟩:=by
  intro fuel t listed tm hs hno Qi2 hf hh
  have hle:=w.le
  have hrw:Qhv E listed=E.length:=Qp0 (Nat.le_refl _) (fun i e _ he=>Qi2 e (hE.lt e (List.mem_of_getElem? he))) (fun i e h1 h2=>by
   have:=(List.getElem?_eq_some_iff.1 h2).1
   omega)
  rw [hrw]
  rw [Wkx w fuel m t listed (Nat.le_refl _) (by omega) hs (fun j hj=>⟨fun h=>by
   rcases Nat.lt_or_ge j m with h1 | h1
   ·exact h1
   exact absurd h (hno j h1 hj),Qi2 j⟩),<- hf]
  refine Qx4 (Qjl ops Φ m ++ base) (fun t av e=>?_) Qfu
  rw [List.lookup_append] at e
  cases e1:(Qjl ops Φ m).lookup t with
  | none=>
   rw [e1] at e
   exact hh.1 _ _ (by simpa using e)
  | some av'=>
   rw [e1] at e
   simp only [Option.some_or,Option.some.injEq] at e
   subst e
   have:=Qdw e1
   simp only [Qjl,List.mem_filterMap,List.mem_range] at this
   obtain ⟨j,hj,e2⟩:=this
   split at e2
   ·rename_i d hd
    obtain ⟨x,e3,e4⟩:=Option.map_eq_some_iff.1 e2
    injection e4 with e4 e5
    subst e4
    subst e5
    exact hh.2 j _ _ hj (Qi2 j hj) hd e3
   cases e2
 induction fuel with
 | zero=>
  intro t listed tm hs hno hf hh hcl
  refine full 0 t listed tm hs hno (fun j hj=>?_) (by omega) hh
  have h0:((List.range m).filter fun j=>!listed.getD j true).length=0:=by omega
  rw [List.length_eq_zero_iff,List.filter_eq_nil_iff] at h0
  simpa [isL] using h0 j (by simpa using hj)
 | succ fuel ih=>
  intro t listed tm hs hno hf hh hcl
  by_cases Qi2:∀ j,j < m->isL listed j
  ·refine full (fuel+1) t listed tm hs hno Qi2 ?_ hh
   have h0:((List.range m).filter fun j=>!listed.getD j true).length=0:=by
    rw [List.length_eq_zero_iff,List.filter_eq_nil_iff]
    intro j hj
    have:=Qi2 j (by simpa using hj)
    simpa [isL] using this
   omega
  -- one comes up
  have hle:=w.le
  have some_ready:∃ i,i∈Region.ready .any ops listed:=by
   have:∃ j,j < m/\¬ isL listed j:=by
    apply Classical.byContradiction
    intro hc
    exact Qi2 fun j hj=>Classical.byContradiction fun hn=>hc ⟨j,hj,hn⟩
   obtain ⟨j,hj,hjn⟩:=this
   have least:∀ n j,j<=n->j < m->¬ isL listed j->∃ i,i < m/\¬ isL listed i/\∀ q,q < i->isL listed q:=by
    intro n
    induction n with
    | zero=>intro j hj hm hn;exact ⟨j,hm,hn,fun q hq=>by omega⟩
    | succ n ihn=>
     intro j hj hm hn
     by_cases hq:∀ q,q < j->isL listed q
     ·exact ⟨j,hm,hn,hq⟩
     have:∃ q,q < j/\¬ isL listed q:=by
      apply Classical.byContradiction
      intro hc
      exact hq fun q hq=>Classical.byContradiction fun hn=>hc ⟨q,hq,hn⟩
     obtain ⟨q,h1,h2⟩:=this
     exact ihn q (by omega) (by omega) h2
   obtain ⟨i,h1,h2,h3⟩:=least j j (Nat.le_refl _) hj hjn
   have hi:i < ops.size:=by omega
   refine ⟨i,Qza (Array.getElem?_eq_getElem hi) h2 (fun e he hb=>?_)⟩
   have:=w.back i _ (Array.getElem?_eq_getElem hi) e he hb
   exact Qp8 (by omega) (h3 _ this)
  simp only [Region.linearise.go]
  change AK X f (.inRegion ops (match (Region.ready .any ops listed)[t % (Region.ready .any ops listed).length]? with
   | some i=>Region.linearise.go .any ops fuel (t / (Region.ready .any ops listed).length) (listed.setIfInBounds i true) [i]
   | none=>[].reverse) :: k) Q _
  have Wiv:0 < (Region.ready .any ops listed).length:=by
   obtain ⟨i,hi⟩:=some_ready
   exact List.length_pos_of_mem hi
  have hlt:=Nat.mod_lt t Wiv
  rw [List.getElem?_eq_getElem hlt]
  simp only
  have Qi3:(Region.ready .any ops listed)[t % (Region.ready .any ops listed).length]∈Region.ready .any ops listed:=List.getElem_mem hlt
  generalize (Region.ready .any ops listed)[t % (Region.ready .any ops listed).length]=i at Qi3
  obtain ⟨h1,h2,o,h3,h4⟩:=mem_ready Qi3
  have him:i < m:=by
   rcases Nat.lt_or_ge i m with h | h
   ·exact h
   exfalso
   rcases Nat.lt_or_ge m i with h5 | h5
   ·obtain ⟨e,he,hej,hb⟩:=w.next i o h3 h5
    exact hno e.on (by omega) (by omega) (Qiz (h4 e he hb))
   have:i=m:=by omega
   subst this
   refine Qi2 fun j hj=>?_
   exact Qka hcl i _ (by omega) (fun q hq=>Qiz (Qpu Qi3 q hq)) j (w.tail o h3 j hj)
  rw [linearise_go_acc]
  refine Qx4 (Qc4 ops base Φ i ++ tm) (Qvh w him hs Qi3 hh) ?_
  have hcl2:Qqe ops (listed.setIfInBounds i true):=by
   intro q hq hql j hj
   rw [Qli (by omega)] at hql ⊢
   rcases hql with rfl | hql
   ·exact .inr (Qiz (Qpu Qi3 j hj))
   exact .inr (hcl q hq hql j hj)
  have hgo:AK X f (.inRegion ops (Region.linearise.go .any ops fuel (t / (Region.ready .any ops listed).length) (listed.setIfInBounds i true) []) :: k) Q ⟨nt,Qgm (Qf1 ops i) ((Φ[i]?).join) (Qc4 ops base Φ i ++ tm),rw_ (Qhv E (listed.setIfInBounds i true))⟩->AK X f (.inRegion ops (i :: Region.linearise.go .any ops fuel (t / (Region.ready .any ops listed).length) (listed.setIfInBounds i true) []) :: k) Q ⟨nt,Qc4 ops base Φ i ++ tm,rw_ (Qhv E listed)⟩:=by
   by_cases hie:i∈E
   ·obtain ⟨j,hj⟩:=List.mem_iff_getElem?.1 hie
    have hjl:=(List.getElem?_eq_some_iff.1 hj).1
    have low:∀ (q e:Nat),q < j->E[q]? = some e->isL listed e:=fun q e hq he=>by
     have Qi8:E[j - 1]? = some E[j - 1]:=List.getElem?_eq_getElem (by omega)
     have h5:isL listed E[j - 1]:=by
      have hn:=hE.next (j - 1) _ i Qi8 (by rw [show j - 1+1=j by omega];exact hj)
      exact Qka hcl i _ (by omega) (fun z hz=>Qiz (Qpu Qi3 z hz)) _ hn
     exact hE.down hle hcl (j - 1 - q) q e _ he (by rw [show q+(j - 1 - q)=j - 1 by omega];exact Qi8) h5
    have high:∀ (q e:Nat),j<=q->E[q]? = some e->¬ isL listed e:=fun q e hq he hl=>h2 (hE.down hle hcl (q - j) j i e hj (by rw [show j+(q - j)=q by omega];exact he) hl)
    have e1:Qhv E listed=j:=Qp0 (by omega) (fun q e hq he=>low q e hq he) (fun q e hq he=>by simpa [isL] using high q e hq he)
    have e2:Qhv E (listed.setIfInBounds i true)=j+1:=Qp0 (by omega) (fun q e hq he=>(Qli (j:=e) (by omega)).2 (by
     rcases Nat.lt_or_ge q j with h | h
     ·exact .inr (low q e h he)
     ·have:q=j:=by omega
      subst this
      rw [hj] at he
      injection he with he
      exact .inl he.symm)) (fun q e hq he=>by
     have hne:e≠i:=by
      rintro rfl
      have hql:=(List.getElem?_eq_some_iff.1 he).1
      have:=List.pairwise_iff_getElem.1 hE.nodup j q hjl hql (by omega)
      rw [List.getElem?_eq_getElem hjl] at hj
      rw [List.getElem?_eq_getElem hql] at he
      injection hj with hj
      injection he with he
      exact this (hj.trans he.symm)
     have h6:=high q e (by omega) he
     have h7:¬ isL (listed.setIfInBounds i true) e:=fun h=>by
      rcases (Qli (by omega)).1 h with h | h
      ·exact hne h
      exact h6 h
     simpa [isL] using h7)
    rw [e1,e2]
    exact Qyn j i hj _ tm
   have e1:Qhv E (listed.setIfInBounds i true)=Qhv E listed:=by
    unfold Qhv
    congr 1
    apply List.filter_congr
    intro e he
    have:i≠e:=fun h=>hie (h▸he)
    simp [Array.getD_eq_getD_getElem?,Array.getElem?_setIfInBounds,this]
   rw [e1]
   exact hop i him hie _ (List.length_filter_le _ _) (Wi4 hE hle hcl h2) _ tm
  refine hgo ?_
  refine ih _ _ _ (by simpa using hs) ?_ ?_ ?_ hcl2
  ·intro j hj hj2 hl
   rw [Qli (by omega)] at hl
   rcases hl with h | h
   ·omega
   exact hno j hj hj2 h
  ·have hcount:∀ n,i < n->n<=m->((List.range n).filter fun j=>!listed.getD j true).length=((List.range n).filter fun j=>!(listed.setIfInBounds i true).getD j true).length+1:=by
    have same:∀ n,n<=i->((List.range n).filter fun j=>!listed.getD j true)=((List.range n).filter fun j=>!(listed.setIfInBounds i true).getD j true):=by
     intro n hn
     apply List.filter_congr
     intro j hj
     have hj:j < n:=by simpa using hj
     have:j≠i:=by omega
     simp [Array.getD_eq_getD_getElem?,Array.getElem?_setIfInBounds,Ne.symm this]
    intro n
    induction n with
    | zero=>intro h;omega
    | succ n ihn=>
     intro h1 h2
     rw [List.range_succ,List.filter_append,List.filter_append,List.length_append,List.length_append]
     by_cases e:i=n
     ·subst e
      rw [same i (Nat.le_refl _)]
      have a1:listed.getD i true=false:=by simpa [isL] using ‹¬ isL listed i›
      have a2:(listed.setIfInBounds i true).getD i true=true:=(Qli (j:=i) (by omega)).2 (.inl rfl)
      simp only [List.filter_cons,List.filter_nil,a1,a2]
      simp
     have:=ihn (by omega) (by omega)
     have a3:(listed.setIfInBounds i true).getD n true=listed.getD n true:=by simp [Array.getD_eq_getD_getElem?,Array.getElem?_setIfInBounds,e]
     rw [this]
     simp only [List.filter_cons,List.filter_nil,a3]
     omega
   have:=hcount m him (Nat.le_refl _)
   omega
  refine ⟨fun t av ht=>?_,fun j d av hj hl hd hv=>?_⟩
  ·refine Qzm ?_ (fun e=>w.fresh i t him e (Wda ht))
   have:=hh.1 t av ht
   cases hq:(Qc4 ops base Φ i).lookup t with
   | none=>rw [List.lookup_append,hq];simpa using this
   | some x=>
    have h5:=Qvh w him hs Qi3 hh t x (by rw [List.lookup_append,hq];rfl)
    rw [List.lookup_append,hq,<- this,h5]
    rfl
  rw [Qli (by omega)] at hl
  rcases hl with rfl | hl
  ·rw [hd,hv]
   simp [Qgm]
  have hji:j≠i:=by rintro rfl;exact h2 hl
  refine Qzm ?_ ?_
  ·have:=hh.2 j d av hj hl hd hv
   cases hq:(Qc4 ops base Φ i).lookup d with
   | none=>rw [List.lookup_append,hq];simpa using this
   | some x=>
    have h5:=Qvh w him hs Qi3 hh d x (by rw [List.lookup_append,hq];rfl)
    rw [List.lookup_append,hq,<- this,h5]
    rfl
  intro e
  rcases Nat.lt_or_ge j i with h | h
  ·exact w.apart i j d him h e hd
  exact w.apart j i d hj (by omega) hd e
theorem Qvw {rw_:Nat->List Row} {E:List Nat} {id:Nat} (hm:X.P.follows .mixedOrders=true) (m:Nat) (S:List Nat) (base:List (Nat × AV)) (Φ:List (Option AV)) {st:St} (e:st.only S=⟨nt,base,rw_ 0⟩) (hck:Qk0 ops m (base.map (·.1))=true)
  (hE:Qo5 ops E m) (hop:∀ i,i < m->i ∉ E->∀ s,s<=E.length->Qps ops E i s=true->Qld X f k Q nt (rw_ s) ops base Φ i) (Qyn:∀ (j e:Nat),E[j]? = some e->Qmo X f k Q nt (rw_ j) (rw_ (j+1)) ops base Φ e) (Qfu:AK X f (.inRegion ops (List.range' m (ops.size - m)) :: k) Q ⟨nt,Qjl ops Φ m ++ base,rw_ E.length⟩):AK X f (.code (.region id ops true) :: k) Q st:=by
 refine Qel S ?_
 rw [e]
 intro a C hC b cs hb hk
 have hd:Sim X ⟨nt,base,rw_ 0⟩ a C.drew:=⟨hC.rel.drew,hC.rows,hC.defers,hC.nt,fun i av e=>let ⟨v,h1,h2⟩:=hC.tm i av e;⟨v,h1,Ev.drew.avr h2⟩⟩
 have w:=Qzq hck
 have hsch:∀ t,Region.schedule (X.P.follows .mixedOrders) ops t=Region.linearise.go .any ops ops.size t (Array.replicate ops.size false) []:=by
  intro t
  simp [Region.schedule,hm,Region.linearise]
 have hl:∀ j,j < ops.size->¬ isL (Array.replicate ops.size false) j:=by
  intro j hj
  simp [isL,Array.getD_eq_getD_getElem?,hj]
 have hle:=w.le
 have h0:((List.range m).filter fun j=>!(Array.replicate ops.size false).getD j true).length=m:=by
  rw [List.filter_eq_self.2 (fun j hj=>?_)]
  ·simp
  have hj:j < m:=by simpa using hj
  have:=hl j (by omega)
  simpa [isL] using this
 have key:=Wki w hE hop Qyn Qfu ops.size (C.w.tape C.w.drawn (.order b.fn id)) (Array.replicate ops.size false) base (by simp) (fun j _ hj=>hl j hj) (by rw [h0];omega)
  ⟨fun _ _ h=>h,fun j d av hj h _ _=>absurd h (hl j (by omega))⟩ (fun j hj h=>absurd h (hl j hj))
 have hr0:Qhv E (Array.replicate ops.size false)=0:=Qp0 (Nat.zero_le _) (fun i e h _=>by omega) (fun i e _ he=>by
  have:=hl e (by have:=hE.lt e (List.mem_of_getElem? he);omega)
  simpa [isL] using this)
 rw [hr0] at key
 obtain ⟨C',fr,q,h1,h2⟩:=key a C.drew hd b cs hb hk
 refine ⟨C',fr,q,.head ?_ h1,h2⟩
 have:=stepR_region_draw (P:=X.P) (b:=b) (a:=a) (k:=k) (cs:=cs) (w:=C.w) (ops:=ops) (id:=id)
 rw [hsch] at this
 exact this
theorem Qx0 {rw_:Nat->List Row} {E:List Nat} {id:Nat} (hm:X.P.follows .mixedOrders=true) (m:Nat) (S:List Nat) (base:List (Nat × AV)) (Φ:List (Option AV)) {st:St} (e:st.only S=⟨nt,base,rw_ 0⟩) (hck:Qk0 ops m (base.map (·.1))=true)
  (hE:Qo5 ops E m) (hop:∀ i,i < m->i ∉ E->∀ s,s<=E.length->Qld X f k Q nt (rw_ s) ops base Φ i) (Qyn:∀ (j e:Nat),E[j]? = some e->Qmo X f k Q nt (rw_ j) (rw_ (j+1)) ops base Φ e) (Qfu:AK X f (.inRegion ops (List.range' m (ops.size - m)) :: k) Q ⟨nt,Qjl ops Φ m ++ base,rw_ E.length⟩):AK X f (.code (.region id ops true) :: k) Q st:=
 Qvw hm m S base Φ e hck hE (fun i h1 h2 s h3 _=>hop i h1 h2 s h3) Qyn Qfu
theorem Wj8 {id:Nat} (hm:X.P.follows .mixedOrders=true) (m:Nat) (S:List Nat) (base:List (Nat × AV)) (Φ:List (Option AV)) {st:St} (e:st.only S=⟨nt,base,rows⟩) (hck:Qk0 ops m (base.map (·.1))=true)
  (hop:∀ i,i < m->Qld X f k Q nt rows ops base Φ i) (Qfu:AK X f (.inRegion ops (List.range' m (ops.size - m)) :: k) Q ⟨nt,Qjl ops Φ m ++ base,rows⟩):AK X f (.code (.region id ops true) :: k) Q st:=
 Qx0 (rw_:=fun _=>rows) (E:=[]) hm m S base Φ e hck ⟨fun _ h=>(by cases h),List.nodup_nil,fun _ _ _ h=>(by simp at h)⟩ (fun i hi _ _ _=>hop i hi) (fun _ _ h=>(by simp at h)) Qfu
theorem Wdh (hT:Xb X.P T) {i:Nat} (e:∀ R rest,Qju T (.inRegion ops (i :: R) :: k) ⟨nt,Qc4 ops base Φ i ++ rest,rows⟩=some (.inRegion ops R :: k,⟨nt,Qgm (Qf1 ops i) ((Φ[i]?).join) (Qc4 ops base Φ i ++ rest),rows⟩)):
  Qld X f k Q nt rows ops base Φ i:=fun R rest h=>Ql3 hT (e R rest) h
end
end Go.Sy
