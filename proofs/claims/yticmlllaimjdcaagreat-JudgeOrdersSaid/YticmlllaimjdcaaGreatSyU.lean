/- slices.Grow of nil as a contract. -/
import Derived.Test.YticmlllaimjdcaaGreatSyS
import Derived.Shelf.Spec.SlicesGrow
import Derived.Laws.Slices
import Derived.Lib.SliceRun
import Derived.WalkSpells
import Derived.Laws.CopyRow
set_option linter.unusedVariables false
set_option linter.unusedSimpArgs false
namespace Go.Sy
open Go.Proofs Go.Shelf Go.Sort Go.Lib
theorem Qnm {X:Ctx} {f:FuncId} {k:List Item} {Q:Frame->Frame->Wt->Prop} {n m:Nat} (e:n=m) (F:Nat->St) (h:AK X f k Q (F m)):AK X f k Q (F n):=by
 subst e
 exact h
theorem Qev {rows:List Row} {i:Nat} {a:Row} (h1:rows[i]? = some (Qeh (Qa2 [i] rows.length) a)) (hl:a.live=true):Qci rows [i] [a]:=by
 refine ⟨by simp,rfl, ?_⟩
 intro j id r e1 e2
 match j,e1,e2 with
 | 0,e1,e2=>
  simp at e1 e2
  subst e1
  subst e2
  exact ⟨h1,hl⟩
end Go.Sy
namespace Go.Sy
section
variable {X:Ctx} {T:Tab} {f:FuncId} {k k':List Item} {Q:Frame->Frame->Wt->Prop} {st st':St}
theorem Wke {o:Oper} (e:Qhn st k=some (o,k'))
  (hv:∀ (a:Act) (C:Wt),Sim X st a C->∃ v C' st1 st',AK X f k' Q st'/\(execOp a.eval o).run X.P C.w=.ok (.value v) C'.w/\Sim X st1 a C'/\∃ av,St.put st1 o.dst av=some st'/\AVR C'.w (C'.ok X) C'.μ av v):AK X f k Q st:=by
 unfold Qhn at e
 split at e
 ·split at e
  ·rename_i o' ho
   split at e
   ·rename_i hg
    cases hdf:Qos o'.op with
    | true=>rw [hdf] at e;cases e
    | false=>
     rw [hdf] at e
     injection e with e;injection e with e1 e2;subst e1;subst e2
     intro a C hC b cs hb hk
     obtain ⟨v,C',st1,st',h,hr,hs,av,hp,hav⟩:=hv a C hC
     obtain ⟨C2,fr,q,s1,s2⟩:=h _ _ (hs.put hp hav) b cs hb hk
     exact ⟨C2,fr,q,(Steps.one (Qiv ho (Qpm hdf) (Qft hC hg) hr)).trans s1,s2⟩
   cases e
  cases e
 cases e
def Wc6:AV->Option Nat
 | .d (.sl _ n _)=>some n
 | .own _ _ _ n=>some n
 | _=>none
theorem Wgl {w:World} {ok:Bool->Nat->Prop} {μ:List (Option Nat)} {av:AV} {v:Value} {n:Nat} (h:Wc6 av=some n) (hv:AVR w ok μ av v):∃ A c,v=.slice A n c/\(A=none->n=0):=by
 unfold Wc6 at h
 split at h
 ·injection h with h
  subst h
  cases hv with
  | d hv=>
   cases hv with
   | sl0=>exact ⟨_,_,rfl,fun _=>rfl⟩
   | sl=>exact ⟨_,_,rfl,fun e=>by cases e⟩
 ·injection h with h
  subst h
  cases hv with
  | Qcc=>exact ⟨_,_,rfl,fun _=>rfl⟩
  | own=>exact ⟨_,_,rfl,fun e=>by cases e⟩
 cases h
def Wj1 (T:Tab) (st:St) (k:List Item):Option (Bool × Nat × Option Tmp × List Item):=
 match Qhn st k with
 | some (o,k')=>
  match o.op with
  | .binOp op t x y _=>
   match (valOf st.tm x).bind Wc6,valOf st.tm y,T.Qdr.lookup t with
   | some n,some (.d (.v (.slice none 0 0))),some _=>
    match op with
    | .eql=>some (true,n,o.dst,k')
    | .neq=>some (false,n,o.dst,k')
    | _=>none
   | _,_,_=>none
  | _=>none
 | none=>none
theorem Weh (hT:Xb X.P T) (S:List Nat) {eq:Bool} {n:Nat} {dst:Option Tmp} {st':Bool->St} (e1:Wj1 T st k=some (eq,n,dst,k')) (Qcs:∀ b,(St.put st dst (.d (.v (.bool b)))).map (St.only S)=some (st' b))
  (h:∀ b:Bool,(b=eq->n=0)->AK X f k' Q (st' b)):AK X f k Q st:=by
 unfold Wj1 at e1
 split at e1
 ·rename_i o k3 Qg7
  split at e1
  ·rename_i op t x y ty hop
   split at e1
   ·rename_i n' e' hx hy hs
    obtain ⟨av,hx1,hx2⟩:=Option.bind_eq_some_iff.1 hx
    have key:∀ eq2:Bool,(op=if eq2 then .eql else .neq)->(eq2,n',o.dst,k3)=(eq,n,dst,k')->AK X f k Q st:=by
     intro eq2 Wcw hq
     simp only [Prod.mk.injEq] at hq
     obtain ⟨rfl,rfl,rfl,rfl⟩:=hq
     have hu:X.P.underlying t=some (.slice e'):=hT.slice hs
     refine Wke Qg7 fun a C hC=>?_
     have hvx:=hC.val _ _ hx1
     have hvy:=(hC.val _ _ hy).Qep
     obtain ⟨A,c,hA,hn⟩:=Wgl hx2 hvx
     have Qi4:(execOp a.eval o).run X.P C.w=.ok (.value (.bool (A.isNone == eq2))) C.w:=by
      simp only [execOp,hop,hA,hvy]
      cases eq2 with
      | true=>
       have:=Lib.run_eql_slice_nil (P:=X.P) C.w t e' A n' c 0 0 hu
       simp only [if_true] at Wcw
       subst Wcw
       have hg:(eqGuard .eql t x y (Value.slice A n' c) (Value.slice none 0 0)).run X.P C.w=.ok () C.w:=by simp [eqGuard]
       rw [Sem.run_bind,Sem.run_bind,hg,Result.andThen_ok,this]
       simp
      | false=>
       have:=run_neq_slice_nil_any (P:=X.P) C.w t e' A n' c 0 0 hu
       simp only [Bool.false_eq_true,if_false] at Wcw
       subst Wcw
       have hg:(eqGuard .neq t x y (Value.slice A n' c) (Value.slice none 0 0)).run X.P C.w=.ok () C.w:=by simp [eqGuard]
       rw [Sem.run_bind,Sem.run_bind,hg,Result.andThen_ok,this]
       simp
     have hb2:(A.isNone == eq2)=eq2->n'=0:=fun e=>hn (by
      cases A with
      | none=>rfl
      | some _=>cases eq2<;>simp at e)
     obtain ⟨s0,h1,h2⟩:=Option.map_eq_some_iff.1 (Qcs (A.isNone == eq2))
     exact ⟨_,C,st,s0,Qel S (h2▸h _ hb2),Qi4,hC,_,h1,.d (.v rfl)⟩
    split at e1
    ·injection e1 with e1
     exact key true rfl e1
    ·injection e1 with e1
     exact key false rfl e1
    cases e1
   cases e1
  cases e1
 cases e1
def Qq1 (tm:List (Nat × AV)):Option Operand->Option (Option (IntKind × Int))
 | none=>some none
 | some x=>match valOf tm x with
  | some (.d (.v (.int k i)))=>some (some (k,i))
  | _=>none
def sliceAt (T:Tab) (st:St) (k:List Item):Option (AV × Nat × Option (IntKind × Int) × Option (IntKind × Int) × Option Tmp × List Item):=
 match Qhn st k with
 | some (o,k')=>
  match o.op with
  | .slice t x lo hi none=>
   match valOf st.tm x,T.Qdr.lookup t with
   | some av,some e=>
    match T.info.lookup e,Qq1 st.tm lo,Qq1 st.tm hi with
    | some (s,_,_),some l,some h=>some (av,s,l,h,o.dst,k')
    | _,_,_=>none
   | _,_=>none
  | _=>none
 | none=>none
def loN (l:Option (IntKind × Int)):Int:=match l with | none=>0 | some p=>p.2
def hiN (n:Nat) (h:Option (IntKind × Int)):Int:=match h with | none=>n | some p=>p.2
theorem Qrh {P:Program} (w:World) {t e:TypeId} {s:Nat} (hu:P.underlying t=some (.slice e)) (hs:(sizeOf e).run P w=.ok s w) (A:Option Addr) (n c:Nat) (l h:Option (IntKind × Int)) (hc:n<=c) (h0:0<=loN l) (h1:loN l<=hiN n h) (h2:hiN n h<=n):
  (Instr.sliceAt t (.slice A n c) (l.map fun p=>.int p.1 p.2) (h.map fun p=>.int p.1 p.2) none).run P w=.ok (sliced A (loN l).toNat (hiN n h).toNat c s) w:=by
 have he:P.elem t=e:=by simp [Program.elem,hu]
 have ht:P.underlying t=some (.slice (P.elem t)):=by rw [he];exact hu
 have hs':(sizeOf (P.elem t)).run P w=.ok s w:=by rw [he];exact hs
 rw [run_sliceAt_slice w t _ _ _ _ ht]
 cases l with
 | none=>
  cases h with
  | none=>simp only [Option.map_none,loN,hiN] at *;rw [run_slice_all w t A n c ht,hs'];rfl
  | some p=>simp only [Option.map_none,Option.map_some,loN,hiN] at *;rw [run_slice_h w t A n c ht p.1 p.2 h1 (by omega),hs'];rfl
 | some q=>
  cases h with
  | none=>simp only [Option.map_none,Option.map_some,loN,hiN] at *;rw [run_slice_l w t A n c ht q.1 q.2 h0 (by omega),hs'];rfl
  | some p=>simp only [Option.map_some,loN,hiN] at *;rw [run_slice_lh w t A n c ht q.1 p.1 q.2 p.2 h0 h1 (by omega),hs'];rfl
theorem Qrg (hT:Xb X.P T) {av:AV} {s:Nat} {l h:Option (IntKind × Int)} {dst:Option Tmp} (e:sliceAt T st k=some (av,s,l,h,dst,k')):
  ∃ o t e,Qhn st k=some (o,k')/\o.dst=dst/\X.P.underlying t=some (.slice e)/\(∀ w,(sizeOf e).run X.P w=.ok s w) /\
   ∀ (a:Act) (C:Wt),Sim X st a C->∃ v,AVR C.w (C.ok X) C.μ av v/\execOp a.eval o=(do let z <- Instr.sliceAt t v (l.map fun p=>.int p.1 p.2) (h.map fun p=>.int p.1 p.2) none;pure (.value z)):=by
 unfold sliceAt at e
 split at e
 ·rename_i o k3 Qg7
  split at e
  ·rename_i t x lo hi hop
   split at e
   ·rename_i av' el hx hs
    split at e
    ·rename_i s' b' z' l' h' hi1 hl hh
     simp only [Option.some.injEq,Prod.mk.injEq] at e
     obtain ⟨rfl,rfl,rfl,rfl,rfl,rfl⟩:=e
     refine ⟨o,t,el,Qg7,rfl,hT.slice hs,fun w=>hT.size hi1 w,fun a C hC=>⟨a.eval x,hC.val _ _ hx, ?_⟩⟩
     have key:∀ (y:Option Operand) (r:Option (IntKind × Int)),Qq1 st.tm y=some r->y.map a.eval=r.map fun p=>Value.int p.1 p.2:=by
      intro y r hy
      cases y with
      | none=>simp only [Qq1,Option.some.injEq] at hy;subst hy;rfl
      | some y=>
       simp only [Qq1] at hy
       split at hy
       ·rename_i kk ii hv
        injection hy with hy
        subst hy
        have:=(hC.val _ _ hv).Qep
        simp only [Option.map_some,this]
       cases hy
     simp only [execOp,hop,key _ _ hl,key _ _ hh,Option.map_none]
    cases e
   cases e
  cases e
 cases e
theorem Wh5 (hT:Xb X.P T) (S:List Nat) {tg:Bool} {n s m:Nat} {g:Nat->List DV} {l h:Option (IntKind × Int)} {dst:Option Tmp} (g':Nat->List DV) (e:sliceAt T st k=some (.d (.sl tg n g),s,l,h,dst,k')) (h0:0<=loN l) (h1:loN l<=hiN n h) (h2:hiN n h<=n)
  (hm:m=(hiN n h).toNat - (loN l).toNat) (hg:∀ i,i < m->g' i=g ((loN l).toNat+i)) (hk:∀ i,i < n->(g i).length=s) (Qcs:(St.put st dst (.d (.sl tg m g'))).map (St.only S)=some st') (hh:AK X f k' Q st'):AK X f k Q st:=by
 obtain ⟨o,t,el,Qg7,rfl,hu,hs,hv⟩:=Qrg hT e
 obtain ⟨s0,hp,rfl⟩:=Option.map_eq_some_iff.1 Qcs
 refine Ql5 Qg7 (Qel S hh) fun a C hC=>?_
 obtain ⟨v,hav,hex⟩:=hv a C hC
 have key:∃ A c,v=.slice A n c/\n<=c/\VR C.w (C.ok X) (.sl tg m g') (sliced A (loN l).toNat (hiN n h).toNat c s):=by
  cases hav with
  | d hav=>
   cases hav with
   | @sl0 t g A c=>
    refine ⟨A,c,rfl,Nat.zero_le _, ?_⟩
    have hm0:m=0:=by rw [hm];omega
    have hz:(hiN 0 h).toNat - (loN l).toNat=0:=by omega
    subst hm0
    unfold sliced
    rw [hz]
    exact .sl0
   | @sl _ _ _ b oo c kk vs hn hc Jp hl hr hmm=>
    refine ⟨some ⟨b,oo,none⟩,c,rfl,hc, ?_⟩
    rcases Nat.eq_zero_or_pos m with hm0 | hm0
    ·unfold sliced
     rw [<- hm,hm0]
     exact .sl0
    have hne:¬ c=(loN l).toNat:=by omega
    unfold sliced
    rw [if_neg hne,<- hm]
    have hkk:kk=s:=by
     rw [<- hl 0 hn,<- (hr 0 hn).length,hk 0 hn]
    subst hkk
    have ea:(some (⟨b,oo,none⟩:Addr)).map (·.add ((loN l).toNat * kk))=some ⟨b,oo+(loN l).toNat * kk,none⟩:=by simp [Addr.add]
    rw [ea]
    refine VR.sl (n:=m) (g:=g') (b:=b) (o:=oo+(loN l).toNat * kk) (c:=c - (loN l).toNat) kk (fun i=>vs ((loN l).toNat+i)) hm0 (by omega) Jp (fun i hi=>hl _ (by omega)) (fun i hi=>by rw [hg i hi];exact hr _ (by omega)) (fun i j u hi hj=>?_)
    have:=hmm ((loN l).toNat+i) j u (by omega) hj
    rw [<- this]
    congr 2
    rw [Nat.add_mul]
    omega
 obtain ⟨A,c,rfl,hc,hvr⟩:=key
 refine ⟨_,C,st, ?_,hC,_,hp,.d hvr⟩
 rw [hex]
 have:=Qrh C.w hu (hs C.w) A n c l h hc h0 h1 h2
 rw [Sem.run_bind,this]
 rfl
theorem Wei {α:Type} (hT:Xb X.P T) (S:List Nat) {tg:Bool} {s:Nat} {l h:Option (IntKind × Int)} {dst:Option Tmp} (enc:α->List DV) (z:α) (xs:List α) (e:sliceAt T st k=some (.d (.sl tg xs.length (vec enc z xs)),s,l,h,dst,k'))
  (hc:0<=loN l/\loN l<=hiN xs.length h/\hiN xs.length h<=xs.length) (hk:∀ x,(enc x).length=s)
  (Qcs:(St.put st dst (.d (.sl tg ((xs.drop (loN l).toNat).take ((hiN xs.length h).toNat - (loN l).toNat)).length (vec enc z ((xs.drop (loN l).toNat).take ((hiN xs.length h).toNat - (loN l).toNat)))))).map (St.only S)=some st') (hh:AK X f k' Q st'):AK X f k Q st:=by
 have hlen:((xs.drop (loN l).toNat).take ((hiN xs.length h).toNat - (loN l).toNat)).length=(hiN xs.length h).toNat - (loN l).toNat:=by
  rw [List.length_take,List.length_drop];omega
 refine Wh5 hT S _ e hc.1 hc.2.1 hc.2.2 hlen (fun i hi=>?_) (fun i _=>hk _) Qcs hh
 rw [hlen] at hi
 simp only [vec,List.getD_eq_getElem?_getD]
 rw [List.getElem?_take,if_pos hi,List.getElem?_drop]
theorem Wej (hT:Xb X.P T) (S:List Nat) {id s off n:Nat} {kk:IntKind} {i:Int} {dst:Option Tmp} (e:sliceAt T st k=some (.own id s off n,s,none,some (kk,i),dst,k')) (h0:0<=i) (h1:i<=n)
  (Qcs:(St.put st dst (.own id s off i.toNat)).map (St.only S)=some st') (hh:AK X f k' Q st'):AK X f k Q st:=by
 obtain ⟨o,t,el,Qg7,rfl,hu,hs,hv⟩:=Qrg hT e
 obtain ⟨s0,hp,rfl⟩:=Option.map_eq_some_iff.1 Qcs
 refine Ql5 Qg7 (Qel S hh) fun a C hC=>?_
 obtain ⟨v,hav,hex⟩:=hv a C hC
 have key:∃ A c,v=.slice A n c/\n<=c/\AVR C.w (C.ok X) C.μ (.own id s off i.toNat) (sliced A 0 i.toNat c s):=by
  cases hav with
  | Qcc hμ=>
   refine ⟨_,_,rfl,Nat.le_refl _, ?_⟩
   have:i.toNat=0:=by omega
   rw [this]
   exact .Qcc hμ
  | @own _ _ _ _ b c cs ty hμ hh hs hn hc=>
   refine ⟨_,_,rfl,hn, ?_⟩
   have e2:sliced (some ⟨b,off * s,none⟩) 0 i.toNat c s=.slice (some ⟨b,off * s,none⟩) i.toNat c:=by
    unfold sliced
    simp [Addr.add]
   rw [e2]
   exact .own hμ hh hs (by omega) hc
 obtain ⟨A,c,rfl,hc,hvr⟩:=key
 refine ⟨_,C,st, ?_,hC,_,hp,hvr⟩
 rw [hex]
 have:=Qrh C.w hu (hs C.w) A n c none (some (kk,i)) hc (by simp [loN]) (by simpa [loN,hiN] using h0) (by simpa [hiN] using h1)
 rw [Sem.run_bind,this]
 rfl
theorem Wjn {α:Type} {enc:α->List DV} {z:α} {xs:List α} {m:Nat}:∀ i,i < (xs.take m).length->vec enc z xs i=vec enc z (xs.take m) i:=by
 intro i hi
 rw [List.length_take] at hi
 simp only [vec,List.getD_eq_getElem?_getD]
 rw [List.getElem?_take,if_pos (by omega)]
theorem Wh7 (id:Nat) {kk n m:Nat} {fz:Bool} {ty:TypeId} {g:Nat->List DV} (g':Nat->List DV) (hr:st.rows[id]? = some (.flat fz kk ty n g)) (hm:m<=n) (hg:∀ i,i < m->g i=g' i)
  (hs:st'={ st with rows:=st.rows.set id (.flat fz kk ty m g') }) (h:AK X f k Q st'):AK X f k Q st:=
 Qu2 (r':=.flat fz kk ty m g') hr (fun h=>h) (by simp) (fun w μ ok ob h=>by
  cases ob with
  | none=>simp only [Qcz] at h ⊢;omega
  | some b=>
   obtain ⟨cs,vs,h1,h2,h3,h4,h5⟩:=h
   exact ⟨cs,vs,h1,Nat.le_trans (Nat.mul_le_mul_right _ hm) h2,fun i hi=>h3 i (by omega),fun i hi=>hg i hi▸h4 i (by omega),fun i j v hi=>h5 i j v (by omega)⟩) hs h
end
end Go.Sy
namespace Go.Sy
theorem Qp9 {P:Program} (w:World) (dT sT ty elem:TypeId) (k m:Nat) (g o dLen dCap:Nat) (a:Addr) (sLen sCap:Nat) (cur:Array Value) (t:TypeId) (cs:List Value)
  (hu:P.underlying dT=some (.slice elem)) (hs:(P.info? elem).map (·.size)=some k)
  (hg:w.heap[g]? = some (.cells cur t (0,0))) (hm:m=Nat.min sLen dLen) (hn:cs.length=m * k)
  (Qve:∀ j v,cs[j]? = some v->w.cell? (a.add j)=some v) (Wct:o+cs.length<=cur.size) (h1:∀ v∈cs,v.oneCell'=true):
  (Builtin.copy_ #[dT,sT] ty #[.slice (some ⟨g,o,none⟩) dLen dCap,.slice (some a) sLen sCap]).run P w =
   .ok (goInt m) (w.setRow g (cur.toList.take o ++ cs ++ cur.toList.drop (o+cs.length)).toArray):=by
 have hl:=run_loadCells_list (P:=P) w a cs Qve
 have hst:=run_storeCells_at P g o t cs 0 cur w hg (by simpa using Wct) h1
 cases hq:P.info? elem with
 | none=>simp [hq] at hs
 | some i=>
  have hi:i.size=k:=by simpa [hq] using hs
  simp [Builtin.copy_,run_underlying hu,Builtin.lenOf,Builtin.firstCells,sizeOf,typeInfo,hq,hi,<- hm,<- hn,hl,hst]
end Go.Sy
