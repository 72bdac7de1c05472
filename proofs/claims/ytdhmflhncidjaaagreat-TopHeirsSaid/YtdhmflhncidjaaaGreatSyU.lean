/- slices.Grow of nil as a contract. -/
import Derived.Test.YtdhmflhncidjaaaGreatSyM
import Derived.Shelf.Spec.SlicesGrow
import Derived.Laws.Slices
import Derived.Lib.SliceRun
import Derived.WalkSpells
import Derived.Laws.CopyRow
set_option linter.unusedVariables false
set_option linter.unusedSimpArgs false
namespace Go.Sy
open Go.Proofs Go.Shelf Go.Sort Go.Lib
theorem Qiw {X:Ctx} {f:FuncId} {k:List Item} {Q:Frame->Frame->Qq->Prop} {n m:Nat} (e:n=m) (F:Nat->St) (h:AK X f k Q (F m)):AK X f k Q (F n):=by
 subst e
 exact h
theorem Qel {rows:List Row} {i:Nat} {a:Row} (h1:rows[i]? = some (Qb0 (Zw [i] rows.length) a)) (hl:a.live=true):Qbz rows [i] [a]:=by
 refine ⟨by simp,rfl, ?_⟩
 intro j id r e1 e2
 match j,e1,e2 with
 | 0,e1,e2=>
  simp at e1 e2
  subst e1
  subst e2
  exact ⟨h1,hl⟩
theorem at_new (w:World) (o:Obj):(w.alloc o).heap[w.heap.size]? = some o:=by
 exact heap_alloc_new w o
theorem Wg5 {P:Program} {ρ:Ren} {α:Type} (L:Lays8.n4 P ρ) (z:α) (e:α->List DV) (k:Nat) (i0:TypeInfo) (zv:Value) (hi0:P.info? (ρ.t 25)=some i0) (hz0:i0.zero=some zv) (hs0:0 < k) (hk:i0.size=k) (hzc:zv.cells.size=k) {by':Nat} (hby:i0.bytes=by')
  (nr:∀ x,NLs (e x)) (n:Int) (h0:0<=n) (hb:n * (by':Int)<=140737488355328) (hn:n<=4611686018427387904):
  Xt P (ρ.f 4) [] [.d (.v (.slice none 0 0)),.d (.v (.int .i64 n))] [.flat false k (ρ.t 25) ([]:List α).length (vec e z [])] (.own 0 k 0 ([]:List α).length):=by
 intro X vs hP hF Zb Qb5
 subst hP
 subst hk
 obtain ⟨m,rfl⟩:∃ m:Nat,n=m:=⟨n.toNat,by omega⟩
 have hl0:X.μ0=[]:=by
  have:=Zb.len
  exact List.length_eq_zero_iff.1 this
 cases Qb5 with
 | cons ha hs=>
  cases hs with
  | cons hf hnn=>
   cases hnn
   have ha:=ha.Qbt
   have hf:=hf.Qbt
   subst ha
   subst hf
   have hnr:NR (.flat false i0.size (ρ.t 25) ([]:List α).length (vec e z [])):=Xa nr
   rcases Nat.eq_zero_or_pos m with h | h
   ·subst h
    refine (Any8.slices_Grow_room L none 0 0 0 X.w0 (Nat.le_refl _) (by omega) (by omega) (by omega)).mono ?_
    rintro e0 w' ⟨rfl,rfl⟩
    have hv:=Wt.Qcl Zb (r:=.flat false i0.size (ρ.t 25) ([]:List α).length (vec e z [])) rfl
    simp only [Qq.Qcl,hl0,List.nil_append] at hv
    refine ⟨_,[none],rfl,hv, ?_,.Qbj rfl⟩
    intro j ob r e1 e2
    refine (hv.rel j ob r e1 e2).perm (fun _ h=>⟨rfl,h⟩) ?_
    have:=List.mem_of_getElem? e2
    simp only [List.mem_singleton] at this
    subst this
    exact hnr
   have Qys:(0+m) * i0.bytes<=140737488355328:=by
    rw [hby,Nat.zero_add]
    have e1:((m * by':Nat):Int)=(m:Int) * (by':Int):=Int.natCast_mul m by'
    have e2:((m * by':Nat):Int)<=140737488355328:=by rw [e1];exact hb
    exact Int.ofNat_le.1 e2
   have main:=Any8.slices_Grow_grow L i0 zv hi0 hz0 hs0 none 0 0 m [] X.w0 (Nat.le_refl _) (by omega) Qys (by omega) (by simp) (fun _=>rfl) (fun a ha=>by cases ha)
   refine main.mono ?_
   rintro e0 w' ⟨rfl,rfl⟩
   have hG:=grownCap_ge X.w0 (0+m) 0 (ρ.t 25)
   have hM:=grownCap_le_maxLen X.w0 (0+m) 0 (ρ.t 25) (by unfold maxLen;omega)
   generalize grownCap X.w0 (0+m) 0 (ρ.t 25)=G at hG hM ⊢
   have hzs:∀ q,(Builtin.zeroCells zv.cells q).size=q * i0.size:=fun q=>by
    rw [<- hzc]
    simp [Builtin.zeroCells]
   have hd:=Wt.drew Zb
   have hp:=Wt.push hd (o:=.cells (([]:List Value).toArray ++ Builtin.zeroCells zv.cells (0+m - 0) ++ Builtin.zeroCells zv.cells (G - (0+m))) (ρ.t 25)) (r:=.flat false i0.size (ρ.t 25) ([]:List α).length (vec e z [])) ⟨_,fun _=>[],at_new _ _,by simp,fun i hi=>by simp at hi,fun i hi=>by simp at hi,fun i j v hi=>by simp at hi⟩
   simp only [Qq.push,Qq.drew,hl0,List.nil_append] at hp
   refine ⟨_,_,rfl,hp, ?_, ?_⟩
   ·intro j ob r e1 e2
    refine (hp.rel j ob r e1 e2).perm (fun _ h=>⟨rfl,h⟩) ?_
    have:=List.mem_of_getElem? e2
    simp only [List.mem_singleton] at this
    subst this
    exact hnr
   have:=@Zj.own (X.w0.drew.alloc (.cells (([]:List Value).toArray ++ Builtin.zeroCells zv.cells (0+m - 0) ++ Builtin.zeroCells zv.cells (G - (0+m))) (ρ.t 25))) (Qq.okR X ⟨[some X.w0.drew.heap.size],[.flat false i0.size (ρ.t 25) ([]:List α).length (vec e z [])],X.w0.drew.alloc (.cells (([]:List Value).toArray ++ Builtin.zeroCells zv.cells (0+m - 0) ++ Builtin.zeroCells zv.cells (G - (0+m))) (ρ.t 25))⟩) [some X.w0.drew.heap.size] 0 i0.size 0 0 X.w0.drew.heap.size G _ (ρ.t 25) rfl (at_new _ _) (by
    simp only [Array.size_append,hzs,List.size_toArray,List.length_nil,Nat.zero_add,Nat.sub_zero]
    rw [<- Nat.add_mul]
    congr 1
    omega) (Nat.zero_le _) hM
   simpa using this
end Go.Sy
namespace Go.Sy
section
variable {X:Ctx} {T:Tab} {f:FuncId} {k k':List Item} {Q:Frame->Frame->Qq->Prop} {st st':St}
theorem Wl2 {o:Oper} (e:Qde st k=some (o,k'))
  (hv:∀ (a:Act) (C:Qq),Sim X st a C->∃ v C' st1 st',AK X f k' Q st'/\(execOp a.eval o).run X.P C.w=.ok (.value v) C'.w/\Sim X st1 a C'/\∃ av,St.put st1 o.dst av=some st'/\Zj C'.w (C'.ok X) C'.μ av v):AK X f k Q st:=by
 unfold Qde at e
 split at e
 ·split at e
  ·rename_i o' ho
   split at e
   ·rename_i hg
    cases hdf:Qk0 o'.op with
    | true=>rw [hdf] at e;cases e
    | false=>
     rw [hdf] at e
     injection e with e;injection e with e1 e2;subst e1;subst e2
     intro a C hC b cs hb hk
     obtain ⟨v,C',st1,st',h,hr,hs,av,hp,hav⟩:=hv a C hC
     obtain ⟨C2,fr,q,s1,s2⟩:=h _ _ (hs.put hp hav) b cs hb hk
     exact ⟨C2,fr,q,(Steps.one (Qe0 ho (Qo9 hdf) (Qdv hC hg) hr)).trans s1,s2⟩
   cases e
  cases e
 cases e
def Web:AV->Option Nat
 | .d (.sl _ n _)=>some n
 | .own _ _ _ n=>some n
 | _=>none
theorem Whj {w:World} {ok:Bool->Nat->Prop} {μ:List (Option Nat)} {av:AV} {v:Value} {n:Nat} (h:Web av=some n) (hv:Zj w ok μ av v):∃ A c,v=.slice A n c/\(A=none->n=0):=by
 unfold Web at h
 split at h
 ·injection h with h
  subst h
  cases hv with
  | d hv=>
   cases hv with
   | sl0=>exact ⟨_,_,rfl,fun _=>rfl⟩
   | sl=>exact ⟨_,_,rfl,fun e=>by cases e⟩
 ·injection h with h
  subst h
  cases hv with
  | Qbj=>exact ⟨_,_,rfl,fun _=>rfl⟩
  | own=>exact ⟨_,_,rfl,fun e=>by cases e⟩
 cases h
def Wlp (T:Tab) (st:St) (k:List Item):Option (Bool × Nat × Option Tmp × List Item):=
 match Qde st k with
 | some (o,k')=>
  match o.op with
  | .binOp op t x y _=>
   match (valOf st.tm x).bind Web,valOf st.tm y,T.Qbn.lookup t with
   | some n,some (.d (.v (.slice none 0 0))),some _=>
    match op with
    | .eql=>some (true,n,o.dst,k')
    | .neq=>some (false,n,o.dst,k')
    | _=>none
   | _,_,_=>none
  | _=>none
 | none=>none
theorem Qnb (hT:Qw X.P T) (S:List Nat) {eq:Bool} {n:Nat} {dst:Option Tmp} {st':Bool->St} (e1:Wlp T st k=some (eq,n,dst,k')) (Qat:∀ b,(St.put st dst (.d (.v (.bool b)))).map (St.only S)=some (st' b))
  (h:∀ b:Bool,(b=eq->n=0)->AK X f k' Q (st' b)):AK X f k Q st:=by
 unfold Wlp at e1
 split at e1
 ·rename_i o k3 Qbe
  split at e1
  ·rename_i op t x y ty hop
   split at e1
   ·rename_i n' e' hx hy hs
    obtain ⟨av,hx1,hx2⟩:=Option.bind_eq_some_iff.1 hx
    have key:∀ eq2:Bool,(op=if eq2 then .eql else .neq)->(eq2,n',o.dst,k3)=(eq,n,dst,k')->AK X f k Q st:=by
     intro eq2 Wd1 hq
     simp only [Prod.mk.injEq] at hq
     obtain ⟨rfl,rfl,rfl,rfl⟩:=hq
     have hu:X.P.underlying t=some (.slice e'):=hT.slice hs
     refine Wl2 Qbe fun a C hC=>?_
     have hvx:=hC.val _ _ hx1
     have hvy:=(hC.val _ _ hy).Qbt
     obtain ⟨A,c,hA,hn⟩:=Whj hx2 hvx
     have Qcx:(execOp a.eval o).run X.P C.w=.ok (.value (.bool (A.isNone == eq2))) C.w:=by
      simp only [execOp,hop,hA,hvy]
      cases eq2 with
      | true=>
       have:=Lib.run_eql_slice_nil (P:=X.P) C.w t e' A n' c 0 0 hu
       simp only [if_true] at Wd1
       subst Wd1
       have hg:(eqGuard .eql t x y (Value.slice A n' c) (Value.slice none 0 0)).run X.P C.w=.ok () C.w:=by simp [eqGuard]
       rw [Sem.run_bind,Sem.run_bind,hg,Result.andThen_ok,this]
       simp
      | false=>
       have:=run_neq_slice_nil_any (P:=X.P) C.w t e' A n' c 0 0 hu
       simp only [Bool.false_eq_true,if_false] at Wd1
       subst Wd1
       have hg:(eqGuard .neq t x y (Value.slice A n' c) (Value.slice none 0 0)).run X.P C.w=.ok () C.w:=by simp [eqGuard]
       rw [Sem.run_bind,Sem.run_bind,hg,Result.andThen_ok,this]
       simp
     have hb2:(A.isNone == eq2)=eq2->n'=0:=fun e=>hn (by
      cases A with
      | none=>rfl
      | some _=>cases eq2<;>simp at e)
     obtain ⟨s0,h1,h2⟩:=Option.map_eq_some_iff.1 (Qat (A.isNone == eq2))
     exact ⟨_,C,st,s0,Qdh S (h2▸h _ hb2),Qcx,hC,_,h1,.d (.v rfl)⟩
    split at e1
    ·injection e1 with e1
     exact key true rfl e1
    ·injection e1 with e1
     exact key false rfl e1
    cases e1
   cases e1
  cases e1
 cases e1
def Qhe (tm:List (Nat × AV)):Option Operand->Option (Option (IntKind × Int))
 | none=>some none
 | some x=>match valOf tm x with
  | some (.d (.v (.int k i)))=>some (some (k,i))
  | _=>none
def sliceAt (T:Tab) (st:St) (k:List Item):Option (AV × Nat × Option (IntKind × Int) × Option (IntKind × Int) × Option Tmp × List Item):=
 match Qde st k with
 | some (o,k')=>
  match o.op with
  | .slice t x lo hi none=>
   match valOf st.tm x,T.Qbn.lookup t with
   | some av,some e=>
    match T.info.lookup e,Qhe st.tm lo,Qhe st.tm hi with
    | some (s,_,_),some l,some h=>some (av,s,l,h,o.dst,k')
    | _,_,_=>none
   | _,_=>none
  | _=>none
 | none=>none
def loN (l:Option (IntKind × Int)):Int:=match l with | none=>0 | some p=>p.2
def hiN (n:Nat) (h:Option (IntKind × Int)):Int:=match h with | none=>n | some p=>p.2
theorem Qlr {P:Program} (w:World) {t e:TypeId} {s:Nat} (hu:P.underlying t=some (.slice e)) (hs:(sizeOf e).run P w=.ok s w) (A:Option Addr) (n c:Nat) (l h:Option (IntKind × Int)) (hc:n<=c) (h0:0<=loN l) (h1:loN l<=hiN n h) (h2:hiN n h<=n):
  (Instr.sliceAt t (.slice A n c) (l.map fun p=>.int p.1 p.2) (h.map fun p=>.int p.1 p.2) none).run P w=.ok (sliced A (loN l).toNat (hiN n h).toNat c s) w:=by
 have he:P.elem t=e:=by simp [Program.elem,hu]
 have ht:P.underlying t=some (.slice (P.elem t)):=by rw [he];exact hu
 have hs':(sizeOf (P.elem t)).run P w=.ok s w:=by rw [he];exact hs
 rw [run_sliceAt_slice w t _ _ _ _ ht]
 cases l with
 | none=>
  cases h with
  | none=>simp only [Option.map_none,loN,hiN] at *;rw [run_slice_all w t A n c ht,hs'];rfl
  | some p=>simp only [Option.map_none,Option.map_some,loN,hiN] at *;rw [run_slice_h w t A n c ht p.1 p.2 h1 (by omega),hs'];rfl
 | some q=>
  cases h with
  | none=>simp only [Option.map_none,Option.map_some,loN,hiN] at *;rw [run_slice_l w t A n c ht q.1 q.2 h0 (by omega),hs'];rfl
  | some p=>simp only [Option.map_some,loN,hiN] at *;rw [run_slice_lh w t A n c ht q.1 p.1 q.2 p.2 h0 h1 (by omega),hs'];rfl
theorem Qkj (hT:Qw X.P T) {av:AV} {s:Nat} {l h:Option (IntKind × Int)} {dst:Option Tmp} (e:sliceAt T st k=some (av,s,l,h,dst,k')):
  ∃ o t e,Qde st k=some (o,k')/\o.dst=dst/\X.P.underlying t=some (.slice e)/\(∀ w,(sizeOf e).run X.P w=.ok s w) /\
   ∀ (a:Act) (C:Qq),Sim X st a C->∃ v,Zj C.w (C.ok X) C.μ av v/\execOp a.eval o=(do let z <- Instr.sliceAt t v (l.map fun p=>.int p.1 p.2) (h.map fun p=>.int p.1 p.2) none;pure (.value z)):=by
 unfold sliceAt at e
 split at e
 ·rename_i o k3 Qbe
  split at e
  ·rename_i t x lo hi hop
   split at e
   ·rename_i av' el hx hs
    split at e
    ·rename_i s' b' z' l' h' hi1 hl hh
     simp only [Option.some.injEq,Prod.mk.injEq] at e
     obtain ⟨rfl,rfl,rfl,rfl,rfl,rfl⟩:=e
     refine ⟨o,t,el,Qbe,rfl,hT.slice hs,fun w=>hT.size hi1 w,fun a C hC=>⟨a.eval x,hC.val _ _ hx, ?_⟩⟩
     have key:∀ (y:Option Operand) (r:Option (IntKind × Int)),Qhe st.tm y=some r->y.map a.eval=r.map fun p=>Value.int p.1 p.2:=by
      intro y r hy
      cases y with
      | none=>simp only [Qhe,Option.some.injEq] at hy;subst hy;rfl
      | some y=>
       simp only [Qhe] at hy
       split at hy
       ·rename_i kk ii hv
        injection hy with hy
        subst hy
        have:=(hC.val _ _ hv).Qbt
        simp only [Option.map_some,this]
       cases hy
     simp only [execOp,hop,key _ _ hl,key _ _ hh,Option.map_none]
    cases e
   cases e
  cases e
 cases e
theorem Wi4 (hT:Qw X.P T) (S:List Nat) {tg:Bool} {n s m:Nat} {g:Nat->List DV} {l h:Option (IntKind × Int)} {dst:Option Tmp} (g':Nat->List DV) (e:sliceAt T st k=some (.d (.sl tg n g),s,l,h,dst,k')) (h0:0<=loN l) (h1:loN l<=hiN n h) (h2:hiN n h<=n)
  (hm:m=(hiN n h).toNat - (loN l).toNat) (hg:∀ i,i < m->g' i=g ((loN l).toNat+i)) (hk:∀ i,i < n->(g i).length=s) (Qat:(St.put st dst (.d (.sl tg m g'))).map (St.only S)=some st') (hh:AK X f k' Q st'):AK X f k Q st:=by
 obtain ⟨o,t,el,Qbe,rfl,hu,hs,hv⟩:=Qkj hT e
 obtain ⟨s0,hp,rfl⟩:=Option.map_eq_some_iff.1 Qat
 refine Qd6 Qbe (Qdh S hh) fun a C hC=>?_
 obtain ⟨v,hav,hex⟩:=hv a C hC
 have key:∃ A c,v=.slice A n c/\n<=c/\VR C.w (C.ok X) (.sl tg m g') (sliced A (loN l).toNat (hiN n h).toNat c s):=by
  cases hav with
  | d hav=>
   cases hav with
   | @sl0 t g A c=>
    refine ⟨A,c,rfl,Nat.zero_le _, ?_⟩
    have hm0:m=0:=by rw [hm];omega
    have hz:(hiN 0 h).toNat - (loN l).toNat=0:=by omega
    subst hm0
    unfold sliced
    rw [hz]
    exact .sl0
   | @sl _ _ _ b oo c kk vs hn hc Jj hl hr hmm=>
    refine ⟨some ⟨b,oo,none⟩,c,rfl,hc, ?_⟩
    rcases Nat.eq_zero_or_pos m with hm0 | hm0
    ·unfold sliced
     rw [<- hm,hm0]
     exact .sl0
    have hne:¬ c=(loN l).toNat:=by omega
    unfold sliced
    rw [if_neg hne,<- hm]
    have hkk:kk=s:=by
     rw [<- hl 0 hn,<- (hr 0 hn).length,hk 0 hn]
    subst hkk
    have ea:(some (⟨b,oo,none⟩:Addr)).map (·.add ((loN l).toNat * kk))=some ⟨b,oo+(loN l).toNat * kk,none⟩:=by simp [Addr.add]
    rw [ea]
    refine VR.sl (n:=m) (g:=g') (b:=b) (o:=oo+(loN l).toNat * kk) (c:=c - (loN l).toNat) kk (fun i=>vs ((loN l).toNat+i)) hm0 (by omega) Jj (fun i hi=>hl _ (by omega)) (fun i hi=>by rw [hg i hi];exact hr _ (by omega)) (fun i j u hi hj=>?_)
    have:=hmm ((loN l).toNat+i) j u (by omega) hj
    rw [<- this]
    congr 2
    rw [Nat.add_mul]
    omega
 obtain ⟨A,c,rfl,hc,hvr⟩:=key
 refine ⟨_,C,st, ?_,hC,_,hp,.d hvr⟩
 rw [hex]
 have:=Qlr C.w hu (hs C.w) A n c l h hc h0 h1 h2
 rw [Sem.run_bind,this]
 rfl
theorem Wff {α:Type} (hT:Qw X.P T) (S:List Nat) {tg:Bool} {s:Nat} {l h:Option (IntKind × Int)} {dst:Option Tmp} (enc:α->List DV) (z:α) (xs:List α) (e:sliceAt T st k=some (.d (.sl tg xs.length (vec enc z xs)),s,l,h,dst,k'))
  (hc:0<=loN l/\loN l<=hiN xs.length h/\hiN xs.length h<=xs.length) (hk:∀ x,(enc x).length=s)
  (Qat:(St.put st dst (.d (.sl tg ((xs.drop (loN l).toNat).take ((hiN xs.length h).toNat - (loN l).toNat)).length (vec enc z ((xs.drop (loN l).toNat).take ((hiN xs.length h).toNat - (loN l).toNat)))))).map (St.only S)=some st') (hh:AK X f k' Q st'):AK X f k Q st:=by
 have hlen:((xs.drop (loN l).toNat).take ((hiN xs.length h).toNat - (loN l).toNat)).length=(hiN xs.length h).toNat - (loN l).toNat:=by
  rw [List.length_take,List.length_drop];omega
 refine Wi4 hT S _ e hc.1 hc.2.1 hc.2.2 hlen (fun i hi=>?_) (fun i _=>hk _) Qat hh
 rw [hlen] at hi
 simp only [vec,List.getD_eq_getElem?_getD]
 rw [List.getElem?_take,if_pos hi,List.getElem?_drop]
theorem Wfg (hT:Qw X.P T) (S:List Nat) {id s off n:Nat} {kk:IntKind} {i:Int} {dst:Option Tmp} (e:sliceAt T st k=some (.own id s off n,s,none,some (kk,i),dst,k')) (h0:0<=i) (h1:i<=n)
  (Qat:(St.put st dst (.own id s off i.toNat)).map (St.only S)=some st') (hh:AK X f k' Q st'):AK X f k Q st:=by
 obtain ⟨o,t,el,Qbe,rfl,hu,hs,hv⟩:=Qkj hT e
 obtain ⟨s0,hp,rfl⟩:=Option.map_eq_some_iff.1 Qat
 refine Qd6 Qbe (Qdh S hh) fun a C hC=>?_
 obtain ⟨v,hav,hex⟩:=hv a C hC
 have key:∃ A c,v=.slice A n c/\n<=c/\Zj C.w (C.ok X) C.μ (.own id s off i.toNat) (sliced A 0 i.toNat c s):=by
  cases hav with
  | Qbj hμ=>
   refine ⟨_,_,rfl,Nat.le_refl _, ?_⟩
   have:i.toNat=0:=by omega
   rw [this]
   exact .Qbj hμ
  | @own _ _ _ _ b c cs ty hμ hh hs hn hc=>
   refine ⟨_,_,rfl,hn, ?_⟩
   have e2:sliced (some ⟨b,off * s,none⟩) 0 i.toNat c s=.slice (some ⟨b,off * s,none⟩) i.toNat c:=by
    unfold sliced
    simp [Addr.add]
   rw [e2]
   exact .own hμ hh hs (by omega) hc
 obtain ⟨A,c,rfl,hc,hvr⟩:=key
 refine ⟨_,C,st, ?_,hC,_,hp,hvr⟩
 rw [hex]
 have:=Qlr C.w hu (hs C.w) A n c none (some (kk,i)) hc (by simp [loN]) (by simpa [loN,hiN] using h0) (by simpa [hiN] using h1)
 rw [Sem.run_bind,this]
 rfl
theorem Waj {α:Type} {enc:α->List DV} {z:α} {xs:List α} {m:Nat}:∀ i,i < (xs.take m).length->vec enc z xs i=vec enc z (xs.take m) i:=by
 intro i hi
 rw [List.length_take] at hi
 simp only [vec,List.getD_eq_getElem?_getD]
 rw [List.getElem?_take,if_pos (by omega)]
theorem Qx7 (id:Nat) {kk n m:Nat} {fz:Bool} {ty:TypeId} {g:Nat->List DV} (g':Nat->List DV) (hr:st.rows[id]? = some (.flat fz kk ty n g)) (hm:m<=n) (hg:∀ i,i < m->g i=g' i)
  (hs:st'={ st with rows:=st.rows.set id (.flat fz kk ty m g') }) (h:AK X f k Q st'):AK X f k Q st:=
 Qrg (r':=.flat fz kk ty m g') hr (fun h=>h) (by simp) (fun w μ ok ob h=>by
  cases ob with
  | none=>simp only [Qbg] at h ⊢;omega
  | some b=>
   obtain ⟨cs,vs,h1,h2,h3,h4,h5⟩:=h
   exact ⟨cs,vs,h1,Nat.le_trans (Nat.mul_le_mul_right _ hm) h2,fun i hi=>h3 i (by omega),fun i hi=>hg i hi▸h4 i (by omega),fun i j v hi=>h5 i j v (by omega)⟩) hs h
end
end Go.Sy
namespace Go.Sy
theorem Qpy {P:Program} (w:World) (dT sT ty elem:TypeId) (k m:Nat) (g o dLen dCap:Nat) (a:Addr) (sLen sCap:Nat) (cur:Array Value) (t:TypeId) (cs:List Value)
  (hu:P.underlying dT=some (.slice elem)) (hs:(P.info? elem).map (·.size)=some k)
  (hg:w.heap[g]? = some (.cells cur t (0,0))) (hm:m=Nat.min sLen dLen) (hn:cs.length=m * k)
  (Qmw:∀ j v,cs[j]? = some v->w.cell? (a.add j)=some v) (Qs8:o+cs.length<=cur.size) (h1:∀ v∈cs,v.oneCell'=true):
  (Builtin.copy_ #[dT,sT] ty #[.slice (some ⟨g,o,none⟩) dLen dCap,.slice (some a) sLen sCap]).run P w =
   .ok (goInt m) (w.setRow g (cur.toList.take o ++ cs ++ cur.toList.drop (o+cs.length)).toArray):=by
 have hl:=run_loadCells_list (P:=P) w a cs Qmw
 have hst:=run_storeCells_at P g o t cs 0 cur w hg (by simpa using Qs8) h1
 cases hq:P.info? elem with
 | none=>simp [hq] at hs
 | some i=>
  have hi:i.size=k:=by simpa [hq] using hs
  simp [Builtin.copy_,run_underlying hu,Builtin.lenOf,Builtin.firstCells,sizeOf,typeInfo,hq,hi,<- hm,<- hn,hl,hst]
end Go.Sy
namespace Go.Sy
section
variable {X:Ctx} {T:Tab} {f:FuncId} {k:List Item} {st:St} {a:Act} {C:Qq}
def Ql6 (T:Tab) (st:St):ResultVar->Option AV
 | .tmp t=>st.tm.lookup t
 | .cell p t=>(st.tm.lookup p).bind fun av=>match av with
  | .ptr id k i off=>Qo4 T st.rows t (.ptr id k i off)
  | _=>none
def Qus (T:Tab) (st:St):List ResultVar->Option AV
 | [x]=>Ql6 T st x
 | [x,y]=>match Ql6 T st x,Ql6 T st y with
  | some a,some b=>some (.Ql [a,b])
  | _,_=>none
 | [x,y,z]=>match Ql6 T st x,Ql6 T st y,Ql6 T st z with
  | some a,some b,some c=>some (.Ql [a,b,c])
  | _,_,_=>none
 | _=>none
def Qq7 (tmps:Array Value):ResultVar->Sem Value
 | .tmp t=>pure (tmps.getD t undef)
 | .cell a t=>do loadVar t (<- asAddr (tmps.getD a undef))
theorem Qis (hT:Qw X.P T) (h:Sim X st a C) {x:ResultVar} {av:AV} (e:Ql6 T st x=some av):∃ v,(Qq7 a.tmps x).run X.P C.w=.ok v C.w/\Zj C.w (C.ok X) C.μ av v:=by
 have get:∀ {t:Nat} {x:AV},st.tm.lookup t=some x->Zj C.w (C.ok X) C.μ x (a.tmps.getD t undef):=by
  intro t x ht
  obtain ⟨v,h1,h2⟩:=h.tm t x ht
  simpa [Array.getD_eq_getD_getElem?,h1] using h2
 cases x with
 | tmp t=>exact ⟨_,rfl,get e⟩
 | cell p t=>
  simp only [Ql6] at e
  obtain ⟨pv,hp,e⟩:=Option.bind_eq_some_iff.1 e
  split at e
  ·rename_i id kk i off
   have hpv:=get hp
   rw [<- h.rows] at e
   obtain ⟨v,h1,h2⟩:=Qzo hT h.rel hpv e
   refine ⟨v, ?_,h2⟩
   simp only [Qq7]
   generalize a.tmps.getD p undef=u at hpv h1
   cases hpv with
   | ptr hμ=>
    simp only [Instr.loadAt,Instr.sureAddr] at h1
    simpa [asAddr] using h1
  cases e
theorem Qun (fn:Func) (tmps:Array Value):results fn tmps=(do
  let vs <- fn.results.mapM (Qq7 tmps)
  pure (if h:vs.size=1 then vs[0] else .tuple vs)):=by
 unfold results
 congr 1
theorem Wes (hT:Qw X.P T) (h:Sim X st a C) {fn:Func} {av:AV} (e:Qus T st fn.results.toList=some av):
  ∃ v,(results fn a.tmps).run X.P C.w=.ok v C.w/\Zj C.w (C.ok X) C.μ av v:=by
 have hr:fn.results=fn.results.toList.toArray:=by simp
 generalize fn.results.toList=l at e hr
 rw [Qun,hr]
 unfold Qus at e
 split at e
 ·obtain ⟨v,h1,h2⟩:=Qis hT h e
  exact ⟨v,by simp [h1],h2⟩
 ·split at e
  ·rename_i x y p q hp hq
   injection e with e
   subst e
   obtain ⟨v,h1,h2⟩:=Qis hT h hp
   obtain ⟨u,h3,h4⟩:=Qis hT h hq
   exact ⟨_,by simp [h1,h3],.Ql (.cons h2 (.cons h4 .nil))⟩
  cases e
 ·split at e
  ·rename_i x y z p q r hp hq hz
   injection e with e
   subst e
   obtain ⟨v,h1,h2⟩:=Qis hT h hp
   obtain ⟨u,h3,h4⟩:=Qis hT h hq
   obtain ⟨s,h5,h6⟩:=Qis hT h hz
   exact ⟨_,by simp [h1,h3,h5],.Ql (.cons h2 (.cons h4 (.cons h6 .nil)))⟩
  cases e
 cases e
theorem Wav {fn:Func} {Qr:List Row} {ret av:AV} (hT:Qw X.P T) (hf:X.P.funcs[f]? = some fn) (e:Qus T st fn.results.toList=some av)
  (Yu:List Nat) (hs:Sel st.rows (Qbm Yu st.rows.length) Yu Qr) (hn:Yu.Nodup) (h0:Yu.take X.μ0.length=List.range X.μ0.length) (Qhx:av=Qa0 (Qbm Yu st.rows.length) ret)
  (nr:∀ r∈Qr,NR r) (na:NA ret)
  (Qay:∀ (a:Act) (C:Qq),a.defers=X.ds->∀ (b:Frame) (cs:List Frame),b.fn=f->(b.kind=.normal/\b.roundOf=X.rnd)->∃ fr,Steps X.P (lone (b.atR a k) cs C.w) (lone fr cs C.w)/\fr.fn=f/\fr.mode=.returning/\fr.defers=[]/\fr.kind=.normal/\fr.tmps=a.tmps):
  AK X f k (Ym X Qr ret) st:=by
 intro a C hC b cs hb hk
 obtain ⟨v,h1,h2⟩:=Wes hT hC e
 have p:Qjk X C Yu Qr:=by
  refine ⟨by rw [hC.rows];exact hs,hn,fun j hj=>?_⟩
  have:(Yu.take X.μ0.length)[j]? = some j:=by rw [h0];simp [hj]
  rw [List.getElem?_take_of_lt hj] at this
  exact this
 obtain ⟨fr,s1,s2,s3,s4,s5,s6⟩:=Qay a C hC.defers b cs hb hk
 have Zb:=Qmh hC.rel p
 have Qgc:∀ b,(Qc4 C Yu Qr).ok X true b->(Qc4 C Yu Qr).okR X true b:=fun _ h=>⟨rfl,h⟩
 refine ⟨Qc4 C Yu Qr,fr,⟨v,rfl,⟨Zb, ?_, ?_⟩,s3,s4,s5,fn,by rw [s2];exact hf,by rw [s6];exact h1⟩,s1,s2⟩
 ·intro id ob r e1 e2
  exact (Zb.rel id ob r e1 e2).perm Qgc (nr r (List.mem_of_getElem? e2))
 rw [Qhx,<- hC.rows] at h2
 exact (Qoh hC.rel p h2).perm Qgc na
theorem Qh4 {fn:Func} {Qr:List Row} {ret av:AV} (hT:Qw X.P T) (hf:X.P.funcs[f]? = some fn) (hX:X.ds=[]/\X.rnd=none) (e:Qus T st fn.results.toList=some av)
  (Yu:List Nat) (hs:Sel st.rows (Qbm Yu st.rows.length) Yu Qr) (hn:Yu.Nodup) (h0:Yu.take X.μ0.length=List.range X.μ0.length) (Qhx:av=Qa0 (Qbm Yu st.rows.length) ret)
  (nr:∀ r∈Qr,NR r) (na:NA ret):AK X f (.code .ret :: k) (Ym X Qr ret) st:=
 Wav hT hf e Yu hs hn h0 Qhx nr na fun a C hd b cs hb hk=>⟨_,.one (stepR_ret (hk.2.trans hX.2)),hb,rfl,hd.trans hX.1,hk.1,rfl⟩
theorem Jm.at_set {w:World} {ok:Bool->Nat->Prop} {μ:List (Option Nat)}:∀ {xs:List AV} {vs:List Value} {j:Nat} {y:AV},Jm w ok μ xs vs->(∀ v,vs[j]? = some v->Zj w ok μ y v)->Jm w ok μ (xs.set j y) vs
 | _,_,_,_,.nil,_=>.nil
 | _,_,0,_,.cons h1 h hs,k=>.cons h1 (k _ rfl) hs
 | _,_,j+1,_,.cons h1 h hs,k=>.cons h1 h (Jm.at_set hs fun v hv=>k v (by simpa using hv))
theorem Jm.Wfl {w:World} {ok:Bool->Nat->Prop} {μ:List (Option Nat)}:∀ {xs:List AV} {vs:List Value} {j:Nat} {y:AV} {v:Value},Jm w ok μ xs vs->xs[j]? = some y->vs[j]? = some v->Zj w ok μ y v
 | _,_,j,_,_,.nil,h,_=>by simp at h
 | _,_,0,_,_,.cons h1 h hs,e1,e2=>by
  simp at e1 e2
  subst e1
  subst e2
  exact h
 | _,_,j+1,_,_,.cons h1 h hs,e1,e2=>Jm.Wfl hs (by simpa using e1) (by simpa using e2)
variable {k:List Item} {Q:Frame->Frame->Qq->Prop} {st':St}
theorem Qjx (id j kk:Nat) (ty:TypeId) (g:Nat->List DV) {tb:TypeId} {cs:List AV} (e:(st.rows[id]?).bind (fun r=>match r with | .box tb cs=>(match cs[j]? with | some (.d (.v (.slice none 0 0)))=>some (tb,cs) | _=>none) | _=>none)=some (tb,cs))
  (hs:(⟨st.nt,st.tm,st.rows.set id (.box tb (cs.set j (.own st.rows.length kk 0 0))) ++ [.flat false kk ty 0 g]⟩:St)=st') (h:AK X f k Q st'):AK X f k Q st:=by
 subst hs
 obtain ⟨r,hr,e⟩:=Option.bind_eq_some_iff.1 e
 have hr2:r=.box tb cs/\cs[j]? = some (.d (.v (.slice none 0 0))):=by
  split at e
  ·split at e
   ·rename_i h1
    simp only [Option.some.injEq,Prod.mk.injEq] at e
    obtain ⟨rfl,rfl⟩:=e
    exact ⟨rfl,h1⟩
   cases e
  cases e
 obtain ⟨rfl,hj⟩:=hr2
 intro a C hC b ss hb hk
 have Zb:Qbg C.w ((C.Qcl (.flat false kk ty 0 g)).ok X) (C.Qcl (.flat false kk ty 0 g)).μ none (.flat false kk ty 0 g):=rfl
 have hv:=Wt.Qcl hC.rel Zb
 have ev:=Ev.Qcl hC.rel (.flat false kk ty 0 g)
 have hlt:=(List.getElem?_eq_some_iff.1 hr).1
 have hr3:(C.Qcl (.flat false kk ty 0 g)).rows[id]? = some (.box tb cs):=by
  simp only [Qq.Qcl,hC.rows]
  rw [List.getElem?_append_left hlt]
  exact hr
 have hN:(C.Qcl (.flat false kk ty 0 g)).μ[st.rows.length]? = some none:=by
  simp [Qq.Qcl,<- hC.rows,<- hC.rel.len]
 obtain ⟨h1,h2⟩:=Qpf (r':=.box tb (cs.set j (.own st.rows.length kk 0 0))) hv hr3 (fun _=>rfl) (by simp) (fun ok ob hb=>by
  cases ob with
  | none=>exact hb
  | some bb=>
   obtain ⟨vs,q1,q2⟩:=hb
   refine ⟨vs,q1,q2.at_set fun v hv=>?_⟩
   have:=(q2.Wfl hj hv).Qbt
   subst this
   exact .Qbj hN)
 refine h a _ ⟨h1, ?_,hC.defers,hC.nt,fun i av e'=>?_⟩ b ss hb hk
 ·simp only [Qq.Qcl,hC.rows]
  rw [List.set_append_left _ _ hlt]
 obtain ⟨v,q1,q2⟩:=hC.tm i av e'
 exact ⟨v,q1,h2.avr (ev.avr q2)⟩
def emptyAt (T:Tab) (st:St) (k:List Item):Option (TypeId × Nat × Option Tmp × List Item):=
 match Qde st k with
 | some (o,k')=>
  match o.op with
  | .buildSlice t 0 parts=>
   match T.Qbn.lookup t,parts.toList with
   | some e,[]=>match T.info.lookup e with
    | some (s,_,_)=>some (e,s,o.dst,k')
    | none=>none
   | _,_=>none
  | _=>none
 | none=>none
theorem Qna {k':List Item} (hT:Qw X.P T) (S:List Nat) {e s:Nat} {dst:Option Tmp} (g:Nat->List DV) (he:emptyAt T st k=some (e,s,dst,k'))
  (Qat:(St.put { st with rows:=st.rows ++ [.flat false s e 0 g] } dst (.own st.rows.length s 0 0)).map (St.only S)=some st') (h:AK X f k' Q st'):AK X f k Q st:=by
 obtain ⟨s0,hp,rfl⟩:=Option.map_eq_some_iff.1 Qat
 unfold emptyAt at he
 split at he
 ·rename_i o k3 Qbe
  split at he
  ·rename_i t parts hop
   split at he
   ·rename_i e' hs hparts
    split at he
    ·rename_i s' b z hi
     simp only [Option.some.injEq,Prod.mk.injEq] at he
     obtain ⟨rfl,rfl,rfl,rfl⟩:=he
     refine Qd6 Qbe (Qdh S h) fun a C hC=>?_
     have hparts':parts=#[]:=by simpa using hparts
     have ev:=Ev.push hC.rel (.cells #[] e') (.flat false s' e' 0 g)
     have Zb:=Wt.push hC.rel (o:=.cells #[] e') (r:=.flat false s' e' 0 g) ⟨#[],fun _=>[],heap_alloc_new _ _,by simp,fun i hi=>by simp at hi,fun i hi=>by simp at hi,fun i j v hi=>by simp at hi⟩
     have hm:=hC.Qds ev Zb
     refine ⟨.slice (some ⟨C.w.heap.size,0,none⟩) 0 0,C.push (.cells #[] e') (.flat false s' e' 0 g),_, ?_,hm,.own st.rows.length s' 0 0, ?_, ?_⟩
     ·have hsz:=hT.size hi C.w
      subst hparts'
      simp only [execOp,hop,Instr.buildSlice,Sem.run_bind,run_underlying (hT.slice hs),Result.andThen_ok,hsz]
      have h0:∀ f:Nat->Value,(Array.range 0).map f=#[]:=fun f=>Array.eq_empty_of_size_eq_zero (by simp)
      simp [Instr.fill,newRow,run_newObj,Qq.push,h0]
     ·rw [<- hp]
      simp [Qq.push,hC.rows]
     have hμ:(C.push (.cells #[] e') (.flat false s' e' 0 g)).μ[st.rows.length]? = some (some C.w.heap.size):=by simp [Qq.push,<- hC.rows,<- hC.rel.len]
     have:=Zj.own (w:=(C.push (.cells #[] e') (.flat false s' e' 0 g)).w) (ok:=(C.push (.cells #[] e') (.flat false s' e' 0 g)).ok X) (off:=0) (k:=s') (n:=0) (c:=0) hμ (heap_alloc_new C.w (.cells #[] e')) (by simp) (Nat.le_refl _) (Nat.zero_le _)
     rw [Nat.zero_mul] at this
     exact this
    cases he
   cases he
  cases he
 cases he
end
end Go.Sy
