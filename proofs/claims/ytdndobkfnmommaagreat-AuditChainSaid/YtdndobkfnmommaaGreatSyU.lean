/- slices.Grow of nil as a contract. -/
import Derived.Test.YtdndobkfnmommaaGreatSyS
import Derived.Shelf.Spec.SlicesGrow
import Derived.Laws.Slices
import Derived.Lib.SliceRun
import Derived.WalkSpells
import Derived.Laws.CopyRow
set_option linter.unusedVariables false
set_option linter.unusedSimpArgs false
namespace Go.Sy
open Go.Proofs Go.Shelf Go.Sort Go.Lib
theorem Qr9 {X:Ctx} {f:FuncId} {k:List Item} {Q:Frame->Frame->Wp->Prop} {n m:Nat} (e:n=m) (F:Nat->St) (h:AK X f k Q (F m)):AK X f k Q (F n):=by
 subst e
 exact h
theorem Qf1 {rows:List Row} {i:Nat} {a:Row} (h1:rows[i]? = some (Qc7 (Qaq [i] rows.length) a)) (hl:a.live=true):Qbo rows [i] [a]:=by
 refine ⟨by simp,rfl, ?_⟩
 intro j id r e1 e2
 match j,e1,e2 with
 | 0,e1,e2=>
  simp at e1 e2
  subst e1
  subst e2
  exact ⟨h1,hl⟩
end Go.Sy
namespace Go.Sy
section
variable {X:Ctx} {T:Tab} {f:FuncId} {k k':List Item} {Q:Frame->Frame->Wp->Prop} {st st':St}
theorem Whc {o:Oper} (e:Qe3 st k=some (o,k'))
  (hv:∀ (a:Act) (C:Wp),Sim X st a C->∃ v C' st1 st',AK X f k' Q st'/\(execOp a.eval o).run X.P C.w=.ok (.value v) C'.w/\Sim X st1 a C'/\∃ av,St.put st1 o.dst av=some st'/\Js C'.w (C'.ok X) C'.μ av v):AK X f k Q st:=by
 unfold Qe3 at e
 split at e
 ·split at e
  ·rename_i o' ho
   split at e
   ·rename_i hg
    cases hdf:Qlf o'.op with
    | true=>rw [hdf] at e;cases e
    | false=>
     rw [hdf] at e
     injection e with e;injection e with e1 e2;subst e1;subst e2
     intro a C hC b cs hb hk
     obtain ⟨v,C',st1,st',h,hr,hs,av,hp,hav⟩:=hv a C hC
     obtain ⟨C2,fr,q,s1,s2⟩:=h _ _ (hs.put hp hav) b cs hb hk
     exact ⟨C2,fr,q,(Steps.one (Qgn ho (Qk2 hdf) (Qeg hC hg) hr)).trans s1,s2⟩
   cases e
  cases e
 cases e
def Wal:AV->Option Nat
 | .d (.sl _ n _)=>some n
 | .own _ _ _ n=>some n
 | _=>none
theorem Wdh {w:World} {ok:Bool->Nat->Prop} {μ:List (Option Nat)} {av:AV} {v:Value} {n:Nat} (h:Wal av=some n) (hv:Js w ok μ av v):∃ A c,v=.slice A n c/\(A=none->n=0):=by
 unfold Wal at h
 split at h
 ·injection h with h
  subst h
  cases hv with
  | d hv=>
   cases hv with
   | sl0=>exact ⟨_,_,rfl,fun _=>rfl⟩
   | sl=>exact ⟨_,_,rfl,fun e=>by cases e⟩
 ·injection h with h
  subst h
  cases hv with
  | Qce=>exact ⟨_,_,rfl,fun _=>rfl⟩
  | own=>exact ⟨_,_,rfl,fun e=>by cases e⟩
 cases h
def Wgu (T:Tab) (st:St) (k:List Item):Option (Bool × Nat × Option Tmp × List Item):=
 match Qe3 st k with
 | some (o,k')=>
  match o.op with
  | .binOp op t x y _=>
   match (valOf st.tm x).bind Wal,valOf st.tm y,T.Qck.lookup t with
   | some n,some (.d (.v (.slice none 0 0))),some _=>
    match op with
    | .eql=>some (true,n,o.dst,k')
    | .neq=>some (false,n,o.dst,k')
    | _=>none
   | _,_,_=>none
  | _=>none
 | none=>none
theorem Wbk (hT:Xo X.P T) (S:List Nat) {eq:Bool} {n:Nat} {dst:Option Tmp} {st':Bool->St} (e1:Wgu T st k=some (eq,n,dst,k')) (Qcd:∀ b,(St.put st dst (.d (.v (.bool b)))).map (St.only S)=some (st' b))
  (h:∀ b:Bool,(b=eq->n=0)->AK X f k' Q (st' b)):AK X f k Q st:=by
 unfold Wgu at e1
 split at e1
 ·rename_i o k3 Qe7
  split at e1
  ·rename_i op t x y ty hop
   split at e1
   ·rename_i n' e' hx hy hs
    obtain ⟨av,hx1,hx2⟩:=Option.bind_eq_some_iff.1 hx
    have key:∀ eq2:Bool,(op=if eq2 then .eql else .neq)->(eq2,n',o.dst,k3)=(eq,n,dst,k')->AK X f k Q st:=by
     intro eq2 Waf hq
     simp only [Prod.mk.injEq] at hq
     obtain ⟨rfl,rfl,rfl,rfl⟩:=hq
     have hu:X.P.underlying t=some (.slice e'):=hT.slice hs
     refine Whc Qe7 fun a C hC=>?_
     have hvx:=hC.val _ _ hx1
     have hvy:=(hC.val _ _ hy).Qc3
     obtain ⟨A,c,hA,hn⟩:=Wdh hx2 hvx
     have Qhi:(execOp a.eval o).run X.P C.w=.ok (.value (.bool (A.isNone == eq2))) C.w:=by
      simp only [execOp,hop,hA,hvy]
      cases eq2 with
      | true=>
       have:=Lib.run_eql_slice_nil (P:=X.P) C.w t e' A n' c 0 0 hu
       simp only [if_true] at Waf
       subst Waf
       have hg:(eqGuard .eql t x y (Value.slice A n' c) (Value.slice none 0 0)).run X.P C.w=.ok () C.w:=by simp [eqGuard]
       rw [Sem.run_bind,Sem.run_bind,hg,Result.andThen_ok,this]
       simp
      | false=>
       have:=run_neq_slice_nil_any (P:=X.P) C.w t e' A n' c 0 0 hu
       simp only [Bool.false_eq_true,if_false] at Waf
       subst Waf
       have hg:(eqGuard .neq t x y (Value.slice A n' c) (Value.slice none 0 0)).run X.P C.w=.ok () C.w:=by simp [eqGuard]
       rw [Sem.run_bind,Sem.run_bind,hg,Result.andThen_ok,this]
       simp
     have hb2:(A.isNone == eq2)=eq2->n'=0:=fun e=>hn (by
      cases A with
      | none=>rfl
      | some _=>cases eq2<;>simp at e)
     obtain ⟨s0,h1,h2⟩:=Option.map_eq_some_iff.1 (Qcd (A.isNone == eq2))
     exact ⟨_,C,st,s0,Qed S (h2▸h _ hb2),Qhi,hC,_,h1,.d (.v rfl)⟩
    split at e1
    ·injection e1 with e1
     exact key true rfl e1
    ·injection e1 with e1
     exact key false rfl e1
    cases e1
   cases e1
  cases e1
 cases e1
def Qo9 (tm:List (Nat × AV)):Option Operand->Option (Option (IntKind × Int))
 | none=>some none
 | some x=>match valOf tm x with
  | some (.d (.v (.int k i)))=>some (some (k,i))
  | _=>none
def sliceAt (T:Tab) (st:St) (k:List Item):Option (AV × Nat × Option (IntKind × Int) × Option (IntKind × Int) × Option Tmp × List Item):=
 match Qe3 st k with
 | some (o,k')=>
  match o.op with
  | .slice t x lo hi none=>
   match valOf st.tm x,T.Qck.lookup t with
   | some av,some e=>
    match T.info.lookup e,Qo9 st.tm lo,Qo9 st.tm hi with
    | some (s,_,_),some l,some h=>some (av,s,l,h,o.dst,k')
    | _,_,_=>none
   | _,_=>none
  | _=>none
 | none=>none
def loN (l:Option (IntKind × Int)):Int:=match l with | none=>0 | some p=>p.2
def hiN (n:Nat) (h:Option (IntKind × Int)):Int:=match h with | none=>n | some p=>p.2
theorem Qu2 {P:Program} (w:World) {t e:TypeId} {s:Nat} (hu:P.underlying t=some (.slice e)) (hs:(sizeOf e).run P w=.ok s w) (A:Option Addr) (n c:Nat) (l h:Option (IntKind × Int)) (hc:n<=c) (h0:0<=loN l) (h1:loN l<=hiN n h) (h2:hiN n h<=n):
  (Instr.sliceAt t (.slice A n c) (l.map fun p=>.int p.1 p.2) (h.map fun p=>.int p.1 p.2) none).run P w=.ok (sliced A (loN l).toNat (hiN n h).toNat c s) w:=by
 have he:P.elem t=e:=by simp [Program.elem,hu]
 have ht:P.underlying t=some (.slice (P.elem t)):=by rw [he];exact hu
 have hs':(sizeOf (P.elem t)).run P w=.ok s w:=by rw [he];exact hs
 rw [run_sliceAt_slice w t _ _ _ _ ht]
 cases l with
 | none=>
  cases h with
  | none=>simp only [Option.map_none,loN,hiN] at *;rw [run_slice_all w t A n c ht,hs'];rfl
  | some p=>simp only [Option.map_none,Option.map_some,loN,hiN] at *;rw [run_slice_h w t A n c ht p.1 p.2 h1 (by omega),hs'];rfl
 | some q=>
  cases h with
  | none=>simp only [Option.map_none,Option.map_some,loN,hiN] at *;rw [run_slice_l w t A n c ht q.1 q.2 h0 (by omega),hs'];rfl
  | some p=>simp only [Option.map_some,loN,hiN] at *;rw [run_slice_lh w t A n c ht q.1 p.1 q.2 p.2 h0 h1 (by omega),hs'];rfl
theorem Qxf (hT:Xo X.P T) {av:AV} {s:Nat} {l h:Option (IntKind × Int)} {dst:Option Tmp} (e:sliceAt T st k=some (av,s,l,h,dst,k')):
  ∃ o t e,Qe3 st k=some (o,k')/\o.dst=dst/\X.P.underlying t=some (.slice e)/\(∀ w,(sizeOf e).run X.P w=.ok s w) /\
   ∀ (a:Act) (C:Wp),Sim X st a C->∃ v,Js C.w (C.ok X) C.μ av v/\execOp a.eval o=(do let z <- Instr.sliceAt t v (l.map fun p=>.int p.1 p.2) (h.map fun p=>.int p.1 p.2) none;pure (.value z)):=by
 unfold sliceAt at e
 split at e
 ·rename_i o k3 Qe7
  split at e
  ·rename_i t x lo hi hop
   split at e
   ·rename_i av' el hx hs
    split at e
    ·rename_i s' b' z' l' h' hi1 hl hh
     simp only [Option.some.injEq,Prod.mk.injEq] at e
     obtain ⟨rfl,rfl,rfl,rfl,rfl,rfl⟩:=e
     refine ⟨o,t,el,Qe7,rfl,hT.slice hs,fun w=>hT.size hi1 w,fun a C hC=>⟨a.eval x,hC.val _ _ hx, ?_⟩⟩
     have key:∀ (y:Option Operand) (r:Option (IntKind × Int)),Qo9 st.tm y=some r->y.map a.eval=r.map fun p=>Value.int p.1 p.2:=by
      intro y r hy
      cases y with
      | none=>simp only [Qo9,Option.some.injEq] at hy;subst hy;rfl
      | some y=>
       simp only [Qo9] at hy
       split at hy
       ·rename_i kk ii hv
        injection hy with hy
        subst hy
        have:=(hC.val _ _ hv).Qc3
        simp only [Option.map_some,this]
       cases hy
     simp only [execOp,hop,key _ _ hl,key _ _ hh,Option.map_none]
    cases e
   cases e
  cases e
 cases e
theorem Wbl (hT:Xo X.P T) (S:List Nat) {id s off n:Nat} {kk:IntKind} {i:Int} {dst:Option Tmp} (e:sliceAt T st k=some (.own id s off n,s,none,some (kk,i),dst,k')) (h0:0<=i) (h1:i<=n)
  (Qcd:(St.put st dst (.own id s off i.toNat)).map (St.only S)=some st') (hh:AK X f k' Q st'):AK X f k Q st:=by
 obtain ⟨o,t,el,Qe7,rfl,hu,hs,hv⟩:=Qxf hT e
 obtain ⟨s0,hp,rfl⟩:=Option.map_eq_some_iff.1 Qcd
 refine Qkg Qe7 (Qed S hh) fun a C hC=>?_
 obtain ⟨v,hav,hex⟩:=hv a C hC
 have key:∃ A c,v=.slice A n c/\n<=c/\Js C.w (C.ok X) C.μ (.own id s off i.toNat) (sliced A 0 i.toNat c s):=by
  cases hav with
  | Qce hμ=>
   refine ⟨_,_,rfl,Nat.le_refl _, ?_⟩
   have:i.toNat=0:=by omega
   rw [this]
   exact .Qce hμ
  | @own _ _ _ _ b c cs ty hμ hh hs hn hc=>
   refine ⟨_,_,rfl,hn, ?_⟩
   have e2:sliced (some ⟨b,off * s,none⟩) 0 i.toNat c s=.slice (some ⟨b,off * s,none⟩) i.toNat c:=by
    unfold sliced
    simp [Addr.add]
   rw [e2]
   exact .own hμ hh hs (by omega) hc
 obtain ⟨A,c,rfl,hc,hvr⟩:=key
 refine ⟨_,C,st, ?_,hC,_,hp,hvr⟩
 rw [hex]
 have:=Qu2 C.w hu (hs C.w) A n c none (some (kk,i)) hc (by simp [loN]) (by simpa [loN,hiN] using h0) (by simpa [hiN] using h1)
 rw [Sem.run_bind,this]
 rfl
theorem Wgj {α:Type} {enc:α->List DV} {z:α} {xs:List α} {m:Nat}:∀ i,i < (xs.take m).length->vec enc z xs i=vec enc z (xs.take m) i:=by
 intro i hi
 rw [List.length_take] at hi
 simp only [vec,List.getD_eq_getElem?_getD]
 rw [List.getElem?_take,if_pos (by omega)]
theorem Wez (id:Nat) {kk n m:Nat} {fz:Bool} {ty:TypeId} {g:Nat->List DV} (g':Nat->List DV) (hr:st.rows[id]? = some (.flat fz kk ty n g)) (hm:m<=n) (hg:∀ i,i < m->g i=g' i)
  (hs:st'={ st with rows:=st.rows.set id (.flat fz kk ty m g') }) (h:AK X f k Q st'):AK X f k Q st:=
 Qtc (r':=.flat fz kk ty m g') hr (fun h=>h) (by simp) (fun w μ ok ob h=>by
  cases ob with
  | none=>simp only [Qbm] at h ⊢;omega
  | some b=>
   obtain ⟨cs,vs,h1,h2,h3,h4,h5⟩:=h
   exact ⟨cs,vs,h1,Nat.le_trans (Nat.mul_le_mul_right _ hm) h2,fun i hi=>h3 i (by omega),fun i hi=>hg i hi▸h4 i (by omega),fun i j v hi=>h5 i j v (by omega)⟩) hs h
end
end Go.Sy
namespace Go.Sy
theorem Qol {P:Program} (w:World) (dT sT ty elem:TypeId) (k m:Nat) (g o dLen dCap:Nat) (a:Addr) (sLen sCap:Nat) (cur:Array Value) (t:TypeId) (cs:List Value)
  (hu:P.underlying dT=some (.slice elem)) (hs:(P.info? elem).map (·.size)=some k)
  (hg:w.heap[g]? = some (.cells cur t (0,0))) (hm:m=Nat.min sLen dLen) (hn:cs.length=m * k)
  (Qtj:∀ j v,cs[j]? = some v->w.cell? (a.add j)=some v) (Wac:o+cs.length<=cur.size) (h1:∀ v∈cs,v.oneCell'=true):
  (Builtin.copy_ #[dT,sT] ty #[.slice (some ⟨g,o,none⟩) dLen dCap,.slice (some a) sLen sCap]).run P w =
   .ok (goInt m) (w.setRow g (cur.toList.take o ++ cs ++ cur.toList.drop (o+cs.length)).toArray):=by
 have hl:=run_loadCells_list (P:=P) w a cs Qtj
 have hst:=run_storeCells_at P g o t cs 0 cur w hg (by simpa using Wac) h1
 cases hq:P.info? elem with
 | none=>simp [hq] at hs
 | some i=>
  have hi:i.size=k:=by simpa [hq] using hs
  simp [Builtin.copy_,run_underlying hu,Builtin.lenOf,Builtin.firstCells,sizeOf,typeInfo,hq,hi,<- hm,<- hn,hl,hst]
end Go.Sy
