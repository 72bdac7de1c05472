/- Rules for operations that ask something of the numbers. -/
import Derived.Test.YtdhmflhncidjaaaGreatSyH
set_option linter.unusedVariables false
set_option linter.unusedSimpArgs false
namespace Go.Sy
def vec {α:Type} (enc:α->List DV) (z:α) (xs:List α):Nat->List DV:=fun j=>enc (xs.getD j z)
theorem Wai {α:Type} {enc:α->List DV} {z x:α} {xs:List α}:∀ i,i < xs.length->vec enc z (xs ++ [x]) i=vec enc z xs i:=by
 intro i hi
 simp [vec,List.getElem?_append_left hi]
theorem Wah {α:Type} {enc:α->List DV} {z x:α} {xs:List α}:∀ i,i < 1->vec enc z (xs ++ [x]) (xs.length+i)=(fun j=>[enc x].getD j []) i:=by
 intro i hi
 have:i=0:=by omega
 subst this
 simp [vec]
theorem Quz {α:Type} {enc:α->List DV} {z:α} {xs ys:List α}:∀ i,i < xs.length->vec enc z (xs ++ ys) i=vec enc z xs i:=by
 intro i hi
 simp [vec,List.getElem?_append_left hi]
theorem Qtg {α:Type} {enc:α->List DV} {z:α} {xs ys:List α}:∀ i,i < ys.length->vec enc z (xs ++ ys) (xs.length+i)=vec enc z ys i:=by
 intro i hi
 simp only [vec,List.getD_eq_getElem?_getD]
 rw [List.getElem?_append_right (by omega),Nat.add_sub_cancel_left]
section
variable {X:Ctx} {T:Tab} {f:FuncId} {k k':List Item} {Q:Frame->Frame->Qq->Prop} {st st':St}
def Qk0:Op->Bool
 | .defer _=>true
 | _=>false
theorem Qo9 {o:Op} (h:Qk0 o=false):∀ c,o≠.defer c:=by
 rintro c rfl
 cases h
def Qde (st:St):List Item->Option (Oper × List Item)
 | .inRegion ops (i :: rest) :: k=>
  match ops[i]? with
  | some o=>
   match guardOf st.tm ops o with
   | some true=>bif Qk0 o.op then none else some (o,.inRegion ops rest :: k)
   | _=>none
  | none=>none
 | _=>none
theorem Qd6 {o:Oper} (e:Qde st k=some (o,k')) (h:AK X f k' Q st')
  (hv:∀ (a:Act) (C:Qq),Sim X st a C->∃ v C' st1,(execOp a.eval o).run X.P C.w=.ok (.value v) C'.w/\Sim X st1 a C'/\∃ av,St.put st1 o.dst av=some st'/\Zj C'.w (C'.ok X) C'.μ av v):AK X f k Q st:=by
 unfold Qde at e
 split at e
 ·split at e
  ·rename_i o' ho
   split at e
   ·rename_i hg
    cases hdf:Qk0 o'.op with
    | true=>rw [hdf] at e;cases e
    | false=>
     rw [hdf] at e
     injection e with e;injection e with e1 e2;subst e1;subst e2
     refine Qix h fun a C hC b cs _=>?_
     obtain ⟨v,C',st1,hr,hs,av,hp,hav⟩:=hv a C hC
     exact ⟨_,C',hs.put hp hav,.one (Qe0 ho (Qo9 hdf) (Qdv hC hg) hr)⟩
   cases e
  cases e
 cases e
theorem Qsk {o:Oper} (e:Qde st k=some (o,k')) (hd:o.dst=none) (h:AK X f k' Q st')
  (hv:∀ (a:Act) (C:Qq),Sim X st a C->∃ C',(execOp a.eval o).run X.P C.w=.ok .skip C'.w/\Sim X st' a C'):AK X f k Q st:=by
 unfold Qde at e
 split at e
 ·split at e
  ·rename_i o' ho
   split at e
   ·rename_i hg
    cases hdf:Qk0 o'.op with
    | true=>rw [hdf] at e;cases e
    | false=>
     rw [hdf] at e
     injection e with e;injection e with e1 e2;subst e1;subst e2
     refine Qix h fun a C hC b cs _=>?_
     obtain ⟨C',hr,hs⟩:=hv a C hC
     refine ⟨_,C',hs,.one ?_⟩
     have:=Qnw (b:=b) (k:=‹List Item›) (cs:=cs) (rest:=‹List Nat›) ho (Qo9 hdf) (Qdv hC hg) hr
     rw [hd] at this
     exact this
   cases e
  cases e
 cases e
def Qye (b:ByteArray) (i:Int):Int:=if h:i.toNat < b.size then ((b[i.toNat]'h).toNat:Int) else 0
def Qo8 (T:Tab) (st:St) (k:List Item):Option (AV × Option Tmp × List Item × Int × Int):=
  match Qde st k with
  | some (o,k')=>
   match o.op with
   | .indexAddr t x ix=>
    match valOf st.tm x,valOf st.tm ix with
    | some a,some (.d (.v (.int _ i)))=>
     match T.Qbn.lookup t with
     | some e=>
      match T.info.lookup e with
      | some (s,_,_)=>
       match a with
       | .own id kk off n=>bif Nat.beq kk s then some (.ptr id kk (i.toNat+off) 0,o.dst,k',i,n) else none
       | .win id off n=>bif Nat.beq s 1 then some (.ptr id 0 0 (off+i.toNat),o.dst,k',i,n) else none
       | .d (.sl tg n g)=>bif Nat.beq (g i.toNat).length s then some (.d (.rop tg n g i.toNat 0),o.dst,k',i,n) else none
       | _=>none
      | none=>none
     | none=>
      match T.Qs1.lookup t with
      | some (len,e)=>
       match T.info.lookup e with
       | some (s,_,_)=>
        match a with
        | .ptr id kk i0 off=>some (.ptr id kk i0 (off+i.toNat * s),o.dst,k',i,len)
        | _=>none
       | none=>none
      | none=>none
    | _,_=>none
   | .index t x ix=>
    match valOf st.tm x,valOf st.tm ix with
    | some (.d (.v (.string b))),some (.d (.v (.int _ i)))=>bif T.strs.contains t then some (.d (.v (.int .u8 (Qye b i))),o.dst,k',i,b.size) else none
    | _,_=>none
   | _=>none
  | none=>none
theorem Qba (hT:Qw X.P T) {i n:Int} (h0:0<=i) (h1:i < n)
  (e:(Qo8 T st k).bind (fun r=>(st.put r.2.1 r.1).map fun s=>(r.2.2.1,s,r.2.2.2))=some (k',st',i,n)) (h:AK X f k' Q st'):AK X f k Q st:=by
 obtain ⟨⟨av,dst,k2,i',n'⟩,e1,e2⟩:=Option.bind_eq_some_iff.1 e
 obtain ⟨s,e3,e4⟩:=Option.map_eq_some_iff.1 e2
 simp only [Prod.mk.injEq] at e4
 obtain ⟨rfl,rfl,rfl,rfl⟩:=e4
 simp only at e3
 unfold Qo8 at e1
 split at e1
 ·rename_i o k3 Qbe
  have fin:∀ {av':AV},(∀ (a:Act) (C:Qq),Sim X st a C->∃ v,(execOp a.eval o).run X.P C.w=.ok (.value v) C.w/\Zj C.w (C.ok X) C.μ av' v)->av'=av->o.dst=dst->k3=k2->AK X f k Q st:=by
   rintro av' hv rfl rfl rfl
   refine Qd6 Qbe h fun a C hC=>?_
   obtain ⟨v,hr,hav⟩:=hv a C hC
   exact ⟨v,C,st,hr,hC,_,e3,hav⟩
  split at e1
  ·rename_i t x ix hop
   split at e1
   ·rename_i aa ik i0 hx hix
    split at e1
    ·rename_i e ht
     split at e1
     ·rename_i s by' z hi
      split at e1
      ·rename_i id kk off n0
       cases hb:Nat.beq kk s with
       | false=>rw [hb] at e1;cases e1
       | true=>
        rw [hb] at e1
        have hb:=Nat.eq_of_beq_eq_true hb
        subst hb
        injection e1 with e1
        simp only [Prod.mk.injEq] at e1
        obtain ⟨q1,q2,q3,rfl,rfl⟩:=e1
        refine fin ?_ q1 q2 q3
        intro a C hC
        have rx:=hC.val _ _ hx
        have ri:=(hC.val _ _ hix).Qbt
        generalize hu:a.eval x=u at rx
        cases rx with
        | Qbj _=>simp at h1;omega
        | own hμ hh hs hn hc=>
         rename_i b c cs ty
         refine ⟨.pointer (some ⟨b,(i0.toNat+off) * kk+0,none⟩), ?_,.ptr hμ⟩
         have hsz:=hT.size hi C.w
         simp only [execOp,hop,hu,ri,Instr.indexAt,asIntOf,Sem.run_bind,Sem.run_pure,Result.andThen_ok,run_underlying (hT.slice ht)]
         rw [if_pos ⟨h0,h1⟩]
         simp only [Sem.run_bind,Sem.run_pure,Result.andThen_ok,hsz,Qgx,Nat.add_mul,Nat.add_zero,Nat.add_comm]
      ·rename_i id off n0
       cases hb:Nat.beq s 1 with
       | false=>rw [hb] at e1;cases e1
       | true=>
        rw [hb] at e1
        have hb:=Nat.eq_of_beq_eq_true hb
        subst hb
        injection e1 with e1
        simp only [Prod.mk.injEq] at e1
        obtain ⟨q1,q2,q3,rfl,rfl⟩:=e1
        refine fin ?_ q1 q2 q3
        intro a C hC
        have rx:=hC.val _ _ hx
        have ri:=(hC.val _ _ hix).Qbt
        generalize hu:a.eval x=u at rx
        cases rx with
        | win hμ hn hc=>
         rename_i b c
         refine ⟨.pointer (some ⟨b,0 * 0+(off+i0.toNat),none⟩), ?_,.ptr hμ⟩
         have hsz:=hT.size hi C.w
         simp only [execOp,hop,hu,ri,Instr.indexAt,asIntOf,Sem.run_bind,Sem.run_pure,Result.andThen_ok,run_underlying (hT.slice ht)]
         rw [if_pos ⟨h0,h1⟩]
         simp only [Sem.run_bind,Sem.run_pure,Result.andThen_ok,hsz,Qgx,Nat.mul_one,Nat.zero_mul,Nat.zero_add]
      ·rename_i tg n0 g
       cases hb:Nat.beq (g i0.toNat).length s with
       | false=>rw [hb] at e1;cases e1
       | true=>
        rw [hb] at e1
        have hb:=Nat.eq_of_beq_eq_true hb
        injection e1 with e1
        simp only [Prod.mk.injEq] at e1
        obtain ⟨q1,q2,q3,rfl,rfl⟩:=e1
        refine fin ?_ q1 q2 q3
        intro a C hC
        have rx:=hC.val _ _ hx
        have ri:=(hC.val _ _ hix).Qbt
        generalize hu:a.eval x=u at rx
        cases rx with
        | d rx=>
         cases rx with
         | sl0=>simp at h1;omega
         | sl kq vs g0 gc gok gl gr gm=>
          rename_i b o c
          have hin:i0.toNat < n0:=by omega
          have hks:kq=s:=by
           have a1:=(gr _ hin).length
           rw [gl _ hin] at a1
           omega
          subst hks
          refine ⟨.pointer (some ⟨b,o+i0.toNat * kq+0,none⟩), ?_,.d (.rop kq vs hin gok gl gr gm)⟩
          have hsz:=hT.size hi C.w
          simp only [execOp,hop,hu,ri,Instr.indexAt,asIntOf,Sem.run_bind,Sem.run_pure,Result.andThen_ok,run_underlying (hT.slice ht)]
          rw [if_pos ⟨h0,h1⟩]
          simp only [Sem.run_bind,Sem.run_pure,Result.andThen_ok,hsz,Qgx,Nat.add_zero]
      cases e1
     cases e1
    split at e1
    ·rename_i len e ht
     split at e1
     ·rename_i s by' z hi
      split at e1
      ·rename_i id kk j0 off
       injection e1 with e1
       simp only [Prod.mk.injEq] at e1
       obtain ⟨q1,q2,q3,rfl,rfl⟩:=e1
       refine fin ?_ q1 q2 q3
       intro a C hC
       have rx:=hC.val _ _ hx
       have ri:=(hC.val _ _ hix).Qbt
       generalize hu:a.eval x=u at rx
       cases rx with
       | ptr hμ=>
        rename_i b
        refine ⟨.pointer (some ⟨b,j0 * kk+(off+i0.toNat * s),none⟩), ?_,.ptr hμ⟩
        have hsz:=hT.size hi C.w
        have hut:=hT.Qs1.mem _ (Qce ht)
        simp only at hut
        simp only [execOp,hop,hu,ri,Instr.indexAt,asIntOf,Sem.run_bind,Sem.run_pure,Result.andThen_ok,run_underlying hut,Instr.sureAddr]
        rw [if_pos ⟨h0,h1⟩]
        simp only [Sem.run_bind,Sem.run_pure,Result.andThen_ok,hsz,Qgx,Nat.add_assoc]
      cases e1
     cases e1
    cases e1
   cases e1
  ·rename_i t x ix hop
   split at e1
   ·rename_i b ik i0 hx hix
    cases hb:T.strs.contains t with
    | false=>rw [hb] at e1;cases e1
    | true=>
     rw [hb] at e1
     injection e1 with e1
     simp only [Prod.mk.injEq] at e1
     obtain ⟨q1,q2,q3,rfl,rfl⟩:=e1
     refine fin ?_ q1 q2 q3
     intro a C hC
     have rx:=(hC.val _ _ hx).Qbt
     have ri:=(hC.val _ _ hix).Qbt
     have hin:i0.toNat < b.size:=by omega
     refine ⟨.int .u8 (Qye b i0), ?_,.d (.v rfl)⟩
     simp [execOp,hop,rx,ri,Instr.index,asIntOf,run_underlying (hT.str hb),h0,hin,Qye]
   cases e1
  cases e1
 cases e1
theorem Qh2 (hT:Qw X.P T) (S:List Nat) {i n:Int} (h0:0<=i) (h1:i < n)
  (e:(Qo8 T st k).bind (fun r=>(st.put r.2.1 r.1).map fun s=>(r.2.2.1,s.only S,r.2.2.2))=some (k',st',i,n)) (h:AK X f k' Q st'):AK X f k Q st:=by
 obtain ⟨r,e1,e2⟩:=Option.bind_eq_some_iff.1 e
 obtain ⟨s,e3,e4⟩:=Option.map_eq_some_iff.1 e2
 simp only [Prod.mk.injEq] at e4
 obtain ⟨rfl,rfl,e5⟩:=e4
 exact Qba hT h0 h1 (by rw [e1,Option.bind_some,e3,Option.map_some,e5]) (Qdh S h)
def Wea (T:Tab) (st:St) (k:List Item):Option (AV × Option Tmp × List Item × Nat × Nat):=
 match Qde st k with
 | some (o,k')=>
  match o.op with
  | .load t x=>
   match T.Qkp.lookup t,T.info.lookup t with
   | some g,some (s,_,_)=>
    match valOf st.tm x with
    | some (.ptr id kk i off)=>
     match st.rows[id]? with
     | some (.flat _ k2 _ n gg)=>
      bif Nat.beq kk k2 && Nat.ble (off+s) (gg i).length then (bif g then some (.d (.agg (((gg i).drop off).take s)),o.dst,k',i,n) else ((gg i)[off]?).map fun x=>(.d x,o.dst,k',i,n)) else none
     | some (.mix k2 _ n gg)=>
      bif Nat.beq kk k2 && Nat.ble (off+s) (gg i).length then (bif g then some (Qrt (((gg i).drop off).take s),o.dst,k',i,n) else ((gg i)[off]?).map fun x=>(x,o.dst,k',i,n)) else none
     | _=>none
    | _=>none
   | _,_=>none
  | _=>none
 | none=>none
theorem Qf8 (hT:Qw X.P T) {i n:Nat} (h1:i < n)
  (e:(Wea T st k).bind (fun r=>(st.put r.2.1 r.1).map fun s=>(r.2.2.1,s,r.2.2.2))=some (k',st',i,n)) (h:AK X f k' Q st'):AK X f k Q st:=by
 obtain ⟨⟨av,dst,k2,i',n'⟩,e1,e2⟩:=Option.bind_eq_some_iff.1 e
 obtain ⟨s0,e3,e4⟩:=Option.map_eq_some_iff.1 e2
 simp only [Prod.mk.injEq] at e4
 obtain ⟨rfl,rfl,rfl,rfl⟩:=e4
 simp only at e3
 unfold Wea at e1
 split at e1
 ·rename_i o k3 Qbe
  split at e1
  ·rename_i t x hop
   split at e1
   ·rename_i g s by' z hg hi
    split at e1
    ·rename_i id kk i0 off hx
     have fin:∀ {av':AV},(∀ (a:Act) (C:Qq),Sim X st a C->∃ v,(execOp a.eval o).run X.P C.w=.ok (.value v) C.w/\Zj C.w (C.ok X) C.μ av' v)->av'=av->o.dst=dst->k3=k2->AK X f k Q st:=by
      rintro av' hv rfl rfl rfl
      refine Qd6 Qbe h fun a C hC=>?_
      obtain ⟨v,hr,hav⟩:=hv a C hC
      exact ⟨v,C,st,hr,hC,_,e3,hav⟩
     have load:∀ {C:Qq} {b:Nat} {cs:Array Value} {ty:TypeId} {vs:List Value} {a:Act},a.eval x=.pointer (some ⟨b,i0 * kk+off,none⟩)->C.w.heap[b]? = some (.cells cs ty (0,0)) ->
       (∀ (j:Nat) v,vs[j]? = some v->cs[i0 * kk+j]? = some v)->off+s<=vs.length->∀ v,(g=false->vs[off]? = some v) ->
       (execOp a.eval o).run X.P C.w=.ok (.value (if g then .agg ((vs.drop off).take s).toArray else v)) C.w:=by
      intro C b cs ty vs a hu hh hm hle v hv
      have hm2:∀ (j:Nat) v,vs[off+j]? = some v->C.w.cell? ⟨b,i0 * kk+off+j,none⟩=some v:=by
       intro j v hj
       rw [cell_of_row _ _ _ _ _ _ hh,Nat.add_assoc]
       exact hm _ _ hj
      have:(loadVar t ⟨b,i0 * kk+off,none⟩).run X.P C.w=.ok (if g then .agg ((vs.drop off).take s).toArray else v) C.w:=by
       cases g with
       | true=>exact Qf5 hT (w:=C.w) hg hi ((vs.drop off).take s) (fun _=>by simp;omega) (fun j v hj=>hm2 j v (Qka hj)) v (by simp)
       | false=>exact Qf5 hT (w:=C.w) hg hi (vs.drop off) (by simp) (fun j v hj=>hm2 j v (by simpa using hj)) v (fun _=>by simpa using hv rfl)
      simp only [execOp,hop,hu,Instr.loadAt,Instr.sureAddr,Sem.run_bind,Sem.run_pure,Result.andThen_ok,this]
     split at e1
     ·rename_i fz k9 ty n0 gg Qg1
      cases hb:(Nat.beq kk k9 && Nat.ble (off+s) (gg i0).length) with
      | false=>rw [hb] at e1;cases e1
      | true=>
       rw [hb] at e1
       simp only [Bool.and_eq_true] at hb
       have hkk:=Nat.eq_of_beq_eq_true hb.1
       subst hkk
       have hle:=Nat.le_of_ble_eq_true hb.2
       cases g with
       | true=>
        simp only [cond_true,Option.some.injEq,Prod.mk.injEq] at e1
        obtain ⟨q1,q2,q3,rfl,rfl⟩:=e1
        refine fin ?_ q1 q2 q3
        intro a C hC
        obtain ⟨b,hμ,hu⟩:=(hC.val _ _ hx).Qh8
        obtain ⟨cs,vs,r1,r2,r3,r4,r5⟩:=hC.rel.rel id _ _ hμ (by rw [hC.rows];exact Qg1)
        have hv:=r4 i0 h1
        exact ⟨_,load hu r1 (fun j v hj=>r5 i0 j v h1 hj) (by rw [<- hv.length];exact hle) undef (by simp),.d (.agg ((hv.drop off).take s))⟩
       | false=>
        simp only [cond_true,cond_false,Option.map_eq_some_iff,Prod.mk.injEq] at e1
        obtain ⟨y,hy,q1,q2,q3,rfl,rfl⟩:=e1
        refine fin ?_ q1 q2 q3
        intro a C hC
        obtain ⟨b,hμ,hu⟩:=(hC.val _ _ hx).Qh8
        obtain ⟨cs,vs,r1,r2,r3,r4,r5⟩:=hC.rel.rel id _ _ hμ (by rw [hC.rows];exact Qg1)
        have hv:=r4 i0 h1
        obtain ⟨v,f1,f2,_⟩:=hv.at_ hy
        exact ⟨_,load hu r1 (fun j v hj=>r5 i0 j v h1 hj) (by rw [<- hv.length];exact hle) v (fun _=>f1),.d f2⟩
     ·rename_i k9 ty n0 gg Qg1
      cases hb:(Nat.beq kk k9 && Nat.ble (off+s) (gg i0).length) with
      | false=>rw [hb] at e1;cases e1
      | true=>
       rw [hb] at e1
       simp only [Bool.and_eq_true] at hb
       have hkk:=Nat.eq_of_beq_eq_true hb.1
       subst hkk
       have hle:=Nat.le_of_ble_eq_true hb.2
       cases g with
       | true=>
        simp only [cond_true,Option.some.injEq,Prod.mk.injEq] at e1
        obtain ⟨q1,q2,q3,rfl,rfl⟩:=e1
        refine fin ?_ q1 q2 q3
        intro a C hC
        obtain ⟨b,hμ,hu⟩:=(hC.val _ _ hx).Qh8
        obtain ⟨cs,vs,r1,r2,r3,r4,r5⟩:=hC.rel.rel id _ _ hμ (by rw [hC.rows];exact Qg1)
        have hv:=r4 i0 h1
        exact ⟨_,load hu r1 (fun j v hj=>r5 i0 j v h1 hj) (by rw [<- hv.length];exact hle) undef (by simp),Qnq ((hv.drop off).take s)⟩
       | false=>
        simp only [cond_true,cond_false,Option.map_eq_some_iff,Prod.mk.injEq] at e1
        obtain ⟨y,hy,q1,q2,q3,rfl,rfl⟩:=e1
        refine fin ?_ q1 q2 q3
        intro a C hC
        obtain ⟨b,hμ,hu⟩:=(hC.val _ _ hx).Qh8
        obtain ⟨cs,vs,r1,r2,r3,r4,r5⟩:=hC.rel.rel id _ _ hμ (by rw [hC.rows];exact Qg1)
        have hv:=r4 i0 h1
        obtain ⟨v,f1,f2,_⟩:=hv.at_ hy
        exact ⟨_,load hu r1 (fun j v hj=>r5 i0 j v h1 hj) (by rw [<- hv.length];exact hle) v (fun _=>f1),f2⟩
     cases e1
    cases e1
   cases e1
  cases e1
 cases e1
theorem Qjl (hT:Qw X.P T) (S:List Nat) {i n:Nat} (h1:i < n)
  (e:(Wea T st k).bind (fun r=>(st.put r.2.1 r.1).map fun s=>(r.2.2.1,s.only S,r.2.2.2))=some (k',st',i,n)) (h:AK X f k' Q st'):AK X f k Q st:=by
 obtain ⟨r,e1,e2⟩:=Option.bind_eq_some_iff.1 e
 obtain ⟨s,e3,e4⟩:=Option.map_eq_some_iff.1 e2
 simp only [Prod.mk.injEq] at e4
 obtain ⟨rfl,rfl,e5⟩:=e4
 exact Qf8 hT h1 (by rw [e1,Option.bind_some,e3,Option.map_some,e5]) (Qdh S h)
inductive Qre (rows:List Row) (k:Nat):AV->Nat->(Nat->List DV)->Prop
 | own {id m:Nat} {fz:Bool} {e:TypeId} {gs:Nat->List DV} (h:rows[id]? = some (.flat fz k e m gs)):Qre rows k (.own id k 0 m) m gs
 | sl {t:Bool} {m:Nat} {gs:Nat->List DV} (h:∀ i,i < m->(gs i).length=k):Qre rows k (.d (.sl t m gs)) m gs
theorem Qww {C:Qq} (h:Wt X C) {kk m:Nat} {x:AV} {gs:Nat->List DV} (p:Qre C.rows kk x m gs) {u:Value} (hu:Zj C.w (C.ok X) C.μ x u):∃ news,Source C X kk m gs u news:=by
 have build:∀ (A:Option Addr) (c:Nat) (vs:Nat->List Value),u=.slice A m c->(∀ i,i < m->(vs i).length=kk)->(∀ i,i < m->VRs C.w (C.ok X) (gs i) (vs i)) ->
   (0 < m->∃ b o,A=some ⟨b,o,none⟩/\∀ (i j:Nat) v,i < m->(vs i)[j]? = some v->C.w.cell? ⟨b,o+i * kk+j,none⟩=some v)->∃ news,Source C X kk m gs u news:=by
  intro A c vs h1 h2 h3 h4
  obtain ⟨xs,o1,o2,o3,o4⟩:=Qq8 h2
  refine ⟨xs,⟨A,c,h1,fun hm=>?_⟩,o1,fun i hi=>by rw [o3 i hi];exact h3 i hi,fun v hv=>?_⟩
  ·obtain ⟨b,o,rfl,hc⟩:=h4 hm
   refine ⟨_,rfl,fun j v hj=>?_⟩
   have hjl:j < m * kk:=by
    have:=(List.getElem?_eq_some_iff.1 hj).1
    omega
   have hk:0 < kk:=by
    rcases Nat.eq_zero_or_pos kk with e | e
    ·subst e;simp at hjl
    exact e
   have hi':j / kk < m:=Nat.div_lt_of_lt_mul (by rwa [Nat.mul_comm] at hjl)
   have hjj:j % kk < (vs (j / kk)).length:=by rw [h2 _ hi'];exact Nat.mod_lt _ hk
   have key:j / kk * kk+j % kk=j:=by rw [Nat.mul_comm];exact Nat.div_add_mod j kk
   have a1:=o2 (j / kk) (j % kk) _ hi' (List.getElem?_eq_getElem hjj)
   have a2:=hc (j / kk) (j % kk) _ hi' (List.getElem?_eq_getElem hjj)
   rw [key] at a1
   rw [hj] at a1
   rw [Nat.add_assoc,key] at a2
   rw [Qgx,a2,a1]
  obtain ⟨i,hi,hv⟩:=o4 v hv
  exact (h3 i hi).one v hv
 cases p with
 | own hr=>
  cases hu with
  | Qbj hμ=>exact build none 0 (fun _=>[]) rfl (fun i hi=>by omega) (fun i hi=>by omega) (fun hm=>by omega)
  | own hμ hh hs hn hc=>
   obtain ⟨cs,vs,r1,r2,r3,r4,r5⟩:=h.rel _ _ _ hμ hr
   rw [Nat.zero_mul] at build ⊢
   refine build _ _ vs rfl r3 r4 (fun hm=>⟨_,0,rfl,fun i j v hi hj=>?_⟩)
   rw [cell_of_row _ _ _ _ _ _ r1,Nat.zero_add]
   exact r5 i j v hi hj
 | sl hl=>
  cases hu with
  | d hu=>
   cases hu with
   | sl0=>exact build _ _ (fun _=>[]) rfl (fun i hi=>by omega) (fun i hi=>by omega) (fun hm=>by omega)
   | sl kq vs g0 gc gok gl gr gm=>
    have hkq:kq=kk:=by
     have a1:=(gr 0 g0).length
     rw [gl 0 g0,hl 0 g0] at a1
     exact a1.symm
    subst hkq
    exact build _ _ vs rfl gl gr (fun hm=>⟨_,_,rfl,gm⟩)
def Qnd (st:St) (k:List Item):Option (Nat × Nat × Nat × AV × TypeId × Option Tmp × List Item):=
 match Qde st k with
 | some (o,k')=>
  match o.op with
  | .call c=>
   match c.callee,c.args.toList,c.argTypes.toList with
   | .builtin .append,[s,x],[t,t']=>
    match valOf st.tm s,valOf st.tm x with
    | some (.own id kk 0 n),some av=>bif Nat.beq t t' then some (id,kk,n,av,t,o.dst,k') else none
    | _,_=>none
   | _,_,_=>none
  | _=>none
 | none=>none
theorem Qm9 (hT:Qw X.P T) {id kk n n' m by':Nat} {x:AV} {t e:TypeId} {z:List Value} {dst:Option Tmp} {g gs:Nat->List DV} (g':Nat->List DV)
  (e1:Qnd st k=some (id,kk,n,x,t,dst,k')) (hr:st.rows[id]? = some (.flat false kk e n g)) (src:Qre st.rows kk x m gs) (ht:T.Qbn.lookup t=some e) (hi:T.info.lookup e=some (kk,by',z))
  (hz:Nat.beq z.length kk=true) (hk:Nat.blt 0 kk=true) (hn:n'=n+m) (hb:(n+m) * by'<=140737488355328) (Qkx:n+m<=9223372036854775807) (h1:∀ i,i < n->g' i=g i) (h2:∀ i,i < m->g' (n+i)=gs i)
  (Qat:St.put { st with rows:=st.rows.set id .gone ++ [.flat false kk e n' g'] } dst (.own st.rows.length kk 0 n')=some st') (h:AK X f k' Q st'):AK X f k Q st:=by
 subst hn
 unfold Qnd at e1
 split at e1
 ·rename_i o k3 Qbe
  split at e1
  ·rename_i c hop
   split at e1
   ·rename_i sx x0 t0 t1 Qmu Qb5 Qy9
    split at e1
    ·rename_i id0 kk0 n0 av hs hx
     cases hb2:Nat.beq t0 t1 with
     | false=>rw [hb2] at e1;cases e1
     | true=>
      rw [hb2] at e1
      have hb2:=Nat.eq_of_beq_eq_true hb2
      simp only [cond_true,Option.some.injEq,Prod.mk.injEq] at e1
      obtain ⟨rfl,rfl,rfl,rfl,rfl,rfl,rfl⟩:=e1
      subst hb2
      refine Qd6 Qbe h fun a C hC=>?_
      have Qd3:=hC.rows
      rw [<- Qd3] at hr src
      obtain ⟨news,Qmw⟩:=Qww hC.rel src (hC.val _ _ hx)
      obtain ⟨v',C',q1,q2,q3,q4,q5⟩:=Qsl hT hC.rel (ty:=o.type) hr (hC.val _ _ hs) ht hi (Nat.eq_of_beq_eq_true hz) (Nat.le_of_ble_eq_true hk) Qmw hb Qkx h1 h2
      refine ⟨v',C',_, ?_,hC.Qds q4 q3,.own C.rows.length kk0 0 (n0+m), ?_,q5⟩
      ·have ha:c.args=#[sx,x0]:=by rw [<- Array.toArray_toList (xs:=c.args),Qb5]
       have hty:c.argTypes=#[t0,t0]:=by rw [<- Array.toArray_toList (xs:=c.argTypes),Qy9]
       simp only [execOp,hop,resolve,Qmu,ha,hty,Sem.run_bind,Sem.run_pure,Result.andThen_ok,invoke,builtin,List.map_toArray,List.map_cons,List.map_nil]
       rw [q1]
       rfl
      rw [q2,Qd3]
      exact Qat
    cases e1
   cases e1
  cases e1
 cases e1
theorem Qeq {α:Type} (hT:Qw X.P T) {id kk id2 by':Nat} {t e e2:TypeId} {z:List Value} {dst:Option Tmp} {fz:Bool} (enc:α->List DV) (d:α) (xs:List α) (x:α) (S:List Nat)
  (e1:Qnd st k=some (id,kk,xs.length,.own id2 kk 0 1,t,dst,k')) (hr:st.rows[id]? = some (.flat false kk e xs.length (vec enc d xs))) (hr2:st.rows[id2]? = some (.flat fz kk e2 1 (fun j=>[enc x].getD j [])))
  (ht:T.Qbn.lookup t=some e) (hi:T.info.lookup e=some (kk,by',z)) (hz:Nat.beq z.length kk=true) (hk:Nat.blt 0 kk=true) (hb:(xs.length+1) * by'<=140737488355328) (Qkx:xs.length+1<=9223372036854775807)
  (Qat:(St.put { st with rows:=st.rows.set id .gone ++ [.flat false kk e (xs ++ [x]).length (vec enc d (xs ++ [x]))] } dst (.own st.rows.length kk 0 (xs ++ [x]).length)).map (St.only S)=some st') (h:AK X f k' Q st'):AK X f k Q st:=by
 obtain ⟨s0,h1,rfl⟩:=Option.map_eq_some_iff.1 Qat
 exact Qm9 hT (vec enc d (xs ++ [x])) e1 hr (.own hr2) ht hi hz hk (by simp) hb Qkx Wai Wah h1 (Qdh S h)
theorem Wfc (i:Nat) (kk:Nat) (ty:TypeId) (g:Nat->List DV) (tm':List (Nat × AV)) (e:st.tm.lookup i=some (.d (.v (.slice none 0 0)))) (ht:tm'=(i,.own st.rows.length kk 0 0) :: st.tm)
  (h:AK X f k Q { nt:=st.nt,tm:=tm',rows:=st.rows ++ [.flat false kk ty 0 g] }):AK X f k Q st:=by
 subst ht
 intro a C hC b cs hb hk
 have hr:Qbg C.w ((C.Qcl (.flat false kk ty 0 g)).ok X) (C.Qcl (.flat false kk ty 0 g)).μ none (.flat false kk ty 0 g):=rfl
 have hv:=Wt.Qcl hC.rel hr
 have ev:=Ev.Qcl hC.rel (.flat false kk ty 0 g)
 refine h a (C.Qcl (.flat false kk ty 0 g)) ⟨hv,by simp [Qq.Qcl,hC.rows],hC.defers,hC.nt,fun j av e'=>?_⟩ b cs hb hk
 simp only [List.lookup_cons] at e'
 split at e'
 ·rename_i hj
  have hj:j=i:=by simpa using hj
  subst hj
  injection e' with e'
  subst e'
  obtain ⟨v,h1,h2⟩:=hC.tm j _ e
  have:=h2.Qbt
  subst this
  refine ⟨_,h1,.Qbj ?_⟩
  simp [Qq.Qcl,<- hC.rows,<- hC.rel.len]
 obtain ⟨v,h1,h2⟩:=hC.tm j av e'
 exact ⟨v,h1,ev.avr h2⟩
end
end Go.Sy
