/- Parts of own rows; what slices.Delete does at the end of a row. -/
import Derived.Test.YtdhmflhncidjaaaGreatSyQ
import Derived.Test.YtdhmflhncidjaaaGreatSyArr
set_option linter.unusedVariables false
set_option linter.unusedSimpArgs false
namespace Go.Sy
section
variable {X:Ctx} {T:Tab} {f:FuncId} {k k':List Item} {Q:Frame->Frame->Qq->Prop} {st st':St}
theorem Qtr (hT:Qw X.P T) {id s off n:Nat} {l h:Option (IntKind × Int)} {dst:Option Tmp} (e:sliceAt T st k=some (.own id s off n,s,l,h,dst,k')) (h0:0<=loN l) (h1:loN l<=hiN n h) (h2:hiN n h<=n) (hl:(loN l).toNat < n\/loN l=0)
  (Qat:St.put st dst (.own id s ((loN l).toNat+off) ((hiN n h).toNat - (loN l).toNat))=some st') (hh:AK X f k' Q st'):AK X f k Q st:=by
 rw [Nat.add_comm] at Qat
 obtain ⟨o,t,el,Qbe,rfl,hu,hs,hv⟩:=Qkj hT e
 refine Qd6 Qbe hh fun a C hC=>?_
 obtain ⟨v,hav,hex⟩:=hv a C hC
 have key:∃ A c,v=.slice A n c/\n<=c/\Zj C.w (C.ok X) C.μ (.own id s (off+(loN l).toNat) ((hiN n h).toNat - (loN l).toNat)) (sliced A (loN l).toNat (hiN n h).toNat c s):=by
  cases hav with
  | Qbj hμ=>
   refine ⟨_,_,rfl,Nat.le_refl _, ?_⟩
   have e1:(loN l).toNat=0:=by omega
   have e2:(hiN 0 h).toNat=0:=by omega
   rw [e1,e2]
   exact .Qbj hμ
  | @own _ _ _ _ b c cs ty hμ hh hs hn hc=>
   refine ⟨_,_,rfl,hn, ?_⟩
   have hle:(loN l).toNat<=c:=by omega
   have e2:sliced (some ⟨b,off * s,none⟩) (loN l).toNat (hiN n h).toNat c s=.slice (some ⟨b,(off+(loN l).toNat) * s,none⟩) ((hiN n h).toNat - (loN l).toNat) (c - (loN l).toNat):=by
    unfold sliced
    by_cases hq:c=(loN l).toNat
    ·rw [if_pos hq]
     have hz:(loN l).toNat=0:=by omega
     simp [hz]
    rw [if_neg hq]
    simp [Addr.add,Nat.add_mul]
    try (intro h;exact h.symm)
   rw [e2]
   refine .own hμ hh ?_ (by omega) (by omega)
   rw [<- hs]
   congr 1
   omega
 obtain ⟨A,c,rfl,hc,hvr⟩:=key
 refine ⟨_,C,st, ?_,hC,_,Qat,hvr⟩
 rw [hex]
 have:=Qlr C.w hu (hs C.w) A n c l h hc h0 h1 h2
 rw [Sem.run_bind,this]
 rfl
theorem Wfh (hT:Qw X.P T) (S:List Nat) {id s off n:Nat} {l h:Option (IntKind × Int)} {dst:Option Tmp} (e:sliceAt T st k=some (.own id s off n,s,l,h,dst,k')) (h0:0<=loN l) (h1:loN l<=hiN n h) (h2:hiN n h<=n) (hl:(loN l).toNat < n\/loN l=0)
  (Qat:(St.put st dst (.own id s ((loN l).toNat+off) ((hiN n h).toNat - (loN l).toNat))).map (St.only S)=some st') (hh:AK X f k' Q st'):AK X f k Q st:=by
 obtain ⟨s0,hp,rfl⟩:=Option.map_eq_some_iff.1 Qat
 exact Qtr hT e h0 h1 h2 hl hp (Qdh S hh)
theorem Qts (hT:Qw X.P T) {tg:Bool} {g:Nat->List DV} {id s off n:Nat} {l h:Option (IntKind × Int)} {dst:Option Tmp} (e:sliceAt T st k=some (.own id s off n,s,l,h,dst,k')) (h0:0<=loN l) (h1:loN l=hiN n h) (h2:hiN n h<=n)
  (Qat:St.put st dst (.d (.sl tg 0 g))=some st') (hh:AK X f k' Q st'):AK X f k Q st:=by
 obtain ⟨o,t,el,Qbe,rfl,hu,hs,hv⟩:=Qkj hT e
 refine Qd6 Qbe hh fun a C hC=>?_
 obtain ⟨v,hav,hex⟩:=hv a C hC
 have key:∃ A c,v=.slice A n c/\n<=c:=by
  cases hav with
  | Qbj hμ=>exact ⟨_,_,rfl,Nat.le_refl _⟩
  | own hμ hh hs hn hc=>exact ⟨_,_,rfl,hn⟩
 obtain ⟨A,c,rfl,hc⟩:=key
 refine ⟨sliced A (loN l).toNat (hiN n h).toNat c s,C,st, ?_,hC,_,Qat, ?_⟩
 ·rw [hex]
  have:=Qlr C.w hu (hs C.w) A n c l h hc h0 (by omega) h2
  rw [Sem.run_bind,this]
  rfl
 have hz:(hiN n h).toNat - (loN l).toNat=0:=by omega
 unfold sliced
 rw [hz]
 exact .d .sl0
theorem Wfi (hT:Qw X.P T) (S:List Nat) {tg:Bool} {g:Nat->List DV} {id s off n:Nat} {l h:Option (IntKind × Int)} {dst:Option Tmp} (e:sliceAt T st k=some (.own id s off n,s,l,h,dst,k')) (h0:0<=loN l) (h1:loN l=hiN n h) (h2:hiN n h<=n)
  (Qat:(St.put st dst (.d (.sl tg 0 g))).map (St.only S)=some st') (hh:AK X f k' Q st'):AK X f k Q st:=by
 obtain ⟨s0,hp,rfl⟩:=Option.map_eq_some_iff.1 Qat
 exact Qts hT e h0 h1 h2 hp (Qdh S hh)
theorem Wi0 (hT:Qw X.P T) {id kk n m by':Nat} {tg:Bool} {g:Nat->List DV} {t e:TypeId} {z:List Value} {dst:Option Tmp}
  (e1:Qnd st k=some (id,kk,n,.d (.sl tg 0 g),t,dst,k')) (ht:T.Qbn.lookup t=some e) (hi:T.info.lookup e=some (kk,by',z)) (Qat:St.put st dst (.own id kk 0 n)=some st') (h:AK X f k' Q st'):AK X f k Q st:=by
 unfold Qnd at e1
 split at e1
 ·rename_i o k3 Qbe
  split at e1
  ·rename_i c hop
   split at e1
   ·rename_i sx x0 t0 t1 Qmu Qb5 Qy9
    split at e1
    ·rename_i id0 kk0 n0 av hs hx
     cases hb2:Nat.beq t0 t1 with
     | false=>rw [hb2] at e1;cases e1
     | true=>
      rw [hb2] at e1
      have hb2:=Nat.eq_of_beq_eq_true hb2
      simp only [cond_true,Option.some.injEq,Prod.mk.injEq] at e1
      obtain ⟨rfl,rfl,rfl,rfl,rfl,rfl,rfl⟩:=e1
      subst hb2
      obtain ⟨i0,hi0,hs0,hb0,hz0⟩:=hT.infoAt hi
      have hu:=hT.slice ht
      refine Qd6 Qbe h fun a C hC=>?_
      have h1:=hC.val _ _ hs
      have h2:=hC.val _ _ hx
      have hx0:∃ A c,a.eval x0=.slice A 0 c:=by
       generalize a.eval x0=q at h2
       cases h2 with
       | d h2=>
        generalize h0:(0:Nat)=zz at h2
        cases h2 with
        | sl0=>exact ⟨_,_,rfl⟩
        | sl kq vs hn=>omega
      obtain ⟨A,c',hx0⟩:=hx0
      have Qcx:(Builtin.append_ #[t0,t0] o.type #[a.eval sx,.slice A 0 c']).run X.P C.w=.ok (a.eval sx) C.w:=by
       generalize a.eval sx=u at h1
       generalize ho:(0:Nat)=off at h1
       cases h1 with
       | Qbj hμ=>cases A<;>simp [Builtin.append_,run_underlying hu,sizeOf,typeInfo,hi0,Builtin.lenOf,Builtin.firstCells,loadCells,loadCellsFrom]
       | own hμ hh hs' hn hc=>
        subst ho
        cases A<;>simp [Builtin.append_,run_underlying hu,sizeOf,typeInfo,hi0,Builtin.lenOf,Builtin.firstCells,loadCells,loadCellsFrom,hn,storeCells]
      refine ⟨a.eval sx,C,st, ?_,hC,_,Qat,h1⟩
      have ha:c.args=#[sx,x0]:=by rw [<- Array.toArray_toList (xs:=c.args),Qb5]
      have hty:c.argTypes=#[t0,t0]:=by rw [<- Array.toArray_toList (xs:=c.argTypes),Qy9]
      simp only [execOp,hop,resolve,Qmu,ha,hty,Sem.run_bind,Sem.run_pure,Result.andThen_ok,invoke,builtin,List.map_toArray,List.map_cons,List.map_nil,hx0]
      rw [Qcx]
      rfl
    cases e1
   cases e1
  cases e1
 cases e1
def Qz7 (T:Tab) (st:St) (k:List Item):Option (AV × Nat × (IntKind × Int) × (IntKind × Int) × (IntKind × Int) × Option Tmp × List Item):=
 match Qde st k with
 | some (o,k')=>
  match o.op with
  | .slice t x (some lo) (some hi) (some mx)=>
   match valOf st.tm x,T.Qbn.lookup t,valOf st.tm lo,valOf st.tm hi,valOf st.tm mx with
   | some av,some e,some (.d (.v (.int kl l))),some (.d (.v (.int kh h))),some (.d (.v (.int km m)))=>
    match T.info.lookup e with
    | some (s,_,_)=>some (av,s,(kl,l),(kh,h),(km,m),o.dst,k')
    | _=>none
   | _,_,_,_,_=>none
  | _=>none
 | none=>none
theorem Wfe (hT:Qw X.P T) {id s off n:Nat} {l h m:IntKind × Int} {d:Tmp} (e:Qz7 T st k=some (.own id s off n,s,l,h,m,some d,k')) (h0:0<=l.2) (h1:l.2<=h.2) (h2:h.2<=m.2) (h3:m.2<=n)
  (hd:st.tm.all (fun p=>!Nat.beq p.1 d)=true) (hb:Nat.blt d st.nt=true) (hh:AK X f k' Q st):AK X f k Q st:=by
 unfold Qz7 at e
 split at e
 ·rename_i o k3 Qbe
  split at e
  ·rename_i t x lo hi mx hop
   split at e
   ·rename_i av el kl l' kh h' km m' hx hs hl hhi hm
    split at e
    ·rename_i s' b' z' hi1
     simp only [Option.some.injEq,Prod.mk.injEq] at e
     obtain ⟨rfl,rfl,rfl,rfl,rfl,Qo7,rfl⟩:=e
     intro a C hC b cs hbf hk
     have hav:=hC.val _ _ hx
     have key:∃ A c,a.eval x=.slice A n c/\n<=c:=by
      generalize a.eval x=u at hav
      cases hav with
      | Qbj hμ=>exact ⟨_,_,rfl,Nat.le_refl _⟩
      | own hμ hh hs hn hc=>exact ⟨_,_,rfl,hn⟩
     obtain ⟨A,c,hv,hc⟩:=key
     have he:X.P.elem t=el:=by simp [Program.elem,hT.slice hs]
     have ht:X.P.underlying t=some (.slice (X.P.elem t)):=by rw [he];exact hT.slice hs
     have Qcx:∃ u,(Instr.sliceAt t (.slice A n c) (some (.int kl l')) (some (.int kh h')) (some (.int km m'))).run X.P C.w=.ok u C.w:=by
      rw [run_sliceAt_slice C.w t _ _ _ _ ht]
      rw [run_slice_lhm C.w t A n c ht kl kh km l' h' m' h0 h1 h2 (by simp only at h3;omega),he,hT.size hi1 C.w]
      exact ⟨_,rfl⟩
     obtain ⟨u,Qcx⟩:=Qcx
     have e1:=(hC.val _ _ hl).Qbt
     have e2:=(hC.val _ _ hhi).Qbt
     have e3:=(hC.val _ _ hm).Qbt
     have hex:(execOp a.eval o).run X.P C.w=.ok (.value u) C.w:=by
      simp only [execOp,hop,hv,Option.map_some,e1,e2,e3,Sem.run_bind,Qcx,Result.andThen_ok]
      rfl
     unfold Qde at Qbe
     split at Qbe
     ·rename_i ops i rest k0
      split at Qbe
      ·rename_i o' ho
       split at Qbe
       ·rename_i hg
        cases hdf:Qk0 o'.op with
        | true=>rw [hdf] at Qbe;cases Qbe
        | false=>
         rw [hdf] at Qbe
         simp only [cond_false,Option.some.injEq,Prod.mk.injEq] at Qbe
         obtain ⟨rfl,rfl⟩:=Qbe
         have hs1:=Qe0 (b:=b) (k:=k0) (cs:=cs) (rest:=rest) ho (by intro c' hc';rw [hc'] at hop;cases hop) (Qdv hC hg) hex
         rw [Qo7] at hs1
         have hlt:d < st.nt:=Nat.le_of_ble_eq_true hb
         have Qhy:Sim X st (a.put (some d) u) C:=by
          refine ⟨hC.rel,hC.rows,hC.defers,by simpa [Act.put] using hC.nt,fun i av e=>?_⟩
          obtain ⟨w,w1,w2⟩:=hC.tm i av e
          have hne:d≠i:=by
           rintro rfl
           have:=List.all_eq_true.1 hd _ (Qce e)
           simp at this
          exact ⟨w,by simp [Act.put,Array.getElem?_setIfInBounds,hne,w1],w2⟩
         obtain ⟨C',fr,q,t1,t2⟩:=hh _ C Qhy b cs hbf hk
         exact ⟨C',fr,q,.head hs1 t1,t2⟩
       cases Qbe
      cases Qbe
     cases Qbe
    cases e
   cases e
  cases e
 cases e
def Qyj (T:Tab) (st:St):List Item->Option (Nat × Nat × Nat × Nat × IntKind × Int × IntKind × Int × Tmp × List Item)
 | .inRegion ops (i :: j :: rest) :: k=>
  match ops[i]?,ops[j]? with
  | some o,some p=>
   match o.op,o.dst,o.guard,p.op,p.dst,p.guard with
   | .slice t x (some lo) (some hi) none,some d,none,.call c,none,none=>
    match c.callee,c.args.toList,c.argTypes.toList with
    | .builtin .clear,[.tmp d'],[t']=>
     match valOf st.tm x,valOf st.tm lo,valOf st.tm hi,T.Qbn.lookup t,T.Qbn.lookup t' with
     | some (.own id s off n),some (.d (.v (.int kk l))),some (.d (.v (.int kh h))),some e,some e'=>
      match T.info.lookup e with
      | some (s',_,z)=>bif Nat.beq d d' && Nat.beq e e' && Nat.beq s s' && Nat.beq z.length s && z.all (·.oneCell') && Nat.blt d st.nt then some (id,s,off,n,kk,l,kh,h,d,.inRegion ops rest :: k) else none
      | none=>none
     | _,_,_,_,_=>none
    | _,_,_=>none
   | _,_,_,_,_,_=>none
  | _,_=>none
 | _=>none
theorem We9 (hT:Qw X.P T) (S:List Nat) {id s off n N:Nat} {kk kh:IntKind} {l h2:Int} {d:Tmp} {ty:TypeId} {g:Nat->List DV} (e:Qyj T st k=some (id,s,off,n,kk,l,kh,h2,d,k')) (hr:st.rows[id]? = some (.flat false s ty N g))
  (h0:0<=l) (h1:l<=h2) (hh2:h2<=N) (hnN:n<=N) (hn0:0 < N) (ho:off=0) (hs0:0 < s) (hS:S.contains d=false) (hst:St.only S { st with rows:=st.rows.set id (.flat false s ty l.toNat g) }=st') (h:AK X f k' Q st'):AK X f k Q st:=by
 subst ho
 unfold Qyj at e
 split at e
 ·rename_i ops i j rest k0
  split at e
  ·rename_i o p hoi hpj
   split at e
   ·rename_i t x lo hi dd c hop Qo7 hgd Qy3 Wd3 Wj2
    split at e
    ·rename_i d' t' Qmu Qb5 Wdu
     split at e
     ·rename_i id' s1 off' n' kk' l' kh' h' el el' hx hlo hhi hsl Qy8
      split at e
      ·rename_i s' by' z Wdz
       cases hb:(Nat.beq dd d' && Nat.beq el el' && Nat.beq s1 s' && Nat.beq z.length s1 && z.all (·.oneCell') && Nat.blt dd st.nt) with
       | false=>rw [hb] at e;cases e
       | true=>
        rw [hb] at e
        simp only [cond_true,Option.some.injEq,Prod.mk.injEq] at e
        obtain ⟨rfl,rfl,rfl,rfl,rfl,rfl,rfl,rfl,rfl,rfl⟩:=e
        simp only [Bool.and_eq_true] at hb
        obtain ⟨⟨⟨⟨⟨b1,b2⟩,b3⟩,b4⟩,b5⟩,b6⟩:=hb
        have b1:=Nat.eq_of_beq_eq_true b1
        have b2:=Nat.eq_of_beq_eq_true b2
        have b3:=Nat.eq_of_beq_eq_true b3
        have b4:=Nat.eq_of_beq_eq_true b4
        subst b1
        subst b2
        subst b3
        intro a C hC b cs hb hk
        have hav:=hC.val _ _ hx
        have hlv:=(hC.val _ _ hlo).Qbt
        have hhv:=(hC.val _ _ hhi).Qbt
        obtain ⟨xv,hxv⟩:∃ xv,a.eval x=xv:=⟨_,rfl⟩
        rw [hxv] at hav
        -- the first operation
        have first:∀ (A:Option Addr) (cc:Nat),xv=.slice A n' cc->h'<=(cc:Int)->(execOp a.eval o).run X.P C.w=.ok (.value (sliced A l'.toNat h'.toNat cc s1)) C.w:=by
         intro A cc hA hc
         have he:X.P.elem t=el:=by simp [Program.elem,hT.slice hsl]
         have ht:X.P.underlying t=some (.slice (X.P.elem t)):=by rw [he];exact hT.slice hsl
         have Qcx:(Instr.sliceAt t (.slice A n' cc) (some (.int kk' l')) (some (.int kh' h')) none).run X.P C.w=.ok (sliced A l'.toNat h'.toNat cc s1) C.w:=by
          rw [run_sliceAt_slice C.w t _ _ _ _ ht,run_slice_lh C.w t A n' cc ht kk' kh' l' h' h0 h1 hc,he,hT.size Wdz C.w]
          rfl
         simp only [execOp,hop,hxv,hA,hlv,hhv,Option.map_some,Option.map_none]
         rw [Sem.run_bind,Qcx]
         rfl
        have hw1:Region.wanted o (yielded ops a.tmps)=true:=by simp [Region.wanted,hgd]
        have hw2:∀ a':Act,Region.wanted p (yielded ops a'.tmps)=true:=fun a'=>by simp [Region.wanted,Wj2]
        have key:∃ v1 C',(execOp a.eval o).run X.P C.w=.ok (.value v1) C.w/\v1.oneCell'=true/\(Builtin.clear_ #[t'] p.type #[v1]).run X.P C.w=.ok (.tuple #[]) C'.w/\C'.rows=C.rows.set id' (.flat false s1 ty l'.toNat g)/\Wt X C'/\Ev X C C':=by
         have hrC:C.rows[id']? = some (.flat false s1 ty N g):=by rw [hC.rows];exact hr
         have weak:Wt X ⟨C.μ,C.rows.set id' (.flat false s1 ty l'.toNat g),C.w⟩/\Ev X C ⟨C.μ,C.rows.set id' (.flat false s1 ty l'.toNat g),C.w⟩:=by
          refine Qpf hC.rel hrC (fun h=>h) (by simp) (fun ok ob hb=>?_)
          cases ob with
          | none=>simp only [Qbg] at hb ⊢;omega
          | some bb=>
           obtain ⟨cs',vs,q1,q2,q3,q4,q5⟩:=hb
           exact ⟨cs',vs,q1,Nat.le_trans (Nat.mul_le_mul_right _ (by omega)) q2,fun i hi=>q3 i (by omega),fun i hi=>q4 i (by omega),fun i j v hi=>q5 i j v (by omega)⟩
         have quiet:∀ (A:Option Addr) (cc:Nat),(Builtin.clear_ #[t'] p.type #[.slice A 0 cc]).run X.P C.w=.ok (.tuple #[]) C.w:=by
          intro A cc
          cases A<;>simp [Builtin.clear_,run_underlying (hT.slice Qy8)]
         generalize hNN:n'=N' at hav
         cases hav with
         | Qbj hμ=>
          have:=hC.rel.rel id' _ _ hμ hrC
          simp only [Qbg] at this
          omega
         | @own _ _ _ _ b0 cc cs0 ty0 hμ hh hsz hn hc=>
          subst hNN
          have Qvb:N<=cc:=by
           obtain ⟨csr,vs,r1,r2,r3,r4,r5⟩:=hC.rel.rel id' _ _ hμ hrC
           have:csr=cs0:=by
            have:=r1.symm.trans hh
            injection this with this
            injection this with a1 a2 a3
           subst this
           rw [<- hsz,Nat.zero_add] at r2
           exact Nat.le_of_mul_le_mul_right r2 hs0
          have hf:=first _ cc rfl (by omega)
          by_cases hln:h'.toNat - l'.toNat=0
          ·refine ⟨_,_,hf,rfl, ?_,rfl,weak.1,weak.2⟩
           unfold sliced
           rw [hln]
           exact quiet _ _
          have hne:¬ cc=l'.toNat:=by omega
          have hv1:sliced (some ⟨b0,0 * s1,none⟩) l'.toNat h'.toNat cc s1=.slice (some ⟨b0,l'.toNat * s1,none⟩) (h'.toNat - l'.toNat) (cc - l'.toNat):=by
           unfold sliced
           rw [if_neg hne]
           simp [Addr.add]
           try (intro h;exact h.symm)
          rw [hv1] at hf
          obtain ⟨csr,vs,r1,r2,r3,r4,r5⟩:=hC.rel.rel id' _ _ hμ hrC
          have hcs:csr=cs0/\ty=ty0:=by
           have:=r1.symm.trans hh
           injection this with this
           injection this with a1 a2 a3
           exact ⟨a1,a2⟩
          obtain ⟨rfl,rfl⟩:=hcs
          obtain ⟨zv,z1,z2⟩:=hT.zero Wdz C.w
          have hzs:zv.cells.size=s1:=by rw [z2];simpa using b4
          let us:=(Builtin.zeroCells zv.cells (h'.toNat - l'.toNat)).toList
          have hul:us.length=(h'.toNat - l'.toNat) * s1:=by simp [us,Builtin.zeroCells,hzs]
          have hsum:l'.toNat * s1+(h'.toNat - l'.toNat) * s1=h'.toNat * s1:=by rw [<- Nat.add_mul];congr 1;omega
          have hNs:h'.toNat * s1<=N * s1:=Nat.mul_le_mul_right _ (by omega)
          have Qio:∀ v∈us,v.oneCell'=true:=Qp0 (fun v hv=>List.all_eq_true.1 b5 v (by rw [z2] at hv;simpa using hv)) (by omega)
          have Qqr:=run_storeCells_at X.P b0 (l'.toNat * s1) ty us 0 csr C.w r1 (by rw [hul];omega) Qio
          have Qyt:(Builtin.clear_ #[t'] p.type #[.slice (some ⟨b0,l'.toNat * s1,none⟩) (h'.toNat - l'.toNat) (cc - l'.toNat)]).run X.P C.w=.ok (.tuple #[]) (C.w.setRow b0 (csr.toList.take (l'.toNat * s1+0) ++ us ++ csr.toList.drop (l'.toNat * s1+0+us.length)).toArray):=by
           obtain ⟨q,hq⟩:∃ q,h'.toNat - l'.toNat=q+1:=⟨h'.toNat - l'.toNat - 1,by omega⟩
           have Wj5:us=(Builtin.zeroCells zv.cells (q+1)).toList:=by simp only [us,hq]
           rw [Wj5] at Qqr ⊢
           rw [hq]
           simp [Builtin.clear_,run_underlying (hT.slice Qy8),z1,Qqr]
          have Qkz:(csr.toList.take (l'.toNat * s1+0) ++ us ++ csr.toList.drop (l'.toNat * s1+0+us.length)).toArray.size=csr.size:=by
           simp only [List.size_toArray,List.length_append,List.length_take,List.length_drop,Array.length_toList,hul]
           omega
          have tu:=Qgf (r':=.flat false s1 ty l'.toNat g) hC.rel hμ hrC rfl r1 Qkz
          have ev:=Ev.Yw hC.rel tu
          have hle:l'.toNat * s1<=h'.toNat * s1:=Nat.mul_le_mul_right _ (by omega)
          refine ⟨_,C.Yw id' (.flat false s1 ty l'.toNat g) (C.w.setRow b0 _),hf,rfl,Qyt,rfl,Wt.Yw hC.rel tu (.inl (by simp)) ?_,ev⟩
          refine ⟨_,vs,setRow_heap _ _ _ _ _ _ r1,by rw [Qkz];omega,fun i hi=>r3 i (by omega),fun i hi=>(r4 i (by omega)).mono ev.ok ev.same,fun i j v hi hj=>?_⟩
          have hjs:j < s1:=by
           have:=(List.getElem?_eq_some_iff.1 hj).1
           rwa [r3 i (by omega)] at this
          have hlt:i * s1+j < l'.toNat * s1:=by
           have:i * s1+s1<=l'.toNat * s1:=by rw [<- Nat.succ_mul];exact Nat.mul_le_mul_right _ hi
           omega
          have:=r5 i j v (by omega) hj
          rw [List.getElem?_toArray,Nat.add_zero,List.append_assoc,List.getElem?_append_left (by rw [List.length_take,Array.length_toList];omega),List.getElem?_take_of_lt hlt]
          simpa using this
        obtain ⟨v1,C',k1,k2,k3,k4,k5,k6⟩:=key
        have s1':=Qe0 (b:=b) (k:=k0) (cs:=cs) (rest:=j :: rest) hoi (by rw [hop];intro c' hc';cases hc') hw1 k1
        rw [Qo7] at s1'
        have Qat:St.put st (some dd) (.d (.v v1))=some { st with tm:=(dd,.d (.v v1)) :: st.tm }:=by
         simp only [St.put]
         rw [b6]
         rfl
        have Qhy:=hC.put Qat (v:=v1) (.d (.v k2))
        have Wjy:(execOp (a.put (some dd) v1).eval p).run X.P C.w=.ok (.value (.tuple #[])) C'.w:=by
         have hargs':c.args=#[.tmp dd]:=by rw [<- Array.toArray_toList (xs:=c.args),Qb5]
         have Qyr:c.argTypes=#[t']:=by rw [<- Array.toArray_toList (xs:=c.argTypes),Wdu]
         have hev:(a.put (some dd) v1).eval (.tmp dd)=v1:=by
          have:=(Qhy.val (.tmp dd) (.d (.v v1)) (by simp [valOf])).Qbt
          exact this
         simp only [execOp,Qy3,resolve,Qmu,hargs',Qyr,Sem.run_bind,Sem.run_pure,Result.andThen_ok,invoke,builtin,List.map_toArray,List.map_cons,List.map_nil,hev,k3]
        have s2':=Qe0 (b:=b) (k:=k0) (cs:=cs) (rest:=rest) hpj (by rw [Qy3];intro c' hc';cases hc') (hw2 (a.put (some dd) v1)) Wjy
        rw [Wd3] at s2'
        have Wd4:=Qhy.Qds k6 k5
        have Wd5:=Wd4.only S
        have Qdw:({ nt:=st.nt,tm:=(dd,.d (.v v1)) :: st.tm,rows:=C'.rows }:St).only S=st':=by
         rw [<- hst]
         simp only [St.only,k4,hC.rows]
         rw [Qq4 _ hS]
        have Wd6:Sim X st' (a.put (some dd) v1) C':=Qdw▸Wd5
        obtain ⟨C2,fr,q,t1,t2⟩:=h _ C' Wd6 b cs hb hk
        exact ⟨C2,fr,q,((Steps.one s1').trans (Steps.one s2')).trans t1,t2⟩
      cases e
     cases e
    cases e
   cases e
  cases e
 cases e
end
theorem Qdn {rows Xb:List Row} {ids:List Nat} (hn:ids.Nodup) (e:ids.map (fun i=>rows[i]?)=Xb.map (fun r=>some (Qb0 (Zw ids rows.length) r))) (hl:Xb.all Row.live=true):Qbz rows ids Xb:=by
 have hlen:ids.length=Xb.length:=by simpa using congrArg List.length e
 refine ⟨hn,hlen,fun j id r h1 h2=>⟨?_,List.all_eq_true.1 hl r (List.mem_of_getElem? h2)⟩⟩
 have:=congrArg (fun l=>l[j]?) e
 simp only [List.getElem?_map,h1,h2,Option.map_some,Option.some.injEq] at this
 exact this
def Qrp:List Row->Row
 | []=>.gone
 | [r]=>r
 | _ :: l=>Qrp l
def Ql8 (i:Nat) (s:St):St:=⟨s.nt,s.tm.map (fun p=>(p.1,Qa0 (Qht i (s.rows.length - 1)) p.2)),((s.rows.map (Qb0 (Qht i (s.rows.length - 1)))).dropLast).set i (Qb0 (Qht i (s.rows.length - 1)) (Qrp s.rows))⟩
def Wcl (i:Nat) (s:St):Bool:=match s.rows[i]? with | some .gone=>Nat.blt i (s.rows.length - 1) && (Qrp s.rows).live | _=>false
def Wip:List Nat->St->St
 | [],s=>s
 | i :: l,s=>Wip l (Ql8 i s)
def Qyl:List Nat->St->Bool
 | [],_=>true
 | i :: l,s=>Wcl i s && Qyl l (Ql8 i s)
theorem Qzi:∀ {l:List Row},l≠[]->l.dropLast ++ [Qrp l]=l
 | [],h=>absurd rfl h
 | [r],_=>rfl
 | r :: x :: l,_=>by
  have:=Qzi (l:=x :: l) (by simp)
  simp only [List.dropLast,List.cons_append,Qrp]
  rw [this]
theorem Wi6 {X:Ctx} {f:FuncId} {k:List Item} {Q:Frame->Frame->Qq->Prop} {i:Nat} {s:St} (ok:Wcl i s=true) (h:AK X f k Q s):AK X f k Q (Ql8 i s):=by
 unfold Wcl at ok
 split at ok
 ·rename_i hg
  simp only [Bool.and_eq_true] at ok
  have hi:i < s.rows.length - 1:=Nat.le_of_ble_eq_true ok.1
  have hne:s.rows≠[]:=by intro e;rw [e] at hi;simp at hi
  have hlen:(Ql8 i s).rows.length=s.rows.length - 1:=by simp [Ql8]
  refine Wfb (st:=Ql8 i s) (st':=s) i (r:=Qb0 (Qht i (s.rows.length - 1)) (Qrp s.rows)) ?_ (by rw [Qez];exact ok.2) ?_ ?_ rfl h
  ·simp only [Ql8]
   rw [List.getElem?_set_self (by simp;omega)]
  ·rw [hlen]
   simp only [Ql8,List.set_set]
   have e1:((s.rows.map (Qb0 (Qht i (s.rows.length - 1)))).dropLast)[i]? = some .gone:=by
    rw [List.getElem?_dropLast,List.length_map,if_pos hi,List.getElem?_map,hg]
    rfl
   have e2:((s.rows.map (Qb0 (Qht i (s.rows.length - 1)))).dropLast).set i .gone=(s.rows.map (Qb0 (Qht i (s.rows.length - 1)))).dropLast:=by
    apply List.ext_getElem?
    intro j
    rw [List.getElem?_set]
    split
    ·rename_i e
     subst e
     rw [if_pos (List.getElem?_eq_some_iff.1 e1).1,e1]
    rfl
   rw [e2,<- List.map_dropLast]
   have:=congrArg (List.map (Qb0 (Qht i (s.rows.length - 1)))) (Qzi hne)
   rw [List.map_append] at this
   exact this.symm
  rw [hlen]
  rfl
 cases ok
theorem Qgs {X:Ctx} {f:FuncId} {k:List Item} {Q:Frame->Frame->Qq->Prop}:∀ (ids:List Nat) (s:St) {st:St} (h:AK X f k Q s) (e1:Qyl ids s=true:=by kernel_rfl) (e2:Wip ids s=st:=by kernel_rfl),AK X f k Q st
 | [],s,_,h,_,e2=>e2▸h
 | i :: l,s,_,h,e1,e2=>by
  simp only [Qyl,Bool.and_eq_true] at e1
  exact Qgs l (Ql8 i s) (Wi6 e1.1 h) e1.2 e2
end Go.Sy
namespace Go.Sy
section
variable {X:Ctx} {f:FuncId} {k:List Item} {Q:Frame->Frame->Qq->Prop} {st st':St}
end
inductive NsL:List DV->List DV->Prop
 | nil:NsL [] []
 | same {xs ys:List DV} (x:DV) (h:NsL xs ys):NsL (x :: xs) (x :: ys)
 | ns {xs ys:List DV} (t:Bool) (g:Nat->List DV) (h:NsL xs ys):NsL (.v (.slice none 0 0) :: xs) (.sl t 0 g :: ys)
theorem Qvk {w:World} {ok:Bool->Nat->Prop}:∀ {xs ys:List DV} {vs:List Value},NsL xs ys->VRs w ok xs vs->VRs w ok ys vs
 | _,_,_,.nil,.nil=>.nil
 | _,_,_,.same x h,.cons o1 o2 o3=>.cons o1 o2 (Qvk h o3)
 | _,_,_,.ns t g h,.cons o1 o2 o3=>.cons o1 (by cases o2;exact .sl0) (Qvk h o3)
theorem Wi3 {X:Ctx} {f:FuncId} {k:List Item} {Q:Frame->Frame->Qq->Prop} {st:St} (id:Nat) {kk:Nat} {fz:Bool} {ty:TypeId} {x:List DV} (y:List DV) (hr:st.rows[id]? = some (.flat fz kk ty 1 (fun j=>[x].getD j []))) (hn:NsL x y)
  (h:AK X f k Q { st with rows:=st.rows.set id (.flat fz kk ty 1 (fun j=>[y].getD j [])) }):AK X f k Q st:=
 Qrg (r':=.flat fz kk ty 1 (fun j=>[y].getD j [])) hr (fun h=>h) (by simp) (fun w μ ok ob h=>by
  cases ob with
  | none=>exact h
  | some b=>
   obtain ⟨cs,vs,h1,h2,h3,h4,h5⟩:=h
   refine ⟨cs,vs,h1,h2,h3,fun i hi=>?_,h5⟩
   have:i=0:=by omega
   subst this
   exact Qvk hn (h4 0 hi)) rfl h
end Go.Sy
set_option linter.unusedSectionVars false
namespace Go.Sy
abbrev Cf:=List Item × St
def AKo (X:Ctx) (f:FuncId) (Q:Frame->Frame->Qq->Prop):Option Cf->Prop
 | some c=>AK X f c.1 Q c.2
 | none=>False
def stp (T:Tab) (n:Nat):Option Cf->Option Cf
 | some c=>some (adv T n c.1 c.2)
 | none=>none
section
variable {X:Ctx} {T:Tab} {f:FuncId} {k:List Item} {Q:Frame->Frame->Qq->Prop} {st:St} {o:Option Cf}
theorem qI (h:AKo X f Q (some (k,st))):AK X f k Q st:=h
theorem Qoj (hT:Qw X.P T) (n:Nat) (h:AKo X f Q (stp T n o)):AKo X f Q o:=by
 cases o with
 | none=>exact h
 | some c=>exact Qm8 hT n h
theorem qE (hT:Qw X.P T) (n:Nat) (k':List Item) (st':St) (h:AK X f k' Q st') (e:(stp T n o).map (fun r:Cf=>(r.1,r.2.only (st'.tm.map Prod.fst)))=some (k',st'):=by kernel_rfl):AKo X f Q o:=by
 refine Qoj hT n ?_
 cases hc:stp T n o with
 | none=>rw [hc] at e;cases e
 | some c=>
  rw [hc,Option.map_some] at e
  injection e with e
  injection e with e1 e2
  subst e1
  exact Qdh _ (e2▸h)
theorem qC (hT:Qw X.P T) {n0:Nat} (n:Nat) (k':List Item) (Yu:List Nat) (st':St) (h0:X.μ0.length=n0) (h:AK X f k' Q st') (e0:(stp T n o).map (·.1)=some k':=by kernel_rfl)
  (e1:(stp T n o).map (fun c:Cf=>(c.2.only (st'.tm.map Prod.fst)).tm)=(stp T n o).map (fun c:Cf=>st'.tm.map (fun p=>(p.1,Qa0 (Qbm Yu c.2.rows.length) p.2))):=by kernel_rfl)
  (e2:(stp T n o).map (fun c:Cf=>Yu.map (fun i=>c.2.rows[i]?))=(stp T n o).map (fun c:Cf=>st'.rows.map (fun r=>some (Qb0 (Qbm Yu c.2.rows.length) r))):=by kernel_rfl)
  (e3:(stp T n o).map (fun c:Cf=>c.2.nt)=some st'.nt:=by kernel_rfl) (hn:Yu.Nodup:=by decide) (h1:Yu.take n0=List.range n0:=by rfl):AKo X f Q o:=by
 refine Qoj hT n ?_
 cases hc:stp T n o with
 | none=>rw [hc] at e0;cases e0
 | some c=>
  rw [hc,Option.map_some] at e0 e1 e2 e3
  simp only [Option.map_some,Option.some.injEq] at e0 e1 e2 e3
  show AK X f c.1 Q c.2
  rw [e0]
  exact Qik Yu st' h0 h e1 e2 e3.symm hn h1
def Wbg:Option Cf->Option Tmp
 | some (.code (.cond (.tmp t) _ _) :: _,_)=>some t
 | some (.inRegion ops (i :: _) :: _,_)=>
  match ops[i]? with
  | some o=>
   match o.guard with
   | some (j,_)=>(ops[j]?).bind (·.dst)
   | none=>match o.op with
    | .pick (.tmp t) _ _=>some t
    | _=>none
  | none=>none
 | _=>none
def Wft (o:Option Cf):Option Bool:=
 match o,Wbg o with
 | some c,some t=>
  match c.2.tm.lookup t with
  | some (.d (.v (.bool b)))=>some b
  | _=>none
 | _,_=>none
def took (b:Bool) (o:Option Cf):Option Cf:=
 match o,Wbg o with
 | some c,some t=>some (c.1,⟨c.2.nt,(t,.b b) :: c.2.tm,c.2.rows⟩)
 | _,_=>none
theorem qB (hT:Qw X.P T) (n:Nat) {x b:Bool} (hx:x=b) (h:AKo X f Q (took b (stp T n o))) (e:Wft (stp T n o)=some x:=by kernel_rfl):AKo X f Q o:=by
 refine Qoj hT n ?_
 generalize stp T n o=o' at h e
 unfold Wft at e
 unfold took at h
 split at e
 ·rename_i c t ht
  rw [ht] at h
  split at e
  ·rename_i b' hv
   injection e with e
   subst e
   subst hx
   refine Qx6 ((t,.b b') :: c.2.tm) (fun i av hi=>?_) h
   simp only [List.lookup_cons] at hi
   split at hi
   ·rename_i hj
    have hj:i=t:=by simpa using hj
    subst hj
    injection hi with hi
    subst hi
    exact hv
   exact hi
  cases e
 cases e
def Qxm (rows:List Row):AV->AV
 | .own id k off n=>
  match rows[id]? with
  | some (.flat fz _ _ n' g)=>.d (.sl fz n' g)
  | _=>.own id k off n
 | av=>av
def Qxo (rows:List Row):AV->AV
 | .own id k off n=>
  match rows[id]? with
  | some (.flat _ k' _ n' _)=>.own id k' 0 n'
  | _=>.d .np
 | .d x=>.d x
 | _=>.d .np
theorem Wh7 {rows:List Row} {ρ:Nat->Nat}:∀ {av:AV},av=Qxo rows av->Pass rows [] ρ av (Qxm rows av)
 | .own id k off n,h=>by
  simp only [Qxo] at h
  simp only [Qxm]
  cases hr:rows[id]? with
  | none=>rw [hr] at h;cases h
  | some r=>
   rw [hr] at h
   cases r with
   | flat fz k' ty n' g=>
    simp only [AV.own.injEq,true_and] at h
    obtain ⟨rfl,rfl,rfl⟩:=h
    exact .Qcr hr rfl
   | _=>cases h
 | .d x,_=>.same (.d x)
 | .agg _,h=>by cases h
 | .Ql _,h=>by cases h
 | .ptr ..,h=>by cases h
 | .win ..,h=>by cases h
 | .mp ..,h=>by cases h
 | .fn ..,h=>by cases h
 | .ifc ..,h=>by cases h
 | .bm ..,h=>by cases h
theorem Qum {rows:List Row} {ρ:Nat->Nat}:∀ {Xx:List AV},Xx=Xx.map (Qxo rows)->Qff rows [] ρ Xx (Xx.map (Qxm rows))
 | [],_=>.nil
 | av :: Xx,h=>by
  simp only [List.map_cons,List.cons.injEq] at h
  exact .cons (Wh7 h.1) (Qum h.2)
def calls (o:Option Cf):Option (FuncId × List AV):=
 match o with
 | some c=>(Qdo c.2 c.1).map fun r=>(r.1,r.2.1.map (Qxm c.2.rows))
 | none=>none
def Wcd (nrm:Bool) (o:Option Cf):Option (List AV):=
 match o with
 | some c=>(Qdo c.2 c.1).map fun r=>bif nrm then r.2.1.map (Qxo c.2.rows) else r.2.1
 | none=>none
def called (Qr:List Row) (ret:AV) (o:Option Cf):Option Cf:=
 match o with
 | some c=>
  match Qdo c.2 c.1 with
  | some (_,_,dst,k')=>(St.put { c.2 with rows:=Qav c.2.rows [] Qr } dst (Qa0 (Zw [] c.2.rows.length) ret)).map fun s=>(k',s)
  | none=>none
 | none=>none
theorem qF (hT:Qw X.P T) {P:Program} (n:Nat) {g:FuncId} {args:List AV} {Qr:List Row} {ret:AV} (hP:X.P=P) (he:Enters P g) (hs:Xt P g [] args Qr ret)
  (h:AKo X f Q (called Qr ret (stp T n o))) (e1:calls (stp T n o)=some (g,args):=by kernel_rfl) (e2:Wcd false (stp T n o)=Wcd true (stp T n o):=by kernel_rfl):AKo X f Q o:=by
 subst hP
 refine Qoj hT n ?_
 generalize stp T n o=o' at h e1 e2
 cases o' with
 | none=>cases e1
 | some c=>
  simp only [calls,Wcd,called,Bool.cond_false,Bool.cond_true] at e1 e2 h
  cases hc:Qdo c.2 c.1 with
  | none=>rw [hc] at e1;cases e1
  | some r=>
   obtain ⟨g',Xx,dst,k'⟩:=r
   rw [hc] at e1 e2 h
   simp only [Option.map_some,Option.some.injEq,Prod.mk.injEq] at e1 e2 h
   obtain ⟨rfl,rfl⟩:=e1
   cases hp:St.put { c.2 with rows:=Qav c.2.rows [] Qr } dst (Qa0 (Zw [] c.2.rows.length) ret) with
   | none=>rw [hp] at h;cases h
   | some s=>
    rw [hp] at h
    exact Qiv [] hc he (Qao _) (Qum e2) hs hp h
def Woi (T:Tab) (o:Option Cf):Option (Int × Int):=
 match o with
 | some c=>(Qo8 T c.2 c.1).map fun r=>r.2.2.2
 | none=>none
def Woj (T:Tab) (o:Option Cf):Option Cf:=
 match o with
 | some c=>(Qo8 T c.2 c.1).bind fun r=>(c.2.put r.2.1 r.1).map fun s=>(r.2.2.1,s)
 | none=>none
theorem qX (hT:Qw X.P T) (n:Nat) {i m:Int} (hi:0<=i/\i < m) (h:AKo X f Q (Woj T (stp T n o))) (e:Woi T (stp T n o)=some (i,m):=by kernel_rfl):AKo X f Q o:=by
 refine Qoj hT n ?_
 generalize stp T n o=o' at h e
 cases o' with
 | none=>cases e
 | some c=>
  simp only [Woi,Woj] at e h
  cases hc:Qo8 T c.2 c.1 with
  | none=>rw [hc] at e;cases e
  | some r=>
   rw [hc] at e h
   simp only [Option.map_some,Option.some.injEq,Option.bind_some] at e h
   cases hp:c.2.put r.2.1 r.1 with
   | none=>rw [hp] at h;cases h
   | some s=>
    rw [hp] at h
    exact Qba hT hi.1 hi.2 (k':=r.2.2.1) (st':=s) (by rw [hc,Option.bind_some,hp,Option.map_some,e]) h
def Wo8 (fn:Func) (o:Option Cf):Option AV:=
 match o with
 | some (.code .ret :: k,st)=>Qlj st.tm fn.results.toList
 | some ([],st)=>Qlj st.tm fn.results.toList
 | _=>none
def Wo6 (Yu:List Nat) (o:Option Cf):Option (List (Option Row)):=o.map fun c=>Yu.map fun i=>c.2.rows[i]?
def Wo7 (Yu:List Nat) (Qr:List Row) (o:Option Cf):Option (List (Option Row)):=o.map fun c=>Qr.map fun r=>some (Qb0 (Qbm Yu c.2.rows.length) r)
theorem qT (hT:Qw X.P T) (n:Nat) {fn:Func} {Qr:List Row} {ret:AV} {n0:Nat} (hf:X.P.funcs[f]? = some fn) (hX:X.ds=[]/\X.rnd=none) (h0:X.μ0.length=n0) (Yu:List Nat) (nr:∀ r∈Qr,NR r) (na:NA ret)
  (e:Wo8 fn (stp T n o)=(stp T n o).map (fun c:Cf=>Qa0 (Qbm Yu c.2.rows.length) ret):=by kernel_rfl) (es:(Wo8 fn (stp T n o)).isSome=true:=by kernel_rfl)
  (hs:Wo6 Yu (stp T n o)=Wo7 Yu Qr (stp T n o):=by kernel_rfl) (hn:Yu.Nodup:=by decide) (h1:Yu.take n0=List.range n0:=by rfl):AKo X f (Ym X Qr ret) o:=by
 refine Qoj hT n ?_
 generalize stp T n o=o' at e hs es
 cases o' with
 | none=>cases es
 | some c=>
  obtain ⟨k,st⟩:=c
  simp only [Option.map_some,Wo6,Wo7,Option.some.injEq] at e hs
  cases k with
  | nil=>exact Qtp hf hX e Yu (Qal hs) hn (by rw [h0];exact h1) rfl nr na
  | cons i k=>
   cases i with
   | code c=>
    cases c with
    | ret=>exact Qf9 hf hX e Yu (Qal hs) hn (by rw [h0];exact h1) rfl nr na
    | _=>cases es
   | _=>cases es
end
section
variable {α γ σ ρ δ:Type} {c:Prop} [Decidable c] {g:σ->Option ρ} {r:ρ}
theorem sB {a b:Option (σ ⊕ ρ)} (H:Jq (if c then a else b) g=some r):(c/\Jq a g=some r)\/(¬ c/\Jq b g=some r):=by
 by_cases h:c
 ·exact .inl ⟨h,sT h H⟩
 exact .inr ⟨h,sF h H⟩
theorem iB {a b x:α} (H:(if c then a else b)=x):(c/\a=x)\/(¬ c/\b=x):=by
 by_cases h:c
 ·exact .inl ⟨h,iT h H⟩
 exact .inr ⟨h,iF h H⟩
end
end Go.Sy
