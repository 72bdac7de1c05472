/- Words of the printed functions and of their proofs; the last rules. -/
import Derived.Test.YtdhmflhncidjaaaGreatSyK
import Derived.KernelRfl
import Derived.ChangeArms
import Derived.Deep.Slices
import Derived.WideShapes
import Derived.Shelf.SlSortCmp.NoneTotal
set_option linter.unusedVariables false
set_option linter.unusedSimpArgs false
namespace Go.Sy
def bnd {α β:Type} (x:α) (f:α->β):β:=f x
def Qb6 (a b:Int):Int:=if a < b then b else a
def Qhd (a b:Int):Int:=if b < a then b else a
def Jq {σ ρ:Type} (o:Option (σ ⊕ ρ)) (g:σ->Option ρ):Option ρ:=
 match o with
 | none=>none
 | some (.inl s)=>g s
 | some (.inr r)=>some r
def iter {σ ρ:Type} (step:σ->Option (σ ⊕ ρ)):Nat->σ->Option ρ
 | 0,_=>none
 | n+1,s=>Jq (step s) (iter step n)
open Classical in
noncomputable def Yy {σ ρ:Type} (step:σ->Option (σ ⊕ ρ)) (s:σ):Option ρ:=
 if h:∃ n,(iter step n s).isSome=true then iter step (Classical.choose h) s else none
theorem Qqt {σ ρ:Type} {step:σ->Option (σ ⊕ ρ)}:∀ {n m:Nat} {s:σ} {r:ρ},iter step n s=some r->n<=m->iter step m s=some r
 | 0,_,_,_,h,_=>by simp [iter] at h
 | n+1,0,_,_,_,h=>by omega
 | n+1,m+1,s,r,h,hm=>by
  simp only [iter] at h ⊢
  generalize step s=o at h ⊢
  match o,h with
  | some (.inl s'),h=>exact Qqt (n:=n) h (by omega)
  | some (.inr r'),h=>exact h
theorem Qpb {σ ρ:Type} {step:σ->Option (σ ⊕ ρ)} {s:σ} {r:ρ}:Yy step s=some r↔∃ n,iter step n s=some r:=by
 unfold Yy
 constructor
 ·intro h
  split at h
  ·exact ⟨_,h⟩
  cases h
 rintro ⟨n,h⟩
 have hx:∃ n,(iter step n s).isSome=true:=⟨n,by rw [h];rfl⟩
 rw [dif_pos hx]
 obtain ⟨r',h'⟩:=Option.isSome_iff_exists.1 (Classical.choose_spec hx)
 rw [h']
 rcases Nat.le_total n (Classical.choose hx) with e | e
 ·rw [Qqt h e] at h'
  exact h'.symm
 rw [Qqt h' e] at h
 exact h
theorem Qbw {σ ρ:Type} {step:σ->Option (σ ⊕ ρ)} {s:σ} {r:ρ} (h:Yy step s=some r):∃ n,iter step n s=some r:=Qpb.1 h
theorem Ya {σ ρ:Type} {step:σ->Option (σ ⊕ ρ)} {s:σ}:Yy step s=Jq (step s) (Yy step):=by
 apply Option.ext
 intro r
 rw [Qpb]
 constructor
 ·rintro ⟨n,h⟩
  cases n with
  | zero=>simp [iter] at h
  | succ n=>
   simp only [iter] at h
   generalize step s=o at h
   match o,h with
   | some (.inl s'),h=>exact Qpb.2 ⟨n,h⟩
   | some (.inr r'),h=>exact h
 intro h
 generalize e:step s=o at h
 match o,h,e with
 | some (.inl s'),h,e=>
  obtain ⟨n,h⟩:=Qpb.1 h
  exact ⟨n+1,by simp only [iter,e];exact h⟩
 | some (.inr r'),h,e=>exact ⟨1,by simp only [iter,e];exact h⟩
section
variable {α β γ σ ρ:Type} {K:α->β} {c:Prop} [Decidable c] {a b:α} {x:β} {y:γ}
theorem Wok {K:Option α->Option γ} {a:Option α} (h0:K none=none) (H:K (if c then a else none)=some y):c/\K a=some y:=by
 by_cases h:c
 ·exact ⟨h,by rwa [if_pos h] at H⟩
 rw [if_neg h,h0] at H;cases H
theorem Wlm {δ:Type} {K:Option α->Option γ} {o:Option δ} {f:δ->Option α} (h0:K none=none) (H:K (o.bind f)=some y):∃ v,o=some v/\K (f v)=some y:=by
 cases o with
 | none=>rw [Option.bind_none,h0] at H;cases H
 | some v=>exact ⟨v,rfl,H⟩
theorem Yt {a b:α} (H:some a=some b):a=b:=by injection H
theorem Qbh {step:σ->Option (σ ⊕ ρ)} {s:σ} {r:ρ} {p:Prop} (H:iter step 0 s=some r):p:=by cases H
end
theorem eqT {a b:Int} (h:a=b):(a == b)=true:=by simp [h]
theorem eqF {a b:Int} (h:¬ a=b):(a == b)=false:=by simp [h]
theorem neT {a b:Int} (h:¬ a=b):(a != b)=true:=by simp [h]
theorem neF {a b:Int} (h:a=b):(a != b)=false:=by simp [h]
theorem boF {b:Bool} (h:¬ b=true):b=false:=by simpa using h
theorem ltN {i:Int} {n:Nat} (h0:0<=i) (h1:i < n):i.toNat < n:=by omega
def eI (k:IntKind) (n:Int):List DV:=[.v (.int k n)]
def eB (b:Bool):List DV:=[.v (.bool b)]
def eS (s:ByteArray):List DV:=[.v (.string s)]
def eL {α:Type} (e:α->List DV) (z:α) (xs:List α):List DV:=[.sl true xs.length (vec e z xs)]
theorem nlI (k:IntKind) (n:Int):NLs (eI k n):=.cons (.v _) .nil
theorem Xa {α:Type} {e:α->List DV} {z:α} (h:∀ x,NLs (e x)) {fz:Bool} {k ty n:Nat} {xs:List α}:NR (.flat fz k ty n (vec e z xs)):=.flat fun _ _=>h _
theorem all_nil {r:Row} (h:r∈([]:List Row)):NR r:=by cases h
theorem all_cons {r s:Row} {rs:List Row} (h1:NR s) (h2:∀ r∈rs,NR r) (h:r∈s :: rs):NR r:=by
 rcases List.mem_cons.1 h with rfl | h
 ·exact h1
 exact h2 r h
theorem Qfn {rows:List Row} {ids:List Nat} {ρ:Nat->Nat}:∀ (cs:List DV),Qff rows ids ρ (List.map AV.d cs) (List.map AV.d cs)
 | []=>.nil
 | x :: cs=>.cons (.same (.d x)) (Qfn cs)
theorem Qk {rows:List Row} {ids:List Nat} {ρ:Nat->Nat} (x:DV):Pass rows ids ρ (.d x) (.d x):=.same (.d x)
section
variable {X:Ctx} {T:Tab} {f:FuncId} {k k':List Item} {Q:Frame->Frame->Qq->Prop} {st st':St}
theorem Qd1 (S:List Nat) (i:Nat) (kk:Nat) (ty:TypeId) (g:Nat->List DV) (e:st.tm.lookup i=some (.d (.v (.slice none 0 0))))
  (ht:St.only S ⟨st.nt,(i,.own st.rows.length kk 0 0) :: st.tm,st.rows ++ [.flat false kk ty 0 g]⟩=st') (h:AK X f k Q st'):AK X f k Q st:=by
 subst ht
 exact Wfc i kk ty g _ e rfl (Qdh S h)
theorem Qe4 (S:List Nat) (i:Nat) {av:AV} {y:DV} (e:st.tm.lookup i=some av) (hs:Qla st.rows av y) (he:St.only S { st with tm:=(i,.d y) :: st.tm }=st') (h:AK X f k Q st'):AK X f k Q st:=by
 subst he
 exact Wl1 i e hs rfl (Qdh S h)
end
theorem Qi1 {α:Type} {enc:α->List DV} {z x:α} {xs:List α} {i:Nat} (h:i < xs.length):vec enc z (xs.set i x) i=enc x:=by
 simp [vec,h]
theorem Qfx {α:Type} {enc:α->List DV} {z x:α} {xs:List α} {i:Nat}:∀ j,j < xs.length->j≠i->vec enc z (xs.set i x) j=vec enc z xs j:=by
 intro j hj hne
 simp [vec,List.getElem?_set,Ne.symm hne]
section
variable {X:Ctx} {T:Tab} {f:FuncId} {k k':List Item} {Q:Frame->Frame->Qq->Prop} {st st':St}
theorem VRs.append {w:World} {ok:Bool->Nat->Prop}:∀ {xs ys:List DV} {vs us:List Value},VRs w ok xs vs->VRs w ok ys us->VRs w ok (xs ++ ys) (vs ++ us)
 | _,_,_,_,.nil,k=>k
 | _,_,_,_,.cons h1 h hs,k=>.cons h1 h (VRs.append hs k)
def Wex (T:Tab) (st:St) (k:List Item):Option (Nat × Nat × Nat × Nat × Nat × List DV × List Item):=
 match Qde st k with
 | some (o,k')=>
  match o.op with
  | .store t x y=>
   match T.info.lookup t,valOf st.tm x,valOf st.tm y with
   | some (s,_,_),some (.ptr id kk i off),some a=>
    match Qij (cellsOf a) with
    | some ds=>bif Nat.beq ds.length s && Nat.ble (off+s) kk && !Qi0 a && o.dst.isNone then some (id,kk,i,off,s,ds,k') else none
    | none=>none
   | _,_,_=>none
  | _=>none
 | none=>none
theorem Qx5 (hT:Qw X.P T) {id kk i off s n:Nat} {ty:TypeId} {ds:List DV} {g:Nat->List DV} (g':Nat->List DV) (e:Wex T st k=some (id,kk,i,off,s,ds,k')) (hr:st.rows[id]? = some (.flat false kk ty n g)) (h1:i < n)
  (hg:g' i=(g i).take off ++ ds ++ (g i).drop (off+s)) (hg2:∀ j,j < n->j≠i->g' j=g j) (hs:st'={ st with rows:=st.rows.set id (.flat false kk ty n g') }) (h:AK X f k' Q st'):AK X f k Q st:=by
 subst hs
 unfold Wex at e
 split at e
 ·rename_i o k3 Qbe
  split at e
  ·rename_i t x y hop
   split at e
   ·rename_i s0 by' z id0 kk0 i0 Qg2 a hi hx hy
    split at e
    ·rename_i ds0 hds
     cases hb:(Nat.beq ds0.length s0 && Nat.ble (Qg2+s0) kk0 && !Qi0 a && o.dst.isNone) with
     | false=>rw [hb] at e;cases e
     | true=>
      rw [hb] at e
      simp only [cond_true,Option.some.injEq,Prod.mk.injEq] at e
      obtain ⟨rfl,rfl,rfl,rfl,rfl,rfl,rfl⟩:=e
      simp only [Bool.and_eq_true,Bool.not_eq_true',Option.isNone_iff_eq_none] at hb
      obtain ⟨⟨⟨b1,b2⟩,b3⟩,b4⟩:=hb
      have b1:=Nat.eq_of_beq_eq_true b1
      have b2:=Nat.le_of_ble_eq_true b2
      refine Qsk Qbe b4 h fun a' C hC=>?_
      obtain ⟨b,hμ,hu⟩:=(hC.val _ _ hx).Qh8
      have Qg1:C.rows[id0]? = some (.flat false kk0 ty n g):=by rw [hC.rows];exact hr
      obtain ⟨cs,vs,r1,r2,r3,r4,r5⟩:=hC.rel.rel id0 _ _ hμ Qg1
      have hv:=Qje (hC.val _ _ hy) (Qmy b3)
      rw [Qmk hds] at hv
      have hv:=hv.toD
      obtain ⟨v,hv0⟩:∃ v,a'.eval y=v:=⟨_,rfl⟩
      rw [hv0] at hv
      have hvl:v.cells.toList.length=s0:=by rw [<- hv.length,b1]
      have hik:i0 * kk0+kk0<=n * kk0:=by rw [<- Nat.succ_mul];exact Nat.mul_le_mul_right kk0 h1
      have hst:=run_storeCells_at X.P b (i0 * kk0+Qg2) ty v.cells.toList 0 cs C.w r1 (by omega) hv.one
      let us:Array Value:=(cs.toList.take (i0 * kk0+Qg2+0) ++ v.cells.toList ++ cs.toList.drop (i0 * kk0+Qg2+0+v.cells.toList.length)).toArray
      have hus:us.size=cs.size:=by
       simp only [us,List.size_toArray,List.length_append,List.length_take,List.length_drop,Array.length_toList,hvl]
       omega
      have tu:=Qgf (r':=.flat false kk0 ty n g') hC.rel hμ Qg1 rfl r1 hus
      have ev:=Ev.Yw hC.rel tu
      have Qhw:∀ q,us[q]? = if q < i0 * kk0+Qg2 then cs[q]? else if q < i0 * kk0+Qg2+s0 then v.cells.toList[q - (i0 * kk0+Qg2)]? else cs[q]?:=by
       intro q
       simp only [us,List.getElem?_toArray,Nat.add_zero]
       have hl1:(cs.toList.take (i0 * kk0+Qg2)).length=i0 * kk0+Qg2:=by rw [List.length_take,Array.length_toList];omega
       rw [List.getElem?_append,List.length_append,hl1,hvl]
       split
       ·rename_i hq
        rw [List.getElem?_append,hl1]
        split
        ·rename_i hq2
         rw [List.getElem?_take_of_lt hq2]
         simp
        rfl
       rename_i hq
       rw [if_neg (by omega)]
       rw [List.getElem?_drop,show i0 * kk0+Qg2+s0+(q - (i0 * kk0+Qg2+s0))=q from by omega]
       simp
      have Zb:Wt X (C.Yw id0 (.flat false kk0 ty n g') (C.w.setRow b us)):=by
       refine Wt.Yw hC.rel tu (.inl (by simp)) ⟨us,fun j=>if j=i0 then (vs i0).take Qg2 ++ v.cells.toList ++ (vs i0).drop (Qg2+s0) else vs j,by simpa using setRow_heap _ _ _ _ _ _ r1,by rw [hus];exact r2, ?_, ?_, ?_⟩
       ·intro j hj
        by_cases e:j=i0
        ·subst e
         simp only [if_true,List.length_append,List.length_take,List.length_drop,r3 j hj,hvl]
         omega
        simp only [if_neg e];exact r3 j hj
       ·intro j hj
        by_cases e:j=i0
        ·subst e
         simp only [if_true]
         rw [hg]
         exact (((r4 j hj).take Qg2).append hv |>.append ((r4 j hj).drop (Qg2+s0))).mono ev.ok ev.same
        simp only [if_neg e]
        rw [hg2 j hj e]
        exact (r4 j hj).mono ev.ok ev.same
       intro j q w hj hw
       rw [Qhw]
       by_cases e:j=i0
       ·subst e
        simp only [if_true] at hw
        have hl1:((vs j).take Qg2).length=Qg2:=by rw [List.length_take,r3 j hj];omega
        rw [List.getElem?_append,List.length_append,hl1,hvl] at hw
        split at hw
        ·rename_i hq
         rw [List.getElem?_append,hl1] at hw
         split at hw
         ·rename_i hq2
          rw [List.getElem?_take_of_lt hq2] at hw
          rw [if_pos (by omega)]
          exact r5 j q w hj hw
         rename_i hq2
         rw [if_neg (by omega),if_pos (by omega),show j * kk0+q - (j * kk0+Qg2)=q - Qg2 from by omega]
         exact hw
        rename_i hq
        rw [if_neg (by omega),if_neg (by omega)]
        rw [List.getElem?_drop,show Qg2+s0+(q - (Qg2+s0))=q from by omega] at hw
        exact r5 j q w hj hw
       simp only [if_neg e] at hw
       have hq:q < kk0:=by rw [<- r3 j hj];exact (List.getElem?_eq_some_iff.1 hw).1
       have:=r5 j q w hj hw
       rcases Nat.lt_or_gt_of_ne e with h3 | h3
       ·have:j * kk0+kk0<=i0 * kk0:=by rw [<- Nat.succ_mul];exact Nat.mul_le_mul_right kk0 h3
        rw [if_pos (by omega)]
        exact r5 j q w hj hw
       have:i0 * kk0+kk0<=j * kk0:=by rw [<- Nat.succ_mul];exact Nat.mul_le_mul_right kk0 h3
       rw [if_neg (by omega),if_neg (by omega)]
       exact r5 j q w hj hw
      refine ⟨C.Yw id0 (.flat false kk0 ty n g') (C.w.setRow b us), ?_, ?_⟩
      ·have hs:=hT.size hi (w:=C.w)
       have h1:(Instr.storeAt t (a'.eval x) (a'.eval y)).run X.P C.w=.ok () (C.w.setRow b us):=by
        rw [hu,hv0]
        simp only [Instr.storeAt,Instr.sureAddr,storeVar,Sem.run_bind,Sem.run_pure,Result.andThen_ok,hs]
        rw [if_neg (by simp at hvl;simp [hvl])]
        exact hst
       simp only [execOp,hop]
       rw [Sem.run_bind,h1]
       rfl
      have:=hC.Qds ev Zb
      simpa [Qq.Yw,hC.rows] using this
    cases e
   cases e
  cases e
 cases e
theorem Qnc (hT:Qw X.P T) (S:List Nat) {id kk i off s n:Nat} {ty:TypeId} {ds:List DV} {g:Nat->List DV} (g':Nat->List DV) (e:Wex T st k=some (id,kk,i,off,s,ds,k')) (hr:st.rows[id]? = some (.flat false kk ty n g)) (h1:i < n)
  (hg:g' i=(g i).take off ++ ds ++ (g i).drop (off+s)) (hg2:∀ j,j < n->j≠i->g' j=g j) (hs:St.only S { st with rows:=st.rows.set id (.flat false kk ty n g') }=st') (h:AK X f k' Q st'):AK X f k Q st:=by
 subst hs
 exact Qx5 hT g' e hr h1 hg hg2 rfl (Qdh S h)
theorem Zd {X:Ctx} {P:Program} {f g:FuncId} {k k':List Item} {Q:Frame->Frame->Qq->Prop} {st st':St} {Xx args:List AV} {dst:Option Tmp} (S ids:List Nat) {Xb Qr:List Row} {ret:AV}
  (hP:X.P=P) (he:Enters P g) (hs:Xt P g Xb args Qr ret) (e:Qdo st k=some (g,Xx,dst,k')) (hh:Qbz st.rows ids Xb) (hp:Qff st.rows ids (Zw ids st.rows.length) Xx args)
  (Qat:(St.put { st with rows:=Qav st.rows ids Qr } dst (Qa0 (Zw ids st.rows.length) ret)).map (St.only S)=some st') (h:AK X f k' Q st'):AK X f k Q st:=by
 subst hP
 exact Wi1 S ids he hs e hh hp Qat h
theorem Zk {X:Ctx} {P:Program} {f g:FuncId} {k k':List Item} {Q:Frame->Frame->Qq->Prop} {st st':St} {Xx args:List AV} {dst:Option Tmp} {ret:AV}
  (hP:X.P=P) (he:Enters P g) (hs:Xt P g [] args [] ret) (e:Qdo st k=some (g,Xx,dst,k')) (hp:Qff st.rows [] (Zw [] st.rows.length) Xx args)
  (Qat:St.put { st with rows:=Qav st.rows [] [] } dst (Qa0 (Zw [] st.rows.length) ret)=some st') (h:AK X f k' Q st'):AK X f k Q st:=by
 subst hP
 exact Qiv [] e he (Qao _) hp hs Qat h
theorem Qiu {α:Type} (hT:Qw X.P T) {id kk by':Nat} {t e:TypeId} {z:List Value} {dst:Option Tmp} {x:AV} (enc:α->List DV) (d:α) (xs ys:List α) (S:List Nat)
  (e1:Qnd st k=some (id,kk,xs.length,x,t,dst,k')) (hr:st.rows[id]? = some (.flat false kk e xs.length (vec enc d xs))) (src:Qre st.rows kk x ys.length (vec enc d ys))
  (ht:T.Qbn.lookup t=some e) (hi:T.info.lookup e=some (kk,by',z)) (hz:Nat.beq z.length kk=true) (hk:Nat.blt 0 kk=true) (hb:(xs.length+ys.length) * by'<=140737488355328) (Qkx:xs.length+ys.length<=9223372036854775807)
  (Qat:(St.put { st with rows:=st.rows.set id .gone ++ [.flat false kk e (xs ++ ys).length (vec enc d (xs ++ ys))] } dst (.own st.rows.length kk 0 (xs ++ ys).length)).map (St.only S)=some st') (h:AK X f k' Q st'):AK X f k Q st:=by
 obtain ⟨s0,h1,rfl⟩:=Option.map_eq_some_iff.1 Qat
 exact Qm9 hT (vec enc d (xs ++ ys)) e1 hr src ht hi hz hk (by simp) hb Qkx Quz Qtg h1 (Qdh S h)
end
end Go.Sy
namespace Go.Sy
def Qdt:List Item->Array Oper
 | .code (.region _ ops _) :: _=>ops
 | _=>#[]
def Qmx:List Item->Bool
 | .code (.region _ _ true) :: _=>true
 | _=>false
section
variable {X:Ctx} {T:Tab} {f:FuncId} {k:List Item} {Q:Frame->Frame->Qq->Prop} {nt:Nat} {rows:List Row} {ops:Array Oper} {m:Nat} {base:List (Nat × AV)} {Φ:List (Option AV)}
def Qlw (X:Ctx) (f:FuncId) (k:List Item) (Q:Frame->Frame->Qq->Prop) (nt:Nat) (rows:List Row) (ops:Array Oper) (base:List (Nat × AV)) (Φ:List (Option AV)) (m:Nat):Prop:=∀ i,i < m->Qko X f k Q nt rows ops base Φ i
theorem op0:Qlw X f k Q nt rows ops base Φ 0:=fun i hi=>by omega
theorem opS (h:Qlw X f k Q nt rows ops base Φ m) (p:Qko X f k Q nt rows ops base Φ m):Qlw X f k Q nt rows ops base Φ (m+1):=fun i hi=>by
 rcases Nat.lt_or_ge i m with h1 | h1
 ·exact h i h1
 have:i=m:=by omega
 subst this
 exact p
theorem Wfa (hm:X.P.follows .mixedOrders=true) (m:Nat) (S:List Nat) (base:List (Nat × AV)) (Φ:List (Option AV)) {st:St} (hd:Qmx k=true) (e:st.only S=⟨nt,base,rows⟩) (hck:Qjf (Qdt k) m (base.map (·.1))=true)
  (hop:Qlw X f k.tail Q nt rows (Qdt k) base Φ m) (Qdw:AK X f (.inRegion (Qdt k) (List.range' m ((Qdt k).size - m)) :: k.tail) Q ⟨nt,Qh3 (Qdt k) Φ m ++ Qlv (Qdt k) m base,rows⟩):AK X f k Q st:=by
 unfold Qmx at hd
 split at hd
 ·exact Wlw hm m S base Φ e hck hop Qdw
 cases hd
def Qgm (X:Ctx) (f:FuncId) (k:List Item) (Q:Frame->Frame->Qq->Prop) (nt:Nat) (rows:List Row) (ops:Array Oper) (base:List (Nat × AV)) (Φ:List (Option AV)) (E:List Nat) (m:Nat):Prop:=∀ i,i < m->i ∉ E->Qko X f k Q nt rows ops base Φ i
variable {E:List Nat}
theorem Qer:Qgm X f k Q nt rows ops base Φ E 0:=fun i hi=>by omega
theorem Qir (h:Qgm X f k Q nt rows ops base Φ E m) (p:Qko X f k Q nt rows ops base Φ m):Qgm X f k Q nt rows ops base Φ E (m+1):=fun i hi hne=>by
 rcases Nat.lt_or_ge i m with h1 | h1
 ·exact h i h1 hne
 have:i=m:=by omega
 subst this
 exact p
theorem Wqa (h:Qgm X f k Q nt rows ops base Φ E m) (he:E.contains m=true):Qgm X f k Q nt rows ops base Φ E (m+1):=fun i hi hne=>by
 rcases Nat.lt_or_ge i m with h1 | h1
 ·exact h i h1 hne
 have:i=m:=by omega
 subst this
 exact absurd (by simpa using he) hne
def Qp4 (X:Ctx) (f:FuncId) (k:List Item) (Q:Frame->Frame->Qq->Prop) (nt:Nat) (ops:Array Oper) (base:List (Nat × AV)) (Φ:List (Option AV)) (E:List Nat) (m:Nat):List (List Row)->List Nat->Prop
 | [rows],[]=>Qgm X f k Q nt rows ops base Φ E m
 | rows :: rows' :: rs,e :: es=>Qgm X f k Q nt rows ops base Φ E m/\Qlx X f k Q nt rows rows' ops base Φ e/\Qp4 X f k Q nt ops base Φ E m (rows' :: rs) es
 | _,_=>False
theorem Qp4.at_ {ops:Array Oper} {base:List (Nat × AV)} {Φ:List (Option AV)}:∀ {R:List (List Row)} {es:List Nat},Qp4 X f k Q nt ops base Φ E m R es->R.length=es.length+1/\(∀ s,s<=es.length->Qgm X f k Q nt (R.getD s []) ops base Φ E m)/\∀ (j e:Nat),es[j]? = some e->Qlx X f k Q nt (R.getD j []) (R.getD (j+1) []) ops base Φ e
 | [rows],[],h=>⟨rfl,fun s hs=>by
   have:s=0:=by simpa using hs
   subst this
   exact h,fun j e he=>by simp at he⟩
 | rows :: rows' :: rs,e :: es,h=>by
  obtain ⟨h1,h2,h3⟩:=h
  obtain ⟨a1,a2,a3⟩:=Qp4.at_ h3
  refine ⟨by simp only [List.length_cons] at a1 ⊢;omega,fun s hs=>?_,fun j q hq=>?_⟩
  ·cases s with
   | zero=>exact h1
   | succ s=>exact a2 s (by simpa using hs)
  cases j with
  | zero=>
   simp at hq
   subst hq
   exact h2
  | succ j=>exact a3 j q (by simpa using hq)
 | [],_,h=>h.elim
 | [_],_ :: _,h=>h.elim
 | _ :: _ :: _,[],h=>h.elim
def Qme (ops:Array Oper) (m:Nat):List Nat->Bool
 | []=>true
 | [e]=>Nat.blt e m
 | e :: e' :: es=>Nat.blt e m && Nat.blt e e' && (Qkq ops e' (Qfp ops e')).contains e && Qme ops m (e' :: es)
theorem Qs4 {ops:Array Oper} {m:Nat}:∀ {E:List Nat},Qme ops m E=true->(∀ e∈E,e < m)/\E.Pairwise (· < ·)/\∀ (j e e':Nat),E[j]? = some e->E[j+1]? = some e'->e∈Qkq ops e' (Qfp ops e')
 | [],_=>⟨fun _ h=>by simp at h,.nil,fun _ _ _ h=>by simp at h⟩
 | [e],h=>⟨fun x hx=>by
   have:x=e:=by simpa using hx
   subst this
   exact Nat.le_of_ble_eq_true h,by simp,fun j _ _ _ h=>by simp at h⟩
 | e :: e' :: es,h=>by
  simp only [Qme,Bool.and_eq_true] at h
  obtain ⟨⟨⟨h1,h2⟩,h3⟩,h4⟩:=h
  obtain ⟨a1,a2,a3⟩:=Qs4 h4
  have hlt:e < e':=Nat.le_of_ble_eq_true h2
  refine ⟨fun x hx=>?_, ?_,fun j x y hx hy=>?_⟩
  ·rcases List.mem_cons.1 hx with rfl | hx
   ·exact Nat.le_of_ble_eq_true h1
   exact a1 x hx
  ·rw [List.pairwise_cons]
   refine ⟨fun y hy=>?_,a2⟩
   rcases List.mem_cons.1 hy with rfl | hy
   ·exact hlt
   exact Nat.lt_trans hlt ((List.pairwise_cons.1 a2).1 y hy)
  cases j with
  | zero=>
   simp at hx hy
   subst hx
   subst hy
   simpa using h3
  | succ j=>exact a3 j x y (by simpa using hx) (by simpa using hy)
theorem Qcz (hm:X.P.follows .mixedOrders=true) (m:Nat) (E:List Nat) (S:List Nat) (base:List (Nat × AV)) (Φ:List (Option AV)) (R:List (List Row)) {st:St} (hd:Qmx k=true) (e:st.only S=⟨nt,base,R.getD 0 []⟩) (hck:Qjf (Qdt k) m (base.map (·.1))=true) (hch:Qme (Qdt k) m E=true)
  (hs:Qp4 X f k.tail Q nt (Qdt k) base Φ E m R E)
  (Qdw:AK X f (.inRegion (Qdt k) (List.range' m ((Qdt k).size - m)) :: k.tail) Q ⟨nt,Qh3 (Qdt k) Φ m ++ Qlv (Qdt k) m base,R.getD E.length []⟩):AK X f k Q st:=by
 unfold Qmx at hd
 split at hd
 ·obtain ⟨a1,a2,a3⟩:=hs.at_
  obtain ⟨b1,b2,b3⟩:=Qs4 hch
  exact Qx2 (rw_:=fun s=>R.getD s []) (E:=E) hm m S base Φ e hck ⟨b1,b2.imp (fun h=>Nat.ne_of_lt h),b3⟩ (fun i hi hne s hs=>a2 s hs i hi hne) a3 Qdw
 cases hd
def Qgn (X:Ctx) (f:FuncId) (k:List Item) (Q:Frame->Frame->Qq->Prop) (nt:Nat) (rows:List Row) (ops:Array Oper) (base:List (Nat × AV)) (Φ:List (Option AV)) (E:List Nat) (s m:Nat):Prop:=∀ i,i < m->i ∉ E->Qnp ops E i s=true->Qko X f k Q nt rows ops base Φ i
theorem Wo0 {s:Nat}:Qgn X f k Q nt rows ops base Φ E s 0:=fun i hi=>by omega
theorem Wo1 {s:Nat} (h:Qgn X f k Q nt rows ops base Φ E s m) (p:Qko X f k Q nt rows ops base Φ m):Qgn X f k Q nt rows ops base Φ E s (m+1):=fun i hi hne hm=>by
 rcases Nat.lt_or_ge i m with h1 | h1
 ·exact h i h1 hne hm
 have:i=m:=by omega
 subst this
 exact p
theorem Wqc {s:Nat} (h:Qgn X f k Q nt rows ops base Φ E s m) (he:E.contains m=true):Qgn X f k Q nt rows ops base Φ E s (m+1):=fun i hi hne hm=>by
 rcases Nat.lt_or_ge i m with h1 | h1
 ·exact h i h1 hne hm
 have:i=m:=by omega
 subst this
 exact absurd (by simpa using he) hne
theorem Wqb {s:Nat} (h:Qgn X f k Q nt rows ops base Φ E s m) (he:Qnp ops E m s=false):Qgn X f k Q nt rows ops base Φ E s (m+1):=fun i hi hne hm=>by
 rcases Nat.lt_or_ge i m with h1 | h1
 ·exact h i h1 hne hm
 have:i=m:=by omega
 subst this
 rw [he] at hm
 cases hm
def Qmb (X:Ctx) (f:FuncId) (k:List Item) (Q:Frame->Frame->Qq->Prop) (nt:Nat) (ops:Array Oper) (base:List (Nat × AV)) (Φ:List (Option AV)) (E:List Nat) (m:Nat):Nat->List (List Row)->List Nat->Prop
 | n,[rows],[]=>Qgn X f k Q nt rows ops base Φ E n m
 | n,rows :: rows' :: rs,e :: es=>Qgn X f k Q nt rows ops base Φ E n m/\Qlx X f k Q nt rows rows' ops base Φ e/\Qmb X f k Q nt ops base Φ E m (n+1) (rows' :: rs) es
 | _,_,_=>False
theorem Qmb.at_ {ops:Array Oper} {base:List (Nat × AV)} {Φ:List (Option AV)}:∀ {n:Nat} {R:List (List Row)} {es:List Nat},Qmb X f k Q nt ops base Φ E m n R es->R.length=es.length+1/\(∀ s,s<=es.length->Qgn X f k Q nt (R.getD s []) ops base Φ E (n+s) m)/\∀ (j e:Nat),es[j]? = some e->Qlx X f k Q nt (R.getD j []) (R.getD (j+1) []) ops base Φ e
 | n,[rows],[],h=>⟨rfl,fun s hs=>by
   have:s=0:=by simpa using hs
   subst this
   exact h,fun j e he=>by simp at he⟩
 | n,rows :: rows' :: rs,e :: es,h=>by
  obtain ⟨h1,h2,h3⟩:=h
  obtain ⟨a1,a2,a3⟩:=Qmb.at_ h3
  refine ⟨by simp only [List.length_cons] at a1 ⊢;omega,fun s hs=>?_,fun j q hq=>?_⟩
  ·cases s with
   | zero=>exact h1
   | succ s=>
    have:=a2 s (by simpa using hs)
    rw [show n+1+s=n+(s+1) by omega] at this
    exact this
  cases j with
  | zero=>
   simp at hq
   subst hq
   exact h2
  | succ j=>exact a3 j q (by simpa using hq)
 | _,[],_,h=>h.elim
 | _,[_],_ :: _,h=>h.elim
 | _,_ :: _ :: _,[],h=>h.elim
theorem Qto (hm:X.P.follows .mixedOrders=true) (m:Nat) (E:List Nat) (S:List Nat) (base:List (Nat × AV)) (Φ:List (Option AV)) (R:List (List Row)) {st:St} (hd:Qmx k=true) (e:st.only S=⟨nt,base,R.getD 0 []⟩) (hck:Qjf (Qdt k) m (base.map (·.1))=true) (hch:Qme (Qdt k) m E=true)
  (hs:Qmb X f k.tail Q nt (Qdt k) base Φ E m 0 R E)
  (Qdw:AK X f (.inRegion (Qdt k) (List.range' m ((Qdt k).size - m)) :: k.tail) Q ⟨nt,Qh3 (Qdt k) Φ m ++ Qlv (Qdt k) m base,R.getD E.length []⟩):AK X f k Q st:=by
 unfold Qmx at hd
 split at hd
 ·obtain ⟨a1,a2,a3⟩:=hs.at_
  obtain ⟨b1,b2,b3⟩:=Qs4 hch
  exact Qv5 (rw_:=fun s=>R.getD s []) (E:=E) hm m S base Φ e hck ⟨b1,b2.imp (fun h=>Nat.ne_of_lt h),b3⟩ (fun i hi hne s hs Wj1=>a2 s hs i hi hne (by rw [Nat.zero_add];exact Wj1)) a3 Qdw
 cases hd
theorem Wo4 (hT:Qw X.P T) {i:Nat} {rows':List Row} (e:∀ R rest,Qfv T (.inRegion ops (i :: R) :: k) ⟨nt,Qbx ops base Φ i ++ rest,rows⟩=some (.inRegion ops R :: k,⟨nt,Qd5 (Qc7 ops i) ((Φ[i]?).join) (Qbx ops base Φ i ++ rest),rows'⟩)):
  Qlx X f k Q nt rows rows' ops base Φ i:=fun R rest h=>Qep hT (e R rest) h
theorem Wo3 (hT:Qw X.P T) {i:Nat} {st':List Nat->List (Nat × AV)->St} (e:∀ R rest,Qfv T (.inRegion ops (i :: R) :: k) ⟨nt,Qbx ops base Φ i ++ rest,rows⟩=some (.inRegion ops R :: k,st' R rest))
  (h:∀ R rest,st' R rest=⟨nt,Qd5 (Qc7 ops i) ((Φ[i]?).join) (Qbx ops base Φ i ++ rest),rows⟩):Qko X f k Q nt rows ops base Φ i:=fun R rest hh=>Qep hT (e R rest) (by rw [h];exact hh)
end
end Go.Sy
namespace Go.Sy
open Go.Deep Go.WideShapes Go.RowKit
def okW (w:World) (t:Bool) (b:Nat):Prop:=b < w.heap.size
def RD (P:Program) (t:TypeId) {α:Type} (e:α->List DV) (wf:α->Prop):Prop:=
 ∀ (H:Type) (enc:TypeId × Value->H) (w:World) (spare:Nat->Bool) (fuel:Nat) (cs:List Value) (x:DataW H × List MemPlace),DataW.trod enc P w 0 spare true fuel t cs=some x->∃ a:α,VRs w (okW w) (e a) cs/\wf a
section
variable {P:Program} {t:TypeId}
theorem trod_int {H:Type} {enc:TypeId × Value->H} {w:World} {spare:Nat->Bool} {fuel:Nat} {cs:List Value} {x:DataW H × List MemPlace} {k:IntKind} (hu:P.underlying t=some (.int k)) (h:DataW.trod enc P w 0 spare true fuel t cs=some x):
  ∃ n,cs=[.int k n]/\(Lit.int k n).wf=true:=by
 cases fuel with
 | zero=>simp [DataW.trod] at h
 | succ m=>
  cases cs with
  | nil=>simp [DataW.trod,hu] at h
  | cons v tl=>
   cases tl with
   | cons u tl=>simp [DataW.trod,hu] at h
   | nil=>
    cases v<;>simp [DataW.trod,hu] at h
    rename_i k' n
    obtain ⟨⟨rfl,hw⟩,_⟩:=h
    exact ⟨_,rfl,hw⟩
theorem Qkh {k:IntKind} (hu:P.underlying t=some (.int k)):RD P t (eI k) (fun n=>(Lit.int k n).wf=true):=by
 intro H enc w spare fuel cs x h
 obtain ⟨n,rfl,hw⟩:=trod_int hu h
 exact ⟨n,.cons rfl (.v rfl) .nil,hw⟩
theorem Qzy {α:Type} {e:TypeId} {k:Nat} {enc:α->List DV} {wf:α->Prop} (z:α) (hu:P.underlying t=some (.slice e)) (hk:P.cellsOf e=k) (hk0:0 < k) (he:RD P e enc wf):
  RD P t (eL enc z) (fun xs=>xs.length<=maxLen/\∀ x∈xs,wf x):=by
 intro H enc' w spare fuel cs x h
 rcases open_slice hu h with ⟨rfl,_⟩ | ⟨a,len,cap,m,n,D,Pl,rfl,_,hl,hm,hmm,_,hel⟩
 ·exact ⟨[],.cons rfl .sl0 .nil,by simp,by simp⟩
 have hle:len<=m:=by rw [hmm];split<;>omega
 have Wdx:∀ i,i < len->∃ (cs:List Value) (a':α),cs.length=k/\(∀ j v,cs[j]? = some v->w.cell? (a.add (i * k+j))=some v)/\VRs w (okW w) (enc a') cs/\wf a':=by
  intro i hi
  obtain ⟨cs',h1,h2⟩:=hel i (by omega)
  obtain ⟨a',h3,h4⟩:=he _ _ _ _ _ _ _ h2
  refine ⟨cs',a', ?_, ?_,h3,h4⟩
  ·unfold World.cells? at h1
   rw [if_pos (Nat.zero_le _)] at h1
   rw [<- hk]
   have:=mapM_some_length h1
   simpa using this
  intro j v hj
  unfold World.cells? at h1
  rw [if_pos (Nat.zero_le _)] at h1
  have hj':j < P.cellsOf e:=by
   have:=mapM_some_length h1
   have h5:=(List.getElem?_eq_some_iff.1 hj).1
   simp at this
   omega
  have:=mapM_some_get h1 j j (by simp [hj'])
  rw [hj,hk] at this
  rw [<- add_add]
  exact this
 rcases Nat.eq_zero_or_pos len with h0 | h0
 ·subst h0
  exact ⟨[],.cons rfl .sl0 .nil,by simp,by simp⟩
 obtain ⟨b,o,sp⟩:=a
 have hsp:sp=none/\b < w.heap.size:=by
  obtain ⟨cs0,a0,q1,q2,q3,q4⟩:=Wdx 0 h0
  have hc:∃ v,cs0[0]? = some v:=⟨cs0[0]'(by omega),List.getElem?_eq_getElem (by omega)⟩
  obtain ⟨v,hv⟩:=hc
  have:=q2 0 v hv
  have e0:(⟨b,o,sp⟩:Addr).add (0 * k+0)=⟨b,o,sp⟩:=by simp [Addr.add]
  rw [e0] at this
  unfold World.cell? at this
  split at this
  ·rename_i hh
   refine ⟨?_, ?_⟩
   ·cases sp with
    | none=>rfl
    | some _=>simp at this
   exact (Array.getElem?_eq_some_iff.1 hh).1
  cases this
 obtain ⟨rfl,hb⟩:=hsp
 have choose:∃ (f:Nat->List Value) (g:Nat->α),∀ i,i < len->(f i).length=k/\(∀ j v,(f i)[j]? = some v->w.cell? ⟨b,o+i * k+j,none⟩=some v)/\VRs w (okW w) (enc (g i)) (f i)/\wf (g i):=by
  refine ⟨fun i=>if hi:i < len then Classical.choose (Wdx i hi) else [],fun i=>if hi:i < len then Classical.choose (Classical.choose_spec (Wdx i hi)) else z,fun i hi=>?_⟩
  simp only [dif_pos hi]
  obtain ⟨q1,q2,q3,q4⟩:=Classical.choose_spec (Classical.choose_spec (Wdx i hi))
  refine ⟨q1,fun j v hj=>?_,q3,q4⟩
  have:=q2 j v hj
  rw [Qgx] at this
  rw [Nat.add_assoc]
  exact this
 obtain ⟨f,g,hfg⟩:=choose
 let xs:=(List.range len).map g
 have hxl:xs.length=len:=by simp [xs]
 have hx:∀ i,i < len->xs.getD i z=g i:=by
  intro i hi
  simp [xs,hi]
 refine ⟨xs,.cons rfl ?_ .nil,by rw [hxl];omega,fun y hy=>?_⟩
 ·rw [hxl]
  exact .sl k f h0 hl hb (fun i hi=>(hfg i hi).1) (fun i hi=>by simp only [vec];rw [hx i hi];exact (hfg i hi).2.2.1) (fun i j v hi hj=>(hfg i hi).2.1 j v hj)
 obtain ⟨i,hi,rfl⟩:=List.mem_map.1 hy
 exact (hfg i (by simpa using hi)).2.2.2
theorem VRs.app {w:World} {ok:Bool->Nat->Prop}:∀ {xs ys:List DV} {vs us:List Value},VRs w ok xs vs->VRs w ok ys us->VRs w ok (xs ++ ys) (vs ++ us)
 | _,_,_,_,.nil,k=>k
 | _,_,_,_,.cons h1 h hs,k=>.cons h1 h (VRs.app hs k)
def RF (P:Program) (fs:List Field) (off till:Nat) {α:Type} (e:α->List DV) (wf:α->Prop):Prop:=
 off<=till/\∀ (H:Type) (enc:TypeId × Value->H) (w:World) (spare:Nat->Bool) (fuel:Nat) (cs:List Value),cs.length=till ->
  (∀ f∈fs,∃ x:DataW H × List MemPlace,DataW.trod enc P w 0 spare true fuel f.type ((cs.drop f.offset).take (P.cellsOf f.type))=some x)->∃ a:α,VRs w (okW w) (e a) (cs.drop off)/\wf a
theorem Qz0 (till:Nat):RF P [] till till (fun _:Unit=>[]) (fun _=>True):=
 ⟨Nat.le_refl _,fun _ _ w _ _ cs h _=>⟨(),by rw [List.drop_of_length_le (by omega)];exact .nil,trivial⟩⟩
theorem Qh9 {α β:Type} {f:Field} {fs:List Field} {off n till:Nat} {e:α->List DV} {wf:α->Prop} {e':β->List DV} {wf':β->Prop} (h:RD P f.type e wf) (ho:f.offset=off) (hn:P.cellsOf f.type=n) (hs:RF P fs (off+n) till e' wf'):
  RF P (f :: fs) off till (fun p:α × β=>e p.1 ++ e' p.2) (fun p=>wf p.1/\wf' p.2):=by
 obtain ⟨hle,hs⟩:=hs
 refine ⟨by omega,fun H enc w spare fuel cs hl hx=>?_⟩
 obtain ⟨x,hx1⟩:=hx f (List.mem_cons_self ..)
 obtain ⟨a,a1,a2⟩:=h _ _ _ _ _ _ _ hx1
 obtain ⟨b,b1,b2⟩:=hs H enc w spare fuel cs hl (fun g hg=>hx g (List.mem_cons_of_mem _ hg))
 refine ⟨(a,b), ?_,a2,b2⟩
 have:cs.drop off=(cs.drop off).take n ++ cs.drop (off+n):=by
  rw [<- List.drop_drop,List.take_append_drop]
 rw [this]
 rw [ho,hn] at a1
 exact a1.app b1
theorem Qq6 {α β:Type} {fs:Array Field} {n:Nat} {e:β->List DV} {wf:β->Prop} {e':α->List DV} {wf':α->Prop} (hu:P.underlying t=some (.struct fs)) (hn:P.cellsOf t=n) (h:RF P fs.toList 0 n e wf)
  (f:β->α) (he:∀ b,e b=e' (f b)) (hw:∀ b,wf b->wf' (f b)):RD P t e' wf':=by
 intro H enc w spare fuel cs x hx
 obtain ⟨xs,m,_,_,hl,hxl,Qd8⟩:=DataW.trod_struct hu hx
 obtain ⟨b,b1,b2⟩:=h.2 H enc w spare m cs (by rw [hl,hn]) (fun g hg=>by
  obtain ⟨i,hi⟩:=List.mem_iff_getElem?.1 hg
  have:=Qd8 i g (by simpa using hi)
  have hlt:i < fs.size:=by
   have:=(List.getElem?_eq_some_iff.1 hi).1
   simpa using this
  exact ⟨xs[i]'(by omega),by rw [this,List.getElem?_eq_getElem (by omega)]⟩)
 exact ⟨f b,by rw [<- he];simpa using b1,hw b b2⟩
end
theorem Wbu {P:Program} {α:Type} {t:TypeId} {e:α->List DV} {wf:α->Prop} (h:RD P t e wf) {H:Type} {enc:TypeId × Value->H} {w:World} {spare:Nat->Bool} {v:Value} {d:DataW H} {p:List MemPlace} (hd:DataW.Trod enc P w 0 spare true t v d p):
  ∃ a:α,VRs w (okW w) (e a) v.cells.toList/\wf a:=by
 obtain ⟨fuel,hf⟩:=hd
 exact h _ _ _ _ _ _ _ hf
theorem Wit {w:World} {ok:Bool->Nat->Prop} {x:DV} {v:Value} (h:VRs w ok [x] [v]):VR w ok x v:=by
 cases h with
 | cons _ h _=>exact h
def Qjh (P:Program) (W:World):Ctx:={ P:=P,w0:=W,μ0:=[],okp:=fun b=>b < W.heap.size }
theorem Whi {P:Program} {f:FuncId} {args:List AV} {b:Bool} (h:Xt P f [] args [] (.d (.v (.bool b)))) {W:World} {vs:List Value} (ha:Qaw W (okW W) [] args vs):
  Calls P f vs.toArray W fun e w'=>e=.returned (.bool b)/\Below W.heap.size W w':=by
 have Zb:Wt (Qjh P W) ⟨[],[],W⟩:=⟨rfl,rfl,rfl,⟨rfl,Nat.le_refl _⟩,Nat.le_refl _,fun _ _ _=>rfl,fun _ cs _ h=>⟨cs,h,rfl⟩,fun _ _ h=>h,fun _ _ h=>by simp at h,fun _ _ _ _ _ h=>by simp at h,fun _ _ _ _ h=>by simp at h,fun _ _ _ _ _ _ _ h=>by simp at h,fun _ _ _ h=>by simp at h⟩
 have Jj:∀ t b,okW W t b->(⟨[],[],W⟩:Qq).ok (Qjh P W) t b:=fun t b hb=>⟨hb,by rintro ⟨_,_,_,h,_⟩;simp at h,fun _=>.inl hb⟩
 have:=h (Qjh P W) vs rfl (fun b hb=>⟨hb,by simp [Ctx.Qbj,Qjh]⟩) Zb (by
  exact Qaw.mono Jj (fun _ _ _=>rfl) (fun _ _ h=>h) (fun _ cs _ h=>⟨cs,h,rfl⟩) ha)
 refine this.mono ?_
 rintro e w' ⟨v,μ',rfl,hd⟩
 have hv:=hd.ret.Qbt
 subst hv
 refine ⟨rfl,hd.rel.os,hd.rel.tape,hd.rel.output.1,hd.rel.size,fun k hk=>hd.rel.keep k hk (by simp [Ctx.Qbj,Qjh])⟩
end Go.Sy
namespace Go.Sy
open Go.Proofs Go.Shelf Go.Sort Go.Lib
section
variable {X:Ctx} {C:Qq}
def Qq.grown (C:Qq) (w':World):Qq:={ C with w:=w' }
structure Grown (w w':World):Prop where
 os:w'.os=w.os
 tape:w'.tape=w.tape
 output:w'.output=w.output/\w.drawn<=w'.drawn
 size:w.heap.size<=w'.heap.size
 old:∀ b,b < w.heap.size->w'.heap[b]? = w.heap[b]?
theorem Wt.Qim (h:Wt X C) {w':World} (g:Grown C.w w') {i:Nat} {m:Option Nat} {r:Row} (h1:C.μ[i]? = some m) (h2:C.rows[i]? = some r):(∀ k,m=some k->w'.heap[k]? = C.w.heap[k]?)/\∀ c∈r.ext C.w m,w'.heap[c]? = C.w.heap[c]?:=
 ⟨fun k e=>g.old k (h.place i k (e▸h1)).2,fun c hc=>g.old c (h.Qb4 i m c r h1 h2 hc).2⟩
theorem Qq.Wec (h:Wt X C) {w':World} (g:Grown C.w w') {b:Nat}:(C.grown w').live b↔C.live b:=by
 constructor
 ·rintro ⟨i,m,r,h1,h2,h3,h4⟩
  obtain ⟨q1,q2⟩:=h.Qim g h1 h2
  exact ⟨i,m,r,h1,h2,h3,(Row.Qhv r q1 q2).1 h4⟩
 rintro ⟨i,m,r,h1,h2,h3,h4⟩
 obtain ⟨q1,q2⟩:=h.Qim g h1 h2
 exact ⟨i,m,r,h1,h2,h3,(Row.Qhv r q1 q2).2 h4⟩
theorem Ev.grown (h:Wt X C) {w':World} (g:Grown C.w w'):Ev X C (C.grown w'):=
 ⟨g.size,fun b hb _=>g.old b hb,fun b _ hl hk=>hl ((Qq.Wec h g).1 hk),fun b cs ty hc=>⟨cs,(g.old b (Array.getElem?_eq_some_iff.1 hc).1).trans hc,rfl⟩,fun _ _ hx=>hx⟩
theorem Wt.grown (h:Wt X C) {w':World} (g:Grown C.w w'):Wt X (C.grown w'):=by
 have ev:=Ev.grown h g
 refine ⟨h.len,g.os.trans h.os,g.tape.trans h.tape,⟨g.output.1.trans h.output.1,Nat.le_trans h.output.2 g.output.2⟩,Nat.le_trans h.size g.size, ?_, ?_,h.first, ?_,h.apart, ?_, ?_, ?_⟩
 ·intro b hb ho
  rw [<- h.keep b hb ho]
  exact g.old b (Nat.lt_of_lt_of_le hb h.size)
 ·intro b cs ty hc
  obtain ⟨cs',h1,h2⟩:=h.shape b cs ty hc
  obtain ⟨cs2,h3,h4⟩:=ev.shape b cs' ty h1
  exact ⟨cs2,h3,h4.trans h2⟩
 ·intro id b hb
  have:=h.place id b hb
  exact ⟨this.1,Nat.lt_of_lt_of_le this.2 g.size⟩
 ·intro i m b r h1 h2 h3
  obtain ⟨q1,q2⟩:=h.Qim g h1 h2
  rw [show (C.grown w').w=w' from rfl,Row.Qc3 r q1 q2] at h3
  have:=h.Qb4 i m b r h1 h2 h3
  exact ⟨this.1,Nat.lt_of_lt_of_le this.2 g.size⟩
 ·intro i j m n b r s h1 h2 h3 h4 h5 h6
  obtain ⟨q1,q2⟩:=h.Qim g h1 h3
  obtain ⟨q3,q4⟩:=h.Qim g h2 h4
  rw [show (C.grown w').w=w' from rfl] at h5 ⊢
  rw [Row.Qc3 r q1 q2] at h5
  rw [Row.Qc3 s q3 q4]
  exact h.Qb7 i j m n b r s h1 h2 h3 h4 h5 h6
 intro id ob r h1 h2
 refine (h.rel id ob r h1 h2).mono ev.ok ev.same ev.pre ev.shape ?_ ?_
 ·exact (h.Qim g h1 h2).1
 exact (h.Qim g h1 h2).2
end
noncomputable def Ja {α:Type} (z:α) (cf:α->α->Int) (xs:List α):List α:=
 letI:Inhabited α:=⟨z⟩
 (pdq (ltOf cf) xs.toArray 0 xs.toArray.size (Lib.bitLen xs.toArray.size) true true).toList
theorem Qpm {α:Type} (z:α) {cf:α->α->Int} (hO:SWO (ltOf cf)) (xs:List α):(Ja z cf xs).Perm xs:=by
 letI:Inhabited α:=⟨z⟩
 have h:=(pdq_sorts (ltOf cf) hO xs.toArray 0 xs.toArray.size (Lib.bitLen xs.toArray.size) true true (Nat.zero_le _) (Nat.le_refl _) (Or.inl rfl)).1
 have h3:=h.2.2
 have hs:=h.1
 have e1:∀ (A:Array α),A.extract 0 A.size=A:=fun A=>by simp
 rw [e1] at h3
 show (pdq (ltOf cf) xs.toArray 0 xs.toArray.size (Lib.bitLen xs.toArray.size) true true).toList.Perm xs
 generalize pdq (ltOf cf) xs.toArray 0 xs.toArray.size (Lib.bitLen xs.toArray.size) true true=Y at h3 hs ⊢
 rw [<- hs,e1] at h3
 exact h3
theorem Qit {α:Type} (z:α) {cf:α->α->Int} (hO:SWO (ltOf cf)) (xs:List α):(Ja z cf xs).length=xs.length:=(Qpm z hO xs).length_eq
theorem Qrb {α:Type} (z:α) {cf:α->α->Int} (hO:SWO (ltOf cf)) (xs:List α):(Ja z cf xs).Pairwise fun x y=>ltOf cf y x=false:=by
 letI:Inhabited α:=⟨z⟩
 have h:=pdq_sorts (ltOf cf) hO xs.toArray 0 xs.toArray.size (Lib.bitLen xs.toArray.size) true true (Nat.zero_le _) (Nat.le_refl _) (Or.inl rfl)
 have hl:=Qit z hO xs
 have hs:=h.2
 rw [List.pairwise_iff_getElem]
 intro i j hi hj hij
 have:=hs i j (Nat.zero_le _) hij (by rw [hl] at hj;simpa using hj)
 have e:∀ q (hq:q < (Ja z cf xs).length),(pdq (ltOf cf) xs.toArray 0 xs.toArray.size (Lib.bitLen xs.toArray.size) true true)[q]! = (Ja z cf xs)[q]:=by
  intro q hq
  have hq':q < (pdq (ltOf cf) xs.toArray 0 xs.toArray.size (Lib.bitLen xs.toArray.size) true true).size:=by simpa [Ja] using hq
  rw [getElem!_pos _ q hq']
  simp [Ja]
 rw [e j hj,e i hi] at this
 exact this
theorem VRs.plain {w:World} {ok:Bool->Nat->Prop}:∀ {cs vs:List Value},VRs w ok (cs.map DV.v) vs->vs=cs
 | [],_,h=>by cases h;rfl
 | c :: cs,_,h=>by
  simp only [List.map_cons] at h
  cases h with
  | cons h1 h hs=>
   cases h with
   | v h=>rw [VRs.plain hs]
theorem VRs.Qrv {w:World} {ok:Bool->Nat->Prop}:∀ {cs:List Value},(∀ v∈cs,v.oneCell'=true)->VRs w ok (cs.map DV.v) cs
 | [],_=>.nil
 | c :: cs,h=>.cons (h c (List.mem_cons_self ..)) (.v (h c (List.mem_cons_self ..))) (VRs.Qrv fun v hv=>h v (List.mem_cons_of_mem _ hv))
theorem Wih {P:Program} {ρ:Ren} {α:Type} (L:SlLaysF0.n6 P ρ) (z:α) (k:Nat) (aE:∀ w,(isAgg (ρ.t 24)).run P w=.ok true w) (zE:∀ w,(Go.sizeOf (ρ.t 24)).run P w=.ok k w)
  (enc:α->List Value) (hk:∀ x,(enc x).length=k) (h1:∀ x,∀ v∈enc x,v.oneCell'=true) (e:α->List DV) (he:∀ x,e x=(enc x).map DV.v) (cf:α->α->Int) (hO:SWO (ltOf cf)) (g:Nat)
  (eg:∀ args w,(callFunc g args).run P w=.ok (.enter g args) w)
  (hc:∀ (x y:α) (W:World),Calls P g #[.agg (enc x).toArray,.agg (enc y).toArray] W fun e w'=>e=.returned (.int .i64 (cf x y))/\∃ q os',w'=grow (W.drewN q) os') {ty:TypeId} {xs:List α} (hsz:xs.length < 4611686018427387904):
  Xt P (ρ.f 6) [.flat false k ty xs.length (vec e z xs)] [.own 0 k 0 xs.length,.d (.fn g [])] [.flat false k ty (Ja z cf xs).length (vec e z (Ja z cf xs))] (.Ql []):=by
 intro X vs hP hF Zb Qb5
 subst hP
 have hlen:=Qit z hO xs
 cases Qb5 with
 | cons ha hs=>
  cases hs with
  | cons hf hn=>
   cases hn
   cases hf with
   | d hf=>
    cases hf with
    | fn hf=>
     cases hf
     have nr:∀ (n:Nat) (ys:List α),NR (.flat false k ty n (vec e z ys)):=fun n ys=>Xa (fun x=>by
      rw [he]
      have:∀ cs:List Value,NLs (cs.map DV.v):=fun cs=>by
       induction cs with
       | nil=>exact .nil
       | cons c cs ih=>exact .cons (.v _) ih
      exact this _)
     have fin:∀ {C':Qq},Wt X C'->C'.rows=[.flat false k ty (Ja z cf xs).length (vec e z (Ja z cf xs))]->Qa3 X ⟨C'.μ,[.flat false k ty (Ja z cf xs).length (vec e z (Ja z cf xs))],C'.w⟩ (.Ql []) (.tuple #[]):=by
      intro C' h hr
      have h':Wt X ⟨C'.μ,[.flat false k ty (Ja z cf xs).length (vec e z (Ja z cf xs))],C'.w⟩:=by rw [<- hr];exact h
      refine ⟨h', ?_,.Ql .nil⟩
      intro j ob r e1 e2
      refine (h'.rel j ob r e1 e2).perm (fun _ h=>⟨rfl,h⟩) ?_
      have:=List.mem_of_getElem? e2
      simp only [List.mem_singleton] at this
      subst this
      exact nr _ _
     generalize hN:xs.length=N at ha hlen
     cases ha with
     | Qbj hm=>
      have hx:xs=[]:=List.length_eq_zero_iff.1 hN
      have hy:Ja z cf xs=[]:=List.length_eq_zero_iff.1 hlen
      refine (AnyF.slices_SortFunc_none L none 0 _ X.w0).mono ?_
      rintro e0 w' ⟨rfl,rfl⟩
      refine ⟨_,X.μ0,rfl,fin (C':=⟨X.μ0,_,X.w0⟩) Zb ?_⟩
      subst hx
      rw [hy]
     | @own _ _ _ _ b c cs ty' hm hh hs' hn Qvb=>
      letI:Inhabited α:=⟨z⟩
      have Qg1:=Zb.rel 0 (some b) _ hm rfl
      obtain ⟨cs2,vs,r1,r2,r3,r4,r5⟩:=Qg1
      have hh2:cs2=cs/\ty=ty':=by
       have:=r1.symm.trans hh
       injection this with this
       injection this with a1 a2 a3
       exact ⟨a1,a2⟩
      obtain ⟨rfl,rfl⟩:=hh2
      have hblk:b < X.w0.heap.size:=(Array.getElem?_eq_some_iff.1 hh).1
      subst hN
      have hvs:∀ i,i < xs.length->vs i=enc (xs.getD i z):=fun i hi=>by
       have:=r4 i hi
       simp only [vec,he] at this
       exact this.plain
      have Qhw:∀ i j,i < xs.length->j < k->cs2[i * k+j]? = some ((enc (xs.getD i z))[j]!):=fun i j hi hj=>by
       refine r5 i j _ hi ?_
       rw [hvs i hi]
       have:j < (enc (xs.getD i z)).length:=by rw [hk];exact hj
       rw [getElem!_pos _ j this]
       exact List.getElem?_eq_getElem this
      have hHolds:HoldsK enc k X.w0 b 0 xs.toArray:=by
       intro j hj
       rw [size_flatK] at hj
       simp only [List.size_toArray] at hj
       have k0:0 < k:=Nat.pos_of_ne_zero (by rintro rfl;simp at hj)
       have hd:j / k < xs.length:=Nat.div_lt_of_lt_mul (by rw [Nat.mul_comm];exact hj)
       have hm':j % k < k:=Nat.mod_lt _ k0
       rw [get_flatK _ _ _ _ (by simpa using hj)]
       have hc2:=Qhw (j / k) (j % k) hd hm'
       rw [show j / k * k+j % k=j by rw [Nat.mul_comm];exact Nat.div_add_mod j k] at hc2
       have hx:xs.toArray[j / k]! = xs.getD (j / k) z:=by
        rw [getElem!_pos _ _ (by simpa using hd)]
        simp [hd]
       refine ⟨?_, ?_⟩
       ·simp only [World.cell?,hh,hx]
        simpa using hc2
       simp only [World.frozen?,hh]
       simp
      have hz0:b * 1=b:=by omega
      have main:=AnyQ.slices_SortFunc_eq L k aE zE enc hk h1 cf hO g #[] b 0 c xs.toArray X.w0 eg (fun m os dk _ x y=>by simpa using hc x y _) hHolds hblk (by simpa using hsz)
      rw [show ([Value.slice (some ⟨b,0 * k,none⟩) xs.length c,Value.func (.func g) #[] ([]:List Value).toArray]:List Value).toArray=#[.slice (some ⟨b,0,none⟩) xs.toArray.size c,.func (.func g) #[] #[]] by simp]
      refine main.mono ?_
      rintro e0 w' ⟨rfl,n,os,rfl⟩
      have hyl:(pdq (ltOf cf) xs.toArray 0 xs.toArray.size (Lib.bitLen xs.toArray.size) true true).toList=Ja z cf xs:=rfl
      generalize hY:pdq (ltOf cf) xs.toArray 0 xs.toArray.size (Lib.bitLen xs.toArray.size) true true=ya at hyl
      have hya:ya.size=xs.length:=by rw [<- hlen,<- hyl];simp
      have hw1:(putRowK enc k (Sort.ahead X.w0 n) b 0 ya).heap=X.w0.heap.modify b (onCells (putCells id 0 (flatK enc k ya))):=rfl
      let C0:Qq:=⟨X.μ0,[.flat false k ty xs.length (vec e z xs)],X.w0⟩
      have hat:(putRowK enc k (Sort.ahead X.w0 n) b 0 ya).heap[b]? = some (.cells (putCells id 0 (flatK enc k ya) cs2) ty (0,0)):=by
       rw [hw1]
       simp [Array.getElem?_modify,hh,onCells]
      have Qnn:(putCells id 0 (flatK enc k ya) cs2).size=cs2.size:=by simp [putCells]
      have tu:Qgo X C0 0 b (.flat false k ty xs.length (vec e z xs)) (.flat false k ty (Ja z cf xs).length (vec e z (Ja z cf xs))) (putRowK enc k (Sort.ahead X.w0 n) b 0 ya):=by
       refine ⟨hm,rfl,rfl,rfl,rfl,⟨rfl,Nat.le_add_right _ _⟩, ?_, ?_, ?_,fun _ _=>rfl,fun _ _=>rfl⟩
       ·rw [hw1];simp [C0]
       ·intro q hq
        rw [hw1]
        simp [C0,Array.getElem?_modify,Ne.symm hq]
       intro cs3 ty3 h3
       have:cs3=cs2/\ty3=ty:=by
        have:=h3.symm.trans hh
        injection this with this
        injection this with a1 a2 a3
        exact ⟨a1,a2⟩
       obtain ⟨rfl,rfl⟩:=this
       exact ⟨_,hat,Qnn⟩
      have hrow2:∀ (ok:Bool->Nat->Prop),Qbg (putRowK enc k (Sort.ahead X.w0 n) b 0 ya) ok X.μ0 (some b) (.flat false k ty (Ja z cf xs).length (vec e z (Ja z cf xs))):=by
       intro ok
       refine ⟨_,fun i=>enc ((Ja z cf xs).getD i z),hat, ?_,fun i _=>hk _,fun i _=>?_, ?_⟩
       ·rw [Qnn,hlen];exact r2
       ·simp only [vec,he]
        exact VRs.Qrv (h1 _)
       intro i j v hi hj
       have hjk:j < k:=by
        have:=(List.getElem?_eq_some_iff.1 hj).1
        rwa [hk] at this
       rw [hlen] at hi
       have lt:i * k+j < xs.length * k:=by
        have:=Nat.mul_le_mul_right k (show i+1<=xs.length from hi)
        rw [Nat.add_mul,Nat.one_mul] at this
        omega
       have e1:(i * k+j) / k=i:=(blk_iff k i _ (by omega)).1 ⟨by omega,by omega⟩
       have e2:(i * k+j) % k=j:=by rw [Nat.mod_eq_sub_div_mul,e1];omega
       have lt2:i * k+j < cs2.size:=Nat.lt_of_lt_of_le lt r2
       have lty:i * k+j < ya.size * k:=by rw [hya];exact lt
       simp only [putCells,Array.getElem?_mapIdx]
       rw [Array.getElem?_eq_getElem lt2]
       simp only [Option.map_some,Nat.zero_le,true_and,Nat.zero_add,size_flatK,lty,if_true,Nat.sub_zero,id]
       rw [get_flatK _ _ _ _ lty,e1,e2]
       have hyi:ya[i]! = (Ja z cf xs).getD i z:=by
        rw [getElem!_pos _ _ (by omega),<- hyl]
        simp [hya,hi]
       rw [hyi]
       have:j < (enc ((Ja z cf xs).getD i z)).length:=by rw [hk];exact hjk
       rw [getElem!_pos _ j this,<- hj]
       exact (List.getElem?_eq_getElem this).symm
      have h2:=Wt.Yw (C:=C0) Zb tu (.inl (by simp)) (hrow2 _)
      have h3:=h2.grown (w':=sortWorldK enc k X.w0 b 0 n ya os) ⟨rfl,rfl,⟨rfl,Nat.le_refl _⟩,by simp [sortWorldK,grow,Qq.Yw],fun q hq=>by
       simp only [sortWorldK,grow,Qq.Yw] at hq ⊢
       exact Array.getElem?_append_left hq⟩
      exact ⟨_,X.μ0,rfl,fin h3 rfl⟩
theorem Quw {P:Program} {ρ:Ren} {α:Type} (L:SlLaysF0.n6 P ρ) (z:α) (k:Nat) (aE:∀ w,(isAgg (ρ.t 24)).run P w=.ok true w) (zE:∀ w,(Go.sizeOf (ρ.t 24)).run P w=.ok k w)
  (enc:α->List Value) (hk:∀ x,(enc x).length=k) (h1:∀ x,∀ v∈enc x,v.oneCell'=true) (e:α->List DV) (he:∀ x,e x=(enc x).map DV.v) (cf:α->α->Int) (hO:SWO (ltOf cf)) (g:Nat)
  (eg:∀ args w,(callFunc g args).run P w=.ok (.enter g args) w)
  (hc:∀ (x y:α) (W:World),Calls P g #[.agg (enc x).toArray,.agg (enc y).toArray] W fun e w'=>e=.returned (.int .i64 (cf x y))/\∃ q os',w'=grow (W.drewN q) os') {ty:TypeId} {xs:List α} (hsz:xs.length < 4611686018427387904):
  Xt P (ρ.f 6) [.flat false k ty xs.length (vec e z xs)] [.own 0 k 0 xs.length,.d (.fn g [])] [.flat false k ty xs.length (vec e z (Ja z cf xs))] (.Ql []):=by
 have h:=Wih L z k aE zE enc hk h1 e he cf hO g eg hc (ty:=ty) hsz
 rw [Qit z hO xs] at h
 exact h
theorem Qv8 {P:Program} {g:FuncId} {α:Type} {enc:α->List Value} {e:α->List DV} (h1:∀ x,∀ v∈enc x,v.oneCell'=true) (he:∀ x,e x=(enc x).map DV.v) {cf:α->α->Int}
  (hs:∀ x y,Xt P g [] [.d (.agg (e x)),.d (.agg (e y))] [] (.d (.v (.int .i64 (cf x y))))) (x y:α) (W:World):
  Calls P g #[.agg (enc x).toArray,.agg (enc y).toArray] W fun e w'=>e=.returned (.int .i64 (cf x y))/\∃ q os',w'=grow (W.drewN q) os':=by
 have h0:Wt (Qjh P W) ⟨[],[],W⟩:=⟨rfl,rfl,rfl,⟨rfl,Nat.le_refl _⟩,Nat.le_refl _,fun _ _ _=>rfl,fun _ _ _ k=>⟨_,k,rfl⟩,fun _ _ k=>k,fun _ _ h=>by simp at h,fun _ _ _ _ _ h=>by simp at h,fun _ _ _ _ h=>by simp at h,fun _ _ _ _ _ _ _ h=>by simp at h,fun _ _ _ h=>by simp at h⟩
 have hv:∀ x,VR W ((⟨[],[],W⟩:Qq).ok (Qjh P W)) (.agg (e x)) (.agg (enc x).toArray):=fun x=>by
  rw [he]
  exact .agg (VRs.Qrv (h1 x))
 have:=hs x y (Qjh P W) [.agg (enc x).toArray,.agg (enc y).toArray] rfl (fun b hb=>⟨hb,by simp [Ctx.Qbj,Qjh]⟩) h0 (.cons (.d (hv x)) (.cons (.d (hv y)) .nil))
 refine this.mono ?_
 rintro e0 w' ⟨v,μ',rfl,hd⟩
 have hr:=hd.ret
 cases hr with
 | d hr=>
  cases hr with
  | v hr=>
   refine ⟨rfl,w'.drawn - W.drawn,w'.heap.extract W.heap.size w'.heap.size, ?_⟩
   have hk:=hd.rel.keep
   have hsz:=hd.rel.size
   have ho:=hd.rel.output
   have hos:=hd.rel.os
   have ht:=hd.rel.tape
   simp only [Qjh] at hk hsz ho hos ht
   have hh:w'.heap=W.heap ++ w'.heap.extract W.heap.size w'.heap.size:=by
    apply Array.ext_getElem?
    intro i
    by_cases hi:i < W.heap.size
    ·rw [Array.getElem?_append_left hi]
     exact hk i hi (by simp [Ctx.Qbj])
    rw [Array.getElem?_append_right (by omega),Array.getElem?_extract]
    by_cases hi2:i < w'.heap.size
    ·rw [if_pos (by omega)]
     congr 1
     omega
    rw [if_neg (by omega)]
    exact Array.getElem?_eq_none (by omega)
   cases w'
   cases W
   simp only at hh ho hos ht hsz ⊢
   obtain ⟨ho1,ho2⟩:=ho
   subst hos
   subst ht
   subst ho1
   simp only [grow,World.drewN,World.mk.injEq,true_and,and_true]
   exact ⟨hh,by omega⟩
end Go.Sy
