/- Words of the printed functions and of their proofs; the last rules. -/
import Derived.Test.YticmlllaimjdcaaGreatSyK
import Derived.KernelRfl
import Derived.ChangeArms
import Derived.Deep.Slices
import Derived.WideShapes
import Derived.RangeFuncIn
import Derived.RangeFuncRecord
set_option linter.unusedVariables false
set_option linter.unusedSimpArgs false
namespace Go.Sy
def bnd {α β:Type} (x:α) (f:α->β):β:=f x
def Qf6 (a b:Int):Int:=if a < b then b else a
def Qh3 (a b:Int):Int:=if b < a then b else a
def stk {σ ρ:Type} (o:Option (σ ⊕ ρ)) (g:σ->Option ρ):Option ρ:=
 match o with
 | none=>none
 | some (.inl s)=>g s
 | some (.inr r)=>some r
def iter {σ ρ:Type} (step:σ->Option (σ ⊕ ρ)):Nat->σ->Option ρ
 | 0,_=>none
 | n+1,s=>stk (step s) (iter step n)
open Classical in
noncomputable def Xf {σ ρ:Type} (step:σ->Option (σ ⊕ ρ)) (s:σ):Option ρ:=
 if h:∃ n,(iter step n s).isSome=true then iter step (Classical.choose h) s else none
theorem Qq2 {σ ρ:Type} {step:σ->Option (σ ⊕ ρ)}:∀ {n m:Nat} {s:σ} {r:ρ},iter step n s=some r->n<=m->iter step m s=some r
 | 0,_,_,_,h,_=>by simp [iter] at h
 | n+1,0,_,_,_,h=>by omega
 | n+1,m+1,s,r,h,hm=>by
  simp only [iter] at h ⊢
  generalize step s=o at h ⊢
  match o,h with
  | some (.inl s'),h=>exact Qq2 (n:=n) h (by omega)
  | some (.inr r'),h=>exact h
theorem Qpq {σ ρ:Type} {step:σ->Option (σ ⊕ ρ)} {s:σ} {r:ρ}:Xf step s=some r↔∃ n,iter step n s=some r:=by
 unfold Xf
 constructor
 ·intro h
  split at h
  ·exact ⟨_,h⟩
  cases h
 rintro ⟨n,h⟩
 have hx:∃ n,(iter step n s).isSome=true:=⟨n,by rw [h];rfl⟩
 rw [dif_pos hx]
 obtain ⟨r',h'⟩:=Option.isSome_iff_exists.1 (Classical.choose_spec hx)
 rw [h']
 rcases Nat.le_total n (Classical.choose hx) with e | e
 ·rw [Qq2 h e] at h'
  exact h'.symm
 rw [Qq2 h' e] at h
 exact h
theorem Qbp {σ ρ:Type} {step:σ->Option (σ ⊕ ρ)} {s:σ} {r:ρ} (h:Xf step s=some r):∃ n,iter step n s=some r:=Qpq.1 h
theorem Zc {σ ρ:Type} {step:σ->Option (σ ⊕ ρ)} {s:σ}:Xf step s=stk (step s) (Xf step):=by
 apply Option.ext
 intro r
 rw [Qpq]
 constructor
 ·rintro ⟨n,h⟩
  cases n with
  | zero=>simp [iter] at h
  | succ n=>
   simp only [iter] at h
   generalize step s=o at h
   match o,h with
   | some (.inl s'),h=>exact Qpq.2 ⟨n,h⟩
   | some (.inr r'),h=>exact h
 intro h
 generalize e:step s=o at h
 match o,h,e with
 | some (.inl s'),h,e=>
  obtain ⟨n,h⟩:=Qpq.1 h
  exact ⟨n+1,by simp only [iter,e];exact h⟩
 | some (.inr r'),h,e=>exact ⟨1,by simp only [iter,e];exact h⟩
theorem Wan {σ ρ:Type} {step:σ->Option (σ ⊕ ρ)} (I:σ->Prop) (μ:σ->Nat) (post:ρ->Prop)
  (h:∀ s,I s->(∃ s',step s=some (.inl s')/\I s'/\μ s' < μ s)\/∃ r,step s=some (.inr r)/\post r):∀ s,I s->∃ r,Xf step s=some r/\post r:=by
 have key:∀ n s,μ s<=n->I s->∃ r,Xf step s=some r/\post r:=by
  intro n
  induction n with
  | zero=>
   intro s hn hs
   rcases h s hs with ⟨s',_,_,h3⟩ | ⟨r,h1,h2⟩
   ·omega
   exact ⟨r,by rw [Zc,h1];rfl,h2⟩
  | succ n ih=>
   intro s hn hs
   rcases h s hs with ⟨s',h1,h2,h3⟩ | ⟨r,h1,h2⟩
   ·obtain ⟨r,e1,e2⟩:=ih s' (by omega) h2
    exact ⟨r,by rw [Zc,h1];exact e1,e2⟩
   exact ⟨r,by rw [Zc,h1];rfl,h2⟩
 exact fun s=>key (μ s) s (Nat.le_refl _)
section
variable {α β γ σ ρ:Type} {K:α->β} {c:Prop} [Decidable c] {a b:α} {x:β} {y:γ}
theorem Wlq {K:Option α->Option γ} {a:Option α} (h0:K none=none) (H:K (if c then a else none)=some y):c/\K a=some y:=by
 by_cases h:c
 ·exact ⟨h,by rwa [if_pos h] at H⟩
 rw [if_neg h,h0] at H;cases H
theorem Wjv {δ:Type} {K:Option α->Option γ} {o:Option δ} {f:δ->Option α} (h0:K none=none) (H:K (o.bind f)=some y):∃ v,o=some v/\K (f v)=some y:=by
 cases o with
 | none=>rw [Option.bind_none,h0] at H;cases H
 | some v=>exact ⟨v,rfl,H⟩
theorem Xr {a b:α} (H:some a=some b):a=b:=by injection H
theorem Qal {step:σ->Option (σ ⊕ ρ)} {s:σ} {r:ρ} {p:Prop} (H:iter step 0 s=some r):p:=by cases H
end
theorem eqT {a b:Int} (h:a=b):(a == b)=true:=by simp [h]
theorem eqF {a b:Int} (h:¬ a=b):(a == b)=false:=by simp [h]
theorem neT {a b:Int} (h:¬ a=b):(a != b)=true:=by simp [h]
theorem neF {a b:Int} (h:a=b):(a != b)=false:=by simp [h]
theorem Jo {b:Bool} (h:¬ b=true):b=false:=by simpa using h
theorem ltN {i:Int} {n:Nat} (h0:0<=i) (h1:i < n):i.toNat < n:=by omega
def eI (k:IntKind) (n:Int):List DV:=[.v (.int k n)]
def eB (b:Bool):List DV:=[.v (.bool b)]
def eS (s:ByteArray):List DV:=[.v (.string s)]
def eL {α:Type} (e:α->List DV) (z:α) (xs:List α):List DV:=[.sl true xs.length (vec e z xs)]
theorem nlB (b:Bool):NLs (eB b):=.cons (.v _) .nil
theorem Qat {α:Type} {e:α->List DV} {z:α} (h:∀ x,NLs (e x)) {fz:Bool} {k ty n:Nat} {xs:List α}:NR (.flat fz k ty n (vec e z xs)):=.flat fun _ _=>h _
theorem all_nil {r:Row} (h:r∈([]:List Row)):NR r:=by cases h
theorem all_cons {r s:Row} {rs:List Row} (h1:NR s) (h2:∀ r∈rs,NR r) (h:r∈s :: rs):NR r:=by
 rcases List.mem_cons.1 h with rfl | h
 ·exact h1
 exact h2 r h
theorem Qgq {rows:List Row} {ids:List Nat} {ρ:Nat->Nat}:∀ (cs:List DV),Qgv rows ids ρ (List.map AV.d cs) (List.map AV.d cs)
 | []=>.nil
 | x :: cs=>.cons (.same (.d x)) (Qgq cs)
theorem Wj {rows:List Row} {ids:List Nat} {ρ:Nat->Nat} (x:DV):Pass rows ids ρ (.d x) (.d x):=.same (.d x)
section
variable {X:Ctx} {T:Tab} {f:FuncId} {k k':List Item} {Q:Frame->Frame->Wt->Prop} {st st':St}
theorem Qdj (S:List Nat) (i:Nat) (kk:Nat) (ty:TypeId) (g:Nat->List DV) (e:st.tm.lookup i=some (.d (.v (.slice none 0 0))))
  (ht:St.only S ⟨st.nt,(i,.own st.rows.length kk 0 0) :: st.tm,st.rows ++ [.flat false kk ty 0 g]⟩=st') (h:AK X f k Q st'):AK X f k Q st:=by
 subst ht
 exact Wlf i kk ty g _ e rfl (Qel S h)
theorem Qg3 (S:List Nat) (i:Nat) {av:AV} {y:DV} (e:st.tm.lookup i=some av) (hs:Qlv st.rows av y) (he:St.only S { st with tm:=(i,.d y) :: st.tm }=st') (h:AK X f k Q st'):AK X f k Q st:=by
 subst he
 exact Wkd i e hs rfl (Qel S h)
end
theorem Qmw {α:Type} {enc:α->List DV} {z x:α} {xs:List α} {i:Nat} (h:i < xs.length):vec enc z (xs.set i x) i=enc x:=by
 simp [vec,h]
theorem Qjx {α:Type} {enc:α->List DV} {z x:α} {xs:List α} {i:Nat}:∀ j,j < xs.length->j≠i->vec enc z (xs.set i x) j=vec enc z xs j:=by
 intro j hj hne
 simp [vec,List.getElem?_set,Ne.symm hne]
section
variable {X:Ctx} {T:Tab} {f:FuncId} {k k':List Item} {Q:Frame->Frame->Wt->Prop} {st st':St}
theorem VRs.append {w:World} {ok:Bool->Nat->Prop}:∀ {xs ys:List DV} {vs us:List Value},VRs w ok xs vs->VRs w ok ys us->VRs w ok (xs ++ ys) (vs ++ us)
 | _,_,_,_,.nil,k=>k
 | _,_,_,_,.cons h1 h hs,k=>.cons h1 h (VRs.append hs k)
def Wji (T:Tab) (st:St) (k:List Item):Option (Nat × Nat × Nat × Nat × Nat × List DV × List Item):=
 match Qhn st k with
 | some (o,k')=>
  match o.op with
  | .store t x y=>
   match T.info.lookup t,valOf st.tm x,valOf st.tm y with
   | some (s,_,_),some (.ptr id kk i off),some a=>
    match Qj6 (cellsOf a) with
    | some ds=>bif Nat.beq ds.length s && Nat.ble (off+s) kk && !Qjs a && o.dst.isNone then some (id,kk,i,off,s,ds,k') else none
    | none=>none
   | _,_,_=>none
  | _=>none
 | none=>none
theorem Wek (hT:Xb X.P T) {id kk i off s n:Nat} {ty:TypeId} {ds:List DV} {g:Nat->List DV} (g':Nat->List DV) (e:Wji T st k=some (id,kk,i,off,s,ds,k')) (hr:st.rows[id]? = some (.flat false kk ty n g)) (h1:i < n)
  (hg:g' i=(g i).take off ++ ds ++ (g i).drop (off+s)) (hg2:∀ j,j < n->j≠i->g' j=g j) (hs:st'={ st with rows:=st.rows.set id (.flat false kk ty n g') }) (h:AK X f k' Q st'):AK X f k Q st:=by
 subst hs
 unfold Wji at e
 split at e
 ·rename_i o k3 Qg7
  split at e
  ·rename_i t x y hop
   split at e
   ·rename_i s0 by' z id0 kk0 i0 Qex a hi hx hy
    split at e
    ·rename_i ds0 hds
     cases hb:(Nat.beq ds0.length s0 && Nat.ble (Qex+s0) kk0 && !Qjs a && o.dst.isNone) with
     | false=>rw [hb] at e;cases e
     | true=>
      rw [hb] at e
      simp only [cond_true,Option.some.injEq,Prod.mk.injEq] at e
      obtain ⟨rfl,rfl,rfl,rfl,rfl,rfl,rfl⟩:=e
      simp only [Bool.and_eq_true,Bool.not_eq_true',Option.isNone_iff_eq_none] at hb
      obtain ⟨⟨⟨b1,b2⟩,b3⟩,b4⟩:=hb
      have b1:=Nat.eq_of_beq_eq_true b1
      have b2:=Nat.le_of_ble_eq_true b2
      refine Qsr Qg7 b4 h fun a' C hC=>?_
      obtain ⟨b,hμ,hu⟩:=(hC.val _ _ hx).Qhh
      have Qc5:C.rows[id0]? = some (.flat false kk0 ty n g):=by rw [hC.rows];exact hr
      obtain ⟨cs,vs,r1,r2,r3,r4,r5⟩:=hC.rel.rel id0 _ _ hμ Qc5
      have hv:=Qiy (hC.val _ _ hy) (Qlj b3)
      rw [Qle hds] at hv
      have hv:=hv.toD
      obtain ⟨v,hv0⟩:∃ v,a'.eval y=v:=⟨_,rfl⟩
      rw [hv0] at hv
      have hvl:v.cells.toList.length=s0:=by rw [<- hv.length,b1]
      have hik:i0 * kk0+kk0<=n * kk0:=by rw [<- Nat.succ_mul];exact Nat.mul_le_mul_right kk0 h1
      have hst:=run_storeCells_at X.P b (i0 * kk0+Qex) ty v.cells.toList 0 cs C.w r1 (by omega) hv.one
      let us:Array Value:=(cs.toList.take (i0 * kk0+Qex+0) ++ v.cells.toList ++ cs.toList.drop (i0 * kk0+Qex+0+v.cells.toList.length)).toArray
      have hus:us.size=cs.size:=by
       simp only [us,List.size_toArray,List.length_append,List.length_take,List.length_drop,Array.length_toList,hvl]
       omega
      have tu:=Qjo (r':=.flat false kk0 ty n g') hC.rel hμ Qc5 rfl r1 hus
      have ev:=Ev.Qah hC.rel tu
      have Qhl:∀ q,us[q]? = if q < i0 * kk0+Qex then cs[q]? else if q < i0 * kk0+Qex+s0 then v.cells.toList[q - (i0 * kk0+Qex)]? else cs[q]?:=by
       intro q
       simp only [us,List.getElem?_toArray,Nat.add_zero]
       have hl1:(cs.toList.take (i0 * kk0+Qex)).length=i0 * kk0+Qex:=by rw [List.length_take,Array.length_toList];omega
       rw [List.getElem?_append,List.length_append,hl1,hvl]
       split
       ·rename_i hq
        rw [List.getElem?_append,hl1]
        split
        ·rename_i hq2
         rw [List.getElem?_take_of_lt hq2]
         simp
        rfl
       rename_i hq
       rw [if_neg (by omega)]
       rw [List.getElem?_drop,show i0 * kk0+Qex+s0+(q - (i0 * kk0+Qex+s0))=q from by omega]
       simp
      have Jz:Yd X (C.Qah id0 (.flat false kk0 ty n g') (C.w.setRow b us)):=by
       refine Yd.Qah hC.rel tu (.inl (by simp)) ⟨us,fun j=>if j=i0 then (vs i0).take Qex ++ v.cells.toList ++ (vs i0).drop (Qex+s0) else vs j,by simpa using setRow_heap _ _ _ _ _ _ r1,by rw [hus];exact r2, ?_, ?_, ?_⟩
       ·intro j hj
        by_cases e:j=i0
        ·subst e
         simp only [if_true,List.length_append,List.length_take,List.length_drop,r3 j hj,hvl]
         omega
        simp only [if_neg e];exact r3 j hj
       ·intro j hj
        by_cases e:j=i0
        ·subst e
         simp only [if_true]
         rw [hg]
         exact (((r4 j hj).take Qex).append hv |>.append ((r4 j hj).drop (Qex+s0))).mono ev.ok ev.same
        simp only [if_neg e]
        rw [hg2 j hj e]
        exact (r4 j hj).mono ev.ok ev.same
       intro j q w hj hw
       rw [Qhl]
       by_cases e:j=i0
       ·subst e
        simp only [if_true] at hw
        have hl1:((vs j).take Qex).length=Qex:=by rw [List.length_take,r3 j hj];omega
        rw [List.getElem?_append,List.length_append,hl1,hvl] at hw
        split at hw
        ·rename_i hq
         rw [List.getElem?_append,hl1] at hw
         split at hw
         ·rename_i hq2
          rw [List.getElem?_take_of_lt hq2] at hw
          rw [if_pos (by omega)]
          exact r5 j q w hj hw
         rename_i hq2
         rw [if_neg (by omega),if_pos (by omega),show j * kk0+q - (j * kk0+Qex)=q - Qex from by omega]
         exact hw
        rename_i hq
        rw [if_neg (by omega),if_neg (by omega)]
        rw [List.getElem?_drop,show Qex+s0+(q - (Qex+s0))=q from by omega] at hw
        exact r5 j q w hj hw
       simp only [if_neg e] at hw
       have hq:q < kk0:=by rw [<- r3 j hj];exact (List.getElem?_eq_some_iff.1 hw).1
       have:=r5 j q w hj hw
       rcases Nat.lt_or_gt_of_ne e with h3 | h3
       ·have:j * kk0+kk0<=i0 * kk0:=by rw [<- Nat.succ_mul];exact Nat.mul_le_mul_right kk0 h3
        rw [if_pos (by omega)]
        exact r5 j q w hj hw
       have:i0 * kk0+kk0<=j * kk0:=by rw [<- Nat.succ_mul];exact Nat.mul_le_mul_right kk0 h3
       rw [if_neg (by omega),if_neg (by omega)]
       exact r5 j q w hj hw
      refine ⟨C.Qah id0 (.flat false kk0 ty n g') (C.w.setRow b us), ?_, ?_⟩
      ·have hs:=hT.size hi (w:=C.w)
       have h1:(Instr.storeAt t (a'.eval x) (a'.eval y)).run X.P C.w=.ok () (C.w.setRow b us):=by
        rw [hu,hv0]
        simp only [Instr.storeAt,Instr.sureAddr,storeVar,Sem.run_bind,Sem.run_pure,Result.andThen_ok,hs]
        rw [if_neg (by simp at hvl;simp [hvl])]
        exact hst
       simp only [execOp,hop]
       rw [Sem.run_bind,h1]
       rfl
      have:=hC.Qgy ev Jz
      simpa [Wt.Qah,hC.rows] using this
    cases e
   cases e
  cases e
 cases e
theorem Qtz (hT:Xb X.P T) (S:List Nat) {id kk i off s n:Nat} {ty:TypeId} {ds:List DV} {g:Nat->List DV} (g':Nat->List DV) (e:Wji T st k=some (id,kk,i,off,s,ds,k')) (hr:st.rows[id]? = some (.flat false kk ty n g)) (h1:i < n)
  (hg:g' i=(g i).take off ++ ds ++ (g i).drop (off+s)) (hg2:∀ j,j < n->j≠i->g' j=g j) (hs:St.only S { st with rows:=st.rows.set id (.flat false kk ty n g') }=st') (h:AK X f k' Q st'):AK X f k Q st:=by
 subst hs
 exact Wek hT g' e hr h1 hg hg2 rfl (Qel S h)
theorem Jj {X:Ctx} {P:Program} {f g:FuncId} {k k':List Item} {Q:Frame->Frame->Wt->Prop} {st st':St} {Zk args:List AV} {dst:Option Tmp} (S ids:List Nat) {Yn Wv:List Row} {ret:AV}
  (hP:X.P=P) (he:Enters P g) (hs:Xz P g Yn args Wv ret) (e:Qhx st k=some (g,Zk,dst,k')) (hh:Qci st.rows ids Yn) (hp:Qgv st.rows ids (Qa2 ids st.rows.length) Zk args)
  (Qcs:(St.put { st with rows:=Qcn st.rows ids Wv } dst (Qdm (Qa2 ids st.rows.length) ret)).map (St.only S)=some st') (h:AK X f k' Q st'):AK X f k Q st:=by
 subst hP
 exact Wh3 S ids he hs e hh hp Qcs h
theorem Zl {X:Ctx} {P:Program} {f g:FuncId} {k k':List Item} {Q:Frame->Frame->Wt->Prop} {st st':St} {Zk args:List AV} {dst:Option Tmp} {ret:AV}
  (hP:X.P=P) (he:Enters P g) (hs:Xz P g [] args [] ret) (e:Qhx st k=some (g,Zk,dst,k')) (hp:Qgv st.rows [] (Qa2 [] st.rows.length) Zk args)
  (Qcs:St.put { st with rows:=Qcn st.rows [] [] } dst (Qdm (Qa2 [] st.rows.length) ret)=some st') (h:AK X f k' Q st'):AK X f k Q st:=by
 subst hP
 exact Qol [] e he (Jy _) hp hs Qcs h
theorem Wbb {α:Type} (hT:Xb X.P T) {id kk by':Nat} {t e:TypeId} {z:List Value} {dst:Option Tmp} {x:AV} (enc:α->List DV) (d:α) (xs ys:List α) (S:List Nat)
  (e1:Qxf st k=some (id,kk,xs.length,x,t,dst,k')) (hr:st.rows[id]? = some (.flat false kk e xs.length (vec enc d xs))) (src:Qrl st.rows kk x ys.length (vec enc d ys))
  (ht:T.Qdr.lookup t=some e) (hi:T.info.lookup e=some (kk,by',z)) (hz:Nat.beq z.length kk=true) (hk:Nat.blt 0 kk=true) (hb:(xs.length+ys.length) * by'<=140737488355328) (Qvb:xs.length+ys.length<=9223372036854775807)
  (Qcs:(St.put { st with rows:=st.rows.set id .gone ++ [.flat false kk e (xs ++ ys).length (vec enc d (xs ++ ys))] } dst (.own st.rows.length kk 0 (xs ++ ys).length)).map (St.only S)=some st') (h:AK X f k' Q st'):AK X f k Q st:=by
 obtain ⟨s0,h1,rfl⟩:=Option.map_eq_some_iff.1 Qcs
 exact Qvv hT (vec enc d (xs ++ ys)) e1 hr src ht hi hz hk (by simp) hb Qvb Qut Qts h1 (Qel S h)
end
end Go.Sy
namespace Go.Sy
def Qf2:List Item->Array Oper
 | .code (.region _ ops _) :: _=>ops
 | _=>#[]
def Qm9:List Item->Bool
 | .code (.region _ _ true) :: _=>true
 | _=>false
section
variable {X:Ctx} {T:Tab} {f:FuncId} {k:List Item} {Q:Frame->Frame->Wt->Prop} {nt:Nat} {rows:List Row} {ops:Array Oper} {m:Nat} {base:List (Nat × AV)} {Φ:List (Option AV)}
def Qmn (X:Ctx) (f:FuncId) (k:List Item) (Q:Frame->Frame->Wt->Prop) (nt:Nat) (rows:List Row) (ops:Array Oper) (base:List (Nat × AV)) (Φ:List (Option AV)) (m:Nat):Prop:=∀ i,i < m->Qld X f k Q nt rows ops base Φ i
theorem op0:Qmn X f k Q nt rows ops base Φ 0:=fun i hi=>by omega
theorem Jr (h:Qmn X f k Q nt rows ops base Φ m) (p:Qld X f k Q nt rows ops base Φ m):Qmn X f k Q nt rows ops base Φ (m+1):=fun i hi=>by
 rcases Nat.lt_or_ge i m with h1 | h1
 ·exact h i h1
 have:i=m:=by omega
 subst this
 exact p
theorem Wef (hm:X.P.follows .mixedOrders=true) (m:Nat) (S:List Nat) (base:List (Nat × AV)) (Φ:List (Option AV)) {st:St} (hd:Qm9 k=true) (e:st.only S=⟨nt,base,rows⟩) (hck:Qk0 (Qf2 k) m (base.map (·.1))=true)
  (hop:Qmn X f k.tail Q nt rows (Qf2 k) base Φ m) (Qfu:AK X f (.inRegion (Qf2 k) (List.range' m ((Qf2 k).size - m)) :: k.tail) Q ⟨nt,Qjl (Qf2 k) Φ m ++ base,rows⟩):AK X f k Q st:=by
 unfold Qm9 at hd
 split at hd
 ·exact Wj8 hm m S base Φ e hck hop Qfu
 cases hd
def Qhi (X:Ctx) (f:FuncId) (k:List Item) (Q:Frame->Frame->Wt->Prop) (nt:Nat) (rows:List Row) (ops:Array Oper) (base:List (Nat × AV)) (Φ:List (Option AV)) (E:List Nat) (m:Nat):Prop:=∀ i,i < m->i ∉ E->Qld X f k Q nt rows ops base Φ i
variable {E:List Nat}
theorem Qi6:Qhi X f k Q nt rows ops base Φ E 0:=fun i hi=>by omega
theorem Qfc (h:Qhi X f k Q nt rows ops base Φ E m) (p:Qld X f k Q nt rows ops base Φ m):Qhi X f k Q nt rows ops base Φ E (m+1):=fun i hi hne=>by
 rcases Nat.lt_or_ge i m with h1 | h1
 ·exact h i h1 hne
 have:i=m:=by omega
 subst this
 exact p
theorem Wmx (h:Qhi X f k Q nt rows ops base Φ E m) (he:E.contains m=true):Qhi X f k Q nt rows ops base Φ E (m+1):=fun i hi hne=>by
 rcases Nat.lt_or_ge i m with h1 | h1
 ·exact h i h1 hne
 have:i=m:=by omega
 subst this
 exact absurd (by simpa using he) hne
def Qqj (X:Ctx) (f:FuncId) (k:List Item) (Q:Frame->Frame->Wt->Prop) (nt:Nat) (ops:Array Oper) (base:List (Nat × AV)) (Φ:List (Option AV)) (E:List Nat) (m:Nat):List (List Row)->List Nat->Prop
 | [rows],[]=>Qhi X f k Q nt rows ops base Φ E m
 | rows :: rows' :: rs,e :: es=>Qhi X f k Q nt rows ops base Φ E m/\Qmo X f k Q nt rows rows' ops base Φ e/\Qqj X f k Q nt ops base Φ E m (rows' :: rs) es
 | _,_=>False
theorem Qqj.at_ {ops:Array Oper} {base:List (Nat × AV)} {Φ:List (Option AV)}:∀ {R:List (List Row)} {es:List Nat},Qqj X f k Q nt ops base Φ E m R es->R.length=es.length+1/\(∀ s,s<=es.length->Qhi X f k Q nt (R.getD s []) ops base Φ E m)/\∀ (j e:Nat),es[j]? = some e->Qmo X f k Q nt (R.getD j []) (R.getD (j+1) []) ops base Φ e
 | [rows],[],h=>⟨rfl,fun s hs=>by
   have:s=0:=by simpa using hs
   subst this
   exact h,fun j e he=>by simp at he⟩
 | rows :: rows' :: rs,e :: es,h=>by
  obtain ⟨h1,h2,h3⟩:=h
  obtain ⟨a1,a2,a3⟩:=Qqj.at_ h3
  refine ⟨by simp only [List.length_cons] at a1 ⊢;omega,fun s hs=>?_,fun j q hq=>?_⟩
  ·cases s with
   | zero=>exact h1
   | succ s=>exact a2 s (by simpa using hs)
  cases j with
  | zero=>
   simp at hq
   subst hq
   exact h2
  | succ j=>exact a3 j q (by simpa using hq)
 | [],_,h=>h.elim
 | [_],_ :: _,h=>h.elim
 | _ :: _ :: _,[],h=>h.elim
def Qop (ops:Array Oper) (m:Nat):List Nat->Bool
 | []=>true
 | [e]=>Nat.blt e m
 | e :: e' :: es=>Nat.blt e m && Nat.blt e e' && (Qm0 ops e' (Qhy ops e')).contains e && Qop ops m (e' :: es)
theorem Qtb {ops:Array Oper} {m:Nat}:∀ {E:List Nat},Qop ops m E=true->(∀ e∈E,e < m)/\E.Pairwise (· < ·)/\∀ (j e e':Nat),E[j]? = some e->E[j+1]? = some e'->e∈Qm0 ops e' (Qhy ops e')
 | [],_=>⟨fun _ h=>by simp at h,.nil,fun _ _ _ h=>by simp at h⟩
 | [e],h=>⟨fun x hx=>by
   have:x=e:=by simpa using hx
   subst this
   exact Nat.le_of_ble_eq_true h,by simp,fun j _ _ _ h=>by simp at h⟩
 | e :: e' :: es,h=>by
  simp only [Qop,Bool.and_eq_true] at h
  obtain ⟨⟨⟨h1,h2⟩,h3⟩,h4⟩:=h
  obtain ⟨a1,a2,a3⟩:=Qtb h4
  have hlt:e < e':=Nat.le_of_ble_eq_true h2
  refine ⟨fun x hx=>?_, ?_,fun j x y hx hy=>?_⟩
  ·rcases List.mem_cons.1 hx with rfl | hx
   ·exact Nat.le_of_ble_eq_true h1
   exact a1 x hx
  ·rw [List.pairwise_cons]
   refine ⟨fun y hy=>?_,a2⟩
   rcases List.mem_cons.1 hy with rfl | hy
   ·exact hlt
   exact Nat.lt_trans hlt ((List.pairwise_cons.1 a2).1 y hy)
  cases j with
  | zero=>
   simp at hx hy
   subst hx
   subst hy
   simpa using h3
  | succ j=>exact a3 j x y (by simpa using hx) (by simpa using hy)
theorem Qdv (hm:X.P.follows .mixedOrders=true) (m:Nat) (E:List Nat) (S:List Nat) (base:List (Nat × AV)) (Φ:List (Option AV)) (R:List (List Row)) {st:St} (hd:Qm9 k=true) (e:st.only S=⟨nt,base,R.getD 0 []⟩) (hck:Qk0 (Qf2 k) m (base.map (·.1))=true) (hch:Qop (Qf2 k) m E=true)
  (hs:Qqj X f k.tail Q nt (Qf2 k) base Φ E m R E)
  (Qfu:AK X f (.inRegion (Qf2 k) (List.range' m ((Qf2 k).size - m)) :: k.tail) Q ⟨nt,Qjl (Qf2 k) Φ m ++ base,R.getD E.length []⟩):AK X f k Q st:=by
 unfold Qm9 at hd
 split at hd
 ·obtain ⟨a1,a2,a3⟩:=hs.at_
  obtain ⟨b1,b2,b3⟩:=Qtb hch
  exact Qx0 (rw_:=fun s=>R.getD s []) (E:=E) hm m S base Φ e hck ⟨b1,b2.imp (fun h=>Nat.ne_of_lt h),b3⟩ (fun i hi hne s hs=>a2 s hs i hi hne) a3 Qfu
 cases hd
def Qhu (X:Ctx) (f:FuncId) (k:List Item) (Q:Frame->Frame->Wt->Prop) (nt:Nat) (rows:List Row) (ops:Array Oper) (base:List (Nat × AV)) (Φ:List (Option AV)) (E:List Nat) (s m:Nat):Prop:=∀ i,i < m->i ∉ E->Qps ops E i s=true->Qld X f k Q nt rows ops base Φ i
theorem Wdf {s:Nat}:Qhu X f k Q nt rows ops base Φ E s 0:=fun i hi=>by omega
theorem Qoh {s:Nat} (h:Qhu X f k Q nt rows ops base Φ E s m) (p:Qld X f k Q nt rows ops base Φ m):Qhu X f k Q nt rows ops base Φ E s (m+1):=fun i hi hne hm=>by
 rcases Nat.lt_or_ge i m with h1 | h1
 ·exact h i h1 hne hm
 have:i=m:=by omega
 subst this
 exact p
theorem Wmz {s:Nat} (h:Qhu X f k Q nt rows ops base Φ E s m) (he:E.contains m=true):Qhu X f k Q nt rows ops base Φ E s (m+1):=fun i hi hne hm=>by
 rcases Nat.lt_or_ge i m with h1 | h1
 ·exact h i h1 hne hm
 have:i=m:=by omega
 subst this
 exact absurd (by simpa using he) hne
theorem Wmy {s:Nat} (h:Qhu X f k Q nt rows ops base Φ E s m) (he:Qps ops E m s=false):Qhu X f k Q nt rows ops base Φ E s (m+1):=fun i hi hne hm=>by
 rcases Nat.lt_or_ge i m with h1 | h1
 ·exact h i h1 hne hm
 have:i=m:=by omega
 subst this
 rw [he] at hm
 cases hm
def Qok (X:Ctx) (f:FuncId) (k:List Item) (Q:Frame->Frame->Wt->Prop) (nt:Nat) (ops:Array Oper) (base:List (Nat × AV)) (Φ:List (Option AV)) (E:List Nat) (m:Nat):Nat->List (List Row)->List Nat->Prop
 | n,[rows],[]=>Qhu X f k Q nt rows ops base Φ E n m
 | n,rows :: rows' :: rs,e :: es=>Qhu X f k Q nt rows ops base Φ E n m/\Qmo X f k Q nt rows rows' ops base Φ e/\Qok X f k Q nt ops base Φ E m (n+1) (rows' :: rs) es
 | _,_,_=>False
theorem Qok.at_ {ops:Array Oper} {base:List (Nat × AV)} {Φ:List (Option AV)}:∀ {n:Nat} {R:List (List Row)} {es:List Nat},Qok X f k Q nt ops base Φ E m n R es->R.length=es.length+1/\(∀ s,s<=es.length->Qhu X f k Q nt (R.getD s []) ops base Φ E (n+s) m)/\∀ (j e:Nat),es[j]? = some e->Qmo X f k Q nt (R.getD j []) (R.getD (j+1) []) ops base Φ e
 | n,[rows],[],h=>⟨rfl,fun s hs=>by
   have:s=0:=by simpa using hs
   subst this
   exact h,fun j e he=>by simp at he⟩
 | n,rows :: rows' :: rs,e :: es,h=>by
  obtain ⟨h1,h2,h3⟩:=h
  obtain ⟨a1,a2,a3⟩:=Qok.at_ h3
  refine ⟨by simp only [List.length_cons] at a1 ⊢;omega,fun s hs=>?_,fun j q hq=>?_⟩
  ·cases s with
   | zero=>exact h1
   | succ s=>
    have:=a2 s (by simpa using hs)
    rw [show n+1+s=n+(s+1) by omega] at this
    exact this
  cases j with
  | zero=>
   simp at hq
   subst hq
   exact h2
  | succ j=>exact a3 j q (by simpa using hq)
 | _,[],_,h=>h.elim
 | _,[_],_ :: _,h=>h.elim
 | _,_ :: _ :: _,[],h=>h.elim
theorem Qty (hm:X.P.follows .mixedOrders=true) (m:Nat) (E:List Nat) (S:List Nat) (base:List (Nat × AV)) (Φ:List (Option AV)) (R:List (List Row)) {st:St} (hd:Qm9 k=true) (e:st.only S=⟨nt,base,R.getD 0 []⟩) (hck:Qk0 (Qf2 k) m (base.map (·.1))=true) (hch:Qop (Qf2 k) m E=true)
  (hs:Qok X f k.tail Q nt (Qf2 k) base Φ E m 0 R E)
  (Qfu:AK X f (.inRegion (Qf2 k) (List.range' m ((Qf2 k).size - m)) :: k.tail) Q ⟨nt,Qjl (Qf2 k) Φ m ++ base,R.getD E.length []⟩):AK X f k Q st:=by
 unfold Qm9 at hd
 split at hd
 ·obtain ⟨a1,a2,a3⟩:=hs.at_
  obtain ⟨b1,b2,b3⟩:=Qtb hch
  exact Qvw (rw_:=fun s=>R.getD s []) (E:=E) hm m S base Φ e hck ⟨b1,b2.imp (fun h=>Nat.ne_of_lt h),b3⟩ (fun i hi hne s hs hmay=>a2 s hs i hi hne (by rw [Nat.zero_add];exact hmay)) a3 Qfu
 cases hd
theorem Wlt (hT:Xb X.P T) {i:Nat} {rows':List Row} (e:∀ R rest,Qju T (.inRegion ops (i :: R) :: k) ⟨nt,Qc4 ops base Φ i ++ rest,rows⟩=some (.inRegion ops R :: k,⟨nt,Qgm (Qf1 ops i) ((Φ[i]?).join) (Qc4 ops base Φ i ++ rest),rows'⟩)):
  Qmo X f k Q nt rows rows' ops base Φ i:=fun R rest h=>Ql3 hT (e R rest) h
theorem Wls (hT:Xb X.P T) {i:Nat} {st':List Nat->List (Nat × AV)->St} (e:∀ R rest,Qju T (.inRegion ops (i :: R) :: k) ⟨nt,Qc4 ops base Φ i ++ rest,rows⟩=some (.inRegion ops R :: k,st' R rest))
  (h:∀ R rest,st' R rest=⟨nt,Qgm (Qf1 ops i) ((Φ[i]?).join) (Qc4 ops base Φ i ++ rest),rows⟩):Qld X f k Q nt rows ops base Φ i:=fun R rest hh=>Ql3 hT (e R rest) (by rw [h];exact hh)
end
end Go.Sy
namespace Go.Sy
open Go.Deep Go.WideShapes Go.RowKit
def okW (w:World) (t:Bool) (b:Nat):Prop:=b < w.heap.size
def RD (P:Program) (t:TypeId) {α:Type} (e:α->List DV) (wf:α->Prop):Prop:=
 ∀ (H:Type) (enc:TypeId × Value->H) (w:World) (spare:Nat->Bool) (fuel:Nat) (cs:List Value) (x:DataW H × List MemPlace),DataW.trod enc P w 0 spare true fuel t cs=some x->∃ a:α,VRs w (okW w) (e a) cs/\wf a
section
variable {P:Program} {t:TypeId}
theorem trod_int {H:Type} {enc:TypeId × Value->H} {w:World} {spare:Nat->Bool} {fuel:Nat} {cs:List Value} {x:DataW H × List MemPlace} {k:IntKind} (hu:P.underlying t=some (.int k)) (h:DataW.trod enc P w 0 spare true fuel t cs=some x):
  ∃ n,cs=[.int k n]/\(Lit.int k n).wf=true:=by
 cases fuel with
 | zero=>simp [DataW.trod] at h
 | succ m=>
  cases cs with
  | nil=>simp [DataW.trod,hu] at h
  | cons v tl=>
   cases tl with
   | cons u tl=>simp [DataW.trod,hu] at h
   | nil=>
    cases v<;>simp [DataW.trod,hu] at h
    rename_i k' n
    obtain ⟨⟨rfl,hw⟩,_⟩:=h
    exact ⟨_,rfl,hw⟩
theorem Qgh {k:IntKind} (hu:P.underlying t=some (.int k)):RD P t (eI k) (fun n=>(Lit.int k n).wf=true):=by
 intro H enc w spare fuel cs x h
 obtain ⟨n,rfl,hw⟩:=trod_int hu h
 exact ⟨n,.cons rfl (.v rfl) .nil,hw⟩
theorem Qou (hu:P.underlying t=some .bool):RD P t eB (fun _=>True):=by
 intro H enc w spare fuel cs x h
 cases fuel with
 | zero=>simp [DataW.trod] at h
 | succ m=>
  cases cs with
  | nil=>simp [DataW.trod,hu] at h
  | cons v tl=>
   cases tl with
   | cons u tl=>simp [DataW.trod,hu] at h
   | nil=>
    cases v<;>simp [DataW.trod,hu] at h
    exact ⟨_,.cons rfl (.v rfl) .nil,trivial⟩
theorem Qkl {α:Type} {e:TypeId} {k:Nat} {enc:α->List DV} {wf:α->Prop} (z:α) (hu:P.underlying t=some (.slice e)) (hk:P.cellsOf e=k) (hk0:0 < k) (he:RD P e enc wf):
  RD P t (eL enc z) (fun xs=>xs.length<=maxLen/\∀ x∈xs,wf x):=by
 intro H enc' w spare fuel cs x h
 rcases open_slice hu h with ⟨rfl,_⟩ | ⟨a,len,cap,m,n,D,Pl,rfl,_,hl,hm,hmm,_,hel⟩
 ·exact ⟨[],.cons rfl .sl0 .nil,by simp,by simp⟩
 have hle:len<=m:=by rw [hmm];split<;>omega
 have Wcr:∀ i,i < len->∃ (cs:List Value) (a':α),cs.length=k/\(∀ j v,cs[j]? = some v->w.cell? (a.add (i * k+j))=some v)/\VRs w (okW w) (enc a') cs/\wf a':=by
  intro i hi
  obtain ⟨cs',h1,h2⟩:=hel i (by omega)
  obtain ⟨a',h3,h4⟩:=he _ _ _ _ _ _ _ h2
  refine ⟨cs',a', ?_, ?_,h3,h4⟩
  ·unfold World.cells? at h1
   rw [if_pos (Nat.zero_le _)] at h1
   rw [<- hk]
   have:=mapM_some_length h1
   simpa using this
  intro j v hj
  unfold World.cells? at h1
  rw [if_pos (Nat.zero_le _)] at h1
  have hj':j < P.cellsOf e:=by
   have:=mapM_some_length h1
   have h5:=(List.getElem?_eq_some_iff.1 hj).1
   simp at this
   omega
  have:=mapM_some_get h1 j j (by simp [hj'])
  rw [hj,hk] at this
  rw [<- add_add]
  exact this
 rcases Nat.eq_zero_or_pos len with h0 | h0
 ·subst h0
  exact ⟨[],.cons rfl .sl0 .nil,by simp,by simp⟩
 obtain ⟨b,o,sp⟩:=a
 have hsp:sp=none/\b < w.heap.size:=by
  obtain ⟨cs0,a0,q1,q2,q3,q4⟩:=Wcr 0 h0
  have hc:∃ v,cs0[0]? = some v:=⟨cs0[0]'(by omega),List.getElem?_eq_getElem (by omega)⟩
  obtain ⟨v,hv⟩:=hc
  have:=q2 0 v hv
  have e0:(⟨b,o,sp⟩:Addr).add (0 * k+0)=⟨b,o,sp⟩:=by simp [Addr.add]
  rw [e0] at this
  unfold World.cell? at this
  split at this
  ·rename_i hh
   refine ⟨?_, ?_⟩
   ·cases sp with
    | none=>rfl
    | some _=>simp at this
   exact (Array.getElem?_eq_some_iff.1 hh).1
  cases this
 obtain ⟨rfl,hb⟩:=hsp
 have choose:∃ (f:Nat->List Value) (g:Nat->α),∀ i,i < len->(f i).length=k/\(∀ j v,(f i)[j]? = some v->w.cell? ⟨b,o+i * k+j,none⟩=some v)/\VRs w (okW w) (enc (g i)) (f i)/\wf (g i):=by
  refine ⟨fun i=>if hi:i < len then Classical.choose (Wcr i hi) else [],fun i=>if hi:i < len then Classical.choose (Classical.choose_spec (Wcr i hi)) else z,fun i hi=>?_⟩
  simp only [dif_pos hi]
  obtain ⟨q1,q2,q3,q4⟩:=Classical.choose_spec (Classical.choose_spec (Wcr i hi))
  refine ⟨q1,fun j v hj=>?_,q3,q4⟩
  have:=q2 j v hj
  rw [Qja] at this
  rw [Nat.add_assoc]
  exact this
 obtain ⟨f,g,hfg⟩:=choose
 let xs:=(List.range len).map g
 have hxl:xs.length=len:=by simp [xs]
 have hx:∀ i,i < len->xs.getD i z=g i:=by
  intro i hi
  simp [xs,hi]
 refine ⟨xs,.cons rfl ?_ .nil,by rw [hxl];omega,fun y hy=>?_⟩
 ·rw [hxl]
  exact .sl k f h0 hl hb (fun i hi=>(hfg i hi).1) (fun i hi=>by simp only [vec];rw [hx i hi];exact (hfg i hi).2.2.1) (fun i j v hi hj=>(hfg i hi).2.1 j v hj)
 obtain ⟨i,hi,rfl⟩:=List.mem_map.1 hy
 exact (hfg i (by simpa using hi)).2.2.2
theorem VRs.app {w:World} {ok:Bool->Nat->Prop}:∀ {xs ys:List DV} {vs us:List Value},VRs w ok xs vs->VRs w ok ys us->VRs w ok (xs ++ ys) (vs ++ us)
 | _,_,_,_,.nil,k=>k
 | _,_,_,_,.cons h1 h hs,k=>.cons h1 h (VRs.app hs k)
def RF (P:Program) (fs:List Field) (off till:Nat) {α:Type} (e:α->List DV) (wf:α->Prop):Prop:=
 off<=till/\∀ (H:Type) (enc:TypeId × Value->H) (w:World) (spare:Nat->Bool) (fuel:Nat) (cs:List Value),cs.length=till ->
  (∀ f∈fs,∃ x:DataW H × List MemPlace,DataW.trod enc P w 0 spare true fuel f.type ((cs.drop f.offset).take (P.cellsOf f.type))=some x)->∃ a:α,VRs w (okW w) (e a) (cs.drop off)/\wf a
theorem Qmd (till:Nat):RF P [] till till (fun _:Unit=>[]) (fun _=>True):=
 ⟨Nat.le_refl _,fun _ _ w _ _ cs h _=>⟨(),by rw [List.drop_of_length_le (by omega)];exact .nil,trivial⟩⟩
theorem Qcf {α β:Type} {f:Field} {fs:List Field} {off n till:Nat} {e:α->List DV} {wf:α->Prop} {e':β->List DV} {wf':β->Prop} (h:RD P f.type e wf) (ho:f.offset=off) (hn:P.cellsOf f.type=n) (hs:RF P fs (off+n) till e' wf'):
  RF P (f :: fs) off till (fun p:α × β=>e p.1 ++ e' p.2) (fun p=>wf p.1/\wf' p.2):=by
 obtain ⟨hle,hs⟩:=hs
 refine ⟨by omega,fun H enc w spare fuel cs hl hx=>?_⟩
 obtain ⟨x,hx1⟩:=hx f (List.mem_cons_self ..)
 obtain ⟨a,a1,a2⟩:=h _ _ _ _ _ _ _ hx1
 obtain ⟨b,b1,b2⟩:=hs H enc w spare fuel cs hl (fun g hg=>hx g (List.mem_cons_of_mem _ hg))
 refine ⟨(a,b), ?_,a2,b2⟩
 have:cs.drop off=(cs.drop off).take n ++ cs.drop (off+n):=by
  rw [<- List.drop_drop,List.take_append_drop]
 rw [this]
 rw [ho,hn] at a1
 exact a1.app b1
theorem Qih {α β:Type} {fs:Array Field} {n:Nat} {e:β->List DV} {wf:β->Prop} {e':α->List DV} {wf':α->Prop} (hu:P.underlying t=some (.struct fs)) (hn:P.cellsOf t=n) (h:RF P fs.toList 0 n e wf)
  (f:β->α) (he:∀ b,e b=e' (f b)) (hw:∀ b,wf b->wf' (f b)):RD P t e' wf':=by
 intro H enc w spare fuel cs x hx
 obtain ⟨xs,m,_,_,hl,hxl,Qi2⟩:=DataW.trod_struct hu hx
 obtain ⟨b,b1,b2⟩:=h.2 H enc w spare m cs (by rw [hl,hn]) (fun g hg=>by
  obtain ⟨i,hi⟩:=List.mem_iff_getElem?.1 hg
  have:=Qi2 i g (by simpa using hi)
  have hlt:i < fs.size:=by
   have:=(List.getElem?_eq_some_iff.1 hi).1
   simpa using this
  exact ⟨xs[i]'(by omega),by rw [this,List.getElem?_eq_getElem (by omega)]⟩)
 exact ⟨f b,by rw [<- he];simpa using b1,hw b b2⟩
end
theorem Wkz {P:Program} {α:Type} {t:TypeId} {e:α->List DV} {wf:α->Prop} (h:RD P t e wf) {H:Type} {enc:TypeId × Value->H} {w:World} {spare:Nat->Bool} {v:Value} {d:DataW H} {p:List MemPlace} (hd:DataW.Trod enc P w 0 spare true t v d p):
  ∃ a:α,VRs w (okW w) (e a) v.cells.toList/\wf a:=by
 obtain ⟨fuel,hf⟩:=hd
 exact h _ _ _ _ _ _ _ hf
theorem Wmc {w:World} {ok:Bool->Nat->Prop} {x:DV} {v:Value} (h:VRs w ok [x] [v]):VR w ok x v:=by
 cases h with
 | cons _ h _=>exact h
def Qgt (P:Program) (W:World):Ctx:={ P:=P,w0:=W,μ0:=[],okp:=fun b=>b < W.heap.size }
theorem Wgk {P:Program} {f:FuncId} {args:List AV} {b:Bool} (h:Xz P f [] args [] (.d (.v (.bool b)))) {W:World} {vs:List Value} (ha:Qb1 W (okW W) [] args vs):
  Calls P f vs.toArray W fun e w'=>e=.returned (.bool b)/\Below W.heap.size W w':=by
 have Jz:Yd (Qgt P W) ⟨[],[],W⟩:=⟨rfl,rfl,rfl,⟨rfl,Nat.le_refl _⟩,Nat.le_refl _,fun _ _ _=>rfl,fun _ cs _ h=>⟨cs,h,rfl⟩,fun _ _ h=>h,fun _ _ h=>by simp at h,fun _ _ _ _ _ h=>by simp at h,fun _ _ _ _ h=>by simp at h,fun _ _ _ _ _ _ _ h=>by simp at h,fun _ _ _ h=>by simp at h⟩
 have Jp:∀ t b,okW W t b->(⟨[],[],W⟩:Wt).ok (Qgt P W) t b:=fun t b hb=>⟨hb,by rintro ⟨_,_,_,h,_⟩;simp at h,fun _=>.inl hb⟩
 have:=h (Qgt P W) vs rfl (fun b hb=>⟨hb,by simp [Ctx.Qcc,Qgt]⟩) Jz (by
  exact Qb1.mono Jp (fun _ _ _=>rfl) (fun _ _ h=>h) (fun _ cs _ h=>⟨cs,h,rfl⟩) ha)
 refine this.mono ?_
 rintro e w' ⟨v,μ',rfl,hd⟩
 have hv:=hd.ret.Qep
 subst hv
 refine ⟨rfl,hd.rel.os,hd.rel.tape,hd.rel.output.1,hd.rel.size,fun k hk=>hd.rel.keep k hk (by simp [Ctx.Qcc,Qgt])⟩
end Go.Sy
namespace Go.Sy
def Qpb (i N j:Nat):Nat:=if j=N then i else j
theorem Qgr {X:Ctx} {f:FuncId} {k:List Item} {Q:Frame->Frame->Wt->Prop} {st st':St} (i:Nat) {r:Row} (hr:st.rows[i]? = some r) (hl:r.live=true)
  (e1:st'.rows.map (Qeh (Qpb i st.rows.length))=st.rows.set i .gone ++ [r]) (e2:(st'.tm.map fun p=>(p.1,Qdm (Qpb i st.rows.length) p.2))=st.tm) (e3:st'.nt=st.nt) (h:AK X f k Q st'):AK X f k Q st:=by
 intro a C hC b cs hb hk
 have hrC:C.rows[i]? = some r:=by rw [hC.rows];exact hr
 obtain ⟨ob,hμ⟩:=hC.rel.Qh4 hrC
 have h1:=Qn5 hC.rel hμ hrC hl
 have ev:=Qpg hC.rel hμ hrC
 let C':Wt:=⟨C.μ ++ [ob],st'.rows,C.w⟩
 have hlen:C.μ.length=st.rows.length:=by rw [hC.rel.len,hC.rows]
 have Qi9:st'.rows.map (Qeh (Qpb i st.rows.length))=(C.renew i ob r).rows:=by rw [e1];simp [Wt.renew,hC.rows]
 have hat:∀ {j:Nat} {s:Row},st'.rows[j]? = some s->(C.renew i ob r).rows[j]? = some (Qeh (Qpb i st.rows.length) s):=by
  intro j s hs
  rw [<- Qi9,List.getElem?_map,hs]
  rfl
 have hρ:∀ (j:Nat) x,(C.renew i ob r).μ[Qpb i st.rows.length j]? = some x->C'.μ[j]? = some x:=by
  intro j x hx
  simp only [C',Wt.renew] at hx ⊢
  unfold Qpb at hx
  split at hx
  ·rename_i hj
   subst hj
   rw [Qdn hμ] at hx
   injection hx with hx
   subst hx
   rw [<- hlen]
   simp
  exact hx
 have Qkh:∀ {q:Nat},C'.live q->(C.renew i ob r).live q:=by
  rintro q ⟨j,m,s,a1,a2,a3,a4⟩
  exact ⟨j,m,_,a1,hat a2,by rw [Qgi];exact a3,(Qmc _ _ _ _ _).2 a4⟩
 have Jp:∀ t q,(C.renew i ob r).ok X t q->C'.ok X t q:=fun t q ⟨a1,a2,a3⟩=>⟨a1,fun e=>a2 (Qkh e),a3⟩
 have Jz:Yd X C':=by
  refine ⟨?_,h1.os,h1.tape,h1.output,h1.size,h1.keep,h1.shape,h1.first,h1.place, ?_, ?_, ?_, ?_⟩
  ·have:=congrArg List.length Qi9
   simp only [List.length_map] at this
   show (C.μ ++ [ob]).length=st'.rows.length
   rw [this]
   exact h1.len
  ·intro p q c s u b1 b2 b3 b4 b5 b6
   exact h1.apart p q c _ _ b1 b2 (hat b3) (hat b4) (by rw [Qgi];exact b5) (by rw [ne_eq,Qii];exact b6)
  ·intro p m c s b1 b2 b3
   exact h1.Qco p m c _ b1 (hat b2) (by rw [Qfg];exact b3)
  ·intro p q m n c s u b1 b2 b3 b4 b5 b6
   have:=h1.Qbt p q m n c _ _ b1 b2 (hat b3) (hat b4) (by rw [Qfg];exact b5) (by rw [ne_eq,Qii];exact b6)
   exact ⟨this.1,fun b7=>this.2 (by rw [Qfg];exact b7)⟩
  intro j o s b1 b2
  exact (h1.rel j o _ b1 (hat b2)).Qgl Jp hρ
 refine h a C' ⟨Jz,rfl,hC.defers,hC.nt.trans e3.symm,fun j av e=>?_⟩ b cs hb hk
 have:=Qpp (ρ:=Qpb i st.rows.length) e
 rw [e2] at this
 obtain ⟨v,c1,c2⟩:=hC.tm j _ this
 exact ⟨v,c1,(ev.avr c2).Qgl Jp hρ⟩
section
variable {X:Ctx} {C:Wt}
theorem Qq9 (h:Yd X C) {id l:Nat} {r r':Row} {lp:Loop} (o:Obj) (hμ:C.μ[id]? = some (some l)) (hr:C.rows[id]? = some r) (hl:r.live=true) (hh:C.w.heap[l]? = some (.loop lp)) (hx:∀ w m,r.ext w m=[]:=by intros;rfl) (hx':∀ w m,r'.ext w m=[]:=by intros;rfl):Qjp X C id l r r' (C.w.putObj l o):=
 ⟨hμ,hr,hl,rfl,rfl,⟨rfl,Nat.le_refl _⟩,by simp [World.putObj],fun k hk=>World.putObj_heap_other hk,fun cs ty hc=>(by rw [hh] at hc;cases hc),hx,hx'⟩
theorem Wg7 {w:World} {l:Nat} {o o':Obj} (h:w.heap[l]? = some o):(w.putObj l o').heap[l]? = some o':=by
 obtain ⟨hlt,_⟩:=Array.getElem?_eq_some_iff.1 h
 simp [World.putObj,hlt]
theorem Qwl (h:Yd X C) {id l:Nat} {s s':LoopState} {fn:FuncId} {nt:Nat} {is:List Nat} {xs:List AV} {ps:Array Tmp} {asg body:Code} (hr:C.rows[id]? = some (.loop l s fn nt is xs ps asg body)):
  ∃ lp:Loop,C.w.heap[l]? = some (.loop lp)/\lp.state=s/\lp.pending=none/\Yd X (C.Qah id (.loop l s' fn nt is xs ps asg body) (C.w.putObj l (.loop { lp with state:=s' })))/\Ev X C (C.Qah id (.loop l s' fn nt is xs ps asg body) (C.w.putObj l (.loop { lp with state:=s' }))):=by
 obtain ⟨ob,hμ⟩:=h.Qh4 hr
 have Jz:=h.rel id ob _ hμ hr
 cases ob with
 | none=>exact Jz.elim
 | some b=>
  obtain ⟨rfl,T,D,vs,h1,h2,h3,h4⟩:=Jz
  have tu:=Qq9 (r':=.loop b s' fn nt is xs ps asg body) h (.loop { state:=s',pending:=none,fn:=fn,tmps:=T,params:=ps,assign:=asg,body:=body,defers:=D }) hμ hr rfl h1
  have ev:=Ev.Qah h tu
  refine ⟨_,h1,rfl,rfl,Yd.Qah h tu (.inl (by simp)) ⟨rfl,T,D,vs,Wg7 h1,h2, ?_,h4⟩,ev⟩
  exact Qb1.mono ev.ok ev.same ev.pre ev.shape h3
theorem Wh2 {f:FuncId} {k:List Item} {Q:Frame->Frame->Wt->Prop} {st st':St} (id:Nat) {l:Nat} {fn:FuncId} {nt:Nat} {is:List Nat} {xs:List AV} {ps:Array Tmp} {asg body:Code} (hX:X.rnd=some l) (hr:st.rows[id]? = some (.loop l .ready fn nt is xs ps asg body))
  (hs:st'={ st with rows:=st.rows.set id (.loop l .busy fn nt is xs ps asg body) }) (h:AK X f k Q st'):AK X f (.beginRound :: k) Q st:=by
 subst hs
 intro a C hC b cs hb hk
 obtain ⟨lp,h1,h2,h3,h4,h5⟩:=Qwl (s':=.busy) hC.rel (by rw [hC.rows];exact hr)
 have hst:=stepR_beginRound (P:=X.P) (b:=b) (a:=a) (k:=k) (cs:=cs) (w:=C.w) (hk.2.trans hX) (run_beginRound h1 h2)
 have hm:=hC.Qgy h5 h4
 simp only [Wt.Qah,hC.rows] at hm
 obtain ⟨C',fr,q,s1,s2⟩:=h a _ hm b cs hb hk
 exact ⟨C',fr,q,.head hst s1,s2⟩
def Qxz (X:Ctx) (l:Nat) (Wv:List Row) (b fr:Frame) (C:Wt):Prop:=
 ∃ a w2,fr=b.atR a []/\(Instr.endRound l none).run X.P C.w=.ok (.bool true) w2/\Zw X ⟨C.μ,Wv,w2⟩ (.d (.v (.bool true))) (.bool true)
theorem Qzo {f:FuncId} {st:St} (id:Nat) {l:Nat} {fn:FuncId} {nt:Nat} {is:List Nat} {xs:List AV} {ps:Array Tmp} {asg body:Code} (hr:st.rows[id]? = some (.loop l .busy fn nt is xs ps asg body))
  {Wv:List Row} (hs:Wv=st.rows.set id (.loop l .ready fn nt is xs ps asg body)) (nr:∀ r∈Wv,NR r):AK X f [] (Qxz X l Wv) st:=by
 subst hs
 intro a C hC b cs hb hk
 obtain ⟨lp,h1,h2,h3,h4,h5⟩:=Qwl (s':=.ready) hC.rel (by rw [hC.rows];exact hr)
 have Qj8:=run_endRound (P:=X.P) none h1
 have e:({ lp with state:=if (none:Option Code).isNone then LoopState.ready else .done,pending:=(none:Option Code) }:Loop)={ lp with state:=.ready }:=by
  cases lp
  simp only at h3
  subst h3
  rfl
 rw [e] at Qj8
 simp only [Wt.Qah,hC.rows] at h4
 refine ⟨C,b.atR a [],⟨a,_,rfl,Qj8,h4, ?_,.d (.v rfl)⟩,.refl _ _,hb⟩
 intro j ob r e1 e2
 exact (h4.rel j ob r e1 e2).perm (fun _ h=>⟨rfl,h⟩) (nr r (List.mem_of_getElem? e2))
def Qqh (P:Program) (l:Nat) (Yn:List Row) (x:AV) (Wv:List Row):Prop:=
 ∀ (X:Ctx) (v:Value),X.P=P->X.Fits->Yd X ⟨X.μ0,Yn,X.w0⟩->AVR X.w0 ((⟨X.μ0,Yn,X.w0⟩:Wt).ok X) X.μ0 x v ->
  ∃ fn tmps asg body,(Instr.yield l #[v]).run P X.w0=.ok (.round l fn tmps asg body) X.w0/\∀ (c:Frame) (cs:List Frame),∃ w' μ',Zw X ⟨μ',Wv,w'⟩ (.d (.v (.bool true))) (.bool true) /\
   Steps P (lone (Frame.round l fn tmps asg body .normal) (c :: cs) X.w0) (lone (c.finish (.bool true)) cs w')
def Ctx.round (X:Ctx) (l:Nat):Ctx:={ X with ds:=[],rnd:=some l }
theorem Yd.round {C:Wt} (l:Nat) (h:Yd X C):Yd (X.round l) C:=⟨h.len,h.os,h.tape,h.output,h.size,h.keep,h.shape,h.first,h.place,h.apart,h.Qco,h.Qbt,h.rel⟩
theorem Yd.Wk3 {C:Wt} {l:Nat} (h:Yd (X.round l) C):Yd X C:=⟨h.len,h.os,h.tape,h.output,h.size,h.keep,h.shape,h.first,h.place,h.apart,h.Qco,h.Qbt,h.rel⟩
theorem Quu:∀ {is:List Nat} {xs:List AV} {i:Nat} {av:AV},(is.zip xs).lookup i=some av->∃ j:Nat,is[j]? = some i/\xs[j]? = some av
 | [],_,_,_,h=>by simp at h
 | _ :: _,[],_,_,h=>by simp at h
 | q :: is,y :: xs,i,av,h=>by
  rw [List.zip_cons_cons,List.lookup_cons] at h
  split at h
  ·rename_i e
   have e:i=q:=by simpa using e
   subst e
   injection h with h
   subst h
   exact ⟨0,rfl,rfl⟩
  obtain ⟨j,h1,h2⟩:=Quu h
  exact ⟨j+1,by simpa using h1,by simpa using h2⟩
theorem Wdr {P:Program} {l:Nat} {fn:FuncId} {nt:Nat} {is:List Nat} {xs:List AV} {p:Tmp} {asg body:Code} {rest:List Row} {x:AV} {Wv:List Row} (hp:p < nt)
  (h:∀ X:Ctx,X.P=P->X.μ0.length=(.loop l .ready fn nt is xs #[p] asg body :: rest).length->X.rnd=some l->AK X fn (.code asg :: .beginRound :: .code body :: []) (Qxz X l Wv) ⟨nt,(p,x) :: is.zip xs,.loop l .ready fn nt is xs #[p] asg body :: rest⟩):
  Qqh P l (.loop l .ready fn nt is xs #[p] asg body :: rest) x Wv:=by
 intro X v hP hX Jz hx
 subst hP
 obtain ⟨ob,hμ⟩:=Jz.Qh4 (id:=0) rfl
 have h0:=Jz.rel 0 ob _ hμ rfl
 cases ob with
 | none=>exact h0.elim
 | some b=>
  obtain ⟨rfl,T,D,vs,h1,h2,h3,h4⟩:=h0
  refine ⟨fn,_,asg,body,run_yield h1 rfl,fun c cs=>?_⟩
  have hT:((#[p].zip #[v]).foldl (fun tmps (q:Tmp × Value)=>tmps.setIfInBounds q.1 q.2) T)=T.setIfInBounds p v:=by simp
  let a:Act:=⟨T.setIfInBounds p v,[]⟩
  have Qk6:Sim (X.round b) ⟨nt,(p,x) :: is.zip xs,.loop b .ready fn nt is xs #[p] asg body :: rest⟩ a ⟨X.μ0,.loop b .ready fn nt is xs #[p] asg body :: rest,X.w0⟩:=by
   refine ⟨Jz.round b,rfl,rfl,by simp [a,h2],fun i av e=>?_⟩
   simp only [List.lookup_cons] at e
   split at e
   ·rename_i hi
    have hi:i=p:=by simpa using hi
    subst hi
    injection e with e
    subst e
    exact ⟨v,by simp [a,h2,hp],hx⟩
   rename_i hi
   obtain ⟨j,j1,j2⟩:=Quu e
   obtain ⟨u,u1,u2⟩:=h3.at_ j2
   have hne:p≠i:=fun e=>by subst e;simp at hi
   exact ⟨u,by simp [a,Array.getElem?_setIfInBounds,hne,h4 j i u j1 u1],u2⟩
  obtain ⟨C',fr,⟨a2,w2,rfl,q2,q3⟩,s1,s2⟩:=h (X.round b) rfl Jz.len rfl a _ Qk6 { (default:Frame) with fn:=fn,kind:=.normal,roundOf:=some b } (c :: cs) rfl ⟨rfl,rfl⟩
  refine ⟨w2,C'.μ,⟨q3.rel.Wk3,q3.rows,q3.ret⟩, ?_⟩
  have Qj8:=stepR_round_end (P:=X.P) (b:={ (default:Frame) with fn:=fn,kind:=.normal,roundOf:=some b }) (a:=a2) (cs:=cs) (w:=C'.w) (c:=c) rfl rfl q2
  have hfr:∀ T2:Array Value,T2=T.setIfInBounds p v->Frame.round b fn T2 asg body .normal=({ (default:Frame) with fn:=fn,kind:=.normal,roundOf:=some b }:Frame).atR a [.code asg,.beginRound,.code body]:=by
   rintro T2 rfl
   rfl
  rw [hfr _ (by simp)]
  exact s1.trans (.one Qj8)
end
end Go.Sy
