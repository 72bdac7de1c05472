/- Words of the printed functions and of their proofs; the last rules. -/
import Derived.Test.YtdndobkfnmommaaSyK
import Derived.KernelRfl
import Derived.ChangeArms
import Derived.Deep.Slices
import Derived.WideShapes
import Derived.RangeFuncIn
import Derived.RangeFuncRecord
set_option linter.unusedVariables false
set_option linter.unusedSimpArgs false
namespace Go.Sy

def bnd {α β:Type} (x:α) (f:α→β):β:=f x
def iMax (a b:Int):Int:=if a < b then b else a
def iMin (a b:Int):Int:=if b < a then b else a
def stk {σ ρ:Type} (o:Option (σ ⊕ ρ)) (g:σ→Option ρ):Option ρ:=
 match o with
 | none=>none
 | some (.inl s)=>g s
 | some (.inr r)=>some r
def iter {σ ρ:Type} (step:σ→Option (σ ⊕ ρ)):Nat→σ→Option ρ
 | 0,_=>none
 | n+1,s=>stk (step s) (iter step n)
open Classical in
noncomputable def goLoop {σ ρ:Type} (step:σ→Option (σ ⊕ ρ)) (s:σ):Option ρ:=
 if h:∃ n,(iter step n s).isSome=true then iter step (Classical.choose h) s else none

theorem iter_more {σ ρ:Type} {step:σ→Option (σ ⊕ ρ)}:∀ {n m:Nat} {s:σ} {r:ρ},iter step n s=some r→n≤m→iter step m s=some r
 | 0,_,_,_,h,_=>by simp [iter] at h
 | n+1,0,_,_,_,h=>by omega
 | n+1,m+1,s,r,h,hm=>by
  simp only [iter] at h ⊢
  generalize step s=o at h ⊢
  match o,h with
  | some (.inl s'),h=>exact iter_more (n:=n) h (by omega)
  | some (.inr r'),h=>exact h
theorem loop_iff {σ ρ:Type} {step:σ→Option (σ ⊕ ρ)} {s:σ} {r:ρ}:goLoop step s=some r↔∃ n,iter step n s=some r:=by
 unfold goLoop
 constructor
 ·intro h
  split at h
  ·exact ⟨_,h⟩
  ·cases h
 ·rintro ⟨n,h⟩
  have hx:∃ n,(iter step n s).isSome=true:=⟨n,by rw [h];rfl⟩
  rw [dif_pos hx]
  obtain ⟨r',h'⟩:=Option.isSome_iff_exists.1 (Classical.choose_spec hx)
  rw [h']
  rcases Nat.le_total n (Classical.choose hx) with e | e
  ·rw [iter_more h e] at h'
   exact h'.symm
  ·rw [iter_more h' e] at h
   exact h
theorem loopC {σ ρ:Type} {step:σ→Option (σ ⊕ ρ)} {s:σ} {r:ρ} (h:goLoop step s=some r):∃ n,iter step n s=some r:=loop_iff.1 h
theorem loop_eq {σ ρ:Type} {step:σ→Option (σ ⊕ ρ)} {s:σ}:goLoop step s=stk (step s) (goLoop step):=by
 apply Option.ext
 intro r
 rw [loop_iff]
 constructor
 ·rintro ⟨n,h⟩
  cases n with
  | zero=>simp [iter] at h
  | succ n=>
   simp only [iter] at h
   generalize step s=o at h
   match o,h with
   | some (.inl s'),h=>exact loop_iff.2 ⟨n,h⟩
   | some (.inr r'),h=>exact h
 ·intro h
  generalize e:step s=o at h
  match o,h,e with
  | some (.inl s'),h,e=>
   obtain ⟨n,h⟩:=loop_iff.1 h
   exact ⟨n+1,by simp only [iter,e];exact h⟩
  | some (.inr r'),h,e=>exact ⟨1,by simp only [iter,e];exact h⟩
section
variable {α β γ σ ρ:Type} {K:α→β} {c:Prop} [Decidable c] {a b:α} {x:β} {y:γ}
theorem iteC {K:Option α→Option γ} {a:Option α} (h0:K none=none) (H:K (if c then a else none)=some y):c∧K a=some y:=by
 by_cases h:c
 ·exact ⟨h,by rwa [if_pos h] at H⟩
 ·rw [if_neg h,h0] at H;cases H
theorem bindC {δ:Type} {K:Option α→Option γ} {o:Option δ} {f:δ→Option α} (h0:K none=none) (H:K (o.bind f)=some y):∃ v,o=some v∧K (f v)=some y:=by
 cases o with
 | none=>rw [Option.bind_none,h0] at H;cases H
 | some v=>exact ⟨v,rfl,H⟩
theorem retC {a b:α} (H:some a=some b):a=b:=by injection H
theorem iter0 {step:σ→Option (σ ⊕ ρ)} {s:σ} {r:ρ} {p:Prop} (H:iter step 0 s=some r):p:=by cases H
end
theorem eqT {a b:Int} (h:a=b):(a == b)=true:=by simp [h]
theorem eqF {a b:Int} (h:¬ a=b):(a == b)=false:=by simp [h]
theorem neT {a b:Int} (h:¬ a=b):(a != b)=true:=by simp [h]
theorem neF {a b:Int} (h:a=b):(a != b)=false:=by simp [h]
theorem boF {b:Bool} (h:¬ b=true):b=false:=by simpa using h
theorem ltN {i:Int} {n:Nat} (h0:0≤i) (h1:i < n):i.toNat < n:=by omega

def eI (k:IntKind) (n:Int):List DV:=[.v (.int k n)]
def eB (b:Bool):List DV:=[.v (.bool b)]
def eS (s:ByteArray):List DV:=[.v (.string s)]
def eL {α:Type} (e:α→List DV) (z:α) (xs:List α):List DV:=[.sl true xs.length (vec e z xs)]
theorem nlI (k:IntKind) (n:Int):NLs (eI k n):=.cons (.v _) .nil
theorem nr_vec {α:Type} {e:α→List DV} {z:α} (h:∀ x,NLs (e x)) {fz:Bool} {k ty n:Nat} {xs:List α}:NR (.flat fz k ty n (vec e z xs)):=.flat fun _ _=>h _
theorem all_nil {r:Row} (h:r∈([]:List Row)):NR r:=by cases h
theorem all_cons {r s:Row} {rs:List Row} (h1:NR s) (h2:∀ r∈rs,NR r) (h:r∈s :: rs):NR r:=by
 rcases List.mem_cons.1 h with rfl | h
 ·exact h1
 ·exact h2 r h

theorem passes_d {rows:List Row} {ids:List Nat} {ρ:Nat→Nat}:∀ (cs:List DV),PassL rows ids ρ (List.map AV.d cs) (List.map AV.d cs)
 | []=>.nil
 | x :: cs=>.cons (.same (.d x)) (passes_d cs)
theorem pass_d {rows:List Row} {ids:List Nat} {ρ:Nat→Nat} (x:DV):Pass rows ids ρ (.d x) (.d x):=.same (.d x)
section
variable {X:Ctx} {T:Tab} {f:FuncId} {k k':List Item} {Q:Frame→Frame→Conf→Prop} {st st':St}
theorem ak_nilS (S:List Nat) (i:Nat) (kk:Nat) (ty:TypeId) (g:Nat→List DV) (e:st.tm.lookup i=some (.d (.v (.slice none 0 0))))
  (ht:St.only S ⟨st.nt,(i,.own st.rows.length kk 0 0) :: st.tm,st.rows ++ [.flat false kk ty 0 g]⟩=st') (h:AK X f k Q st'):AK X f k Q st:=by
 subst ht
 exact ak_nil i kk ty g _ e rfl (ak_only S h)
theorem ak_sealS (S:List Nat) (i:Nat) {av:AV} {y:DV} (e:st.tm.lookup i=some av) (hs:Seals st.rows av y) (he:St.only S { st with tm:=(i,.d y) :: st.tm }=st') (h:AK X f k Q st'):AK X f k Q st:=by
 subst he
 exact ak_seal i e hs rfl (ak_only S h)
end

theorem vec_set {α:Type} {enc:α→List DV} {z x:α} {xs:List α} {i:Nat} (h:i < xs.length):vec enc z (xs.set i x) i=enc x:=by
 simp [vec,h]
theorem vec_set_ne {α:Type} {enc:α→List DV} {z x:α} {xs:List α} {i:Nat}:∀ j,j < xs.length→j≠i→vec enc z (xs.set i x) j=vec enc z xs j:=by
 intro j hj hne
 simp [vec,List.getElem?_set,Ne.symm hne]

section
variable {X:Ctx} {T:Tab} {f:FuncId} {k k':List Item} {Q:Frame→Frame→Conf→Prop} {st st':St}

theorem VRs.append {w:World} {ok:Bool→Nat→Prop}:∀ {xs ys:List DV} {vs us:List Value},VRs w ok xs vs→VRs w ok ys us→VRs w ok (xs ++ ys) (vs ++ us)
 | _,_,_,_,.nil,k=>k
 | _,_,_,_,.cons h1 h hs,k=>.cons h1 h (VRs.append hs k)

def stAt (T:Tab) (st:St) (k:List Item):Option (Nat × Nat × Nat × Nat × Nat × List DV × List Item):=
 match topOp st k with
 | some (o,k')=>
  match o.op with
  | .store t x y=>
   match T.info.lookup t,valOf st.tm x,valOf st.tm y with
   | some (s,_,_),some (.ptr id kk i off),some a=>
    match allD (cellsOf a) with
    | some ds=>bif Nat.beq ds.length s && Nat.ble (off+s) kk && !isTup a && o.dst.isNone then some (id,kk,i,off,s,ds,k') else none
    | none=>none
   | _,_,_=>none
  | _=>none
 | none=>none

theorem ak_st0 (hT:TabOk X.P T) {id kk i off s n:Nat} {ty:TypeId} {ds:List DV} {g:Nat→List DV} (g':Nat→List DV) (e:stAt T st k=some (id,kk,i,off,s,ds,k')) (hr:st.rows[id]? = some (.flat false kk ty n g)) (h1:i < n)
  (hg:g' i=(g i).take off ++ ds ++ (g i).drop (off+s)) (hg2:∀ j,j < n→j≠i→g' j=g j) (hs:st'={ st with rows:=st.rows.set id (.flat false kk ty n g') }) (h:AK X f k' Q st'):AK X f k Q st:=by
 subst hs
 unfold stAt at e
 split at e
 ·rename_i o k3 htop
  split at e
  ·rename_i t x y hop
   split at e
   ·rename_i s0 by' z id0 kk0 i0 off0 a hi hx hy
    split at e
    ·rename_i ds0 hds
     cases hb:(Nat.beq ds0.length s0 && Nat.ble (off0+s0) kk0 && !isTup a && o.dst.isNone) with
     | false=>rw [hb] at e;cases e
     | true=>
      rw [hb] at e
      simp only [cond_true,Option.some.injEq,Prod.mk.injEq] at e
      obtain ⟨rfl,rfl,rfl,rfl,rfl,rfl,rfl⟩:=e
      simp only [Bool.and_eq_true,Bool.not_eq_true',Option.isNone_iff_eq_none] at hb
      obtain ⟨⟨⟨b1,b2⟩,b3⟩,b4⟩:=hb
      have b1:=Nat.eq_of_beq_eq_true b1
      have b2:=Nat.le_of_ble_eq_true b2
      refine ak_top_skip htop b4 h fun a' C hC=>?_
      obtain ⟨b,hμ,hu⟩:=(hC.val _ _ hx).ptr_inv
      have hrow:C.rows[id0]? = some (.flat false kk0 ty n g):=by rw [hC.rows];exact hr
      obtain ⟨cs,vs,r1,r2,r3,r4,r5⟩:=hC.rel.rel id0 _ _ hμ hrow
      have hv:=cellsOf_rel (hC.val _ _ hy) (isTup_ne b3)
      rw [allD_map hds] at hv
      have hv:=hv.toD
      obtain ⟨v,hv0⟩:∃ v,a'.eval y=v:=⟨_,rfl⟩
      rw [hv0] at hv
      have hvl:v.cells.toList.length=s0:=by rw [← hv.length,b1]
      have hik:i0 * kk0+kk0≤n * kk0:=by rw [← Nat.succ_mul];exact Nat.mul_le_mul_right kk0 h1
      have hst:=run_storeCells_at X.P b (i0 * kk0+off0) ty v.cells.toList 0 cs C.w r1 (by omega) hv.one
      let us:Array Value:=(cs.toList.take (i0 * kk0+off0+0) ++ v.cells.toList ++ cs.toList.drop (i0 * kk0+off0+0+v.cells.toList.length)).toArray
      have hus:us.size=cs.size:=by
       simp only [us,List.size_toArray,List.length_append,List.length_take,List.length_drop,Array.length_toList,hvl]
       omega
      have tu:=setRow_turns (r':=.flat false kk0 ty n g') hC.rel hμ hrow rfl r1 hus
      have ev:=Ev.turn hC.rel tu
      have hcell:∀ q,us[q]? = if q < i0 * kk0+off0 then cs[q]? else if q < i0 * kk0+off0+s0 then v.cells.toList[q - (i0 * kk0+off0)]? else cs[q]?:=by
       intro q
       simp only [us,List.getElem?_toArray,Nat.add_zero]
       have hl1:(cs.toList.take (i0 * kk0+off0)).length=i0 * kk0+off0:=by rw [List.length_take,Array.length_toList];omega
       rw [List.getElem?_append,List.length_append,hl1,hvl]
       split
       ·rename_i hq
        rw [List.getElem?_append,hl1]
        split
        ·rename_i hq2
         rw [List.getElem?_take_of_lt hq2]
         simp
        ·rfl
       ·rename_i hq
        rw [if_neg (by omega)]
        rw [List.getElem?_drop,show i0 * kk0+off0+s0+(q - (i0 * kk0+off0+s0))=q from by omega]
        simp
      have hrel:HRel X (C.turn id0 (.flat false kk0 ty n g') (C.w.setRow b us)):=by
       refine HRel.turn hC.rel tu (.inl (by simp)) ⟨us,fun j=>if j=i0 then (vs i0).take off0 ++ v.cells.toList ++ (vs i0).drop (off0+s0) else vs j,by simpa using setRow_heap _ _ _ _ _ _ r1,by rw [hus];exact r2, ?_, ?_, ?_⟩
       ·intro j hj
        by_cases e:j=i0
        ·subst e
         simp only [if_true,List.length_append,List.length_take,List.length_drop,r3 j hj,hvl]
         omega
        ·simp only [if_neg e];exact r3 j hj
       ·intro j hj
        by_cases e:j=i0
        ·subst e
         simp only [if_true]
         rw [hg]
         exact (((r4 j hj).take off0).append hv |>.append ((r4 j hj).drop (off0+s0))).mono ev.ok ev.same
        ·simp only [if_neg e]
         rw [hg2 j hj e]
         exact (r4 j hj).mono ev.ok ev.same
       ·intro j q w hj hw
        rw [hcell]
        by_cases e:j=i0
        ·subst e
         simp only [if_true] at hw
         have hl1:((vs j).take off0).length=off0:=by rw [List.length_take,r3 j hj];omega
         rw [List.getElem?_append,List.length_append,hl1,hvl] at hw
         split at hw
         ·rename_i hq
          rw [List.getElem?_append,hl1] at hw
          split at hw
          ·rename_i hq2
           rw [List.getElem?_take_of_lt hq2] at hw
           rw [if_pos (by omega)]
           exact r5 j q w hj hw
          ·rename_i hq2
           rw [if_neg (by omega),if_pos (by omega),show j * kk0+q - (j * kk0+off0)=q - off0 from by omega]
           exact hw
         ·rename_i hq
          rw [if_neg (by omega),if_neg (by omega)]
          rw [List.getElem?_drop,show off0+s0+(q - (off0+s0))=q from by omega] at hw
          exact r5 j q w hj hw
        ·simp only [if_neg e] at hw
         have hq:q < kk0:=by rw [← r3 j hj];exact (List.getElem?_eq_some_iff.1 hw).1
         have:=r5 j q w hj hw
         rcases Nat.lt_or_gt_of_ne e with h3 | h3
         ·have:j * kk0+kk0≤i0 * kk0:=by rw [← Nat.succ_mul];exact Nat.mul_le_mul_right kk0 h3
          rw [if_pos (by omega)]
          exact r5 j q w hj hw
         ·have:i0 * kk0+kk0≤j * kk0:=by rw [← Nat.succ_mul];exact Nat.mul_le_mul_right kk0 h3
          rw [if_neg (by omega),if_neg (by omega)]
          exact r5 j q w hj hw
      refine ⟨C.turn id0 (.flat false kk0 ty n g') (C.w.setRow b us), ?_, ?_⟩
      ·have hs:=hT.size hi (w:=C.w)
       have h1:(Instr.storeAt t (a'.eval x) (a'.eval y)).run X.P C.w=.ok () (C.w.setRow b us):=by
        rw [hu,hv0]
        simp only [Instr.storeAt,Instr.sureAddr,storeVar,Sem.run_bind,Sem.run_pure,Result.andThen_ok,hs]
        rw [if_neg (by simp at hvl;simp [hvl])]
        exact hst
       simp only [execOp,hop]
       rw [Sem.run_bind,h1]
       rfl
      ·have:=hC.moved ev hrel
       simpa [Conf.turn,hC.rows] using this
    ·cases e
   ·cases e
  ·cases e
 ·cases e
theorem ak_st (hT:TabOk X.P T) (S:List Nat) {id kk i off s n:Nat} {ty:TypeId} {ds:List DV} {g:Nat→List DV} (g':Nat→List DV) (e:stAt T st k=some (id,kk,i,off,s,ds,k')) (hr:st.rows[id]? = some (.flat false kk ty n g)) (h1:i < n)
  (hg:g' i=(g i).take off ++ ds ++ (g i).drop (off+s)) (hg2:∀ j,j < n→j≠i→g' j=g j) (hs:St.only S { st with rows:=st.rows.set id (.flat false kk ty n g') }=st') (h:AK X f k' Q st'):AK X f k Q st:=by
 subst hs
 exact ak_st0 hT g' e hr h1 hg hg2 rfl (ak_only S h)

theorem ak_callP {X:Ctx} {P:Program} {f g:FuncId} {k k':List Item} {Q:Frame→Frame→Conf→Prop} {st st':St} {avs args:List AV} {dst:Option Tmp} (S ids:List Nat) {rowsIn rowsOut:List Row} {ret:AV}
  (hP:X.P=P) (he:Enters P g) (hs:Says P g rowsIn args rowsOut ret) (e:callAt st k=some (g,avs,dst,k')) (hh:Hands st.rows ids rowsIn) (hp:PassL st.rows ids (moveTo ids st.rows.length) avs args)
  (hput:(St.put { st with rows:=afterCall st.rows ids rowsOut } dst (renA (moveTo ids st.rows.length) ret)).map (St.only S)=some st') (h:AK X f k' Q st'):AK X f k Q st:=by
 subst hP
 exact ak_callS S ids he hs e hh hp hput h

theorem ak_callD {X:Ctx} {P:Program} {f g:FuncId} {k k':List Item} {Q:Frame→Frame→Conf→Prop} {st st':St} {avs args:List AV} {dst:Option Tmp} {ret:AV}
  (hP:X.P=P) (he:Enters P g) (hs:Says P g [] args [] ret) (e:callAt st k=some (g,avs,dst,k')) (hp:PassL st.rows [] (moveTo [] st.rows.length) avs args)
  (hput:St.put { st with rows:=afterCall st.rows [] [] } dst (renA (moveTo [] st.rows.length) ret)=some st') (h:AK X f k' Q st'):AK X f k Q st:=by
 subst hP
 exact ak_call [] e he (hands_none _) hp hs hput h

theorem ak_appendL {α:Type} (hT:TabOk X.P T) {id kk by':Nat} {t e:TypeId} {z:List Value} {dst:Option Tmp} {x:AV} (enc:α→List DV) (d:α) (xs ys:List α) (S:List Nat)
  (e1:appAt st k=some (id,kk,xs.length,x,t,dst,k')) (hr:st.rows[id]? = some (.flat false kk e xs.length (vec enc d xs))) (src:SrcOf st.rows kk x ys.length (vec enc d ys))
  (ht:T.slices.lookup t=some e) (hi:T.info.lookup e=some (kk,by',z)) (hz:Nat.beq z.length kk=true) (hk:Nat.blt 0 kk=true) (hb:(xs.length+ys.length) * by'≤140737488355328) (hlim:xs.length+ys.length≤9223372036854775807)
  (hput:(St.put { st with rows:=st.rows.set id .gone ++ [.flat false kk e (xs ++ ys).length (vec enc d (xs ++ ys))] } dst (.own st.rows.length kk 0 (xs ++ ys).length)).map (St.only S)=some st') (h:AK X f k' Q st'):AK X f k Q st:=by
 obtain ⟨s0,h1,rfl⟩:=Option.map_eq_some_iff.1 hput
 exact ak_append hT (vec enc d (xs ++ ys)) e1 hr src ht hi hz hk (by simp) hb hlim vec_append_left vec_append_right h1 (ak_only S h)
end
end Go.Sy
set_option linter.unusedVariables false
set_option linter.unusedSimpArgs false
namespace Go.Sy

def opsAt:List Item→Array Oper
 | .code (.region _ ops _) :: _=>ops
 | _=>#[]
def isDraw:List Item→Bool
 | .code (.region _ _ true) :: _=>true
 | _=>false

section
variable {X:Ctx} {T:Tab} {f:FuncId} {k:List Item} {Q:Frame→Frame→Conf→Prop} {nt:Nat} {rows:List Row} {ops:Array Oper} {m:Nat} {base:List (Nat × AV)} {Φ:List (Option AV)}

def OpAll (X:Ctx) (f:FuncId) (k:List Item) (Q:Frame→Frame→Conf→Prop) (nt:Nat) (rows:List Row) (ops:Array Oper) (base:List (Nat × AV)) (Φ:List (Option AV)) (m:Nat):Prop:=∀ i,i < m→OpOk X f k Q nt rows ops base Φ i
theorem op0:OpAll X f k Q nt rows ops base Φ 0:=fun i hi=>by omega
theorem opS (h:OpAll X f k Q nt rows ops base Φ m) (p:OpOk X f k Q nt rows ops base Φ m):OpAll X f k Q nt rows ops base Φ (m+1):=fun i hi=>by
 rcases Nat.lt_or_ge i m with h1 | h1
 ·exact h i h1
 ·have:i=m:=by omega
  subst this
  exact p

theorem ak_drawAt (hm:X.P.follows .mixedOrders=true) (m:Nat) (S:List Nat) (base:List (Nat × AV)) (Φ:List (Option AV)) {st:St} (hd:isDraw k=true) (e:st.only S=⟨nt,base,rows⟩) (hck:drawOk (opsAt k) m (base.map (·.1))=true)
  (hop:OpAll X f k.tail Q nt rows (opsAt k) base Φ m) (hfin:AK X f (.inRegion (opsAt k) (List.range' m ((opsAt k).size - m)) :: k.tail) Q ⟨nt,finals (opsAt k) Φ m ++ base,rows⟩):AK X f k Q st:=by
 unfold isDraw at hd
 split at hd
 ·exact ak_draw hm m S base Φ e hck hop hfin
 ·cases hd

def OpAllE (X:Ctx) (f:FuncId) (k:List Item) (Q:Frame→Frame→Conf→Prop) (nt:Nat) (rows:List Row) (ops:Array Oper) (base:List (Nat × AV)) (Φ:List (Option AV)) (E:List Nat) (m:Nat):Prop:=∀ i,i < m→i ∉ E→OpOk X f k Q nt rows ops base Φ i
variable {E:List Nat}
theorem opE0:OpAllE X f k Q nt rows ops base Φ E 0:=fun i hi=>by omega
theorem opES (h:OpAllE X f k Q nt rows ops base Φ E m) (p:OpOk X f k Q nt rows ops base Φ m):OpAllE X f k Q nt rows ops base Φ E (m+1):=fun i hi hne=>by
 rcases Nat.lt_or_ge i m with h1 | h1
 ·exact h i h1 hne
 ·have:i=m:=by omega
  subst this
  exact p
theorem opEX (h:OpAllE X f k Q nt rows ops base Φ E m) (he:E.contains m=true):OpAllE X f k Q nt rows ops base Φ E (m+1):=fun i hi hne=>by
 rcases Nat.lt_or_ge i m with h1 | h1
 ·exact h i h1 hne
 ·have:i=m:=by omega
  subst this
  exact absurd (by simpa using he) hne

def Stages (X:Ctx) (f:FuncId) (k:List Item) (Q:Frame→Frame→Conf→Prop) (nt:Nat) (ops:Array Oper) (base:List (Nat × AV)) (Φ:List (Option AV)) (E:List Nat) (m:Nat):List (List Row)→List Nat→Prop
 | [rows],[]=>OpAllE X f k Q nt rows ops base Φ E m
 | rows :: rows' :: rs,e :: es=>OpAllE X f k Q nt rows ops base Φ E m∧OpEff X f k Q nt rows rows' ops base Φ e∧Stages X f k Q nt ops base Φ E m (rows' :: rs) es
 | _,_=>False
theorem Stages.at_ {ops:Array Oper} {base:List (Nat × AV)} {Φ:List (Option AV)}:∀ {R:List (List Row)} {es:List Nat},Stages X f k Q nt ops base Φ E m R es→R.length=es.length+1∧(∀ s,s≤es.length→OpAllE X f k Q nt (R.getD s []) ops base Φ E m)∧∀ (j e:Nat),es[j]? = some e→OpEff X f k Q nt (R.getD j []) (R.getD (j+1) []) ops base Φ e
 | [rows],[],h=>⟨rfl,fun s hs=>by
   have:s=0:=by simpa using hs
   subst this
   exact h,fun j e he=>by simp at he⟩
 | rows :: rows' :: rs,e :: es,h=>by
  obtain ⟨h1,h2,h3⟩:=h
  obtain ⟨a1,a2,a3⟩:=Stages.at_ h3
  refine ⟨by simp only [List.length_cons] at a1 ⊢;omega,fun s hs=>?_,fun j q hq=>?_⟩
  ·cases s with
   | zero=>exact h1
   | succ s=>exact a2 s (by simpa using hs)
  ·cases j with
   | zero=>
    simp at hq
    subst hq
    exact h2
   | succ j=>exact a3 j q (by simpa using hq)
 | [],_,h=>h.elim
 | [_],_ :: _,h=>h.elim
 | _ :: _ :: _,[],h=>h.elim

def chainOk (ops:Array Oper) (m:Nat):List Nat→Bool
 | []=>true
 | [e]=>Nat.blt e m
 | e :: e' :: es=>Nat.blt e m && Nat.blt e e' && (ancs ops e' (depsAt ops e')).contains e && chainOk ops m (e' :: es)
theorem chain_of {ops:Array Oper} {m:Nat}:∀ {E:List Nat},chainOk ops m E=true→(∀ e∈E,e < m)∧E.Pairwise (· < ·)∧∀ (j e e':Nat),E[j]? = some e→E[j+1]? = some e'→e∈ancs ops e' (depsAt ops e')
 | [],_=>⟨fun _ h=>by simp at h,.nil,fun _ _ _ h=>by simp at h⟩
 | [e],h=>⟨fun x hx=>by
   have:x=e:=by simpa using hx
   subst this
   exact Nat.le_of_ble_eq_true h,by simp,fun j _ _ _ h=>by simp at h⟩
 | e :: e' :: es,h=>by
  simp only [chainOk,Bool.and_eq_true] at h
  obtain ⟨⟨⟨h1,h2⟩,h3⟩,h4⟩:=h
  obtain ⟨a1,a2,a3⟩:=chain_of h4
  have hlt:e < e':=Nat.le_of_ble_eq_true h2
  refine ⟨fun x hx=>?_, ?_,fun j x y hx hy=>?_⟩
  ·rcases List.mem_cons.1 hx with rfl | hx
   ·exact Nat.le_of_ble_eq_true h1
   ·exact a1 x hx
  ·rw [List.pairwise_cons]
   refine ⟨fun y hy=>?_,a2⟩
   rcases List.mem_cons.1 hy with rfl | hy
   ·exact hlt
   ·exact Nat.lt_trans hlt ((List.pairwise_cons.1 a2).1 y hy)
  ·cases j with
   | zero=>
    simp at hx hy
    subst hx
    subst hy
    simpa using h3
   | succ j=>exact a3 j x y (by simpa using hx) (by simpa using hy)

theorem ak_drawAtE (hm:X.P.follows .mixedOrders=true) (m:Nat) (E:List Nat) (S:List Nat) (base:List (Nat × AV)) (Φ:List (Option AV)) (R:List (List Row)) {st:St} (hd:isDraw k=true) (e:st.only S=⟨nt,base,R.getD 0 []⟩) (hck:drawOk (opsAt k) m (base.map (·.1))=true) (hch:chainOk (opsAt k) m E=true)
  (hs:Stages X f k.tail Q nt (opsAt k) base Φ E m R E)
  (hfin:AK X f (.inRegion (opsAt k) (List.range' m ((opsAt k).size - m)) :: k.tail) Q ⟨nt,finals (opsAt k) Φ m ++ base,R.getD E.length []⟩):AK X f k Q st:=by
 unfold isDraw at hd
 split at hd
 ·obtain ⟨a1,a2,a3⟩:=hs.at_
  obtain ⟨b1,b2,b3⟩:=chain_of hch
  exact ak_drawR (rw_:=fun s=>R.getD s []) (E:=E) hm m S base Φ e hck ⟨b1,b2.imp (fun h=>Nat.ne_of_lt h),b3⟩ (fun i hi hne s hs=>a2 s hs i hi hne) a3 hfin
 ·cases hd

theorem op_goF (hT:TabOk X.P T) {i:Nat} {rows':List Row} (e:∀ R rest,sstep T (.inRegion ops (i :: R) :: k) ⟨nt,needOf ops base Φ i ++ rest,rows⟩=some (.inRegion ops R :: k,⟨nt,updOf (dstOf ops i) ((Φ[i]?).join) (needOf ops base Φ i ++ rest),rows'⟩)):
  OpEff X f k Q nt rows rows' ops base Φ i:=fun R rest h=>sstep_sound hT (e R rest) h

theorem op_goE (hT:TabOk X.P T) {i:Nat} {st':List Nat→List (Nat × AV)→St} (e:∀ R rest,sstep T (.inRegion ops (i :: R) :: k) ⟨nt,needOf ops base Φ i ++ rest,rows⟩=some (.inRegion ops R :: k,st' R rest))
  (h:∀ R rest,st' R rest=⟨nt,updOf (dstOf ops i) ((Φ[i]?).join) (needOf ops base Φ i ++ rest),rows⟩):OpOk X f k Q nt rows ops base Φ i:=fun R rest hh=>sstep_sound hT (e R rest) (by rw [h];exact hh)
end
end Go.Sy
set_option linter.unusedVariables false
set_option linter.unusedSimpArgs false
namespace Go.Sy
open Go.Deep Go.WideShapes Go.RowKit

def okW (w:World) (t:Bool) (b:Nat):Prop:=b < w.heap.size

def RD (P:Program) (t:TypeId) {α:Type} (e:α→List DV) (wf:α→Prop):Prop:=
 ∀ (H:Type) (enc:TypeId × Value→H) (w:World) (spare:Nat→Bool) (fuel:Nat) (cs:List Value) (x:DataW H × List MemPlace),DataW.trod enc P w 0 spare true fuel t cs=some x→∃ a:α,VRs w (okW w) (e a) cs∧wf a

section
variable {P:Program} {t:TypeId}

theorem trod_int {H:Type} {enc:TypeId × Value→H} {w:World} {spare:Nat→Bool} {fuel:Nat} {cs:List Value} {x:DataW H × List MemPlace} {k:IntKind} (hu:P.underlying t=some (.int k)) (h:DataW.trod enc P w 0 spare true fuel t cs=some x):
  ∃ n,cs=[.int k n]∧(Lit.int k n).wf=true:=by
 cases fuel with
 | zero=>simp [DataW.trod] at h
 | succ m=>
  cases cs with
  | nil=>simp [DataW.trod,hu] at h
  | cons v tl=>
   cases tl with
   | cons u tl=>simp [DataW.trod,hu] at h
   | nil=>
    cases v<;>simp [DataW.trod,hu] at h
    rename_i k' n
    obtain ⟨⟨rfl,hw⟩,_⟩:=h
    exact ⟨_,rfl,hw⟩

theorem rd_int {k:IntKind} (hu:P.underlying t=some (.int k)):RD P t (eI k) (fun n=>(Lit.int k n).wf=true):=by
 intro H enc w spare fuel cs x h
 obtain ⟨n,rfl,hw⟩:=trod_int hu h
 exact ⟨n,.cons rfl (.v rfl) .nil,hw⟩

theorem rd_bool (hu:P.underlying t=some .bool):RD P t eB (fun _=>True):=by
 intro H enc w spare fuel cs x h
 cases fuel with
 | zero=>simp [DataW.trod] at h
 | succ m=>
  cases cs with
  | nil=>simp [DataW.trod,hu] at h
  | cons v tl=>
   cases tl with
   | cons u tl=>simp [DataW.trod,hu] at h
   | nil=>
    cases v<;>simp [DataW.trod,hu] at h
    exact ⟨_,.cons rfl (.v rfl) .nil,trivial⟩

theorem rd_slice {α:Type} {e:TypeId} {k:Nat} {enc:α→List DV} {wf:α→Prop} (z:α) (hu:P.underlying t=some (.slice e)) (hk:P.cellsOf e=k) (hk0:0 < k) (he:RD P e enc wf):
  RD P t (eL enc z) (fun xs=>xs.length≤maxLen∧∀ x∈xs,wf x):=by
 intro H enc' w spare fuel cs x h
 rcases open_slice hu h with ⟨rfl,_⟩ | ⟨a,len,cap,m,n,D,Pl,rfl,_,hl,hm,hmm,_,hel⟩
 ·exact ⟨[],.cons rfl .sl0 .nil,by simp,by simp⟩
 ·have hle:len≤m:=by rw [hmm];split<;>omega
  have hel2:∀ i,i < len→∃ (cs:List Value) (a':α),cs.length=k∧(∀ j v,cs[j]? = some v→w.cell? (a.add (i * k+j))=some v)∧VRs w (okW w) (enc a') cs∧wf a':=by
   intro i hi
   obtain ⟨cs',h1,h2⟩:=hel i (by omega)
   obtain ⟨a',h3,h4⟩:=he _ _ _ _ _ _ _ h2
   refine ⟨cs',a', ?_, ?_,h3,h4⟩
   ·unfold World.cells? at h1
    rw [if_pos (Nat.zero_le _)] at h1
    rw [← hk]
    have:=mapM_some_length h1
    simpa using this
   ·intro j v hj
    unfold World.cells? at h1
    rw [if_pos (Nat.zero_le _)] at h1
    have hj':j < P.cellsOf e:=by
     have:=mapM_some_length h1
     have h5:=(List.getElem?_eq_some_iff.1 hj).1
     simp at this
     omega
    have:=mapM_some_get h1 j j (by simp [hj'])
    rw [hj,hk] at this
    rw [← add_add]
    exact this
  rcases Nat.eq_zero_or_pos len with h0 | h0
  ·subst h0
   exact ⟨[],.cons rfl .sl0 .nil,by simp,by simp⟩
  ·obtain ⟨b,o,sp⟩:=a
   have hsp:sp=none∧b < w.heap.size:=by
    obtain ⟨cs0,a0,q1,q2,q3,q4⟩:=hel2 0 h0
    have hc:∃ v,cs0[0]? = some v:=⟨cs0[0]'(by omega),List.getElem?_eq_getElem (by omega)⟩
    obtain ⟨v,hv⟩:=hc
    have:=q2 0 v hv
    have e0:(⟨b,o,sp⟩:Addr).add (0 * k+0)=⟨b,o,sp⟩:=by simp [Addr.add]
    rw [e0] at this
    unfold World.cell? at this
    split at this
    ·rename_i hh
     refine ⟨?_, ?_⟩
     ·cases sp with
      | none=>rfl
      | some _=>simp at this
     ·exact (Array.getElem?_eq_some_iff.1 hh).1
    ·cases this
   obtain ⟨rfl,hb⟩:=hsp
   have choose:∃ (f:Nat→List Value) (g:Nat→α),∀ i,i < len→(f i).length=k∧(∀ j v,(f i)[j]? = some v→w.cell? ⟨b,o+i * k+j,none⟩=some v)∧VRs w (okW w) (enc (g i)) (f i)∧wf (g i):=by
    refine ⟨fun i=>if hi:i < len then Classical.choose (hel2 i hi) else [],fun i=>if hi:i < len then Classical.choose (Classical.choose_spec (hel2 i hi)) else z,fun i hi=>?_⟩
    simp only [dif_pos hi]
    obtain ⟨q1,q2,q3,q4⟩:=Classical.choose_spec (Classical.choose_spec (hel2 i hi))
    refine ⟨q1,fun j v hj=>?_,q3,q4⟩
    have:=q2 j v hj
    rw [add_none] at this
    rw [Nat.add_assoc]
    exact this
   obtain ⟨f,g,hfg⟩:=choose
   let xs:=(List.range len).map g
   have hxl:xs.length=len:=by simp [xs]
   have hx:∀ i,i < len→xs.getD i z=g i:=by
    intro i hi
    simp [xs,hi]
   refine ⟨xs,.cons rfl ?_ .nil,by rw [hxl];omega,fun y hy=>?_⟩
   ·rw [hxl]
    exact .sl k f h0 hl hb (fun i hi=>(hfg i hi).1) (fun i hi=>by simp only [vec];rw [hx i hi];exact (hfg i hi).2.2.1) (fun i j v hi hj=>(hfg i hi).2.1 j v hj)
   ·obtain ⟨i,hi,rfl⟩:=List.mem_map.1 hy
    exact (hfg i (by simpa using hi)).2.2.2

theorem VRs.app {w:World} {ok:Bool→Nat→Prop}:∀ {xs ys:List DV} {vs us:List Value},VRs w ok xs vs→VRs w ok ys us→VRs w ok (xs ++ ys) (vs ++ us)
 | _,_,_,_,.nil,k=>k
 | _,_,_,_,.cons h1 h hs,k=>.cons h1 h (VRs.app hs k)

def RF (P:Program) (fs:List Field) (off till:Nat) {α:Type} (e:α→List DV) (wf:α→Prop):Prop:=
 off≤till∧∀ (H:Type) (enc:TypeId × Value→H) (w:World) (spare:Nat→Bool) (fuel:Nat) (cs:List Value),cs.length=till →
  (∀ f∈fs,∃ x:DataW H × List MemPlace,DataW.trod enc P w 0 spare true fuel f.type ((cs.drop f.offset).take (P.cellsOf f.type))=some x)→∃ a:α,VRs w (okW w) (e a) (cs.drop off)∧wf a

theorem rf_nil (till:Nat):RF P [] till till (fun _:Unit=>[]) (fun _=>True):=
 ⟨Nat.le_refl _,fun _ _ w _ _ cs h _=>⟨(),by rw [List.drop_of_length_le (by omega)];exact .nil,trivial⟩⟩

theorem rf_cons {α β:Type} {f:Field} {fs:List Field} {off n till:Nat} {e:α→List DV} {wf:α→Prop} {e':β→List DV} {wf':β→Prop} (h:RD P f.type e wf) (ho:f.offset=off) (hn:P.cellsOf f.type=n) (hs:RF P fs (off+n) till e' wf'):
  RF P (f :: fs) off till (fun p:α × β=>e p.1 ++ e' p.2) (fun p=>wf p.1∧wf' p.2):=by
 obtain ⟨hle,hs⟩:=hs
 refine ⟨by omega,fun H enc w spare fuel cs hl hx=>?_⟩
 obtain ⟨x,hx1⟩:=hx f (List.mem_cons_self ..)
 obtain ⟨a,a1,a2⟩:=h _ _ _ _ _ _ _ hx1
 obtain ⟨b,b1,b2⟩:=hs H enc w spare fuel cs hl (fun g hg=>hx g (List.mem_cons_of_mem _ hg))
 refine ⟨(a,b), ?_,a2,b2⟩
 have:cs.drop off=(cs.drop off).take n ++ cs.drop (off+n):=by
  rw [← List.drop_drop,List.take_append_drop]
 rw [this]
 rw [ho,hn] at a1
 exact a1.app b1

theorem rd_struct {α β:Type} {fs:Array Field} {n:Nat} {e:β→List DV} {wf:β→Prop} {e':α→List DV} {wf':α→Prop} (hu:P.underlying t=some (.struct fs)) (hn:P.cellsOf t=n) (h:RF P fs.toList 0 n e wf)
  (f:β→α) (he:∀ b,e b=e' (f b)) (hw:∀ b,wf b→wf' (f b)):RD P t e' wf':=by
 intro H enc w spare fuel cs x hx
 obtain ⟨xs,m,_,_,hl,hxl,hall⟩:=DataW.trod_struct hu hx
 obtain ⟨b,b1,b2⟩:=h.2 H enc w spare m cs (by rw [hl,hn]) (fun g hg=>by
  obtain ⟨i,hi⟩:=List.mem_iff_getElem?.1 hg
  have:=hall i g (by simpa using hi)
  have hlt:i < fs.size:=by
   have:=(List.getElem?_eq_some_iff.1 hi).1
   simpa using this
  exact ⟨xs[i]'(by omega),by rw [this,List.getElem?_eq_getElem (by omega)]⟩)
 exact ⟨f b,by rw [← he];simpa using b1,hw b b2⟩
end

theorem trod_av {P:Program} {α:Type} {t:TypeId} {e:α→List DV} {wf:α→Prop} (h:RD P t e wf) {H:Type} {enc:TypeId × Value→H} {w:World} {spare:Nat→Bool} {v:Value} {d:DataW H} {p:List MemPlace} (hd:DataW.Trod enc P w 0 spare true t v d p):
  ∃ a:α,VRs w (okW w) (e a) v.cells.toList∧wf a:=by
 obtain ⟨fuel,hf⟩:=hd
 exact h _ _ _ _ _ _ _ hf

theorem vr_one {w:World} {ok:Bool→Nat→Prop} {x:DV} {v:Value} (h:VRs w ok [x] [v]):VR w ok x v:=by
 cases h with
 | cons _ h _=>exact h

def lawCtx (P:Program) (W:World):Ctx:={ P:=P,w0:=W,μ0:=[],okp:=fun b=>b < W.heap.size }

theorem law_calls {P:Program} {f:FuncId} {args:List AV} {b:Bool} (h:Says P f [] args [] (.d (.v (.bool b)))) {W:World} {vs:List Value} (ha:AVRl W (okW W) [] args vs):
  Calls P f vs.toArray W fun e w'=>e=.returned (.bool b)∧Below W.heap.size W w':=by
 have hrel:HRel (lawCtx P W) ⟨[],[],W⟩:=⟨rfl,rfl,rfl,⟨rfl,Nat.le_refl _⟩,Nat.le_refl _,fun _ _ _=>rfl,fun _ cs _ h=>⟨cs,h,rfl⟩,fun _ _ h=>h,fun _ _ h=>by simp at h,fun _ _ _ _ _ h=>by simp at h,fun _ _ _ _ h=>by simp at h,fun _ _ _ _ _ _ _ h=>by simp at h,fun _ _ _ h=>by simp at h⟩
 have hok:∀ t b,okW W t b→(⟨[],[],W⟩:Conf).ok (lawCtx P W) t b:=fun t b hb=>⟨hb,by rintro ⟨_,_,_,h,_⟩;simp at h,fun _=>.inl hb⟩
 have:=h (lawCtx P W) vs rfl (fun b hb=>⟨hb,by simp [Ctx.own0,lawCtx]⟩) hrel (by
  exact AVRl.mono hok (fun _ _ _=>rfl) (fun _ _ h=>h) (fun _ cs _ h=>⟨cs,h,rfl⟩) ha)
 refine this.mono ?_
 rintro e w' ⟨v,μ',rfl,hd⟩
 have hv:=hd.ret.v_inv
 subst hv
 refine ⟨rfl,hd.rel.os,hd.rel.tape,hd.rel.output.1,hd.rel.size,fun k hk=>hd.rel.keep k hk (by simp [Ctx.own0,lawCtx])⟩
end Go.Sy
set_option linter.unusedVariables false
set_option linter.unusedSimpArgs false
namespace Go.Sy

def dupTo (i N j:Nat):Nat:=if j=N then i else j

theorem ak_dup {X:Ctx} {f:FuncId} {k:List Item} {Q:Frame→Frame→Conf→Prop} {st st':St} (i:Nat) {r:Row} (hr:st.rows[i]? = some r) (hl:r.live=true)
  (e1:st'.rows.map (renR (dupTo i st.rows.length))=st.rows.set i .gone ++ [r]) (e2:(st'.tm.map fun p=>(p.1,renA (dupTo i st.rows.length) p.2))=st.tm) (e3:st'.nt=st.nt) (h:AK X f k Q st'):AK X f k Q st:=by
 intro a C hC b cs hb hk
 have hrC:C.rows[i]? = some r:=by rw [hC.rows];exact hr
 obtain ⟨ob,hμ⟩:=hC.rel.muOf hrC
 have h1:=rel_renew hC.rel hμ hrC hl
 have ev:=ev_renew hC.rel hμ hrC
 let C':Conf:=⟨C.μ ++ [ob],st'.rows,C.w⟩
 have hlen:C.μ.length=st.rows.length:=by rw [hC.rel.len,hC.rows]
 have hrows:st'.rows.map (renR (dupTo i st.rows.length))=(C.renew i ob r).rows:=by rw [e1];simp [Conf.renew,hC.rows]
 have hat:∀ {j:Nat} {s:Row},st'.rows[j]? = some s→(C.renew i ob r).rows[j]? = some (renR (dupTo i st.rows.length) s):=by
  intro j s hs
  rw [← hrows,List.getElem?_map,hs]
  rfl
 have hρ:∀ (j:Nat) x,(C.renew i ob r).μ[dupTo i st.rows.length j]? = some x→C'.μ[j]? = some x:=by
  intro j x hx
  simp only [C',Conf.renew] at hx ⊢
  unfold dupTo at hx
  split at hx
  ·rename_i hj
   subst hj
   rw [get_append_old hμ] at hx
   injection hx with hx
   subst hx
   rw [← hlen]
   simp
  ·exact hx
 have hlive:∀ {q:Nat},C'.live q→(C.renew i ob r).live q:=by
  rintro q ⟨j,m,s,a1,a2,a3,a4⟩
  exact ⟨j,m,_,a1,hat a2,by rw [renR_live];exact a3,(renR_hasB _ _ _ _ _).2 a4⟩
 have hok:∀ t q,(C.renew i ob r).ok X t q→C'.ok X t q:=fun t q ⟨a1,a2,a3⟩=>⟨a1,fun e=>a2 (hlive e),a3⟩
 have hrel:HRel X C':=by
  refine ⟨?_,h1.os,h1.tape,h1.output,h1.size,h1.keep,h1.shape,h1.first,h1.place, ?_, ?_, ?_, ?_⟩
  ·have:=congrArg List.length hrows
   simp only [List.length_map] at this
   show (C.μ ++ [ob]).length=st'.rows.length
   rw [this]
   exact h1.len
  ·intro p q c s u b1 b2 b3 b4 b5 b6
   exact h1.apart p q c _ _ b1 b2 (hat b3) (hat b4) (by rw [renR_live];exact b5) (by rw [ne_eq,renR_gone];exact b6)
  ·intro p m c s b1 b2 b3
   exact h1.placeX p m c _ b1 (hat b2) (by rw [renR_ext];exact b3)
  ·intro p q m n c s u b1 b2 b3 b4 b5 b6
   have:=h1.apartX p q m n c _ _ b1 b2 (hat b3) (hat b4) (by rw [renR_ext];exact b5) (by rw [ne_eq,renR_gone];exact b6)
   exact ⟨this.1,fun b7=>this.2 (by rw [renR_ext];exact b7)⟩
  ·intro j o s b1 b2
   exact (h1.rel j o _ b1 (hat b2)).unren hok hρ
 refine h a C' ⟨hrel,rfl,hC.defers,hC.nt.trans e3.symm,fun j av e=>?_⟩ b cs hb hk
 have:=lookup_map (ρ:=dupTo i st.rows.length) e
 rw [e2] at this
 obtain ⟨v,c1,c2⟩:=hC.tm j _ this
 exact ⟨v,c1,(ev.avr c2).unren hok hρ⟩

section
variable {X:Ctx} {C:Conf}

end
end Go.Sy
