/- Strings: joined, cut, made of bytes, appended to bytes. -/
import Derived.Test.YtdhmflhncidjaaaGreatSyQ
import Derived.Laws.BytesString
import Derived.Lib.AppendStr
import Derived.Deep.AppendSrc
import Derived.Deep.Upon
set_option linter.unusedVariables false
set_option linter.unusedSimpArgs false
namespace Go.Sy
section
variable {X:Ctx} {T:Tab} {f:FuncId} {k k':List Item} {Q:Frame->Frame->Qq->Prop} {st st':St}
def Qov (st:St) (k:List Item):Option (ByteArray × ByteArray × Option Tmp × List Item):=
 match Qde st k with
 | some (o,k')=>
  match o.op with
  | .binOp .add t x y _=>
   match valOf st.tm x,valOf st.tm y with
   | some (.d (.v (.string a))),some (.d (.v (.string b)))=>some (a,b,o.dst,k')
   | _,_=>none
  | _=>none
 | none=>none
theorem Wa9 (a b:ByteArray) (dst:Option Tmp) (e:Qov st k=some (a,b,dst,k')) (hb:((a.size+b.size:Nat):Int)<=9223372036854775807) (h1:St.put st dst (.d (.v (.string (a ++ b))))=some st') (h:AK X f k' Q st'):AK X f k Q st:=by
 unfold Qov at e
 split at e
 ·rename_i o k3 Qbe
  split at e
  ·rename_i t x y ty hop
   split at e
   ·rename_i a' b' hx hy
    simp only [Option.some.injEq,Prod.mk.injEq] at e
    obtain ⟨rfl,rfl,rfl,rfl⟩:=e
    refine Qd6 Qbe h fun ac C hC=>⟨.string (a' ++ b'),C,st, ?_,hC,_,h1,.d (.v rfl)⟩
    have hu:=(hC.val _ _ hx).Qbt
    have hv:=(hC.val _ _ hy).Qbt
    have hn:¬ (IntKind.i64.max < ((a'.size+b'.size:Nat):Int)):=by
     have:IntKind.i64.max=9223372036854775807:=rfl
     omega
    have hr:(binOp .add t (.string a') (.string b')).run X.P C.w=.ok (.string (a' ++ b')) C.w:=by
     have:¬ (((a'.size+b'.size:Nat):Int) > IntKind.i64.max):=hn
     simp only [binOp,Op.stringOp,if_neg this]
     rfl
    have hg:(eqGuard .add t x y (Value.string a') (Value.string b')).run X.P C.w=.ok () C.w:=by simp [eqGuard]
    simp only [execOp,hop,hu,hv]
    rw [Sem.run_bind,Sem.run_bind,hg,Result.andThen_ok,hr]
    rfl
   cases e
  cases e
 cases e
def Qjv (T:Tab) (st:St) (k:List Item):Option (ByteArray × Option (IntKind × Int) × Option (IntKind × Int) × Option Tmp × List Item):=
 match Qde st k with
 | some (o,k')=>
  match o.op with
  | .slice t x lo hi none=>
   match valOf st.tm x,T.strs.contains t,Qhe st.tm lo,Qhe st.tm hi with
   | some (.d (.v (.string b))),true,some l,some h=>some (b,l,h,o.dst,k')
   | _,_,_,_=>none
  | _=>none
 | none=>none
theorem Wew {P:Program} (w:World) {t:TypeId} (hu:P.underlying t=some .string) (s:ByteArray) (l h:Option (IntKind × Int)) (h0:0<=loN l) (h1:loN l<=hiN s.size h) (h2:hiN s.size h<=s.size):
  (Instr.sliceAt t (.string s) (l.map fun p=>.int p.1 p.2) (h.map fun p=>.int p.1 p.2) none).run P w=.ok (.string (s.extract (loN l).toNat (hiN s.size h).toNat)) w:=by
 rw [run_sliceAt_string w t _ _ _ _ hu]
 cases l with
 | none=>
  cases h with
  | none=>simp only [Option.map_none,loN,hiN] at *;rw [run_slice_string_all w t s hu];rfl
  | some p=>simp only [Option.map_none,Option.map_some,loN,hiN] at *;rw [run_slice_string_h w t s hu p.1 p.2 h1 (by omega)];rfl
 | some q=>
  cases h with
  | none=>simp only [Option.map_none,Option.map_some,loN,hiN] at *;rw [run_slice_string_l w t s hu q.1 q.2 h0 (by omega)];rfl
  | some p=>simp only [Option.map_some,loN,hiN] at *;exact run_slice_string w t s q.1 p.1 q.2 p.2 hu h0 h1 (by omega)
theorem Qtq (hT:Qw X.P T) {s:ByteArray} {l h:Option (IntKind × Int)} {dst:Option Tmp} (e:Qjv T st k=some (s,l,h,dst,k')) (hc:0<=loN l/\loN l<=hiN s.size h/\hiN s.size h<=s.size)
  (h1:St.put st dst (.d (.v (.string (s.extract (loN l).toNat (hiN s.size h).toNat))))=some st') (hh:AK X f k' Q st'):AK X f k Q st:=by
 unfold Qjv at e
 split at e
 ·rename_i o k3 Qbe
  split at e
  ·rename_i t x lo hi hop
   split at e
   ·rename_i b l' h' hx hs hl hhi
    simp only [Option.some.injEq,Prod.mk.injEq] at e
    obtain ⟨rfl,rfl,rfl,rfl,rfl⟩:=e
    refine Qd6 Qbe hh fun a C hC=>⟨_,C,st, ?_,hC,_,h1,.d (.v rfl)⟩
    have key:∀ (y:Option Operand) (r:Option (IntKind × Int)),Qhe st.tm y=some r->y.map a.eval=r.map fun p=>Value.int p.1 p.2:=by
     intro y r hy
     cases y with
     | none=>simp only [Qhe,Option.some.injEq] at hy;subst hy;rfl
     | some y=>
      simp only [Qhe] at hy
      split at hy
      ·rename_i kk ii hv
       injection hy with hy
       subst hy
       have:=(hC.val _ _ hv).Qbt
       simp only [Option.map_some,this]
      cases hy
    have hv:=(hC.val _ _ hx).Qbt
    simp only [execOp,hop,key _ _ hl,key _ _ hhi,Option.map_none,hv]
    rw [Sem.run_bind,Wew C.w (hT.str hs) _ _ _ hc.1 hc.2.1 hc.2.2]
    rfl
   cases e
  cases e
 cases e
def Qm4 (xs:List Int):ByteArray:=⟨(xs.map fun n=>UInt8.ofNat n.toNat).toArray⟩
theorem Qwx:∀ (xs:List Int) (s:ByteArray),xs.foldl (fun r n=>r.push (UInt8.ofNat n.toNat)) s=⟨s.data ++ (xs.map fun n=>UInt8.ofNat n.toNat).toArray⟩
 | [],s=>by simp
 | n :: xs,s=>by
  rw [List.foldl_cons,Qwx xs]
  simp [ByteArray.push]
theorem Wm4 (xs:List Int):xs.foldl (fun r n=>r.push (UInt8.ofNat n.toNat)) ByteArray.empty=Qm4 xs:=by
 rw [Qwx]
 have:ByteArray.empty.data=#[]:=rfl
 rw [this,Array.empty_append]
 rfl
theorem Qxy {w:World} {ok:Bool->Nat->Prop} {x:Value} {u:List Value} (h:VRs w ok [.v x] u):u=[x]:=by
 cases h with
 | cons h1 h hs=>
  cases hs
  cases h
  rfl
structure Qtj (w:World) (xs:List Int) (v:Value):Prop where
 shape:∃ A c,v=.slice A xs.length c/\(A=none->xs=[])/\∀ ad,A=some ad->∀ (j:Nat) n,xs[j]? = some n->w.cell? (ad.add j)=some (.int .u8 n)
theorem Wfq {P:Program} {w:World} {xs:List Int} {v:Value} (h:Qtj w xs v) {src dst e:TypeId} (hs:P.underlying src=some (.slice e)) (he:P.underlying e=some (.int .u8)) (hd:P.underlying dst=some .string):
  (convert src dst v).run P w=.ok (.string (Qm4 xs)) w:=by
 obtain ⟨A,c,rfl,h0,h1⟩:=h.shape
 rw [run_convert_bytes_string w src dst e A _ c hs he hd]
 cases A with
 | none=>
  have:=h0 rfl
  subst this
  rfl
 | some ad=>
  rw [run_bytesToString w ad xs.length c xs,Wm4]
  have:=run_firstCells_some (P:=P) w 1 xs.length ad xs.length c (xs.map (Value.int .u8)) (by simp) (fun j v hj=>by
   rw [List.getElem?_map,Option.map_eq_some_iff] at hj
   obtain ⟨n,hn,rfl⟩:=hj
   exact h1 ad rfl j n hn)
  simpa [Builtin.firstCells] using this
theorem Wjc {w:World} {ok:Bool->Nat->Prop} {tg:Bool} {xs:List Int} {v:Value} (h:VR w ok (.sl tg xs.length (vec (eI .u8) 0 xs)) v):Qtj w xs v:=by
 generalize hn:xs.length=n at h
 cases h with
 | sl0=>
  have:xs=[]:=List.length_eq_zero_iff.1 hn
  subst this
  exact ⟨⟨_,_,rfl,fun _=>rfl,fun _ _ j n h=>by simp at h⟩⟩
 | sl kq vs g0 gc gok gl gr gm=>
  rename_i b o c
  have hk:kq=1:=by
   have:=(gr 0 g0).length
   rw [gl 0 g0] at this
   exact this.symm
  subst hk
  refine ⟨⟨some ⟨b,o,none⟩,c,by rw [hn],fun h=>(by cases h),fun ad ha j m hj=>?_⟩⟩
  injection ha with ha
  subst ha
  have hjn:j < n:=by
   have:=(List.getElem?_eq_some_iff.1 hj).1
   omega
  have hv:=gr j hjn
  have hvj:vec (eI .u8) 0 xs j=[.v (.int .u8 m)]:=by
   unfold vec eI
   rw [List.getD_eq_getElem?_getD,hj]
   rfl
  rw [hvj] at hv
  have:=Qxy hv
  have:=gm j 0 (.int .u8 m) hjn (by rw [this];rfl)
  rw [Nat.mul_one,Nat.add_zero] at this
  rw [Qgx]
  exact this
theorem Wcb {C:Qq} (h:Wt X C) {id e:Nat} {fz:Bool} {xs:List Int} {v:Value} (hr:C.rows[id]? = some (.flat fz 1 e xs.length (vec (eI .u8) 0 xs))) (hv:Zj C.w (C.ok X) C.μ (.own id 1 0 xs.length) v):Qtj C.w xs v:=by
 generalize hn:xs.length=n at hr hv
 generalize ho:(0:Nat)=off at hv
 cases hv with
 | Qbj hm=>
  have:xs=[]:=List.length_eq_zero_iff.1 hn
  subst this
  exact ⟨⟨_,_,rfl,fun _=>rfl,fun _ _ j n h=>by simp at h⟩⟩
 | own hm hh hs hnc hc=>
  rename_i b c cs ty
  subst ho
  obtain ⟨cs2,vs,r1,r2,r3,r4,r5⟩:=h.rel id (some b) _ hm hr
  refine ⟨⟨some ⟨b,0 * 1,none⟩,c,by rw [hn],fun h=>(by cases h),fun ad ha j m hj=>?_⟩⟩
  injection ha with ha
  subst ha
  have hjn:j < n:=by
   have:=(List.getElem?_eq_some_iff.1 hj).1
   omega
  have hv:=r4 j hjn
  have hvj:vec (eI .u8) 0 xs j=[.v (.int .u8 m)]:=by
   unfold vec eI
   rw [List.getD_eq_getElem?_getD,hj]
   rfl
  rw [hvj] at hv
  have:=Qxy hv
  have:=r5 j 0 (.int .u8 m) hjn (by rw [this];rfl)
  simp only [Nat.mul_one,Nat.add_zero,Nat.zero_mul] at this ⊢
  rw [Addr.add_lit,Nat.zero_add,World.cell?,r1]
  simpa using this
def Qvq (T:Tab) (st:St) (k:List Item):Option (AV × Option Tmp × List Item):=
 match Qde st k with
 | some (o,k')=>
  match o.op with
  | .convert s t x=>
   match valOf st.tm x,T.Qbn.lookup s,T.strs.contains t with
   | some av,some e,true=>match T.ints.lookup e with
    | some .u8=>some (av,o.dst,k')
    | _=>none
   | _,_,_=>none
  | _=>none
 | none=>none
inductive Qu2 (rows:List Row) (xs:List Int):AV->Prop
 | d (tg:Bool):Qu2 rows xs (.d (.sl tg xs.length (vec (eI .u8) 0 xs)))
 | own {id e:Nat} {fz:Bool} (h:rows[id]? = some (.flat fz 1 e xs.length (vec (eI .u8) 0 xs))):Qu2 rows xs (.own id 1 0 xs.length)
theorem Wfj (hT:Qw X.P T) {av:AV} {dst:Option Tmp} (xs:List Int) (e:Qvq T st k=some (av,dst,k')) (hb:Qu2 st.rows xs av) (h1:St.put st dst (.d (.v (.string (Qm4 xs))))=some st') (h:AK X f k' Q st'):AK X f k Q st:=by
 unfold Qvq at e
 split at e
 ·rename_i o k3 Qbe
  split at e
  ·rename_i s t x hop
   split at e
   ·rename_i av' el hx hsl hst
    split at e
    ·rename_i hint
     simp only [Option.some.injEq,Prod.mk.injEq] at e
     obtain ⟨rfl,rfl,rfl⟩:=e
     refine Qd6 Qbe h fun a C hC=>⟨_,C,st, ?_,hC,_,h1,.d (.v rfl)⟩
     have hv:=hC.val _ _ hx
     have hbv:Qtj C.w xs (a.eval x):=by
      cases hb with
      | d tg=>
       cases hv with
       | d hv=>exact Wjc hv
      | own hr=>exact Wcb hC.rel (by rw [hC.rows];exact hr) hv
     have:=Wfq hbv (hT.slice hsl) (hT.int hint) (hT.str hst)
     simp only [execOp,hop]
     rw [Sem.run_bind,this]
     rfl
    cases e
   cases e
  cases e
 cases e
end
end Go.Sy
namespace Go.Sy
section
variable {X:Ctx} {C:Qq} {T:Tab}
set_option maxHeartbeats 1000000 in
theorem Qya (hT:Qw X.P T) (h:Wt X C) {id k m n by':Nat} {t tu e ty:TypeId} {z:List Value} {g gs g':Nat->List DV} {v:Value} {news:List Value} (s:ByteArray) (hk1:k=1) (hm1:m=s.size) (hnews:news=Lib.strCells s) (htu:X.P.underlying tu=some .string)
  (Qpl:news.length=m * k) (srel:∀ i,i < m->VRs C.w (C.ok X) (gs i) ((news.drop (i * k)).take k)) (sone:∀ v∈news,v.oneCell'=true)
  (hr:C.rows[id]? = some (.flat false k e n g)) (hv:Zj C.w (C.ok X) C.μ (.own id k 0 n) v) (ht:T.Qbn.lookup t=some e) (hi:T.info.lookup e=some (k,by',z)) (hz:z.length=k) (hk:0 < k)
  (hb:(n+m) * by'<=140737488355328) (Qkx:n+m<=9223372036854775807) (h1:∀ i,i < n->g' i=g i) (h2:∀ i,i < m->g' (n+i)=gs i):
  ∃ v' C',(Builtin.append_ #[t,tu] ty #[v,.string s]).run X.P C.w=.ok v' C'.w/\C'.rows=C.rows.set id .gone ++ [.flat false k e (n+m) g']/\Wt X C'/\Ev X C C'/\Zj C'.w (C'.ok X) C'.μ (.own C.rows.length k 0 (n+m)) v':=by
 obtain ⟨i0,hi0,hs0,hb0,hz0⟩:=hT.infoAt hi
 obtain ⟨zv,hzv,hzc⟩:=Option.map_eq_some_iff.1 hz0
 have hu:=hT.slice ht
 have Qmw:Src X.P i0.size tu (.string s) m news C.w:=by
  have q:=Src.ofString (P:=X.P) C.w htu s
  rw [hs0,hk1,hm1,hnews]
  exact q
 have hzs:zv.cells.size=k:=by rw [hzc];simpa using hz
 have hlt:=(List.getElem?_eq_some_iff.1 hr).1
 -- what the new row's cells are
 have Qks:∀ (old:List Value) (cur:Array Value),old.length=n * k->(∀ i,i < n->VRs C.w (C.ok X) (g i) ((old.drop (i * k)).take k))->cur.toList.take ((n+m) * k)=old ++ news ->
   (n+m) * k<=cur.size->∀ (C':Qq),Ev X C C'->∀ b,C'.w.heap[b]? = some (.cells cur e (0,0))->Qbg C'.w (C'.ok X) C'.μ (some b) (.flat false k e (n+m) g'):=by
  intro old cur ho Zb htk hsz C' ev b hh
  have hlen:(old ++ news).length=(n+m) * k:=by rw [List.length_append,ho,Qpl,Nat.add_mul]
  refine ⟨cur,fun i=>((old ++ news).drop (i * k)).take k,hh,hsz, ?_, ?_, ?_⟩
  ·intro i hi
   rw [List.length_take,List.length_drop,hlen]
   have:i * k+k<=(n+m) * k:=by rw [<- Nat.succ_mul];exact Nat.mul_le_mul_right k hi
   omega
  ·intro i hi
   show VRs _ _ (g' i) (((old ++ news).drop (i * k)).take k)
   by_cases hin:i < n
   ·rw [h1 i hin]
    have e1:i * k+k<=n * k:=by rw [<- Nat.succ_mul];exact Nat.mul_le_mul_right k hin
    have:((old ++ news).drop (i * k)).take k=(old.drop (i * k)).take k:=by
     rw [List.drop_append_of_le_length (by rw [ho];omega),List.take_append_of_le_length (by rw [List.length_drop,ho];omega)]
    rw [this]
    exact (Zb i hin).mono ev.ok ev.same
   obtain ⟨q,rfl⟩:∃ q,i=n+q:=⟨i - n,by omega⟩
   rw [h2 q (by omega)]
   have:((old ++ news).drop ((n+q) * k)).take k=(news.drop (q * k)).take k:=by
    rw [Nat.add_mul,List.drop_append,List.drop_of_length_le (by rw [ho];omega),List.nil_append,ho,Nat.add_sub_cancel_left]
   rw [this]
   exact (srel q (by omega)).mono ev.ok ev.same
  intro i j w hi hj
  have:=Qka hj
  rw [<- htk] at this
  rw [List.getElem?_take] at this
  split at this
  ·simpa using this
  cases this
 have Qs9:∀ (C':Qq) (b c':Nat) (cur:Array Value),C'.μ[C.rows.length]? = some (some b)->C'.w.heap[b]? = some (.cells cur e (0,0))->c' * k=cur.size->n+m<=c'->c'<=maxLen ->
   Zj C'.w (C'.ok X) C'.μ (.own C.rows.length k 0 (n+m)) (.slice (some ⟨b,0,none⟩) (n+m) c'):=by
  intro C' b c' cur e1 e2 e3 e4 e5
  have:=Zj.own (w:=C'.w) (ok:=C'.ok X) (μ:=C'.μ) (off:=0) (k:=k) (n:=n+m) e1 e2 (by rw [Nat.zero_add];exact e3) e4 e5
  rwa [Nat.zero_mul] at this
 -- a new array
 have fresh:∀ (C1:Qq),Wt X C1->Ev X C C1->C1.rows=C.rows.set id .gone->∀ (old:List Value) (q:Nat),q < n+m->old.length=n * k->(∀ i,i < n->VRs C.w (C.ok X) (g i) ((old.drop (i * k)).take k)) ->
   C1.w=C.w->(Builtin.append_ #[t,tu] ty #[v,.string s]).run X.P C.w=.ok (.slice (some ⟨C.w.heap.size,0,none⟩) (n+m) (grownCap C.w (n+m) q e))
    (C.w.drew.alloc (.cells (old.toArray ++ news.toArray ++ Builtin.zeroCells zv.cells (grownCap C.w (n+m) q e - (n+m))) e)) ->
   ∃ v' C',(Builtin.append_ #[t,tu] ty #[v,.string s]).run X.P C.w=.ok v' C'.w/\C'.rows=C.rows.set id .gone ++ [.flat false k e (n+m) g']/\Wt X C'/\Ev X C C'/\Zj C'.w (C'.ok X) C'.μ (.own C.rows.length k 0 (n+m)) v':=by
  intro C1 hC1 ev1 Qd3 old q hq ho Zb hw Qcx
  have hge:=grownCap_ge C.w (n+m) q e
  have hcm:grownCap C.w (n+m) q e<=maxLen:=grownCap_le_maxLen C.w (n+m) q e (by simp only [maxLen];omega)
  let cur:Array Value:=old.toArray ++ news.toArray ++ Builtin.zeroCells zv.cells (grownCap C.w (n+m) q e - (n+m))
  have hcs:cur.size=grownCap C.w (n+m) q e * k:=by
   simp only [cur,Array.size_append,List.size_toArray,size_zeroCells,hzs,ho,Qpl,<- Nat.add_mul]
   congr 1
   omega
  have htk:cur.toList.take ((n+m) * k)=old ++ news:=by
   have hlen:(old ++ news).length=(n+m) * k:=by rw [List.length_append,ho,Qpl,Nat.add_mul]
   simp only [cur,Array.toList_append,List.append_assoc]
   rw [<- List.append_assoc,<- hlen]
   exact List.take_left
  have hd:=hC1.drew
  have ev2:=Ev.push hd (.cells cur e) (.flat false k e (n+m) g')
  have ev:=(ev1.trans Ev.drew).trans ev2
  have Qnn:C1.drew.w.heap.size=C.w.heap.size:=by rw [Qq.drew,hw];rfl
  refine ⟨.slice (some ⟨C.w.heap.size,0,none⟩) (n+m) (grownCap C.w (n+m) q e),C1.drew.push (.cells cur e) (.flat false k e (n+m) g'), ?_,by simp [Qq.push,Qq.drew,Qd3],Wt.push hd ?_,ev, ?_⟩
  ·rw [Qcx,Qq.push,Qq.drew,hw]
  ·exact Qks old cur ho Zb htk (by rw [hcs];exact Nat.mul_le_mul_right k hge) _ ev _ (heap_alloc_new _ _)
  refine Qs9 _ C.w.heap.size _ cur ?_ ?_ hcs.symm hge hcm
  ·have:C1.μ.length=C.rows.length:=by rw [hC1.len,Qd3];simp
   simp [Qq.push,<- this,Qnn,Qq.drew]
   rw [hw]
  rw [<- Qnn]
  exact heap_alloc_new _ _
 cases hv with
 | Qbj hμ=>
  obtain ⟨hg1,hg2⟩:=Qw1 h hμ
  by_cases hm:m=0
  ·subst hm
   have hn:news=[]:=List.eq_nil_of_length_eq_zero (by simpa using Qpl)
   subst hn
   have Qcx:(Builtin.append_ #[t,tu] ty #[.slice none 0 0,.string s]).run X.P C.w=.ok (.slice none 0 0) C.w:=run_append_nothing C.w t tu ty e i0 hu hi0 none 0 0 (Nat.le_refl _) _ Qmw
   have hvr:Wt X ((⟨C.μ,C.rows.set id .gone,C.w⟩:Qq).Qcl (.flat false k e 0 g')):=Wt.Qcl hg1 rfl
   refine ⟨_,(⟨C.μ,C.rows.set id .gone,C.w⟩:Qq).Qcl (.flat false k e 0 g'),Qcx,rfl,hvr,hg2.trans (Ev.Qcl hg1 _), ?_⟩
   refine .Qbj ?_
   simp [Qq.Qcl,<- h.len]
  have hr2:=run_append_grow_src (P:=X.P) C.w t tu ty e i0 zv hu hi0 hzv none 0 0 [] (by rw [run_firstCells_none]) (.string s) m news Qmw (by omega) (by omega) (growslice_fits (by omega) (by rw [hb0];simpa using hb))
  refine fresh _ hg1 hg2 rfl [] 0 (by omega) (by simp) (fun i hi=>by omega) rfl ?_
  simpa using hr2
 | own hμ hh hs hn hc=>
  rename_i b cap cur ty'
  simp only [Nat.zero_mul,Nat.zero_add] at hs fresh ⊢
  obtain ⟨cur',vs,e1,e2,e3,e4,e5⟩:=h.rel id _ _ hμ hr
  rw [hh] at e1
  injection e1 with e1
  injection e1 with e1 e1'
  subst e1
  have e1':=e1'.symm
  subst e1'
  obtain ⟨old,o1,o2,o3,o4⟩:=Qq8 e3
  have hold:old=cur.toList.take (n * k):=by
   apply List.ext_getElem?
   intro j
   by_cases hj:j < n * k
   ·have hi':j / k < n:=Nat.div_lt_of_lt_mul (by rwa [Nat.mul_comm] at hj)
    have hjj:j % k < (vs (j / k)).length:=by rw [e3 _ hi'];exact Nat.mod_lt _ hk
    have key:j / k * k+j % k=j:=by rw [Nat.mul_comm];exact Nat.div_add_mod j k
    have a1:=o2 (j / k) (j % k) _ hi' (List.getElem?_eq_getElem hjj)
    have a2:=e5 (j / k) (j % k) _ hi' (List.getElem?_eq_getElem hjj)
    rw [key] at a1 a2
    rw [a1,List.getElem?_take_of_lt hj]
    simpa using a2.symm
   rw [List.getElem?_eq_none (by omega),List.getElem?_eq_none (by simp;omega)]
  have Zb:∀ i,i < n->VRs C.w (C.ok X) (g i) ((old.drop (i * k)).take k):=fun i hi=>by rw [o3 i hi];exact e4 i hi
  by_cases hm:m=0
  ·subst hm
   have hn0:news=[]:=List.eq_nil_of_length_eq_zero (by simpa using Qpl)
   subst hn0
   have Qcx:(Builtin.append_ #[t,tu] ty #[.slice (some ⟨b,0,none⟩) n cap,.string s]).run X.P C.w=.ok (.slice (some ⟨b,0,none⟩) n cap) C.w:=run_append_nothing C.w t tu ty e i0 hu hi0 _ n cap hn _ Qmw
   have tu:Qgo X C id b (.flat false k e n g) (.flat false k e (n+0) g') C.w:=⟨hμ,hr,rfl,rfl,rfl,⟨rfl,Nat.le_refl _⟩,rfl,fun _ _=>rfl,fun _ _ k=>⟨_,k,rfl⟩,fun _ _=>rfl,fun _ _=>rfl⟩
   have ev1:=Ev.Yw h tu
   have hC1:=Wt.Yw h tu (.inl (by simp)) (Qks old cur o1 Zb (by simpa using hold.symm) (by simpa using e2) _ ev1 b hh)
   have hr1:(C.Yw id (.flat false k e (n+0) g') C.w).rows[id]? = some (.flat false k e (n+0) g'):=by simp [Qq.Yw,hlt]
   have hμ1:(C.Yw id (.flat false k e (n+0) g') C.w).μ[id]? = some (some b):=hμ
   refine ⟨.slice (some ⟨b,0,none⟩) n cap,(C.Yw id (.flat false k e (n+0) g') C.w).renew id (some b) (.flat false k e (n+0) g'),Qcx, ?_,Qj7 hC1 hμ1 hr1 rfl,ev1.trans (Qkv hC1 hμ1 hr1), ?_⟩
   ·simp [Qq.renew,Qq.Yw]
   refine Qs9 _ b cap cur ?_ hh hs hn hc
   simp [Qq.renew,Qq.Yw,<- h.len]
  by_cases Qgt:n+m<=cap
  ·have Qs8:n * i0.size+news.length<=cur.size:=by
    rw [Qpl,<- hs,hs0,<- Nat.add_mul]
    exact Nat.mul_le_mul_right _ Qgt
   have Qcx:=Lib.run_append_room_string (P:=X.P) C.w t tu ty e i0 hu htu hi0 (by rw [hs0,hk1]) b n cap cur hh s (by omega) (by
    rw [hs0,hk1,Qpl,hk1] at Qs8
    omega)
   rw [hs0] at Qs8
   have hcur:(cur.toList.take n ++ Lib.strCells s ++ cur.toList.drop (n+s.size)).toArray=(cur.toList.take (n * k) ++ news ++ cur.toList.drop (n * k+news.length)).toArray:=by
    rw [Qpl,hk1,hnews,hm1,Nat.mul_one,Nat.mul_one]
   rw [hcur,<- hm1] at Qcx
   let Qfl:Array Value:=(cur.toList.take (n * k) ++ news ++ cur.toList.drop (n * k+news.length)).toArray
   have Qkz:Qfl.size=cur.size:=by
    simp only [Qfl,List.size_toArray,List.length_append,List.length_take,List.length_drop,Array.length_toList]
    omega
   have tu:Qgo X C id b (.flat false k e n g) (.flat false k e (n+m) g') (C.w.setRow b Qfl):=Qgf h hμ hr rfl hh Qkz
   have ev1:=Ev.Yw h tu
   have hh2:(C.w.setRow b Qfl).heap[b]? = some (.cells Qfl e (0,0)):=setRow_heap _ _ _ _ _ _ hh
   have htk:Qfl.toList.take ((n+m) * k)=old ++ news:=by
    have hlen:(old ++ news).length=(n+m) * k:=by rw [List.length_append,o1,Qpl,Nat.add_mul]
    simp only [Qfl]
    rw [<- hold,<- hlen]
    exact List.take_left
   have hC1:=Wt.Yw h tu (.inl (by simp)) (Qks old Qfl o1 Zb htk (by rw [Qkz,<- hs];exact Nat.mul_le_mul_right k Qgt) _ ev1 b hh2)
   have hr1:(C.Yw id (.flat false k e (n+m) g') (C.w.setRow b Qfl)).rows[id]? = some (.flat false k e (n+m) g'):=by simp [Qq.Yw,hlt]
   have hμ1:(C.Yw id (.flat false k e (n+m) g') (C.w.setRow b Qfl)).μ[id]? = some (some b):=hμ
   refine ⟨.slice (some ⟨b,0,none⟩) (n+m) cap,(C.Yw id (.flat false k e (n+m) g') (C.w.setRow b Qfl)).renew id (some b) (.flat false k e (n+m) g'),Qcx, ?_,Qj7 hC1 hμ1 hr1 rfl,ev1.trans (Qkv hC1 hμ1 hr1), ?_⟩
   ·simp [Qq.renew,Qq.Yw]
   refine Qs9 _ b cap Qfl ?_ hh2 (by rw [Qkz];exact hs) Qgt hc
   simp [Qq.renew,Qq.Yw,<- h.len]
  have Qyy:∀ (j:Nat) v,old[j]? = some v->C.w.cell? ((⟨b,0,none⟩:Addr).add j)=some v:=by
   intro j v hj
   rw [Qgx,Nat.zero_add,cell_of_row _ _ _ _ _ _ hh]
   rw [hold] at hj
   have:=hj
   rw [List.getElem?_take] at this
   split at this
   ·simpa using this
   cases this
  have Qcx:=run_append_grow_src (P:=X.P) C.w t tu ty e i0 zv hu hi0 hzv (some ⟨b,0,none⟩) n cap old (run_firstCells_some C.w.drew i0.size n ⟨b,0,none⟩ n cap old (by rw [hs0];exact o1) (by simpa using Qyy)) (.string s) m news Qmw (by omega) (by omega) (growslice_fits (by omega) (by rw [hb0];exact hb))
  rw [show (old ++ news).toArray=old.toArray ++ news.toArray by simp] at Qcx
  have tu:=Qiy h hμ hr rfl
  have ev1:=Ev.Yw h tu
  have hC1:=Wt.Yw h tu (.inr rfl) trivial
  exact fresh _ hC1 ev1 rfl old cap (by omega) o1 Zb rfl Qcx
end
def Xr (s:ByteArray):List Int:=s.data.toList.map fun b=>(b.toNat:Int)
theorem Qfk (s:ByteArray):(Xr s).length=s.size:=by
 unfold Xr
 rw [List.length_map,Array.length_toList]
 rfl
section
variable {X:Ctx} {T:Tab} {f:FuncId} {k k':List Item} {Q:Frame->Frame->Qq->Prop} {st st':St}
def Qx8 (T:Tab) (st:St) (k:List Item):Option (Nat × Nat × ByteArray × TypeId × Option Tmp × List Item):=
 match Qde st k with
 | some (o,k')=>
  match o.op with
  | .call c=>
   match c.callee,c.args.toList,c.argTypes.toList with
   | .builtin .append,[s,x],[t,t']=>
    match valOf st.tm s,valOf st.tm x with
    | some (.own id 1 0 n),some (.d (.v (.string b)))=>bif T.strs.contains t' then some (id,n,b,t,o.dst,k') else none
    | _,_=>none
   | _,_,_=>none
  | _=>none
 | none=>none
theorem Wan (hT:Qw X.P T) {id by':Nat} {t e:TypeId} {z:List Value} {dst:Option Tmp} (xs:List Int) (s:ByteArray)
  (e1:Qx8 T st k=some (id,xs.length,s,t,dst,k')) (hr:st.rows[id]? = some (.flat false 1 e xs.length (vec (eI .u8) 0 xs))) (ht:T.Qbn.lookup t=some e) (hi:T.info.lookup e=some (1,by',z))
  (hz:Nat.beq z.length 1=true) (hb:(xs.length+s.size) * by'<=140737488355328) (Qkx:xs.length+s.size<=9223372036854775807)
  (Qat:St.put { st with rows:=st.rows.set id .gone ++ [.flat false 1 e (xs ++ Xr s).length (vec (eI .u8) 0 (xs ++ Xr s))] } dst (.own st.rows.length 1 0 (xs ++ Xr s).length)=some st') (h:AK X f k' Q st'):AK X f k Q st:=by
 unfold Qx8 at e1
 split at e1
 ·rename_i o k3 Qbe
  split at e1
  ·rename_i c hop
   split at e1
   ·rename_i sx x0 t0 t1 Qmu Qb5 Qy9
    split at e1
    ·rename_i id0 n0 b0 hs hx
     cases hb2:T.strs.contains t1 with
     | false=>rw [hb2] at e1;cases e1
     | true=>
      rw [hb2] at e1
      simp only [cond_true,Option.some.injEq,Prod.mk.injEq] at e1
      obtain ⟨rfl,rfl,rfl,rfl,rfl,rfl⟩:=e1
      refine Qd6 Qbe h fun a C hC=>?_
      have Qd3:=hC.rows
      rw [<- Qd3] at hr
      have hlen:(xs ++ Xr b0).length=xs.length+b0.size:=by rw [List.length_append,Qfk]
      have hsl:(Lib.strCells b0).length=b0.size:=Lib.strCells_length b0
      have hgs:∀ i,i < b0.size->vec (eI .u8) 0 (xs ++ Xr b0) (xs.length+i)=eI .u8 ((Xr b0).getD i 0):=fun i hi=>by
       unfold vec
       rw [List.getD_eq_getElem?_getD,List.getElem?_append_right (by omega),Nat.add_sub_cancel_left,<- List.getD_eq_getElem?_getD]
      obtain ⟨v',C',q1,q2,q3,q4,q5⟩:=Qya hT hC.rel (ty:=o.type) (k:=1) (m:=b0.size) (g':=vec (eI .u8) 0 (xs ++ Xr b0)) (gs:=fun i=>eI .u8 ((Xr b0).getD i 0)) b0 rfl rfl rfl (hT.str hb2) (by rw [hsl,Nat.mul_one])
       (fun i hi=>by
        have:((Lib.strCells b0).drop (i * 1)).take 1=[.int .u8 ((Xr b0).getD i 0)]:=by
         rw [Nat.mul_one,List.drop_eq_getElem_cons (by omega),List.take_succ_cons,List.take_zero]
         have hm:Lib.strCells b0=(Xr b0).map (Value.int .u8):=by
          unfold Lib.strCells Xr
          rw [List.map_map]
          rfl
         have hl2:i < (Xr b0).length:=by rw [Qfk];exact hi
         have hv:(Lib.strCells b0)[i]'(by omega)=Value.int .u8 ((Xr b0)[i]):=by
          have h1:(Lib.strCells b0)[i]? = some (Value.int .u8 ((Xr b0)[i])):=by
           rw [hm,List.getElem?_map,List.getElem?_eq_getElem hl2]
           rfl
          rw [List.getElem?_eq_getElem (by omega)] at h1
          injection h1
         rw [hv,List.getD_eq_getElem?_getD,List.getElem?_eq_getElem hl2]
         rfl
        rw [this]
        exact .cons rfl (.v rfl) .nil) (Lib.strCells_oneCell b0) hr (hC.val _ _ hs) ht hi (Nat.eq_of_beq_eq_true hz) (by decide) hb Qkx (fun i hi=>by
        unfold vec
        rw [List.getD_eq_getElem?_getD,List.getElem?_append_left hi,<- List.getD_eq_getElem?_getD]) hgs
      refine ⟨v',C',_, ?_,hC.Qds q4 q3,.own C.rows.length 1 0 (xs.length+b0.size), ?_,q5⟩
      ·have ha:c.args=#[sx,x0]:=by rw [<- Array.toArray_toList (xs:=c.args),Qb5]
       have hty:c.argTypes=#[t0,t1]:=by rw [<- Array.toArray_toList (xs:=c.argTypes),Qy9]
       have hv:=(hC.val _ _ hx).Qbt
       simp only [execOp,hop,resolve,Qmu,ha,hty,Sem.run_bind,Sem.run_pure,Result.andThen_ok,invoke,builtin,List.map_toArray,List.map_cons,List.map_nil,hv]
       rw [q1]
       rfl
      rw [q2,Qd3,<- hlen]
      exact Qat
    cases e1
   cases e1
  cases e1
 cases e1
theorem Qtm (hT:Qw X.P T) {id by':Nat} {t e:TypeId} {z:List Value} {dst:Option Tmp} (xs:List Int) (s:ByteArray) (S:List Nat)
  (e1:Qx8 T st k=some (id,xs.length,s,t,dst,k')) (hr:st.rows[id]? = some (.flat false 1 e xs.length (vec (eI .u8) 0 xs))) (ht:T.Qbn.lookup t=some e) (hi:T.info.lookup e=some (1,by',z))
  (hz:Nat.beq z.length 1=true) (hb:(xs.length+s.size) * by'<=140737488355328) (Qkx:xs.length+s.size<=9223372036854775807)
  (Qat:(St.put { st with rows:=st.rows.set id .gone ++ [.flat false 1 e (xs ++ Xr s).length (vec (eI .u8) 0 (xs ++ Xr s))] } dst (.own st.rows.length 1 0 (xs ++ Xr s).length)).map (St.only S)=some st') (h:AK X f k' Q st'):AK X f k Q st:=by
 obtain ⟨s0,h1,rfl⟩:=Option.map_eq_some_iff.1 Qat
 exact Wan hT xs s e1 hr ht hi hz hb Qkx h1 (Qdh S h)
end
end Go.Sy
