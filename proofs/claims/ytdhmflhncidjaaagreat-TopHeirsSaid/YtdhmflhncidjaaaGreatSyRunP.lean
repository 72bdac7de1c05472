/- Steps of the runner on maps whose keys are ints. -/
import Derived.Test.YtdhmflhncidjaaaGreatSyRun
import Derived.Test.YtdhmflhncidjaaaGreatSyPtr
import Derived.Deep.OwnRows
set_option linter.unusedVariables false
set_option linter.unusedSimpArgs false
namespace Go.Sy
structure Qmj (P:Program) (t kt et:TypeId) (z:Value):Prop where
 map:P.underlying t=some (.map kt et)
 key:P.underlying kt=some (.int .i64)
 zero:∀ w,(zeroValue et).run P w=.ok z w
 one:z.oneCell'=true
section
variable {P:Program} {w:World} {t kt et:TypeId} {q:Nat} {es:Array MapEntry} {clock:Nat} {ks:List (Int × Value)} {z:Value}
theorem Wa2 (ht:Qmj P t kt et z) (hb:w.heap[q]? = some (.map es clock)) (hk:es.toList.map (fun e=>(e.key,e.val))=ks.map mpE) (c:Int) (ok:Bool):
  (Instr.lookup t (.map (some q)) (.int .i64 c) ok).run P w=.ok (if ok then .tuple #[(ks.lookup c).getD z,.bool (ks.lookup c).isSome] else (ks.lookup c).getD z) w:=by
 rcases Qvh (c:=c) es.toList ks 0 hk with ⟨h1,h2⟩ | ⟨v,j,h1,h2⟩
 ·cases ok<;>simp [Instr.lookup,run_underlying ht.map,MapKept.run_getObj_map hb,MapKept.run_checkKey ht.key (k:=.int .i64 c) rfl,MapKept.run_findKey ht.key h2,ht.zero,Result.andThen,h1]
 cases ok<;>simp [Instr.lookup,run_underlying ht.map,MapKept.run_getObj_map hb,MapKept.run_checkKey ht.key (k:=.int .i64 c) rfl,MapKept.run_findKey ht.key h2,ht.zero,Result.andThen,h1]
theorem Wa3 (ht:Qmj P t kt et z) (hb:w.heap[q]? = some (.map es clock)) (hk:es.toList.map (fun e=>(e.key,e.val))=ks.map mpE) (c:Int) (v:Value) (hc:ks.lookup c=none):
  (Instr.mapUpdate t (.map (some q)) (.int .i64 c) v).run P w=.ok () { w with heap:=w.heap.setIfInBounds q (.map (es.push { key:=.int .i64 c,val:=v,born:=clock }) (clock+1)) }:=by
 rcases Qvh (c:=c) es.toList ks 0 hk with ⟨h1,h2⟩ | ⟨u,j,h1,h2⟩
 ·simp [Instr.mapUpdate,run_underlying ht.map,MapKept.run_getObj_map hb,MapKept.run_checkKey ht.key (k:=.int .i64 c) rfl,MapKept.run_findKey ht.key h2,MapKept.run_setObj_map _ hb,Result.andThen]
 rw [hc] at h1;cases h1
end
section
variable {X:Ctx} {T:Tab} {f:FuncId} {k k':List Item} {Q:Frame->Frame->Qq->Prop} {st st':St} {a:Act} {C:Qq}
def Qvg (st:St) (x:Operand):Option Nat:=
 match valOf st.tm x with
 | some (.mp id)=>some id
 | _=>none
theorem Qpc (hC:Sim X st a C) {x:Operand} {id:Nat} (h:Qvg st x=some id):∃ b,C.μ[id]? = some (some b)/\a.eval x=.map (some b):=by
 unfold Qvg at h
 split at h
 ·rename_i q' e
  injection h with h
  subst h
  have:=hC.val _ _ e
  generalize a.eval x=v at this ⊢
  cases this with
  | mp h=>exact ⟨_,h,rfl⟩
 cases h
theorem Qnr {id b clock:Nat} {es:List MapEntry} (h:Wt X C) (hμ:C.μ[id]? = some (some b)) (hr:C.rows[id]? = some (.mp es clock)):C.w.heap[b]? = some (.map es.toArray clock):=h.rel id _ _ hμ hr
def Qzh:List MapEntry->Option (List (Int × Value))
 | []=>some []
 | e :: es=>match e.key,Qzh es with
  | .int .i64 c,some ks=>some ((c,e.val) :: ks)
  | _,_=>none
theorem Qqw:∀ {es:List MapEntry} {ks:List (Int × Value)},Qzh es=some ks->es.toArray.toList.map (fun e=>(e.key,e.val))=ks.map mpE
 | [],ks,h=>by
  injection h with h
  subst h
  rfl
 | e :: es,ks,h=>by
  simp only [Qzh] at h
  split at h
  ·rename_i c ks' hk hs
   injection h with h
   subst h
   have:=Qqw hs
   simp only [List.map_cons,mpE,hk] at this ⊢
   rw [this]
  cases h
def Wko (k:List Item) (st:St):Option (List Item × St):=
 match Woq st k with
 | some (dst,k')=>Qjb { st with rows:=st.rows ++ [.mp [] 0] } dst (.mp st.rows.length) k'
 | none=>none
theorem Wmn (e:Wko k st=some (k',st')) (h:AK X f k' Q st'):AK X f k Q st:=by
 unfold Wko at e
 split at e
 ·rename_i dst k2 he
  obtain ⟨rfl,hp⟩:=Qeg e
  unfold Woq at he
  split at he
  ·rename_i o k3 Qbe
   split at he
   ·rename_i t' hop
    simp only [Option.some.injEq,Prod.mk.injEq] at he
    obtain ⟨rfl,rfl⟩:=he
    refine Qd6 Qbe h fun a C hC=>?_
    have ev:=Ev.push hC.rel (.map #[] 0) (.mp [] 0)
    have Zb:Wt X (C.push (.map #[] 0) (.mp [] 0)):=Wt.push hC.rel (MapKept.heap_alloc C.w _).1
    refine ⟨.map (some C.w.heap.size),C.push (.map #[] 0) (.mp [] 0),{ st with rows:=st.rows ++ [.mp [] 0] }, ?_, ?_,_,hp,.mp ?_⟩
    ·simp [execOp,hop,Instr.makeMap,Qq.push,Result.andThen]
    ·have:=hC.Qds ev Zb
     simpa [Qq.push,hC.rows] using this
    have:=hC.rel.len
    rw [hC.rows] at this
    simp [Qq.push,<- this]
   cases he
  cases he
 cases e
def Wop (st:St) (k:List Item):Option (TypeId × Nat × Int × Bool × Option Tmp × List Item):=
 match Qde st k with
 | some (o,k')=>
  match o.op with
  | .lookup t x y ok=>
   match Qvg st x,Qzf st y with
   | some id,some c=>some (t,id,c,ok,o.dst,k')
   | _,_=>none
  | _=>none
 | none=>none
def Wkn (mt:TypeId) (z:Value) (k:List Item) (st:St):Option (List Item × St):=
 match Wop st k with
 | some (t,id,c,ok,dst,k')=>
  match (st.rows[id]?).bind (fun | .mp es _=>Qzh es | _=>none),Nat.beq t mt with
  | some ks,true=>match ks.all (fun x=>x.2.oneCell') with
   | true=>Qjb st dst (match ok with | true=>.Ql [.d (.v ((ks.lookup c).getD z)),.d (.v (.bool (ks.lookup c).isSome))] | false=>.d (.v ((ks.lookup c).getD z))) k'
   | false=>none
  | _,_=>none
 | none=>none
theorem Wkd {ks:List (Int × Value)} {c:Int} {z:Value} (h:ks.all (fun x=>x.2.oneCell')=true) (hz:z.oneCell'=true):((ks.lookup c).getD z).oneCell'=true:=by
 cases e:ks.lookup c with
 | none=>exact hz
 | some v=>exact List.all_eq_true.1 h _ (Qce e)
theorem Wmm {mt kt et:TypeId} {z:Value} (hm:Qmj X.P mt kt et z) (e:Wkn mt z k st=some (k',st')) (h:AK X f k' Q st'):AK X f k Q st:=by
 unfold Wkn at e
 split at e
 ·rename_i t id c ok dst k2 he
  split at e
  ·rename_i ks hr0 ht
   obtain ⟨r0,hr,hks⟩:=Option.bind_eq_some_iff.1 hr0
   split at hks
   case h_2=>cases hks
   rename_i es clock
   split at e
   ·rename_i Qd8
    have ht:=Nat.eq_of_beq_eq_true ht
    subst ht
    obtain ⟨rfl,hp⟩:=Qeg e
    unfold Wop at he
    split at he
    ·rename_i o k3 Qbe
     split at he
     ·rename_i t' x y ok' hop
      split at he
      ·rename_i id' c' hx hy
       simp only [Option.some.injEq,Prod.mk.injEq] at he
       obtain ⟨rfl,rfl,rfl,rfl,rfl,rfl⟩:=he
       refine Qd6 Qbe h fun a C hC=>?_
       obtain ⟨b,hμ,hb⟩:=Qpc hC hx
       have h1:=Qnr hC.rel hμ (by rw [hC.rows];exact hr)
       have Qcx:=Wa2 hm h1 (Qqw hks) c' ok'
       have Qio:=Wkd (c:=c') Qd8 hm.one
       refine ⟨_,C,st,by simp only [execOp,hop,hb,Qzg hC hy,Sem.run_bind,Qcx,Result.andThen_ok];rfl,hC,_,hp, ?_⟩
       cases ok' with
       | true=>exact .Ql (.cons (.d (.v Qio)) (.cons (.d (.v rfl)) .nil))
       | false=>exact .d (.v Qio)
      cases he
     cases he
    cases he
   cases e
  cases e
 cases e
def Wph (st:St) (k:List Item):Option (TypeId × Nat × Int × Value × List Item):=
 match Qde st k with
 | some (o,k')=>
  match o.op with
  | .mapUpdate t x y z=>
   match Qvg st x,Qzf st y,valOf st.tm z,o.dst with
   | some id,some c,some (.d (.v v)),none=>some (t,id,c,v,k')
   | _,_,_,_=>none
  | _=>none
 | none=>none
def Wku (mt:TypeId) (k:List Item) (st:St):Option (List Item × St):=
 match Wph st k with
 | some (t,id,c,v,k')=>
  match st.rows[id]?,Nat.beq t mt with
  | some (.mp es clock),true=>match Qzh es with
   | some ks=>match ks.lookup c with
    | none=>some (k',{ st with rows:=st.rows.set id (.mp (es ++ [⟨.int .i64 c,v,clock⟩]) (clock+1)) })
    | some _=>none
   | none=>none
  | _,_=>none
 | none=>none
theorem Wbp {id b clock clock':Nat} {es es':List MapEntry} (hS:Sim X st a C) (hμ:C.μ[id]? = some (some b)) (hr:C.rows[id]? = some (.mp es clock)):
  Sim X { st with rows:=st.rows.set id (.mp es' clock') } a (C.Yw id (.mp es' clock') { C.w with heap:=C.w.heap.setIfInBounds b (.map es'.toArray clock') }):=by
 have h1:=Qnr hS.rel hμ hr
 have Qju:=MapKept.heap_set (w:=C.w) (o':=.map es'.toArray clock') h1
 have tu:Qgo X C id b (.mp es clock) (.mp es' clock') { C.w with heap:=C.w.heap.setIfInBounds b (.map es'.toArray clock') }:=
  ⟨hμ,hr,rfl,rfl,rfl,⟨rfl,Nat.le_refl _⟩,by simp,fun j hj=>Qju.2 j hj,fun cs ty hcs=>(by rw [h1] at hcs;cases hcs),fun _ _=>rfl,fun _ _=>rfl⟩
 have ev:=Ev.Yw (r':=.mp es' clock') hS.rel tu
 have Zb:=Wt.Yw hS.rel tu (.inl (by simp)) Qju.1
 have:=hS.Qds ev Zb
 simpa [Qq.Yw,hS.rows] using this
theorem Wmr {mt kt et:TypeId} {z:Value} (hm:Qmj X.P mt kt et z) (e:Wku mt k st=some (k',st')) (h:AK X f k' Q st'):AK X f k Q st:=by
 unfold Wku at e
 split at e
 ·rename_i t id c v k2 he
  split at e
  ·rename_i es clock hr ht
   split at e
   case h_2=>cases e
   rename_i ks hks
   split at e
   ·rename_i hnone
    have ht:=Nat.eq_of_beq_eq_true ht
    subst ht
    injection e with e
    injection e with e1 e2
    subst e1 e2
    unfold Wph at he
    split at he
    ·rename_i o k3 Qbe
     split at he
     ·rename_i t' x y zz hop
      split at he
      ·rename_i id' c' v' hx hy hz hd
       simp only [Option.some.injEq,Prod.mk.injEq] at he
       obtain ⟨rfl,rfl,rfl,rfl,rfl⟩:=he
       refine Qsk Qbe hd h fun a C hC=>?_
       obtain ⟨b,hμ,hb⟩:=Qpc hC hx
       have hrC:C.rows[id']? = some (.mp es clock):=by rw [hC.rows];exact hr
       have h1:=Qnr hC.rel hμ hrC
       have hvv:=(hC.val _ _ hz).Qbt
       have Qcx:=Wa3 hm h1 (Qqw hks) c' v' hnone
       refine ⟨C.Yw id' (.mp (es ++ [⟨.int .i64 c',v',clock⟩]) (clock+1)) { C.w with heap:=C.w.heap.setIfInBounds b (.map (es ++ [({ key:=.int .i64 c',val:=v',born:=clock }:MapEntry)]).toArray (clock+1)) }, ?_, ?_⟩
       ·simp only [execOp,hop,hb,Qzg hC hy,hvv,Sem.run_bind,Qcx,Result.andThen_ok]
        simp [Qq.Yw]
       exact Wbp hC hμ hrC
      cases he
     cases he
    cases he
   cases e
  cases e
 cases e
def Wo9 (st:St) (k:List Item):Option (TypeId × Nat × Option Tmp × List Item):=
 match Qde st k with
 | some (o,k')=>
  match o.op with
  | .range t x=>
   match Qvg st x with
   | some id=>some (t,id,o.dst,k')
   | none=>none
  | _=>none
 | none=>none
def Wkq (mt:TypeId) (k:List Item) (st:St):Option (List Item × St):=
 match Wo9 st k with
 | some (t,id,dst,k')=>
  match st.rows[id]?,Nat.beq t mt with
  | some (.mp es clock),true=>Qjb { st with rows:=st.rows ++ [.it id clock [] clock] } dst (.ptr st.rows.length 1 0 0) k'
  | _,_=>none
 | none=>none
theorem Wmp {mt kt et:TypeId} {z:Value} (hm:Qmj X.P mt kt et z) (e:Wkq mt k st=some (k',st')) (h:AK X f k' Q st'):AK X f k Q st:=by
 unfold Wkq at e
 split at e
 ·rename_i t id dst k2 he
  split at e
  ·rename_i es clock hr ht
   have ht:=Nat.eq_of_beq_eq_true ht
   subst ht
   obtain ⟨rfl,hp⟩:=Qeg e
   unfold Wo9 at he
   split at he
   ·rename_i o k3 Qbe
    split at he
    ·rename_i t' x hop
     split at he
     ·rename_i id' hx
      simp only [Option.some.injEq,Prod.mk.injEq] at he
      obtain ⟨rfl,rfl,rfl,rfl⟩:=he
      refine Qd6 Qbe h fun a C hC=>?_
      obtain ⟨b,hμ,hb⟩:=Qpc hC hx
      have h1:=Qnr hC.rel hμ (by rw [hC.rows];exact hr)
      have ev:=Ev.push hC.rel (.mapIter (some b) clock #[] clock) (.it id' clock [] clock)
      have Zb:Wt X (C.push (.mapIter (some b) clock #[] clock) (.it id' clock [] clock)):=Wt.push hC.rel ⟨b,ev.pre _ _ hμ,(MapKept.heap_alloc C.w _).1⟩
      refine ⟨.pointer (some ⟨C.w.heap.size,0,none⟩),C.push (.mapIter (some b) clock #[] clock) (.it id' clock [] clock),{ st with rows:=st.rows ++ [.it id' clock [] clock] }, ?_, ?_,_,hp, ?_⟩
      ·simp [execOp,hop,hb,Instr.range,run_underlying hm.map,MapKept.run_getObj_map h1,Qq.push,Result.andThen]
      ·have:=hC.Qds ev Zb
       simpa [Qq.push,hC.rows] using this
      have hlen:=hC.rel.len
      rw [hC.rows] at hlen
      have:=Zj.ptr (w:=(C.push (.mapIter (some b) clock #[] clock) (.it id' clock [] clock)).w) (ok:=(C.push (.mapIter (some b) clock #[] clock) (.it id' clock [] clock)).ok X) (μ:=(C.push (.mapIter (some b) clock #[] clock) (.it id' clock [] clock)).μ) (id:=st.rows.length) (k:=1) (i:=0) (off:=0) (b:=C.w.heap.size) (by simp [Qq.push,<- hlen])
      simpa using this
     cases he
    cases he
   cases he
  cases e
 cases e
def Wox (st:St) (k:List Item):Option (Nat × Option Tmp × List Item):=
 match Qde st k with
 | some (o,k')=>
  match o.op with
  | .next x false=>
   match valOf st.tm x with
   | some (.ptr id 1 0 0)=>some (id,o.dst,k')
   | _=>none
  | _=>none
 | none=>none
def Qm1 (es:List MapEntry) (since:Nat) (seen:List Nat) (last:Nat):Option (Option MapEntry):=
 match !seen.isEmpty && !es.isEmpty && es.all (fun e=>Nat.ble last e.born) with
 | true=>none
 | false=>
  match es.filter (fun e=>!seen.contains e.born) with
  | []=>some none
  | [e]=>match Nat.blt e.born since with
   | true=>some (some e)
   | false=>none
  | _=>none
def Wkp (k:List Item) (st:St):Option (List Item × St):=
 match Wox st k with
 | some (id,dst,k')=>
  match st.rows[id]? with
  | some (.it m since seen last)=>
   match st.rows[m]? with
   | some (.mp es clock)=>
    match Qm1 es since seen last with
    | some none=>Qjb st dst (.Ql [.d (.v (.bool false))]) k'
    | some (some e)=>match e.key.oneCell' && e.val.oneCell' with
     | true=>Qjb { st with rows:=st.rows.set id (.it m since (seen ++ [e.born]) clock) } dst (.Ql [.d (.v (.bool true)),.d (.v e.key),.d (.v e.val)]) k'
     | false=>none
    | none=>none
   | _=>none
  | _=>none
 | none=>none
theorem Qq2 {es:List MapEntry} {since last:Nat} {seen:List Nat} {r:Option MapEntry} (h:Qm1 es since seen last=some r):(!seen.toArray.isEmpty && !es.toArray.isEmpty && es.toArray.all (fun e=>decide (e.born>=last)))=false:=by
 unfold Qm1 at h
 split at h
 ·cases h
 rename_i hb
 have e1:(fun e:MapEntry=>decide (e.born>=last))=fun e=>Nat.ble last e.born:=by
  funext e
  rw [Bool.eq_iff_iff]
  simp [Nat.ble_eq]
 rw [e1]
 simpa using hb
theorem Wic {P:Program} {w:World} {q b since last clock:Nat} {es:List MapEntry} {seen:List Nat} (ty:TypeId) (h1:w.heap[q]? = some (.mapIter (some b) since seen.toArray last)) (h2:w.heap[b]? = some (.map es.toArray clock)) (h:Qm1 es since seen last=some none):
  (Instr.next (.pointer (some ⟨q,0,none⟩)) false ty).run P w=.ok (.tuple #[.bool false]) w:=by
 have hg:=Qq2 h
 unfold Qm1 at h
 split at h
 ·cases h
 split at h
 ·rename_i hl
  have hl2:es.toArray.filter (fun e=>!seen.toArray.contains e.born)=#[]:=by
   rw [List.filter_toArray]
   simp only [List.contains_toArray]
   rw [hl]
  simp only [Instr.next,Sem.run_bind,(show (getObj q).run P w=_ from by simp [getObj,Sem.run,h1];rfl),Result.andThen_ok,MapKept.run_getObj_map h2,hg,hl2]
  simp [choose,Sem.run,Question.forced]
 ·split at h<;>cases h
 cases h
theorem Wid {P:Program} {w:World} {q b since last clock:Nat} {es:List MapEntry} {seen:List Nat} {e:MapEntry} (ty:TypeId) (h1:w.heap[q]? = some (.mapIter (some b) since seen.toArray last)) (h2:w.heap[b]? = some (.map es.toArray clock)) (h:Qm1 es since seen last=some (some e)):
  (Instr.next (.pointer (some ⟨q,0,none⟩)) false ty).run P w=.ok (.tuple #[.bool true,e.key,e.val]) { w with heap:=w.heap.setIfInBounds q (.mapIter (some b) since (seen ++ [e.born]).toArray clock) }:=by
 have hg:=Qq2 h
 unfold Qm1 at h
 split at h
 ·cases h
 split at h
 ·cases h
 ·rename_i e' hl
  split at h
  ·rename_i hlt
   injection h with h
   injection h with h
   subst h
   have hlt:=Nat.le_of_ble_eq_true hlt
   have hl2:es.toArray.filter (fun e=>!seen.toArray.contains e.born)=#[e']:=by
    rw [List.filter_toArray]
    simp only [List.contains_toArray]
    rw [hl]
   have Qqo:e'.born < since:=hlt
   simp only [Instr.next,Sem.run_bind,(show (getObj q).run P w=_ from by simp [getObj,Sem.run,h1];rfl),Result.andThen_ok,MapKept.run_getObj_map h2,hg,hl2]
   simp [choose,Sem.run,Question.forced,Qqo,Nat.not_le.2 Qqo,h1,setObj]
  cases h
 cases h
theorem Qze {id m since last:Nat} {seen:List Nat} (hC:Sim X st a C) (hr:st.rows[id]? = some (.it m since seen last)) {b:Nat} (hμ:C.μ[id]? = some (some b)):∃ q,C.μ[m]? = some (some q)/\C.w.heap[b]? = some (.mapIter (some q) since seen.toArray last):=hC.rel.rel id (some b) (.it m since seen last) hμ (by rw [hC.rows];exact hr)
theorem Qvl (hC:Sim X st a C) {x:Operand} {id:Nat} (h:valOf st.tm x=some (.ptr id 1 0 0)):∃ b,C.μ[id]? = some (some b)/\a.eval x=.pointer (some ⟨b,0,none⟩):=by
 have:=hC.val _ _ h
 generalize a.eval x=v at this ⊢
 cases this with
 | ptr h=>exact ⟨_,h,by simp⟩
theorem Wmo (e:Wkp k st=some (k',st')) (h:AK X f k' Q st'):AK X f k Q st:=by
 unfold Wkp at e
 split at e
 ·rename_i id dst k2 he
  split at e
  ·rename_i m since seen last hr
   split at e
   ·rename_i es clock hm
    unfold Wox at he
    split at he
    ·rename_i o k3 Qbe
     split at he
     ·rename_i x hop
      split at he
      ·rename_i id' hx
       simp only [Option.some.injEq,Prod.mk.injEq] at he
       obtain ⟨rfl,rfl,rfl⟩:=he
       split at e
       ·rename_i hn
        obtain ⟨rfl,hp⟩:=Qeg e
        refine Qd6 Qbe h fun a C hC=>?_
        obtain ⟨b,hμ,hb⟩:=Qvl hC hx
        obtain ⟨q,hq,h1⟩:=Qze hC hr hμ
        have h2:=Qnr hC.rel hq (by rw [hC.rows];exact hm)
        exact ⟨_,C,st,by simp only [execOp,hop,hb,Sem.run_bind,Wic o.type h1 h2 hn,Result.andThen_ok];rfl,hC,_,hp,.Ql (.cons (.d (.v rfl)) .nil)⟩
       ·rename_i e' hn
        split at e
        ·rename_i Qio
         simp only [Bool.and_eq_true] at Qio
         obtain ⟨rfl,hp⟩:=Qeg e
         refine Qd6 Qbe h fun a C hC=>?_
         obtain ⟨b,hμ,hb⟩:=Qvl hC hx
         obtain ⟨q,hq,h1⟩:=Qze hC hr hμ
         have hrC:C.rows[id']? = some (.it m since seen last):=by rw [hC.rows];exact hr
         have h2:=Qnr hC.rel hq (by rw [hC.rows];exact hm)
         have Qju:=MapKept.heap_set (w:=C.w) (o':=.mapIter (some q) since (seen ++ [e'.born]).toArray clock) h1
         have tu:Qgo X C id' b (.it m since seen last) (.it m since (seen ++ [e'.born]) clock) { C.w with heap:=C.w.heap.setIfInBounds b (.mapIter (some q) since (seen ++ [e'.born]).toArray clock) }:=
          ⟨hμ,hrC,rfl,rfl,rfl,⟨rfl,Nat.le_refl _⟩,by simp,fun j hj=>Qju.2 j hj,fun cs ty hcs=>(by rw [h1] at hcs;cases hcs),fun _ _=>rfl,fun _ _=>rfl⟩
         have ev:=Ev.Yw (r':=.it m since (seen ++ [e'.born]) clock) hC.rel tu
         have Zb:=Wt.Yw hC.rel tu (.inl (by simp)) ⟨q,hq,Qju.1⟩
         refine ⟨_,C.Yw id' (.it m since (seen ++ [e'.born]) clock) { C.w with heap:=C.w.heap.setIfInBounds b (.mapIter (some q) since (seen ++ [e'.born]).toArray clock) },{ st with rows:=st.rows.set id' (.it m since (seen ++ [e'.born]) clock) }, ?_, ?_,_,hp,.Ql (.cons (.d (.v rfl)) (.cons (.d (.v Qio.1)) (.cons (.d (.v Qio.2)) .nil)))⟩
         ·simp only [execOp,hop,hb,Sem.run_bind,Wid o.type h1 h2 hn,Result.andThen_ok]
          rfl
         have:=hC.Qds ev Zb
         simpa [Qq.Yw,hC.rows] using this
        cases e
       cases e
      cases he
     cases he
    cases he
   cases e
  cases e
 cases e
def Wod (st:St) (k:List Item):Option (Nat × Option Tmp × List Item):=
 match Qde st k with
 | some (o,k')=>
  match o.op with
  | .entry x=>
   match valOf st.tm x with
   | some (.ptr id 1 0 0)=>some (id,o.dst,k')
   | _=>none
  | _=>none
 | none=>none
def Wkk (k:List Item) (st:St):Option (List Item × St):=
 match Wod st k with
 | some (id,dst,k')=>
  match st.rows[id]? with
  | some (.it m _ seen last)=>
   match st.rows[m]?,seen.getLast? with
   | some (.mp es clock),some stamp=>
    match Nat.beq clock last,es.find? (fun e=>Nat.beq e.born stamp) with
    | true,some e=>match e.key.oneCell' && e.val.oneCell' with
     | true=>Qjb st dst (.Ql [.d (.v e.key),.d (.v e.val)]) k'
     | false=>none
    | _,_=>none
   | _,_=>none
  | _=>none
 | none=>none
theorem Wmk (e:Wkk k st=some (k',st')) (h:AK X f k' Q st'):AK X f k Q st:=by
 unfold Wkk at e
 split at e
 ·rename_i id dst k2 he
  split at e
  ·rename_i m since seen last hr
   split at e
   ·rename_i es clock stamp hm hs
    split at e
    ·rename_i e' hcl hf
     split at e
     ·rename_i Qio
      simp only [Bool.and_eq_true] at Qio
      obtain ⟨rfl,hp⟩:=Qeg e
      unfold Wod at he
      split at he
      ·rename_i o k3 Qbe
       split at he
       ·rename_i x hop
        split at he
        ·rename_i id' hx
         simp only [Option.some.injEq,Prod.mk.injEq] at he
         obtain ⟨rfl,rfl,rfl⟩:=he
         refine Qd6 Qbe h fun a C hC=>?_
         obtain ⟨b,hμ,hb⟩:=Qvl hC hx
         obtain ⟨q,hq,h1⟩:=Qze hC hr hμ
         have h2:=Qnr hC.rel hq (by rw [hC.rows];exact hm)
         have hcl:=Nat.eq_of_beq_eq_true hcl
         subst hcl
         have hf2:es.toArray.find? (fun e=>e.born == stamp)=some e':=by
          rw [List.find?_toArray,<- hf]
          congr 1
          funext e
          rw [Bool.eq_iff_iff]
          simp [Nat.beq_eq]
         have hs2:seen.toArray.back? = some stamp:=by simpa using hs
         refine ⟨.tuple #[e'.key,e'.val],C,st, ?_,hC,_,hp,.Ql (.cons (.d (.v Qio.1)) (.cons (.d (.v Qio.2)) .nil))⟩
         simp only [execOp,hop,hb,Instr.entry,Sem.run_bind,(show (getObj b).run X.P C.w=.ok (.mapIter (some q) since seen.toArray clock) C.w from by simp [getObj,Sem.run,h1]),Result.andThen_ok,hs2,MapKept.run_getObj_map h2,hf2]
         simp
        cases he
       cases he
      cases he
     cases e
    cases e
   cases e
  cases e
 cases e
def Wn3 (st:St) (k:List Item):Option (TypeId × Nat × Option Tmp × List Item):=
 match Qde st k with
 | some (o,k')=>
  match o.op with
  | .call c=>
   match c.callee,c.args.toList,c.argTypes.toList with
   | .builtin .clear,[x],[t]=>
    match Qvg st x with
    | some id=>some (t,id,o.dst,k')
    | none=>none
   | _,_,_=>none
  | _=>none
 | none=>none
def Wkj (mt:TypeId) (k:List Item) (st:St):Option (List Item × St):=
 match Wn3 st k with
 | some (t,id,dst,k')=>
  match st.rows[id]?,Nat.beq t mt with
  | some (.mp es clock),true=>Qjb { st with rows:=st.rows.set id (.mp [] clock) } dst (.Ql []) k'
  | _,_=>none
 | none=>none
theorem Wmj {mt kt et:TypeId} {z:Value} (hm:Qmj X.P mt kt et z) (e:Wkj mt k st=some (k',st')) (h:AK X f k' Q st'):AK X f k Q st:=by
 unfold Wkj at e
 split at e
 ·rename_i t id dst k2 he
  split at e
  ·rename_i es clock hr ht
   have ht:=Nat.eq_of_beq_eq_true ht
   subst ht
   obtain ⟨rfl,hp⟩:=Qeg e
   unfold Wn3 at he
   split at he
   ·rename_i o k3 Qbe
    split at he
    ·rename_i c hop
     split at he
     ·rename_i x t' Qmu Qb5 hty
      split at he
      ·rename_i id' hx
       simp only [Option.some.injEq,Prod.mk.injEq] at he
       obtain ⟨rfl,rfl,rfl,rfl⟩:=he
       have ha:c.args=#[x]:=by rw [<- Array.toArray_toList (xs:=c.args),Qb5]
       have hat:c.argTypes=#[t']:=by rw [<- Array.toArray_toList (xs:=c.argTypes),hty]
       refine Qd6 Qbe h fun a C hC=>?_
       obtain ⟨b,hμ,hb⟩:=Qpc hC hx
       have hrC:C.rows[id']? = some (.mp es clock):=by rw [hC.rows];exact hr
       have h1:=Qnr hC.rel hμ hrC
       refine ⟨.tuple #[],C.Yw id' (.mp [] clock) { C.w with heap:=C.w.heap.setIfInBounds b (.map ([]:List MapEntry).toArray clock) },{ st with rows:=st.rows.set id' (.mp [] clock) }, ?_,Wbp hC hμ hrC,_,hp,.Ql .nil⟩
       simp [execOp,hop,resolve,Qmu,ha,hat,hb,Sem.run_bind,invoke,builtin,Builtin.clear_,run_underlying hm.map,MapKept.run_getObj_map h1,MapKept.run_setObj_map _ h1,Result.andThen,Qq.Yw]
      cases he
     cases he
    cases he
   cases he
  cases e
 cases e
end
end Go.Sy
namespace Go.Sy
structure Wnu (P:Program) (t e:TypeId) (z:Value) (by':Nat):Prop where
 ty:P.underlying t=some (.slice e)
 info:(P.info? e).map (fun i=>(i.zero,i.size,i.bytes))=some (some z,1,by')
 cells:z.cells=#[z]
 one:z.oneCell'=true
section
variable {X:Ctx} {T:Tab} {f:FuncId} {k k':List Item} {Q:Frame->Frame->Qq->Prop} {st st':St} {a:Act} {C:Qq}
def Whr (st:St) (k:List Item):Option (TypeId × IntKind × IntKind × Nat × Option Tmp × List Item):=
 match Qde st k with
 | some (o,k')=>
  match o.op with
  | .makeSlice t l c=>
   match valOf st.tm l,valOf st.tm c with
   | some (.d (.v (.int kl (.ofNat n)))),some (.d (.v (.int kc (.ofNat m))))=>match Nat.beq n m with
    | true=>some (t,kl,kc,n,o.dst,k')
    | false=>none
   | _,_=>none
  | _=>none
 | none=>none
def Qzt (mt e:TypeId) (z:Value) (by':Nat) (k:List Item) (st:St):Option (List Item × St):=
 match Whr st k with
 | some (t,_,_,n,dst,k')=>
  match Nat.beq t mt && Nat.ble (by' * n) 281474976710656 && Nat.ble n 16777216 with
  | true=>Qjb { st with rows:=st.rows ++ [.flat false 1 e n fun _=>[.v z]] } dst (.own st.rows.length 1 0 n) k'
  | false=>none
 | none=>none
theorem Whw {mt e:TypeId} {z:Value} {by':Nat} (hm:Wnu X.P mt e z by') (h':Qzt mt e z by' k st=some (k',st')) (h:AK X f k' Q st'):AK X f k Q st:=by
 unfold Qzt at h'
 split at h'
 ·rename_i t kl kc n dst k2 he
  split at h'
  ·rename_i hc
   simp only [Bool.and_eq_true] at hc
   obtain ⟨⟨c1,c2⟩,c3⟩:=hc
   have c1:=Nat.eq_of_beq_eq_true c1
   subst c1
   have c2:=Nat.le_of_ble_eq_true c2
   have c3:=Nat.le_of_ble_eq_true c3
   obtain ⟨rfl,hp⟩:=Qeg h'
   unfold Whr at he
   split at he
   ·rename_i o k3 Qbe
    split at he
    ·rename_i t' l c hop
     split at he
     ·rename_i kl' n' kc' m' hl hcc
      split at he
      ·rename_i hnm
       have hnm:=Nat.eq_of_beq_eq_true hnm
       subst hnm
       simp only [Option.some.injEq,Prod.mk.injEq] at he
       obtain ⟨rfl,rfl,rfl,rfl,rfl,rfl⟩:=he
       refine Qd6 Qbe h fun a C hC=>?_
       have h1:=(hC.val _ _ hl).Qbt
       have h2:=(hC.val _ _ hcc).Qbt
       have Qcx:=run_make_row' (P:=X.P) t' e z by' hm.ty hm.info hm.cells kl' kc' n' c2 (by omega) C.w
       have hat:∀ i,i < n'->(madeCells #[z] n')[i]? = some z:=by
        intro i hi
        rw [<- Array.getElem?_toList,toList_madeCells_one]
        simp [hi]
       have hnew:(C.w.alloc (.cells (madeCells #[z] n') e)).heap[C.w.heap.size]? = some (.cells (madeCells #[z] n') e (0,0)):=(MapKept.heap_alloc C.w _).1
       have ev:=Ev.push hC.rel (.cells (madeCells #[z] n') e) (.flat false 1 e n' fun _=>[.v z])
       have Zb:Wt X (C.push (.cells (madeCells #[z] n') e) (.flat false 1 e n' fun _=>[.v z])):=Wt.push hC.rel (by
        refine ⟨madeCells #[z] n',fun _=>[z],hnew,by simp [size_madeCells],fun _ _=>rfl,fun i hi=>.cons hm.one (.v hm.one) .nil,fun i j v hi hj=>?_⟩
        cases j with
        | zero=>
         simp at hj
         subst hj
         simpa using hat i hi
        | succ j=>simp at hj)
       refine ⟨.slice (some ⟨C.w.heap.size,0,none⟩) n' n',C.push (.cells (madeCells #[z] n') e) (.flat false 1 e n' fun _=>[.v z]),{ st with rows:=st.rows ++ [.flat false 1 e n' fun _=>[.v z]] }, ?_, ?_,_,hp, ?_⟩
       ·simp only [execOp,hop,h1,h2,Sem.run_bind]
        have:(Value.int kl' (Int.ofNat n'))=Value.int kl' (n':Int):=rfl
        rw [show (Value.int kl' (Int.ofNat n'))=Value.int kl' (n':Int) from rfl,show (Value.int kc' (Int.ofNat n'))=Value.int kc' (n':Int) from rfl,Qcx]
        rfl
       ·have:=hC.Qds ev Zb
        simpa [Qq.push,hC.rows] using this
       have hlen:=hC.rel.len
       rw [hC.rows] at hlen
       have:=Zj.own (w:=(C.push (.cells (madeCells #[z] n') e) (.flat false 1 e n' fun _=>[.v z])).w) (ok:=(C.push (.cells (madeCells #[z] n') e) (.flat false 1 e n' fun _=>[.v z])).ok X) (μ:=(C.push (.cells (madeCells #[z] n') e) (.flat false 1 e n' fun _=>[.v z])).μ)
        (id:=st.rows.length) (k:=1) (off:=0) (n:=n') (b:=C.w.heap.size) (c:=n') (by simp [Qq.push,<- hlen]) hnew (by simp [size_madeCells]) (Nat.le_refl _) (by unfold maxLen;omega)
       simpa using this
      cases he
     cases he
    cases he
   cases he
  cases h'
 cases h'
def Wev (g:Nat->List DV) (i off s:Nat) (ds:List DV) (j:Nat):List DV:=bif Nat.beq j i then (g i).take off ++ ds ++ (g i).drop (off+s) else g j
def Wks (T:Tab) (k:List Item) (st:St):Option (List Item × St):=
 match Wex T st k with
 | some (id,kk,i,off,s,ds,k')=>
  match st.rows[id]? with
  | some (.flat false k2 ty n g)=>match Nat.beq k2 kk && Nat.blt i n with
   | true=>some (k',{ st with rows:=st.rows.set id (.flat false kk ty n (Wev g i off s ds)) })
   | false=>none
  | _=>none
 | none=>none
theorem Wmq (hT:Qw X.P T) (e:Wks T k st=some (k',st')) (h:AK X f k' Q st'):AK X f k Q st:=by
 unfold Wks at e
 split at e
 ·rename_i id kk i off s ds k2 he
  split at e
  ·rename_i kq ty n g hr
   split at e
   ·rename_i hc
    simp only [Bool.and_eq_true] at hc
    have h1:=Nat.eq_of_beq_eq_true hc.1
    have h2:=Nat.le_of_ble_eq_true hc.2
    subst h1
    injection e with e
    injection e with e1 e2
    subst e1 e2
    refine Qx5 hT (Wev g i off s ds) he hr h2 (by simp [Wev]) (fun j _ hj=>?_) rfl h
    unfold Wev
    rw [show Nat.beq j i=false from by
     cases hb:Nat.beq j i with
     | false=>rfl
     | true=>exact absurd (Nat.eq_of_beq_eq_true hb) hj]
    rfl
   cases e
  cases e
 cases e
end
end Go.Sy
namespace Go.Sy
section
variable {T:Tab} {val val':Operand->Option AV}
theorem Qdz (hv:∀ x av,val x=some av->val' x=some av) (x:Operand):val x=none\/val' x=val x:=by
 cases e:val x with
 | none=>exact .inl rfl
 | some a=>exact .inr (hv x a e)
theorem Qji (hv:∀ x av,val x=some av->val' x=some av):∀ {l:List Operand} {xs:List AV},mapVal val l=some xs->mapVal val' l=some xs
 | [],_,h=>h
 | x :: l,xs,h=>by
  simp only [mapVal] at h ⊢
  rcases Qdz hv x with e | e
  ·rw [e] at h;cases h
  rw [e]
  split at h
  ·obtain ⟨ys,h1,h2⟩:=Option.map_eq_some_iff.1 h
   simp [Qji hv h1,h2]
  cases h
theorem Quc (hv:∀ x av,val x=some av->val' x=some av) {pl:List (Nat × Nat)}:∀ {ps:List (Nat × Operand)} {cs:List AV} {xs:List AV},Qnj pl val cs ps=some xs->Qnj pl val' cs ps=some xs
 | [],_,_,h=>h
 | (i,x) :: ps,cs,xs,h=>by
  simp only [Qnj] at h ⊢
  rcases Qdz hv x with e | e
  ·rw [e] at h
   split at h<;>first | cases h | (rename_i e2;cases e2)
  rw [e]
  split at h
  ·rename_i off n a e1 e2
   cases hb:(Nat.beq (cellsOf a).length n && Nat.ble (off+n) cs.length && !Qi0 a) with
   | true=>
    rw [hb] at h
    exact Quc hv h
   | false=>rw [hb] at h;cases h
  cases h
theorem Qw8 (hv:∀ x av,val x=some av->val' x=some av) {op:Op} {av:AV} (h:Qcw T val op=some av):Qcw T val' op=some av:=by
 cases op with
 | move x=>exact hv _ _ h
 | assign x=>exact hv _ _ h
 | nilCheck x=>
  simp only [Qcw] at h ⊢
  rcases Qdz hv x with e | e
  ·rw [e] at h;cases h
  rw [e];exact h
 | pick c a b=>
  simp only [Qcw] at h ⊢
  rcases Qdz hv c with e | e
  ·rw [e] at h;cases h
  rw [e]
  split at h
  ·rename_i t e2
   cases t with
   | true=>exact hv _ _ h
   | false=>exact hv _ _ h
  cases h
 | unOp op t x=>
  simp only [Qcw] at h ⊢
  rcases Qdz hv x with e | e
  ·rw [e] at h;cases h
  rw [e];exact h
 | extract x i=>
  simp only [Qcw] at h ⊢
  rcases Qdz hv x with e | e
  ·rw [e] at h;cases h
  rw [e];exact h
 | binOp op t x y yt=>
  simp only [Qcw] at h ⊢
  rcases Qdz hv x with e | e
  ·rw [e] at h;simp at h
  rcases Qdz hv y with e' | e'
  ·rw [e'] at h;simp at h
  rw [e,e'];exact h
 | convert s d x=>
  simp only [Qcw] at h ⊢
  rcases Qdz hv x with e | e
  ·rw [e] at h;split at h<;>first | cases h | (rename_i e2;cases e2)
  rw [e];exact h
 | makeFunc g first caps=>
  cases g with
  | func g=>
   simp only [Qcw] at h ⊢
   cases hb:first.isEmpty with
   | false=>
    rw [hb] at h
    simp only [cond_false] at h ⊢
    split at h
    ·rename_i x h1 h2
     obtain ⟨av0,h3,h4⟩:=Option.map_eq_some_iff.1 h
     rw [hv _ _ h3,Option.map_some,h4]
    cases h
   | true=>
    rw [hb] at h
    simp only [cond_true] at h ⊢
    cases e:mapVal val caps.toList with
    | none=>rw [e] at h;cases h
    | some xs=>rw [e] at h;rw [Qji hv e];exact h
  | _=>cases h
 | fieldAddr s x g=>
  simp only [Qcw] at h ⊢
  rcases Qdz hv x with e | e
  ·rw [e] at h
   split at h
   ·split at h<;>cases h
   cases h
  rw [e];exact h
 | field s x g=>
  simp only [Qcw] at h ⊢
  rcases Qdz hv x with e | e
  ·rw [e] at h
   split at h
   ·split at h<;>simp_all
   cases h
  rw [e];exact h
 | makeInterface t x=>
  simp only [Qcw] at h ⊢
  rcases Qdz hv x with e | e
  ·rw [e] at h;split at h<;>simp_all
  rw [e];exact h
 | call c=>
  simp only [Qcw,Qs6] at h ⊢
  split at h
  ·unfold Qu9 at h ⊢
   split at h
   ·rename_i x t _ _
    rcases Qdz hv x with e | e
    ·rw [e] at h;cases h
    rw [e];exact h
   cases h
  ·unfold Qqk at h ⊢
   split at h
   ·rename_i x y _
    rcases Qdz hv x with e | e
    ·rw [e] at h;simp at h
    rcases Qdz hv y with e' | e'
    ·rw [e'] at h;simp at h
    rw [e,e'];exact h
   cases h
  ·unfold Qqk at h ⊢
   split at h
   ·rename_i x y _
    rcases Qdz hv x with e | e
    ·rw [e] at h;simp at h
    rcases Qdz hv y with e' | e'
    ·rw [e'] at h;simp at h
    rw [e,e'];exact h
   cases h
  cases h
 | build t parts=>
  simp only [Qcw] at h ⊢
  split at h
  ·rename_i pl n b z e1 e2
   cases hb:z.all (·.oneCell') with
   | false=>rw [hb] at h;cases h
   | true=>
    rw [hb] at h
    simp only [cond_true] at h ⊢
    obtain ⟨xs,h1,h2⟩:=Option.map_eq_some_iff.1 h
    rw [Quc hv h1]
    exact h2▸rfl
  cases h
 | _=>cases h
theorem Qoc (hv:∀ x av,val x=some av->val' x=some av):∀ {ps:List (Nat × Operand)} {j:Nat} {xs:List (List DV)},Qhn val j ps=some xs->Qhn val' j ps=some xs
 | [],_,_,h=>h
 | (i,x) :: ps,j,xs,h=>by
  simp only [Qhn] at h ⊢
  rcases Qdz hv x with e | e
  ·rw [e] at h;cases h
  rw [e]
  split at h
  ·rename_i a e1
   cases hb:(Nat.beq i j && !Qi0 a) with
   | true=>
    rw [hb] at h
    simp only [cond_true] at h ⊢
    split at h
    ·obtain ⟨ys,h1,h2⟩:=Option.map_eq_some_iff.1 h
     simp [Qoc hv h1,h2]
    cases h
   | false=>rw [hb] at h;cases h
  cases h
theorem Qqi (hv:∀ x av,val x=some av->val' x=some av) {rows:List Row} {op:Op} {r:Option AV × List Row} (h:Qfg T val rows op=some r):Qfg T val' rows op=some r:=by
 cases op with
 | alloc t=>exact h
 | box t x=>
  simp only [Qfg] at h ⊢
  rcases Qdz hv x with e | e
  ·rw [e] at h;cases h
  rw [e];exact h
 | buildSlice t n parts=>
  simp only [Qfg] at h ⊢
  split at h
  ·split at h
   ·rename_i e1 e2
    rw [e1,Qoc hv e2]
    exact h
   cases h
  cases h
 | load t x=>
  simp only [Qfg] at h ⊢
  rcases Qdz hv x with e | e
  ·rw [e] at h;cases h
  rw [e];exact h
 | store t x y=>
  simp only [Qfg] at h ⊢
  rcases Qdz hv x with e | e
  ·rw [e] at h;simp at h
  rcases Qdz hv y with e' | e'
  ·rw [e'] at h;simp at h
  rw [e,e'];exact h
 | _=>cases h
end
theorem Ql4 {rest:List (Nat × AV)} {i:Nat} {av:AV}:∀ {tm:List (Nat × AV)},tm.lookup i=some av->(tm ++ rest).lookup i=some av
 | [],h=>by cases h
 | (j,x) :: tm,h=>by
  rw [List.cons_append,List.lookup_cons]
  rw [List.lookup_cons] at h
  split at h
  ·exact h
  exact Ql4 h
theorem Qen {tm rest:List (Nat × AV)}:∀ (x:Operand) (av:AV),valOf tm x=some av->valOf (tm ++ rest) x=some av
 | .tmp _,_,h=>Ql4 h
 | .const (.agg _),_,h=>h
 | .const v,av,h=>by cases v<;>exact h
 | .func _,_,h=>h
 | .global _,_,h=>by cases h
theorem Qf2 {tm rest:List (Nat × AV)} {ops:Array Oper} {o:Oper} {b:Bool} (h:guardOf tm ops o=some b):guardOf (tm ++ rest) ops o=some b:=by
 unfold guardOf at h ⊢
 split at h
 ·exact h
 split at h
 ·split at h
  ·rename_i t ht
   split at h
   ·rename_i b' hb
    rw [Ql4 hb]
    exact h
   ·rename_i hb
    rw [Ql4 hb]
    exact h
   cases h
  cases h
 cases h
end Go.Sy
