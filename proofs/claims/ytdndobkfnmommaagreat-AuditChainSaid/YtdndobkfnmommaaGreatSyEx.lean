/- Contracts whose outcome holds a thing that is not known before the call (a new address). -/
import Derived.Test.YtdndobkfnmommaaGreatSyPtr
import Derived.MapKept
set_option linter.unusedVariables false
namespace Go.Sy
def Qy7 {γ:Type} (X:Ctx) (G:γ->Prop) (Wj:γ->List Row) (ret:γ->AV) (b fr:Frame) (C:Wp):Prop:=∃ g,G g/\Yt X (Wj g) (ret g) b fr C
theorem Wg7 {X:Ctx} {f:FuncId} {k:List Item} {Q Q':Frame->Frame->Wp->Prop} {st:St} (hq:∀ b fr C,Q b fr C->Q' b fr C) (h:AK X f k Q st):AK X f k Q' st:=by
 intro a C hC b cs hb hk
 obtain ⟨C',fr,q1,q2,q3⟩:=h a C hC b cs hb hk
 exact ⟨C',fr,hq _ _ _ q1,q2,q3⟩
theorem Qe6 {γ:Type} {X:Ctx} {f:FuncId} {k:List Item} {G:γ->Prop} {Wj:γ->List Row} {ret:γ->AV} {st:St} (g:γ) (hg:G g) (h:AK X f k (Yt X (Wj g) (ret g)) st):AK X f k (Qy7 X G Wj ret) st:=
 Wg7 (fun _ _ _ hq=>⟨g,hg,hq⟩) h
theorem Qxd {γ:Type} {P:Program} {f:FuncId} {fn:Func} {c:Code} {Xr:List Row} {args:List AV} {G:γ->Prop} {Wj:γ->List Row} {ret:γ->AV} {nt:Nat} (hf:P.funcs[f]? = some fn) (hb:fn.body=some c) (hn:fn.ntmps=nt) (hl:args.length<=nt)
  (h:∀ X:Ctx,X.P=P->X.μ0.length=Xr.length->(X.ds=[]/\X.rnd=none)->AK X f [.code c] (Qy7 X G Wj ret) { nt:=nt,tm:=Qjy 0 args,rows:=Xr }):Qpy P f Xr args G Wj ret:=by
 intro X vs hP hX Yo Qeb cs
 have hvl:=Qeb.length
 have Wfn:Frame.enter P f vs.toArray .normal =
   ({ (default:Frame) with fn:=f,kind:=.normal,roundOf:=none }:Frame).atR { tmps:=vs.toArray ++ Array.replicate (fn.ntmps - vs.toArray.size) undef,defers:=[] } [.code c]:=by
  simp [Frame.enter,Frame.atR,hf,hb]
 have hrel':Xp X.plain ⟨X.μ0,Xr,X.w0⟩:=Yo.plain
 obtain ⟨C',fr,⟨g,hg,v,hq1,hq2,h4⟩,h2,h3⟩:=h X.plain hP Yo.len ⟨rfl,rfl⟩ { tmps:=vs.toArray ++ Array.replicate (fn.ntmps - vs.toArray.size) undef,defers:=[] } ⟨X.μ0,Xr,X.w0⟩
  ⟨hrel',rfl,rfl,by simp [hn];omega,fun i av e=>by
   obtain ⟨_,e2⟩:=Qnq e
   obtain ⟨u,h1,h2⟩:=Qeb.at_ e2
   have hi:=(List.getElem?_eq_some_iff.1 h1).1
   refine ⟨u, ?_,h2⟩
   rw [Array.getElem?_append_left (by simpa using hi)]
   simpa using h1⟩ { (default:Frame) with fn:=f,kind:=.normal,roundOf:=none } cs rfl ⟨rfl,rfl⟩
 subst hP
 rw [<- Wfn] at h2
 obtain ⟨μ',rows',w'⟩:=C'
 simp only at hq1
 subst hq1
 exact ⟨.returned v,w',fr,⟨g,v,μ',hg,rfl,⟨hq2.rel.Qy0,hq2.rows,hq2.ret⟩⟩,h2,h3,h4⟩
theorem Qv0 {γ:Type} {X:Ctx} {P:Program} {f g:FuncId} {k k':List Item} {Q:Frame->Frame->Wp->Prop} {st:St} {G:γ->Prop} {st':γ->St} {Yk args:List AV} {dst:Option Tmp} (ids:List Nat) {Xr:List Row} {Wj:γ->List Row} {ret:γ->AV}
  (hP:X.P=P) (he:Enters P g) (hs:Qpy P g Xr args G Wj ret)
  (e:Qkh st k=some (g,Yk,dst,k')) (hh:Qbo st.rows ids Xr) (hp:Qg2 st.rows ids (Qaq ids st.rows.length) Yk args)
  (Qcd:∀ x,St.put { st with rows:=Qbx st.rows ids (Wj x) } dst (Qdk (Qaq ids st.rows.length) (ret x))=some (st' x)) (h:∀ x,G x->AK X f k' Q (st' x)):AK X f k Q st:=
 Qt0 ids hP he hs e hh (Wgz hh hp) Qcd h
end Go.Sy
set_option linter.unusedSimpArgs false
namespace Go.Sy
section
variable {X:Ctx} {C:Wp} {o o':Qip} {id a:Nat} {w':World}
structure Qmy (X:Ctx) (C:Wp) (id a:Nat) (o o':Qip) (w':World):Prop where
 mem:∀ ob,C.μ[id]? = some ob->ob=some a\/a∈o.ext C.w ob
 ext:∀ ob,o'.ext w' ob=o.ext C.w ob
 os:w'.os=C.w.os
 tape:w'.tape=C.w.tape
 output:w'.output=C.w.output/\C.w.drawn<=w'.drawn
 size:w'.heap.size=C.w.heap.size
 other:∀ k,k≠a->w'.heap[k]? = C.w.heap[k]?
 shape:∀ cs ty,C.w.heap[a]? = some (.cells cs ty (0,0))->∃ cs',w'.heap[a]? = some (.cells cs' ty (0,0))/\cs'.size=cs.size
theorem Qk7 (h:Xp X C) (hr:C.rows[id]? = some (.obj o)) (t:Qmy X C id a o o' w') {i:Nat} {n:Option Nat} {s:Row} (ne:id≠i) (h1:C.μ[i]? = some n) (h2:C.rows[i]? = some s) (hs:s≠.gone):
  (∀ k,n=some k->w'.heap[k]? = C.w.heap[k]?)/\∀ c∈s.ext C.w n,w'.heap[c]? = C.w.heap[c]?:=by
 obtain ⟨ob,hμ⟩:=h.Qd8 hr
 refine ⟨fun k ek=>t.other k ?_,fun c hc=>t.other c ?_⟩
 ·rintro rfl
  exact ne (h.Qe4 hμ h1 hr h2 rfl hs (t.mem _ hμ) (.inl ek))
 rintro rfl
 exact ne (h.Qe4 hμ h1 hr h2 rfl hs (t.mem _ hμ) (.inr hc))
theorem Wap (h:Xp X C) (hr:C.rows[id]? = some (.obj o)) (t:Qmy X C id a o o' w') {c:Nat} (hc:(C.Zw id (.obj o') w').live c):C.live c:=by
 obtain ⟨i,n,s,h1,h2,h3,h4⟩:=hc
 simp only [Wp.Zw] at h1 h2 h4
 rcases (Jr (List.getElem?_eq_some_iff.1 hr).1).1 h2 with ⟨rfl,rfl⟩ | ⟨ne,h2⟩
 ·exact ⟨id,n,_,h1,hr,rfl,h4.imp (fun x=>x) fun hx=>(show c∈o.ext C.w n from t.ext n▸hx)⟩
 obtain ⟨q1,q2⟩:=Qk7 h hr t ne h1 h2 (by rintro rfl;cases h3)
 exact ⟨i,n,s,h1,h2,h3,(Row.Qgt s q1 q2).1 h4⟩
theorem Qrk (h:Xp X C) (hr:C.rows[id]? = some (.obj o)) (t:Qmy X C id a o o' w'):Ev X C (C.Zw id (.obj o') w'):=by
 obtain ⟨ob,hμ⟩:=h.Qd8 hr
 exact ⟨Nat.le_of_eq t.size.symm,fun k _ hl=>t.other k (fun ek=>hl (ek▸⟨id,ob,_,hμ,hr,rfl,t.mem _ hμ⟩)),fun k _ hl hk=>hl (Wap h hr t hk),
  fun k cs ty hc=>by
   by_cases ek:k=a
   ·subst ek;exact t.shape cs ty hc
   exact ⟨cs,(t.other k ek).trans hc,rfl⟩,fun _ _ hx=>hx⟩
theorem Quz (h:Xp X C) (hr:C.rows[id]? = some (.obj o)) (t:Qmy X C id a o o' w') (Yo:∀ ob,C.μ[id]? = some ob->o'.rel w' ((C.Zw id (.obj o') w').ok X) ob):Xp X (C.Zw id (.obj o') w'):=by
 have ev:=Qrk (o':=o') h hr t
 obtain ⟨ob0,hμ0⟩:=h.Qd8 hr
 have hlt:=(List.getElem?_eq_some_iff.1 hr).1
 have hold:∀ {i c:Nat} {n:Option Nat} {s:Row},(C.Zw id (.obj o') w').μ[i]? = some n->(C.Zw id (.obj o') w').rows[i]? = some s->s≠.gone->∃ s0,C.μ[i]? = some n/\C.rows[i]? = some s0/\s0≠.gone/\s.ext w' n=s0.ext C.w n/\(s.live=true->s0.live=true):=by
  intro i c n s h1 h2 hg
  simp only [Wp.Zw] at h1 h2
  rcases (Jr hlt).1 h2 with ⟨rfl,rfl⟩ | ⟨ne,h2⟩
  ·exact ⟨_,h1,hr,by simp,t.ext n,fun _=>rfl⟩
  obtain ⟨q1,q2⟩:=Qk7 h hr t ne h1 h2 hg
  exact ⟨s,h1,h2,hg,Row.Qb5 s q1 q2,fun hl=>hl⟩
 have hw:(C.Zw id (.obj o') w').w=w':=rfl
 refine ⟨by simp [Wp.Zw,h.len],t.os.trans h.os,t.tape.trans h.tape,⟨t.output.1.trans h.output.1,Nat.le_trans h.output.2 t.output.2⟩,by rw [hw,t.size];exact h.size, ?_, ?_,h.first, ?_, ?_, ?_, ?_, ?_⟩
 ·intro k hk ho
  rw [<- h.keep k hk ho]
  refine t.other k ?_
  rintro rfl
  rcases t.mem _ hμ0 with hm | hm
  ·subst hm
   rcases (h.place id k hμ0).1 with h1 | h1
   ·exact ho h1
   omega
  rcases (h.Qbh id ob0 k _ hμ0 hr hm).1 with h1 | h1
  ·exact ho h1
  omega
 ·intro k cs ty hc
  obtain ⟨cs',h1,h2⟩:=h.shape k cs ty hc
  obtain ⟨cs2,h3,h4⟩:=ev.shape k cs' ty h1
  exact ⟨cs2,h3,h4.trans h2⟩
 ·intro i k hk
  have:=h.place i k hk
  exact ⟨this.1,by rw [hw,t.size];exact this.2⟩
 ·intro i j k p q h1 h2 h3 h4 h5 h6
  obtain ⟨p0,a1,a2,a3,a4,a5⟩:=hold (c:=0) h1 h3 (by rintro rfl;cases h5)
  obtain ⟨q0,b1,b2,b3,b4,b5⟩:=hold (c:=0) h2 h4 h6
  exact h.apart i j k p0 q0 a1 b1 a2 b2 (a5 h5) b3
 ·intro i n c s h1 h2 h3
  obtain ⟨s0,a1,a2,a3,a4,a5⟩:=hold (c:=0) h1 h2 (by rintro rfl;cases h3)
  rw [hw,a4] at h3
  have:=h.Qbh i n c s0 a1 a2 h3
  exact ⟨this.1,by rw [hw,t.size];exact this.2⟩
 ·intro i j n n' c p q h1 h2 h3 h4 h5 h6
  obtain ⟨p0,a1,a2,a3,a4,a5⟩:=hold (c:=0) h1 h3 (by rintro rfl;cases h5)
  obtain ⟨q0,b1,b2,b3,b4,b5⟩:=hold (c:=0) h2 h4 h6
  rw [hw,a4] at h5
  rw [hw,b4]
  exact h.Qa0 i j n n' c p0 q0 a1 b1 a2 b2 h5 b3
 intro i ob s h1 h2
 simp only [Wp.Zw] at h1 h2
 rcases (Jr hlt).1 h2 with ⟨rfl,rfl⟩ | ⟨ne,h2⟩
 ·cases ob<;>exact Yo _ h1
 by_cases hs:s=.gone
 ·subst hs;cases ob<;>trivial
 exact (h.rel i ob s h1 h2).mono ev.ok ev.same ev.pre ev.shape (Qk7 h hr t ne h1 h2 hs).1 (Qk7 h hr t ne h1 h2 hs).2
end
structure Qpv (P:Program) (t kt et:TypeId):Prop where
 map:P.underlying t=some (.map kt et)
 key:P.underlying kt=some (.int .i64)
 zero:∀ w,(zeroValue et).run P w=.ok (.pointer none) w
def mpE (x:Int × Value):Value × Value:=(.int .i64 x.1,x.2)
def mpO (q:Nat) (ks:List (Int × Value)):Qip where
 ext:=fun _ _=>[]
 rel:=fun w ok m=>m=some q/\∃ es clock,w.heap[q]? = some (.map es clock)/\es.toList.map (fun e=>(e.key,e.val))=ks.map mpE
 Qb5:=fun _ _=>rfl
 Qfk:=fun h _ _ hm _=>⟨h.1,by
  obtain ⟨es,clock,h1,h2⟩:=h.2
  exact ⟨es,clock,(hm q h.1).trans h1,h2⟩⟩
 perm:=fun _ h=>h
theorem Qtl {c:Int}:∀ (l:List MapEntry) (ks:List (Int × Value)) (i:Nat),l.map (fun e=>(e.key,e.val))=ks.map mpE ->
  (ks.lookup c=none/\Instr.findNow (.int .i64) (.int .i64 c) l i=some none)\/∃ v j,ks.lookup c=some v/\Instr.findNow (.int .i64) (.int .i64 c) l i=some (some (i+j,v))
 | [],ks,i,h=>by
  have:ks=[]:=by simpa using h.symm
  subst this
  exact .inl ⟨rfl,rfl⟩
 | e :: es,[],i,h=>by simp at h
 | e :: es,(c',v) :: ks,i,h=>by
  simp only [List.map_cons,mpE,List.cons.injEq,Prod.mk.injEq] at h
  obtain ⟨⟨h1,h2⟩,h3⟩:=h
  obtain ⟨r,hr,Wfo⟩:=MapKept.sameNow_of_keys (d:=.int .i64) (a:=.int .i64 c) (b:=e.key) rfl (by rw [h1];rfl)
  rw [h1] at Wfo
  by_cases ec:c=c'
  ·subst ec
   have:r=true:=Wfo.2 rfl
   subst this
   exact .inr ⟨v,0,by simp,by simp [Instr.findNow,hr,h2]⟩
  have:r=false:=by
   cases r with
   | false=>rfl
   | true=>
    have:=Wfo.1 rfl
    injection this with _ this
    exact absurd this ec
  subst this
  have hl:((c',v) :: ks).lookup c=ks.lookup c:=by
   rw [List.lookup_cons]
   simp [beq_eq_false_iff_ne.2 ec]
  rw [hl]
  rcases Qtl es ks (i+1) h3 with ⟨k1,k2⟩ | ⟨u,j,k1,k2⟩
  ·exact .inl ⟨k1,by simp [Instr.findNow,hr,k2]⟩
  exact .inr ⟨u,j+1,k1,by simp [Instr.findNow,hr,k2];omega⟩
section
variable {P:Program} {w:World} {t kt et:TypeId} {q:Nat} {es:Array MapEntry} {clock:Nat} {ks:List (Int × Value)}
theorem Wa3 (ht:Qpv P t kt et) (hb:w.heap[q]? = some (.map es clock)) (hk:es.toList.map (fun e=>(e.key,e.val))=ks.map mpE) (c:Int):
  (Instr.lookup t (.map (some q)) (.int .i64 c) false).run P w=.ok ((ks.lookup c).getD (.pointer none)) w:=by
 rcases Qtl (c:=c) es.toList ks 0 hk with ⟨h1,h2⟩ | ⟨v,j,h1,h2⟩
 ·simp [Instr.lookup,run_underlying ht.map,MapKept.run_getObj_map hb,MapKept.run_checkKey ht.key (k:=.int .i64 c) rfl,MapKept.run_findKey ht.key h2,ht.zero,Result.andThen,h1]
 simp [Instr.lookup,run_underlying ht.map,MapKept.run_getObj_map hb,MapKept.run_checkKey ht.key (k:=.int .i64 c) rfl,MapKept.run_findKey ht.key h2,ht.zero,Result.andThen,h1]
theorem Wa4 (ht:Qpv P t kt et) (hb:w.heap[q]? = some (.map es clock)) (hk:es.toList.map (fun e=>(e.key,e.val))=ks.map mpE) (c:Int) (v:Value) (hc:ks.lookup c=none):
  (Instr.mapUpdate t (.map (some q)) (.int .i64 c) v).run P w=.ok () { w with heap:=w.heap.setIfInBounds q (.map (es.push { key:=.int .i64 c,val:=v,born:=clock }) (clock+1)) }:=by
 rcases Qtl (c:=c) es.toList ks 0 hk with ⟨h1,h2⟩ | ⟨u,j,h1,h2⟩
 ·simp [Instr.mapUpdate,run_underlying ht.map,MapKept.run_getObj_map hb,MapKept.run_checkKey ht.key (k:=.int .i64 c) rfl,MapKept.run_findKey ht.key h2,MapKept.run_setObj_map _ hb,Result.andThen]
 rw [hc] at h1;cases h1
end
section
variable {X:Ctx} {f:FuncId} {k k':List Item} {Q:Frame->Frame->Wp->Prop} {st st':St} {t kt et:TypeId} {q:Nat} {ks:List (Int × Value)}
def War (st:St) (x:Operand):Option Nat:=
 match valOf st.tm x with
 | some (.d (.v (.map (some q))))=>some q
 | _=>none
def Waj (st:St) (x:Operand):Option Int:=
 match valOf st.tm x with
 | some (.d (.v (.int .i64 c)))=>some c
 | _=>none
def Wga (st:St) (x:Operand):Option Nat:=
 match valOf st.tm x with
 | some (.d (.v (.pointer (some ⟨a,0,none⟩))))=>some a
 | _=>none
theorem Qw3 {a:Act} {C:Wp} (hC:Sim X st a C) {x:Operand} (h:War st x=some q):a.eval x=.map (some q):=by
 unfold War at h
 split at h
 ·rename_i q' e
  injection h with h
  subst h
  have:=hC.val _ _ e
  generalize a.eval x=v at this ⊢
  cases this with
  | d r=>cases r;rfl
 cases h
theorem Qwu {a:Act} {C:Wp} (hC:Sim X st a C) {x:Operand} {c:Int} (h:Waj st x=some c):a.eval x=.int .i64 c:=by
 unfold Waj at h
 split at h
 ·rename_i q' e
  injection h with h
  subst h
  have:=hC.val _ _ e
  generalize a.eval x=v at this ⊢
  cases this with
  | d r=>cases r;rfl
 cases h
theorem Wgb {a:Act} {C:Wp} (hC:Sim X st a C) {x:Operand} {b:Nat} (h:Wga st x=some b):a.eval x=.pointer (some ⟨b,0,none⟩):=by
 unfold Wga at h
 split at h
 ·rename_i q' e
  injection h with h
  subst h
  have:=hC.val _ _ e
  generalize a.eval x=v at this ⊢
  cases this with
  | d r=>cases r;rfl
 cases h
theorem Wdt {C:Wp} (h:Xp X C) {id:Nat} (hr:C.rows[id]? = some (.obj (mpO q ks))):
  C.μ[id]? = some (some q)/\∃ es clock,C.w.heap[q]? = some (.map es clock)/\es.toList.map (fun e=>(e.key,e.val))=ks.map mpE:=by
 obtain ⟨ob,hμ⟩:=h.Qd8 hr
 have:=h.rel id ob _ hμ hr
 cases ob with
 | none=>cases this.1
 | some b=>
  obtain ⟨h1,h2⟩:=this
  injection h1 with h1
  subst h1
  exact ⟨hμ,h2⟩
def Wir (st:St) (k:List Item):Option (TypeId × Nat × Int × Option Tmp × List Item):=
 match Qe3 st k with
 | some (o,k')=>
  match o.op with
  | .lookup t x y false=>
   match War st x,Waj st y with
   | some q,some c=>some (t,q,c,o.dst,k')
   | _,_=>none
  | _=>none
 | none=>none
theorem Ql9 (id:Nat) {c:Int} {dst:Option Tmp} (e:Wir st k=some (t,q,c,dst,k')) (ht:Qpv X.P t kt et) (hr:st.rows[id]? = some (.obj (mpO q ks)))
  (hv:((ks.lookup c).getD (.pointer none)).oneCell'=true)
  (Qcd:St.put st dst (.d (.v ((ks.lookup c).getD (.pointer none))))=some st') (h:AK X f k' Q st'):AK X f k Q st:=by
 unfold Wir at e
 split at e
 ·rename_i o k3 Qe7
  split at e
  ·rename_i t' x y hop
   split at e
   ·rename_i q' c' hx hy
    simp only [Option.some.injEq,Prod.mk.injEq] at e
    obtain ⟨rfl,rfl,rfl,rfl,rfl⟩:=e
    refine Qkg Qe7 h fun a C hC=>?_
    obtain ⟨_,es,clock,h1,h2⟩:=Wdt hC.rel (by rw [hC.rows];exact hr)
    refine ⟨(ks.lookup c').getD (.pointer none),C,st, ?_,hC,_,Qcd,.d (.v hv)⟩
    have:=Wa3 ht h1 h2 c'
    simp only [execOp,hop,Qw3 hC hx,Qwu hC hy,Sem.run_bind,Sem.run_pure,Result.andThen_ok,this]
   cases e
  cases e
 cases e
def Wit (st:St) (k:List Item):Option (TypeId × Nat × Int × Nat × List Item):=
 match Qe3 st k with
 | some (o,k')=>
  match o.op with
  | .mapUpdate t x y z=>
   match War st x,Waj st y,Wga st z,o.dst with
   | some q,some c,some b,none=>some (t,q,c,b,k')
   | _,_,_,_=>none
  | _=>none
 | none=>none
theorem Wbi (id:Nat) {c:Int} {b:Nat} (e:Wit st k=some (t,q,c,b,k')) (ht:Qpv X.P t kt et) (hr:st.rows[id]? = some (.obj (mpO q ks))) (hc:ks.lookup c=none)
  (hs:st'={ st with rows:=st.rows.set id (.obj (mpO q (ks ++ [(c,.pointer (some ⟨b,0,none⟩))]))) }) (h:AK X f k' Q st'):AK X f k Q st:=by
 subst hs
 unfold Wit at e
 split at e
 ·rename_i o k3 Qe7
  split at e
  ·rename_i t' x y z hop
   split at e
   ·rename_i q' c' b' hx hy hz hd
    simp only [Option.some.injEq,Prod.mk.injEq] at e
    obtain ⟨rfl,rfl,rfl,rfl,rfl⟩:=e
    refine Qmq Qe7 hd h fun a C hC=>?_
    have Qbv:C.rows[id]? = some (.obj (mpO q' ks)):=by rw [hC.rows];exact hr
    obtain ⟨hμ,es,clock,h1,h2⟩:=Wdt hC.rel Qbv
    have Qhi:=Wa4 ht h1 h2 c' (.pointer (some ⟨b',0,none⟩)) hc
    generalize hw':({ C.w with heap:=C.w.heap.setIfInBounds q' (.map (es.push { key:=.int .i64 c',val:=.pointer (some ⟨b',0,none⟩),born:=clock }) (clock+1)) }:World)=w' at Qhi
    have Qnz:=MapKept.heap_set (w:=C.w) (o':=.map (es.push { key:=.int .i64 c',val:=.pointer (some ⟨b',0,none⟩),born:=clock }) (clock+1)) h1
    have tu:Qmy X C id q' (mpO q' ks) (mpO q' (ks ++ [(c',.pointer (some ⟨b',0,none⟩))])) w':=
     ⟨fun ob hob=>by rw [hμ] at hob;injection hob with hob;exact .inl hob.symm,fun _=>rfl,by rw [<- hw'],by rw [<- hw'],by rw [<- hw'];exact ⟨rfl,Nat.le_refl _⟩,by rw [<- hw'];simp,
      fun j hj=>by rw [<- hw'];exact Qnz.2 j hj,fun cs ty hcs=>by rw [h1] at hcs;cases hcs⟩
    have ev:=Qrk hC.rel Qbv tu
    have Yo:=Quz hC.rel Qbv tu fun ob hob=>by
     rw [hμ] at hob
     injection hob with hob
     refine ⟨hob.symm,_,_,by rw [<- hw'];exact Qnz.1, ?_⟩
     rw [Array.toList_push,List.map_append,List.map_append,h2]
     rfl
    refine ⟨C.Zw id (.obj (mpO q' (ks ++ [(c',.pointer (some ⟨b',0,none⟩))]))) w', ?_, ?_⟩
    ·simp only [execOp,hop,Qw3 hC hx,Qwu hC hy,Wgb hC hz,Sem.run_bind,Qhi,Result.andThen_ok]
     rfl
    have:=hC.Qdl ev Yo
    simpa [Wp.Zw,hC.rows] using this
   cases e
  cases e
 cases e
def Wis (st:St) (k:List Item):Option (Option Tmp × List Item):=
 match Qe3 st k with
 | some (o,k')=>
  match o.op with
  | .makeMap t none=>some (o.dst,k')
  | _=>none
 | none=>none
theorem Whd {γ:Type} {G:γ->Prop} {st':γ->St} {o:Oper} (e:Qe3 st k=some (o,k')) (h:∀ g,G g->AK X f k' Q (st' g))
  (hv:∀ (a:Act) (C:Wp),Sim X st a C->∃ g v C' st1,G g/\(execOp a.eval o).run X.P C.w=.ok (.value v) C'.w/\Sim X st1 a C'/\∃ av,St.put st1 o.dst av=some (st' g)/\Js C'.w (C'.ok X) C'.μ av v):AK X f k Q st:=by
 unfold Qe3 at e
 split at e
 ·split at e
  ·rename_i o' ho
   split at e
   ·rename_i hg
    cases hdf:Qlf o'.op with
    | true=>rw [hdf] at e;cases e
    | false=>
     rw [hdf] at e
     injection e with e;injection e with e1 e2;subst e1;subst e2
     refine Qv5 h fun a C hC b cs _=>?_
     obtain ⟨g,v,C',st1,hG,hr,hs,av,hp,hav⟩:=hv a C hC
     exact ⟨g,_,C',hG,hs.put hp hav,.one (Qgn ho (Qk2 hdf) (Qeg hC hg) hr)⟩
   cases e
  cases e
 cases e
theorem Qzf {dst:Option Tmp} {st':Nat->St} (e:Wis st k=some (dst,k')) 
  (Qcd:∀ q,St.put { st with rows:=st.rows ++ [.obj (mpO q [])] } dst (.d (.v (.map (some q))))=some (st' q)) (h:∀ q,AK X f k' Q (st' q)):AK X f k Q st:=by
 unfold Wis at e
 split at e
 ·rename_i o k3 Qe7
  split at e
  ·rename_i t' hop
   simp only [Option.some.injEq,Prod.mk.injEq] at e
   obtain ⟨rfl,rfl⟩:=e
   refine Whd (G:=fun _=>True) Qe7 (fun q _=>h q) fun a C hC=>?_
   have ev:=Ev.push hC.rel (.map #[] 0) (.obj (mpO C.w.heap.size []))
   have Yo:Xp X (C.push (.map #[] 0) (.obj (mpO C.w.heap.size []))):=Xp.push hC.rel (by
    refine ⟨rfl,#[],0, ?_,rfl⟩
    exact (MapKept.heap_alloc C.w _).1)
   have Qfi:=hC.Qdl ev Yo
   refine ⟨C.w.heap.size,.map (some C.w.heap.size),C.push (.map #[] 0) (.obj (mpO C.w.heap.size [])),{ st with rows:=st.rows ++ [.obj (mpO C.w.heap.size [])] },trivial, ?_, ?_,_,Qcd _,.d (.v rfl)⟩
   ·simp [execOp,hop,Instr.makeMap,Wp.push,Result.andThen]
   simpa [Wp.push,hC.rows] using Qfi
  cases e
 cases e
end
end Go.Sy
