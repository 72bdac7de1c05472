/- A slice of addresses in a struct of one field, with the objects it leads to, as one row. -/
import Derived.Test.YtdhmflhncidjaaaGreatSyObj
import Derived.MapKept
set_option linter.unusedVariables false
set_option linter.unusedSimpArgs false
set_option linter.unusedSectionVars false
namespace Go.Sy
structure Wqn {α:Type} (e:α->List DV) (he:∀ x,NLs (e x)) (ty tq te:TypeId) (I:List Nat->(Nat->α)->Prop) (w:World) (ok:Bool->Nat->Prop) (q:Nat) (b:Option Nat) (l:List Nat) (M:Nat->α):Prop where
 box:∃ sv,sv.oneCell'=true/\w.heap[q]? = some (.cells #[sv] tq (0,0))/\Zj w ok [some q,b] (.own 1 1 0 l.length) sv
 flat:Qbg w ok [] b (.flat false 1 te l.length (vec eA 0 l))
 objs:(arO e he ty l M).rel w ok none
 qn:q ∉ l
 bq:b≠some q
 bn:∀ x,b=some x->x ∉ l
 inv:I l M
section
variable {X:Ctx} {C:Qq} {α:Type} {e:α->List DV} {he:∀ x,NLs (e x)} {ty tq te:TypeId} {I:List Nat->(Nat->α)->Prop} {id:Nat}
variable {f:FuncId} {k:List Item} {Q:Frame->Frame->Qq->Prop} {st st':St}
end
end Go.Sy
namespace Go.Sy
end Go.Sy
namespace Go.Sy
section
variable {X:Ctx} {C:Qq} {o o':Qls} {id a:Nat} {w':World}
structure Qp5 (X:Ctx) (C:Qq) (id a:Nat) (o o':Qls) (w':World):Prop where
 mem:∀ ob,C.μ[id]? = some ob->ob=some a\/a∈o.ext C.w ob
 ext:∀ ob,o'.ext w' ob=o.ext C.w ob
 os:w'.os=C.w.os
 tape:w'.tape=C.w.tape
 output:w'.output=C.w.output/\C.w.drawn<=w'.drawn
 size:w'.heap.size=C.w.heap.size
 other:∀ k,k≠a->w'.heap[k]? = C.w.heap[k]?
 shape:∀ cs ty,C.w.heap[a]? = some (.cells cs ty (0,0))->∃ cs',w'.heap[a]? = some (.cells cs' ty (0,0))/\cs'.size=cs.size
theorem Ql7 (h:Wt X C) (hr:C.rows[id]? = some (.obj o)) (t:Qp5 X C id a o o' w') {i:Nat} {n:Option Nat} {s:Row} (ne:id≠i) (h1:C.μ[i]? = some n) (h2:C.rows[i]? = some s) (hs:s≠.gone):
  (∀ k,n=some k->w'.heap[k]? = C.w.heap[k]?)/\∀ c∈s.ext C.w n,w'.heap[c]? = C.w.heap[c]?:=by
 obtain ⟨ob,hμ⟩:=h.Qip hr
 refine ⟨fun k ek=>t.other k ?_,fun c hc=>t.other c ?_⟩
 ·rintro rfl
  exact ne (h.Qjc hμ h1 hr h2 rfl hs (t.mem _ hμ) (.inl ek))
 rintro rfl
 exact ne (h.Qjc hμ h1 hr h2 rfl hs (t.mem _ hμ) (.inr hc))
theorem Wef (h:Wt X C) (hr:C.rows[id]? = some (.obj o)) (t:Qp5 X C id a o o' w') {c:Nat} (hc:(C.Yw id (.obj o') w').live c):C.live c:=by
 obtain ⟨i,n,s,h1,h2,h3,h4⟩:=hc
 simp only [Qq.Yw] at h1 h2 h4
 rcases (Qb2 (List.getElem?_eq_some_iff.1 hr).1).1 h2 with ⟨rfl,rfl⟩ | ⟨ne,h2⟩
 ·exact ⟨id,n,_,h1,hr,rfl,h4.imp (fun x=>x) fun hx=>(show c∈o.ext C.w n from t.ext n▸hx)⟩
 obtain ⟨q1,q2⟩:=Ql7 h hr t ne h1 h2 (by rintro rfl;cases h3)
 exact ⟨i,n,s,h1,h2,h3,(Row.Qhv s q1 q2).1 h4⟩
theorem Qym (h:Wt X C) (hr:C.rows[id]? = some (.obj o)) (t:Qp5 X C id a o o' w'):Ev X C (C.Yw id (.obj o') w'):=by
 obtain ⟨ob,hμ⟩:=h.Qip hr
 exact ⟨Nat.le_of_eq t.size.symm,fun k _ hl=>t.other k (fun ek=>hl (ek▸⟨id,ob,_,hμ,hr,rfl,t.mem _ hμ⟩)),fun k _ hl hk=>hl (Wef h hr t hk),
  fun k cs ty hc=>by
   by_cases ek:k=a
   ·subst ek;exact t.shape cs ty hc
   exact ⟨cs,(t.other k ek).trans hc,rfl⟩,fun _ _ hx=>hx⟩
theorem Wh9 (h:Wt X C) (hr:C.rows[id]? = some (.obj o)) (t:Qp5 X C id a o o' w') (Zb:∀ ob,C.μ[id]? = some ob->o'.rel w' ((C.Yw id (.obj o') w').ok X) ob):Wt X (C.Yw id (.obj o') w'):=by
 have ev:=Qym (o':=o') h hr t
 obtain ⟨ob0,hμ0⟩:=h.Qip hr
 have hlt:=(List.getElem?_eq_some_iff.1 hr).1
 have hold:∀ {i c:Nat} {n:Option Nat} {s:Row},(C.Yw id (.obj o') w').μ[i]? = some n->(C.Yw id (.obj o') w').rows[i]? = some s->s≠.gone->∃ s0,C.μ[i]? = some n/\C.rows[i]? = some s0/\s0≠.gone/\s.ext w' n=s0.ext C.w n/\(s.live=true->s0.live=true):=by
  intro i c n s h1 h2 hg
  simp only [Qq.Yw] at h1 h2
  rcases (Qb2 hlt).1 h2 with ⟨rfl,rfl⟩ | ⟨ne,h2⟩
  ·exact ⟨_,h1,hr,by simp,t.ext n,fun _=>rfl⟩
  obtain ⟨q1,q2⟩:=Ql7 h hr t ne h1 h2 hg
  exact ⟨s,h1,h2,hg,Row.Qc3 s q1 q2,fun hl=>hl⟩
 have hw:(C.Yw id (.obj o') w').w=w':=rfl
 refine ⟨by simp [Qq.Yw,h.len],t.os.trans h.os,t.tape.trans h.tape,⟨t.output.1.trans h.output.1,Nat.le_trans h.output.2 t.output.2⟩,by rw [hw,t.size];exact h.size, ?_, ?_,h.first, ?_, ?_, ?_, ?_, ?_⟩
 ·intro k hk ho
  rw [<- h.keep k hk ho]
  refine t.other k ?_
  rintro rfl
  rcases t.mem _ hμ0 with hm | hm
  ·subst hm
   rcases (h.place id k hμ0).1 with h1 | h1
   ·exact ho h1
   omega
  rcases (h.Qb4 id ob0 k _ hμ0 hr hm).1 with h1 | h1
  ·exact ho h1
  omega
 ·intro k cs ty hc
  obtain ⟨cs',h1,h2⟩:=h.shape k cs ty hc
  obtain ⟨cs2,h3,h4⟩:=ev.shape k cs' ty h1
  exact ⟨cs2,h3,h4.trans h2⟩
 ·intro i k hk
  have:=h.place i k hk
  exact ⟨this.1,by rw [hw,t.size];exact this.2⟩
 ·intro i j k p q h1 h2 h3 h4 h5 h6
  obtain ⟨p0,a1,a2,a3,a4,a5⟩:=hold (c:=0) h1 h3 (by rintro rfl;cases h5)
  obtain ⟨q0,b1,b2,b3,b4,b5⟩:=hold (c:=0) h2 h4 h6
  exact h.apart i j k p0 q0 a1 b1 a2 b2 (a5 h5) b3
 ·intro i n c s h1 h2 h3
  obtain ⟨s0,a1,a2,a3,a4,a5⟩:=hold (c:=0) h1 h2 (by rintro rfl;cases h3)
  rw [hw,a4] at h3
  have:=h.Qb4 i n c s0 a1 a2 h3
  exact ⟨this.1,by rw [hw,t.size];exact this.2⟩
 ·intro i j n n' c p q h1 h2 h3 h4 h5 h6
  obtain ⟨p0,a1,a2,a3,a4,a5⟩:=hold (c:=0) h1 h3 (by rintro rfl;cases h5)
  obtain ⟨q0,b1,b2,b3,b4,b5⟩:=hold (c:=0) h2 h4 h6
  rw [hw,a4] at h5
  rw [hw,b4]
  exact h.Qb7 i j n n' c p0 q0 a1 b1 a2 b2 h5 b3
 intro i ob s h1 h2
 simp only [Qq.Yw] at h1 h2
 rcases (Qb2 hlt).1 h2 with ⟨rfl,rfl⟩ | ⟨ne,h2⟩
 ·cases ob<;>exact Zb _ h1
 by_cases hs:s=.gone
 ·subst hs;cases ob<;>trivial
 exact (h.rel i ob s h1 h2).mono ev.ok ev.same ev.pre ev.shape (Ql7 h hr t ne h1 h2 hs).1 (Ql7 h hr t ne h1 h2 hs).2
end
structure Wqm (P:Program) (t kt et:TypeId):Prop where
 map:P.underlying t=some (.map kt et)
 key:P.underlying kt=some (.int .i64)
 zero:∀ w,(zeroValue et).run P w=.ok (.pointer none) w
def mpE (x:Int × Value):Value × Value:=(.int .i64 x.1,x.2)
theorem Qvh {c:Int}:∀ (l:List MapEntry) (ks:List (Int × Value)) (i:Nat),l.map (fun e=>(e.key,e.val))=ks.map mpE ->
  (ks.lookup c=none/\Instr.findNow (.int .i64) (.int .i64 c) l i=some none)\/∃ v j,ks.lookup c=some v/\Instr.findNow (.int .i64) (.int .i64 c) l i=some (some (i+j,v))
 | [],ks,i,h=>by
  have:ks=[]:=by simpa using h.symm
  subst this
  exact .inl ⟨rfl,rfl⟩
 | e :: es,[],i,h=>by simp at h
 | e :: es,(c',v) :: ks,i,h=>by
  simp only [List.map_cons,mpE,List.cons.injEq,Prod.mk.injEq] at h
  obtain ⟨⟨h1,h2⟩,h3⟩:=h
  obtain ⟨r,hr,Wjz⟩:=MapKept.sameNow_of_keys (d:=.int .i64) (a:=.int .i64 c) (b:=e.key) rfl (by rw [h1];rfl)
  rw [h1] at Wjz
  by_cases ec:c=c'
  ·subst ec
   have:r=true:=Wjz.2 rfl
   subst this
   exact .inr ⟨v,0,by simp,by simp [Instr.findNow,hr,h2]⟩
  have:r=false:=by
   cases r with
   | false=>rfl
   | true=>
    have:=Wjz.1 rfl
    injection this with _ this
    exact absurd this ec
  subst this
  have hl:((c',v) :: ks).lookup c=ks.lookup c:=by
   rw [List.lookup_cons]
   simp [beq_eq_false_iff_ne.2 ec]
  rw [hl]
  rcases Qvh es ks (i+1) h3 with ⟨k1,k2⟩ | ⟨u,j,k1,k2⟩
  ·exact .inl ⟨k1,by simp [Instr.findNow,hr,k2]⟩
  exact .inr ⟨u,j+1,k1,by simp [Instr.findNow,hr,k2];omega⟩
section
variable {P:Program} {w:World} {t kt et:TypeId} {q:Nat} {es:Array MapEntry} {clock:Nat} {ks:List (Int × Value)}
end
section
variable {X:Ctx} {f:FuncId} {k k':List Item} {Q:Frame->Frame->Qq->Prop} {st st':St} {t kt et:TypeId} {q:Nat} {ks:List (Int × Value)}
def Wp9 (st:St) (x:Operand):Option Nat:=
 match valOf st.tm x with
 | some (.d (.v (.map (some q))))=>some q
 | _=>none
def Qzf (st:St) (x:Operand):Option Int:=
 match valOf st.tm x with
 | some (.d (.v (.int .i64 c)))=>some c
 | _=>none
def Wqq (st:St) (x:Operand):Option Nat:=
 match valOf st.tm x with
 | some (.d (.v (.pointer (some ⟨a,0,none⟩))))=>some a
 | _=>none
theorem Qzg {a:Act} {C:Qq} (hC:Sim X st a C) {x:Operand} {c:Int} (h:Qzf st x=some c):a.eval x=.int .i64 c:=by
 unfold Qzf at h
 split at h
 ·rename_i q' e
  injection h with h
  subst h
  have:=hC.val _ _ e
  generalize a.eval x=v at this ⊢
  cases this with
  | d r=>cases r;rfl
 cases h
def Wqo (st:St) (k:List Item):Option (TypeId × Nat × Int × Option Tmp × List Item):=
 match Qde st k with
 | some (o,k')=>
  match o.op with
  | .lookup t x y false=>
   match Wp9 st x,Qzf st y with
   | some q,some c=>some (t,q,c,o.dst,k')
   | _,_=>none
  | _=>none
 | none=>none
def Woq (st:St) (k:List Item):Option (Option Tmp × List Item):=
 match Qde st k with
 | some (o,k')=>
  match o.op with
  | .makeMap t none=>some (o.dst,k')
  | _=>none
 | none=>none
end
end Go.Sy
