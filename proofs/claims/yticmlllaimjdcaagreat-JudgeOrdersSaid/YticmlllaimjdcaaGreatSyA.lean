/- Abstract values, rows and configurations: what of a world a walk needs to know, as plain values. -/
import Derived.Below
import Derived.Laws.AppendOwn
import Derived.Deep.Draws
import Derived.WalkKit
import Derived.AtR
set_option linter.unusedVariables false
set_option linter.unusedSimpArgs false
namespace Go.Sy
inductive DV where
 | v (x:Value)
 | agg (xs:List DV)
 | sl (t:Bool) (n:Nat) (g:Nat->List DV)
 | rop (t:Bool) (n:Nat) (g:Nat->List DV) (i off:Nat)
 | fn (f:FuncId) (caps:List DV)
 | ifc (t:TypeId) (x:DV)
inductive AV where
 | d (x:DV)
 | agg (xs:List AV)
 | Qn (xs:List AV)
 | own (id k off n:Nat)
 | ptr (id k i off:Nat)
 | win (id off n:Nat)
 | fn (f:FuncId) (caps:List AV)
 | ifc (t:TypeId) (x:AV)
structure Qmy where
 ext:World->Option Nat->List Nat
 rel:World->(Bool->Nat->Prop)->Option Nat->Prop
 Qdp:∀ {w w':World} {m:Option Nat},(∀ b,m=some b->w'.heap[b]? = w.heap[b]?)->(∀ b∈ext w m,w'.heap[b]? = w.heap[b]?)->ext w' m=ext w m
 Qg2:∀ {w w':World} {ok ok':Bool->Nat->Prop} {m:Option Nat},rel w ok m->(∀ t b,ok t b->ok' t b)->(∀ t b,ok t b->w'.heap[b]? = w.heap[b]?)->(∀ b,m=some b->w'.heap[b]? = w.heap[b]?)->(∀ b∈ext w m,w'.heap[b]? = w.heap[b]?)->rel w' ok' m
 perm:∀ {w:World} {ok okr:Bool->Nat->Prop} {m:Option Nat},(∀ b,ok true b->okr true b)->rel w ok m->rel w okr m
inductive Row where
 | flat (fz:Bool) (k:Nat) (ty:TypeId) (n:Nat) (g:Nat->List DV)
 | box (ty:TypeId) (cs:List AV)
 | mix (k:Nat) (ty:TypeId) (n:Nat) (g:Nat->List AV)
 | gone
 | loop (l:Nat) (s:LoopState) (fn:FuncId) (nt:Nat) (is:List Nat) (xs:List AV) (ps:Array Tmp) (asg body:Code)
 | dfr (D:Nat)
 | obj (o:Qmy)
def Row.ext:Row->World->Option Nat->List Nat
 | .obj o,w,m=>o.ext w m
 | _,_,_=>[]
def Row.live:Row->Bool
 | .flat fz _ _ _ _=>!fz
 | .box _ _=>true
 | .mix _ _ _ _=>true
 | .gone=>false
 | .loop ..=>true
 | .dfr _=>true
 | .obj _=>true
mutual
inductive VR (w:World) (ok:Bool->Nat->Prop):DV->Value->Prop
 | v {x:Value} (h:x.oneCell'=true):VR w ok (.v x) x
 | agg {xs:List DV} {cs:List Value} (h:VRs w ok xs cs):VR w ok (.agg xs) (.agg cs.toArray)
 | sl0 {t:Bool} {g:Nat->List DV} {A:Option Addr} {c:Nat}:VR w ok (.sl t 0 g) (.slice A 0 c)
 | sl {t:Bool} {n:Nat} {g:Nat->List DV} {b o c:Nat} (k:Nat) (vs:Nat->List Value) (h0:0 < n) (hc:n<=c) (Jp:ok t b)
   (hl:∀ i,i < n->(vs i).length=k) (hr:∀ i,i < n->VRs w ok (g i) (vs i))
   (hm:∀ i j v,i < n->(vs i)[j]? = some v->w.cell? ⟨b,o+i * k+j,none⟩=some v):VR w ok (.sl t n g) (.slice (some ⟨b,o,none⟩) n c)
 | rop {t:Bool} {n:Nat} {g:Nat->List DV} {i off b o:Nat} (k:Nat) (vs:Nat->List Value) (hi:i < n) (Jp:ok t b)
   (hl:∀ i,i < n->(vs i).length=k) (hr:∀ i,i < n->VRs w ok (g i) (vs i))
   (hm:∀ i j v,i < n->(vs i)[j]? = some v->w.cell? ⟨b,o+i * k+j,none⟩=some v):VR w ok (.rop t n g i off) (.pointer (some ⟨b,o+i * k+off,none⟩))
 | fn {f:FuncId} {xs:List DV} {cs:List Value} (h:VRs w ok xs cs):VR w ok (.fn f xs) (.func (.func f) #[] cs.toArray)
 | ifc {t:TypeId} {x:DV} {y:Value} (h:VR w ok x y):VR w ok (.ifc t x) (.iface t y)
inductive VRs (w:World) (ok:Bool->Nat->Prop):List DV->List Value->Prop
 | nil:VRs w ok [] []
 | cons {x:DV} {v:Value} {xs:List DV} {vs:List Value} (h1:v.oneCell'=true) (h:VR w ok x v) (hs:VRs w ok xs vs):VRs w ok (x :: xs) (v :: vs)
end
mutual
inductive AVR (w:World) (ok:Bool->Nat->Prop) (μ:List (Option Nat)):AV->Value->Prop
 | d {x:DV} {v:Value} (h:VR w ok x v):AVR w ok μ (.d x) v
 | agg {xs:List AV} {cs:List Value} (h:Qax w ok μ xs cs):AVR w ok μ (.agg xs) (.agg cs.toArray)
 | Qn {xs:List AV} {cs:List Value} (h:Qb1 w ok μ xs cs):AVR w ok μ (.Qn xs) (.tuple cs.toArray)
 | Qcc {id k:Nat} (h:μ[id]? = some none):AVR w ok μ (.own id k 0 0) (.slice none 0 0)
 | own {id k off n b c:Nat} {cs:Array Value} {ty:TypeId} (h:μ[id]? = some (some b)) (hh:w.heap[b]? = some (.cells cs ty (0,0))) (hs:(off+c) * k=cs.size)
   (hn:n<=c) (hc:c<=maxLen):AVR w ok μ (.own id k off n) (.slice (some ⟨b,off * k,none⟩) n c)
 | ptr {id k i off b:Nat} (h:μ[id]? = some (some b)):AVR w ok μ (.ptr id k i off) (.pointer (some ⟨b,i * k+off,none⟩))
 | win {id off n b c:Nat} (h:μ[id]? = some (some b)) (hn:n<=c) (hc:c<=maxLen):AVR w ok μ (.win id off n) (.slice (some ⟨b,off,none⟩) n c)
 | fn {f:FuncId} {xs:List AV} {cs:List Value} (h:Qax w ok μ xs cs):AVR w ok μ (.fn f xs) (.func (.func f) #[] cs.toArray)
 | ifc {t:TypeId} {x:AV} {y:Value} (h:AVR w ok μ x y):AVR w ok μ (.ifc t x) (.iface t y)
inductive Qax (w:World) (ok:Bool->Nat->Prop) (μ:List (Option Nat)):List AV->List Value->Prop
 | nil:Qax w ok μ [] []
 | cons {x:AV} {v:Value} {xs:List AV} {vs:List Value} (h1:v.oneCell'=true) (h:AVR w ok μ x v) (hs:Qax w ok μ xs vs):Qax w ok μ (x :: xs) (v :: vs)
inductive Qb1 (w:World) (ok:Bool->Nat->Prop) (μ:List (Option Nat)):List AV->List Value->Prop
 | nil:Qb1 w ok μ [] []
 | cons {x:AV} {v:Value} {xs:List AV} {vs:List Value} (h:AVR w ok μ x v) (hs:Qb1 w ok μ xs vs):Qb1 w ok μ (x :: xs) (v :: vs)
end
theorem VRs.length {w:World} {ok:Bool->Nat->Prop}:∀ {xs:List DV} {vs:List Value},VRs w ok xs vs->xs.length=vs.length
 | _,_,.nil=>rfl
 | _,_,.cons _ _ hs=>by simp [VRs.length hs]
theorem Qax.length {w:World} {ok:Bool->Nat->Prop} {μ:List (Option Nat)}:∀ {xs:List AV} {vs:List Value},Qax w ok μ xs vs->xs.length=vs.length
 | _,_,.nil=>rfl
 | _,_,.cons _ _ hs=>by simp [Qax.length hs]
theorem VRs.one {w:World} {ok:Bool->Nat->Prop}:∀ {xs:List DV} {vs:List Value},VRs w ok xs vs->∀ v∈vs,v.oneCell'=true
 | _,_,.nil=>by simp
 | _,_,.cons h1 _ hs=>by
  intro v hv
  rcases List.mem_cons.1 hv with rfl | hv
  ·exact h1
  exact VRs.one hs v hv
theorem Qax.one {w:World} {ok:Bool->Nat->Prop} {μ:List (Option Nat)}:∀ {xs:List AV} {vs:List Value},Qax w ok μ xs vs->∀ v∈vs,v.oneCell'=true
 | _,_,.nil=>by simp
 | _,_,.cons h1 _ hs=>by
  intro v hv
  rcases List.mem_cons.1 hv with rfl | hv
  ·exact h1
  exact Qax.one hs v hv
section
variable {w w':World} {ok ok':Bool->Nat->Prop}
mutual
theorem VR.mono (Jp:∀ t b,ok t b->ok' t b) (hw:∀ t b,ok t b->w'.heap[b]? = w.heap[b]?):∀ {x:DV} {v:Value},VR w ok x v->VR w' ok' x v
 | _,_,.v h=>.v h
 | _,_,.agg h=>.agg (VRs.mono Jp hw h)
 | _,_,.sl0=>.sl0
 | _,_,.sl k vs h0 hc ho hl hr hm=>.sl k vs h0 hc (Jp _ _ ho) hl (fun i hi=>VRs.mono Jp hw (hr i hi)) (fun i j v hi hj=>by rw [<- hm i j v hi hj];exact World.cell?_of_block (hw _ _ ho))
 | _,_,.rop k vs hi ho hl hr hm=>.rop k vs hi (Jp _ _ ho) hl (fun i hi=>VRs.mono Jp hw (hr i hi)) (fun i j v hi hj=>by rw [<- hm i j v hi hj];exact World.cell?_of_block (hw _ _ ho))
 | _,_,.fn h=>.fn (VRs.mono Jp hw h)
 | _,_,.ifc h=>.ifc (VR.mono Jp hw h)
theorem VRs.mono (Jp:∀ t b,ok t b->ok' t b) (hw:∀ t b,ok t b->w'.heap[b]? = w.heap[b]?):∀ {x:List DV} {v:List Value},VRs w ok x v->VRs w' ok' x v
 | _,_,.nil=>.nil
 | _,_,.cons h1 h hs=>.cons h1 (VR.mono Jp hw h) (VRs.mono Jp hw hs)
end
variable {μ μ':List (Option Nat)}
mutual
theorem AVR.mono (Jp:∀ t b,ok t b->ok' t b) (hw:∀ t b,ok t b->w'.heap[b]? = w.heap[b]?) (hμ:∀ (id:Nat) x,μ[id]? = some x->μ'[id]? = some x)
  (hs:∀ (b:Nat) cs ty,w.heap[b]? = some (.cells cs ty (0,0))->∃ cs',w'.heap[b]? = some (.cells cs' ty (0,0))/\cs'.size=cs.size):∀ {x:AV} {v:Value},AVR w ok μ x v->AVR w' ok' μ' x v
 | _,_,.d h=>.d (h.mono Jp hw)
 | _,_,.agg h=>.agg (Qax.mono Jp hw hμ hs h)
 | _,_,.Qn h=>.Qn (Qb1.mono Jp hw hμ hs h)
 | _,_,.Qcc h=>.Qcc (hμ _ _ h)
 | _,_,.own h hh h1 h2 h3=>by
  obtain ⟨cs',e1,e2⟩:=hs _ _ _ hh
  exact .own (hμ _ _ h) e1 (h1.trans e2.symm) h2 h3
 | _,_,.ptr h=>.ptr (hμ _ _ h)
 | _,_,.win h h1 h2=>.win (hμ _ _ h) h1 h2
 | _,_,.fn h=>.fn (Qax.mono Jp hw hμ hs h)
 | _,_,.ifc h=>.ifc (AVR.mono Jp hw hμ hs h)
theorem Qax.mono (Jp:∀ t b,ok t b->ok' t b) (hw:∀ t b,ok t b->w'.heap[b]? = w.heap[b]?) (hμ:∀ (id:Nat) x,μ[id]? = some x->μ'[id]? = some x)
  (hs:∀ (b:Nat) cs ty,w.heap[b]? = some (.cells cs ty (0,0))->∃ cs',w'.heap[b]? = some (.cells cs' ty (0,0))/\cs'.size=cs.size):∀ {x:List AV} {v:List Value},Qax w ok μ x v->Qax w' ok' μ' x v
 | _,_,.nil=>.nil
 | _,_,.cons h1 h hs'=>.cons h1 (AVR.mono Jp hw hμ hs h) (Qax.mono Jp hw hμ hs hs')
theorem Qb1.mono (Jp:∀ t b,ok t b->ok' t b) (hw:∀ t b,ok t b->w'.heap[b]? = w.heap[b]?) (hμ:∀ (id:Nat) x,μ[id]? = some x->μ'[id]? = some x)
  (hs:∀ (b:Nat) cs ty,w.heap[b]? = some (.cells cs ty (0,0))->∃ cs',w'.heap[b]? = some (.cells cs' ty (0,0))/\cs'.size=cs.size):∀ {x:List AV} {v:List Value},Qb1 w ok μ x v->Qb1 w' ok' μ' x v
 | _,_,.nil=>.nil
 | _,_,.cons h hs'=>.cons (AVR.mono Jp hw hμ hs h) (Qb1.mono Jp hw hμ hs hs')
end
end
structure Wt where
 μ:List (Option Nat)
 rows:List Row
 w:World
structure Ctx where
 P:Program
 w0:World
 μ0:List (Option Nat)
 okp:Nat->Prop
 ds:List Deferred:=[]
 rnd:Option Nat:=none
 /-- The other blocks of the rows that were handed over. -/
 ext0:Nat->Prop:=fun _=>False
def Ctx.Qcc (X:Ctx) (b:Nat):Prop:=some b∈X.μ0\/(X.μ0≠[]/\X.ext0 b)
def Row.hasB (r:Row) (w:World) (m:Option Nat) (b:Nat):Prop:=m=some b\/b∈r.ext w m
def Wt.live (C:Wt) (b:Nat):Prop:=∃ (id:Nat) (m:Option Nat) (r:Row),C.μ[id]? = some m/\C.rows[id]? = some r/\r.live=true/\r.hasB C.w m b
theorem Wt.Wam {C:Wt} {id b:Nat} {r:Row} (h1:C.μ[id]? = some (some b)) (h2:C.rows[id]? = some r) (h3:r.live=true):C.live b:=⟨id,some b,r,h1,h2,h3,.inl rfl⟩
theorem Row.Wij {r:Row} {w:World} {m:Option Nat} {b:Nat} (h:b∈r.ext w m):r.live=true:=by cases r<;>first | rfl | cases h
theorem Row.Qdp (r:Row) {w w':World} {m:Option Nat} (h:∀ b,m=some b->w'.heap[b]? = w.heap[b]?) (hx:∀ b∈r.ext w m,w'.heap[b]? = w.heap[b]?):r.ext w' m=r.ext w m:=by
 cases r<;>first | rfl | exact Qmy.Qdp _ h hx
def Wt.ok (X:Ctx) (C:Wt) (t:Bool) (b:Nat):Prop:=b < C.w.heap.size/\¬ C.live b/\(t=true->X.okp b\/X.Qcc b\/X.w0.heap.size<=b)
def Qcz (w:World) (ok:Bool->Nat->Prop) (μ:List (Option Nat)):Option Nat->Row->Prop
 | _,.gone=>True
 | some b,.loop l s fn nt is xs ps asg body=>b=l/\∃ (T:Array Value) (D:Nat) (vs:List Value),w.heap[b]? = some (.loop { state:=s,pending:=none,fn:=fn,tmps:=T,params:=ps,assign:=asg,body:=body,defers:=D })/\T.size=nt /\
   Qb1 w ok μ xs vs/\∀ (j i:Nat) v,is[j]? = some i->vs[j]? = some v->T[i]? = some v
 | none,.loop ..=>False
 | some b,.dfr D=>b=D/\w.heap[b]? = some (.deferred (some []))
 | none,.dfr _=>False
 | ob,.obj o=>o.rel w ok ob
 | none,.flat _ _ _ n _=>n=0
 | none,.mix _ _ n _=>n=0
 | none,.box _ _=>False
 | some b,.flat _ k ty n g=>∃ cs,∃ vs:Nat->List Value,w.heap[b]? = some (.cells cs ty (0,0))/\n * k<=cs.size/\(∀ i,i < n->(vs i).length=k)/\(∀ i,i < n->VRs w ok (g i) (vs i)) /\
   ∀ i j v,i < n->(vs i)[j]? = some v->cs[i * k+j]? = some v
 | some b,.mix k ty n g=>∃ cs,∃ vs:Nat->List Value,w.heap[b]? = some (.cells cs ty (0,0))/\n * k<=cs.size/\(∀ i,i < n->(vs i).length=k)/\(∀ i,i < n->Qax w ok μ (g i) (vs i)) /\
   ∀ i j v,i < n->(vs i)[j]? = some v->cs[i * k+j]? = some v
 | some b,.box ty as=>∃ vs,w.heap[b]? = some (.cells vs.toArray ty (0,0))/\Qax w ok μ as vs
theorem Qcz.mono {w w':World} {ok ok':Bool->Nat->Prop} {μ μ':List (Option Nat)} {ob:Option Nat} {r:Row} (h:Qcz w ok μ ob r)
  (Jp:∀ t b,ok t b->ok' t b) (hw:∀ t b,ok t b->w'.heap[b]? = w.heap[b]?) (hμ:∀ (id:Nat) x,μ[id]? = some x->μ'[id]? = some x)
  (hs:∀ (b:Nat) cs ty,w.heap[b]? = some (.cells cs ty (0,0))->∃ cs',w'.heap[b]? = some (.cells cs' ty (0,0))/\cs'.size=cs.size)
  (hb:∀ b,ob=some b->w'.heap[b]? = w.heap[b]?) (hx:∀ c∈r.ext w ob,w'.heap[c]? = w.heap[c]?):Qcz w' ok' μ' ob r:=by
 cases ob with
 | none=>cases r<;>first | exact h | exact Qmy.Qg2 _ h Jp hw hb hx
 | some b=>
  have e:=hb b rfl
  cases r with
  | gone=>trivial
  | loop l s fn nt is xs ps asg body=>
   obtain ⟨h0,T,D,vs,h1,h2,h3,h4⟩:=h
   exact ⟨h0,T,D,vs,e.trans h1,h2,h3.mono Jp hw hμ hs,h4⟩
  | dfr D=>exact ⟨h.1,e.trans h.2⟩
  | obj o=>exact o.Qg2 h Jp hw hb hx
  | flat fz k ty n g=>
   obtain ⟨cs,vs,h1,h2,h3,h4,h5⟩:=h
   exact ⟨cs,vs,e.trans h1,h2,h3,fun i hi=>(h4 i hi).mono Jp hw,h5⟩
  | mix k ty n g=>
   obtain ⟨cs,vs,h1,h2,h3,h4,h5⟩:=h
   exact ⟨cs,vs,e.trans h1,h2,h3,fun i hi=>(h4 i hi).mono Jp hw hμ hs,h5⟩
  | box ty as=>
   obtain ⟨vs,h1,h2⟩:=h
   exact ⟨vs,e.trans h1,h2.mono Jp hw hμ hs⟩
structure Yd (X:Ctx) (C:Wt):Prop where
 len:C.μ.length=C.rows.length
 os:C.w.os=X.w0.os
 tape:C.w.tape=X.w0.tape
 output:C.w.output=X.w0.output/\X.w0.drawn<=C.w.drawn
 size:X.w0.heap.size<=C.w.heap.size
 keep:∀ b,b < X.w0.heap.size->¬ X.Qcc b->C.w.heap[b]? = X.w0.heap[b]?
 shape:∀ (b:Nat) cs ty,X.w0.heap[b]? = some (.cells cs ty (0,0))->∃ cs',C.w.heap[b]? = some (.cells cs' ty (0,0))/\cs'.size=cs.size
 first:∀ (id:Nat) x,X.μ0[id]? = some x->C.μ[id]? = some x
 place:∀ (id:Nat) b,C.μ[id]? = some (some b)->(X.Qcc b\/X.w0.heap.size<=b)/\b < C.w.heap.size
 apart:∀ (i j b:Nat) (r s:Row),C.μ[i]? = some (some b)->C.μ[j]? = some (some b)->C.rows[i]? = some r->C.rows[j]? = some s->r.live=true->s≠.gone->i=j
 Qco:∀ (id:Nat) (m:Option Nat) (b:Nat) (r:Row),C.μ[id]? = some m->C.rows[id]? = some r->b∈r.ext C.w m->(X.Qcc b\/X.w0.heap.size<=b)/\b < C.w.heap.size
 Qbt:∀ (i j:Nat) (m n:Option Nat) (b:Nat) (r s:Row),C.μ[i]? = some m->C.μ[j]? = some n->C.rows[i]? = some r->C.rows[j]? = some s->b∈r.ext C.w m->s≠.gone->n≠some b/\(b∈s.ext C.w n->i=j)
 rel:∀ (id:Nat) (ob:Option Nat) (r:Row),C.μ[id]? = some ob->C.rows[id]? = some r->Qcz C.w (C.ok X) C.μ ob r
structure Ev (X:Ctx) (C C':Wt):Prop where
 size:C.w.heap.size<=C'.w.heap.size
 keep:∀ b,b < C.w.heap.size->¬ C.live b->C'.w.heap[b]? = C.w.heap[b]?
 dead:∀ b,b < C.w.heap.size->¬ C.live b->¬ C'.live b
 shape:∀ (b:Nat) cs ty,C.w.heap[b]? = some (.cells cs ty (0,0))->∃ cs',C'.w.heap[b]? = some (.cells cs' ty (0,0))/\cs'.size=cs.size
 pre:∀ (id:Nat) x,C.μ[id]? = some x->C'.μ[id]? = some x
theorem Ev.refl (X:Ctx) (C:Wt):Ev X C C:=⟨Nat.le_refl _,fun _ _ _=>rfl,fun _ _ h=>h,fun _ _ _ h=>⟨_,h,rfl⟩,fun _ _ h=>h⟩
theorem Ev.trans {X:Ctx} {A B C:Wt} (h:Ev X A B) (k:Ev X B C):Ev X A C:=
 ⟨Nat.le_trans h.size k.size,fun b hb hl=>(k.keep b (Nat.lt_of_lt_of_le hb h.size) (h.dead b hb hl)).trans (h.keep b hb hl),
  fun b hb hl=>k.dead b (Nat.lt_of_lt_of_le hb h.size) (h.dead b hb hl),
  fun b cs ty hc=>by
   obtain ⟨cs',e1,e2⟩:=h.shape b cs ty hc
   obtain ⟨cs2,e3,e4⟩:=k.shape b cs' ty e1
   exact ⟨cs2,e3,e4.trans e2⟩,
  fun id x hx=>k.pre id x (h.pre id x hx)⟩
theorem Ev.ok {X:Ctx} {C C':Wt} (h:Ev X C C'):∀ t b,C.ok X t b->C'.ok X t b:=fun t b ⟨h1,h2,h3⟩=>⟨Nat.lt_of_lt_of_le h1 h.size,h.dead b h1 h2,h3⟩
theorem Ev.same {X:Ctx} {C C':Wt} (h:Ev X C C'):∀ t b,C.ok X t b->C'.w.heap[b]? = C.w.heap[b]?:=fun _ b ⟨h1,h2,_⟩=>h.keep b h1 h2
theorem Ev.avr {X:Ctx} {C C':Wt} (h:Ev X C C') {x:AV} {v:Value} (k:AVR C.w (C.ok X) C.μ x v):AVR C'.w (C'.ok X) C'.μ x v:=k.mono h.ok h.same h.pre h.shape
theorem Ev.Wmv {X:Ctx} {C C':Wt} (h:Ev X C C') {x:List AV} {v:List Value} (k:Qax C.w (C.ok X) C.μ x v):Qax C'.w (C'.ok X) C'.μ x v:=k.mono h.ok h.same h.pre h.shape
structure St where
 nt:Nat
 tm:List (Nat × AV)
 rows:List Row
theorem Yd.Qq8 {X:Ctx} {C:Wt} (h:Yd X C) {id b:Nat} {m:Option Nat} {r:Row} (h1:C.μ[id]? = some m) (h2:C.rows[id]? = some r) (hb:r.hasB C.w m b):(X.Qcc b\/X.w0.heap.size<=b)/\b < C.w.heap.size:=by
 rcases hb with rfl | hb
 ·exact h.place id _ h1
 exact h.Qco id m b r h1 h2 hb
theorem Yd.Qit {X:Ctx} {C:Wt} (h:Yd X C) {i j b:Nat} {m n:Option Nat} {r s:Row} (h1:C.μ[i]? = some m) (h2:C.μ[j]? = some n) (h3:C.rows[i]? = some r) (h4:C.rows[j]? = some s)
  (hl:r.live=true) (hg:s≠.gone) (hr:r.hasB C.w m b) (hs:s.hasB C.w n b):i=j:=by
 rcases hr with rfl | hr<;>rcases hs with rfl | hs
 ·exact h.apart i j _ r s h1 h2 h3 h4 hl hg
 ·exact absurd rfl (h.Qbt j i n (some b) b s r h2 h1 h4 h3 hs (by rintro rfl;cases hl)).1
 ·exact absurd rfl (h.Qbt i j m (some b) b r s h1 h2 h3 h4 hr hg).1
 exact (h.Qbt i j m n b r s h1 h2 h3 h4 hr hg).2 hs
structure Sim (X:Ctx) (st:St) (a:Act) (C:Wt):Prop where
 rel:Yd X C
 rows:C.rows=st.rows
 defers:a.defers=X.ds
 nt:a.tmps.size=st.nt
 tm:∀ i av,st.tm.lookup i=some av->∃ v,a.tmps[i]? = some v/\AVR C.w (C.ok X) C.μ av v
def AK (X:Ctx) (f:FuncId) (k:List Item) (Q:Frame->Frame->Wt->Prop) (st:St):Prop:=
 ∀ (a:Act) (C:Wt),Sim X st a C->∀ (b:Frame) (cs:List Frame),b.fn=f->(b.kind=.normal/\b.roundOf=X.rnd) ->
  ∃ C' fr,Q b fr C'/\Steps X.P (lone (b.atR a k) cs C.w) (lone fr cs C'.w)/\fr.fn=f
end Go.Sy
