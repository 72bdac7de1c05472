/- Abstract values, rows and configurations: what of a world a walk needs to know, as plain values. -/
import Derived.Below
import Derived.Laws.AppendOwn
import Derived.Deep.Draws
import Derived.WalkKit
import Derived.AtR
set_option linter.unusedVariables false
set_option linter.unusedSimpArgs false
namespace Go.Sy
inductive DV where
 | v (x:Value)
 | agg (xs:List DV)
 | sl (t:Bool) (n:Nat) (g:Nat->List DV)
 | rop (t:Bool) (n:Nat) (g:Nat->List DV) (i off:Nat)
 | fn (f:FuncId) (caps:List DV)
 | ifc (t:TypeId) (x:DV)
inductive AV where
 | d (x:DV)
 | agg (xs:List AV)
 | Ql (xs:List AV)
 | own (id k off n:Nat)
 | ptr (id k i off:Nat)
 | win (id off n:Nat)
 | mp (id:Nat)
 | fn (f:FuncId) (caps:List AV)
 | ifc (t:TypeId) (x:AV)
 /-- A method that is bound. -/
 | bm (f:FuncId) (x:AV)
structure Qls where
 ext:World->Option Nat->List Nat
 rel:World->(Bool->Nat->Prop)->Option Nat->Prop
 Qc3:∀ {w w':World} {m:Option Nat},(∀ b,m=some b->w'.heap[b]? = w.heap[b]?)->(∀ b∈ext w m,w'.heap[b]? = w.heap[b]?)->ext w' m=ext w m
 Qgv:∀ {w w':World} {ok ok':Bool->Nat->Prop} {m:Option Nat},rel w ok m->(∀ t b,ok t b->ok' t b)->(∀ t b,ok t b->w'.heap[b]? = w.heap[b]?)->(∀ b,m=some b->w'.heap[b]? = w.heap[b]?)->(∀ b∈ext w m,w'.heap[b]? = w.heap[b]?)->rel w' ok' m
 perm:∀ {w:World} {ok okr:Bool->Nat->Prop} {m:Option Nat},(∀ b,ok true b->okr true b)->rel w ok m->rel w okr m
inductive Row where
 | flat (fz:Bool) (k:Nat) (ty:TypeId) (n:Nat) (g:Nat->List DV)
 | box (ty:TypeId) (cs:List AV)
 | mix (k:Nat) (ty:TypeId) (n:Nat) (g:Nat->List AV)
 | gone
 | loop (l:Nat) (s:LoopState) (fn:FuncId) (nt:Nat) (is:List Nat) (xs:List AV) (ps:Array Tmp) (asg body:Code)
 | dfr (D:Nat)
 /-- A map: its entries and its clock. -/
 | mp (es:List MapEntry) (clock:Nat)
 /-- An iterator over a map. -/
 | it (id since:Nat) (seen:List Nat) (last:Nat)
 | obj (o:Qls)
def Row.ext:Row->World->Option Nat->List Nat
 | .obj o,w,m=>o.ext w m
 | _,_,_=>[]
def Row.live:Row->Bool
 | .flat fz _ _ _ _=>!fz
 | .box _ _=>true
 | .mix _ _ _ _=>true
 | .gone=>false
 | .loop ..=>true
 | .dfr _=>true
 | .mp _ _=>true
 | .it ..=>true
 | .obj _=>true
mutual
inductive VR (w:World) (ok:Bool->Nat->Prop):DV->Value->Prop
 | v {x:Value} (h:x.oneCell'=true):VR w ok (.v x) x
 | agg {xs:List DV} {cs:List Value} (h:VRs w ok xs cs):VR w ok (.agg xs) (.agg cs.toArray)
 | sl0 {t:Bool} {g:Nat->List DV} {A:Option Addr} {c:Nat}:VR w ok (.sl t 0 g) (.slice A 0 c)
 | sl {t:Bool} {n:Nat} {g:Nat->List DV} {b o c:Nat} (k:Nat) (vs:Nat->List Value) (h0:0 < n) (hc:n<=c) (Jj:ok t b)
   (hl:∀ i,i < n->(vs i).length=k) (hr:∀ i,i < n->VRs w ok (g i) (vs i))
   (hm:∀ i j v,i < n->(vs i)[j]? = some v->w.cell? ⟨b,o+i * k+j,none⟩=some v):VR w ok (.sl t n g) (.slice (some ⟨b,o,none⟩) n c)
 | rop {t:Bool} {n:Nat} {g:Nat->List DV} {i off b o:Nat} (k:Nat) (vs:Nat->List Value) (hi:i < n) (Jj:ok t b)
   (hl:∀ i,i < n->(vs i).length=k) (hr:∀ i,i < n->VRs w ok (g i) (vs i))
   (hm:∀ i j v,i < n->(vs i)[j]? = some v->w.cell? ⟨b,o+i * k+j,none⟩=some v):VR w ok (.rop t n g i off) (.pointer (some ⟨b,o+i * k+off,none⟩))
 | fn {f:FuncId} {xs:List DV} {cs:List Value} (h:VRs w ok xs cs):VR w ok (.fn f xs) (.func (.func f) #[] cs.toArray)
 | ifc {t:TypeId} {x:DV} {y:Value} (h:VR w ok x y):VR w ok (.ifc t x) (.iface t y)
inductive VRs (w:World) (ok:Bool->Nat->Prop):List DV->List Value->Prop
 | nil:VRs w ok [] []
 | cons {x:DV} {v:Value} {xs:List DV} {vs:List Value} (h1:v.oneCell'=true) (h:VR w ok x v) (hs:VRs w ok xs vs):VRs w ok (x :: xs) (v :: vs)
end
mutual
inductive Zj (w:World) (ok:Bool->Nat->Prop) (μ:List (Option Nat)):AV->Value->Prop
 | d {x:DV} {v:Value} (h:VR w ok x v):Zj w ok μ (.d x) v
 | agg {xs:List AV} {cs:List Value} (h:Jm w ok μ xs cs):Zj w ok μ (.agg xs) (.agg cs.toArray)
 | Ql {xs:List AV} {cs:List Value} (h:Qaw w ok μ xs cs):Zj w ok μ (.Ql xs) (.tuple cs.toArray)
 | Qbj {id k:Nat} (h:μ[id]? = some none):Zj w ok μ (.own id k 0 0) (.slice none 0 0)
 | own {id k off n b c:Nat} {cs:Array Value} {ty:TypeId} (h:μ[id]? = some (some b)) (hh:w.heap[b]? = some (.cells cs ty (0,0))) (hs:(off+c) * k=cs.size)
   (hn:n<=c) (hc:c<=maxLen):Zj w ok μ (.own id k off n) (.slice (some ⟨b,off * k,none⟩) n c)
 | ptr {id k i off b:Nat} (h:μ[id]? = some (some b)):Zj w ok μ (.ptr id k i off) (.pointer (some ⟨b,i * k+off,none⟩))
 | win {id off n b c:Nat} (h:μ[id]? = some (some b)) (hn:n<=c) (hc:c<=maxLen):Zj w ok μ (.win id off n) (.slice (some ⟨b,off,none⟩) n c)
 | mp {id b:Nat} (h:μ[id]? = some (some b)):Zj w ok μ (.mp id) (.map (some b))
 | fn {f:FuncId} {xs:List AV} {cs:List Value} (h:Jm w ok μ xs cs):Zj w ok μ (.fn f xs) (.func (.func f) #[] cs.toArray)
 | ifc {t:TypeId} {x:AV} {y:Value} (h:Zj w ok μ x y):Zj w ok μ (.ifc t x) (.iface t y)
 | bm {f:FuncId} {x:AV} {y:Value} (h:Zj w ok μ x y):Zj w ok μ (.bm f x) (.func (.func f) #[y] #[])
inductive Jm (w:World) (ok:Bool->Nat->Prop) (μ:List (Option Nat)):List AV->List Value->Prop
 | nil:Jm w ok μ [] []
 | cons {x:AV} {v:Value} {xs:List AV} {vs:List Value} (h1:v.oneCell'=true) (h:Zj w ok μ x v) (hs:Jm w ok μ xs vs):Jm w ok μ (x :: xs) (v :: vs)
inductive Qaw (w:World) (ok:Bool->Nat->Prop) (μ:List (Option Nat)):List AV->List Value->Prop
 | nil:Qaw w ok μ [] []
 | cons {x:AV} {v:Value} {xs:List AV} {vs:List Value} (h:Zj w ok μ x v) (hs:Qaw w ok μ xs vs):Qaw w ok μ (x :: xs) (v :: vs)
end
theorem VRs.length {w:World} {ok:Bool->Nat->Prop}:∀ {xs:List DV} {vs:List Value},VRs w ok xs vs->xs.length=vs.length
 | _,_,.nil=>rfl
 | _,_,.cons _ _ hs=>by simp [VRs.length hs]
theorem Jm.length {w:World} {ok:Bool->Nat->Prop} {μ:List (Option Nat)}:∀ {xs:List AV} {vs:List Value},Jm w ok μ xs vs->xs.length=vs.length
 | _,_,.nil=>rfl
 | _,_,.cons _ _ hs=>by simp [Jm.length hs]
theorem VRs.one {w:World} {ok:Bool->Nat->Prop}:∀ {xs:List DV} {vs:List Value},VRs w ok xs vs->∀ v∈vs,v.oneCell'=true
 | _,_,.nil=>by simp
 | _,_,.cons h1 _ hs=>by
  intro v hv
  rcases List.mem_cons.1 hv with rfl | hv
  ·exact h1
  exact VRs.one hs v hv
theorem Jm.one {w:World} {ok:Bool->Nat->Prop} {μ:List (Option Nat)}:∀ {xs:List AV} {vs:List Value},Jm w ok μ xs vs->∀ v∈vs,v.oneCell'=true
 | _,_,.nil=>by simp
 | _,_,.cons h1 _ hs=>by
  intro v hv
  rcases List.mem_cons.1 hv with rfl | hv
  ·exact h1
  exact Jm.one hs v hv
section
variable {w w':World} {ok ok':Bool->Nat->Prop}
mutual
theorem VR.mono (Jj:∀ t b,ok t b->ok' t b) (hw:∀ t b,ok t b->w'.heap[b]? = w.heap[b]?):∀ {x:DV} {v:Value},VR w ok x v->VR w' ok' x v
 | _,_,.v h=>.v h
 | _,_,.agg h=>.agg (VRs.mono Jj hw h)
 | _,_,.sl0=>.sl0
 | _,_,.sl k vs h0 hc ho hl hr hm=>.sl k vs h0 hc (Jj _ _ ho) hl (fun i hi=>VRs.mono Jj hw (hr i hi)) (fun i j v hi hj=>by rw [<- hm i j v hi hj];exact World.cell?_of_block (hw _ _ ho))
 | _,_,.rop k vs hi ho hl hr hm=>.rop k vs hi (Jj _ _ ho) hl (fun i hi=>VRs.mono Jj hw (hr i hi)) (fun i j v hi hj=>by rw [<- hm i j v hi hj];exact World.cell?_of_block (hw _ _ ho))
 | _,_,.fn h=>.fn (VRs.mono Jj hw h)
 | _,_,.ifc h=>.ifc (VR.mono Jj hw h)
theorem VRs.mono (Jj:∀ t b,ok t b->ok' t b) (hw:∀ t b,ok t b->w'.heap[b]? = w.heap[b]?):∀ {x:List DV} {v:List Value},VRs w ok x v->VRs w' ok' x v
 | _,_,.nil=>.nil
 | _,_,.cons h1 h hs=>.cons h1 (VR.mono Jj hw h) (VRs.mono Jj hw hs)
end
variable {μ μ':List (Option Nat)}
mutual
theorem Zj.mono (Jj:∀ t b,ok t b->ok' t b) (hw:∀ t b,ok t b->w'.heap[b]? = w.heap[b]?) (hμ:∀ (id:Nat) x,μ[id]? = some x->μ'[id]? = some x)
  (hs:∀ (b:Nat) cs ty,w.heap[b]? = some (.cells cs ty (0,0))->∃ cs',w'.heap[b]? = some (.cells cs' ty (0,0))/\cs'.size=cs.size):∀ {x:AV} {v:Value},Zj w ok μ x v->Zj w' ok' μ' x v
 | _,_,.d h=>.d (h.mono Jj hw)
 | _,_,.agg h=>.agg (Jm.mono Jj hw hμ hs h)
 | _,_,.Ql h=>.Ql (Qaw.mono Jj hw hμ hs h)
 | _,_,.Qbj h=>.Qbj (hμ _ _ h)
 | _,_,.own h hh h1 h2 h3=>by
  obtain ⟨cs',e1,e2⟩:=hs _ _ _ hh
  exact .own (hμ _ _ h) e1 (h1.trans e2.symm) h2 h3
 | _,_,.ptr h=>.ptr (hμ _ _ h)
 | _,_,.win h h1 h2=>.win (hμ _ _ h) h1 h2
 | _,_,.mp h=>.mp (hμ _ _ h)
 | _,_,.fn h=>.fn (Jm.mono Jj hw hμ hs h)
 | _,_,.ifc h=>.ifc (Zj.mono Jj hw hμ hs h)
 | _,_,.bm h=>.bm (Zj.mono Jj hw hμ hs h)
theorem Jm.mono (Jj:∀ t b,ok t b->ok' t b) (hw:∀ t b,ok t b->w'.heap[b]? = w.heap[b]?) (hμ:∀ (id:Nat) x,μ[id]? = some x->μ'[id]? = some x)
  (hs:∀ (b:Nat) cs ty,w.heap[b]? = some (.cells cs ty (0,0))->∃ cs',w'.heap[b]? = some (.cells cs' ty (0,0))/\cs'.size=cs.size):∀ {x:List AV} {v:List Value},Jm w ok μ x v->Jm w' ok' μ' x v
 | _,_,.nil=>.nil
 | _,_,.cons h1 h hs'=>.cons h1 (Zj.mono Jj hw hμ hs h) (Jm.mono Jj hw hμ hs hs')
theorem Qaw.mono (Jj:∀ t b,ok t b->ok' t b) (hw:∀ t b,ok t b->w'.heap[b]? = w.heap[b]?) (hμ:∀ (id:Nat) x,μ[id]? = some x->μ'[id]? = some x)
  (hs:∀ (b:Nat) cs ty,w.heap[b]? = some (.cells cs ty (0,0))->∃ cs',w'.heap[b]? = some (.cells cs' ty (0,0))/\cs'.size=cs.size):∀ {x:List AV} {v:List Value},Qaw w ok μ x v->Qaw w' ok' μ' x v
 | _,_,.nil=>.nil
 | _,_,.cons h hs'=>.cons (Zj.mono Jj hw hμ hs h) (Qaw.mono Jj hw hμ hs hs')
end
end
structure Qq where
 μ:List (Option Nat)
 rows:List Row
 w:World
structure Ctx where
 P:Program
 w0:World
 μ0:List (Option Nat)
 okp:Nat->Prop
 ds:List Deferred:=[]
 rnd:Option Nat:=none
 /-- The other blocks of the rows that were handed over. -/
 Qkw:Nat->Prop:=fun _=>False
def Ctx.Qbj (X:Ctx) (b:Nat):Prop:=some b∈X.μ0\/(X.μ0≠[]/\X.Qkw b)
def Row.hasB (r:Row) (w:World) (m:Option Nat) (b:Nat):Prop:=m=some b\/b∈r.ext w m
def Qq.live (C:Qq) (b:Nat):Prop:=∃ (id:Nat) (m:Option Nat) (r:Row),C.μ[id]? = some m/\C.rows[id]? = some r/\r.live=true/\r.hasB C.w m b
theorem Qq.Qrr {C:Qq} {id b:Nat} {r:Row} (h1:C.μ[id]? = some (some b)) (h2:C.rows[id]? = some r) (h3:r.live=true):C.live b:=⟨id,some b,r,h1,h2,h3,.inl rfl⟩
theorem Row.Qyo {r:Row} {w:World} {m:Option Nat} {b:Nat} (h:b∈r.ext w m):r.live=true:=by cases r<;>first | rfl | cases h
theorem Row.Qc3 (r:Row) {w w':World} {m:Option Nat} (h:∀ b,m=some b->w'.heap[b]? = w.heap[b]?) (hx:∀ b∈r.ext w m,w'.heap[b]? = w.heap[b]?):r.ext w' m=r.ext w m:=by
 cases r<;>first | rfl | exact Qls.Qc3 _ h hx
def Qq.ok (X:Ctx) (C:Qq) (t:Bool) (b:Nat):Prop:=b < C.w.heap.size/\¬ C.live b/\(t=true->X.okp b\/X.Qbj b\/X.w0.heap.size<=b)
def Qbg (w:World) (ok:Bool->Nat->Prop) (μ:List (Option Nat)):Option Nat->Row->Prop
 | _,.gone=>True
 | some b,.loop l s fn nt is xs ps asg body=>b=l/\∃ (T:Array Value) (D:Nat) (vs:List Value),w.heap[b]? = some (.loop { state:=s,pending:=none,fn:=fn,tmps:=T,params:=ps,assign:=asg,body:=body,defers:=D })/\T.size=nt /\
   Qaw w ok μ xs vs/\∀ (j i:Nat) v,is[j]? = some i->vs[j]? = some v->T[i]? = some v
 | none,.loop ..=>False
 | some b,.dfr D=>b=D/\w.heap[b]? = some (.deferred (some []))
 | none,.dfr _=>False
 | some b,.mp es clock=>w.heap[b]? = some (.map es.toArray clock)
 | none,.mp _ _=>False
 | some b,.it id since seen last=>∃ m,μ[id]? = some (some m)/\w.heap[b]? = some (.mapIter (some m) since seen.toArray last)
 | none,.it ..=>False
 | ob,.obj o=>o.rel w ok ob
 | none,.flat _ _ _ n _=>n=0
 | none,.mix _ _ n _=>n=0
 | none,.box _ _=>False
 | some b,.flat _ k ty n g=>∃ cs,∃ vs:Nat->List Value,w.heap[b]? = some (.cells cs ty (0,0))/\n * k<=cs.size/\(∀ i,i < n->(vs i).length=k)/\(∀ i,i < n->VRs w ok (g i) (vs i)) /\
   ∀ i j v,i < n->(vs i)[j]? = some v->cs[i * k+j]? = some v
 | some b,.mix k ty n g=>∃ cs,∃ vs:Nat->List Value,w.heap[b]? = some (.cells cs ty (0,0))/\n * k<=cs.size/\(∀ i,i < n->(vs i).length=k)/\(∀ i,i < n->Jm w ok μ (g i) (vs i)) /\
   ∀ i j v,i < n->(vs i)[j]? = some v->cs[i * k+j]? = some v
 | some b,.box ty as=>∃ vs,w.heap[b]? = some (.cells vs.toArray ty (0,0))/\Jm w ok μ as vs
theorem Qbg.mono {w w':World} {ok ok':Bool->Nat->Prop} {μ μ':List (Option Nat)} {ob:Option Nat} {r:Row} (h:Qbg w ok μ ob r)
  (Jj:∀ t b,ok t b->ok' t b) (hw:∀ t b,ok t b->w'.heap[b]? = w.heap[b]?) (hμ:∀ (id:Nat) x,μ[id]? = some x->μ'[id]? = some x)
  (hs:∀ (b:Nat) cs ty,w.heap[b]? = some (.cells cs ty (0,0))->∃ cs',w'.heap[b]? = some (.cells cs' ty (0,0))/\cs'.size=cs.size)
  (hb:∀ b,ob=some b->w'.heap[b]? = w.heap[b]?) (hx:∀ c∈r.ext w ob,w'.heap[c]? = w.heap[c]?):Qbg w' ok' μ' ob r:=by
 cases ob with
 | none=>cases r<;>first | exact h | exact Qls.Qgv _ h Jj hw hb hx
 | some b=>
  have e:=hb b rfl
  cases r with
  | gone=>trivial
  | loop l s fn nt is xs ps asg body=>
   obtain ⟨h0,T,D,vs,h1,h2,h3,h4⟩:=h
   exact ⟨h0,T,D,vs,e.trans h1,h2,h3.mono Jj hw hμ hs,h4⟩
  | dfr D=>exact ⟨h.1,e.trans h.2⟩
  | mp es clock=>exact e.trans h
  | it id since seen last=>exact let ⟨m,h1,h2⟩:=h;⟨m,hμ _ _ h1,e.trans h2⟩
  | obj o=>exact o.Qgv h Jj hw hb hx
  | flat fz k ty n g=>
   obtain ⟨cs,vs,h1,h2,h3,h4,h5⟩:=h
   exact ⟨cs,vs,e.trans h1,h2,h3,fun i hi=>(h4 i hi).mono Jj hw,h5⟩
  | mix k ty n g=>
   obtain ⟨cs,vs,h1,h2,h3,h4,h5⟩:=h
   exact ⟨cs,vs,e.trans h1,h2,h3,fun i hi=>(h4 i hi).mono Jj hw hμ hs,h5⟩
  | box ty as=>
   obtain ⟨vs,h1,h2⟩:=h
   exact ⟨vs,e.trans h1,h2.mono Jj hw hμ hs⟩
structure Wt (X:Ctx) (C:Qq):Prop where
 len:C.μ.length=C.rows.length
 os:C.w.os=X.w0.os
 tape:C.w.tape=X.w0.tape
 output:C.w.output=X.w0.output/\X.w0.drawn<=C.w.drawn
 size:X.w0.heap.size<=C.w.heap.size
 keep:∀ b,b < X.w0.heap.size->¬ X.Qbj b->C.w.heap[b]? = X.w0.heap[b]?
 shape:∀ (b:Nat) cs ty,X.w0.heap[b]? = some (.cells cs ty (0,0))->∃ cs',C.w.heap[b]? = some (.cells cs' ty (0,0))/\cs'.size=cs.size
 first:∀ (id:Nat) x,X.μ0[id]? = some x->C.μ[id]? = some x
 place:∀ (id:Nat) b,C.μ[id]? = some (some b)->(X.Qbj b\/X.w0.heap.size<=b)/\b < C.w.heap.size
 apart:∀ (i j b:Nat) (r s:Row),C.μ[i]? = some (some b)->C.μ[j]? = some (some b)->C.rows[i]? = some r->C.rows[j]? = some s->r.live=true->s≠.gone->i=j
 Qb4:∀ (id:Nat) (m:Option Nat) (b:Nat) (r:Row),C.μ[id]? = some m->C.rows[id]? = some r->b∈r.ext C.w m->(X.Qbj b\/X.w0.heap.size<=b)/\b < C.w.heap.size
 Qb7:∀ (i j:Nat) (m n:Option Nat) (b:Nat) (r s:Row),C.μ[i]? = some m->C.μ[j]? = some n->C.rows[i]? = some r->C.rows[j]? = some s->b∈r.ext C.w m->s≠.gone->n≠some b/\(b∈s.ext C.w n->i=j)
 rel:∀ (id:Nat) (ob:Option Nat) (r:Row),C.μ[id]? = some ob->C.rows[id]? = some r->Qbg C.w (C.ok X) C.μ ob r
structure Ev (X:Ctx) (C C':Qq):Prop where
 size:C.w.heap.size<=C'.w.heap.size
 keep:∀ b,b < C.w.heap.size->¬ C.live b->C'.w.heap[b]? = C.w.heap[b]?
 dead:∀ b,b < C.w.heap.size->¬ C.live b->¬ C'.live b
 shape:∀ (b:Nat) cs ty,C.w.heap[b]? = some (.cells cs ty (0,0))->∃ cs',C'.w.heap[b]? = some (.cells cs' ty (0,0))/\cs'.size=cs.size
 pre:∀ (id:Nat) x,C.μ[id]? = some x->C'.μ[id]? = some x
theorem Ev.refl (X:Ctx) (C:Qq):Ev X C C:=⟨Nat.le_refl _,fun _ _ _=>rfl,fun _ _ h=>h,fun _ _ _ h=>⟨_,h,rfl⟩,fun _ _ h=>h⟩
theorem Ev.trans {X:Ctx} {A B C:Qq} (h:Ev X A B) (k:Ev X B C):Ev X A C:=
 ⟨Nat.le_trans h.size k.size,fun b hb hl=>(k.keep b (Nat.lt_of_lt_of_le hb h.size) (h.dead b hb hl)).trans (h.keep b hb hl),
  fun b hb hl=>k.dead b (Nat.lt_of_lt_of_le hb h.size) (h.dead b hb hl),
  fun b cs ty hc=>by
   obtain ⟨cs',e1,e2⟩:=h.shape b cs ty hc
   obtain ⟨cs2,e3,e4⟩:=k.shape b cs' ty e1
   exact ⟨cs2,e3,e4.trans e2⟩,
  fun id x hx=>k.pre id x (h.pre id x hx)⟩
theorem Ev.ok {X:Ctx} {C C':Qq} (h:Ev X C C'):∀ t b,C.ok X t b->C'.ok X t b:=fun t b ⟨h1,h2,h3⟩=>⟨Nat.lt_of_lt_of_le h1 h.size,h.dead b h1 h2,h3⟩
theorem Ev.same {X:Ctx} {C C':Qq} (h:Ev X C C'):∀ t b,C.ok X t b->C'.w.heap[b]? = C.w.heap[b]?:=fun _ b ⟨h1,h2,_⟩=>h.keep b h1 h2
theorem Ev.avr {X:Ctx} {C C':Qq} (h:Ev X C C') {x:AV} {v:Value} (k:Zj C.w (C.ok X) C.μ x v):Zj C'.w (C'.ok X) C'.μ x v:=k.mono h.ok h.same h.pre h.shape
theorem Ev.Wp3 {X:Ctx} {C C':Qq} (h:Ev X C C') {x:List AV} {v:List Value} (k:Jm C.w (C.ok X) C.μ x v):Jm C'.w (C'.ok X) C'.μ x v:=k.mono h.ok h.same h.pre h.shape
structure St where
 nt:Nat
 tm:List (Nat × AV)
 rows:List Row
theorem Wt.Qm2 {X:Ctx} {C:Qq} (h:Wt X C) {id b:Nat} {m:Option Nat} {r:Row} (h1:C.μ[id]? = some m) (h2:C.rows[id]? = some r) (hb:r.hasB C.w m b):(X.Qbj b\/X.w0.heap.size<=b)/\b < C.w.heap.size:=by
 rcases hb with rfl | hb
 ·exact h.place id _ h1
 exact h.Qb4 id m b r h1 h2 hb
theorem Wt.Qjc {X:Ctx} {C:Qq} (h:Wt X C) {i j b:Nat} {m n:Option Nat} {r s:Row} (h1:C.μ[i]? = some m) (h2:C.μ[j]? = some n) (h3:C.rows[i]? = some r) (h4:C.rows[j]? = some s)
  (hl:r.live=true) (hg:s≠.gone) (hr:r.hasB C.w m b) (hs:s.hasB C.w n b):i=j:=by
 rcases hr with rfl | hr<;>rcases hs with rfl | hs
 ·exact h.apart i j _ r s h1 h2 h3 h4 hl hg
 ·exact absurd rfl (h.Qb7 j i n (some b) b s r h2 h1 h4 h3 hs (by rintro rfl;cases hl)).1
 ·exact absurd rfl (h.Qb7 i j m (some b) b r s h1 h2 h3 h4 hr hg).1
 exact (h.Qb7 i j m n b r s h1 h2 h3 h4 hr hg).2 hs
structure Sim (X:Ctx) (st:St) (a:Act) (C:Qq):Prop where
 rel:Wt X C
 rows:C.rows=st.rows
 defers:a.defers=X.ds
 nt:a.tmps.size=st.nt
 tm:∀ i av,st.tm.lookup i=some av->∃ v,a.tmps[i]? = some v/\Zj C.w (C.ok X) C.μ av v
def AK (X:Ctx) (f:FuncId) (k:List Item) (Q:Frame->Frame->Qq->Prop) (st:St):Prop:=
 ∀ (a:Act) (C:Qq),Sim X st a C->∀ (b:Frame) (cs:List Frame),b.fn=f->(b.kind=.normal/\b.roundOf=X.rnd) ->
  ∃ C' fr,Q b fr C'/\Steps X.P (lone (b.atR a k) cs C.w) (lone fr cs C'.w)/\fr.fn=f
end Go.Sy
