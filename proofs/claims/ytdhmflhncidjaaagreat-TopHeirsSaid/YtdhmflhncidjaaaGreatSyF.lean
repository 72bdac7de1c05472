/- The machine's steps over abstract states. -/
import Derived.Test.YtdhmflhncidjaaaGreatSyD
set_option linter.unusedVariables false
set_option linter.unusedSimpArgs false
namespace Go.Sy
def St.put (st:St) (dst:Option Tmp) (av:AV):Option St:=
 match dst with
 | none=>some st
 | some d=>bif Nat.blt d st.nt then some { st with tm:=(d,av) :: st.tm } else none
def St.only (S:List Nat) (st:St):St:={ st with tm:=S.filterMap fun i=>(st.tm.lookup i).map fun av=>(i,av) }
def guardOf (tm:List (Nat × AV)) (ops:Array Oper) (o:Oper):Option Bool:=
 match o.guard with
 | none=>some true
 | some (j,want)=>
  match ops[j]? with
  | some oj=>
   match oj.dst with
   | some t=>
    match tm.lookup t with
    | some (.d (.v (.bool b)))=>some (b == want)
    | some (.Ql [])=>some false
    | _=>none
   | none=>none
  | none=>none
def evalOp (T:Tab) (o:Oper) (st:St):Option St:=
 match Qcw T (valOf st.tm) o.op with
 | some av=>st.put o.dst av
 | none=>
  match Qfg T (valOf st.tm) st.rows o.op with
  | some (some av,rows)=>St.put { st with rows:=rows } o.dst av
  | some (none,rows)=>if o.dst.isNone then some { st with rows:=rows } else none
  | none=>none
def Qfv (T:Tab):List Item->St->Option (List Item × St)
 | .code .skip :: k,st=>some (k,st)
 | .code (.seq a b) :: k,st=>some (.code a :: .code b :: k,st)
 | .code (.block id c) :: k,st=>some (.code c :: .inBlock id :: k,st)
 | .inBlock _ :: k,st=>some (k,st)
 | .code (.label _) :: k,st=>some (k,st)
 | .code (.scope c) :: k,st=>some (.code c :: .inScope c :: k,st)
 | .inScope _ :: k,st=>some (k,st)
 | .code (.loop c) :: k,st=>some (.code c :: .inLoop c :: k,st)
 | .inLoop c :: k,st=>some (.code c :: .inLoop c :: k,st)
 | .code (.cond c t e) :: k,st=>
  match valOf st.tm c with
  | some (.d (.v (.bool b)))=>some (.code (match b with | true=>t | false=>e) :: k,st)
  | _=>none
 | .code (.exit id) :: k,st=>(exitTo id k).map fun k'=>(k',st)
 | .code (.region _ ops false) :: k,st=>some (.inRegion ops (List.range ops.size) :: k,st)
 | .inRegion _ [] :: k,st=>some (k,st)
 | .inRegion ops (i :: rest) :: k,st=>
  match ops[i]? with
  | some o=>
   match guardOf st.tm ops o with
   | some true=>(evalOp T o st).map fun st'=>(.inRegion ops rest :: k,st')
   | some false=>(st.put o.dst (.Ql [])).map fun st'=>(.inRegion ops rest :: k,st')
   | none=>none
  | none=>none
 | _,_=>none
def adv (T:Tab):Nat->List Item->St->List Item × St
 | 0,k,st=>(k,st)
 | n+1,k,st=>
  match Qfv T k st with
  | some (k',st')=>adv T n k' st'
  | none=>(k,st)
def Qv:Code->List Nat->List Item->List Item
 | .seq a b,0 :: p,k=>Qv a p (.code b :: k)
 | .seq _ b,1 :: p,k=>Qv b p k
 | .block id c,0 :: p,k=>Qv c p (.inBlock id :: k)
 | .loop c,0 :: p,k=>Qv c p (.inLoop c :: k)
 | .scope c,0 :: p,k=>Qv c p (.inScope c :: k)
 | .cond _ t _,0 :: p,k=>Qv t p k
 | .cond _ _ e,1 :: p,k=>Qv e p k
 | .region _ ops _,[i],k=>.inRegion ops ((List.range ops.size).drop i) :: k
 | c,_,k=>.code c :: k
section
variable {X:Ctx} {T:Tab} {st:St} {a:Act} {C:Qq}
theorem Sim.val (h:Sim X st a C):∀ x av,valOf st.tm x=some av->Zj C.w (C.ok X) C.μ av (a.eval x):=fun _ _ e=>Wiq h.tm e
theorem Sim.only (h:Sim X st a C) (S:List Nat):Sim X (st.only S) a C:=by
 refine ⟨h.rel,h.rows,h.defers,h.nt,fun i av e=>h.tm i av ?_⟩
 have:=Qce e
 simp only [St.only,List.mem_filterMap] at this
 obtain ⟨j,_,e⟩:=this
 obtain ⟨y,h1,h2⟩:=Option.map_eq_some_iff.1 e
 injection h2 with h2 h3
 subst h2
 subst h3
 exact h1
theorem Sim.Qds (h:Sim X st a C) {C':Qq} (ev:Ev X C C') (hC:Wt X C'):Sim X { st with rows:=C'.rows } a C':=
 ⟨hC,rfl,h.defers,h.nt,fun i av e=>let ⟨v,h1,h2⟩:=h.tm i av e;⟨v,h1,ev.avr h2⟩⟩
theorem Sim.put (h:Sim X st a C) {dst:Option Tmp} {av:AV} {v:Value} {st':St} (e:st.put dst av=some st') (hv:Zj C.w (C.ok X) C.μ av v):Sim X st' (a.put dst v) C:=by
 cases dst with
 | none=>
  injection e with e
  subst e
  exact h
 | some d=>
  simp only [St.put] at e
  cases hd:Nat.blt d st.nt with
  | false=>rw [hd] at e;cases e
  | true=>
   rw [hd] at e
   injection e with e
   subst e
   have hd:d < st.nt:=Nat.le_of_ble_eq_true hd
   refine ⟨h.rel,h.rows,h.defers,by simpa [Act.put] using h.nt,fun i bv e=>?_⟩
   simp only [List.lookup_cons] at e
   split at e
   ·rename_i hi
    have hi:i=d:=by simpa using hi
    subst hi
    injection e with e
    subst e
    exact ⟨v,by simp [Act.put,h.nt,hd],hv⟩
   rename_i hi
   obtain ⟨u,h1,h2⟩:=h.tm i bv e
   have hi:d≠i:=fun e=>by subst e;simp at hi
   exact ⟨u,by simp [Act.put,Array.getElem?_setIfInBounds,hi,h1],h2⟩
theorem Qdv (h:Sim X st a C) {ops:Array Oper} {o:Oper} {b:Bool} (hg:guardOf st.tm ops o=some b):Region.wanted o (yielded ops a.tmps)=b:=by
 unfold guardOf at hg
 unfold Region.wanted
 split at hg
 ·rename_i e
  rw [e]
  injection hg with hg
 rename_i j want e
 rw [e]
 dsimp only
 split at hg
 ·rename_i oj ho
  split at hg
  ·rename_i t ht
   split at hg
   ·rename_i b' hb
    injection hg with hg
    subst hg
    obtain ⟨v,h1,h2⟩:=h.tm t _ hb
    have:=h2.Qbt
    subst this
    simp [yielded,ho,ht,h1]
   ·rename_i hb
    injection hg with hg
    subst hg
    obtain ⟨v,h1,h2⟩:=h.tm t _ hb
    cases h2 with
    | Ql h2=>
     cases h2
     simp [yielded,ho,ht,h1]
   cases hg
  cases hg
 cases hg
variable {f:FuncId} {k:List Item} {Q:Frame->Frame->Qq->Prop}
theorem Qix {k':List Item} {st':St} (h:AK X f k' Q st')
  (hs:∀ a C,Sim X st a C->∀ (b:Frame) (cs:List Frame),b.fn=f->∃ a' C',Sim X st' a' C'/\Steps X.P (lone (b.atR a k) cs C.w) (lone (b.atR a' k') cs C'.w)):AK X f k Q st:=by
 intro a C hC b cs hb hk
 obtain ⟨a',C',h1,h2⟩:=hs a C hC b cs hb
 obtain ⟨C2,fr,q,h3,h4⟩:=h a' C' h1 b cs hb hk
 exact ⟨C2,fr,q,h2.trans h3,h4⟩
theorem Qfj {k':List Item} (h:AK X f k' Q st) (hs:∀ (a:Act) (w:World),∀ (b:Frame) (cs:List Frame),step X.P (lone (b.atR a k) cs w)=.next (lone (b.atR a k') cs w)):AK X f k Q st:=
 Qix h fun a C hC b cs _=>⟨a,C,hC,.one (hs a C.w b cs)⟩
theorem Qe0 {P:Program} {b:Frame} {a:Act} {k:List Item} {cs:List Frame} {w w':World} {ops:Array Oper} {i:Nat} {rest:List Nat} {o:Oper} {v:Value} (ho:ops[i]? = some o) (hnd:∀ c,o.op≠.defer c)
  (hw:Region.wanted o (yielded ops a.tmps)=true) (hr:(execOp a.eval o).run P w=.ok (.value v) w'):
  step P (lone (b.atR a (.inRegion ops (i :: rest) :: k)) cs w)=.next (lone (b.atR (a.put o.dst v) (.inRegion ops rest :: k)) cs w'):=by
 have hg:=stepGR_op (P:=P) (b:=b) (k:=k) (cs:=cs) (w:=w) (rest:=rest) ho hw
 rw [Oper.semAt_eq _ _ _ hnd] at hg
 have Qdw:(b.atR a (.inRegion ops (i :: rest) :: k)).finish v=b.atR (a.put o.dst v) (.inRegion ops rest :: k):=by
  rw [Frame.finish_atR,ho];rfl
 exact step_lone_go (by rw [hg,<- Qdw];simp [stepG.apply,hr])
theorem Qnw {P:Program} {b:Frame} {a:Act} {k:List Item} {cs:List Frame} {w w':World} {ops:Array Oper} {i:Nat} {rest:List Nat} {o:Oper} (ho:ops[i]? = some o) (hnd:∀ c,o.op≠.defer c)
  (hw:Region.wanted o (yielded ops a.tmps)=true) (hr:(execOp a.eval o).run P w=.ok .skip w'):
  step P (lone (b.atR a (.inRegion ops (i :: rest) :: k)) cs w)=.next (lone (b.atR (a.put o.dst undef) (.inRegion ops rest :: k)) cs w'):=by
 have hg:=stepGR_op (P:=P) (b:=b) (k:=k) (cs:=cs) (w:=w) (rest:=rest) ho hw
 rw [Oper.semAt_eq _ _ _ hnd] at hg
 have Qdw:(b.atR a (.inRegion ops (i :: rest) :: k)).finish undef=b.atR (a.put o.dst undef) (.inRegion ops rest :: k):=by
  rw [Frame.finish_atR,ho];rfl
 exact step_lone_go (by rw [hg,<- Qdw];simp [stepG.apply,hr])
theorem Wds (hT:Qw X.P T) (h:Sim X st a C) {o:Oper} {st':St} (e:evalOp T o st=some st'):
  ∃ v C',((execOp a.eval o).run X.P C.w=.ok (.value v) C'.w\/((execOp a.eval o).run X.P C.w=.ok .skip C'.w/\v=undef))/\Sim X st' (a.put o.dst v) C':=by
 unfold evalOp at e
 split at e
 ·rename_i av he
  obtain ⟨v,h1,h2⟩:=pure_run (P:=X.P) (w:=C.w) hT h.val he
  exact ⟨v,C,.inl h1,h.put e h2⟩
 split at e
 ·rename_i av rows he
  rw [<- h.rows] at he
  obtain ⟨C',h1,h2,h3,v,h4,h5⟩:=Wbo hT h.rel h.val he
  subst h1
  exact ⟨v,C',.inl h4,(h.Qds h3 h2).put e h5⟩
 ·rename_i rows he
  rw [<- h.rows] at he
  obtain ⟨C',h1,h2,h3,h4⟩:=Wbo hT h.rel h.val he
  split at e
  ·rename_i hd
   injection e with e
   subst e
   subst h1
   have hd:o.dst=none:=by simpa using hd
   refine ⟨undef,C',.inr ⟨h4,rfl⟩, ?_⟩
   rw [hd]
   exact h.Qds h3 h2
  cases e
 cases e
theorem Wa5 {P:Program} {b:Frame} {a:Act} {k:List Item} {cs:List Frame} {w:World} {c:Code}:step P (lone (b.atR a (.code (.scope c) :: k)) cs w)=.next (lone (b.atR a (.code c :: .inScope c :: k)) cs w):=
 step_lone_go (by rfl)
theorem Qxd {P:Program} {b:Frame} {a:Act} {k:List Item} {cs:List Frame} {w:World} {c:Code}:step P (lone (b.atR a (.inScope c :: k)) cs w)=.next (lone (b.atR a k) cs w):=
 step_lone_go (by rfl)
theorem Qep (hT:Qw X.P T) {k':List Item} {st':St} (e:Qfv T k st=some (k',st')) (h:AK X f k' Q st'):AK X f k Q st:=by
 unfold Qfv at e
 split at e
 ·injection e with e;injection e with e1 e2;subst e1;subst e2
  exact Qfj h fun _ _ _ _=>stepR_skip
 ·injection e with e;injection e with e1 e2;subst e1;subst e2
  exact Qfj h fun _ _ _ _=>stepR_seq
 ·injection e with e;injection e with e1 e2;subst e1;subst e2
  exact Qfj h fun _ _ _ _=>stepR_block
 ·injection e with e;injection e with e1 e2;subst e1;subst e2
  exact Qfj h fun _ _ _ _=>stepR_inBlock
 ·injection e with e;injection e with e1 e2;subst e1;subst e2
  exact Qfj h fun _ _ _ _=>stepR_label
 ·injection e with e;injection e with e1 e2;subst e1;subst e2
  exact Qfj h fun _ _ _ _=>Wa5
 ·injection e with e;injection e with e1 e2;subst e1;subst e2
  exact Qfj h fun _ _ _ _=>Qxd
 ·injection e with e;injection e with e1 e2;subst e1;subst e2
  exact Qfj h fun _ _ _ _=>stepR_loop
 ·injection e with e;injection e with e1 e2;subst e1;subst e2
  exact Qfj h fun _ _ _ _=>stepR_inLoop
 ·split at e
  ·rename_i b hb
   injection e with e;injection e with e1 e2;subst e1;subst e2
   refine Qix h fun a C hC b' cs _=>⟨a,C,hC,.one ?_⟩
   have:=(hC.val _ _ hb).Qbt
   rw [stepR_cond this]
   cases b<;>rfl
  cases e
 ·obtain ⟨k2,h1,h2⟩:=Option.map_eq_some_iff.1 e
  injection h2 with e1 e2;subst e1;subst e2
  exact Qfj h fun _ _ _ _=>stepR_exit h1
 ·injection e with e;injection e with e1 e2;subst e1;subst e2
  exact Qfj h fun _ _ _ _=>stepR_region
 ·injection e with e;injection e with e1 e2;subst e1;subst e2
  exact Qfj h fun _ _ _ _=>stepR_region_end
 ·split at e
  ·rename_i o ho
   split at e
   ·rename_i hg
    obtain ⟨st2,h1,h2⟩:=Option.map_eq_some_iff.1 e
    injection h2 with e1 e2;subst e1;subst e2
    refine Qix h fun a C hC b cs _=>?_
    obtain ⟨v,C',hr,hs⟩:=Wds hT hC h1
    have hnd:∀ c,o.op≠.defer c:=by intro c hc;simp [evalOp,Qcw,Qfg,hc] at h1
    refine ⟨_,C',hs,.one ?_⟩
    rcases hr with hr | ⟨hr,rfl⟩
    ·exact Qe0 ho hnd (Qdv hC hg) hr
    exact Qnw ho hnd (Qdv hC hg) hr
   ·rename_i hg
    obtain ⟨st2,h1,h2⟩:=Option.map_eq_some_iff.1 e
    injection h2 with e1 e2;subst e1;subst e2
    refine Qix h fun a C hC b cs _=>⟨_,C,hC.put (v:=undef) h1 (.Ql .nil),.one ?_⟩
    have:=stepR_op_skip (P:=X.P) (b:=b) (a:=a) (k:=‹List Item›) (cs:=cs) (w:=C.w) (ops:=‹Array Oper›) (i:=‹Nat›) (rest:=‹List Nat›) (by simp [ho,Qdv hC hg])
    simpa [ho] using this
   cases e
  cases e
 cases e
theorem Qm8 (hT:Qw X.P T):∀ (n:Nat) {k:List Item} {st:St},AK X f (adv T n k st).1 Q (adv T n k st).2->AK X f k Q st
 | 0,_,_,h=>h
 | n+1,k,st,h=>by
  unfold adv at h
  split at h
  ·rename_i k' st' e
   exact Qep hT e (Qm8 hT n h)
  exact h
theorem Qdh (S:List Nat) (h:AK X f k Q (st.only S)):AK X f k Q st:=fun a C hC=>h a C (hC.only S)
theorem go (hT:Qw X.P T) (n:Nat) (S:List Nat) {k':List Item} {st':St} (e:(fun r:List Item × St=>(r.1,r.2.only S)) (adv T n k st)=(k',st')) (h:AK X f k' Q st'):AK X f k Q st:=by
 refine Qm8 hT n (Qdh S ?_)
 injection e with e1 e2
 rw [e1,e2]
 exact h
end
end Go.Sy
namespace Go.Sy
mutual
def Qa0 (ρ:Nat->Nat):AV->AV
 | .d x=>.d x
 | .agg xs=>.agg (Qg3 ρ xs)
 | .Ql xs=>.Ql (Qg3 ρ xs)
 | .own id k off n=>.own (ρ id) k off n
 | .ptr id k i off=>.ptr (ρ id) k i off
 | .win id off n=>.win (ρ id) off n
 | .mp id=>.mp (ρ id)
 | .fn f xs=>.fn f (Qg3 ρ xs)
 | .ifc t x=>.ifc t (Qa0 ρ x)
 | .bm f x=>.bm f (Qa0 ρ x)
def Qg3 (ρ:Nat->Nat):List AV->List AV
 | []=>[]
 | x :: xs=>Qa0 ρ x :: Qg3 ρ xs
end
def Qb0 (ρ:Nat->Nat):Row->Row
 | .flat fz k ty n g=>.flat fz k ty n g
 | .box ty cs=>.box ty (Qg3 ρ cs)
 | .mix k ty n g=>.mix k ty n fun i=>Qg3 ρ (g i)
 | .gone=>.gone
 | .loop l s fn nt is xs ps asg body=>.loop l s fn nt is (Qg3 ρ xs) ps asg body
 | .dfr D=>.dfr D
 | .mp es clock=>.mp es clock
 | .it id since seen last=>.it (ρ id) since seen last
 | .obj o=>.obj o
theorem Qeh (ρ:Nat->Nat) (r:Row) (w:World) (m:Option Nat):(Qb0 ρ r).ext w m=r.ext w m:=by cases r<;>rfl
theorem Qlq (ρ:Nat->Nat) (r:Row) (w:World) (m:Option Nat) (b:Nat):(Qb0 ρ r).hasB w m b↔r.hasB w m b:=by unfold Row.hasB;rw [Qeh]
theorem Qez (ρ:Nat->Nat) (r:Row):(Qb0 ρ r).live=r.live:=by cases r<;>rfl
theorem Qhp (ρ:Nat->Nat) (r:Row):Qb0 ρ r=.gone↔r=.gone:=by cases r<;>simp [Qb0]
section
variable {w:World} {ok ok':Bool->Nat->Prop} {μ μ':List (Option Nat)} {ρ:Nat->Nat}
mutual
theorem Zj.ren (Jj:∀ t b,ok t b->ok' t b) (hρ:∀ (j:Nat) x,μ[j]? = some x->μ'[ρ j]? = some x):∀ {av:AV} {v:Value},Zj w ok μ av v->Zj w ok' μ' (Qa0 ρ av) v
 | _,_,.d h=>.d (h.mono Jj fun _ _ _=>rfl)
 | _,_,.agg h=>.agg (Jm.ren Jj hρ h)
 | _,_,.Ql h=>.Ql (Qaw.ren Jj hρ h)
 | _,_,.Qbj h=>.Qbj (hρ _ _ h)
 | _,_,.own h h1 h2 h3 h4=>.own (hρ _ _ h) h1 h2 h3 h4
 | _,_,.ptr h=>.ptr (hρ _ _ h)
 | _,_,.win h h1 h2=>.win (hρ _ _ h) h1 h2
 | _,_,.mp h=>.mp (hρ _ _ h)
 | _,_,.fn h=>.fn (Jm.ren Jj hρ h)
 | _,_,.ifc h=>.ifc (Zj.ren Jj hρ h)
 | _,_,.bm h=>.bm (Zj.ren Jj hρ h)
theorem Jm.ren (Jj:∀ t b,ok t b->ok' t b) (hρ:∀ (j:Nat) x,μ[j]? = some x->μ'[ρ j]? = some x):∀ {av:List AV} {v:List Value},Jm w ok μ av v->Jm w ok' μ' (Qg3 ρ av) v
 | _,_,.nil=>.nil
 | _,_,.cons h1 h hs=>.cons h1 (Zj.ren Jj hρ h) (Jm.ren Jj hρ hs)
theorem Qaw.ren (Jj:∀ t b,ok t b->ok' t b) (hρ:∀ (j:Nat) x,μ[j]? = some x->μ'[ρ j]? = some x):∀ {av:List AV} {v:List Value},Qaw w ok μ av v->Qaw w ok' μ' (Qg3 ρ av) v
 | _,_,.nil=>.nil
 | _,_,.cons h hs=>.cons (Zj.ren Jj hρ h) (Qaw.ren Jj hρ hs)
end
mutual
theorem Zj.Qfa (Jj:∀ t b,ok t b->ok' t b) (hρ:∀ (j:Nat) x,μ[ρ j]? = some x->μ'[j]? = some x):∀ {av:AV} {v:Value},Zj w ok μ (Qa0 ρ av) v->Zj w ok' μ' av v
 | .d _,_,h=>by simp only [Qa0] at h;cases h with | d h=>exact .d (h.mono Jj fun _ _ _=>rfl)
 | .agg xs,_,h=>by simp only [Qa0] at h;cases h with | agg h=>exact .agg (Jm.Qfa Jj hρ h)
 | .Ql xs,_,h=>by simp only [Qa0] at h;cases h with | Ql h=>exact .Ql (Qaw.Qfa Jj hρ h)
 | .own id k off n,_,h=>by
  simp only [Qa0] at h
  cases h with
  | Qbj h=>exact .Qbj (hρ _ _ h)
  | own h h1 h2 h3 h4=>exact .own (hρ _ _ h) h1 h2 h3 h4
 | .ptr id k i off,_,h=>by simp only [Qa0] at h;cases h with | ptr h=>exact .ptr (hρ _ _ h)
 | .win id off n,_,h=>by simp only [Qa0] at h;cases h with | win h h1 h2=>exact .win (hρ _ _ h) h1 h2
 | .mp id,_,h=>by simp only [Qa0] at h;cases h with | mp h=>exact .mp (hρ _ _ h)
 | .fn f xs,_,h=>by simp only [Qa0] at h;cases h with | fn h=>exact .fn (Jm.Qfa Jj hρ h)
 | .ifc t x,_,h=>by simp only [Qa0] at h;cases h with | ifc h=>exact .ifc (Zj.Qfa Jj hρ h)
 | .bm f x,_,h=>by simp only [Qa0] at h;cases h with | bm h=>exact .bm (Zj.Qfa Jj hρ h)
theorem Jm.Qfa (Jj:∀ t b,ok t b->ok' t b) (hρ:∀ (j:Nat) x,μ[ρ j]? = some x->μ'[j]? = some x):∀ {av:List AV} {v:List Value},Jm w ok μ (Qg3 ρ av) v->Jm w ok' μ' av v
 | [],_,h=>by simp only [Qg3] at h;cases h;exact .nil
 | x :: xs,_,h=>by simp only [Qg3] at h;cases h with | cons h1 h hs=>exact .cons h1 (Zj.Qfa Jj hρ h) (Jm.Qfa Jj hρ hs)
theorem Qaw.Qfa (Jj:∀ t b,ok t b->ok' t b) (hρ:∀ (j:Nat) x,μ[ρ j]? = some x->μ'[j]? = some x):∀ {av:List AV} {v:List Value},Qaw w ok μ (Qg3 ρ av) v->Qaw w ok' μ' av v
 | [],_,h=>by simp only [Qg3] at h;cases h;exact .nil
 | x :: xs,_,h=>by simp only [Qg3] at h;cases h with | cons h hs=>exact .cons (Zj.Qfa Jj hρ h) (Qaw.Qfa Jj hρ hs)
end
theorem Qbg.ren {ob:Option Nat} {r:Row} (h:Qbg w ok μ ob r) (Jj:∀ t b,ok t b->ok' t b) (hρ:∀ (j:Nat) x,μ[j]? = some x->μ'[ρ j]? = some x):Qbg w ok' μ' ob (Qb0 ρ r):=by
 cases ob with
 | none=>cases r<;>first | exact h | exact Qls.Qgv _ h Jj (fun _ _ _=>rfl) (fun _ _=>rfl) (fun _ _=>rfl)
 | some b=>
  cases r with
  | gone=>trivial
  | loop l s fn nt is xs ps asg body=>
   obtain ⟨h0,T,D,vs,h1,h2,h3,h4⟩:=h
   exact ⟨h0,T,D,vs,h1,h2,h3.ren Jj hρ,h4⟩
  | dfr D=>exact h
  | mp es clock=>exact h
  | it id since seen last=>exact let ⟨m,h1,h2⟩:=h;⟨m,hρ _ _ h1,h2⟩
  | obj o=>exact o.Qgv h Jj (fun _ _ _=>rfl) (fun _ _=>rfl) (fun _ _=>rfl)
  | flat fz k ty n g=>
   obtain ⟨cs,vs,h1,h2,h3,h4,h5⟩:=h
   exact ⟨cs,vs,h1,h2,h3,fun i hi=>(h4 i hi).mono Jj fun _ _ _=>rfl,h5⟩
  | mix k ty n g=>
   obtain ⟨cs,vs,h1,h2,h3,h4,h5⟩:=h
   exact ⟨cs,vs,h1,h2,h3,fun i hi=>(h4 i hi).ren Jj hρ,h5⟩
  | box ty as=>
   obtain ⟨vs,h1,h2⟩:=h
   exact ⟨vs,h1,h2.ren Jj hρ⟩
theorem Qbg.Qfa {ob:Option Nat} {r:Row} (h:Qbg w ok μ ob (Qb0 ρ r)) (Jj:∀ t b,ok t b->ok' t b) (hρ:∀ (j:Nat) x,μ[ρ j]? = some x->μ'[j]? = some x):Qbg w ok' μ' ob r:=by
 cases ob with
 | none=>cases r<;>first | exact h | exact Qls.Qgv _ h Jj (fun _ _ _=>rfl) (fun _ _=>rfl) (fun _ _=>rfl)
 | some b=>
  cases r with
  | gone=>trivial
  | loop l s fn nt is xs ps asg body=>
   obtain ⟨h0,T,D,vs,h1,h2,h3,h4⟩:=h
   exact ⟨h0,T,D,vs,h1,h2,h3.Qfa Jj hρ,h4⟩
  | dfr D=>exact h
  | mp es clock=>exact h
  | it id since seen last=>exact let ⟨m,h1,h2⟩:=h;⟨m,hρ _ _ h1,h2⟩
  | obj o=>exact o.Qgv h Jj (fun _ _ _=>rfl) (fun _ _=>rfl) (fun _ _=>rfl)
  | flat fz k ty n g=>
   obtain ⟨cs,vs,h1,h2,h3,h4,h5⟩:=h
   exact ⟨cs,vs,h1,h2,h3,fun i hi=>(h4 i hi).mono Jj fun _ _ _=>rfl,h5⟩
  | mix k ty n g=>
   obtain ⟨cs,vs,h1,h2,h3,h4,h5⟩:=h
   exact ⟨cs,vs,h1,h2,h3,fun i hi=>(h4 i hi).Qfa Jj hρ,h5⟩
  | box ty as=>
   obtain ⟨vs,h1,h2⟩:=h
   exact ⟨vs,h1,h2.Qfa Jj hρ⟩
end
def Qq.okR (X:Ctx) (C:Qq) (t:Bool) (b:Nat):Prop:=t=true/\C.ok X true b
structure Qa3 (X:Ctx) (C:Qq) (ret:AV) (v:Value):Prop where
 rel:Wt X C
 rows:∀ (id:Nat) (ob:Option Nat) (r:Row),C.μ[id]? = some ob->C.rows[id]? = some r->Qbg C.w (C.okR X) C.μ ob r
 ret:Zj C.w (C.okR X) C.μ ret v
def Ctx.Fits (X:Ctx):Prop:=∀ b,X.okp b->b < X.w0.heap.size/\¬ X.Qbj b
def Xt (P:Program) (f:FuncId) (Xb:List Row) (args:List AV) (Qr:List Row) (ret:AV):Prop:=
 ∀ (X:Ctx) (vs:List Value),X.P=P->X.Fits->Wt X ⟨X.μ0,Xb,X.w0⟩->Qaw X.w0 ((⟨X.μ0,Xb,X.w0⟩:Qq).ok X) X.μ0 args vs ->
  Calls P f vs.toArray X.w0 fun e w'=>∃ v μ',e=.returned v/\Qa3 X ⟨μ',Qr,w'⟩ ret v
mutual
inductive Pass (rows:List Row) (ids:List Nat) (ρ:Nat->Nat):AV->AV->Prop
 | same (av:AV):Pass rows ids ρ (Qa0 ρ av) av
 | nil (t:Bool) (g:Nat->List DV):Pass rows ids ρ (.d (.v (.slice none 0 0))) (.d (.sl t 0 g))
 | Qcr {id k n:Nat} {fz:Bool} {ty:TypeId} {g:Nat->List DV} (h:rows[id]? = some (.flat fz k ty n g)) (hi:ids.contains id=false):Pass rows ids ρ (.own id k 0 n) (.d (.sl fz n g))
 | part {id k off m n:Nat} {fz:Bool} {ty:TypeId} {g:Nat->List DV} (h:rows[id]? = some (.flat fz k ty n g)) (hi:ids.contains id=false) (hm:off+m<=n):
   Pass rows ids ρ (.own id k off m) (.d (.sl fz m fun j=>g (off+j)))
 | winl {id off m m' n:Nat} {fz:Bool} {ty:TypeId} {g:Nat->List DV} (g':Nat->List DV) (h:rows[id]? = some (.flat fz 1 ty n g)) (hi:ids.contains id=false) (hm:off+m<=n) (hl:m'=m) (hg:∀ j,j < m->g' j=g (off+j)):
   Pass rows ids ρ (.win id off m) (.d (.sl fz m' g'))
 | look {id off:Nat} {ty:TypeId} {cs:List DV} (h:rows[id]? = some (.box ty (cs.map .d))) (hi:ids.contains id=false):Pass rows ids ρ (.ptr id 0 0 off) (.d (.rop false 1 (fun _=>cs) 0 off))
 | lookO {id r k n:Nat} {ty te:TypeId} {fz:Bool} {g:Nat->List DV} (h1:rows[id]? = some (.box ty [.own r k 0 n])) (h2:rows[r]? = some (.flat fz k te n g)) (hi:ids.contains id=false) (hj:ids.contains r=false):
   Pass rows ids ρ (.ptr id 0 0 0) (.d (.rop false 1 (fun _=>[.sl fz n g]) 0 0))
 | lookB {id off:Nat} {ty:TypeId} {xs:List AV} {ys:List DV} (h:rows[id]? = some (.box ty xs)) (hi:ids.contains id=false) (hp:Qm7 rows ids ρ xs ys):Pass rows ids ρ (.ptr id 0 0 off) (.d (.rop false 1 (fun _=>ys) 0 off))
 | fn (f:FuncId) {xs:List AV} {ys:List DV} (h:Qm7 rows ids ρ xs ys):Pass rows ids ρ (.fn f xs) (.d (.fn f ys))
 | agg {xs:List AV} {ys:List DV} (h:Qm7 rows ids ρ xs ys):Pass rows ids ρ (.agg xs) (.d (.agg ys))
 | Qp6 {xs:List DV} {ys:List DV} (h:Qm7 rows ids ρ (xs.map .d) ys):Pass rows ids ρ (.d (.agg xs)) (.d (.agg ys))
inductive Qm7 (rows:List Row) (ids:List Nat) (ρ:Nat->Nat):List AV->List DV->Prop
 | nil:Qm7 rows ids ρ [] []
 | cons {x:AV} {y:DV} {xs:List AV} {ys:List DV} (h:Pass rows ids ρ x (.d y)) (hs:Qm7 rows ids ρ xs ys):Qm7 rows ids ρ (x :: xs) (y :: ys)
end
inductive Qff (rows:List Row) (ids:List Nat) (ρ:Nat->Nat):List AV->List AV->Prop
 | nil:Qff rows ids ρ [] []
 | cons {x y:AV} {xs ys:List AV} (h:Pass rows ids ρ x y) (hs:Qff rows ids ρ xs ys):Qff rows ids ρ (x :: xs) (y :: ys)
def Zw (ids:List Nat) (base:Nat) (j:Nat):Nat:=if j < ids.length then ids.getD j 0 else base+(j - ids.length)
def Qew (rows:List Row):List Nat->List Row->List Row
 | id :: ids,r :: rs=>Qew (rows.set id r) ids rs
 | _,_=>rows
def Qav (rows:List Row) (ids:List Nat) (Qr:List Row):List Row:=
 Qew rows ids ((Qr.take ids.length).map (Qb0 (Zw ids rows.length))) ++ (Qr.drop ids.length).map (Qb0 (Zw ids rows.length))
theorem Qem:∀ (ids:List Nat) (rs:List Row) (rows:List Row),(Qew rows ids rs).length=rows.length
 | [],_,_=>by simp [Qew]
 | _ :: _,[],_=>by simp [Qew]
 | id :: ids,r :: rs,rows=>by simp [Qew,Qem ids rs]
theorem Qlu:∀ (ids:List Nat) (rs:List Row) (rows:List Row) (i:Nat),i ∉ ids->(Qew rows ids rs)[i]? = rows[i]?
 | [],_,_,_,_=>by simp [Qew]
 | _ :: _,[],_,_,_=>by simp [Qew]
 | id :: ids,r :: rs,rows,i,h=>by
  simp only [List.mem_cons,not_or] at h
  rw [Qew,Qlu ids rs _ i h.2,List.getElem?_set_ne (Ne.symm h.1)]
theorem Qpk:∀ (ids:List Nat) (rs:List Row) (rows:List Row),ids.Nodup->(∀ i∈ids,i < rows.length)->∀ (j:Nat) id r,ids[j]? = some id->rs[j]? = some r->(Qew rows ids rs)[id]? = some r
 | [],_,_,_,_,_,_,_,h,_=>by simp at h
 | _ :: _,[],_,_,_,_,_,_,_,h=>by simp at h
 | id :: ids,r :: rs,rows,hn,hl,0,id',r',h1,h2=>by
  simp at h1 h2
  subst h1
  subst h2
  rw [Qew,Qlu _ _ _ _ (List.nodup_cons.1 hn).1]
  simp [hl id (List.mem_cons_self ..)]
 | id :: ids,r :: rs,rows,hn,hl,j+1,id',r',h1,h2=>by
  rw [Qew]
  exact Qpk ids rs _ (List.nodup_cons.1 hn).2 (fun i hi=>by simpa using hl i (List.mem_cons_of_mem _ hi)) j id' r' (by simpa using h1) (by simpa using h2)
section
variable {X:Ctx} {C:Qq}
def Qaf (X:Ctx) (C:Qq) (ids:List Nat):Ctx:={ P:=X.P,w0:=C.w,μ0:=ids.map fun i=>(C.μ[i]?).getD none,okp:=C.ok X true,Qkw:=(fun b=>∃ (id:Nat) (m:Option Nat) (r:Row),id∈ids/\C.μ[id]? = some m/\C.rows[id]? = some r/\b∈r.ext C.w m) }
structure Qbz (rows:List Row) (ids:List Nat) (Xb:List Row):Prop where
 nodup:ids.Nodup
 len:ids.length=Xb.length
 rows:∀ (j id:Nat) (r:Row),ids[j]? = some id->Xb[j]? = some r->rows[id]? = some (Qb0 (Zw ids rows.length) r)/\r.live=true
variable {ids:List Nat} {Xb:List Row}
theorem Qlo {ids:List Nat} {base j id:Nat} (h:ids[j]? = some id):Zw ids base j=id:=by
 have:=(List.getElem?_eq_some_iff.1 h).1
 simp only [Zw,this,if_true,List.getD_eq_getElem?_getD,h,Option.getD_some]
theorem Qjd (h:Wt X C) (hh:Qbz C.rows ids Xb) {j:Nat} {x:Option Nat}:(Qaf X C ids).μ0[j]? = some x↔∃ id,ids[j]? = some id/\C.μ[id]? = some x:=by
 simp only [Qaf,List.getElem?_map,Option.map_eq_some_iff]
 constructor
 ·rintro ⟨id,h1,h2⟩
  refine ⟨id,h1, ?_⟩
  have hj:=(List.getElem?_eq_some_iff.1 h1).1
  rw [hh.len] at hj
  obtain ⟨hr,_⟩:=hh.rows j id _ h1 (List.getElem?_eq_getElem hj)
  obtain ⟨y,hy⟩:=h.Qip hr
  rw [hy] at h2 ⊢
  simpa using h2
 rintro ⟨id,h1,h2⟩
 exact ⟨id,h1,by simp [h2]⟩
theorem Qsn (h:Wt X C) (hh:Qbz C.rows ids Xb) {j:Nat} {x:Option Nat} (e:C.μ[Zw ids C.rows.length j]? = some x):(Qaf X C ids).μ0[j]? = some x:=by
 rw [Qjd h hh]
 by_cases hj:j < ids.length
 ·refine ⟨ids[j],List.getElem?_eq_getElem hj, ?_⟩
  rwa [Qlo (List.getElem?_eq_getElem hj)] at e
 have:=(List.getElem?_eq_some_iff.1 e).1
 simp only [Zw,hj,if_false] at this
 have:=h.len
 omega
theorem Qrn (hh:Qbz C.rows ids Xb) {j id:Nat} (h1:ids[j]? = some id):∃ r,Xb[j]? = some r/\C.rows[id]? = some (Qb0 (Zw ids C.rows.length) r)/\r.live=true:=by
 have hj:=(List.getElem?_eq_some_iff.1 h1).1
 rw [hh.len] at hj
 obtain ⟨hr,hl⟩:=hh.rows j id _ h1 (List.getElem?_eq_getElem hj)
 exact ⟨_,List.getElem?_eq_getElem hj,hr,hl⟩
theorem Qn9 (h:Wt X C) (hh:Qbz C.rows ids Xb) {b:Nat}:(Qaf X C ids).Qbj b↔∃ (j id:Nat) (m:Option Nat) (r:Row),ids[j]? = some id/\C.μ[id]? = some m/\C.rows[id]? = some r/\r.hasB C.w m b:=by
 unfold Ctx.Qbj
 rw [List.mem_iff_getElem?]
 constructor
 ·rintro (⟨j,hj⟩ | ⟨_,id,m,r,h1,h2,h3,h4⟩)
  ·obtain ⟨id,h1,h2⟩:=(Qjd h hh).1 hj
   obtain ⟨r,_,h3,_⟩:=Qrn hh h1
   exact ⟨j,id,some b,_,h1,h2,h3,.inl rfl⟩
  obtain ⟨j,hj⟩:=List.mem_iff_getElem?.1 h1
  exact ⟨j,id,m,r,hj,h2,h3,.inr h4⟩
 rintro ⟨j,id,m,r,h1,h2,h3,h4⟩
 rcases h4 with h4 | h4
 ·subst h4
  exact .inl ⟨j,(Qjd h hh).2 ⟨id,h1,h2⟩⟩
 refine .inr ⟨?_,id,m,r,List.mem_of_getElem? h1,h2,h3,h4⟩
 intro e
 have:=List.mem_of_getElem? h1
 simp only [Qaf,List.map_eq_nil_iff] at e
 rw [e] at this
 cases this
theorem Qmn (h:Wt X C) (hh:Qbz C.rows ids Xb) {b:Nat} (e:(Qaf X C ids).Qbj b):C.live b:=by
 obtain ⟨j,id,m,r,h1,h2,h3,h4⟩:=(Qn9 h hh).1 e
 obtain ⟨s,_,h5,h6⟩:=Qrn hh h1
 rw [h3] at h5
 injection h5 with h5
 subst h5
 exact ⟨id,m,_,h2,h3,by rw [Qez];exact h6,h4⟩
theorem Qmm (h:Wt X C) (hh:Qbz C.rows ids Xb):(Qaf X C ids).Fits:=fun _ hb=>⟨hb.1,fun ho=>hb.2.1 (Qmn h hh ho)⟩
def Qdm (X:Ctx) (C:Qq) (ids:List Nat) (Xb:List Row):Qq:=⟨(Qaf X C ids).μ0,Xb,C.w⟩
theorem Qw6 (h:Wt X C) (hh:Qbz C.rows ids Xb) {b:Nat} (e:(Qdm X C ids Xb).live b):C.live b:=by
 obtain ⟨j,m,r,h1,h2,h3,h6⟩:=e
 obtain ⟨id,h4,h5⟩:=(Qjd h hh).1 h1
 obtain ⟨h7,_⟩:=hh.rows j id r h4 h2
 exact ⟨id,m,_,h5,h7,by rw [Qez];exact h3,(Qlq _ _ _ _ _).2 h6⟩
theorem Qtw (h:Wt X C) (hh:Qbz C.rows ids Xb):∀ t b,C.ok X t b->(Qdm X C ids Xb).ok (Qaf X C ids) t b:=
 fun t b ⟨h1,h2,h3⟩=>⟨h1,fun e=>h2 (Qw6 h hh e),fun ht=>.inl ⟨h1,h2,fun _=>h3 ht⟩⟩
theorem Qoa (h:Wt X C) (hh:Qbz C.rows ids Xb):Wt (Qaf X C ids) (Qdm X C ids Xb):=by
 have Qgh:∀ {i:Nat} {m:Option Nat} {r:Row},(Qdm X C ids Xb).μ[i]? = some m->(Qdm X C ids Xb).rows[i]? = some r->∃ id,ids[i]? = some id/\C.μ[id]? = some m/\C.rows[id]? = some (Qb0 (Zw ids C.rows.length) r)/\r.live=true:=by
  intro i m r h1 h2
  obtain ⟨id,e1,e2⟩:=(Qjd h hh).1 h1
  have k1:=hh.rows i id r e1 h2
  exact ⟨id,e1,e2,k1.1,k1.2⟩
 have hinj:∀ {i j id:Nat},ids[i]? = some id->ids[j]? = some id->i=j:=by
  intro i j id e1 e3
  have i1:=(List.getElem?_eq_some_iff.1 e1).1
  exact (List.getElem?_inj i1 hh.nodup).1 (e1.trans e3.symm)
 refine ⟨by simp [Qdm,Qaf,hh.len],rfl,rfl,⟨rfl,Nat.le_refl _⟩,Nat.le_refl _,fun _ _ _=>rfl,fun _ _ _ k=>⟨_,k,rfl⟩,fun _ _ k=>k, ?_, ?_, ?_, ?_, ?_⟩
 ·intro j b hb
  obtain ⟨id,h1,h2⟩:=(Qjd h hh).1 hb
  obtain ⟨r,_,h3,_⟩:=Qrn hh h1
  exact ⟨.inl ((Qn9 h hh).2 ⟨j,id,some b,_,h1,h2,h3,.inl rfl⟩),(h.place id b h2).2⟩
 ·intro i j b r s h1 h2 h3 h4 h5 h6
  obtain ⟨id,e1,e2,k1,_⟩:=Qgh h1 h3
  obtain ⟨jd,e3,e4,k2,_⟩:=Qgh h2 h4
  have:=h.apart id jd b _ _ e2 e4 k1 k2 (by rw [Qez];exact h5) (by rw [ne_eq,Qhp];exact h6)
  subst this
  exact hinj e1 e3
 ·intro i m b r h1 h2 h3
  obtain ⟨id,e1,e2,k1,_⟩:=Qgh h1 h2
  have h3':b∈(Qb0 (Zw ids C.rows.length) r).ext C.w m:=by rw [Qeh];exact h3
  exact ⟨.inl ((Qn9 h hh).2 ⟨i,id,m,_,e1,e2,k1,.inr h3'⟩),(h.Qb4 id m b _ e2 k1 h3').2⟩
 ·intro i j m n b r s h1 h2 h3 h4 h5 h6
  obtain ⟨id,e1,e2,k1,_⟩:=Qgh h1 h3
  obtain ⟨jd,e3,e4,k2,_⟩:=Qgh h2 h4
  have h5':b∈(Qb0 (Zw ids C.rows.length) r).ext C.w m:=by rw [Qeh];exact h5
  have:=h.Qb7 id jd m n b _ _ e2 e4 k1 k2 h5' (by rw [ne_eq,Qhp];exact h6)
  refine ⟨this.1,fun h7=>?_⟩
  have:=this.2 (by rw [Qeh];exact h7)
  subst this
  exact hinj e1 e3
 intro j ob r h1 h2
 obtain ⟨id,e1,e2⟩:=(Qjd h hh).1 h1
 have k1:=hh.rows j id r e1 h2
 exact (h.rel id ob _ e2 k1.1).Qfa (Qtw h hh) (fun _ _ e=>Qsn h hh e)
theorem hblk (h:Wt X C) (hh:Qbz C.rows ids Xb) {id b:Nat} {r:Row} (hr:C.rows[id]? = some r) (hμ:C.μ[id]? = some (some b)) (hi:ids.contains id=false) (hg:r≠.gone):¬ (Qdm X C ids Xb).live b:=by
 rintro ⟨j,m,s,e1,e2,e3,e6⟩
 obtain ⟨jd,e4,e5⟩:=(Qjd h hh).1 e1
 have k1:=hh.rows j jd s e4 e2
 have:=h.Qjc e5 hμ k1.1 hr (by rw [Qez];exact e3) hg ((Qlq _ _ _ _ _).2 e6) (.inl rfl)
 subst this
 have:=List.mem_of_getElem? e4
 simp at hi
 exact hi this
theorem Wom (h:Wt X C) (hh:Qbz C.rows ids Xb) {id b:Nat} {fz:Bool} {k:Nat} {ty:TypeId} {n:Nat} {g:Nat->List DV} (hr:C.rows[id]? = some (.flat fz k ty n g)) (hμ:C.μ[id]? = some (some b))
  (hi:ids.contains id=false):(Qdm X C ids Xb).ok (Qaf X C ids) fz b:=by
 refine ⟨(h.place id b hμ).2,hblk h hh hr hμ hi (by simp),fun ht=>.inl ⟨(h.place id b hμ).2, ?_,fun _=>.inr (h.place id b hμ).1⟩⟩
 subst ht
 rintro ⟨j,m,s,e1,e2,e3,e4⟩
 have:=h.Qjc e1 hμ e2 hr e3 (by simp) e4 (.inl rfl)
 subst this
 rw [hr] at e2
 injection e2 with e2
 subst e2
 cases e3
theorem VR.congr {w:World} {ok:Bool->Nat->Prop} {t:Bool} {m:Nat} {g g':Nat->List DV} {v:Value} (h:VR w ok (.sl t m g) v) (hg:∀ j,j < m->g' j=g j):VR w ok (.sl t m g') v:=by
 cases h with
 | sl0=>exact .sl0
 | sl k vs h0 hc Jj hl hr hm=>exact .sl k vs h0 hc Jj hl (fun i hi=>by rw [hg i hi];exact hr i hi) hm
theorem Qxn (h:Wt X C) (hh:Qbz C.rows ids Xb) {id k n off m b:Nat} {fz:Bool} {ty:TypeId} {g:Nat->List DV} (hr:C.rows[id]? = some (.flat fz k ty n g)) (hμ:C.μ[id]? = some (some b))
  (hi:ids.contains id=false) (hm:off+m<=n) (c:Nat) (hc:m<=c):VR C.w ((Qdm X C ids Xb).ok (Qaf X C ids)) (.sl fz m fun j=>g (off+j)) (.slice (some ⟨b,off * k,none⟩) m c):=by
 obtain ⟨cs,vs,h1,h2,h3,h4,h5⟩:=h.rel id _ _ hμ hr
 rcases Nat.eq_zero_or_pos m with h0 | h0
 ·subst h0;exact .sl0
 refine .sl k (fun i=>vs (off+i)) h0 hc (Wom h hh hr hμ hi) (fun i hi=>h3 _ (by omega)) (fun i hi=>(h4 _ (by omega)).mono (Qtw h hh) (fun _ _ _=>rfl)) ?_
 intro i j v hi hj
 rw [cell_of_row _ _ _ _ _ _ h1]
 have:=h5 (off+i) j v (by omega) hj
 rwa [Nat.add_mul] at this
mutual
theorem Qzw (h:Wt X C) (hh:Qbz C.rows ids Xb):∀ {x y:AV} {v:Value},Pass C.rows ids (Zw ids C.rows.length) x y->Zj C.w (C.ok X) C.μ x v ->
  Zj C.w ((Qdm X C ids Xb).ok (Qaf X C ids)) (Qaf X C ids).μ0 y v
 | _,_,_,.same av,k=>k.Qfa (Qtw h hh) (fun _ _ e=>Qsn h hh e)
 | _,_,_,.nil t g,k=>by rw [k.Qbt];exact .d .sl0
 | _,_,v,.Qcr hr hi,k=>by
  cases k with
  | Qbj hμ=>exact .d .sl0
  | own hμ hb hs hn hc=>
   have:=Qxn h hh hr hμ hi (off:=0) (m:=_) (by simp) _ hn
   simp only [Nat.zero_add] at this
   exact .d this
 | _,_,v,.part hr hi hm,k=>by
  cases k with
  | Qbj hμ=>exact .d .sl0
  | own hμ hb hs hn hc=>exact .d (Qxn h hh hr hμ hi hm _ hn)
 | _,_,v,.winl g' hr hi hm hl hg,k=>by
  subst hl
  cases k with
  | win hμ hn hc=>
   have:=Qxn h hh hr hμ hi hm _ hn
   rw [Nat.mul_one] at this
   exact .d (this.congr hg)
 | _,_,v,.look (id:=id) (off:=off) (ty:=ty) (cs:=cs) hr hi,k=>by
  obtain ⟨b,hμ,rfl⟩:=k.Qh8
  obtain ⟨vs,h1,h2⟩:=h.rel id _ _ hμ hr
  have Qy1:=hblk h hh hr hμ hi (by simp)
  have hv:=h2.toD.mono (Qtw h hh) (fun _ _ _=>rfl)
  have:=VR.rop (w:=C.w) (ok:=(Qdm X C ids Xb).ok (Qaf X C ids)) (t:=false) (n:=1) (g:=fun _=>cs) (i:=0) (off:=off) (b:=b) (o:=0) vs.length (fun _=>vs) (by omega)
   ⟨(h.place id b hμ).2,Qy1,fun e=>by cases e⟩ (fun _ _=>rfl) (fun _ _=>hv) (fun i j v hi hj=>by
    have hi:i=0:=by omega
    subst hi
    rw [cell_of_row _ _ _ _ _ _ h1]
    simpa using hj)
  simp only [Nat.zero_mul,Nat.zero_add] at this ⊢
  exact .d this
 | _,_,v,.lookO (id:=id) (r:=r) (k:=kk) (n:=n) (fz:=fz) (g:=g) hr hr2 hi hj,k=>by
  obtain ⟨b,hμ,rfl⟩:=k.Qh8
  obtain ⟨vs,h1,h2⟩:=h.rel id _ _ hμ hr
  have Qy1:=hblk h hh hr hμ hi (by simp)
  have hv:∀ n0,n0=n->VRs C.w ((Qdm X C ids Xb).ok (Qaf X C ids)) [.sl fz n g] vs:=by
   intro n0 hn0
   subst hn0
   cases h2 with
   | cons o1 o2 o3=>
    cases o3
    refine .cons o1 ?_ .nil
    generalize hn:n0=m at o2
    cases o2 with
    | Qbj hμ2=>subst hn;exact .sl0
    | own hμ2 hb hs hnc hc=>
     subst hn
     have:=Qxn h hh hr2 hμ2 hj (off:=0) (m:=n0) (by simp) _ hnc
     simp only [Nat.zero_add] at this
     exact this
  have:=VR.rop (w:=C.w) (ok:=(Qdm X C ids Xb).ok (Qaf X C ids)) (t:=false) (n:=1) (g:=fun _=>[.sl fz n g]) (i:=0) (off:=0) (b:=b) (o:=0) vs.length (fun _=>vs) (by omega)
   ⟨(h.place id b hμ).2,Qy1,fun e=>by cases e⟩ (fun _ _=>rfl) (fun _ _=>hv n rfl) (fun i j v hi hj=>by
    have hi:i=0:=by omega
    subst hi
    rw [cell_of_row _ _ _ _ _ _ h1]
    simpa using hj)
  simp only [Nat.zero_mul,Nat.zero_add] at this ⊢
  exact .d this
 | _,_,v,.lookB (id:=id) (off:=off) (ys:=ys) hr hi hp,k=>by
  obtain ⟨b,hμ,rfl⟩:=k.Qh8
  obtain ⟨vs,h1,h2⟩:=h.rel id _ _ hμ hr
  have Qy1:=hblk h hh hr hμ hi (by simp)
  have hv:=Qlp h hh hp h2
  have:=VR.rop (w:=C.w) (ok:=(Qdm X C ids Xb).ok (Qaf X C ids)) (t:=false) (n:=1) (g:=fun _=>ys) (i:=0) (off:=off) (b:=b) (o:=0) vs.length (fun _=>vs) (by omega)
   ⟨(h.place id b hμ).2,Qy1,fun e=>by cases e⟩ (fun _ _=>rfl) (fun _ _=>hv) (fun i j v hi hj=>by
    have hi:i=0:=by omega
    subst hi
    rw [cell_of_row _ _ _ _ _ _ h1]
    simpa using hj)
  simp only [Nat.zero_mul,Nat.zero_add] at this ⊢
  exact .d this
 | _,_,_,.fn f p,.fn k=>.d (.fn (Qlp h hh p k))
 | _,_,_,.agg p,.agg k=>.d (.agg (Qlp h hh p k))
 | _,_,_,.Qp6 p,.d (.agg k)=>.d (.agg (Qlp h hh p k.toA))
theorem Qlp (h:Wt X C) (hh:Qbz C.rows ids Xb):∀ {xs:List AV} {ys:List DV} {vs:List Value},Qm7 C.rows ids (Zw ids C.rows.length) xs ys->Jm C.w (C.ok X) C.μ xs vs ->
  VRs C.w ((Qdm X C ids Xb).ok (Qaf X C ids)) ys vs
 | _,_,_,.nil,.nil=>.nil
 | _,_,_,.cons p ps,.cons h1 k ks=>.cons h1 (by cases Qzw h hh p k with | d r=>exact r) (Qlp h hh ps ks)
end
theorem Qj5 (h:Wt X C) (hh:Qbz C.rows ids Xb):∀ {xs ys:List AV} {vs:List Value},Qff C.rows ids (Zw ids C.rows.length) xs ys->Qaw C.w (C.ok X) C.μ xs vs ->
  Qaw C.w ((Qdm X C ids Xb).ok (Qaf X C ids)) (Qaf X C ids).μ0 ys vs
 | _,_,_,.nil,.nil=>.nil
 | _,_,_,.cons p ps,.cons k ks=>.cons (Qzw h hh p k) (Qj5 h hh ps ks)
def Qa4 (C:Qq) (ids:List Nat) (μ':List (Option Nat)) (Qr:List Row) (w':World):Qq:=
 ⟨C.μ ++ μ'.drop ids.length,Qav C.rows ids Qr,w'⟩
section
variable {μ':List (Option Nat)} {Qr:List Row} {w':World} {ret:AV} {v:Value}
theorem Qtt (h:Wt X C) (hh:Qbz C.rows ids Xb) (hd:Wt (Qaf X C ids) ⟨μ',Qr,w'⟩):ids.length<=μ'.length:=by
 rcases Nat.lt_or_ge μ'.length ids.length with hlt | hge
 ·have hj:μ'.length < Xb.length:=by rw [<- hh.len];exact hlt
  obtain ⟨hr,_⟩:=hh.rows μ'.length _ _ (List.getElem?_eq_getElem hlt) (List.getElem?_eq_getElem hj)
  obtain ⟨y,hy⟩:=h.Qip hr
  have:=hd.first μ'.length y ((Qjd h hh).2 ⟨_,List.getElem?_eq_getElem hlt,hy⟩)
  have:=(List.getElem?_eq_some_iff.1 this).1
  simp at this
 exact hge
theorem Qu4 (h:Wt X C) (hh:Qbz C.rows ids Xb) (hd:Wt (Qaf X C ids) ⟨μ',Qr,w'⟩) (j:Nat) (x:Option Nat) (e:μ'[j]? = some x):
  (Qa4 C ids μ' Qr w').μ[Zw ids C.rows.length j]? = some x:=by
 by_cases hj:j < ids.length
 ·have hj':j < Xb.length:=by rw [<- hh.len];exact hj
  obtain ⟨hr,_⟩:=hh.rows j _ _ (List.getElem?_eq_getElem hj) (List.getElem?_eq_getElem hj')
  obtain ⟨y,hy⟩:=h.Qip hr
  have h1:=hd.first j y ((Qjd h hh).2 ⟨_,List.getElem?_eq_getElem hj,hy⟩)
  have e':μ'[j]? = some y:=h1
  rw [e] at e'
  injection e' with e'
  subst e'
  rw [Qlo (List.getElem?_eq_getElem hj)]
  exact (by rw [Qa4,List.getElem?_append_left (List.getElem?_eq_some_iff.1 hy).1];exact hy)
 simp only [Zw,hj,if_false,Qa4]
 rw [<- h.len,List.getElem?_append_right (by omega),List.getElem?_drop,show ids.length+(C.μ.length+(j - ids.length) - C.μ.length)=j from by omega]
 exact e
theorem Wg8 (hh:Qbz C.rows ids Xb):∀ i∈ids,i < C.rows.length:=by
 intro i hi
 obtain ⟨j,hj,rfl⟩:=List.mem_iff_getElem.1 hi
 have hj':j < Xb.length:=by rw [<- hh.len];exact hj
 exact (List.getElem?_eq_some_iff.1 (hh.rows j _ _ (List.getElem?_eq_getElem hj) (List.getElem?_eq_getElem hj')).1).1
theorem Wja (h:Wt X C) (hh:Qbz C.rows ids Xb) (hd:Wt (Qaf X C ids) ⟨μ',Qr,w'⟩) (j:Nat) (r:Row) (e:Qr[j]? = some r):
  (Qa4 C ids μ' Qr w').rows[Zw ids C.rows.length j]? = some (Qb0 (Zw ids C.rows.length) r):=by
 have hl:(Qew C.rows ids ((Qr.take ids.length).map (Qb0 (Zw ids C.rows.length)))).length=C.rows.length:=Qem ..
 by_cases hj:j < ids.length
 ·have hid:=Wg8 hh ids[j] (List.getElem_mem hj)
  rw [Qlo (List.getElem?_eq_getElem hj)]
  simp only [Qa4,Qav]
  rw [List.getElem?_append_left (by omega)]
  refine Qpk _ _ _ hh.nodup (Wg8 hh) j _ _ (List.getElem?_eq_getElem hj) ?_
  rw [List.getElem?_map,List.getElem?_take_of_lt hj,e]
  rfl
 simp only [Zw,hj,if_false,Qa4,Qav]
 rw [List.getElem?_append_right (by omega),hl,List.getElem?_map,List.getElem?_drop,show ids.length+(C.rows.length+(j - ids.length) - C.rows.length)=j from by omega,e]
 rfl
theorem Qgq (h:Wt X C) (hh:Qbz C.rows ids Xb) (hd:Wt (Qaf X C ids) ⟨μ',Qr,w'⟩) {i:Nat} {ob:Option Nat} {r:Row}
  (h1:(Qa4 C ids μ' Qr w').μ[i]? = some ob) (h2:(Qa4 C ids μ' Qr w').rows[i]? = some r):
  (i ∉ ids/\C.μ[i]? = some ob/\C.rows[i]? = some r)\/∃ j s,i=Zw ids C.rows.length j/\μ'[j]? = some ob/\Qr[j]? = some s/\r=Qb0 (Zw ids C.rows.length) s:=by
 have hlen:μ'.length=Qr.length:=hd.len
 have hf:=Qtt h hh hd
 have hl:(Qew C.rows ids ((Qr.take ids.length).map (Qb0 (Zw ids C.rows.length)))).length=C.rows.length:=Qem ..
 by_cases hi:i < C.rows.length
 ·by_cases hm:i∈ids
  ·right
   obtain ⟨j,hj,rfl⟩:=List.mem_iff_getElem.1 hm
   have hj2:j < Qr.length:=by omega
   have e:=Wja h hh hd j _ (List.getElem?_eq_getElem hj2)
   have e2:=Qu4 h hh hd j _ (List.getElem?_eq_getElem (show j < μ'.length by omega))
   rw [Qlo (List.getElem?_eq_getElem hj)] at e e2
   rw [e] at h2
   rw [e2] at h1
   injection h1 with h1
   injection h2 with h2
   exact ⟨j,_,(Qlo (List.getElem?_eq_getElem hj)).symm,by rw [List.getElem?_eq_getElem (show j < μ'.length by omega),h1],List.getElem?_eq_getElem hj2,h2.symm⟩
  left
  simp only [Qa4,Qav] at h1 h2
  rw [List.getElem?_append_left (by rw [h.len];exact hi)] at h1
  rw [List.getElem?_append_left (by rw [hl];exact hi),Qlu _ _ _ _ hm] at h2
  exact ⟨hm,h1,h2⟩
 right
 simp only [Qa4,Qav] at h1 h2
 rw [List.getElem?_append_right (by rw [h.len];omega),List.getElem?_drop] at h1
 rw [List.getElem?_append_right (by omega),hl,List.getElem?_map,List.getElem?_drop,Option.map_eq_some_iff] at h2
 obtain ⟨s,h3,h4⟩:=h2
 refine ⟨ids.length+(i - C.rows.length),s, ?_, ?_,h3,h4.symm⟩
 ·simp only [Zw]
  rw [if_neg (by omega)]
  omega
 rw [h.len] at h1
 exact h1
theorem Qgd (h:Wt X C) (hh:Qbz C.rows ids Xb) {i b:Nat} {m:Option Nat} {r:Row} (hi:i ∉ ids) (hμ:C.μ[i]? = some m) (hr:C.rows[i]? = some r) (hg:r≠.gone) (hb:r.hasB C.w m b):¬ (Qaf X C ids).Qbj b:=by
 intro ho
 obtain ⟨j,id,n,s,h1,h2,h3,h4⟩:=(Qn9 h hh).1 ho
 obtain ⟨q,_,k1,k2⟩:=Qrn hh h1
 rw [h3] at k1
 injection k1 with k1
 subst k1
 have:=h.Qjc h2 hμ h3 hr (by rw [Qez];exact k2) hg h4 hb
 subst this
 exact hi (List.mem_of_getElem? h1)
theorem Qho (h:Wt X C) (hh:Qbz C.rows ids Xb) (hd:Wt (Qaf X C ids) ⟨μ',Qr,w'⟩) {i:Nat} {m:Option Nat} {r:Row} (hi:i ∉ ids) (hμ:C.μ[i]? = some m) (hr:C.rows[i]? = some r) (hg:r≠.gone):
  (∀ k,m=some k->w'.heap[k]? = C.w.heap[k]?)/\∀ c∈r.ext C.w m,w'.heap[c]? = C.w.heap[c]?:=
 ⟨fun k e=>hd.keep k (h.place i k (e▸hμ)).2 (Qgd h hh hi hμ hr hg (.inl e)),fun c hc=>hd.keep c (h.Qb4 i m c r hμ hr hc).2 (Qgd h hh hi hμ hr hg (.inr hc))⟩
theorem Qv6 (h:Wt X C) (hh:Qbz C.rows ids Xb) (hd:Wt (Qaf X C ids) ⟨μ',Qr,w'⟩) {b:Nat} (e:(Qa4 C ids μ' Qr w').live b):
  (∃ (i:Nat) (m:Option Nat) (r:Row),i ∉ ids/\C.μ[i]? = some m/\C.rows[i]? = some r/\r.live=true/\r.hasB C.w m b)\/(⟨μ',Qr,w'⟩:Qq).live b:=by
 obtain ⟨i,m,r,h1,h2,h3,h4⟩:=e
 rcases Qgq h hh hd h1 h2 with ⟨k1,k2,k3⟩ | ⟨j,s,rfl,k2,k3,rfl⟩
 ·obtain ⟨q1,q2⟩:=Qho h hh hd k1 k2 k3 (by rintro rfl;cases h3)
  exact .inl ⟨i,m,r,k1,k2,k3,h3,(Row.Qhv r q1 q2).1 h4⟩
 exact .inr ⟨j,m,s,k2,k3,by rwa [Qez] at h3,(Qlq _ _ _ _ _).1 h4⟩
theorem Qmd (h:Wt X C) (hh:Qbz C.rows ids Xb) (hd:Wt (Qaf X C ids) ⟨μ',Qr,w'⟩):Ev X C (Qa4 C ids μ' Qr w'):=by
 refine ⟨hd.size,fun b hb hl=>hd.keep b hb (fun ho=>hl (Qmn h hh ho)), ?_,hd.shape,fun id x hx=>by rw [Qa4,List.getElem?_append_left (List.getElem?_eq_some_iff.1 hx).1];exact hx⟩
 intro b hb hl e
 rcases Qv6 h hh hd e with ⟨i,m,r,_,k2,k3,k4,k5⟩ | ⟨j,m,s,k2,k3,k4,k5⟩
 ·exact hl ⟨i,m,r,k2,k3,k4,k5⟩
 rcases (hd.Qm2 k2 k3 k5).1 with ho | ho
 ·exact hl (Qmn h hh ho)
 have:C.w.heap.size<=b:=ho
 omega
theorem Qnu (h:Wt X C) (hh:Qbz C.rows ids Xb) {b:Nat} (k:(Qaf X C ids).Qbj b):(X.Qbj b\/X.w0.heap.size<=b)/\b < C.w.heap.size:=by
 obtain ⟨j,id,m,r,k1,k2,k3,k4⟩:=(Qn9 h hh).1 k
 exact h.Qm2 k2 k3 k4
theorem Wbb (h:Wt X C) (hh:Qbz C.rows ids Xb) (hd:Wt (Qaf X C ids) ⟨μ',Qr,w'⟩):∀ t b,(⟨μ',Qr,w'⟩:Qq).okR (Qaf X C ids) t b->(Qa4 C ids μ' Qr w').ok X t b:=by
 rintro t b ⟨ht,h1,h2,h3⟩
 refine ⟨h1, ?_,fun _=>?_⟩
 ·intro e
  rcases Qv6 h hh hd e with ⟨i,m,r,k1,k2,k3,k4,k5⟩ | e
  ·rcases h3 rfl with h3 | h3 | h3
   ·exact h3.2.1 ⟨i,m,r,k2,k3,k4,k5⟩
   ·exact Qgd h hh k1 k2 k3 (by rintro rfl;cases k4) k5 h3
   have:=(h.Qm2 k2 k3 k5).2
   have:C.w.heap.size<=b:=h3
   omega
  exact h2 e
 rcases h3 rfl with h3 | h3 | h3
 ·exact h3.2.2 rfl
 ·exact .inr (Qnu h hh h3).1
 exact .inr (.inr (Nat.le_trans h.size h3))
theorem Qml (h:Wt X C) (hh:Qbz C.rows ids Xb) (hd:Qa3 (Qaf X C ids) ⟨μ',Qr,w'⟩ ret v):Wt X (Qa4 C ids μ' Qr w'):=by
 have hr:=hd.rel
 have ev:=Qmd h hh hr
 have hlen:μ'.length=Qr.length:=hr.len
 have hf:=Qtt h hh hr
 refine ⟨?_,hr.os.trans h.os,hr.tape.trans h.tape,⟨hr.output.1.trans h.output.1,Nat.le_trans h.output.2 hr.output.2⟩,Nat.le_trans h.size ev.size, ?_, ?_, ?_, ?_, ?_, ?_, ?_, ?_⟩
 ·simp only [Qa4,Qav,List.length_append,List.length_drop,List.length_map,Qem,h.len,hlen]
 ·intro b hb ho
  rw [<- h.keep b hb ho]
  refine hr.keep b (Nat.lt_of_lt_of_le hb h.size) ?_
  intro ho'
  rcases (Qnu h hh ho').1 with k | k
  ·exact ho k
  omega
 ·intro b cs ty hc
  obtain ⟨cs',h1,h2⟩:=h.shape b cs ty hc
  obtain ⟨cs2,h3,h4⟩:=hr.shape b cs' ty h1
  exact ⟨cs2,h3,h4.trans h2⟩
 ·exact fun id x hx=>ev.pre id x (h.first id x hx)
 ·intro i b hb
  obtain ⟨r,Qg1⟩:∃ r,(Qa4 C ids μ' Qr w').rows[i]? = some r:=by
   have:=(List.getElem?_eq_some_iff.1 hb).1
   refine ⟨_,List.getElem?_eq_getElem (show i < _ from ?_)⟩
   simp only [Qa4,Qav,List.length_append,List.length_drop,List.length_map,Qem] at this ⊢
   rw [h.len,hlen] at this
   exact this
  rcases Qgq h hh hr hb Qg1 with ⟨_,k2,_⟩ | ⟨j,s,_,k2,_,_⟩
  ·have:=h.place i b k2
   exact ⟨this.1,Nat.lt_of_lt_of_le this.2 ev.size⟩
  have:=hr.place j b k2
  refine ⟨?_,this.2⟩
  rcases this.1 with k | k
  ·exact (Qnu h hh k).1
  exact .inr (Nat.le_trans h.size k)
 ·intro i j b r s h1 h2 h3 h4 h5 h6
  rcases Qgq h hh hr h1 h3 with ⟨a1,a2,a3⟩ | ⟨p,r',rfl,a2,a3,rfl⟩<;>rcases Qgq h hh hr h2 h4 with ⟨b1,b2,b3⟩ | ⟨q,s',rfl,b2,b3,rfl⟩
  ·exact h.apart i j b r s a2 b2 a3 b3 h5 h6
  ·exfalso
   rcases (hr.place q b b2).1 with k | k
   ·exact Qgd h hh a1 a2 a3 (by rintro rfl;cases h5) (.inl rfl) k
   have:=(h.place i b a2).2
   have:C.w.heap.size<=b:=k
   omega
  ·exfalso
   rcases (hr.place p b a2).1 with k | k
   ·exact Qgd h hh b1 b2 b3 h6 (.inl rfl) k
   have:=(h.place j b b2).2
   have:C.w.heap.size<=b:=k
   omega
  rw [hr.apart p q b r' s' a2 b2 a3 b3 (by rwa [Qez] at h5) (by rwa [ne_eq,Qhp] at h6)]
 ·intro i m b r h1 h2 h3
  rcases Qgq h hh hr h1 h2 with ⟨a1,a2,a3⟩ | ⟨p,r',rfl,a2,a3,rfl⟩
  ·obtain ⟨q1,q2⟩:=Qho h hh hr a1 a2 a3 (by rintro rfl;cases h3)
   have h3':b∈r.ext C.w m:=by rwa [show (Qa4 C ids μ' Qr w').w=w' from rfl,Row.Qc3 r q1 q2] at h3
   have:=h.Qb4 i m b r a2 a3 h3'
   exact ⟨this.1,Nat.lt_of_lt_of_le this.2 ev.size⟩
  rw [Qeh] at h3
  have:=hr.Qb4 p m b r' a2 a3 h3
  refine ⟨?_,this.2⟩
  rcases this.1 with k | k
  ·exact (Qnu h hh k).1
  exact .inr (Nat.le_trans h.size k)
 ·intro i j m n b r s h1 h2 h3 h4 h5 h6
  rcases Qgq h hh hr h1 h3 with ⟨a1,a2,a3⟩ | ⟨p,r',rfl,a2,a3,rfl⟩<;>rcases Qgq h hh hr h2 h4 with ⟨b1,b2,b3⟩ | ⟨q,s',rfl,b2,b3,rfl⟩
  ·obtain ⟨q1,q2⟩:=Qho h hh hr a1 a2 a3 (by rintro rfl;cases h5)
   obtain ⟨q3,q4⟩:=Qho h hh hr b1 b2 b3 h6
   rw [show (Qa4 C ids μ' Qr w').w=w' from rfl] at h5 ⊢
   rw [Row.Qc3 r q1 q2] at h5
   rw [Row.Qc3 s q3 q4]
   exact h.Qb7 i j m n b r s a2 b2 a3 b3 h5 h6
  ·obtain ⟨q1,q2⟩:=Qho h hh hr a1 a2 a3 (by rintro rfl;cases h5)
   rw [show (Qa4 C ids μ' Qr w').w=w' from rfl] at h5 ⊢
   rw [Row.Qc3 r q1 q2] at h5
   have hb:=(h.Qb4 i m b r a2 a3 h5).2
   have key:∀ {c:Nat},s'.hasB w' n c->c≠b:=by
    rintro c hc rfl
    rcases (hr.Qm2 b2 b3 hc).1 with k | k
    ·exact Qgd h hh a1 a2 a3 (by rintro rfl;cases h5) (.inr h5) k
    have:C.w.heap.size<=c:=k
    omega
   exact ⟨fun e=>key (.inl e) rfl,fun h7=>absurd rfl (key (.inr (by rwa [Qeh] at h7)))⟩
  ·rw [Qeh] at h5
   obtain ⟨q3,q4⟩:=Qho h hh hr b1 b2 b3 h6
   rw [show (Qa4 C ids μ' Qr w').w=w' from rfl] at h5 ⊢
   rw [Row.Qc3 s q3 q4]
   have key:∀ {c:Nat},s.hasB C.w n c->c≠b:=by
    rintro c hc rfl
    rcases (hr.Qb4 p m c r' a2 a3 h5).1 with k | k
    ·exact Qgd h hh b1 b2 b3 h6 hc k
    have:=(h.Qm2 b2 b3 hc).2
    have:C.w.heap.size<=c:=k
    omega
   exact ⟨fun e=>key (.inl e) rfl,fun h7=>absurd rfl (key (.inr h7))⟩
  rw [Qeh] at h5
  have:=hr.Qb7 p q m n b r' s' a2 b2 a3 b3 h5 (by rwa [ne_eq,Qhp] at h6)
  exact ⟨this.1,fun h7=>by rw [this.2 (by rwa [Qeh] at h7)]⟩
 intro i ob r h1 h2
 rcases Qgq h hh hr h1 h2 with ⟨a1,a2,a3⟩ | ⟨p,r',rfl,a2,a3,rfl⟩
 ·by_cases hg:r=.gone
  ·subst hg;cases ob<;>trivial
  refine (h.rel i ob r a2 a3).mono ev.ok ev.same ev.pre ev.shape ?_ ?_
  ·exact (Qho h hh hr a1 a2 a3 hg).1
  exact (Qho h hh hr a1 a2 a3 hg).2
 exact (hd.rows p ob r' a2 a3).ren (Wbb h hh hr) (Qu4 h hh hr)
theorem Wi9 (h:Wt X C) (hh:Qbz C.rows ids Xb) (hd:Qa3 (Qaf X C ids) ⟨μ',Qr,w'⟩ ret v):
  Zj w' ((Qa4 C ids μ' Qr w').ok X) (Qa4 C ids μ' Qr w').μ (Qa0 (Zw ids C.rows.length) ret) v:=hd.ret.ren (Wbb h hh hd.rel) (Qu4 h hh hd.rel)
end
end
end Go.Sy
