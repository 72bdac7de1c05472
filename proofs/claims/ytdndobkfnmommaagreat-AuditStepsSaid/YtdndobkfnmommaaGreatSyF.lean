/- The machine's steps over abstract states. -/
import Derived.Test.YtdndobkfnmommaaGreatSyD
set_option linter.unusedVariables false
set_option linter.unusedSimpArgs false
namespace Go.Sy
def St.put (st:St) (dst:Option Tmp) (av:AV):Option St:=
 match dst with
 | none=>some st
 | some d=>bif Nat.blt d st.nt then some { st with tm:=(d,av) :: st.tm } else none
def St.only (S:List Nat) (st:St):St:={ st with tm:=S.filterMap fun i=>(st.tm.lookup i).map fun av=>(i,av) }
def guardOf (tm:List (Nat × AV)) (ops:Array Oper) (o:Oper):Option Bool:=
 match o.guard with
 | none=>some true
 | some (j,want)=>
  match ops[j]? with
  | some oj=>
   match oj.dst with
   | some t=>
    match tm.lookup t with
    | some (.d (.v (.bool b)))=>some (b == want)
    | some (.Qo [])=>some false
    | _=>none
   | none=>none
  | none=>none
def evalOp (T:Tab) (o:Oper) (st:St):Option St:=
 match Qip T (valOf st.tm) o.op with
 | some av=>st.put o.dst av
 | none=>
  match Qpx T (valOf st.tm) st.rows o.op with
  | some (some av,rows)=>St.put { st with rows:=rows } o.dst av
  | some (none,rows)=>if o.dst.isNone then some { st with rows:=rows } else none
  | none=>none
def Qii (T:Tab):List Item->St->Option (List Item × St)
 | .code .skip :: k,st=>some (k,st)
 | .code (.seq a b) :: k,st=>some (.code a :: .code b :: k,st)
 | .code (.block id c) :: k,st=>some (.code c :: .inBlock id :: k,st)
 | .inBlock _ :: k,st=>some (k,st)
 | .code (.label _) :: k,st=>some (k,st)
 | .code (.scope c) :: k,st=>some (.code c :: .inScope c :: k,st)
 | .inScope _ :: k,st=>some (k,st)
 | .code (.loop c) :: k,st=>some (.code c :: .inLoop c :: k,st)
 | .inLoop c :: k,st=>some (.code c :: .inLoop c :: k,st)
 | .code (.cond c t e) :: k,st=>
  match valOf st.tm c with
  | some (.d (.v (.bool b)))=>some (.code (match b with | true=>t | false=>e) :: k,st)
  | _=>none
 | .code (.exit id) :: k,st=>(exitTo id k).map fun k'=>(k',st)
 | .code (.region _ ops false) :: k,st=>some (.inRegion ops (List.range ops.size) :: k,st)
 | .inRegion _ [] :: k,st=>some (k,st)
 | .inRegion ops (i :: rest) :: k,st=>
  match ops[i]? with
  | some o=>
   match guardOf st.tm ops o with
   | some true=>(evalOp T o st).map fun st'=>(.inRegion ops rest :: k,st')
   | some false=>(st.put o.dst (.Qo [])).map fun st'=>(.inRegion ops rest :: k,st')
   | none=>none
  | none=>none
 | _,_=>none
def adv (T:Tab):Nat->List Item->St->List Item × St
 | 0,k,st=>(k,st)
 | n+1,k,st=>
  match Qii T k st with
  | some (k',st')=>adv T n k' st'
  | none=>(k,st)
def Xh:Code->List Nat->List Item->List Item
 | .seq a b,0 :: p,k=>Xh a p (.code b :: k)
 | .seq _ b,1 :: p,k=>Xh b p k
 | .block id c,0 :: p,k=>Xh c p (.inBlock id :: k)
 | .loop c,0 :: p,k=>Xh c p (.inLoop c :: k)
 | .scope c,0 :: p,k=>Xh c p (.inScope c :: k)
 | .cond _ t _,0 :: p,k=>Xh t p k
 | .cond _ _ e,1 :: p,k=>Xh e p k
 | .region _ ops _,[i],k=>.inRegion ops ((List.range ops.size).drop i) :: k
 | c,_,k=>.code c :: k
section
variable {X:Ctx} {T:Tab} {st:St} {a:Act} {C:Wt}
theorem Sim.val (h:Sim X st a C):∀ x av,valOf st.tm x=some av->Jy C.w (C.ok X) C.μ av (a.eval x):=fun _ _ e=>Weh h.tm e
theorem Sim.only (h:Sim X st a C) (S:List Nat):Sim X (st.only S) a C:=by
 refine ⟨h.rel,h.rows,h.defers,h.nt,fun i av e=>h.tm i av ?_⟩
 have:=Qc6 e
 simp only [St.only,List.mem_filterMap] at this
 obtain ⟨j,_,e⟩:=this
 obtain ⟨y,h1,h2⟩:=Option.map_eq_some_iff.1 e
 injection h2 with h2 h3
 subst h2
 subst h3
 exact h1
theorem Sim.Qdy (h:Sim X st a C) {C':Wt} (ev:Ev X C C') (hC:Xt X C'):Sim X { st with rows:=C'.rows } a C':=
 ⟨hC,rfl,h.defers,h.nt,fun i av e=>let ⟨v,h1,h2⟩:=h.tm i av e;⟨v,h1,ev.avr h2⟩⟩
theorem Sim.put (h:Sim X st a C) {dst:Option Tmp} {av:AV} {v:Value} {st':St} (e:st.put dst av=some st') (hv:Jy C.w (C.ok X) C.μ av v):Sim X st' (a.put dst v) C:=by
 cases dst with
 | none=>
  injection e with e
  subst e
  exact h
 | some d=>
  simp only [St.put] at e
  cases hd:Nat.blt d st.nt with
  | false=>rw [hd] at e;cases e
  | true=>
   rw [hd] at e
   injection e with e
   subst e
   have hd:d < st.nt:=Nat.le_of_ble_eq_true hd
   refine ⟨h.rel,h.rows,h.defers,by simpa [Act.put] using h.nt,fun i bv e=>?_⟩
   simp only [List.lookup_cons] at e
   split at e
   ·rename_i hi
    have hi:i=d:=by simpa using hi
    subst hi
    injection e with e
    subst e
    exact ⟨v,by simp [Act.put,h.nt,hd],hv⟩
   rename_i hi
   obtain ⟨u,h1,h2⟩:=h.tm i bv e
   have hi:d≠i:=fun e=>by subst e;simp at hi
   exact ⟨u,by simp [Act.put,Array.getElem?_setIfInBounds,hi,h1],h2⟩
theorem Qes (h:Sim X st a C) {ops:Array Oper} {o:Oper} {b:Bool} (hg:guardOf st.tm ops o=some b):Region.wanted o (yielded ops a.tmps)=b:=by
 unfold guardOf at hg
 unfold Region.wanted
 split at hg
 ·rename_i e
  rw [e]
  injection hg with hg
 rename_i j want e
 rw [e]
 dsimp only
 split at hg
 ·rename_i oj ho
  split at hg
  ·rename_i t ht
   split at hg
   ·rename_i b' hb
    injection hg with hg
    subst hg
    obtain ⟨v,h1,h2⟩:=h.tm t _ hb
    have:=h2.Qdd
    subst this
    simp [yielded,ho,ht,h1]
   ·rename_i hb
    injection hg with hg
    subst hg
    obtain ⟨v,h1,h2⟩:=h.tm t _ hb
    cases h2 with
    | Qo h2=>
     cases h2
     simp [yielded,ho,ht,h1]
   cases hg
  cases hg
 cases hg
variable {f:FuncId} {k:List Item} {Q:Frame->Frame->Wt->Prop}
theorem Qir {k':List Item} {st':St} (h:AK X f k' Q st')
  (hs:∀ a C,Sim X st a C->∀ (b:Frame) (cs:List Frame),b.fn=f->∃ a' C',Sim X st' a' C'/\Steps X.P (lone (b.atR a k) cs C.w) (lone (b.atR a' k') cs C'.w)):AK X f k Q st:=by
 intro a C hC b cs hb hk
 obtain ⟨a',C',h1,h2⟩:=hs a C hC b cs hb
 obtain ⟨C2,fr,q,h3,h4⟩:=h a' C' h1 b cs hb hk
 exact ⟨C2,fr,q,h2.trans h3,h4⟩
theorem Qfz {k':List Item} (h:AK X f k' Q st) (hs:∀ (a:Act) (w:World),∀ (b:Frame) (cs:List Frame),step X.P (lone (b.atR a k) cs w)=.next (lone (b.atR a k') cs w)):AK X f k Q st:=
 Qir h fun a C hC b cs _=>⟨a,C,hC,.one (hs a C.w b cs)⟩
theorem Qgs {P:Program} {b:Frame} {a:Act} {k:List Item} {cs:List Frame} {w w':World} {ops:Array Oper} {i:Nat} {rest:List Nat} {o:Oper} {v:Value} (ho:ops[i]? = some o) (hnd:∀ c,o.op≠.defer c)
  (hw:Region.wanted o (yielded ops a.tmps)=true) (hr:(execOp a.eval o).run P w=.ok (.value v) w'):
  step P (lone (b.atR a (.inRegion ops (i :: rest) :: k)) cs w)=.next (lone (b.atR (a.put o.dst v) (.inRegion ops rest :: k)) cs w'):=by
 have hg:=stepGR_op (P:=P) (b:=b) (k:=k) (cs:=cs) (w:=w) (rest:=rest) ho hw
 rw [Oper.semAt_eq _ _ _ hnd] at hg
 have Qeb:(b.atR a (.inRegion ops (i :: rest) :: k)).finish v=b.atR (a.put o.dst v) (.inRegion ops rest :: k):=by
  rw [Frame.finish_atR,ho];rfl
 exact step_lone_go (by rw [hg,<- Qeb];simp [stepG.apply,hr])
theorem Qmd {P:Program} {b:Frame} {a:Act} {k:List Item} {cs:List Frame} {w w':World} {ops:Array Oper} {i:Nat} {rest:List Nat} {o:Oper} (ho:ops[i]? = some o) (hnd:∀ c,o.op≠.defer c)
  (hw:Region.wanted o (yielded ops a.tmps)=true) (hr:(execOp a.eval o).run P w=.ok .skip w'):
  step P (lone (b.atR a (.inRegion ops (i :: rest) :: k)) cs w)=.next (lone (b.atR (a.put o.dst undef) (.inRegion ops rest :: k)) cs w'):=by
 have hg:=stepGR_op (P:=P) (b:=b) (k:=k) (cs:=cs) (w:=w) (rest:=rest) ho hw
 rw [Oper.semAt_eq _ _ _ hnd] at hg
 have Qeb:(b.atR a (.inRegion ops (i :: rest) :: k)).finish undef=b.atR (a.put o.dst undef) (.inRegion ops rest :: k):=by
  rw [Frame.finish_atR,ho];rfl
 exact step_lone_go (by rw [hg,<- Qeb];simp [stepG.apply,hr])
theorem Qz3 (hT:Xo X.P T) (h:Sim X st a C) {o:Oper} {st':St} (e:evalOp T o st=some st'):
  ∃ v C',((execOp a.eval o).run X.P C.w=.ok (.value v) C'.w\/((execOp a.eval o).run X.P C.w=.ok .skip C'.w/\v=undef))/\Sim X st' (a.put o.dst v) C':=by
 unfold evalOp at e
 split at e
 ·rename_i av he
  obtain ⟨v,h1,h2⟩:=pure_run (P:=X.P) (w:=C.w) hT h.val he
  exact ⟨v,C,.inl h1,h.put e h2⟩
 split at e
 ·rename_i av rows he
  rw [<- h.rows] at he
  obtain ⟨C',h1,h2,h3,v,h4,h5⟩:=Qyk hT h.rel h.val he
  subst h1
  exact ⟨v,C',.inl h4,(h.Qdy h3 h2).put e h5⟩
 ·rename_i rows he
  rw [<- h.rows] at he
  obtain ⟨C',h1,h2,h3,h4⟩:=Qyk hT h.rel h.val he
  split at e
  ·rename_i hd
   injection e with e
   subst e
   subst h1
   have hd:o.dst=none:=by simpa using hd
   refine ⟨undef,C',.inr ⟨h4,rfl⟩, ?_⟩
   rw [hd]
   exact h.Qdy h3 h2
  cases e
 cases e
theorem Qx7 {P:Program} {b:Frame} {a:Act} {k:List Item} {cs:List Frame} {w:World} {c:Code}:step P (lone (b.atR a (.code (.scope c) :: k)) cs w)=.next (lone (b.atR a (.code c :: .inScope c :: k)) cs w):=
 step_lone_go (by rfl)
theorem Qvf {P:Program} {b:Frame} {a:Act} {k:List Item} {cs:List Frame} {w:World} {c:Code}:step P (lone (b.atR a (.inScope c :: k)) cs w)=.next (lone (b.atR a k) cs w):=
 step_lone_go (by rfl)
theorem Qj8 (hT:Xo X.P T) {k':List Item} {st':St} (e:Qii T k st=some (k',st')) (h:AK X f k' Q st'):AK X f k Q st:=by
 unfold Qii at e
 split at e
 ·injection e with e;injection e with e1 e2;subst e1;subst e2
  exact Qfz h fun _ _ _ _=>stepR_skip
 ·injection e with e;injection e with e1 e2;subst e1;subst e2
  exact Qfz h fun _ _ _ _=>stepR_seq
 ·injection e with e;injection e with e1 e2;subst e1;subst e2
  exact Qfz h fun _ _ _ _=>stepR_block
 ·injection e with e;injection e with e1 e2;subst e1;subst e2
  exact Qfz h fun _ _ _ _=>stepR_inBlock
 ·injection e with e;injection e with e1 e2;subst e1;subst e2
  exact Qfz h fun _ _ _ _=>stepR_label
 ·injection e with e;injection e with e1 e2;subst e1;subst e2
  exact Qfz h fun _ _ _ _=>Qx7
 ·injection e with e;injection e with e1 e2;subst e1;subst e2
  exact Qfz h fun _ _ _ _=>Qvf
 ·injection e with e;injection e with e1 e2;subst e1;subst e2
  exact Qfz h fun _ _ _ _=>stepR_loop
 ·injection e with e;injection e with e1 e2;subst e1;subst e2
  exact Qfz h fun _ _ _ _=>stepR_inLoop
 ·split at e
  ·rename_i b hb
   injection e with e;injection e with e1 e2;subst e1;subst e2
   refine Qir h fun a C hC b' cs _=>⟨a,C,hC,.one ?_⟩
   have:=(hC.val _ _ hb).Qdd
   rw [stepR_cond this]
   cases b<;>rfl
  cases e
 ·obtain ⟨k2,h1,h2⟩:=Option.map_eq_some_iff.1 e
  injection h2 with e1 e2;subst e1;subst e2
  exact Qfz h fun _ _ _ _=>stepR_exit h1
 ·injection e with e;injection e with e1 e2;subst e1;subst e2
  exact Qfz h fun _ _ _ _=>stepR_region
 ·injection e with e;injection e with e1 e2;subst e1;subst e2
  exact Qfz h fun _ _ _ _=>stepR_region_end
 ·split at e
  ·rename_i o ho
   split at e
   ·rename_i hg
    obtain ⟨st2,h1,h2⟩:=Option.map_eq_some_iff.1 e
    injection h2 with e1 e2;subst e1;subst e2
    refine Qir h fun a C hC b cs _=>?_
    obtain ⟨v,C',hr,hs⟩:=Qz3 hT hC h1
    have hnd:∀ c,o.op≠.defer c:=by intro c hc;simp [evalOp,Qip,Qpx,hc] at h1
    refine ⟨_,C',hs,.one ?_⟩
    rcases hr with hr | ⟨hr,rfl⟩
    ·exact Qgs ho hnd (Qes hC hg) hr
    exact Qmd ho hnd (Qes hC hg) hr
   ·rename_i hg
    obtain ⟨st2,h1,h2⟩:=Option.map_eq_some_iff.1 e
    injection h2 with e1 e2;subst e1;subst e2
    refine Qir h fun a C hC b cs _=>⟨_,C,hC.put (v:=undef) h1 (.Qo .nil),.one ?_⟩
    have:=stepR_op_skip (P:=X.P) (b:=b) (a:=a) (k:=‹List Item›) (cs:=cs) (w:=C.w) (ops:=‹Array Oper›) (i:=‹Nat›) (rest:=‹List Nat›) (by simp [ho,Qes hC hg])
    simpa [ho] using this
   cases e
  cases e
 cases e
theorem Qoj (hT:Xo X.P T):∀ (n:Nat) {k:List Item} {st:St},AK X f (adv T n k st).1 Q (adv T n k st).2->AK X f k Q st
 | 0,_,_,h=>h
 | n+1,k,st,h=>by
  unfold adv at h
  split at h
  ·rename_i k' st' e
   exact Qj8 hT e (Qoj hT n h)
  exact h
theorem Qem (S:List Nat) (h:AK X f k Q (st.only S)):AK X f k Q st:=fun a C hC=>h a C (hC.only S)
theorem go (hT:Xo X.P T) (n:Nat) (S:List Nat) {k':List Item} {st':St} (e:(fun r:List Item × St=>(r.1,r.2.only S)) (adv T n k st)=(k',st')) (h:AK X f k' Q st'):AK X f k Q st:=by
 refine Qoj hT n (Qem S ?_)
 injection e with e1 e2
 rw [e1,e2]
 exact h
end
end Go.Sy
namespace Go.Sy
mutual
def Qdu (ρ:Nat->Nat):AV->AV
 | .d x=>.d x
 | .agg xs=>.agg (Qiq ρ xs)
 | .Qo xs=>.Qo (Qiq ρ xs)
 | .own id k off n=>.own (ρ id) k off n
 | .ptr id k i off=>.ptr (ρ id) k i off
 | .win id off n=>.win (ρ id) off n
 | .fn f xs=>.fn f (Qiq ρ xs)
 | .ifc t x=>.ifc t (Qdu ρ x)
def Qiq (ρ:Nat->Nat):List AV->List AV
 | []=>[]
 | x :: xs=>Qdu ρ x :: Qiq ρ xs
end
def Qdh (ρ:Nat->Nat):Row->Row
 | .flat fz k ty n g=>.flat fz k ty n g
 | .box ty cs=>.box ty (Qiq ρ cs)
 | .mix k ty n g=>.mix k ty n fun i=>Qiq ρ (g i)
 | .gone=>.gone
 | .loop l s fn nt is xs ps asg body=>.loop l s fn nt is (Qiq ρ xs) ps asg body
 | .dfr D=>.dfr D
 | .obj o=>.obj o
theorem Qev (ρ:Nat->Nat) (r:Row) (w:World) (m:Option Nat):(Qdh ρ r).ext w m=r.ext w m:=by cases r<;>rfl
theorem Qiy (ρ:Nat->Nat) (r:Row) (w:World) (m:Option Nat) (b:Nat):(Qdh ρ r).hasB w m b↔r.hasB w m b:=by unfold Row.hasB;rw [Qev]
theorem Qe7 (ρ:Nat->Nat) (r:Row):(Qdh ρ r).live=r.live:=by cases r<;>rfl
theorem Qhh (ρ:Nat->Nat) (r:Row):Qdh ρ r=.gone↔r=.gone:=by cases r<;>simp [Qdh]
section
variable {w:World} {ok ok':Bool->Nat->Prop} {μ μ':List (Option Nat)} {ρ:Nat->Nat}
mutual
theorem Jy.ren (Jh:∀ t b,ok t b->ok' t b) (hρ:∀ (j:Nat) x,μ[j]? = some x->μ'[ρ j]? = some x):∀ {av:AV} {v:Value},Jy w ok μ av v->Jy w ok' μ' (Qdu ρ av) v
 | _,_,.d h=>.d (h.mono Jh fun _ _ _=>rfl)
 | _,_,.agg h=>.agg (Qaq.ren Jh hρ h)
 | _,_,.Qo h=>.Qo (Qbm.ren Jh hρ h)
 | _,_,.Qco h=>.Qco (hρ _ _ h)
 | _,_,.own h h1 h2 h3 h4=>.own (hρ _ _ h) h1 h2 h3 h4
 | _,_,.ptr h=>.ptr (hρ _ _ h)
 | _,_,.win h h1 h2=>.win (hρ _ _ h) h1 h2
 | _,_,.fn h=>.fn (Qaq.ren Jh hρ h)
 | _,_,.ifc h=>.ifc (Jy.ren Jh hρ h)
theorem Qaq.ren (Jh:∀ t b,ok t b->ok' t b) (hρ:∀ (j:Nat) x,μ[j]? = some x->μ'[ρ j]? = some x):∀ {av:List AV} {v:List Value},Qaq w ok μ av v->Qaq w ok' μ' (Qiq ρ av) v
 | _,_,.nil=>.nil
 | _,_,.cons h1 h hs=>.cons h1 (Jy.ren Jh hρ h) (Qaq.ren Jh hρ hs)
theorem Qbm.ren (Jh:∀ t b,ok t b->ok' t b) (hρ:∀ (j:Nat) x,μ[j]? = some x->μ'[ρ j]? = some x):∀ {av:List AV} {v:List Value},Qbm w ok μ av v->Qbm w ok' μ' (Qiq ρ av) v
 | _,_,.nil=>.nil
 | _,_,.cons h hs=>.cons (Jy.ren Jh hρ h) (Qbm.ren Jh hρ hs)
end
mutual
theorem Jy.Qfw (Jh:∀ t b,ok t b->ok' t b) (hρ:∀ (j:Nat) x,μ[ρ j]? = some x->μ'[j]? = some x):∀ {av:AV} {v:Value},Jy w ok μ (Qdu ρ av) v->Jy w ok' μ' av v
 | .d _,_,h=>by simp only [Qdu] at h;cases h with | d h=>exact .d (h.mono Jh fun _ _ _=>rfl)
 | .agg xs,_,h=>by simp only [Qdu] at h;cases h with | agg h=>exact .agg (Qaq.Qfw Jh hρ h)
 | .Qo xs,_,h=>by simp only [Qdu] at h;cases h with | Qo h=>exact .Qo (Qbm.Qfw Jh hρ h)
 | .own id k off n,_,h=>by
  simp only [Qdu] at h
  cases h with
  | Qco h=>exact .Qco (hρ _ _ h)
  | own h h1 h2 h3 h4=>exact .own (hρ _ _ h) h1 h2 h3 h4
 | .ptr id k i off,_,h=>by simp only [Qdu] at h;cases h with | ptr h=>exact .ptr (hρ _ _ h)
 | .win id off n,_,h=>by simp only [Qdu] at h;cases h with | win h h1 h2=>exact .win (hρ _ _ h) h1 h2
 | .fn f xs,_,h=>by simp only [Qdu] at h;cases h with | fn h=>exact .fn (Qaq.Qfw Jh hρ h)
 | .ifc t x,_,h=>by simp only [Qdu] at h;cases h with | ifc h=>exact .ifc (Jy.Qfw Jh hρ h)
theorem Qaq.Qfw (Jh:∀ t b,ok t b->ok' t b) (hρ:∀ (j:Nat) x,μ[ρ j]? = some x->μ'[j]? = some x):∀ {av:List AV} {v:List Value},Qaq w ok μ (Qiq ρ av) v->Qaq w ok' μ' av v
 | [],_,h=>by simp only [Qiq] at h;cases h;exact .nil
 | x :: xs,_,h=>by simp only [Qiq] at h;cases h with | cons h1 h hs=>exact .cons h1 (Jy.Qfw Jh hρ h) (Qaq.Qfw Jh hρ hs)
theorem Qbm.Qfw (Jh:∀ t b,ok t b->ok' t b) (hρ:∀ (j:Nat) x,μ[ρ j]? = some x->μ'[j]? = some x):∀ {av:List AV} {v:List Value},Qbm w ok μ (Qiq ρ av) v->Qbm w ok' μ' av v
 | [],_,h=>by simp only [Qiq] at h;cases h;exact .nil
 | x :: xs,_,h=>by simp only [Qiq] at h;cases h with | cons h hs=>exact .cons (Jy.Qfw Jh hρ h) (Qbm.Qfw Jh hρ hs)
end
theorem Qbv.ren {ob:Option Nat} {r:Row} (h:Qbv w ok μ ob r) (Jh:∀ t b,ok t b->ok' t b) (hρ:∀ (j:Nat) x,μ[j]? = some x->μ'[ρ j]? = some x):Qbv w ok' μ' ob (Qdh ρ r):=by
 cases ob with
 | none=>cases r<;>first | exact h | exact Qik.Qft _ h Jh (fun _ _ _=>rfl) (fun _ _=>rfl) (fun _ _=>rfl)
 | some b=>
  cases r with
  | gone=>trivial
  | loop l s fn nt is xs ps asg body=>
   obtain ⟨h0,T,D,vs,h1,h2,h3,h4⟩:=h
   exact ⟨h0,T,D,vs,h1,h2,h3.ren Jh hρ,h4⟩
  | dfr D=>exact h
  | obj o=>exact o.Qft h Jh (fun _ _ _=>rfl) (fun _ _=>rfl) (fun _ _=>rfl)
  | flat fz k ty n g=>
   obtain ⟨cs,vs,h1,h2,h3,h4,h5⟩:=h
   exact ⟨cs,vs,h1,h2,h3,fun i hi=>(h4 i hi).mono Jh fun _ _ _=>rfl,h5⟩
  | mix k ty n g=>
   obtain ⟨cs,vs,h1,h2,h3,h4,h5⟩:=h
   exact ⟨cs,vs,h1,h2,h3,fun i hi=>(h4 i hi).ren Jh hρ,h5⟩
  | box ty as=>
   obtain ⟨vs,h1,h2⟩:=h
   exact ⟨vs,h1,h2.ren Jh hρ⟩
theorem Qbv.Qfw {ob:Option Nat} {r:Row} (h:Qbv w ok μ ob (Qdh ρ r)) (Jh:∀ t b,ok t b->ok' t b) (hρ:∀ (j:Nat) x,μ[ρ j]? = some x->μ'[j]? = some x):Qbv w ok' μ' ob r:=by
 cases ob with
 | none=>cases r<;>first | exact h | exact Qik.Qft _ h Jh (fun _ _ _=>rfl) (fun _ _=>rfl) (fun _ _=>rfl)
 | some b=>
  cases r with
  | gone=>trivial
  | loop l s fn nt is xs ps asg body=>
   obtain ⟨h0,T,D,vs,h1,h2,h3,h4⟩:=h
   exact ⟨h0,T,D,vs,h1,h2,h3.Qfw Jh hρ,h4⟩
  | dfr D=>exact h
  | obj o=>exact o.Qft h Jh (fun _ _ _=>rfl) (fun _ _=>rfl) (fun _ _=>rfl)
  | flat fz k ty n g=>
   obtain ⟨cs,vs,h1,h2,h3,h4,h5⟩:=h
   exact ⟨cs,vs,h1,h2,h3,fun i hi=>(h4 i hi).mono Jh fun _ _ _=>rfl,h5⟩
  | mix k ty n g=>
   obtain ⟨cs,vs,h1,h2,h3,h4,h5⟩:=h
   exact ⟨cs,vs,h1,h2,h3,fun i hi=>(h4 i hi).Qfw Jh hρ,h5⟩
  | box ty as=>
   obtain ⟨vs,h1,h2⟩:=h
   exact ⟨vs,h1,h2.Qfw Jh hρ⟩
end
def Wt.okR (X:Ctx) (C:Wt) (t:Bool) (b:Nat):Prop:=t=true/\C.ok X true b
structure Qai (X:Ctx) (C:Wt) (ret:AV) (v:Value):Prop where
 rel:Xt X C
 rows:∀ (id:Nat) (ob:Option Nat) (r:Row),C.μ[id]? = some ob->C.rows[id]? = some r->Qbv C.w (C.okR X) C.μ ob r
 ret:Jy C.w (C.okR X) C.μ ret v
def Ctx.Fits (X:Ctx):Prop:=∀ b,X.okp b->b < X.w0.heap.size/\¬ X.Qco b
def Zd (P:Program) (f:FuncId) (Xy:List Row) (args:List AV) (Wl:List Row) (ret:AV):Prop:=
 ∀ (X:Ctx) (vs:List Value),X.P=P->X.Fits->Xt X ⟨X.μ0,Xy,X.w0⟩->Qbm X.w0 ((⟨X.μ0,Xy,X.w0⟩:Wt).ok X) X.μ0 args vs ->
  Calls P f vs.toArray X.w0 fun e w'=>∃ v μ',e=.returned v/\Qai X ⟨μ',Wl,w'⟩ ret v
mutual
inductive Pass (rows:List Row) (ids:List Nat) (ρ:Nat->Nat):AV->AV->Prop
 | same (av:AV):Pass rows ids ρ (Qdu ρ av) av
 | nil (t:Bool) (g:Nat->List DV):Pass rows ids ρ (.d (.v (.slice none 0 0))) (.d (.sl t 0 g))
 | Qds {id k n:Nat} {fz:Bool} {ty:TypeId} {g:Nat->List DV} (h:rows[id]? = some (.flat fz k ty n g)) (hi:ids.contains id=false):Pass rows ids ρ (.own id k 0 n) (.d (.sl fz n g))
 | part {id k off m n:Nat} {fz:Bool} {ty:TypeId} {g:Nat->List DV} (h:rows[id]? = some (.flat fz k ty n g)) (hi:ids.contains id=false) (hm:off+m<=n):
   Pass rows ids ρ (.own id k off m) (.d (.sl fz m fun j=>g (off+j)))
 | winl {id off m m' n:Nat} {fz:Bool} {ty:TypeId} {g:Nat->List DV} (g':Nat->List DV) (h:rows[id]? = some (.flat fz 1 ty n g)) (hi:ids.contains id=false) (hm:off+m<=n) (hl:m'=m) (hg:∀ j,j < m->g' j=g (off+j)):
   Pass rows ids ρ (.win id off m) (.d (.sl fz m' g'))
 | look {id off:Nat} {ty:TypeId} {cs:List DV} (h:rows[id]? = some (.box ty (cs.map .d))) (hi:ids.contains id=false):Pass rows ids ρ (.ptr id 0 0 off) (.d (.rop false 1 (fun _=>cs) 0 off))
 | lookO {id r k n:Nat} {ty te:TypeId} {fz:Bool} {g:Nat->List DV} (h1:rows[id]? = some (.box ty [.own r k 0 n])) (h2:rows[r]? = some (.flat fz k te n g)) (hi:ids.contains id=false) (hj:ids.contains r=false):
   Pass rows ids ρ (.ptr id 0 0 0) (.d (.rop false 1 (fun _=>[.sl fz n g]) 0 0))
 | lookB {id off:Nat} {ty:TypeId} {xs:List AV} {ys:List DV} (h:rows[id]? = some (.box ty xs)) (hi:ids.contains id=false) (hp:Qlv rows ids ρ xs ys):Pass rows ids ρ (.ptr id 0 0 off) (.d (.rop false 1 (fun _=>ys) 0 off))
 | fn (f:FuncId) {xs:List AV} {ys:List DV} (h:Qlv rows ids ρ xs ys):Pass rows ids ρ (.fn f xs) (.d (.fn f ys))
 | agg {xs:List AV} {ys:List DV} (h:Qlv rows ids ρ xs ys):Pass rows ids ρ (.agg xs) (.d (.agg ys))
 | Qs9 {xs:List DV} {ys:List DV} (h:Qlv rows ids ρ (xs.map .d) ys):Pass rows ids ρ (.d (.agg xs)) (.d (.agg ys))
inductive Qlv (rows:List Row) (ids:List Nat) (ρ:Nat->Nat):List AV->List DV->Prop
 | nil:Qlv rows ids ρ [] []
 | cons {x:AV} {y:DV} {xs:List AV} {ys:List DV} (h:Pass rows ids ρ x (.d y)) (hs:Qlv rows ids ρ xs ys):Qlv rows ids ρ (x :: xs) (y :: ys)
end
inductive Qgu (rows:List Row) (ids:List Nat) (ρ:Nat->Nat):List AV->List AV->Prop
 | nil:Qgu rows ids ρ [] []
 | cons {x y:AV} {xs ys:List AV} (h:Pass rows ids ρ x y) (hs:Qgu rows ids ρ xs ys):Qgu rows ids ρ (x :: xs) (y :: ys)
def Qas (ids:List Nat) (base:Nat) (j:Nat):Nat:=if j < ids.length then ids.getD j 0 else base+(j - ids.length)
def Qfi (rows:List Row):List Nat->List Row->List Row
 | id :: ids,r :: rs=>Qfi (rows.set id r) ids rs
 | _,_=>rows
def Qb0 (rows:List Row) (ids:List Nat) (Wl:List Row):List Row:=
 Qfi rows ids ((Wl.take ids.length).map (Qdh (Qas ids rows.length))) ++ (Wl.drop ids.length).map (Qdh (Qas ids rows.length))
theorem Qhd:∀ (ids:List Nat) (rs:List Row) (rows:List Row),(Qfi rows ids rs).length=rows.length
 | [],_,_=>by simp [Qfi]
 | _ :: _,[],_=>by simp [Qfi]
 | id :: ids,r :: rs,rows=>by simp [Qfi,Qhd ids rs]
theorem Qkm:∀ (ids:List Nat) (rs:List Row) (rows:List Row) (i:Nat),i ∉ ids->(Qfi rows ids rs)[i]? = rows[i]?
 | [],_,_,_,_=>by simp [Qfi]
 | _ :: _,[],_,_,_=>by simp [Qfi]
 | id :: ids,r :: rs,rows,i,h=>by
  simp only [List.mem_cons,not_or] at h
  rw [Qfi,Qkm ids rs _ i h.2,List.getElem?_set_ne (Ne.symm h.1)]
theorem setRows_at:∀ (ids:List Nat) (rs:List Row) (rows:List Row),ids.Nodup->(∀ i∈ids,i < rows.length)->∀ (j:Nat) id r,ids[j]? = some id->rs[j]? = some r->(Qfi rows ids rs)[id]? = some r
 | [],_,_,_,_,_,_,_,h,_=>by simp at h
 | _ :: _,[],_,_,_,_,_,_,_,h=>by simp at h
 | id :: ids,r :: rs,rows,hn,hl,0,id',r',h1,h2=>by
  simp at h1 h2
  subst h1
  subst h2
  rw [Qfi,Qkm _ _ _ _ (List.nodup_cons.1 hn).1]
  simp [hl id (List.mem_cons_self ..)]
 | id :: ids,r :: rs,rows,hn,hl,j+1,id',r',h1,h2=>by
  rw [Qfi]
  exact setRows_at ids rs _ (List.nodup_cons.1 hn).2 (fun i hi=>by simpa using hl i (List.mem_cons_of_mem _ hi)) j id' r' (by simpa using h1) (by simpa using h2)
section
variable {X:Ctx} {C:Wt}
def Qaa (X:Ctx) (C:Wt) (ids:List Nat):Ctx:={ P:=X.P,w0:=C.w,μ0:=ids.map fun i=>(C.μ[i]?).getD none,okp:=C.ok X true,ext0:=(fun b=>∃ (id:Nat) (m:Option Nat) (r:Row),id∈ids/\C.μ[id]? = some m/\C.rows[id]? = some r/\b∈r.ext C.w m) }
structure Qby (rows:List Row) (ids:List Nat) (Xy:List Row):Prop where
 nodup:ids.Nodup
 len:ids.length=Xy.length
 rows:∀ (j id:Nat) (r:Row),ids[j]? = some id->Xy[j]? = some r->rows[id]? = some (Qdh (Qas ids rows.length) r)/\r.live=true
variable {ids:List Nat} {Xy:List Row}
theorem Qkd {ids:List Nat} {base j id:Nat} (h:ids[j]? = some id):Qas ids base j=id:=by
 have:=(List.getElem?_eq_some_iff.1 h).1
 simp only [Qas,this,if_true,List.getD_eq_getElem?_getD,h,Option.getD_some]
theorem Qht (h:Xt X C) (hh:Qby C.rows ids Xy) {j:Nat} {x:Option Nat}:(Qaa X C ids).μ0[j]? = some x↔∃ id,ids[j]? = some id/\C.μ[id]? = some x:=by
 simp only [Qaa,List.getElem?_map,Option.map_eq_some_iff]
 constructor
 ·rintro ⟨id,h1,h2⟩
  refine ⟨id,h1, ?_⟩
  have hj:=(List.getElem?_eq_some_iff.1 h1).1
  rw [hh.len] at hj
  obtain ⟨hr,_⟩:=hh.rows j id _ h1 (List.getElem?_eq_getElem hj)
  obtain ⟨y,hy⟩:=h.Qeh hr
  rw [hy] at h2 ⊢
  simpa using h2
 rintro ⟨id,h1,h2⟩
 exact ⟨id,h1,by simp [h2]⟩
theorem Qq2 (h:Xt X C) (hh:Qby C.rows ids Xy) {j:Nat} {x:Option Nat} (e:C.μ[Qas ids C.rows.length j]? = some x):(Qaa X C ids).μ0[j]? = some x:=by
 rw [Qht h hh]
 by_cases hj:j < ids.length
 ·refine ⟨ids[j],List.getElem?_eq_getElem hj, ?_⟩
  rwa [Qkd (List.getElem?_eq_getElem hj)] at e
 have:=(List.getElem?_eq_some_iff.1 e).1
 simp only [Qas,hj,if_false] at this
 have:=h.len
 omega
theorem Qpy (hh:Qby C.rows ids Xy) {j id:Nat} (h1:ids[j]? = some id):∃ r,Xy[j]? = some r/\C.rows[id]? = some (Qdh (Qas ids C.rows.length) r)/\r.live=true:=by
 have hj:=(List.getElem?_eq_some_iff.1 h1).1
 rw [hh.len] at hj
 obtain ⟨hr,hl⟩:=hh.rows j id _ h1 (List.getElem?_eq_getElem hj)
 exact ⟨_,List.getElem?_eq_getElem hj,hr,hl⟩
theorem Qmv (h:Xt X C) (hh:Qby C.rows ids Xy) {b:Nat}:(Qaa X C ids).Qco b↔∃ (j id:Nat) (m:Option Nat) (r:Row),ids[j]? = some id/\C.μ[id]? = some m/\C.rows[id]? = some r/\r.hasB C.w m b:=by
 unfold Ctx.Qco
 rw [List.mem_iff_getElem?]
 constructor
 ·rintro (⟨j,hj⟩ | ⟨_,id,m,r,h1,h2,h3,h4⟩)
  ·obtain ⟨id,h1,h2⟩:=(Qht h hh).1 hj
   obtain ⟨r,_,h3,_⟩:=Qpy hh h1
   exact ⟨j,id,some b,_,h1,h2,h3,.inl rfl⟩
  obtain ⟨j,hj⟩:=List.mem_iff_getElem?.1 h1
  exact ⟨j,id,m,r,hj,h2,h3,.inr h4⟩
 rintro ⟨j,id,m,r,h1,h2,h3,h4⟩
 rcases h4 with h4 | h4
 ·subst h4
  exact .inl ⟨j,(Qht h hh).2 ⟨id,h1,h2⟩⟩
 refine .inr ⟨?_,id,m,r,List.mem_of_getElem? h1,h2,h3,h4⟩
 intro e
 have:=List.mem_of_getElem? h1
 simp only [Qaa,List.map_eq_nil_iff] at e
 rw [e] at this
 cases this
theorem Qlf (h:Xt X C) (hh:Qby C.rows ids Xy) {b:Nat} (e:(Qaa X C ids).Qco b):C.live b:=by
 obtain ⟨j,id,m,r,h1,h2,h3,h4⟩:=(Qmv h hh).1 e
 obtain ⟨s,_,h5,h6⟩:=Qpy hh h1
 rw [h3] at h5
 injection h5 with h5
 subst h5
 exact ⟨id,m,_,h2,h3,by rw [Qe7];exact h6,h4⟩
theorem Qle (h:Xt X C) (hh:Qby C.rows ids Xy):(Qaa X C ids).Fits:=fun _ hb=>⟨hb.1,fun ho=>hb.2.1 (Qlf h hh ho)⟩
def Qcq (X:Ctx) (C:Wt) (ids:List Nat) (Xy:List Row):Wt:=⟨(Qaa X C ids).μ0,Xy,C.w⟩
theorem Qu6 (h:Xt X C) (hh:Qby C.rows ids Xy) {b:Nat} (e:(Qcq X C ids Xy).live b):C.live b:=by
 obtain ⟨j,m,r,h1,h2,h3,h6⟩:=e
 obtain ⟨id,h4,h5⟩:=(Qht h hh).1 h1
 obtain ⟨h7,_⟩:=hh.rows j id r h4 h2
 exact ⟨id,m,_,h5,h7,by rw [Qe7];exact h3,(Qiy _ _ _ _ _).2 h6⟩
theorem Qmu (h:Xt X C) (hh:Qby C.rows ids Xy):∀ t b,C.ok X t b->(Qcq X C ids Xy).ok (Qaa X C ids) t b:=
 fun t b ⟨h1,h2,h3⟩=>⟨h1,fun e=>h2 (Qu6 h hh e),fun ht=>.inl ⟨h1,h2,fun _=>h3 ht⟩⟩
theorem Qmw (h:Xt X C) (hh:Qby C.rows ids Xy):Xt (Qaa X C ids) (Qcq X C ids Xy):=by
 have Qgm:∀ {i:Nat} {m:Option Nat} {r:Row},(Qcq X C ids Xy).μ[i]? = some m->(Qcq X C ids Xy).rows[i]? = some r->∃ id,ids[i]? = some id/\C.μ[id]? = some m/\C.rows[id]? = some (Qdh (Qas ids C.rows.length) r)/\r.live=true:=by
  intro i m r h1 h2
  obtain ⟨id,e1,e2⟩:=(Qht h hh).1 h1
  have k1:=hh.rows i id r e1 h2
  exact ⟨id,e1,e2,k1.1,k1.2⟩
 have hinj:∀ {i j id:Nat},ids[i]? = some id->ids[j]? = some id->i=j:=by
  intro i j id e1 e3
  have i1:=(List.getElem?_eq_some_iff.1 e1).1
  exact (List.getElem?_inj i1 hh.nodup).1 (e1.trans e3.symm)
 refine ⟨by simp [Qcq,Qaa,hh.len],rfl,rfl,⟨rfl,Nat.le_refl _⟩,Nat.le_refl _,fun _ _ _=>rfl,fun _ _ _ k=>⟨_,k,rfl⟩,fun _ _ k=>k, ?_, ?_, ?_, ?_, ?_⟩
 ·intro j b hb
  obtain ⟨id,h1,h2⟩:=(Qht h hh).1 hb
  obtain ⟨r,_,h3,_⟩:=Qpy hh h1
  exact ⟨.inl ((Qmv h hh).2 ⟨j,id,some b,_,h1,h2,h3,.inl rfl⟩),(h.place id b h2).2⟩
 ·intro i j b r s h1 h2 h3 h4 h5 h6
  obtain ⟨id,e1,e2,k1,_⟩:=Qgm h1 h3
  obtain ⟨jd,e3,e4,k2,_⟩:=Qgm h2 h4
  have:=h.apart id jd b _ _ e2 e4 k1 k2 (by rw [Qe7];exact h5) (by rw [ne_eq,Qhh];exact h6)
  subst this
  exact hinj e1 e3
 ·intro i m b r h1 h2 h3
  obtain ⟨id,e1,e2,k1,_⟩:=Qgm h1 h2
  have h3':b∈(Qdh (Qas ids C.rows.length) r).ext C.w m:=by rw [Qev];exact h3
  exact ⟨.inl ((Qmv h hh).2 ⟨i,id,m,_,e1,e2,k1,.inr h3'⟩),(h.Qbq id m b _ e2 k1 h3').2⟩
 ·intro i j m n b r s h1 h2 h3 h4 h5 h6
  obtain ⟨id,e1,e2,k1,_⟩:=Qgm h1 h3
  obtain ⟨jd,e3,e4,k2,_⟩:=Qgm h2 h4
  have h5':b∈(Qdh (Qas ids C.rows.length) r).ext C.w m:=by rw [Qev];exact h5
  have:=h.Qa8 id jd m n b _ _ e2 e4 k1 k2 h5' (by rw [ne_eq,Qhh];exact h6)
  refine ⟨this.1,fun h7=>?_⟩
  have:=this.2 (by rw [Qev];exact h7)
  subst this
  exact hinj e1 e3
 intro j ob r h1 h2
 obtain ⟨id,e1,e2⟩:=(Qht h hh).1 h1
 have k1:=hh.rows j id r e1 h2
 exact (h.rel id ob _ e2 k1.1).Qfw (Qmu h hh) (fun _ _ e=>Qq2 h hh e)
theorem hblk (h:Xt X C) (hh:Qby C.rows ids Xy) {id b:Nat} {r:Row} (hr:C.rows[id]? = some r) (hμ:C.μ[id]? = some (some b)) (hi:ids.contains id=false) (hg:r≠.gone):¬ (Qcq X C ids Xy).live b:=by
 rintro ⟨j,m,s,e1,e2,e3,e6⟩
 obtain ⟨jd,e4,e5⟩:=(Qht h hh).1 e1
 have k1:=hh.rows j jd s e4 e2
 have:=h.Qfe e5 hμ k1.1 hr (by rw [Qe7];exact e3) hg ((Qiy _ _ _ _ _).2 e6) (.inl rfl)
 subst this
 have:=List.mem_of_getElem? e4
 simp at hi
 exact hi this
theorem Wi1 (h:Xt X C) (hh:Qby C.rows ids Xy) {id b:Nat} {fz:Bool} {k:Nat} {ty:TypeId} {n:Nat} {g:Nat->List DV} (hr:C.rows[id]? = some (.flat fz k ty n g)) (hμ:C.μ[id]? = some (some b))
  (hi:ids.contains id=false):(Qcq X C ids Xy).ok (Qaa X C ids) fz b:=by
 refine ⟨(h.place id b hμ).2,hblk h hh hr hμ hi (by simp),fun ht=>.inl ⟨(h.place id b hμ).2, ?_,fun _=>.inr (h.place id b hμ).1⟩⟩
 subst ht
 rintro ⟨j,m,s,e1,e2,e3,e4⟩
 have:=h.Qfe e1 hμ e2 hr e3 (by simp) e4 (.inl rfl)
 subst this
 rw [hr] at e2
 injection e2 with e2
 subst e2
 cases e3
theorem VR.congr {w:World} {ok:Bool->Nat->Prop} {t:Bool} {m:Nat} {g g':Nat->List DV} {v:Value} (h:VR w ok (.sl t m g) v) (hg:∀ j,j < m->g' j=g j):VR w ok (.sl t m g') v:=by
 cases h with
 | sl0=>exact .sl0
 | sl k vs h0 hc Jh hl hr hm=>exact .sl k vs h0 hc Jh hl (fun i hi=>by rw [hg i hi];exact hr i hi) hm
theorem Qvn (h:Xt X C) (hh:Qby C.rows ids Xy) {id k n off m b:Nat} {fz:Bool} {ty:TypeId} {g:Nat->List DV} (hr:C.rows[id]? = some (.flat fz k ty n g)) (hμ:C.μ[id]? = some (some b))
  (hi:ids.contains id=false) (hm:off+m<=n) (c:Nat) (hc:m<=c):VR C.w ((Qcq X C ids Xy).ok (Qaa X C ids)) (.sl fz m fun j=>g (off+j)) (.slice (some ⟨b,off * k,none⟩) m c):=by
 obtain ⟨cs,vs,h1,h2,h3,h4,h5⟩:=h.rel id _ _ hμ hr
 rcases Nat.eq_zero_or_pos m with h0 | h0
 ·subst h0;exact .sl0
 refine .sl k (fun i=>vs (off+i)) h0 hc (Wi1 h hh hr hμ hi) (fun i hi=>h3 _ (by omega)) (fun i hi=>(h4 _ (by omega)).mono (Qmu h hh) (fun _ _ _=>rfl)) ?_
 intro i j v hi hj
 rw [cell_of_row _ _ _ _ _ _ h1]
 have:=h5 (off+i) j v (by omega) hj
 rwa [Nat.add_mul] at this
mutual
theorem Qrt (h:Xt X C) (hh:Qby C.rows ids Xy):∀ {x y:AV} {v:Value},Pass C.rows ids (Qas ids C.rows.length) x y->Jy C.w (C.ok X) C.μ x v ->
  Jy C.w ((Qcq X C ids Xy).ok (Qaa X C ids)) (Qaa X C ids).μ0 y v
 | _,_,_,.same av,k=>k.Qfw (Qmu h hh) (fun _ _ e=>Qq2 h hh e)
 | _,_,_,.nil t g,k=>by rw [k.Qdd];exact .d .sl0
 | _,_,v,.Qds hr hi,k=>by
  cases k with
  | Qco hμ=>exact .d .sl0
  | own hμ hb hs hn hc=>
   have:=Qvn h hh hr hμ hi (off:=0) (m:=_) (by simp) _ hn
   simp only [Nat.zero_add] at this
   exact .d this
 | _,_,v,.part hr hi hm,k=>by
  cases k with
  | Qco hμ=>exact .d .sl0
  | own hμ hb hs hn hc=>exact .d (Qvn h hh hr hμ hi hm _ hn)
 | _,_,v,.winl g' hr hi hm hl hg,k=>by
  subst hl
  cases k with
  | win hμ hn hc=>
   have:=Qvn h hh hr hμ hi hm _ hn
   rw [Nat.mul_one] at this
   exact .d (this.congr hg)
 | _,_,v,.look (id:=id) (off:=off) (ty:=ty) (cs:=cs) hr hi,k=>by
  obtain ⟨b,hμ,rfl⟩:=k.Qgr
  obtain ⟨vs,h1,h2⟩:=h.rel id _ _ hμ hr
  have Qrn:=hblk h hh hr hμ hi (by simp)
  have hv:=h2.toD.mono (Qmu h hh) (fun _ _ _=>rfl)
  have:=VR.rop (w:=C.w) (ok:=(Qcq X C ids Xy).ok (Qaa X C ids)) (t:=false) (n:=1) (g:=fun _=>cs) (i:=0) (off:=off) (b:=b) (o:=0) vs.length (fun _=>vs) (by omega)
   ⟨(h.place id b hμ).2,Qrn,fun e=>by cases e⟩ (fun _ _=>rfl) (fun _ _=>hv) (fun i j v hi hj=>by
    have hi:i=0:=by omega
    subst hi
    rw [cell_of_row _ _ _ _ _ _ h1]
    simpa using hj)
  simp only [Nat.zero_mul,Nat.zero_add] at this ⊢
  exact .d this
 | _,_,v,.lookO (id:=id) (r:=r) (k:=kk) (n:=n) (fz:=fz) (g:=g) hr hr2 hi hj,k=>by
  obtain ⟨b,hμ,rfl⟩:=k.Qgr
  obtain ⟨vs,h1,h2⟩:=h.rel id _ _ hμ hr
  have Qrn:=hblk h hh hr hμ hi (by simp)
  have hv:∀ n0,n0=n->VRs C.w ((Qcq X C ids Xy).ok (Qaa X C ids)) [.sl fz n g] vs:=by
   intro n0 hn0
   subst hn0
   cases h2 with
   | cons o1 o2 o3=>
    cases o3
    refine .cons o1 ?_ .nil
    generalize hn:n0=m at o2
    cases o2 with
    | Qco hμ2=>subst hn;exact .sl0
    | own hμ2 hb hs hnc hc=>
     subst hn
     have:=Qvn h hh hr2 hμ2 hj (off:=0) (m:=n0) (by simp) _ hnc
     simp only [Nat.zero_add] at this
     exact this
  have:=VR.rop (w:=C.w) (ok:=(Qcq X C ids Xy).ok (Qaa X C ids)) (t:=false) (n:=1) (g:=fun _=>[.sl fz n g]) (i:=0) (off:=0) (b:=b) (o:=0) vs.length (fun _=>vs) (by omega)
   ⟨(h.place id b hμ).2,Qrn,fun e=>by cases e⟩ (fun _ _=>rfl) (fun _ _=>hv n rfl) (fun i j v hi hj=>by
    have hi:i=0:=by omega
    subst hi
    rw [cell_of_row _ _ _ _ _ _ h1]
    simpa using hj)
  simp only [Nat.zero_mul,Nat.zero_add] at this ⊢
  exact .d this
 | _,_,v,.lookB (id:=id) (off:=off) (ys:=ys) hr hi hp,k=>by
  obtain ⟨b,hμ,rfl⟩:=k.Qgr
  obtain ⟨vs,h1,h2⟩:=h.rel id _ _ hμ hr
  have Qrn:=hblk h hh hr hμ hi (by simp)
  have hv:=Qke h hh hp h2
  have:=VR.rop (w:=C.w) (ok:=(Qcq X C ids Xy).ok (Qaa X C ids)) (t:=false) (n:=1) (g:=fun _=>ys) (i:=0) (off:=off) (b:=b) (o:=0) vs.length (fun _=>vs) (by omega)
   ⟨(h.place id b hμ).2,Qrn,fun e=>by cases e⟩ (fun _ _=>rfl) (fun _ _=>hv) (fun i j v hi hj=>by
    have hi:i=0:=by omega
    subst hi
    rw [cell_of_row _ _ _ _ _ _ h1]
    simpa using hj)
  simp only [Nat.zero_mul,Nat.zero_add] at this ⊢
  exact .d this
 | _,_,_,.fn f p,.fn k=>.d (.fn (Qke h hh p k))
 | _,_,_,.agg p,.agg k=>.d (.agg (Qke h hh p k))
 | _,_,_,.Qs9 p,.d (.agg k)=>.d (.agg (Qke h hh p k.toA))
theorem Qke (h:Xt X C) (hh:Qby C.rows ids Xy):∀ {xs:List AV} {ys:List DV} {vs:List Value},Qlv C.rows ids (Qas ids C.rows.length) xs ys->Qaq C.w (C.ok X) C.μ xs vs ->
  VRs C.w ((Qcq X C ids Xy).ok (Qaa X C ids)) ys vs
 | _,_,_,.nil,.nil=>.nil
 | _,_,_,.cons p ps,.cons h1 k ks=>.cons h1 (by cases Qrt h hh p k with | d r=>exact r) (Qke h hh ps ks)
end
theorem Qh0 (h:Xt X C) (hh:Qby C.rows ids Xy):∀ {xs ys:List AV} {vs:List Value},Qgu C.rows ids (Qas ids C.rows.length) xs ys->Qbm C.w (C.ok X) C.μ xs vs ->
  Qbm C.w ((Qcq X C ids Xy).ok (Qaa X C ids)) (Qaa X C ids).μ0 ys vs
 | _,_,_,.nil,.nil=>.nil
 | _,_,_,.cons p ps,.cons k ks=>.cons (Qrt h hh p k) (Qh0 h hh ps ks)
def Qbc (C:Wt) (ids:List Nat) (μ':List (Option Nat)) (Wl:List Row) (w':World):Wt:=
 ⟨C.μ ++ μ'.drop ids.length,Qb0 C.rows ids Wl,w'⟩
section
variable {μ':List (Option Nat)} {Wl:List Row} {w':World} {ret:AV} {v:Value}
theorem Qsd (h:Xt X C) (hh:Qby C.rows ids Xy) (hd:Xt (Qaa X C ids) ⟨μ',Wl,w'⟩):ids.length<=μ'.length:=by
 rcases Nat.lt_or_ge μ'.length ids.length with hlt | hge
 ·have hj:μ'.length < Xy.length:=by rw [<- hh.len];exact hlt
  obtain ⟨hr,_⟩:=hh.rows μ'.length _ _ (List.getElem?_eq_getElem hlt) (List.getElem?_eq_getElem hj)
  obtain ⟨y,hy⟩:=h.Qeh hr
  have:=hd.first μ'.length y ((Qht h hh).2 ⟨_,List.getElem?_eq_getElem hlt,hy⟩)
  have:=(List.getElem?_eq_some_iff.1 this).1
  simp at this
 exact hge
theorem Qtg (h:Xt X C) (hh:Qby C.rows ids Xy) (hd:Xt (Qaa X C ids) ⟨μ',Wl,w'⟩) (j:Nat) (x:Option Nat) (e:μ'[j]? = some x):
  (Qbc C ids μ' Wl w').μ[Qas ids C.rows.length j]? = some x:=by
 by_cases hj:j < ids.length
 ·have hj':j < Xy.length:=by rw [<- hh.len];exact hj
  obtain ⟨hr,_⟩:=hh.rows j _ _ (List.getElem?_eq_getElem hj) (List.getElem?_eq_getElem hj')
  obtain ⟨y,hy⟩:=h.Qeh hr
  have h1:=hd.first j y ((Qht h hh).2 ⟨_,List.getElem?_eq_getElem hj,hy⟩)
  have e':μ'[j]? = some y:=h1
  rw [e] at e'
  injection e' with e'
  subst e'
  rw [Qkd (List.getElem?_eq_getElem hj)]
  exact (by rw [Qbc,List.getElem?_append_left (List.getElem?_eq_some_iff.1 hy).1];exact hy)
 simp only [Qas,hj,if_false,Qbc]
 rw [<- h.len,List.getElem?_append_right (by omega),List.getElem?_drop,show ids.length+(C.μ.length+(j - ids.length) - C.μ.length)=j from by omega]
 exact e
theorem Wdd (hh:Qby C.rows ids Xy):∀ i∈ids,i < C.rows.length:=by
 intro i hi
 obtain ⟨j,hj,rfl⟩:=List.mem_iff_getElem.1 hi
 have hj':j < Xy.length:=by rw [<- hh.len];exact hj
 exact (List.getElem?_eq_some_iff.1 (hh.rows j _ _ (List.getElem?_eq_getElem hj) (List.getElem?_eq_getElem hj')).1).1
theorem We7 (h:Xt X C) (hh:Qby C.rows ids Xy) (hd:Xt (Qaa X C ids) ⟨μ',Wl,w'⟩) (j:Nat) (r:Row) (e:Wl[j]? = some r):
  (Qbc C ids μ' Wl w').rows[Qas ids C.rows.length j]? = some (Qdh (Qas ids C.rows.length) r):=by
 have hl:(Qfi C.rows ids ((Wl.take ids.length).map (Qdh (Qas ids C.rows.length)))).length=C.rows.length:=Qhd ..
 by_cases hj:j < ids.length
 ·have hid:=Wdd hh ids[j] (List.getElem_mem hj)
  rw [Qkd (List.getElem?_eq_getElem hj)]
  simp only [Qbc,Qb0]
  rw [List.getElem?_append_left (by omega)]
  refine setRows_at _ _ _ hh.nodup (Wdd hh) j _ _ (List.getElem?_eq_getElem hj) ?_
  rw [List.getElem?_map,List.getElem?_take_of_lt hj,e]
  rfl
 simp only [Qas,hj,if_false,Qbc,Qb0]
 rw [List.getElem?_append_right (by omega),hl,List.getElem?_map,List.getElem?_drop,show ids.length+(C.rows.length+(j - ids.length) - C.rows.length)=j from by omega,e]
 rfl
theorem Qgw (h:Xt X C) (hh:Qby C.rows ids Xy) (hd:Xt (Qaa X C ids) ⟨μ',Wl,w'⟩) {i:Nat} {ob:Option Nat} {r:Row}
  (h1:(Qbc C ids μ' Wl w').μ[i]? = some ob) (h2:(Qbc C ids μ' Wl w').rows[i]? = some r):
  (i ∉ ids/\C.μ[i]? = some ob/\C.rows[i]? = some r)\/∃ j s,i=Qas ids C.rows.length j/\μ'[j]? = some ob/\Wl[j]? = some s/\r=Qdh (Qas ids C.rows.length) s:=by
 have hlen:μ'.length=Wl.length:=hd.len
 have hf:=Qsd h hh hd
 have hl:(Qfi C.rows ids ((Wl.take ids.length).map (Qdh (Qas ids C.rows.length)))).length=C.rows.length:=Qhd ..
 by_cases hi:i < C.rows.length
 ·by_cases hm:i∈ids
  ·right
   obtain ⟨j,hj,rfl⟩:=List.mem_iff_getElem.1 hm
   have hj2:j < Wl.length:=by omega
   have e:=We7 h hh hd j _ (List.getElem?_eq_getElem hj2)
   have e2:=Qtg h hh hd j _ (List.getElem?_eq_getElem (show j < μ'.length by omega))
   rw [Qkd (List.getElem?_eq_getElem hj)] at e e2
   rw [e] at h2
   rw [e2] at h1
   injection h1 with h1
   injection h2 with h2
   exact ⟨j,_,(Qkd (List.getElem?_eq_getElem hj)).symm,by rw [List.getElem?_eq_getElem (show j < μ'.length by omega),h1],List.getElem?_eq_getElem hj2,h2.symm⟩
  left
  simp only [Qbc,Qb0] at h1 h2
  rw [List.getElem?_append_left (by rw [h.len];exact hi)] at h1
  rw [List.getElem?_append_left (by rw [hl];exact hi),Qkm _ _ _ _ hm] at h2
  exact ⟨hm,h1,h2⟩
 right
 simp only [Qbc,Qb0] at h1 h2
 rw [List.getElem?_append_right (by rw [h.len];omega),List.getElem?_drop] at h1
 rw [List.getElem?_append_right (by omega),hl,List.getElem?_map,List.getElem?_drop,Option.map_eq_some_iff] at h2
 obtain ⟨s,h3,h4⟩:=h2
 refine ⟨ids.length+(i - C.rows.length),s, ?_, ?_,h3,h4.symm⟩
 ·simp only [Qas]
  rw [if_neg (by omega)]
  omega
 rw [h.len] at h1
 exact h1
theorem Qgi (h:Xt X C) (hh:Qby C.rows ids Xy) {i b:Nat} {m:Option Nat} {r:Row} (hi:i ∉ ids) (hμ:C.μ[i]? = some m) (hr:C.rows[i]? = some r) (hg:r≠.gone) (hb:r.hasB C.w m b):¬ (Qaa X C ids).Qco b:=by
 intro ho
 obtain ⟨j,id,n,s,h1,h2,h3,h4⟩:=(Qmv h hh).1 ho
 obtain ⟨q,_,k1,k2⟩:=Qpy hh h1
 rw [h3] at k1
 injection k1 with k1
 subst k1
 have:=h.Qfe h2 hμ h3 hr (by rw [Qe7];exact k2) hg h4 hb
 subst this
 exact hi (List.mem_of_getElem? h1)
theorem Qhf (h:Xt X C) (hh:Qby C.rows ids Xy) (hd:Xt (Qaa X C ids) ⟨μ',Wl,w'⟩) {i:Nat} {m:Option Nat} {r:Row} (hi:i ∉ ids) (hμ:C.μ[i]? = some m) (hr:C.rows[i]? = some r) (hg:r≠.gone):
  (∀ k,m=some k->w'.heap[k]? = C.w.heap[k]?)/\∀ c∈r.ext C.w m,w'.heap[c]? = C.w.heap[c]?:=
 ⟨fun k e=>hd.keep k (h.place i k (e▸hμ)).2 (Qgi h hh hi hμ hr hg (.inl e)),fun c hc=>hd.keep c (h.Qbq i m c r hμ hr hc).2 (Qgi h hh hi hμ hr hg (.inr hc))⟩
theorem Qt5 (h:Xt X C) (hh:Qby C.rows ids Xy) (hd:Xt (Qaa X C ids) ⟨μ',Wl,w'⟩) {b:Nat} (e:(Qbc C ids μ' Wl w').live b):
  (∃ (i:Nat) (m:Option Nat) (r:Row),i ∉ ids/\C.μ[i]? = some m/\C.rows[i]? = some r/\r.live=true/\r.hasB C.w m b)\/(⟨μ',Wl,w'⟩:Wt).live b:=by
 obtain ⟨i,m,r,h1,h2,h3,h4⟩:=e
 rcases Qgw h hh hd h1 h2 with ⟨k1,k2,k3⟩ | ⟨j,s,rfl,k2,k3,rfl⟩
 ·obtain ⟨q1,q2⟩:=Qhf h hh hd k1 k2 k3 (by rintro rfl;cases h3)
  exact .inl ⟨i,m,r,k1,k2,k3,h3,(Row.Qgz r q1 q2).1 h4⟩
 exact .inr ⟨j,m,s,k2,k3,by rwa [Qe7] at h3,(Qiy _ _ _ _ _).1 h4⟩
theorem Qk5 (h:Xt X C) (hh:Qby C.rows ids Xy) (hd:Xt (Qaa X C ids) ⟨μ',Wl,w'⟩):Ev X C (Qbc C ids μ' Wl w'):=by
 refine ⟨hd.size,fun b hb hl=>hd.keep b hb (fun ho=>hl (Qlf h hh ho)), ?_,hd.shape,fun id x hx=>by rw [Qbc,List.getElem?_append_left (List.getElem?_eq_some_iff.1 hx).1];exact hx⟩
 intro b hb hl e
 rcases Qt5 h hh hd e with ⟨i,m,r,_,k2,k3,k4,k5⟩ | ⟨j,m,s,k2,k3,k4,k5⟩
 ·exact hl ⟨i,m,r,k2,k3,k4,k5⟩
 rcases (hd.Qlo k2 k3 k5).1 with ho | ho
 ·exact hl (Qlf h hh ho)
 have:C.w.heap.size<=b:=ho
 omega
theorem Ql8 (h:Xt X C) (hh:Qby C.rows ids Xy) {b:Nat} (k:(Qaa X C ids).Qco b):(X.Qco b\/X.w0.heap.size<=b)/\b < C.w.heap.size:=by
 obtain ⟨j,id,m,r,k1,k2,k3,k4⟩:=(Qmv h hh).1 k
 exact h.Qlo k2 k3 k4
theorem Qya (h:Xt X C) (hh:Qby C.rows ids Xy) (hd:Xt (Qaa X C ids) ⟨μ',Wl,w'⟩):∀ t b,(⟨μ',Wl,w'⟩:Wt).okR (Qaa X C ids) t b->(Qbc C ids μ' Wl w').ok X t b:=by
 rintro t b ⟨ht,h1,h2,h3⟩
 refine ⟨h1, ?_,fun _=>?_⟩
 ·intro e
  rcases Qt5 h hh hd e with ⟨i,m,r,k1,k2,k3,k4,k5⟩ | e
  ·rcases h3 rfl with h3 | h3 | h3
   ·exact h3.2.1 ⟨i,m,r,k2,k3,k4,k5⟩
   ·exact Qgi h hh k1 k2 k3 (by rintro rfl;cases k4) k5 h3
   have:=(h.Qlo k2 k3 k5).2
   have:C.w.heap.size<=b:=h3
   omega
  exact h2 e
 rcases h3 rfl with h3 | h3 | h3
 ·exact h3.2.2 rfl
 ·exact .inr (Ql8 h hh h3).1
 exact .inr (.inr (Nat.le_trans h.size h3))
theorem Qld (h:Xt X C) (hh:Qby C.rows ids Xy) (hd:Qai (Qaa X C ids) ⟨μ',Wl,w'⟩ ret v):Xt X (Qbc C ids μ' Wl w'):=by
 have hr:=hd.rel
 have ev:=Qk5 h hh hr
 have hlen:μ'.length=Wl.length:=hr.len
 have hf:=Qsd h hh hr
 refine ⟨?_,hr.os.trans h.os,hr.tape.trans h.tape,⟨hr.output.1.trans h.output.1,Nat.le_trans h.output.2 hr.output.2⟩,Nat.le_trans h.size ev.size, ?_, ?_, ?_, ?_, ?_, ?_, ?_, ?_⟩
 ·simp only [Qbc,Qb0,List.length_append,List.length_drop,List.length_map,Qhd,h.len,hlen]
 ·intro b hb ho
  rw [<- h.keep b hb ho]
  refine hr.keep b (Nat.lt_of_lt_of_le hb h.size) ?_
  intro ho'
  rcases (Ql8 h hh ho').1 with k | k
  ·exact ho k
  omega
 ·intro b cs ty hc
  obtain ⟨cs',h1,h2⟩:=h.shape b cs ty hc
  obtain ⟨cs2,h3,h4⟩:=hr.shape b cs' ty h1
  exact ⟨cs2,h3,h4.trans h2⟩
 ·exact fun id x hx=>ev.pre id x (h.first id x hx)
 ·intro i b hb
  obtain ⟨r,Qb4⟩:∃ r,(Qbc C ids μ' Wl w').rows[i]? = some r:=by
   have:=(List.getElem?_eq_some_iff.1 hb).1
   refine ⟨_,List.getElem?_eq_getElem (show i < _ from ?_)⟩
   simp only [Qbc,Qb0,List.length_append,List.length_drop,List.length_map,Qhd] at this ⊢
   rw [h.len,hlen] at this
   exact this
  rcases Qgw h hh hr hb Qb4 with ⟨_,k2,_⟩ | ⟨j,s,_,k2,_,_⟩
  ·have:=h.place i b k2
   exact ⟨this.1,Nat.lt_of_lt_of_le this.2 ev.size⟩
  have:=hr.place j b k2
  refine ⟨?_,this.2⟩
  rcases this.1 with k | k
  ·exact (Ql8 h hh k).1
  exact .inr (Nat.le_trans h.size k)
 ·intro i j b r s h1 h2 h3 h4 h5 h6
  rcases Qgw h hh hr h1 h3 with ⟨a1,a2,a3⟩ | ⟨p,r',rfl,a2,a3,rfl⟩<;>rcases Qgw h hh hr h2 h4 with ⟨b1,b2,b3⟩ | ⟨q,s',rfl,b2,b3,rfl⟩
  ·exact h.apart i j b r s a2 b2 a3 b3 h5 h6
  ·exfalso
   rcases (hr.place q b b2).1 with k | k
   ·exact Qgi h hh a1 a2 a3 (by rintro rfl;cases h5) (.inl rfl) k
   have:=(h.place i b a2).2
   have:C.w.heap.size<=b:=k
   omega
  ·exfalso
   rcases (hr.place p b a2).1 with k | k
   ·exact Qgi h hh b1 b2 b3 h6 (.inl rfl) k
   have:=(h.place j b b2).2
   have:C.w.heap.size<=b:=k
   omega
  rw [hr.apart p q b r' s' a2 b2 a3 b3 (by rwa [Qe7] at h5) (by rwa [ne_eq,Qhh] at h6)]
 ·intro i m b r h1 h2 h3
  rcases Qgw h hh hr h1 h2 with ⟨a1,a2,a3⟩ | ⟨p,r',rfl,a2,a3,rfl⟩
  ·obtain ⟨q1,q2⟩:=Qhf h hh hr a1 a2 a3 (by rintro rfl;cases h3)
   have h3':b∈r.ext C.w m:=by rwa [show (Qbc C ids μ' Wl w').w=w' from rfl,Row.Qch r q1 q2] at h3
   have:=h.Qbq i m b r a2 a3 h3'
   exact ⟨this.1,Nat.lt_of_lt_of_le this.2 ev.size⟩
  rw [Qev] at h3
  have:=hr.Qbq p m b r' a2 a3 h3
  refine ⟨?_,this.2⟩
  rcases this.1 with k | k
  ·exact (Ql8 h hh k).1
  exact .inr (Nat.le_trans h.size k)
 ·intro i j m n b r s h1 h2 h3 h4 h5 h6
  rcases Qgw h hh hr h1 h3 with ⟨a1,a2,a3⟩ | ⟨p,r',rfl,a2,a3,rfl⟩<;>rcases Qgw h hh hr h2 h4 with ⟨b1,b2,b3⟩ | ⟨q,s',rfl,b2,b3,rfl⟩
  ·obtain ⟨q1,q2⟩:=Qhf h hh hr a1 a2 a3 (by rintro rfl;cases h5)
   obtain ⟨q3,q4⟩:=Qhf h hh hr b1 b2 b3 h6
   rw [show (Qbc C ids μ' Wl w').w=w' from rfl] at h5 ⊢
   rw [Row.Qch r q1 q2] at h5
   rw [Row.Qch s q3 q4]
   exact h.Qa8 i j m n b r s a2 b2 a3 b3 h5 h6
  ·obtain ⟨q1,q2⟩:=Qhf h hh hr a1 a2 a3 (by rintro rfl;cases h5)
   rw [show (Qbc C ids μ' Wl w').w=w' from rfl] at h5 ⊢
   rw [Row.Qch r q1 q2] at h5
   have hb:=(h.Qbq i m b r a2 a3 h5).2
   have key:∀ {c:Nat},s'.hasB w' n c->c≠b:=by
    rintro c hc rfl
    rcases (hr.Qlo b2 b3 hc).1 with k | k
    ·exact Qgi h hh a1 a2 a3 (by rintro rfl;cases h5) (.inr h5) k
    have:C.w.heap.size<=c:=k
    omega
   exact ⟨fun e=>key (.inl e) rfl,fun h7=>absurd rfl (key (.inr (by rwa [Qev] at h7)))⟩
  ·rw [Qev] at h5
   obtain ⟨q3,q4⟩:=Qhf h hh hr b1 b2 b3 h6
   rw [show (Qbc C ids μ' Wl w').w=w' from rfl] at h5 ⊢
   rw [Row.Qch s q3 q4]
   have key:∀ {c:Nat},s.hasB C.w n c->c≠b:=by
    rintro c hc rfl
    rcases (hr.Qbq p m c r' a2 a3 h5).1 with k | k
    ·exact Qgi h hh b1 b2 b3 h6 hc k
    have:=(h.Qlo b2 b3 hc).2
    have:C.w.heap.size<=c:=k
    omega
   exact ⟨fun e=>key (.inl e) rfl,fun h7=>absurd rfl (key (.inr h7))⟩
  rw [Qev] at h5
  have:=hr.Qa8 p q m n b r' s' a2 b2 a3 b3 h5 (by rwa [ne_eq,Qhh] at h6)
  exact ⟨this.1,fun h7=>by rw [this.2 (by rwa [Qev] at h7)]⟩
 intro i ob r h1 h2
 rcases Qgw h hh hr h1 h2 with ⟨a1,a2,a3⟩ | ⟨p,r',rfl,a2,a3,rfl⟩
 ·by_cases hg:r=.gone
  ·subst hg;cases ob<;>trivial
  refine (h.rel i ob r a2 a3).mono ev.ok ev.same ev.pre ev.shape ?_ ?_
  ·exact (Qhf h hh hr a1 a2 a3 hg).1
  exact (Qhf h hh hr a1 a2 a3 hg).2
 exact (hd.rows p ob r' a2 a3).ren (Qya h hh hr) (Qtg h hh hr)
theorem We6 (h:Xt X C) (hh:Qby C.rows ids Xy) (hd:Qai (Qaa X C ids) ⟨μ',Wl,w'⟩ ret v):
  Jy w' ((Qbc C ids μ' Wl w').ok X) (Qbc C ids μ' Wl w').μ (Qdu (Qas ids C.rows.length) ret) v:=hd.ret.ren (Qya h hh hd.rel) (Qtg h hh hd.rel)
end
end
end Go.Sy
