/- The same words and rules, said in fewer bytes. -/
import Derived.Test.YticmlllaimjdcaaGreatSyX
set_option linter.unusedVariables false
set_option linter.unusedSimpArgs false
namespace Go.Sy
abbrev DV.i (n:Int):DV:=.v (.int .i64 n)
abbrev DV.b (b:Bool):DV:=.v (.bool b)
abbrev DV.ns:DV:=.v (.slice none 0 0)
abbrev DV.np:DV:=.v (.pointer none)
abbrev AV.i (n:Int):AV:=.d (.v (.int .i64 n))
abbrev AV.b (b:Bool):AV:=.d (.v (.bool b))
abbrev AV.ns:AV:=.d (.v (.slice none 0 0))
def dgs:Nat->Nat->List Nat->List Nat
 | 0,_,l=>l
 | f+1,n,l=>match Nat.ble n 9 with
  | true=>l
  | false=>dgs f (n / 10) (n % 10 :: l)
section
variable {X:Ctx} {T:Tab} {f:FuncId} {k:List Item} {Q:Frame->Frame->Wp->Prop} {st:St}
theorem Qi (hT:Xl X.P T) (n:Nat) (k':List Item) (st':St) (h:AK X f k' Q st') (e:(fun r:List Item × St=>(r.1,r.2.only (st'.tm.map Prod.fst))) (adv T n k st)=(k',st'):=by kernel_rfl):AK X f k Q st:=go hT n _ e h
theorem Qkp {n0:Nat} (Je:List Nat) (st':St) (h0:X.μ0.length=n0) (h:AK X f k Q st') (e1:(st.only (st'.tm.map Prod.fst)).tm=st'.tm.map (fun p=>(p.1,Qdg (Qc5 Je st.rows.length) p.2)):=by kernel_rfl)
  (e2:Je.map (fun i=>st.rows[i]?)=st'.rows.map (fun r=>some (Qd0 (Qc5 Je st.rows.length) r)):=by kernel_rfl) (e3:st'.nt=st.nt:=by rfl) (hn:Je.Nodup:=by decide) (h1:Je.take n0=List.range n0:=by rfl):AK X f k Q st:=
 Qsy _ Je e1 e2 e3 hn (by rw [h0];exact h1) h
theorem Yi (hT:Xl X.P T) {n0:Nat} (n:Nat) (k':List Item) (Je:List Nat) (st':St) (h0:X.μ0.length=n0) (h:AK X f k' Q st') (e0:(adv T n k st).1=k':=by kernel_rfl)
  (e1:((adv T n k st).2.only (st'.tm.map Prod.fst)).tm=st'.tm.map (fun p=>(p.1,Qdg (Qc5 Je (adv T n k st).2.rows.length) p.2)):=by kernel_rfl)
  (e2:Je.map (fun i=>(adv T n k st).2.rows[i]?)=st'.rows.map (fun r=>some (Qd0 (Qc5 Je (adv T n k st).2.rows.length) r)):=by kernel_rfl) (e3:st'.nt=(adv T n k st).2.nt:=by kernel_rfl) (hn:Je.Nodup:=by decide) (h1:Je.take n0=List.range n0:=by rfl):AK X f k Q st:=
 Qpo hT n (by rw [e0];exact Qkp Je st' h0 h e1 e2 e3 hn h1)
end
section
variable {X:Ctx} {T:Tab} {f:FuncId} {k:List Item} {Q:Frame->Frame->Wp->Prop} {nt:Nat} {rows:List Row} {ops:Array Oper} {m:Nat} {base:List (Nat × AV)} {Φ:List (Option AV)} {E:List Nat}
theorem Wfd (hT:Xl X.P T) {i:Nat} (d:Nat) (V V':AV) (hv:V=V') (e:∀ R rest,Qit T (.inRegion ops (i :: R) :: k) ⟨nt,Qcj ops base Φ i ++ rest,rows⟩=some (.inRegion ops R :: k,⟨nt,(d,V) :: (Qcj ops base Φ i ++ rest),rows⟩))
  (e2:Qfx (Qff ops i) ((Φ[i]?).join)=Qfx (some d) (some V')):Qkm X f k Q nt rows ops base Φ i:=Wjz hT e fun R rest=>by rw [e2,hv];rfl
theorem Qg (h:Qlo X f k Q nt rows ops base Φ m) (hT:Xl X.P T) (e:∀ R rest,Qit T (.inRegion ops (m :: R) :: k) ⟨nt,Qcj ops base Φ m ++ rest,rows⟩=some (.inRegion ops R :: k,⟨nt,Qfx (Qff ops m) ((Φ[m]?).join) (Qcj ops base Φ m ++ rest),rows⟩):=by intro R rest;kernel_rfl):
  Qlo X f k Q nt rows ops base Φ (m+1):=opS h (Wby hT e)
theorem opV (h:Qlo X f k Q nt rows ops base Φ m) (hT:Xl X.P T) (d:Nat) (V V':AV) (hv:V=V') (e:∀ R rest,Qit T (.inRegion ops (m :: R) :: k) ⟨nt,Qcj ops base Φ m ++ rest,rows⟩=some (.inRegion ops R :: k,⟨nt,(d,V) :: (Qcj ops base Φ m ++ rest),rows⟩):=by intro R rest;kernel_rfl)
  (e2:Qfx (Qff ops m) ((Φ[m]?).join)=Qfx (some d) (some V'):=by kernel_rfl):Qlo X f k Q nt rows ops base Φ (m+1):=opS h (Wfd hT d V V' hv e e2)
theorem Ya (h:Qgm X f k Q nt rows ops base Φ E m) (hT:Xl X.P T) (e:∀ R rest,Qit T (.inRegion ops (m :: R) :: k) ⟨nt,Qcj ops base Φ m ++ rest,rows⟩=some (.inRegion ops R :: k,⟨nt,Qfx (Qff ops m) ((Φ[m]?).join) (Qcj ops base Φ m ++ rest),rows⟩):=by intro R rest;kernel_rfl):
  Qgm X f k Q nt rows ops base Φ E (m+1):=Qik h (Wby hT e)
theorem Qku (h:Qgm X f k Q nt rows ops base Φ E m) (hT:Xl X.P T) (d:Nat) (V V':AV) (hv:V=V') (e:∀ R rest,Qit T (.inRegion ops (m :: R) :: k) ⟨nt,Qcj ops base Φ m ++ rest,rows⟩=some (.inRegion ops R :: k,⟨nt,(d,V) :: (Qcj ops base Φ m ++ rest),rows⟩):=by intro R rest;kernel_rfl)
  (e2:Qfx (Qff ops m) ((Φ[m]?).join)=Qfx (some d) (some V'):=by kernel_rfl):Qgm X f k Q nt rows ops base Φ E (m+1):=Qik h (Wfd hT d V V' hv e e2)
theorem Qil (h:Qgm X f k Q nt rows ops base Φ E m) (he:E.contains m=true:=by decide):Qgm X f k Q nt rows ops base Φ E (m+1):=Wla h he
theorem Qdz {s:Nat} (h:Qgw X f k Q nt rows ops base Φ E s m) (hT:Xl X.P T) (e:∀ R rest,Qit T (.inRegion ops (m :: R) :: k) ⟨nt,Qcj ops base Φ m ++ rest,rows⟩=some (.inRegion ops R :: k,⟨nt,Qfx (Qff ops m) ((Φ[m]?).join) (Qcj ops base Φ m ++ rest),rows⟩):=by intro R rest;kernel_rfl):
  Qgw X f k Q nt rows ops base Φ E s (m+1):=Qnl h (Wby hT e)
theorem Wbx {s:Nat} (h:Qgw X f k Q nt rows ops base Φ E s m) (he:E.contains m=true:=by decide):Qgw X f k Q nt rows ops base Φ E s (m+1):=Wlc h he
theorem Qdf {s:Nat} (h:Qgw X f k Q nt rows ops base Φ E s m) (he:Qoq ops E m s=false:=by kernel_rfl):Qgw X f k Q nt rows ops base Φ E s (m+1):=Wlb h he
theorem Ql0 (hT:Xl X.P T) {i:Nat} {rows':List Row} (e:∀ R rest,Qit T (.inRegion ops (i :: R) :: k) ⟨nt,Qcj ops base Φ i ++ rest,rows⟩=some (.inRegion ops R :: k,⟨nt,Qfx (Qff ops i) ((Φ[i]?).join) (Qcj ops base Φ i ++ rest),rows'⟩):=by intro R rest;kernel_rfl):
  Qlp X f k Q nt rows rows' ops base Φ i:=Wj0 hT e
theorem Qbt {st:St} (hm:X.P.follows .mixedOrders=true) (m:Nat) (S:List Nat) (Φ:List (Option AV)) (hop:Qlo X f k.tail Q st.nt st.rows (Qfh k) (st.only S).tm Φ m)
  (Qe4:AK X f (.inRegion (Qfh k) (List.range' m ((Qfh k).size - m)) :: k.tail) Q ⟨st.nt,Qih (Qfh k) Φ m ++ (st.only S).tm,st.rows⟩) (hd:Qmb k=true:=by kernel_rfl) (hck:Qj0 (Qfh k) m ((st.only S).tm.map (·.1))=true:=by kernel_rfl):AK X f k Q st:=
 Wcv hm m S _ Φ hd rfl hck hop Qe4
end
theorem Xz.forget {X:Ctx} {μ:List (Option Nat)} {rows:List Row} {w:World} (h:Xz X ⟨μ,rows,w⟩) (h0:X.μ0=[]):Xz X ⟨[],[],w⟩:=
 ⟨rfl,h.os,h.tape,h.output,h.size,h.keep,h.shape,fun id x hx=>by rw [h0] at hx;simp at hx,fun id b hb=>by simp at hb,fun i j b r s hb=>by simp at hb,fun id m b r hb=>by simp at hb,fun i j m n b r s hb=>by simp at hb,fun id ob r hb=>by simp at hb⟩
theorem Wbv {X:Ctx} {μ:List (Option Nat)} {rows:List Row} {w:World}:∀ t b,Wp.okR X ⟨μ,rows,w⟩ t b->Wp.okR X ⟨[],[],w⟩ t b:=
 fun t b ⟨h1,h2,h3,h4⟩=>⟨h1,h2,fun ⟨id,m,r,hb,_⟩=>by simp at hb,h4⟩
theorem Wbz {X:Ctx} {μ:List (Option Nat)} {rows:List Row} {w:World} {id k n:Nat} {ty:TypeId} {g:Nat->List DV} {v:Value} (h:Xz X ⟨μ,rows,w⟩)
  (hr:rows[id]? = some (.flat false k ty n g)) (hrs:∀ (j:Nat) (ob:Option Nat) (r:Row),μ[j]? = some ob->rows[j]? = some r->Qce w (Wp.okR X ⟨μ,rows,w⟩) μ ob r)
  (hv:AVR w (Wp.okR X ⟨μ,rows,w⟩) μ (.own id k 0 n) v):VR w (Wp.okR X ⟨[],[],w⟩) (.sl true n g) v:=by
 generalize ho:(0:Nat)=off at hv
 cases hv with
 | Qbv hm=>exact .sl0
 | own hm hh hs hn hc=>
  rename_i b c cs ty'
  subst ho
  rcases Nat.eq_zero_or_pos n with h0 | h0
  ·subst h0
   exact .sl0
  obtain ⟨cs2,vs,r1,r2,r3,r4,r5⟩:=hrs id (some b) _ hm hr
  have hp:=h.place id b hm
  refine .sl k vs h0 hn ⟨rfl,hp.2,fun ⟨id,m,r,hb,_⟩=>by simp at hb,fun _=>.inr hp.1⟩ r3 (fun i hi=>(r4 i hi).mono Wbv fun _ _ _=>rfl) fun i j u hi hj=>?_
  have:=r5 i j u hi hj
  simp only [World.cell?,r1,Nat.zero_mul,Nat.zero_add]
  simpa using this
theorem Yn.Wlh {P:Program} {f:FuncId} {args:List AV} {k n:Nat} {ty:TypeId} {g:Nat->List DV} (h:Yn P f [] args [.flat false k ty n g] (.own 0 k 0 n)):Yn P f [] args [] (.d (.sl true n g)):=by
 intro X vs hP hF Jq Qeq
 have hl0:X.μ0=[]:=List.length_eq_zero_iff.1 Jq.len
 refine (h X vs hP hF Jq Qeq).mono ?_
 rintro e w' ⟨v,μ',rfl,hd⟩
 exact ⟨v,[],rfl,hd.rel.forget hl0,fun id ob r hb=>by simp at hb,.d (Wbz hd.rel rfl hd.rows hd.ret)⟩
section
variable {α γ σ ρ δ:Type} {c:Prop} [Decidable c] {g:σ->Option ρ} {r:ρ}
theorem sT {a b:Option (σ ⊕ ρ)} (h:c) (H:stk (if c then a else b) g=some r):stk a g=some r:=by rwa [if_pos h] at H
theorem sF {a b:Option (σ ⊕ ρ)} (h:¬ c) (H:stk (if c then a else b) g=some r):stk b g=some r:=by rwa [if_neg h] at H
theorem sC {a:Option (σ ⊕ ρ)} (H:stk (if c then a else none) g=some r):c/\stk a g=some r:=Wjx (K:=fun o=>stk o g) rfl H
theorem sbC {o:Option δ} {f:δ->Option (σ ⊕ ρ)} (H:stk (o.bind f) g=some r):∃ v,o=some v/\stk (f v) g=some r:=Wh5 (K:=fun o=>stk o g) rfl H
theorem sdC {e:δ} {f:δ->Option (σ ⊕ ρ)} (H:stk (bnd e f) g=some r):∃ v,v=e/\stk (f v) g=some r:=⟨e,rfl,H⟩
theorem iT {a b x:α} (h:c) (H:(if c then a else b)=x):a=x:=by rwa [if_pos h] at H
theorem iF {a b x:α} (h:¬ c) (H:(if c then a else b)=x):b=x:=by rwa [if_neg h] at H
theorem iC {a:Option α} {y:α} (H:(if c then a else none)=some y):c/\a=some y:=Wjx (K:=fun o=>o) rfl H
theorem ibC {o:Option δ} {f:δ->Option α} {y:α} (H:(o.bind f)=some y):∃ v,o=some v/\(f v)=some y:=Wh5 (K:=fun o=>o) rfl H
theorem idC {e:δ} {f:δ->α} {x:α} (H:(bnd e f)=x):∃ v,v=e/\(f v)=x:=⟨e,rfl,H⟩
end
theorem Yr {X:Ctx} {f:FuncId} {fn:Func} {Wx:List Row} {ret:AV} {st:St} {k:List Item} {n0:Nat} (hf:X.P.funcs[f]? = some fn) (hX:X.ds=[]/\X.rnd=none) (h0:X.μ0.length=n0) (av:AV) (Je:List Nat) (nr:∀ r∈Wx,NR r) (na:NA ret)
  (e:Qm9 st.tm fn.results.toList=some av:=by kernel_rfl) (hs:Je.map (fun i=>st.rows[i]?)=Wx.map (fun r=>some (Qd0 (Qc5 Je st.rows.length) r)):=by kernel_rfl) (hn:Je.Nodup:=by decide) (h1:Je.take n0=List.range n0:=by rfl) (Qg2:av=Qdg (Qc5 Je st.rows.length) ret:=by kernel_rfl):
  AK X f (.code .ret :: k) (Jb X Wx ret) st:=Qi8 hf hX e Je (Qb1 hs) hn (by rw [h0];exact h1) Qg2 nr na
theorem Qz5 {X:Ctx} {f:FuncId} {fn:Func} {Wx:List Row} {ret:AV} {st:St} {n0:Nat} (hf:X.P.funcs[f]? = some fn) (hX:X.ds=[]/\X.rnd=none) (h0:X.μ0.length=n0) (av:AV) (Je:List Nat) (nr:∀ r∈Wx,NR r) (na:NA ret)
  (e:Qm9 st.tm fn.results.toList=some av:=by kernel_rfl) (hs:Je.map (fun i=>st.rows[i]?)=Wx.map (fun r=>some (Qd0 (Qc5 Je st.rows.length) r)):=by kernel_rfl) (hn:Je.Nodup:=by decide) (h1:Je.take n0=List.range n0:=by rfl) (Qg2:av=Qdg (Qc5 Je st.rows.length) ret:=by kernel_rfl):
  AK X f [] (Jb X Wx ret) st:=Wcw hf hX e Je (Qb1 hs) hn (by rw [h0];exact h1) Qg2 nr na
end Go.Sy
