/- The same words and rules, said in fewer bytes. -/
import Derived.Test.YticmlllaimjdcaaGreatSyX
set_option linter.unusedVariables false
set_option linter.unusedSimpArgs false
namespace Go.Sy
abbrev DV.i (n:Int):DV:=.v (.int .i64 n)
abbrev DV.b (b:Bool):DV:=.v (.bool b)
abbrev DV.ns:DV:=.v (.slice none 0 0)
abbrev DV.np:DV:=.v (.pointer none)
abbrev AV.i (n:Int):AV:=.d (.v (.int .i64 n))
abbrev AV.b (b:Bool):AV:=.d (.v (.bool b))
abbrev AV.ns:AV:=.d (.v (.slice none 0 0))
def dgs:Nat->Nat->List Nat->List Nat
 | 0,_,l=>l
 | f+1,n,l=>match Nat.ble n 9 with
  | true=>l
  | false=>dgs f (n / 10) (n % 10 :: l)
section
variable {X:Ctx} {T:Tab} {f:FuncId} {k:List Item} {Q:Frame->Frame->Wt->Prop} {st:St}
theorem Xl (hT:Xb X.P T) (n:Nat) (k':List Item) (st':St) (h:AK X f k' Q st') (e:(fun r:List Item × St=>(r.1,r.2.only (st'.tm.map Prod.fst))) (adv T n k st)=(k',st'):=by kernel_rfl):AK X f k Q st:=go hT n _ e h
theorem Qg4 {n0:Nat} (Zp:List Nat) (st':St) (h0:X.μ0.length=n0) (h:AK X f k Q st') (e1:(st.only (st'.tm.map Prod.fst)).tm=st'.tm.map (fun p=>(p.1,Qdm (Qdf Zp st.rows.length) p.2)):=by kernel_rfl)
  (e2:Zp.map (fun i=>st.rows[i]?)=st'.rows.map (fun r=>some (Qeh (Qdf Zp st.rows.length) r)):=by kernel_rfl) (e3:st'.nt=st.nt:=by rfl) (hn:Zp.Nodup:=by decide) (h1:Zp.take n0=List.range n0:=by rfl):AK X f k Q st:=
 Qtx _ Zp e1 e2 e3 hn (by rw [h0];exact h1) h
theorem Yp (hT:Xb X.P T) {n0:Nat} (n:Nat) (k':List Item) (Zp:List Nat) (st':St) (h0:X.μ0.length=n0) (h:AK X f k' Q st') (e0:(adv T n k st).1=k':=by kernel_rfl)
  (e1:((adv T n k st).2.only (st'.tm.map Prod.fst)).tm=st'.tm.map (fun p=>(p.1,Qdm (Qdf Zp (adv T n k st).2.rows.length) p.2)):=by kernel_rfl)
  (e2:Zp.map (fun i=>(adv T n k st).2.rows[i]?)=st'.rows.map (fun r=>some (Qeh (Qdf Zp (adv T n k st).2.rows.length) r)):=by kernel_rfl) (e3:st'.nt=(adv T n k st).2.nt:=by kernel_rfl) (hn:Zp.Nodup:=by decide) (h1:Zp.take n0=List.range n0:=by rfl):AK X f k Q st:=
 Qnk hT n (by rw [e0];exact Qg4 Zp st' h0 h e1 e2 e3 hn h1)
end
section
variable {X:Ctx} {T:Tab} {f:FuncId} {k:List Item} {Q:Frame->Frame->Wt->Prop} {nt:Nat} {rows:List Row} {ops:Array Oper} {m:Nat} {base:List (Nat × AV)} {Φ:List (Option AV)} {E:List Nat}
theorem Wg3 (hT:Xb X.P T) {i:Nat} (d:Nat) (V V':AV) (hv:V=V') (e:∀ R rest,Qju T (.inRegion ops (i :: R) :: k) ⟨nt,Qc4 ops base Φ i ++ rest,rows⟩=some (.inRegion ops R :: k,⟨nt,(d,V) :: (Qc4 ops base Φ i ++ rest),rows⟩))
  (e2:Qgm (Qf1 ops i) ((Φ[i]?).join)=Qgm (some d) (some V')):Qld X f k Q nt rows ops base Φ i:=Wls hT e fun R rest=>by rw [e2,hv];rfl
theorem Qe (h:Qmn X f k Q nt rows ops base Φ m) (hT:Xb X.P T) (e:∀ R rest,Qju T (.inRegion ops (m :: R) :: k) ⟨nt,Qc4 ops base Φ m ++ rest,rows⟩=some (.inRegion ops R :: k,⟨nt,Qgm (Qf1 ops m) ((Φ[m]?).join) (Qc4 ops base Φ m ++ rest),rows⟩):=by intro R rest;kernel_rfl):
  Qmn X f k Q nt rows ops base Φ (m+1):=Jr h (Wdh hT e)
theorem opV (h:Qmn X f k Q nt rows ops base Φ m) (hT:Xb X.P T) (d:Nat) (V V':AV) (hv:V=V') (e:∀ R rest,Qju T (.inRegion ops (m :: R) :: k) ⟨nt,Qc4 ops base Φ m ++ rest,rows⟩=some (.inRegion ops R :: k,⟨nt,(d,V) :: (Qc4 ops base Φ m ++ rest),rows⟩):=by intro R rest;kernel_rfl)
  (e2:Qgm (Qf1 ops m) ((Φ[m]?).join)=Qgm (some d) (some V'):=by kernel_rfl):Qmn X f k Q nt rows ops base Φ (m+1):=Jr h (Wg3 hT d V V' hv e e2)
theorem Xa (h:Qhi X f k Q nt rows ops base Φ E m) (hT:Xb X.P T) (e:∀ R rest,Qju T (.inRegion ops (m :: R) :: k) ⟨nt,Qc4 ops base Φ m ++ rest,rows⟩=some (.inRegion ops R :: k,⟨nt,Qgm (Qf1 ops m) ((Φ[m]?).join) (Qc4 ops base Φ m ++ rest),rows⟩):=by intro R rest;kernel_rfl):
  Qhi X f k Q nt rows ops base Φ E (m+1):=Qfc h (Wdh hT e)
theorem Qlk (h:Qhi X f k Q nt rows ops base Φ E m) (hT:Xb X.P T) (d:Nat) (V V':AV) (hv:V=V') (e:∀ R rest,Qju T (.inRegion ops (m :: R) :: k) ⟨nt,Qc4 ops base Φ m ++ rest,rows⟩=some (.inRegion ops R :: k,⟨nt,(d,V) :: (Qc4 ops base Φ m ++ rest),rows⟩):=by intro R rest;kernel_rfl)
  (e2:Qgm (Qf1 ops m) ((Φ[m]?).join)=Qgm (some d) (some V'):=by kernel_rfl):Qhi X f k Q nt rows ops base Φ E (m+1):=Qfc h (Wg3 hT d V V' hv e e2)
theorem Qgz (h:Qhi X f k Q nt rows ops base Φ E m) (he:E.contains m=true:=by decide):Qhi X f k Q nt rows ops base Φ E (m+1):=Wmx h he
theorem Qes {s:Nat} (h:Qhu X f k Q nt rows ops base Φ E s m) (hT:Xb X.P T) (e:∀ R rest,Qju T (.inRegion ops (m :: R) :: k) ⟨nt,Qc4 ops base Φ m ++ rest,rows⟩=some (.inRegion ops R :: k,⟨nt,Qgm (Qf1 ops m) ((Φ[m]?).join) (Qc4 ops base Φ m ++ rest),rows⟩):=by intro R rest;kernel_rfl):
  Qhu X f k Q nt rows ops base Φ E s (m+1):=Qoh h (Wdh hT e)
theorem Wdg {s:Nat} (h:Qhu X f k Q nt rows ops base Φ E s m) (he:E.contains m=true:=by decide):Qhu X f k Q nt rows ops base Φ E s (m+1):=Wmz h he
theorem Qd0 {s:Nat} (h:Qhu X f k Q nt rows ops base Φ E s m) (he:Qps ops E m s=false:=by kernel_rfl):Qhu X f k Q nt rows ops base Φ E s (m+1):=Wmy h he
theorem Qhg (hT:Xb X.P T) {i:Nat} {rows':List Row} (e:∀ R rest,Qju T (.inRegion ops (i :: R) :: k) ⟨nt,Qc4 ops base Φ i ++ rest,rows⟩=some (.inRegion ops R :: k,⟨nt,Qgm (Qf1 ops i) ((Φ[i]?).join) (Qc4 ops base Φ i ++ rest),rows'⟩):=by intro R rest;kernel_rfl):
  Qmo X f k Q nt rows rows' ops base Φ i:=Wlt hT e
theorem Qak {st:St} (hm:X.P.follows .mixedOrders=true) (m:Nat) (S:List Nat) (Φ:List (Option AV)) (hop:Qmn X f k.tail Q st.nt st.rows (Qf2 k) (st.only S).tm Φ m)
  (Qfu:AK X f (.inRegion (Qf2 k) (List.range' m ((Qf2 k).size - m)) :: k.tail) Q ⟨st.nt,Qjl (Qf2 k) Φ m ++ (st.only S).tm,st.rows⟩) (hd:Qm9 k=true:=by kernel_rfl) (hck:Qk0 (Qf2 k) m ((st.only S).tm.map (·.1))=true:=by kernel_rfl):AK X f k Q st:=
 Wef hm m S _ Φ hd rfl hck hop Qfu
end
theorem Yd.forget {X:Ctx} {μ:List (Option Nat)} {rows:List Row} {w:World} (h:Yd X ⟨μ,rows,w⟩) (h0:X.μ0=[]):Yd X ⟨[],[],w⟩:=
 ⟨rfl,h.os,h.tape,h.output,h.size,h.keep,h.shape,fun id x hx=>by rw [h0] at hx;simp at hx,fun id b hb=>by simp at hb,fun i j b r s hb=>by simp at hb,fun id m b r hb=>by simp at hb,fun i j m n b r s hb=>by simp at hb,fun id ob r hb=>by simp at hb⟩
theorem Wde {X:Ctx} {μ:List (Option Nat)} {rows:List Row} {w:World}:∀ t b,Wt.okR X ⟨μ,rows,w⟩ t b->Wt.okR X ⟨[],[],w⟩ t b:=
 fun t b ⟨h1,h2,h3,h4⟩=>⟨h1,h2,fun ⟨id,m,r,hb,_⟩=>by simp at hb,h4⟩
theorem Wdi {X:Ctx} {μ:List (Option Nat)} {rows:List Row} {w:World} {id k n:Nat} {ty:TypeId} {g:Nat->List DV} {v:Value} (h:Yd X ⟨μ,rows,w⟩)
  (hr:rows[id]? = some (.flat false k ty n g)) (hrs:∀ (j:Nat) (ob:Option Nat) (r:Row),μ[j]? = some ob->rows[j]? = some r->Qcz w (Wt.okR X ⟨μ,rows,w⟩) μ ob r)
  (hv:AVR w (Wt.okR X ⟨μ,rows,w⟩) μ (.own id k 0 n) v):VR w (Wt.okR X ⟨[],[],w⟩) (.sl true n g) v:=by
 generalize ho:(0:Nat)=off at hv
 cases hv with
 | Qcc hm=>exact .sl0
 | own hm hh hs hn hc=>
  rename_i b c cs ty'
  subst ho
  rcases Nat.eq_zero_or_pos n with h0 | h0
  ·subst h0
   exact .sl0
  obtain ⟨cs2,vs,r1,r2,r3,r4,r5⟩:=hrs id (some b) _ hm hr
  have hp:=h.place id b hm
  refine .sl k vs h0 hn ⟨rfl,hp.2,fun ⟨id,m,r,hb,_⟩=>by simp at hb,fun _=>.inr hp.1⟩ r3 (fun i hi=>(r4 i hi).mono Wde fun _ _ _=>rfl) fun i j u hi hj=>?_
  have:=r5 i j u hi hj
  simp only [World.cell?,r1,Nat.zero_mul,Nat.zero_add]
  simpa using this
theorem Xz.Wl7 {P:Program} {f:FuncId} {args:List AV} {k n:Nat} {ty:TypeId} {g:Nat->List DV} (h:Xz P f [] args [.flat false k ty n g] (.own 0 k 0 n)):Xz P f [] args [] (.d (.sl true n g)):=by
 intro X vs hP hF Jz Qfd
 have hl0:X.μ0=[]:=List.length_eq_zero_iff.1 Jz.len
 refine (h X vs hP hF Jz Qfd).mono ?_
 rintro e w' ⟨v,μ',rfl,hd⟩
 exact ⟨v,[],rfl,hd.rel.forget hl0,fun id ob r hb=>by simp at hb,.d (Wdi hd.rel rfl hd.rows hd.ret)⟩
section
variable {α γ σ ρ δ:Type} {c:Prop} [Decidable c] {g:σ->Option ρ} {r:ρ}
theorem sT {a b:Option (σ ⊕ ρ)} (h:c) (H:stk (if c then a else b) g=some r):stk a g=some r:=by rwa [if_pos h] at H
theorem sF {a b:Option (σ ⊕ ρ)} (h:¬ c) (H:stk (if c then a else b) g=some r):stk b g=some r:=by rwa [if_neg h] at H
theorem sC {a:Option (σ ⊕ ρ)} (H:stk (if c then a else none) g=some r):c/\stk a g=some r:=Wlq (K:=fun o=>stk o g) rfl H
theorem sbC {o:Option δ} {f:δ->Option (σ ⊕ ρ)} (H:stk (o.bind f) g=some r):∃ v,o=some v/\stk (f v) g=some r:=Wjv (K:=fun o=>stk o g) rfl H
theorem sdC {e:δ} {f:δ->Option (σ ⊕ ρ)} (H:stk (bnd e f) g=some r):∃ v,v=e/\stk (f v) g=some r:=⟨e,rfl,H⟩
theorem iT {a b x:α} (h:c) (H:(if c then a else b)=x):a=x:=by rwa [if_pos h] at H
theorem iF {a b x:α} (h:¬ c) (H:(if c then a else b)=x):b=x:=by rwa [if_neg h] at H
theorem iC {a:Option α} {y:α} (H:(if c then a else none)=some y):c/\a=some y:=Wlq (K:=fun o=>o) rfl H
theorem ibC {o:Option δ} {f:δ->Option α} {y:α} (H:(o.bind f)=some y):∃ v,o=some v/\(f v)=some y:=Wjv (K:=fun o=>o) rfl H
theorem idC {e:δ} {f:δ->α} {x:α} (H:(bnd e f)=x):∃ v,v=e/\(f v)=x:=⟨e,rfl,H⟩
end
theorem Qc0 {X:Ctx} {f:FuncId} {fn:Func} {Wv:List Row} {ret:AV} {st:St} {k:List Item} {n0:Nat} (hf:X.P.funcs[f]? = some fn) (hX:X.ds=[]/\X.rnd=none) (h0:X.μ0.length=n0) (av:AV) (Zp:List Nat) (nr:∀ r∈Wv,NR r) (na:NA ret)
  (e:Ql2 st.tm fn.results.toList=some av:=by kernel_rfl) (hs:Zp.map (fun i=>st.rows[i]?)=Wv.map (fun r=>some (Qeh (Qdf Zp st.rows.length) r)):=by kernel_rfl) (hn:Zp.Nodup:=by decide) (h1:Zp.take n0=List.range n0:=by rfl) (Qh2:av=Qdm (Qdf Zp st.rows.length) ret:=by kernel_rfl):
  AK X f (.code .ret :: k) (Yc X Wv ret) st:=Qjd hf hX e Zp (Qbu hs) hn (by rw [h0];exact h1) Qh2 nr na
theorem Wbl {X:Ctx} {f:FuncId} {fn:Func} {Wv:List Row} {ret:AV} {st:St} {n0:Nat} (hf:X.P.funcs[f]? = some fn) (hX:X.ds=[]/\X.rnd=none) (h0:X.μ0.length=n0) (av:AV) (Zp:List Nat) (nr:∀ r∈Wv,NR r) (na:NA ret)
  (e:Ql2 st.tm fn.results.toList=some av:=by kernel_rfl) (hs:Zp.map (fun i=>st.rows[i]?)=Wv.map (fun r=>some (Qeh (Qdf Zp st.rows.length) r)):=by kernel_rfl) (hn:Zp.Nodup:=by decide) (h1:Zp.take n0=List.range n0:=by rfl) (Qh2:av=Qdm (Qdf Zp st.rows.length) ret:=by kernel_rfl):
  AK X f [] (Yc X Wv ret) st:=Qx1 hf hX e Zp (Qbu hs) hn (by rw [h0];exact h1) Qh2 nr na
end Go.Sy
