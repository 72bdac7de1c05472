/- Slices of objects that are known by their addresses: their blocks as one row; a block is taken out of it, or put into it. -/
import Derived.Test.YtdndobkfnmommaaGreatSyEx
import Derived.Test.YtdndobkfnmommaaGreatSyS
set_option linter.unusedVariables false
set_option linter.unusedSimpArgs false
set_option linter.unusedSectionVars false
namespace Go.Sy
theorem Qsx {X:Ctx} {C:Wp} (h:Xp X C) {μ':List (Option Nat)} {rows':List Row} (ch:Nat->Prop) (hlen:μ'.length=rows'.length)
  (hμ:∀ (i:Nat) x,C.μ[i]? = some x->μ'[i]? = some x)
  (Qmd:∀ (i:Nat) (m:Option Nat) (r:Row),μ'[i]? = some m->rows'[i]? = some r->r≠.gone->¬ ch i->C.μ[i]? = some m/\C.rows[i]? = some r)
  (hplace:∀ (i b:Nat),μ'[i]? = some (some b)->C.μ[i]? = some (some b)\/∃ (j:Nat) (m0:Option Nat) (r0:Row),C.μ[j]? = some m0/\C.rows[j]? = some r0/\r0.hasB C.w m0 b)
  (Qvo:∀ (i:Nat) (m:Option Nat) (r:Row) (b:Nat),ch i->μ'[i]? = some m->rows'[i]? = some r->r≠.gone->r.hasB C.w m b->∃ (j:Nat) (m0:Option Nat) (r0:Row),ch j/\C.μ[j]? = some m0/\C.rows[j]? = some r0/\r0.live=true/\r0.hasB C.w m0 b)
  (hapart:∀ (i j:Nat) (m n:Option Nat) (r s:Row) (b:Nat),ch i->ch j->μ'[i]? = some m->μ'[j]? = some n->rows'[i]? = some r->rows'[j]? = some s->r≠.gone->s≠.gone->r.hasB C.w m b->s.hasB C.w n b->i=j)
  (hself:∀ (i:Nat) (m:Option Nat) (r:Row) (b:Nat),ch i->μ'[i]? = some m->rows'[i]? = some r->b∈r.ext C.w m->m≠some b)
  (Yo:∀ ok:Bool->Nat->Prop,(∀ t b,C.ok X t b->ok t b)->∀ (i:Nat) (m:Option Nat) (r:Row),ch i->μ'[i]? = some m->rows'[i]? = some r->r≠.gone->Qbm C.w ok μ' m r):
  Ev X C ⟨μ',rows',C.w⟩/\Xp X ⟨μ',rows',C.w⟩:=by
 have Qho:∀ {b:Nat},(⟨μ',rows',C.w⟩:Wp).live b->C.live b:=by
  rintro b ⟨i,m,r,h1,h2,h3,h4⟩
  have hg:r≠.gone:=by rintro rfl;cases h3
  by_cases hc:ch i
  ·obtain ⟨j,m0,r0,_,k1,k2,k3,k4⟩:=Qvo i m r b hc h1 h2 hg h4
   exact ⟨j,m0,r0,k1,k2,k3,k4⟩
  obtain ⟨k1,k2⟩:=Qmd i m r h1 h2 hg hc
  exact ⟨i,m,r,k1,k2,h3,h4⟩
 have ev:Ev X C ⟨μ',rows',C.w⟩:=⟨Nat.le_refl _,fun _ _ _=>rfl,fun _ _ hl k=>hl (Qho k),fun _ _ _ k=>⟨_,k,rfl⟩,hμ⟩
 have key:∀ {i j b:Nat} {m n:Option Nat} {r s:Row},μ'[i]? = some m->μ'[j]? = some n->rows'[i]? = some r->rows'[j]? = some s->r.live=true->s≠.gone->r.hasB C.w m b->s.hasB C.w n b->i=j:=by
  intro i j b m n r s h1 h2 h3 h4 h5 h6 h7 h8
  have hg:r≠.gone:=by rintro rfl;cases h5
  by_cases hc:ch i<;>by_cases hd:ch j
  ·exact hapart i j m n r s b hc hd h1 h2 h3 h4 hg h6 h7 h8
  ·obtain ⟨p,m0,r0,q0,q1,q2,q3,q4⟩:=Qvo i m r b hc h1 h3 hg h7
   obtain ⟨k1,k2⟩:=Qmd j n s h2 h4 h6 hd
   exact absurd (h.Qe4 q1 k1 q2 k2 q3 h6 q4 h8▸q0) hd
  ·obtain ⟨p,m0,r0,q0,q1,q2,q3,q4⟩:=Qvo j n s b hd h2 h4 h6 h8
   obtain ⟨k1,k2⟩:=Qmd i m r h1 h3 hg hc
   exact absurd ((h.Qe4 k1 q1 k2 q2 h5 (by rintro rfl;cases q3) h7 q4).symm▸q0) hc
  obtain ⟨k1,k2⟩:=Qmd i m r h1 h3 hg hc
  obtain ⟨l1,l2⟩:=Qmd j n s h2 h4 h6 hd
  exact h.Qe4 k1 l1 k2 l2 h5 h6 h7 h8
 refine ⟨ev,⟨hlen,h.os,h.tape,h.output,h.size,h.keep,h.shape,fun i x hx=>hμ i x (h.first i x hx), ?_, ?_, ?_, ?_, ?_⟩⟩
 ·intro i b hb
  rcases hplace i b hb with k | ⟨j,m0,r0,k1,k2,k3⟩
  ·exact h.place i b k
  exact h.Qly k1 k2 k3
 ·intro i j b r s h1 h2 h3 h4 h5 h6
  exact key h1 h2 h3 h4 h5 h6 (.inl rfl) (.inl rfl)
 ·intro i m b r h1 h2 h3
  have hl:=Row.Qrl h3
  have hg:r≠.gone:=by rintro rfl;cases hl
  by_cases hc:ch i
  ·obtain ⟨j,m0,r0,_,k1,k2,k3,k4⟩:=Qvo i m r b hc h1 h2 hg (.inr h3)
   exact h.Qly k1 k2 k4
  obtain ⟨k1,k2⟩:=Qmd i m r h1 h2 hg hc
  exact h.Qbh i m b r k1 k2 h3
 ·intro i j m n b r s h1 h2 h3 h4 h5 h6
  have hl:=Row.Qrl h5
  have hg:r≠.gone:=by rintro rfl;cases hl
  refine ⟨fun hn=>?_,fun h7=>key h1 h2 h3 h4 hl h6 (.inr h5) (.inr h7)⟩
  have e:=key h1 h2 h3 h4 hl h6 (.inr h5) (.inl hn)
  subst e
  have h1':μ'[i]? = some m:=h1
  have h2':μ'[i]? = some n:=h2
  rw [h1'] at h2'
  injection h2' with h2'
  subst h2'
  by_cases hc:ch i
  ·exact hself i m r b hc h1 h3 h5 hn
  obtain ⟨k1,k2⟩:=Qmd i m r h1 h3 hg hc
  exact (h.Qa0 i i m m b r r k1 k1 k2 k2 h5 hg).1 hn
 intro i ob r h1 h2
 by_cases hg:r=.gone
 ·subst hg;cases ob<;>trivial
 by_cases hc:ch i
 ·exact Yo _ ev.ok i ob r hc h1 h2 hg
 obtain ⟨k1,k2⟩:=Qmd i ob r h1 h2 hg hc
 exact (h.rel i ob r k1 k2).mono ev.ok ev.same ev.pre ev.shape (fun _ _=>rfl) (fun _ _=>rfl)
def slv (so:Option (Nat × Nat)) (n:Nat):Value:=
 match so with
 | none=>.slice none 0 0
 | some (b,c)=>.slice (some ⟨b,0,none⟩) n c
theorem Whv (so:Option (Nat × Nat)) (n:Nat):(slv so n).oneCell'=true:=by
 cases so<;>rfl
def arS {α:Type} (e:α->List DV) (z:α) (he:∀ x,NLs (e x)) (k:Nat) (ty:TypeId) (S:List (Nat × Nat × List α)):Qip where
 ext:=fun _ _=>S.map Prod.fst
 rel:=fun w ok _=>(S.map Prod.fst).Nodup/\∀ s∈S,Qbm w ok [] (some s.1) (.flat false k ty s.2.2.length (vec e z s.2.2))/\(∃ cs,w.heap[s.1]? = some (.cells cs ty (0,0))/\(0+s.2.1) * k=cs.size)/\s.2.2.length<=s.2.1/\s.2.1<=maxLen
 Qb5:=fun _ _=>rfl
 Qfk:=fun h Jg hw _ hx=>⟨h.1,fun s hs=>by
  obtain ⟨h1,⟨ds,h2,h3⟩,h4,h5⟩:=h.2 s hs
  have hb:=hx s.1 (List.mem_map.2 ⟨s,hs,rfl⟩)
  obtain ⟨cs,vs,f1,f2,f3,f4,f5⟩:=h1
  exact ⟨⟨cs,vs,hb.trans f1,f2,f3,fun i hi=>(f4 i hi).mono Jg hw,f5⟩,⟨ds,hb.trans h2,h3⟩,h4,h5⟩⟩
 perm:=fun Jg h=>⟨h.1,fun s hs=>by
  obtain ⟨h1,h2,h3⟩:=h.2 s hs
  exact ⟨h1.perm Jg (Qa1 he),h2,h3⟩⟩
section
variable {X:Ctx} {T:Tab} {f:FuncId} {k k':List Item} {Q:Frame->Frame->Wp->Prop} {st st':St}
variable {α:Type} {e:α->List DV} {z:α} {he:∀ x,NLs (e x)} {kk:Nat} {ty:TypeId}
theorem Qsd {C:Wp} (h:Xp X C) {id:Nat} {S:List (Nat × Nat × List α)} (hr:C.rows[id]? = some (.obj (arS e z he kk ty S))):
  (S.map Prod.fst).Nodup/\∀ s∈S,Qbm C.w (C.ok X) [] (some s.1) (.flat false kk ty s.2.2.length (vec e z s.2.2))/\(∃ cs,C.w.heap[s.1]? = some (.cells cs ty (0,0))/\(0+s.2.1) * kk=cs.size)/\s.2.2.length<=s.2.1/\s.2.1<=maxLen:=by
 obtain ⟨ob,hμ⟩:=h.Qd8 hr
 have:=h.rel id ob _ hμ hr
 cases ob<;>exact this
theorem Qm6 {w:World} {ok ok':Bool->Nat->Prop} {μ μ':List (Option Nat)} {ob:Option Nat} {fz:Bool} {n:Nat} {g:Nat->List DV} (h:Qbm w ok μ ob (.flat fz kk ty n g)) (Jg:∀ t b,ok t b->ok' t b):Qbm w ok' μ' ob (.flat fz kk ty n g):=by
 cases ob with
 | none=>exact h
 | some b=>
  obtain ⟨cs,vs,f1,f2,f3,f4,f5⟩:=h
  exact ⟨cs,vs,f1,f2,f3,fun i hi=>(f4 i hi).mono Jg (fun _ _ _=>rfl),f5⟩
theorem Wev (t is:Nat) {b c:Nat} {l:List α} {S1 S2:List (Nat × Nat × List α)} (hS:st.rows[is]? = some (.obj (arS e z he kk ty (S1 ++ (b,c,l) :: S2)))) (ht:st.tm.lookup t=some (.d (.v (slv (some (b,c)) l.length))))
  (hs:st'=⟨st.nt,(t,.own st.rows.length kk 0 l.length) :: st.tm,st.rows.set is (.obj (arS e z he kk ty (S1 ++ S2))) ++ [.flat false kk ty l.length (vec e z l)]⟩) (h:AK X f k Q st'):AK X f k Q st:=by
 subst hs
 intro a C hC bb cs hb hk
 have Yo:=hC.rel
 have hSC:C.rows[is]? = some (.obj (arS e z he kk ty (S1 ++ (b,c,l) :: S2))):=by rw [hC.rows];exact hS
 obtain ⟨m,hμ⟩:=Yo.Qd8 hSC
 obtain ⟨hnd,Qdj⟩:=Qsd Yo hSC
 have hlt:=(List.getElem?_eq_some_iff.1 hSC).1
 have hlen:=Yo.len
 have hbm:b∈(S1 ++ (b,c,l) :: S2).map Prod.fst:=by simp
 have Qgk:∀ {x:Nat},x∈(S1 ++ S2).map Prod.fst->x∈(S1 ++ (b,c,l) :: S2).map Prod.fst:=by
  intro x hx
  simp only [List.map_append,List.map_cons,List.mem_append,List.mem_cons] at hx ⊢
  rcases hx with hx | hx
  ·exact .inl hx
  exact .inr (.inr hx)
 have hbn:b ∉ (S1 ++ S2).map Prod.fst:=by
  simp only [List.map_append,List.map_cons] at hnd ⊢
  have:=(List.nodup_append.1 hnd)
  intro hx
  rcases List.mem_append.1 hx with hx | hx
  ·exact this.2.2 b hx b (List.mem_cons_self ..) rfl
  exact (List.nodup_cons.1 this.2.1).1 hx
 obtain ⟨s1,⟨ds,s2,s3⟩,s4,s5⟩:=Qdj (b,c,l) (by simp)
 let μ':=C.μ ++ [some b]
 let rows':=C.rows.set is (.obj (arS e z he kk ty (S1 ++ S2))) ++ [.flat false kk ty l.length (vec e z l)]
 have Qbv:∀ {i:Nat} {m:Option Nat} {r:Row},μ'[i]? = some m->rows'[i]? = some r->(i=is/\C.μ[is]? = some m/\r=.obj (arS e z he kk ty (S1 ++ S2)))\/(i≠is/\i≠C.rows.length/\C.μ[i]? = some m/\C.rows[i]? = some r)\/(i=C.rows.length/\m=some b/\r=.flat false kk ty l.length (vec e z l)):=by
  intro i m r h1 h2
  rcases Ji.1 h2 with h2 | ⟨e1,e2⟩
  ·have hi:i < C.μ.length:=by
    have:=(List.getElem?_eq_some_iff.1 h2).1
    rw [List.length_set] at this
    omega
   have h1:C.μ[i]? = some m:=by
    rw [<- h1]
    exact (List.getElem?_append_left hi).symm
   rcases (Jr hlt).1 h2 with ⟨rfl,rfl⟩ | ⟨n1,h2⟩
   ·exact .inl ⟨rfl,h1,rfl⟩
   exact .inr (.inl ⟨Ne.symm n1,by omega,h1,h2⟩)
  rw [List.length_set] at e1
  refine .inr (.inr ⟨e1, ?_,e2.symm⟩)
  rcases Ji.1 h1 with h1 | ⟨_,e3⟩
  ·have:=(List.getElem?_eq_some_iff.1 h1).1
   omega
  exact e3.symm
 obtain ⟨ev,hR⟩:=Qsx Yo (μ':=μ') (rows':=rows') (fun i=>i=is\/i=C.rows.length) (by simp [μ',rows',hlen]) (fun i x hx=>Qcl hx)
  (by
   intro i m r h1 h2 hg hc
   rcases Qbv h1 h2 with ⟨e1,_⟩ | ⟨_,_,k1,k2⟩ | ⟨e1,_⟩
   ·exact absurd (.inl e1) hc
   ·exact ⟨k1,k2⟩
   exact absurd (.inr e1) hc)
  (by
   intro i x hx
   rcases Ji.1 hx with hx | ⟨_,e1⟩
   ·exact .inl hx
   injection e1 with e1
   subst e1
   exact .inr ⟨is,m,_,hμ,hSC,.inr hbm⟩)
  (by
   intro i m' r x hc h1 h2 hg hx
   refine ⟨is,m,_,.inl rfl,hμ,hSC,rfl, ?_⟩
   rcases Qbv h1 h2 with ⟨e1,e2,rfl⟩ | ⟨n1,n2,_⟩ | ⟨_,rfl,rfl⟩
   ·rw [hμ] at e2
    injection e2 with e2
    subst e2
    exact hx.imp (fun q=>q) fun q=>Qgk q
   ·rcases hc with hc | hc
    ·exact absurd hc n1
    exact absurd hc n2
   rcases hx with hx | hx
   ·injection hx with hx
    subst hx
    exact .inr hbm
   cases hx)
  (by
   intro i j m1 m2 r s x hc hd h1 h2 h3 h4 hg1 hg2 hx hy
   rcases Qbv h1 h3 with ⟨e1,e2,rfl⟩ | ⟨n1,n2,_⟩ | ⟨e1,rfl,rfl⟩
   ·rcases Qbv h2 h4 with ⟨f1,f2,rfl⟩ | ⟨n1,n2,_⟩ | ⟨f1,rfl,rfl⟩
    ·rw [e1,f1]
    ·rcases hd with hd | hd
     ·exact absurd hd n1
     exact absurd hd n2
    exfalso
    rcases hy with hy | hy
    ·injection hy with hy
     subst hy
     rcases hx with hx | hx
     ·rw [e2] at hμ
      injection hμ with hμ
      subst hμ
      exact (Yo.Qa0 is is _ _ b _ _ e2 e2 hSC hSC hbm (by simp)).1 hx
     exact hbn hx
    cases hy
   ·rcases hc with hc | hc
    ·exact absurd hc n1
    exact absurd hc n2
   rcases Qbv h2 h4 with ⟨f1,f2,rfl⟩ | ⟨n1,n2,_⟩ | ⟨f1,rfl,rfl⟩
   ·exfalso
    rcases hx with hx | hx
    ·injection hx with hx
     subst hx
     rcases hy with hy | hy
     ·rw [f2] at hμ
      injection hμ with hμ
      subst hμ
      exact (Yo.Qa0 is is _ _ b _ _ f2 f2 hSC hSC hbm (by simp)).1 hy
     exact hbn hy
    cases hx
   ·rcases hd with hd | hd
    ·exact absurd hd n1
    exact absurd hd n2
   rw [e1,f1])
  (by
   intro i m' r x hc h1 h2 hx
   rcases Qbv h1 h2 with ⟨e1,e2,rfl⟩ | ⟨n1,n2,_⟩ | ⟨_,rfl,rfl⟩
   ·exact (Yo.Qa0 is is _ _ x _ _ e2 e2 hSC hSC (Qgk hx) (by simp)).1
   ·rcases hc with hc | hc
    ·exact absurd hc n1
    exact absurd hc n2
   cases hx)
  (by
   intro ok Jg i m' r hc h1 h2 hg
   rcases Qbv h1 h2 with ⟨e1,e2,rfl⟩ | ⟨n1,n2,_⟩ | ⟨_,rfl,rfl⟩
   ·have key:(arS e z he kk ty (S1 ++ S2)).rel C.w ok m':=by
     refine ⟨?_,fun s hs=>?_⟩
     ·simp only [List.map_append,List.map_cons] at hnd ⊢
      have:=List.nodup_append.1 hnd
      refine List.nodup_append.2 ⟨this.1,(List.nodup_cons.1 this.2.1).2,fun x hx y hy=>this.2.2 x hx y (List.mem_cons_of_mem _ hy)⟩
     obtain ⟨q1,q2⟩:=Qdj s (by
      simp only [List.mem_append,List.mem_cons] at hs ⊢
      rcases hs with hs | hs
      ·exact .inl hs
      exact .inr (.inr hs))
     exact ⟨Qm6 q1 Jg,q2⟩
    cases m'<;>exact key
   ·rcases hc with hc | hc
    ·exact absurd hc n1
    exact absurd hc n2
   exact Qm6 s1 Jg)
 have Qfi:=hC.Qdl ev hR
 have Qsr:Sim X ⟨st.nt,(t,.own st.rows.length kk 0 l.length) :: st.tm,st.rows.set is (.obj (arS e z he kk ty (S1 ++ S2))) ++ [.flat false kk ty l.length (vec e z l)]⟩ a ⟨μ',rows',C.w⟩:=by
  refine ⟨Qfi.rel,by simp only [rows'];rw [hC.rows],Qfi.defers,Qfi.nt,fun j av e2=>?_⟩
  simp only [List.lookup_cons] at e2
  split at e2
  ·rename_i hj
   have hj:j=t:=by simpa using hj
   subst hj
   injection e2 with e2
   subst e2
   obtain ⟨v,q1,q2⟩:=hC.tm j _ ht
   refine ⟨v,q1, ?_⟩
   have:=q2.Qc3
   subst this
   have:=Js.own (w:=C.w) (ok:=(⟨μ',rows',C.w⟩:Wp).ok X) (μ:=μ') (id:=st.rows.length) (k:=kk) (off:=0) (n:=l.length) (b:=b) (c:=c) (cs:=ds) (ty:=ty) (by
    rw [<- hC.rows,<- hlen]
    simp [μ']) s2 s3 s4 s5
   simpa [slv] using this
  exact Qfi.tm j av e2
 obtain ⟨C',fr,q1,q2,q3⟩:=h a _ Qsr bb cs hb hk
 exact ⟨C',fr,q1,q2,q3⟩
theorem Wg5 (t is N:Nat) {l:List α} {S:List (Nat × Nat × List α)} (hS:st.rows[is]? = some (.obj (arS e z he kk ty S))) (hN:st.rows[N]? = some (.flat false kk ty l.length (vec e z l))) (ht:st.tm.lookup t=some (.own N kk 0 l.length))
  (h:∀ so:Option (Nat × Nat),(so=none->l=[])->AK X f k Q ⟨st.nt,(t,.d (.v (slv so l.length))) :: st.tm,(st.rows.set N .gone).set is (.obj (arS e z he kk ty (S ++ (so.map fun q=>(q.1,q.2,l)).toList)))⟩):AK X f k Q st:=by
 intro a C hC bb cs hb hk
 have Yo:=hC.rel
 have hSC:C.rows[is]? = some (.obj (arS e z he kk ty S)):=by rw [hC.rows];exact hS
 have hNC:C.rows[N]? = some (.flat false kk ty l.length (vec e z l)):=by rw [hC.rows];exact hN
 obtain ⟨m,hμ⟩:=Yo.Qd8 hSC
 obtain ⟨mN,hμN⟩:=Yo.Qd8 hNC
 obtain ⟨hnd,Qdj⟩:=Qsd Yo hSC
 have hlt:=(List.getElem?_eq_some_iff.1 hSC).1
 have hltN:=(List.getElem?_eq_some_iff.1 hNC).1
 have hne:N≠is:=by rintro rfl;rw [hSC] at hNC;cases hNC
 obtain ⟨v,hv1,hv2⟩:=hC.tm t _ ht
 have Qny:=Yo.rel N mN _ hμN hNC
 -- what the value is
 obtain ⟨so,hso,hvv,hmN,hnew⟩:∃ so:Option (Nat × Nat),(so=none->l=[])/\v=slv so l.length/\(so.map (·.1))=mN/\∀ q,so=some q->(∃ ds,C.w.heap[q.1]? = some (.cells ds ty (0,0))/\(0+q.2) * kk=ds.size)/\l.length<=q.2/\q.2<=maxLen:=by
  generalize hn:l.length=n at hv2
  cases hv2 with
  | Qce h1=>
   rw [hμN] at h1
   injection h1 with h1
   subst h1
   exact ⟨none,fun _=>List.length_eq_zero_iff.1 hn,by simp [slv],rfl,fun q hq=>by cases hq⟩
  | own h1 hh hs hn2 hc=>
   rw [hμN] at h1
   injection h1 with h1
   subst h1
   rename_i b c ds ty'
   refine ⟨some (b,c),fun hq=>(by cases hq),by simp [slv,hn],rfl, ?_⟩
   rintro q hq
   injection hq with hq
   subst hq
   obtain ⟨cs',vs,f1,f2,f3,f4,f5⟩:=Qny
   have:ty'=ty:=by
    rw [hh] at f1
    injection f1 with f1
    injection f1 with _ f1
   subst this
   exact ⟨⟨ds,hh,hs⟩,hn2,hc⟩
 have hbS:∀ q,so=some q->q.1 ∉ S.map Prod.fst:=by
  rintro q rfl hq
  have e:C.μ[N]? = some (some q.1):=by rw [hμN,<- hmN];rfl
  exact (Yo.Qa0 is N m _ q.1 _ _ hμ e hSC hNC hq (by simp)).1 rfl
 let S':=S ++ (so.map fun q=>(q.1,q.2,l)).toList
 have Qdc:∀ {x:Nat},x∈S'.map Prod.fst->x∈S.map Prod.fst\/mN=some x:=by
  intro x hx
  simp only [S',List.map_append,List.mem_append] at hx
  rcases hx with hx | hx
  ·exact .inl hx
  right
  cases so with
  | none=>simp at hx
  | some q=>
   simp at hx
   subst hx
   exact hmN.symm
 let rows':=(C.rows.set N .gone).set is (.obj (arS e z he kk ty S'))
 have Qbv:∀ {i:Nat} {r:Row},rows'[i]? = some r->r≠.gone->(i=is/\r=.obj (arS e z he kk ty S'))\/(i≠is/\i≠N/\C.rows[i]? = some r):=by
  intro i r h2 hg
  rcases (Jr (by simpa using hlt)).1 h2 with ⟨rfl,rfl⟩ | ⟨n1,h2⟩
  ·exact .inl ⟨rfl,rfl⟩
  rcases (Jr hltN).1 h2 with ⟨rfl,rfl⟩ | ⟨n2,h2⟩
  ·exact absurd rfl hg
  exact .inr ⟨Ne.symm n1,Ne.symm n2,h2⟩
 have hnone:∀ {x:Nat},x∈S'.map Prod.fst->m≠some x:=by
  intro x hx hm
  rcases Qdc hx with hx | hx
  ·exact (Yo.Qa0 is is _ _ x _ _ hμ hμ hSC hSC hx (by simp)).1 hm
  subst hx;subst hm
  exact hne (Yo.apart is N x _ _ hμ hμN hSC hNC rfl (by simp)).symm
 obtain ⟨ev,hR⟩:=Qsx Yo (μ':=C.μ) (rows':=rows') (fun i=>i=is\/i=N) (by simp [rows',Yo.len]) (fun i x hx=>hx)
  (by
   intro i m r h1 h2 hg hc
   rcases Qbv h2 hg with ⟨e1,_⟩ | ⟨_,_,k2⟩
   ·exact absurd (.inl e1) hc
   exact ⟨h1,k2⟩)
  (fun i b hb=>.inl hb)
  (by
   intro i m' r x hc h1 h2 hg hx
   rcases Qbv h2 hg with ⟨e1,rfl⟩ | ⟨n1,n2,_⟩
   ·subst e1
    rw [hμ] at h1
    injection h1 with h1
    subst h1
    rcases hx with hx | hx
    ·exact ⟨i,m,_,.inl rfl,hμ,hSC,rfl,.inl hx⟩
    rcases Qdc hx with hx | hx
    ·exact ⟨i,m,_,.inl rfl,hμ,hSC,rfl,.inr hx⟩
    exact ⟨N,mN,_,.inr rfl,hμN,hNC,rfl,.inl hx⟩
   rcases hc with hc | hc
   ·exact absurd hc n1
   exact absurd hc n2)
  (by
   intro i j m1 m2 r s x hc hd h1 h2 h3 h4 hg1 hg2 hx hy
   rcases Qbv h3 hg1 with ⟨e1,_⟩ | ⟨n1,n2,_⟩
   ·rcases Qbv h4 hg2 with ⟨f1,_⟩ | ⟨n1,n2,_⟩
    ·rw [e1,f1]
    rcases hd with hd | hd
    ·exact absurd hd n1
    exact absurd hd n2
   rcases hc with hc | hc
   ·exact absurd hc n1
   exact absurd hc n2)
  (by
   intro i m' r x hc h1 h2 hx
   have hg:r≠.gone:=by rintro rfl;cases hx
   rcases Qbv h2 hg with ⟨e1,rfl⟩ | ⟨n1,n2,_⟩
   ·subst e1
    rw [hμ] at h1
    injection h1 with h1
    subst h1
    exact hnone hx
   rcases hc with hc | hc
   ·exact absurd hc n1
   exact absurd hc n2)
  (by
   intro ok Jg i m' r hc h1 h2 hg
   rcases Qbv h2 hg with ⟨e1,rfl⟩ | ⟨n1,n2,_⟩
   ·have key:(arS e z he kk ty S').rel C.w ok m':=by
     refine ⟨?_,fun s hs=>?_⟩
     ·simp only [S',List.map_append]
      refine List.nodup_append.2 ⟨hnd,by cases so<;>simp,fun x hx y hy=>?_⟩
      rintro rfl
      cases so with
      | none=>simp at hy
      | some q=>
       simp at hy
       subst hy
       exact hbS q rfl hx
     rcases List.mem_append.1 hs with hs | hs
     ·obtain ⟨q1,q2⟩:=Qdj s hs
      exact ⟨Qm6 q1 Jg,q2⟩
     cases so with
     | none=>simp at hs
     | some q=>
      simp at hs
      subst hs
      obtain ⟨q1,q2⟩:=hnew q rfl
      have hmN':mN=some q.1:=hmN.symm
      subst hmN'
      exact ⟨Qm6 Qny Jg,q1,q2⟩
    cases m'<;>exact key
   rcases hc with hc | hc
   ·exact absurd hc n1
   exact absurd hc n2)
 have Qfi:=hC.Qdl ev hR
 have Qsr:Sim X ⟨st.nt,(t,.d (.v (slv so l.length))) :: st.tm,(st.rows.set N .gone).set is (.obj (arS e z he kk ty S'))⟩ a ⟨C.μ,rows',C.w⟩:=by
  refine ⟨Qfi.rel,by simp only [rows'];rw [hC.rows],Qfi.defers,Qfi.nt,fun j av e2=>?_⟩
  simp only [List.lookup_cons] at e2
  split at e2
  ·rename_i hj
   have hj:j=t:=by simpa using hj
   subst hj
   injection e2 with e2
   subst e2
   refine ⟨v,hv1, ?_⟩
   rw [hvv]
   exact .d (.v (Whv _ _))
  exact Qfi.tm j av e2
 obtain ⟨C',fr,q1,q2,q3⟩:=h so hso a _ Qsr bb cs hb hk
 exact ⟨C',fr,q1,q2,q3⟩
theorem Wex (is:Nat) {S S':List (Nat × Nat × List α)} (hS:st.rows[is]? = some (.obj (arS e z he kk ty S))) (hp:S.Perm S') (h:AK X f k Q ⟨st.nt,st.tm,st.rows.set is (.obj (arS e z he kk ty S'))⟩):AK X f k Q st:=by
 intro a C hC bb cs hb hk
 have Yo:=hC.rel
 have hSC:C.rows[is]? = some (.obj (arS e z he kk ty S)):=by rw [hC.rows];exact hS
 obtain ⟨m,hμ⟩:=Yo.Qd8 hSC
 obtain ⟨hnd,Qdj⟩:=Qsd Yo hSC
 have hlt:=(List.getElem?_eq_some_iff.1 hSC).1
 have hpm:(S.map Prod.fst).Perm (S'.map Prod.fst):=hp.map _
 have hin:∀ {x:Nat},x∈S'.map Prod.fst->x∈S.map Prod.fst:=fun hx=>hpm.mem_iff.2 hx
 let rows':=C.rows.set is (.obj (arS e z he kk ty S'))
 have Qbv:∀ {i:Nat} {r:Row},rows'[i]? = some r->(i=is/\r=.obj (arS e z he kk ty S'))\/(i≠is/\C.rows[i]? = some r):=by
  intro i r h2
  rcases (Jr hlt).1 h2 with ⟨rfl,rfl⟩ | ⟨n1,h2⟩
  ·exact .inl ⟨rfl,rfl⟩
  exact .inr ⟨Ne.symm n1,h2⟩
 obtain ⟨ev,hR⟩:=Qsx Yo (μ':=C.μ) (rows':=rows') (fun i=>i=is) (by simp [rows',Yo.len]) (fun i x hx=>hx)
  (by
   intro i m r h1 h2 hg hc
   rcases Qbv h2 with ⟨e1,_⟩ | ⟨_,k2⟩
   ·exact absurd e1 hc
   exact ⟨h1,k2⟩)
  (fun i b hb=>.inl hb)
  (by
   intro i m' r x hc h1 h2 hg hx
   subst hc
   rcases Qbv h2 with ⟨_,rfl⟩ | ⟨n1,_⟩
   ·exact ⟨i,m',_,rfl,h1,hSC,rfl,hx.imp (fun q=>q) fun q=>hin q⟩
   exact absurd rfl n1)
  (fun i j m1 m2 r s x hc hd _ _ _ _ _ _ _ _=>by rw [hc,hd])
  (by
   intro i m' r x hc h1 h2 hx
   subst hc
   rcases Qbv h2 with ⟨_,rfl⟩ | ⟨n1,_⟩
   ·exact (Yo.Qa0 i i _ _ x _ _ h1 h1 hSC hSC (hin hx) (by simp)).1
   exact absurd rfl n1)
  (by
   intro ok Jg i m' r hc h1 h2 hg
   subst hc
   rcases Qbv h2 with ⟨_,rfl⟩ | ⟨n1,_⟩
   ·have key:(arS e z he kk ty S').rel C.w ok m':=⟨hpm.nodup_iff.1 hnd,fun s hs=>by
     obtain ⟨q1,q2⟩:=Qdj s (hp.mem_iff.2 hs)
     exact ⟨Qm6 q1 Jg,q2⟩⟩
    cases m'<;>exact key
   exact absurd rfl n1)
 have Qfi:=hC.Qdl ev hR
 obtain ⟨C',fr,q1,q2,q3⟩:=h a _ (by
  have:=Qfi
  simp only [rows'] at this
  rw [hC.rows] at this
  exact this) bb cs hb hk
 exact ⟨C',fr,q1,q2,q3⟩
theorem Wbm (e:α->List DV) (z:α) (he:∀ x,NLs (e x)) (kk:Nat) (ty:TypeId) (h:AK X f k Q ⟨st.nt,st.tm,st.rows ++ [.obj (arS e z he kk ty [])]⟩):AK X f k Q st:=by
 intro a C hC b cs hb hk
 have Yo:Qbm C.w ((C.Qby (.obj (arS e z he kk ty []))).ok X) (C.Qby (.obj (arS e z he kk ty []))).μ none (.obj (arS e z he kk ty [])):=⟨.nil,fun _ h=>by cases h⟩
 have hv:=Xp.Qby hC.rel Yo
 have ev:=Ev.Qby hC.rel (.obj (arS e z he kk ty []))
 exact h a (C.Qby (.obj (arS e z he kk ty []))) (by
  have:=hC.Qdl ev hv
  have e:(C.Qby (.obj (arS e z he kk ty []))).rows=st.rows ++ [.obj (arS e z he kk ty [])]:=by simp only [Wp.Qby,hC.rows]
  rw [e] at this
  exact this) b cs hb hk
end
theorem Wgt {X:Ctx} {C:Wp} {ids:List Nat} {Xr:List Row} (h:Xp X C) (hh:Qbo C.rows ids Xr) {id b:Nat} {m:Option Nat} {r:Row} (hr:C.rows[id]? = some r) (hμ:C.μ[id]? = some m) (hi:id ∉ ids) (hg:r≠.gone) (hb:r.hasB C.w m b):¬ (Qcf X C ids Xr).live b:=by
 rintro ⟨j,m',s,e1,e2,e3,e6⟩
 obtain ⟨jd,e4,e5⟩:=(Qhs h hh).1 e1
 have k1:=hh.rows j jd s e4 e2
 have:=h.Qe4 e5 hμ k1.1 hr (by rw [Qey];exact e3) hg ((Qi4 _ _ _ _ _).2 e6) hb
 subst this
 exact hi (List.mem_of_getElem? e4)
def eO (x:Value × Int):List DV:=[.v x.1,.i x.2]
theorem nlO (x:Value × Int):NLs (eO x):=.cons (.v _) (.cons (.v _) .nil)
theorem Whk {X:Ctx} {C:Wp} {ids:List Nat} {Xr:List Row} {α:Type} {e:α->List DV} {z:α} {he:∀ x,NLs (e x)} {kk:Nat} {ty tq:TypeId} (h:Xp X C) (hh:Qbo C.rows ids Xr) {ia is a:Nat} {dom:List Nat} {M:Nat->Value × Int} {S:List (Nat × Nat × List α)}
  (hA:C.rows[ia]? = some (.obj (arO eO nlO tq dom M))) (hia:ia ∉ ids) (hS:C.rows[is]? = some (.obj (arS e z he kk ty S))) (his:is ∉ ids) (ha:a∈dom) {so:Option (Nat × Nat)} {l:List α} {mk:Int} (hM:M a=(slv so l.length,mk))
  (h0:so=none->l=[]) (h1:∀ q,so=some q->(q.1,q.2,l)∈S) {v:Value} (hv:Js C.w (C.ok X) C.μ (.d (pA a 0)) v):
  Js C.w ((Qcf X C ids Xr).ok (Jz X C ids)) (Jz X C ids).μ0 (.d (.rop false 1 (fun _=>[.sl false l.length (vec e z l),.i mk]) 0 0)) v:=by
 have hv:=hv.Qc3
 subst hv
 obtain ⟨mA,hμA⟩:=h.Qd8 hA
 obtain ⟨mS,hμS⟩:=h.Qd8 hS
 obtain ⟨vs,c1,c2⟩:=Qv8 h hA ha
 obtain ⟨hnd,Qdj⟩:=Qsd h hS
 have hx:a∈(Row.obj (arO eO nlO tq dom M)).ext C.w mA:=ha
 have Qrp:=Wgt h hh hA hμA hia (by simp) (.inr hx)
 rw [hM] at c2
 have hvs:VRs C.w ((Qcf X C ids Xr).ok (Jz X C ids)) [.sl false l.length (vec e z l),.i mk] vs:=by
  cases c2 with
  | cons o1 o2 o3=>
   refine .cons o1 ?_ (o3.mono (Qm2 h hh) fun _ _ _=>rfl)
   cases o2 with
   | v o4=>
    cases so with
    | none=>
     rw [h0 rfl]
     exact .sl0
    | some q=>
     have hq:=h1 q rfl
     obtain ⟨s1,⟨ds,s2,s3⟩,s4,s5⟩:=Qdj _ hq
     rcases Nat.eq_zero_or_pos l.length with hl | hl
     ·have:l=[]:=List.length_eq_zero_iff.1 hl
      subst this
      exact .sl0
     obtain ⟨cs,ws,f1,f2,f3,f4,f5⟩:=s1
     have hy:q.1∈(Row.obj (arS e z he kk ty S)).ext C.w mS:=List.mem_map.2 ⟨_,hq,rfl⟩
     refine .sl kk ws hl s4 ⟨(h.Qbh is mS q.1 _ hμS hS hy).2,Wgt h hh hS hμS his (by simp) (.inr hy),fun e=>by cases e⟩ f3 (fun i hi=>(f4 i hi).mono (Qm2 h hh) fun _ _ _=>rfl) ?_
     intro i j u hi hj
     rw [cell_of_row _ _ _ _ _ _ f1]
     have:=f5 i j u hi hj
     rwa [Nat.zero_add]
 have:=VR.rop (w:=C.w) (ok:=(Qcf X C ids Xr).ok (Jz X C ids)) (t:=false) (n:=1) (g:=fun _=>[.sl false l.length (vec e z l),.i mk]) (i:=0) (off:=0) (b:=a) (o:=0) vs.length (fun _=>vs) (by omega)
  ⟨(h.Qbh ia mA a _ hμA hA hx).2,Qrp,fun e=>by cases e⟩ (fun _ _=>rfl) (fun _ _=>hvs) (fun i j u hi hj=>by
   have hi:i=0:=by omega
   subst hi
   rw [cell_of_row _ _ _ _ _ _ c1]
   simpa using hj)
 simp only [Nat.zero_mul,Nat.zero_add] at this ⊢
 exact .d this
theorem Wdm {X:Ctx} {C:Wp} {ids:List Nat} {Xr:List Row} {α:Type} {e:α->List DV} {z:α} {he:∀ x,NLs (e x)} {kk:Nat} {ty tq:TypeId} (h:Xp X C) (hh:Qbo C.rows ids Xr) (ia is:Nat) {a:Nat} {dom:List Nat} {M:Nat->Value × Int} {S:List (Nat × Nat × List α)}
  (hA:C.rows[ia]? = some (.obj (arO eO nlO tq dom M))) (hia:ia ∉ ids) (hS:C.rows[is]? = some (.obj (arS e z he kk ty S))) (his:is ∉ ids) (ha:a∈dom) {so:Option (Nat × Nat)} {l:List α} {mk:Int} (hM:M a=(slv so l.length,mk))
  (h0:so=none->l=[]) (h1:∀ q,so=some q->(q.1,q.2,l)∈S) {x0 x2 x3:DV} {vs:List Value} (hv:Qbf C.w (C.ok X) C.μ [.d x0,.d (pA a 0),.d x2,.d x3] vs):
  Qbf C.w ((Qcf X C ids Xr).ok (Jz X C ids)) (Jz X C ids).μ0 [.d x0,.d (.rop false 1 (fun _=>[.sl false l.length (vec e z l),.i mk]) 0 0),.d x2,.d x3] vs:=by
 cases hv with
 | cons g0 hv=>
  cases hv with
  | cons g1 hv=>
   exact .cons (Qrw h hh (Qp x0) g0) (.cons (Whk h hh hA hia hS his ha hM h0 h1 g1) (Qh0 h hh (.cons (Qp x2) (.cons (Qp x3) .nil)) hv))
end Go.Sy
namespace Go.Sy
section
variable {X:Ctx} {T:Tab} {f:FuncId} {k k':List Item} {Q:Frame->Frame->Wp->Prop} {st st':St}
def Wdi (T:Tab) (st:St) (k:List Item):Option (Value × Option Tmp × List Item):=
 match Qe3 st k with
 | some (o,k')=>
  match o.op with
  | .call ⟨.builtin .len,⟨[x]⟩,⟨[t]⟩⟩=>
   match valOf st.tm x with
   | some (.d (.v u))=>bif (T.Qck.lookup t).isSome then some (u,o.dst,k') else none
   | _=>none
  | _=>none
 | none=>none
theorem Wg6 (hT:Xo X.P T) {so:Option (Nat × Nat)} {n:Nat} {dst:Option Tmp} (e:Wdi T st k=some (slv so n,dst,k')) (h0:so=none->n=0)
  (Qcd:St.put st dst (.d (.v (.int .i64 n)))=some st') (h:AK X f k' Q st'):AK X f k Q st:=by
 unfold Wdi at e
 split at e
 ·rename_i o k3 Qe7
  split at e
  ·rename_i x t hop
   split at e
   ·rename_i u hx
    cases hs:(T.Qck.lookup t).isSome with
    | false=>rw [hs] at e;cases e
    | true=>
     rw [hs] at e
     simp only [cond_true,Option.some.injEq,Prod.mk.injEq] at e
     obtain ⟨rfl,rfl,rfl⟩:=e
     refine Qkg Qe7 h fun a C hC=>⟨.int .i64 n,C,st, ?_,hC,_,Qcd,.d (.v rfl)⟩
     obtain ⟨el,he⟩:=Option.isSome_iff_exists.1 hs
     have e1:=(hC.val _ _ hx).Qc3
     have key:∀ (A:Option Addr) (c:Nat),a.eval x=.slice A n c->(execOp a.eval o).run X.P C.w=.ok (.value (.int .i64 n)) C.w:=by
      intro A c e1
      unfold execOp
      rw [hop]
      simp [resolve,invoke,builtin,e1,Qpl hT he]
     cases so with
     | none=>
      have:n=0:=h0 rfl
      subst this
      exact key none 0 e1
     | some q=>exact key _ _ e1
   cases e
  cases e
 cases e
def sb {α:Type} (so:Option (Nat × Nat)) (l:List α):List (Nat × Nat × List α):=(so.map fun q=>(q.1,q.2,l)).toList
variable {α:Type} {e:α->List DV} {z:α} {he:∀ x,NLs (e x)} {kk:Nat} {ty tq:TypeId}
theorem Qsa (hT:Xo X.P T) {M:Nat->Value × Int} {dom:List Nat} (ia is:Nat) {a:Nat} {so:Option (Nat × Nat)} {l:List α} {mk:Int} {S:List (Nat × Nat × List α)} {dst:Tmp} (e1:Wak T st k=some (a,0,1,false,some dst,k'))
  (hA:st.rows[ia]? = some (.obj (arO eO nlO tq dom M))) (ha:a∈dom) (hM:M a=(slv so l.length,mk)) (h0:so=none->l=[]) (hS:st.rows[is]? = some (.obj (arS e z he kk ty (sb so l ++ S))))
  (Qcd:St.put { st with rows:=st.rows.set is (.obj (arS e z he kk ty S)) ++ [.flat false kk ty l.length (vec e z l)] } (some dst) (.own st.rows.length kk 0 l.length)=some st') (h:AK X f k' Q st'):AK X f k Q st:=by
 have hb:Nat.blt dst st.nt=true:=by
  cases hb:Nat.blt dst st.nt with
  | true=>rfl
  | false=>simp only [St.put,hb] at Qcd;cases Qcd
 simp only [St.put,hb,cond_true,Option.some.injEq] at Qcd
 subst Qcd
 refine Qtb hT ia [.v (slv so l.length)] e1 hA ha (by rw [hM];rfl) rfl (fun _=>rfl) (st':=⟨st.nt,(dst,.d (.v (slv so l.length))) :: st.tm,st.rows⟩) (by simp [St.put,hb]) ?_
 have hlk:∀ {x y:AV} {i:Nat} {av:AV},((dst,x) :: st.tm).lookup i=some av->((dst,x) :: (dst,y) :: st.tm).lookup i=some av:=by
  intro x y i av hl
  simp only [List.lookup_cons] at hl ⊢
  split at hl
  ·exact hl
  exact hl
 cases so with
 | none=>
  have:l=[]:=h0 rfl
  subst this
  refine Wbj (st:=⟨st.nt,(dst,.d (.v (.slice none 0 0))) :: st.tm,st.rows⟩) dst kk ty (vec e z []) _ (by simp [List.lookup_cons]) rfl ?_
  refine Qm1 ((dst,.own st.rows.length kk 0 0) :: st.tm) (fun i av hl=>hlk hl) ?_
  have:st.rows.set is (.obj (arS e z he kk ty S))=st.rows:=by
   apply List.ext_getElem?
   intro i
   by_cases hi:is=i
   ·subst hi
    rw [List.getElem?_set_self (List.getElem?_eq_some_iff.1 hS).1,hS]
    simp [sb]
   rw [List.getElem?_set_ne hi]
  rw [this] at h
  exact h
 | some q=>
  refine Wev (st:=⟨st.nt,(dst,.d (.v (slv (some q) l.length))) :: st.tm,st.rows⟩) dst is (b:=q.1) (c:=q.2) (l:=l) (S1:=[]) (S2:=S) (by simpa [sb] using hS) (by simp [List.lookup_cons]) rfl ?_
  exact Qm1 ((dst,.own st.rows.length kk 0 l.length) :: st.tm) (fun i av hl=>hlk hl) h
end
structure Rec where
 c:Int
 a:Nat
 so:Option (Nat × Nat)
def mpK (L:List Rec):List (Int × Value):=L.map fun r=>(r.c,.pointer (some ⟨r.a,0,none⟩))
def adr (L:List Rec):List Nat:=L.map Rec.a
def Qdi {α:Type} (P:Int->List α × Int) (L:List Rec):List (Nat × Nat × List α):=L.flatMap fun r=>sb r.so (P r.c).1
structure Qf7 {α:Type} (L:List Rec) (M:Nat->Value × Int) (S:List (Nat × Nat × List α)) (P:Int->List α × Int):Prop where
 nc:(L.map Rec.c).Nodup
 na:(L.map Rec.a).Nodup
 obj:∀ r∈L,M r.a=(slv r.so (P r.c).1.length,(P r.c).2)/\(r.so=none->(P r.c).1=[])
 out:∀ c,(∀ r∈L,r.c≠c)->P c=([],0)
 blk:S.Perm (Qdi P L)
def Qhj {α:Type} (P:Int->α) (c:Int) (x:α):Int->α:=fun d=>if d=c then x else P d
section
variable {α:Type} {L:List Rec} {M:Nat->Value × Int} {S:List (Nat × Nat × List α)} {P:Int->List α × Int}
theorem Qf7.nil:Qf7 (α:=α) [] (fun _=>(.slice none 0 0,0)) [] (fun _=>([],0)):=⟨.nil,.nil,fun _ h=>by simp at h,fun _ _=>rfl,.nil⟩
theorem Wf1 {c:Int} (h:(mpK L).lookup c=none):∀ r∈L,r.c≠c:=by
 induction L with
 | nil=>intro r hr;simp at hr
 | cons x L ih=>
  intro r hr
  simp only [mpK,List.map_cons,List.lookup_cons] at h
  split at h
  ·cases h
  rename_i hc
  rcases List.mem_cons.1 hr with rfl | hr
  ·simp at hc;exact fun e=>hc e.symm
  exact ih h r hr
theorem Wf3 {c:Int} {v:Value} (h:(mpK L).lookup c=some v):∃ r∈L,r.c=c/\v=.pointer (some ⟨r.a,0,none⟩):=by
 induction L with
 | nil=>simp [mpK] at h
 | cons x L ih=>
  simp only [mpK,List.map_cons,List.lookup_cons] at h
  split at h
  ·rename_i hc
   injection h with h
   simp at hc
   exact ⟨x,List.mem_cons_self ..,hc.symm,h.symm⟩
  obtain ⟨r,h1,h2⟩:=ih h
  exact ⟨r,List.mem_cons_of_mem _ h1,h2⟩
theorem Wf2 {c:Int} {a:Nat} (h:∀ r∈L,r.c≠c):(mpK (L ++ [⟨c,a,none⟩])).lookup c=some (.pointer (some ⟨a,0,none⟩)):=by
 induction L with
 | nil=>simp [mpK,List.lookup_cons]
 | cons x L ih=>
  simp only [mpK,List.cons_append,List.map_cons,List.lookup_cons]
  split
  ·rename_i hc
   simp at hc
   exact absurd hc.symm (h x (List.mem_cons_self ..))
  exact ih fun r hr=>h r (List.mem_cons_of_mem _ hr)
theorem Qf7.new (h:Qf7 L M S P) {c:Int} {a:Nat} (hc:∀ r∈L,r.c≠c) (ha:a ∉ adr L):Qf7 (L ++ [⟨c,a,none⟩]) (upd M a (.slice none 0 0,0)) S P:=by
 have hP:=h.out c hc
 refine ⟨?_, ?_, ?_, ?_, ?_⟩
 ·rw [List.map_append]
  refine List.nodup_append.2 ⟨h.nc,by simp,fun x hx y hy=>?_⟩
  simp at hy
  subst hy
  rintro rfl
  obtain ⟨r,hr,e⟩:=List.mem_map.1 hx
  exact hc r hr e
 ·rw [List.map_append]
  refine List.nodup_append.2 ⟨h.na,by simp,fun x hx y hy=>?_⟩
  simp at hy
  subst hy
  rintro rfl
  exact ha hx
 ·intro r hr
  rcases List.mem_append.1 hr with hr | hr
  ·have:r.a≠a:=fun e=>ha (e▸List.mem_map.2 ⟨r,hr,rfl⟩)
   simp only [upd,this,if_false]
   exact h.obj r hr
  simp at hr
  subst hr
  simp [upd,slv,hP]
 ·intro d hd
  exact h.out d fun r hr=>hd r (List.mem_append_left _ hr)
 refine h.blk.trans ?_
 simp [Qdi,sb]
theorem Wg1 {r:Rec} (hr:r∈L):r.a∈adr L:=List.mem_map.2 ⟨r,hr,rfl⟩
theorem Qnj {P P':Int->List α × Int}:∀ {L:List Rec},(∀ r∈L,P' r.c=P r.c)->Qdi P' L=Qdi P L
 | [],_=>rfl
 | x :: L,h=>by
  simp only [Qdi,List.flatMap_cons]
  rw [h x (List.mem_cons_self ..)]
  exact congrArg _ (Qnj (L:=L) fun r hr=>h r (List.mem_cons_of_mem _ hr))
theorem Qf7.split (h:Qf7 L M S P) {r:Rec} (hr:r∈L):∃ L1 L2,L=L1 ++ r :: L2/\S.Perm (sb r.so (P r.c).1 ++ Qdi P (L1 ++ L2))/\(∀ x∈L1 ++ L2,x.c≠r.c/\x.a≠r.a):=by
 obtain ⟨L1,L2,rfl⟩:=List.append_of_mem hr
 refine ⟨L1,L2,rfl,h.blk.trans ?_,fun x hx=>?_⟩
 ·simp only [Qdi,List.flatMap_append,List.flatMap_cons]
  refine (List.perm_append_comm_assoc _ _ _)
 have nc:=h.nc
 have na:=h.na
 simp only [List.map_append,List.map_cons] at nc na
 have nc:=List.nodup_append.1 nc
 have na:=List.nodup_append.1 na
 rcases List.mem_append.1 hx with hx | hx
 ·exact ⟨fun e=>nc.2.2 _ (List.mem_map.2 ⟨x,hx,rfl⟩) _ (List.mem_cons_self ..) e,fun e=>na.2.2 _ (List.mem_map.2 ⟨x,hx,rfl⟩) _ (List.mem_cons_self ..) e⟩
 exact ⟨fun e=>(List.nodup_cons.1 nc.2.1).1 (e▸List.mem_map.2 ⟨x,hx,rfl⟩),fun e=>(List.nodup_cons.1 na.2.1).1 (e▸List.mem_map.2 ⟨x,hx,rfl⟩)⟩
theorem Qf7.put (h:Qf7 L M S P) {L1 L2:List Rec} {r:Rec} (hL:L=L1 ++ r :: L2) (hx:∀ x∈L1 ++ L2,x.c≠r.c/\x.a≠r.a) (so:Option (Nat × Nat)) (l:List α) (mk:Int) (h0:so=none->l=[]):
  Qf7 (L1 ++ ⟨r.c,r.a,so⟩ :: L2) (upd M r.a (slv so l.length,mk)) (Qdi P (L1 ++ L2) ++ sb so l) (Qhj P r.c (l,mk)):=by
 subst hL
 have hP:∀ x∈L1 ++ L2,Qhj P r.c (l,mk) x.c=P x.c:=fun x hm=>by simp [Qhj,(hx x hm).1]
 refine ⟨by simpa using h.nc,by simpa using h.na, ?_, ?_, ?_⟩
 ·intro x hm
  have hm:x∈L1 ++ L2\/x=⟨r.c,r.a,so⟩:=by
   simp only [List.mem_append,List.mem_cons] at hm ⊢
   rcases hm with hm | hm | hm
   ·exact .inl (.inl hm)
   ·exact .inr hm
   exact .inl (.inr hm)
  rcases hm with hm | rfl
  ·rw [hP x hm]
   simp only [upd,(hx x hm).2,if_false]
   refine h.obj x ?_
   simp only [List.mem_append,List.mem_cons] at hm ⊢
   rcases hm with hm | hm
   ·exact .inl hm
   exact .inr (.inr hm)
  simp only [upd,Qhj,if_true]
  exact ⟨trivial,h0⟩
 ·intro c hc
  have:c≠r.c:=fun e=>hc ⟨r.c,r.a,so⟩ (by simp) e.symm
  simp only [Qhj,this,if_false]
  refine h.out c fun x hm=>?_
  rcases List.mem_append.1 hm with hm | hm
  ·exact hc x (List.mem_append_left _ hm)
  rcases List.mem_cons.1 hm with rfl | hm
  ·exact fun e=>this e.symm
  exact hc x (List.mem_append_right _ (List.mem_cons_of_mem _ hm))
 have e1:Qdi (Qhj P r.c (l,mk)) (L1 ++ ⟨r.c,r.a,so⟩ :: L2)=Qdi P L1 ++ (sb so l ++ Qdi P L2):=by
  simp only [Qdi,List.flatMap_append,List.flatMap_cons]
  have a1:=Qnj (L:=L1) fun x hm=>hP x (List.mem_append_left _ hm)
  have a2:=Qnj (L:=L2) fun x hm=>hP x (List.mem_append_right _ hm)
  simp only [Qdi] at a1 a2
  rw [a1,a2]
  simp [Qhj]
 rw [e1]
 have e2:Qdi P (L1 ++ L2)=Qdi P L1 ++ Qdi P L2:=by simp [Qdi,List.flatMap_append]
 rw [e2,List.append_assoc]
 exact List.Perm.append_left _ List.perm_append_comm
theorem Qf7.mem (h:Qf7 L M S P) {r:Rec} (hr:r∈L):∀ q,r.so=some q->(q.1,q.2,(P r.c).1)∈S:=by
 intro q hq
 refine h.blk.mem_iff.2 (List.mem_flatMap.2 ⟨r,hr, ?_⟩)
 simp [sb,hq]
theorem Whm {L1 L2:List Rec} {r:Rec} (so:Option (Nat × Nat)):mpK (L1 ++ ⟨r.c,r.a,so⟩ :: L2)=mpK (L1 ++ r :: L2):=by simp [mpK]
theorem Wg2 {L1 L2:List Rec} {r:Rec} (so:Option (Nat × Nat)):adr (L1 ++ ⟨r.c,r.a,so⟩ :: L2)=adr (L1 ++ r :: L2):=by simp [adr]
theorem Qf7.mark (h:Qf7 L M S P) {r:Rec} (hr:r∈L) (mk:Int):Qf7 L (upd M r.a (slv r.so (P r.c).1.length,mk)) S (Qhj P r.c ((P r.c).1,mk)):=by
 obtain ⟨L1,L2,hL,hS,hx⟩:=h.split hr
 have:=h.put hL hx r.so (P r.c).1 mk (h.obj r hr).2
 rw [show (⟨r.c,r.a,r.so⟩:Rec)=r from rfl,<- hL] at this
 exact ⟨this.nc,this.na,this.obj,this.out,(hS.trans List.perm_append_comm).trans this.blk⟩
end
end Go.Sy
namespace Go.Sy
def Qp3 (l:Nat) (j:Code):Qip where
 ext _ _:=[]
 rel w _ m:=m=some l/\∃ lp:Loop,w.heap[l]? = some (.loop lp)/\lp.state=.done/\lp.pending=some j
 Qb5 _ _:=rfl
 Qfk:=by
  rintro w w' ok ok' m ⟨rfl,lp,h1,h2,h3⟩ _ _ hb _
  exact ⟨rfl,lp,(hb _ rfl).trans h1,h2,h3⟩
 perm _ h:=h
def Qb1 (A O:List Nat):Qip where
 ext _ _:=A
 rel w _ m:=m=none/\O.Nodup/\(∀ D∈O,D∈A)/\∀ D∈O,w.heap[D]? = some (.deferred (some []))
 Qb5 _ _:=rfl
 Qfk:=by
  rintro w w' ok ok' m ⟨h0,h1,h2,h3⟩ _ _ _ hx
  exact ⟨h0,h1,h2,fun D hD=>(hx D (h2 D hD)).trans (h3 D hD)⟩
 perm _ h:=h
def Ctx.marks (X:Ctx) (Ds:List Nat):Ctx:={ X with ds:=Ds.map (fun D=>{ target:=.collected D,args:=#[] }) }
theorem Xp.marks {X:Ctx} {C:Wp} (Ds:List Nat) (h:Xp X C):Xp (X.marks Ds) C:=⟨h.len,h.os,h.tape,h.output,h.size,h.keep,h.shape,h.first,h.place,h.apart,h.Qbh,h.Qa0,h.rel⟩
theorem Xp.Qfa {X:Ctx} {C:Wp} {Ds:List Nat} (h:Xp (X.marks Ds) C):Xp X C:=⟨h.len,h.os,h.tape,h.output,h.size,h.keep,h.shape,h.first,h.place,h.apart,h.Qbh,h.Qa0,h.rel⟩
theorem Wdr {X:Ctx} (hX:X.ds=[]/\X.rnd=none):X.marks []=X:=by
 obtain ⟨P,w0,μ0,okp,ds,rnd⟩:=X
 obtain ⟨h1,h2⟩:=hX
 simp only at h1
 subst h1
 rfl
section
variable {X:Ctx} {f:FuncId} {k:List Item} {Q:Frame->Frame->Wp->Prop} {st st':St}
theorem Wg3 (h:AK X f k Q ⟨st.nt,st.tm,st.rows ++ [.obj (Qb1 [] [])]⟩):AK X f k Q st:=by
 intro a C hC b cs hb hk
 have Yo:Qbm C.w ((C.Qby (.obj (Qb1 [] []))).ok X) (C.Qby (.obj (Qb1 [] []))).μ none (.obj (Qb1 [] [])):=⟨rfl,.nil,by simp,by simp⟩
 have hv:=Xp.Qby hC.rel Yo
 have ev:=Ev.Qby hC.rel (.obj (Qb1 [] []))
 exact h a (C.Qby (.obj (Qb1 [] []))) (by
  have:=hC.Qdl ev hv
  have e:(C.Qby (.obj (Qb1 [] []))).rows=st.rows ++ [.obj (Qb1 [] [])]:=by simp only [Wp.Qby,hC.rows]
  rw [e] at this
  exact this) b cs hb hk
theorem Wh9 (i j:Nat) {D:Nat} {A O:List Nat} (hi:st.rows[i]? = some (.obj (Qb1 A O))) (hj:st.rows[j]? = some (.dfr D)) (hs:st'=⟨st.nt,st.tm,(st.rows.set i (.obj (Qb1 (D :: A) (D :: O)))).set j .gone⟩) (h:AK X f k Q st'):AK X f k Q st:=by
 subst hs
 intro a C hC b cs hb hk
 have Yo:=hC.rel
 have hiC:C.rows[i]? = some (.obj (Qb1 A O)):=by rw [hC.rows];exact hi
 have hjC:C.rows[j]? = some (.dfr D):=by rw [hC.rows];exact hj
 have hij:i≠j:=by rintro rfl;rw [hiC] at hjC;cases hjC
 obtain ⟨m,hμ⟩:=Yo.Qd8 hiC
 obtain ⟨n,hν⟩:=Yo.Qd8 hjC
 obtain ⟨rfl,hnd,Qgk,Qdj⟩:=Yo.rel i m _ hμ hiC
 have hd:=Yo.rel j n _ hν hjC
 cases n with
 | none=>exact hd.elim
 | some q=>
  obtain ⟨rfl,hq⟩:=hd
  have hqA:q ∉ A:=fun hx=>(Yo.Qa0 i j _ _ q _ _ hμ hν hiC hjC hx (by simp)).1 rfl
  have hli:=(List.getElem?_eq_some_iff.1 hiC).1
  have hlj:=(List.getElem?_eq_some_iff.1 hjC).1
  let rows':=(C.rows.set i (.obj (Qb1 (q :: A) (q :: O)))).set j .gone
  have Qbv:∀ {x:Nat} {r:Row},rows'[x]? = some r->(x=j/\r=.gone)\/(x=i/\r=.obj (Qb1 (q :: A) (q :: O)))\/(x≠i/\x≠j/\C.rows[x]? = some r):=by
   intro x r h2
   rcases (Jr (by simpa using hlj)).1 h2 with ⟨rfl,rfl⟩ | ⟨n1,h2⟩
   ·exact .inl ⟨rfl,rfl⟩
   rcases (Jr hli).1 h2 with ⟨rfl,rfl⟩ | ⟨n2,h2⟩
   ·exact .inr (.inl ⟨rfl,rfl⟩)
   exact .inr (.inr ⟨Ne.symm n2,Ne.symm n1,h2⟩)
  obtain ⟨ev,hR⟩:=Qsx Yo (μ':=C.μ) (rows':=rows') (fun x=>x=i\/x=j) (by simp [rows',Yo.len]) (fun x y hx=>hx)
   (by
    intro x m r h1 h2 hg hc
    rcases Qbv h2 with ⟨_,e⟩ | ⟨e,_⟩ | ⟨_,_,k2⟩
    ·exact absurd e hg
    ·exact absurd (.inl e) hc
    exact ⟨h1,k2⟩)
   (fun x b hb=>.inl hb)
   (by
    intro x m' r y hc h1 h2 hg hx
    rcases Qbv h2 with ⟨_,e⟩ | ⟨rfl,rfl⟩ | ⟨n1,n2,_⟩
    ·exact absurd e hg
    ·rw [hμ] at h1
     cases h1
     rcases hx with hx | hx
     ·cases hx
     rcases List.mem_cons.1 hx with rfl | hx
     ·exact ⟨j,_,_,.inr rfl,hν,hjC,rfl,.inl rfl⟩
     exact ⟨x,_,_,.inl rfl,hμ,hiC,rfl,.inr hx⟩
    rcases hc with hc | hc
    ·exact absurd hc n1
    exact absurd hc n2)
   (by
    intro x y m1 m2 r s z hc hd h1 h2 h3 h4 g1 g2 _ _
    have key:∀ {x:Nat} {r:Row},(x=i\/x=j)->rows'[x]? = some r->r≠.gone->x=i:=by
     intro x r hc h2 hg
     rcases Qbv h2 with ⟨_,e⟩ | ⟨e,_⟩ | ⟨n1,n2,_⟩
     ·exact absurd e hg
     ·exact e
     rcases hc with hc | hc
     ·exact absurd hc n1
     exact absurd hc n2
    rw [key hc h3 g1,key hd h4 g2])
   (by
    intro x m' r z hc h1 h2 hx
    rcases Qbv h2 with ⟨_,e⟩ | ⟨rfl,rfl⟩ | ⟨n1,n2,_⟩
    ·subst e;cases hx
    ·rw [hμ] at h1
     cases h1
     simp
    rcases hc with hc | hc
    ·exact absurd hc n1
    exact absurd hc n2)
   (by
    intro ok Jg x m' r hc h1 h2 hg
    rcases Qbv h2 with ⟨_,e⟩ | ⟨rfl,rfl⟩ | ⟨n1,n2,_⟩
    ·exact absurd e hg
    ·rw [hμ] at h1
     cases h1
     exact ⟨rfl,List.nodup_cons.2 ⟨fun hx=>hqA (Qgk _ hx),hnd⟩,fun D hD=>by
      rcases List.mem_cons.1 hD with rfl | hD
      ·exact List.mem_cons_self ..
      ·exact List.mem_cons_of_mem _ (Qgk D hD),fun D hD=>by
      rcases List.mem_cons.1 hD with rfl | hD
      ·exact hq
      exact Qdj D hD⟩
    rcases hc with hc | hc
    ·exact absurd hc n1
    exact absurd hc n2)
  have:=hC.Qdl ev hR
  simp only [rows',hC.rows] at this
  exact h a _ this b cs hb hk
def Ql7 (X:Ctx) (Wj:List Row) (go:Bool) (_ fr:Frame) (C:Wp):Prop:=
 ∃ w2,(∀ c cs,step X.P (lone fr (c :: cs) C.w)=.next (lone (c.finish (.bool go)) cs w2))/\Jt X ⟨C.μ,Wj,w2⟩ (.d (.v (.bool go))) (.bool go)
theorem Qv3 (id:Nat) {l:Nat} {fn:FuncId} {nt:Nat} {is:List Nat} {xs:List AV} {ps:Array Tmp} {asg body:Code} (hX:X.rnd=some l) (hr:st.rows[id]? = some (.loop l .busy fn nt is xs ps asg body))
  {Wj:List Row} (hs:Wj=st.rows.set id (.loop l .ready fn nt is xs ps asg body)) (nr:∀ r∈Wj,NR r):AK X f [] (Ql7 X Wj true) st:=by
 subst hs
 intro a C hC b cs hb hk
 obtain ⟨lp,h1,h2,h3,h4,h5⟩:=Qpc (s':=.ready) hC.rel (by rw [hC.rows];exact hr)
 have Qfh:=run_endRound (P:=X.P) none h1
 have e:({ lp with state:=if (none:Option Code).isNone then LoopState.ready else .done,pending:=(none:Option Code) }:Loop)={ lp with state:=.ready }:=by
  cases lp
  simp only at h3
  subst h3
  rfl
 rw [e] at Qfh
 simp only [Wp.Zw,hC.rows] at h4
 refine ⟨C,b.atR a [],⟨_,fun c cs=>stepR_round_end (hk.2.trans hX) hk.1 Qfh,h4, ?_,.d (.v rfl)⟩,.refl _ _,hb⟩
 intro j ob r e1 e2
 exact (h4.rel j ob r e1 e2).perm (fun _ h=>⟨rfl,h⟩) (nr r (List.mem_of_getElem? e2))
theorem Qv4 (id:Nat) {l jd:Nat} {fn:FuncId} {nt:Nat} {is:List Nat} {xs:List AV} {ps:Array Tmp} {asg body:Code} (hX:X.rnd=some l) (hx:exitTo jd k=none) (hr:st.rows[id]? = some (.loop l .busy fn nt is xs ps asg body))
  {Wj:List Row} (hs:Wj=st.rows.set id (.obj (Qp3 l (.exit jd)))) (nr:∀ r∈Wj,NR r):AK X f (.code (.exit jd) :: k) (Ql7 X Wj false) st:=by
 subst hs
 intro a C hC b cs hb hk
 have hrC:C.rows[id]? = some (.loop l .busy fn nt is xs ps asg body):=by rw [hC.rows];exact hr
 obtain ⟨ob,hμ⟩:=hC.rel.Qd8 hrC
 have Yo:=hC.rel.rel id ob _ hμ hrC
 cases ob with
 | none=>exact Yo.elim
 | some q=>
  obtain ⟨rfl,T,D,vs,h1,h2,h3,h4⟩:=Yo
  have Qfh:=run_endRound (P:=X.P) (some (.exit jd)) h1
  have tu:=Qjf (r':=.obj (Qp3 q (.exit jd))) hC.rel (.loop { state:=.done,pending:=some (.exit jd),fn:=fn,tmps:=T,params:=ps,assign:=asg,body:=body,defers:=D }) hμ hrC rfl h1
  have h5:=Xp.Zw hC.rel tu (.inl (by simp)) ⟨rfl,_,Qux h1,rfl,rfl⟩
  simp only [Wp.Zw,hC.rows] at h5
  refine ⟨C,b.atR a (.code (.exit jd) :: k),⟨_,fun c cs=>stepR_round_exit (hk.2.trans hX) hk.1 hx Qfh,h5, ?_,.d (.v rfl)⟩,.refl _ _,hb⟩
  intro j ob r e1 e2
  exact (h5.rel j ob r e1 e2).perm (fun _ h=>⟨rfl,h⟩) (nr r (List.mem_of_getElem? e2))
end
def Qng (P:Program) (l:Nat) (Xr:List Row) (x y:AV) (Wj:List Row) (go:Bool):Prop:=
 ∀ (X:Ctx) (u v:Value),X.P=P->X.Fits->Xp X ⟨X.μ0,Xr,X.w0⟩->Js X.w0 ((⟨X.μ0,Xr,X.w0⟩:Wp).ok X) X.μ0 x u->Js X.w0 ((⟨X.μ0,Xr,X.w0⟩:Wp).ok X) X.μ0 y v ->
  ∃ fn tmps asg body,(Instr.yield l #[u,v]).run P X.w0=.ok (.round l fn tmps asg body) X.w0/\∀ (c:Frame) (cs:List Frame),∃ w' μ',Jt X ⟨μ',Wj,w'⟩ (.d (.v (.bool go))) (.bool go) /\
   Steps P (lone (Frame.round l fn tmps asg body .normal) (c :: cs) X.w0) (lone (c.finish (.bool go)) cs w')
theorem Qx6 {P:Program} {l:Nat} {fn:FuncId} {nt:Nat} {is:List Nat} {xs:List AV} {p q:Tmp} {asg body:Code} {rest:List Row} {x y:AV} {Wj:List Row} {go:Bool} (hp:p < nt) (hq:q < nt) (hpq:p≠q)
  (h:∀ X:Ctx,X.P=P->X.μ0.length=(.loop l .ready fn nt is xs #[p,q] asg body :: rest).length->X.rnd=some l->AK X fn (.code asg :: .beginRound :: .code body :: []) (Ql7 X Wj go) ⟨nt,(q,y) :: (p,x) :: is.zip xs,.loop l .ready fn nt is xs #[p,q] asg body :: rest⟩):
  Qng P l (.loop l .ready fn nt is xs #[p,q] asg body :: rest) x y Wj go:=by
 intro X u v hP hX Yo hx hy
 subst hP
 obtain ⟨ob,hμ⟩:=Yo.Qd8 (id:=0) rfl
 have h0:=Yo.rel 0 ob _ hμ rfl
 cases ob with
 | none=>exact h0.elim
 | some b=>
  obtain ⟨rfl,T,D,vs,h1,h2,h3,h4⟩:=h0
  refine ⟨fn,_,asg,body,run_yield h1 rfl,fun c cs=>?_⟩
  let a:Act:=⟨(T.setIfInBounds p u).setIfInBounds q v,[]⟩
  have Qfi:Sim (X.round b) ⟨nt,(q,y) :: (p,x) :: is.zip xs,.loop b .ready fn nt is xs #[p,q] asg body :: rest⟩ a ⟨X.μ0,.loop b .ready fn nt is xs #[p,q] asg body :: rest,X.w0⟩:=by
   refine ⟨Yo.round b,rfl,rfl,by simp [a,h2],fun i av e=>?_⟩
   simp only [List.lookup_cons] at e
   split at e
   ·rename_i hi
    have hi:i=q:=by simpa using hi
    subst hi
    injection e with e
    subst e
    exact ⟨v,by simp [a,h2,hq],hy⟩
   rename_i hi
   have hi:q≠i:=fun e=>by subst e;simp at hi
   split at e
   ·rename_i hj
    have hj:i=p:=by simpa using hj
    subst hj
    injection e with e
    subst e
    exact ⟨u,by simp [a,h2,hp,Array.getElem?_setIfInBounds,hi],hx⟩
   rename_i hj
   have hne:p≠i:=fun e=>by subst e;simp at hj
   obtain ⟨j,j1,j2⟩:=Qog e
   obtain ⟨t,u1,u2⟩:=h3.at_ j2
   exact ⟨t,by simp [a,Array.getElem?_setIfInBounds,hne,hi,h4 j i t j1 u1],u2⟩
  obtain ⟨C',fr,⟨w2,q2,q3⟩,s1,s2⟩:=h (X.round b) rfl Yo.len rfl a _ Qfi { (default:Frame) with fn:=fn,kind:=.normal,roundOf:=some b } (c :: cs) rfl ⟨rfl,rfl⟩
  refine ⟨w2,C'.μ,⟨q3.rel.Qy1,q3.rows,q3.ret⟩, ?_⟩
  have Qfh:=q2 c cs
  have hfr:∀ T2:Array Value,T2=(T.setIfInBounds p u).setIfInBounds q v->Frame.round b fn T2 asg body .normal=({ (default:Frame) with fn:=fn,kind:=.normal,roundOf:=some b }:Frame).atR a [.code asg,.beginRound,.code body]:=by
   rintro T2 rfl
   rfl
  rw [hfr _ (by simp)]
  exact s1.trans (.one Qfh)
def Qxq (st:St):List Item->Option (Nat × AV × AV × Option Tmp × List Item)
 | .inRegion ops (i :: rest) :: k=>
  match ops[i]? with
  | some o=>
   match o.op with
   | .call c=>
    match c.callee,c.args.toList with
    | .value g,[x,y]=>
     match guardOf st.tm ops o,valOf st.tm g,valOf st.tm x,valOf st.tm y with
     | some true,some (.d (.v (.func (.yield l) fa fc))),some av,some bv=>bif fa.isEmpty && fc.isEmpty then some (l,av,bv,o.dst,.inRegion ops rest :: k) else none
     | _,_,_,_=>none
    | _,_=>none
   | _=>none
  | none=>none
 | _=>none
section
variable {X:Ctx}
theorem Qt2 {P:Program} {f:FuncId} {k k':List Item} {Q:Frame->Frame->Wp->Prop} {st st':St} {l:Nat} {av bv x y:AV} {go:Bool} {dst:Option Tmp} (S ids:List Nat) {Xr Wj:List Row} (hP:X.P=P) (hs:Qng P l Xr x y Wj go)
  (e:Qxq st k=some (l,av,bv,dst,k')) (hh:Qbo st.rows ids Xr) (hp:Qg2 st.rows ids (Qaq ids st.rows.length) [av,bv] [x,y])
  (Qcd:(St.put { st with rows:=Qbx st.rows ids Wj } dst (.d (.v (.bool go)))).map (St.only S)=some st') (h:AK X f k' Q st'):AK X f k Q st:=by
 subst hP
 obtain ⟨s0,Qsq,rfl⟩:=Option.map_eq_some_iff.1 Qcd
 clear Qcd
 unfold Qxq at e
 split at e
 ·rename_i ops i rest k0
  split at e
  ·rename_i o ho
   split at e
   ·rename_i c hc
    split at e
    ·rename_i g x0 y0 hg Qeb
     split at e
     ·rename_i l0 fa fc av0 bv0 hgd hv hx hy
      cases hb:fa.isEmpty && fc.isEmpty with
      | false=>rw [hb] at e;cases e
      | true=>
       rw [hb] at e
       simp only [cond_true,Option.some.injEq,Prod.mk.injEq] at e
       obtain ⟨rfl,rfl,rfl,rfl,rfl⟩:=e
       simp only [Bool.and_eq_true,Array.isEmpty_iff] at hb
       obtain ⟨rfl,rfl⟩:=hb
       refine Qiw (Qed S h) fun a C hC b cs _=>?_
       have hg2:=(hC.val _ _ hv).Qc3
       have hx2:=hC.val _ _ hx
       have hy2:=hC.val _ _ hy
       have hargs':c.args=#[x0,y0]:=by rw [<- Array.toArray_toList (xs:=c.args),Qeb]
       rw [<- hC.rows] at hh hp Qsq
       have hpx:=Qh0 hC.rel hh hp (Qbf.cons hx2 (.cons hy2 .nil))
       obtain ⟨fn,tmps,asg,body,hyl,Qm7⟩:=hs (Jz X C ids) (a.eval x0) (a.eval y0) rfl (Qlm hC.rel hh) (Qm4 hC.rel hh) (by cases hpx with | cons h _=>exact h) (by cases hpx with | cons _ h=>cases h with | cons h _=>exact h)
       have hxe:(execOp a.eval o).run X.P C.w=.ok (.round l0 fn tmps asg body) C.w:=by
        simp only [execOp,hc,resolve,hg,hg2,Deferred.ofValue,Sem.run_bind,Sem.run_pure,Result.andThen_ok,invoke,hargs']
        simpa [Jz] using hyl
       have hgg:=stepGR_op (P:=X.P) (b:=b) (k:=k0) (cs:=cs) (w:=C.w) (rest:=rest) ho (Qeg hC hgd)
       rw [Oper.semAt_eq _ _ _ (by intro c' hc';rw [hc] at hc';cases hc')] at hgg
       obtain ⟨w',μ',hd,Qhy⟩:=Qm7 (b.atR a (.inRegion ops (i :: rest) :: k0)) cs
       have Qjc:step X.P (lone (b.atR a (.inRegion ops (i :: rest) :: k0)) cs C.w)=.next (lone (Frame.round l0 fn tmps asg body .normal) (b.atR a (.inRegion ops (i :: rest) :: k0) :: cs) C.w):=
        step_lone_go (by rw [hgg];simp [stepG.apply,hxe,Frame.atR])
       have Qd1:(b.atR a (.inRegion ops (i :: rest) :: k0)).finish (.bool go)=b.atR (a.put o.dst (.bool go)) (.inRegion ops rest :: k0):=by
        rw [Frame.finish_atR,ho];rfl
       rw [Qd1] at Qhy
       have Qfi:Sim X { st with rows:=(Qa5 C ids μ' Wj w').rows } a (Qa5 C ids μ' Wj w'):=hC.Qdl (Qld hC.rel hh hd.rel) (Qll hC.rel hh hd)
       exact ⟨_,Qa5 C ids μ' Wj w',Qfi.put Qsq (.d (.v rfl)),.head Qjc Qhy⟩
     cases e
    cases e
   cases e
  cases e
 cases e
def Qg8 (rows:List Row) (D:Nat) (f:FuncId) (nt:Nat) (is:List Nat) (xs:List AV) (p q:Tmp) (asg body:Code):List Row:=rows ++ [.dfr D,.loop (D+1) .ready f nt is xs #[p,q] asg body]
set_option maxHeartbeats 1000000 in
theorem Qoi {P:Program} {f g:FuncId} {fop:Operand} {p q:Tmp} {asg body:Code} {k:List Item} {Q:Frame->Frame->Wp->Prop} {st:St} {caps:List AV} {ret:AV} {jm:Option Nat} (Ds is:List Nat) (xs xs':List AV) (ids:List Nat) (Xr Wj:Nat->List Row) (args:Nat->List AV)
  (hP:X.P=P) (hX:X.ds=[]/\X.rnd=none) (hv:valOf st.tm fop=some (.fn g caps)) (he:Enters P g) (hxs:is.map (fun i=>st.tm.lookup i)=xs.map some)
  (hs:∀ l,Yy P g (Xr l) (args l) (Wj l) ret)
  (hh:∀ D,Qbo (Qg8 st.rows D f st.nt is xs p q asg body) ids (Xr (D+1)))
  (hp:∀ D,Qg2 (Qg8 st.rows D f st.nt is xs p q asg body) ids (Qaq ids (Qg8 st.rows D f st.nt is xs p q asg body).length) (.d (.v (.func (.yield (D+1)) #[] #[])) :: caps) (args (D+1)))
  (hl:∀ D,(Qbx (Qg8 st.rows D f st.nt is xs p q asg body) ids (Wj (D+1)))[st.rows.length+1]? = some (match jm with | none=>.loop (D+1) .ready f st.nt is xs' #[p,q] asg body | some j=>.obj (Qp3 (D+1) (.exit j))))
  (h:∀ D,AK (X.marks (D :: Ds)) f ((jm.map fun j=>Item.code (.exit j)).toList ++ k) Q ⟨st.nt,st.tm,(Qbx (Qg8 st.rows D f st.nt is xs p q asg body) ids (Wj (D+1))).set (st.rows.length+1) .gone⟩):
  AK (X.marks Ds) f (.code (.rangeFunc fop #[p,q] asg body) :: k) Q st:=by
 subst hP
 intro a C hC b cs hb hk
 have hCr:Xp X C:=hC.rel.Qfa
 have hCX:Sim { X with ds:=a.defers } st a C:=⟨⟨hCr.len,hCr.os,hCr.tape,hCr.output,hCr.size,hCr.keep,hCr.shape,hCr.first,hCr.place,hCr.apart,hCr.Qbh,hCr.Qa0,hCr.rel⟩,hC.rows,rfl,hC.nt,hC.tm⟩
 obtain ⟨vs,v1,v2⟩:=Qpq hCX hxs
 let Y:Ctx:={ X with ds:=a.defers }
 have hCY:Xp Y C:=hCX.rel
 let D:=C.w.heap.size
 let C1:=C.push (.deferred (some [])) (.dfr D)
 have h1:Xp Y C1:=Xp.push hCY ⟨rfl,heap_alloc_new _ _⟩
 have e1:Ev Y C C1:=Ev.push hCY _ _
 have hD1:C1.w.heap.size=D+1:=World.size_alloc _ _
 let lp:Loop:={ state:=.ready,pending:=none,fn:=f,tmps:=a.tmps,params:=#[p,q],assign:=asg,body:=body,defers:=D }
 let C2:=C1.push (.loop lp) (.loop (D+1) .ready f st.nt is xs #[p,q] asg body)
 have e2:Ev Y C1 C2:=Ev.push h1 _ _
 have ev:=e1.trans e2
 have h2:Xp Y C2:=Xp.push h1 ⟨hD1,a.tmps,D,vs,heap_alloc_new _ _,hC.nt,Qbf.mono ev.ok ev.same ev.pre ev.shape v1,v2⟩
 have Qwq:C2.rows=Qg8 st.rows D f st.nt is xs p q asg body:=by simp [C2,C1,Wp.push,hC.rows,Qg8]
 have s2:Sim Y { st with rows:=C2.rows } a C2:=hCX.Qdl ev h2
 -- the call
 obtain ⟨gcs,hgv,hgr⟩:∃ gcs:List Value,a.eval fop=.func (.func g) #[] gcs.toArray/\Qak C2.w (C2.ok Y) C2.μ caps gcs:=by
  have:=s2.val fop _ hv
  generalize a.eval fop=u at this
  cases this with
  | fn hh=>exact ⟨_,rfl,hh⟩
 have hrnd:b.roundOf=none:=hk.2.trans hX.2
 have Qjc:(Instr.enterLoop b.fn a.tmps #[p,q] asg body b.roundOf).run X.P C.w=.ok (D+1,[{ target:=.collected D,args:=#[] }]) C2.w:=by
  rw [hb,hrnd]
  exact run_enterLoop_outer f a.tmps #[p,q] asg body
 have Qwp:(resolve a.eval (rangeCall fop (D+1)) 0).run X.P C2.w=.ok { target:=.fn (.func g) gcs.toArray,args:=#[.func (.yield (D+1)) #[] #[]] } C2.w:=by
  have hcv:a.eval (.const (.func (.yield (D+1)) #[] #[]))=.func (.yield (D+1)) #[] #[]:=rfl
  simp [resolve,rangeCall,hgv,Deferred.ofValue,hcv]
 have hinv:(invoke (.fn (.func g) gcs.toArray) #[.func (.yield (D+1)) #[] #[]]).run X.P C2.w=.ok (.enter g (#[.func (.yield (D+1)) #[] #[]] ++ gcs.toArray)) C2.w:=by
  simp only [invoke]
  exact he _ _
 have Ye:=stepR_rangeFunc (P:=X.P) (b:=b) (a:=a) (k:=k) (cs:=cs) Qjc Qwp hinv
 have hhd:=hh D
 have hpd:=hp D
 have hld:=hl D
 have hkd:=h D
 rw [<- Qwq] at hhd hpd hld hkd
 have Qeb:Qbf C2.w (C2.ok Y) C2.μ (.d (.v (.func (.yield (D+1)) #[] #[])) :: caps) (.func (.yield (D+1)) #[] #[] :: gcs):=.cons (.d (.v rfl)) hgr.toL
 have Qnx:=hs (D+1) (Jz Y C2 ids) _ rfl (Qlm h2 hhd) (Qm4 h2 hhd) (Qh0 h2 hhd hpd Qeb)
 have hae:(Value.func (.yield (D+1)) #[] #[] :: gcs).toArray=#[.func (.yield (D+1)) #[] #[]] ++ gcs.toArray:=by simp
 rw [hae] at Qnx
 obtain ⟨e,w',fr,⟨v,μ',rfl,hd⟩,Qhy,_,Qo6⟩:=Qnx (b.atR { a with defers:=[{ target:=.collected D,args:=#[] }] ++ a.defers } (.inRangeFunc (D+1) :: k) :: cs)
 have Qgg:=step_leave_returned (c:=b.atR { a with defers:=[{ target:=.collected D,args:=#[] }] ++ a.defers } (.inRangeFunc (D+1) :: k)) (cs:=cs) Qo6
 rw [finish_atR_inRangeFunc] at Qgg
 have hb2:=Qll h2 hhd hd
 have eb:=Qld h2 hhd hd.rel
 have sb:=s2.Qdl eb hb2
 -- the loop is over
 obtain ⟨ob,hμ⟩:=hb2.Qd8 hld
 have hlr:=hb2.rel _ ob _ hμ hld
 obtain ⟨lp2,r1,r2,r3,r4⟩:∃ lp2:Loop,ob=some (D+1)/\w'.heap[D+1]? = some (.loop lp2)/\lp2.state≠.busy/\lp2.pending=jm.map fun j=>.exit j:=by
  cases jm with
  | none=>
   cases ob with
   | none=>exact hlr.elim
   | some q=>
    obtain ⟨rfl,T,D',vs',r1,r2,r3,r4⟩:=hlr
    exact ⟨_,rfl,r1,by simp,rfl⟩
  | some j=>
   obtain ⟨rfl,lp2,r1,r2,r3⟩:=hlr
   exact ⟨lp2,rfl,r1,by rw [r2];simp,r3⟩
 subst r1
 have Qfh:=stepR_endRangeFunc (P:=X.P) (b:=b) (a:={ a with defers:=[{ target:=.collected D,args:=#[] }] ++ a.defers }) (k:=k) (cs:=cs) (run_endLoop r2 r3)
 have Qho:(match jm with | none=>Row.loop (D+1) .ready f st.nt is xs' #[p,q] asg body | some j=>.obj (Qp3 (D+1) (.exit j))).live=true:=by cases jm<;>rfl
 have tu:=Qjf (r':=.gone) hb2 (.loop { lp2 with state:=.exhausted }) hμ hld Qho r2 (by intro w m;cases jm<;>rfl)
 have h3:=Xp.Zw hb2 tu (.inr rfl) trivial
 have ev3:=Ev.Zw hb2 tu
 have s3:=sb.Qdl ev3 h3
 have h3':Xp X (Wp.Zw (Qa5 C2 ids μ' (Wj (D+1)) w') (st.rows.length+1) .gone (w'.putObj (D+1) (.loop { lp2 with state:=.exhausted }))):=⟨h3.len,h3.os,h3.tape,h3.output,h3.size,h3.keep,h3.shape,h3.first,h3.place,h3.apart,h3.Qbh,h3.Qa0,h3.rel⟩
 have Qd1:Sim (X.marks (D :: Ds)) ⟨st.nt,st.tm,(Qbx C2.rows ids (Wj (D+1))).set (st.rows.length+1) .gone⟩ { a with defers:=[{ target:=.collected D,args:=#[] }] ++ a.defers } _:=⟨h3'.marks (D :: Ds),s3.rows,by simp [Ctx.marks,hC.defers],s3.nt,s3.tm⟩
 obtain ⟨C',fr',q1,q2,q3⟩:=hkd _ _ Qd1 b cs hb ⟨hk.1,hk.2⟩
 have e5:(lp2.pending.map Item.code).toList=(jm.map fun j=>Item.code (.exit j)).toList:=by rw [r4];cases jm<;>rfl
 rw [e5] at Qfh
 exact ⟨C',fr',q1,.head Ye (Qhy.trans (.head Qgg (.head Qfh q2))),q3⟩
theorem Qu4 {P:Program} {f g:FuncId} {fop:Operand} {p q:Tmp} {asg body:Code} {k0 k:List Item} {Q:Frame->Frame->Wp->Prop} {st:St} {caps:List AV} {ret:AV} (go:Bool) {jd:Nat} (Ds is:List Nat) (xs xs':List AV) (ids:List Nat) (Xr Wj:Nat->List Row) (args:Nat->List AV)
  (hP:X.P=P) (hX:X.ds=[]/\X.rnd=none) (hv:valOf st.tm fop=some (.fn g caps)) (he:Enters P g) (hxs:is.map (fun i=>st.tm.lookup i)=xs.map some)
  (hs:∀ l,Yy P g (Xr l) (args l) (Wj l) ret) (hk0:k0=.code (.rangeFunc fop #[p,q] asg body) :: .inBlock jd :: k)
  (hh:∀ D,Qbo (Qg8 st.rows D f st.nt is xs p q asg body) ids (Xr (D+1)))
  (hp:∀ D,Qg2 (Qg8 st.rows D f st.nt is xs p q asg body) ids (Qaq ids (Qg8 st.rows D f st.nt is xs p q asg body).length) (.d (.v (.func (.yield (D+1)) #[] #[])) :: caps) (args (D+1)))
  (hl1:go=true->∀ D,(Qbx (Qg8 st.rows D f st.nt is xs p q asg body) ids (Wj (D+1)))[st.rows.length+1]? = some (.loop (D+1) .ready f st.nt is xs' #[p,q] asg body))
  (hl0:go=false->∀ D,(Qbx (Qg8 st.rows D f st.nt is xs p q asg body) ids (Wj (D+1)))[st.rows.length+1]? = some (.obj (Qp3 (D+1) (.exit jd))))
  (h:∀ D,AK (X.marks (D :: Ds)) f k Q ⟨st.nt,st.tm,(Qbx (Qg8 st.rows D f st.nt is xs p q asg body) ids (Wj (D+1))).set (st.rows.length+1) .gone⟩):
  AK (X.marks Ds) f k0 Q st:=by
 subst hk0
 cases go with
 | true=>
  refine Qoi (jm:=none) Ds is xs xs' ids Xr Wj args hP hX hv he hxs hs hh hp (fun D=>hl1 rfl D) fun D=>?_
  intro a C hC b cs hb hk
  obtain ⟨C',fr,q1,q2,q3⟩:=h D a C hC b cs hb hk
  exact ⟨C',fr,q1,.head stepR_inBlock q2,q3⟩
 | false=>
  refine Qoi (jm:=some jd) Ds is xs xs' ids Xr Wj args hP hX hv he hxs hs hh hp (fun D=>hl0 rfl D) fun D=>?_
  intro a C hC b cs hb hk
  obtain ⟨C',fr,q1,q2,q3⟩:=h D a C hC b cs hb hk
  exact ⟨C',fr,q1,.head (stepR_exit (by simp [exitTo])) q2,q3⟩
theorem Qsh {P:Program} (id:Nat) (hP:X.P=P):∀ (O:List Nat) (A:List Nat) (C:Wp) (fr:Frame) (cs:List Frame),Xp X C->C.rows[id]? = some (.obj (Qb1 A O))->fr.mode=.returning->fr.defers=O.map (fun D=>{ target:=.collected D,args:=#[] }) ->
  ∃ C':Wp,Xp X C'/\Ev X C C'/\C'.rows=C.rows.set id (.obj (Qb1 A []))/\Steps P (lone fr cs C.w) (lone { fr with defers:=[] } cs C'.w)
 | [],A,C,fr,cs,h,hr,hm,hd=>by
  refine ⟨C,h,Ev.refl _ _, ?_, ?_⟩
  ·apply List.ext_getElem?
   intro i
   by_cases hi:id=i
   ·subst hi
    rw [List.getElem?_set_self (List.getElem?_eq_some_iff.1 hr).1,hr]
   rw [List.getElem?_set_ne hi]
  have:({ fr with defers:=[] }:Frame)=fr:=by cases fr;simp at hd;simp [hd]
  rw [this]
  exact .refl _ _
 | D :: O,A,C,fr,cs,h,hr,hm,hd=>by
  subst hP
  obtain ⟨m,hμ⟩:=h.Qd8 hr
  obtain ⟨rfl,hnd,Qgk,Qdj⟩:=h.rel id m _ hμ hr
  have hDd:=Qdj D (List.mem_cons_self ..)
  have tu:Qmy X C id D (Qb1 A (D :: O)) (Qb1 A O) (C.w.putObj D (.deferred none)):=
   ⟨fun ob _=>.inr (Qgk D (List.mem_cons_self ..)),fun _=>rfl,rfl,rfl,⟨rfl,Nat.le_refl _⟩,by simp [World.putObj],fun k hk=>World.putObj_heap_other hk,fun cs ty hc=>by rw [hDd] at hc;cases hc⟩
  have ev:=Qrk h hr tu
  have Yo:=Quz h hr tu fun ob hob=>by
   rw [hμ] at hob
   cases hob
   exact ⟨rfl,(List.nodup_cons.1 hnd).2,fun x hx=>Qgk x (List.mem_cons_of_mem _ hx),fun x hx=>by
    have hne:x≠D:=by rintro rfl;exact (List.nodup_cons.1 hnd).1 hx
    exact (World.putObj_heap_other hne).trans (Qdj x (List.mem_cons_of_mem _ hx))⟩
  have s2:=step_collected (P:=X.P) (cs:=cs) (w:=C.w) (fr:=fr) (by rw [hm];simp) hd rfl (run_takeDeferred hDd)
  obtain ⟨C',q1,q2,q3,q4⟩:=Qsh id rfl O A (C.Zw id (.obj (Qb1 A O)) (C.w.putObj D (.deferred none))) { fr with defers:=[] ++ O.map (fun D=>{ target:=.collected D,args:=#[] }) } cs Yo (by simp [Wp.Zw,(List.getElem?_eq_some_iff.1 hr).1]) hm (by simp)
  refine ⟨C',q1,ev.trans q2,by rw [q3];simp [Wp.Zw],.head s2 q4⟩
theorem Wey {f:FuncId} {fn:Func} {Wj:List Row} {ret av:AV} {st:St} {k:List Item} {Ds A:List Nat} (id:Nat) (hf:X.P.funcs[f]? = some fn) (hX:X.ds=[]/\X.rnd=none) (hr:st.rows[id]? = some (.obj (Qb1 A Ds)))
  (e:Qk4 st.tm fn.results.toList=some av) (Yx:List Nat) (hid:id ∉ Yx) (hs:Sel st.rows (Qcg Yx st.rows.length) Yx Wj) (hn:Yx.Nodup) (h0:Yx.take X.μ0.length=List.range X.μ0.length) (Qhx:av=Qdk (Qcg Yx st.rows.length) ret)
  (nr:∀ r∈Wj,NR r) (na:NA ret):AK (X.marks Ds) f (.code .ret :: k) (Yt X Wj ret) st:=by
 intro a C hC b cs hb hk
 have hrC:C.rows[id]? = some (.obj (Qb1 A Ds)):=by rw [hC.rows];exact hr
 have s1:=stepR_ret (P:=X.P) (b:=b) (a:=a) (k:=k) (cs:=cs) (w:=C.w) (hk.2.trans hX.2)
 obtain ⟨C1,Qfv,ev,Qgu,s2⟩:=Qsh (P:=X.P) (X:=X) id rfl Ds A C { b.atR a (.code .ret :: k) with mode:=.returning } cs hC.rel.Qfa hrC rfl hC.defers
 have hCX:Sim { X with ds:=a.defers } st a C:=⟨⟨hC.rel.Qfa.len,hC.rel.Qfa.os,hC.rel.Qfa.tape,hC.rel.Qfa.output,hC.rel.Qfa.size,hC.rel.Qfa.keep,hC.rel.Qfa.shape,hC.rel.Qfa.first,hC.rel.Qfa.place,hC.rel.Qfa.apart,hC.rel.Qfa.Qbh,hC.rel.Qfa.Qa0,hC.rel.Qfa.rel⟩,hC.rows,rfl,hC.nt,hC.tm⟩
 let Y:Ctx:={ X with ds:=a.defers }
 have hrelY:Xp Y C1:=⟨Qfv.len,Qfv.os,Qfv.tape,Qfv.output,Qfv.size,Qfv.keep,Qfv.shape,Qfv.first,Qfv.place,Qfv.apart,Qfv.Qbh,Qfv.Qa0,Qfv.rel⟩
 have evY:Ev Y C C1:=⟨ev.size,ev.keep,ev.dead,ev.shape,ev.pre⟩
 have hm:=hCX.Qdl evY hrelY
 obtain ⟨v,r1,r2⟩:=Qpk hm (fn:=fn) (av:=av) e
 have hl:C1.rows.length=st.rows.length:=by rw [Qgu];simp [hC.rows]
 have Wfs:Sel C1.rows (Qcg Yx C1.rows.length) Yx Wj:=by
  rw [hl]
  have gen:∀ {Qoa:List Nat} {rs:List Row},Sel st.rows (Qcg Yx st.rows.length) Qoa rs->id ∉ Qoa->Sel C1.rows (Qcg Yx st.rows.length) Qoa rs:=by
   intro Qoa rs hs
   induction hs with
   | nil=>exact fun _=>.nil
   | cons h1 _ ih=>
    intro hni
    simp only [List.mem_cons,not_or] at hni
    exact .cons (by rw [Qgu,List.getElem?_set_ne hni.1,hC.rows];exact h1) (ih hni.2)
  exact gen hs hid
 have p:Qi8 X C1 Yx Wj:=by
  refine ⟨Wfs,hn,fun j hj=>?_⟩
  have:(Yx.take X.μ0.length)[j]? = some j:=by rw [h0];simp [hj]
  rw [List.getElem?_take_of_lt hj] at this
  exact this
 have Yo:=Qm8 Qfv p
 have Qlt:∀ b,(Qc8 C1 Yx Wj).ok X true b->(Qc8 C1 Yx Wj).okR X true b:=fun _ h=>⟨rfl,h⟩
 refine ⟨Qc8 C1 Yx Wj,_,⟨v,rfl,⟨Yo, ?_, ?_⟩, ?_⟩,.head s1 s2,hb⟩
 ·intro j ob r e1 e2
  exact (Yo.rel j ob r e1 e2).perm Qlt (nr r (List.mem_of_getElem? e2))
 ·rw [Qhx,<- hl] at r2
  exact (Qpm Qfv p r2).perm Qlt na
 exact ⟨rfl,rfl,hk.1,fn,by show X.P.funcs[b.fn]? = _;rw [hb];exact hf,r1⟩
theorem Wjc {f:FuncId} {fn:Func} {Wj:List Row} {ret:AV} {st:St} {k:List Item} {n0:Nat} {Ds A:List Nat} (id:Nat) (hf:X.P.funcs[f]? = some fn) (hX:X.ds=[]/\X.rnd=none) (h0:X.μ0.length=n0) (av:AV) (Yx:List Nat) (nr:∀ r∈Wj,NR r) (na:NA ret)
  (hr:st.rows[id]? = some (.obj (Qb1 A Ds)):=by rfl) (hid:id ∉ Yx:=by decide)
  (e:Qk4 st.tm fn.results.toList=some av:=by kernel_rfl) (hs:Yx.map (fun i=>st.rows[i]?)=Wj.map (fun r=>some (Qc7 (Qcg Yx st.rows.length) r)):=by kernel_rfl) (hn:Yx.Nodup:=by decide) (h1:Yx.take n0=List.range n0:=by rfl) (Qhx:av=Qdk (Qcg Yx st.rows.length) ret:=by kernel_rfl):
  AK (X.marks Ds) f (.code .ret :: k) (Yt X Wj ret) st:=Wey id hf hX hr e Yx hid (Jh hs) hn (by rw [h0];exact h1) Qhx nr na
theorem Qxz {f:FuncId} {k:List Item} {Q:Frame->Frame->Wp->Prop} {st:St} {Ds:List Nat} (hX:X.ds=[]/\X.rnd=none) (hD:Ds=[]) (h:AK (X.marks Ds) f k Q st):AK X f k Q st:=by
 subst hD
 rw [Wdr hX] at h
 exact h
end
theorem Qso {rows:List Row} {i j k l m:Nat} {a b c d e:Row} (h1:rows[i]? = some (Qc7 (Qaq [i,j,k,l,m] rows.length) a)) (h2:rows[j]? = some (Qc7 (Qaq [i,j,k,l,m] rows.length) b)) (h3:rows[k]? = some (Qc7 (Qaq [i,j,k,l,m] rows.length) c)) (h4:rows[l]? = some (Qc7 (Qaq [i,j,k,l,m] rows.length) d)) (h5:rows[m]? = some (Qc7 (Qaq [i,j,k,l,m] rows.length) e))
  (hn:[i,j,k,l,m].Nodup) (l1:a.live=true:=by rfl) (l2:b.live=true:=by rfl) (l3:c.live=true:=by rfl) (l4:d.live=true:=by rfl) (l5:e.live=true:=by rfl):Qbo rows [i,j,k,l,m] [a,b,c,d,e]:=by
 refine ⟨hn,rfl,fun q id r hq hr=>?_⟩
 match q with
 | 0=>simp at hq hr;subst hq;subst hr;exact ⟨h1,l1⟩
 | 1=>simp at hq hr;subst hq;subst hr;exact ⟨h2,l2⟩
 | 2=>simp at hq hr;subst hq;subst hr;exact ⟨h3,l3⟩
 | 3=>simp at hq hr;subst hq;subst hr;exact ⟨h4,l4⟩
 | 4=>simp at hq hr;subst hq;subst hr;exact ⟨h5,l5⟩
 | q+5=>simp at hq
end Go.Sy
