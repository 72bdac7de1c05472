/- Slices of objects that are known by their addresses: their blocks as one row; a block is taken out of it, or put into it. -/
import Derived.Test.YtdndobkfnmommaaSyEx
set_option linter.unusedVariables false
set_option linter.unusedSimpArgs false
set_option linter.unusedSectionVars false
namespace Go.Sy

theorem repart {X:Ctx} {C:Conf} (h:HRel X C) {μ':List (Option Nat)} {rows':List Row} (ch:Nat→Prop) (hlen:μ'.length=rows'.length)
  (hμ:∀ (i:Nat) x,C.μ[i]? = some x→μ'[i]? = some x)
  (hkeep:∀ (i:Nat) (m:Option Nat) (r:Row),μ'[i]? = some m→rows'[i]? = some r→r≠.gone→¬ ch i→C.μ[i]? = some m∧C.rows[i]? = some r)
  (hplace:∀ (i b:Nat),μ'[i]? = some (some b)→C.μ[i]? = some (some b)∨∃ (j:Nat) (m0:Option Nat) (r0:Row),C.μ[j]? = some m0∧C.rows[j]? = some r0∧r0.hasB C.w m0 b)
  (hfrom:∀ (i:Nat) (m:Option Nat) (r:Row) (b:Nat),ch i→μ'[i]? = some m→rows'[i]? = some r→r≠.gone→r.hasB C.w m b→∃ (j:Nat) (m0:Option Nat) (r0:Row),ch j∧C.μ[j]? = some m0∧C.rows[j]? = some r0∧r0.live=true∧r0.hasB C.w m0 b)
  (hapart:∀ (i j:Nat) (m n:Option Nat) (r s:Row) (b:Nat),ch i→ch j→μ'[i]? = some m→μ'[j]? = some n→rows'[i]? = some r→rows'[j]? = some s→r≠.gone→s≠.gone→r.hasB C.w m b→s.hasB C.w n b→i=j)
  (hself:∀ (i:Nat) (m:Option Nat) (r:Row) (b:Nat),ch i→μ'[i]? = some m→rows'[i]? = some r→b∈r.ext C.w m→m≠some b)
  (hrel:∀ ok:Bool→Nat→Prop,(∀ t b,C.ok X t b→ok t b)→∀ (i:Nat) (m:Option Nat) (r:Row),ch i→μ'[i]? = some m→rows'[i]? = some r→r≠.gone→RowRel C.w ok μ' m r):
  Ev X C ⟨μ',rows',C.w⟩∧HRel X ⟨μ',rows',C.w⟩:=by
 have hlive:∀ {b:Nat},(⟨μ',rows',C.w⟩:Conf).live b→C.live b:=by
  rintro b ⟨i,m,r,h1,h2,h3,h4⟩
  have hg:r≠.gone:=by rintro rfl;cases h3
  by_cases hc:ch i
  ·obtain ⟨j,m0,r0,_,k1,k2,k3,k4⟩:=hfrom i m r b hc h1 h2 hg h4
   exact ⟨j,m0,r0,k1,k2,k3,k4⟩
  ·obtain ⟨k1,k2⟩:=hkeep i m r h1 h2 hg hc
   exact ⟨i,m,r,k1,k2,h3,h4⟩
 have ev:Ev X C ⟨μ',rows',C.w⟩:=⟨Nat.le_refl _,fun _ _ _=>rfl,fun _ _ hl k=>hl (hlive k),fun _ _ _ k=>⟨_,k,rfl⟩,hμ⟩
 have key:∀ {i j b:Nat} {m n:Option Nat} {r s:Row},μ'[i]? = some m→μ'[j]? = some n→rows'[i]? = some r→rows'[j]? = some s→r.live=true→s≠.gone→r.hasB C.w m b→s.hasB C.w n b→i=j:=by
  intro i j b m n r s h1 h2 h3 h4 h5 h6 h7 h8
  have hg:r≠.gone:=by rintro rfl;cases h5
  by_cases hc:ch i<;>by_cases hd:ch j
  ·exact hapart i j m n r s b hc hd h1 h2 h3 h4 hg h6 h7 h8
  ·obtain ⟨p,m0,r0,q0,q1,q2,q3,q4⟩:=hfrom i m r b hc h1 h3 hg h7
   obtain ⟨k1,k2⟩:=hkeep j n s h2 h4 h6 hd
   exact absurd (h.apartB q1 k1 q2 k2 q3 h6 q4 h8▸q0) hd
  ·obtain ⟨p,m0,r0,q0,q1,q2,q3,q4⟩:=hfrom j n s b hd h2 h4 h6 h8
   obtain ⟨k1,k2⟩:=hkeep i m r h1 h3 hg hc
   exact absurd ((h.apartB k1 q1 k2 q2 h5 (by rintro rfl;cases q3) h7 q4).symm▸q0) hc
  ·obtain ⟨k1,k2⟩:=hkeep i m r h1 h3 hg hc
   obtain ⟨l1,l2⟩:=hkeep j n s h2 h4 h6 hd
   exact h.apartB k1 l1 k2 l2 h5 h6 h7 h8
 refine ⟨ev,⟨hlen,h.os,h.tape,h.output,h.size,h.keep,h.shape,fun i x hx=>hμ i x (h.first i x hx), ?_, ?_, ?_, ?_, ?_⟩⟩
 ·intro i b hb
  rcases hplace i b hb with k | ⟨j,m0,r0,k1,k2,k3⟩
  ·exact h.place i b k
  ·exact h.placeB k1 k2 k3
 ·intro i j b r s h1 h2 h3 h4 h5 h6
  exact key h1 h2 h3 h4 h5 h6 (.inl rfl) (.inl rfl)
 ·intro i m b r h1 h2 h3
  have hl:=Row.ext_live h3
  have hg:r≠.gone:=by rintro rfl;cases hl
  by_cases hc:ch i
  ·obtain ⟨j,m0,r0,_,k1,k2,k3,k4⟩:=hfrom i m r b hc h1 h2 hg (.inr h3)
   exact h.placeB k1 k2 k4
  ·obtain ⟨k1,k2⟩:=hkeep i m r h1 h2 hg hc
   exact h.placeX i m b r k1 k2 h3
 ·intro i j m n b r s h1 h2 h3 h4 h5 h6
  have hl:=Row.ext_live h5
  have hg:r≠.gone:=by rintro rfl;cases hl
  refine ⟨fun hn=>?_,fun h7=>key h1 h2 h3 h4 hl h6 (.inr h5) (.inr h7)⟩
  have e:=key h1 h2 h3 h4 hl h6 (.inr h5) (.inl hn)
  subst e
  have h1':μ'[i]? = some m:=h1
  have h2':μ'[i]? = some n:=h2
  rw [h1'] at h2'
  injection h2' with h2'
  subst h2'
  by_cases hc:ch i
  ·exact hself i m r b hc h1 h3 h5 hn
  ·obtain ⟨k1,k2⟩:=hkeep i m r h1 h3 hg hc
   exact (h.apartX i i m m b r r k1 k1 k2 k2 h5 hg).1 hn
 ·intro i ob r h1 h2
  by_cases hg:r=.gone
  ·subst hg;cases ob<;>trivial
  ·by_cases hc:ch i
   ·exact hrel _ ev.ok i ob r hc h1 h2 hg
   ·obtain ⟨k1,k2⟩:=hkeep i ob r h1 h2 hg hc
    exact (h.rel i ob r k1 k2).mono ev.ok ev.same ev.pre ev.shape (fun _ _=>rfl) (fun _ _=>rfl)

def slv (so:Option (Nat × Nat)) (n:Nat):Value:=
 match so with
 | none=>.slice none 0 0
 | some (b,c)=>.slice (some ⟨b,0,none⟩) n c
theorem slv_one (so:Option (Nat × Nat)) (n:Nat):(slv so n).oneCell'=true:=by
 cases so<;>rfl

def arS {α:Type} (e:α→List DV) (z:α) (he:∀ x,NLs (e x)) (k:Nat) (ty:TypeId) (S:List (Nat × Nat × List α)):ObjR where
 ext:=fun _ _=>S.map Prod.fst
 rel:=fun w ok _=>(S.map Prod.fst).Nodup∧∀ s∈S,RowRel w ok [] (some s.1) (.flat false k ty s.2.2.length (vec e z s.2.2))∧(∃ cs,w.heap[s.1]? = some (.cells cs ty (0,0))∧(0+s.2.1) * k=cs.size)∧s.2.2.length≤s.2.1∧s.2.1≤maxLen
 ext_frame:=fun _ _=>rfl
 rel_frame:=fun h hok hw _ hx=>⟨h.1,fun s hs=>by
  obtain ⟨h1,⟨ds,h2,h3⟩,h4,h5⟩:=h.2 s hs
  have hb:=hx s.1 (List.mem_map.2 ⟨s,hs,rfl⟩)
  obtain ⟨cs,vs,f1,f2,f3,f4,f5⟩:=h1
  exact ⟨⟨cs,vs,hb.trans f1,f2,f3,fun i hi=>(f4 i hi).mono hok hw,f5⟩,⟨ds,hb.trans h2,h3⟩,h4,h5⟩⟩
 perm:=fun hok h=>⟨h.1,fun s hs=>by
  obtain ⟨h1,h2,h3⟩:=h.2 s hs
  exact ⟨h1.perm hok (nr_vec he),h2,h3⟩⟩

section
variable {X:Ctx} {T:Tab} {f:FuncId} {k k':List Item} {Q:Frame→Frame→Conf→Prop} {st st':St}
variable {α:Type} {e:α→List DV} {z:α} {he:∀ x,NLs (e x)} {kk:Nat} {ty:TypeId}

theorem arS_at {C:Conf} (h:HRel X C) {id:Nat} {S:List (Nat × Nat × List α)} (hr:C.rows[id]? = some (.obj (arS e z he kk ty S))):
  (S.map Prod.fst).Nodup∧∀ s∈S,RowRel C.w (C.ok X) [] (some s.1) (.flat false kk ty s.2.2.length (vec e z s.2.2))∧(∃ cs,C.w.heap[s.1]? = some (.cells cs ty (0,0))∧(0+s.2.1) * kk=cs.size)∧s.2.2.length≤s.2.1∧s.2.1≤maxLen:=by
 obtain ⟨ob,hμ⟩:=h.muOf hr
 have:=h.rel id ob _ hμ hr
 cases ob<;>exact this

theorem flat_mu {w:World} {ok ok':Bool→Nat→Prop} {μ μ':List (Option Nat)} {ob:Option Nat} {fz:Bool} {n:Nat} {g:Nat→List DV} (h:RowRel w ok μ ob (.flat fz kk ty n g)) (hok:∀ t b,ok t b→ok' t b):RowRel w ok' μ' ob (.flat fz kk ty n g):=by
 cases ob with
 | none=>exact h
 | some b=>
  obtain ⟨cs,vs,f1,f2,f3,f4,f5⟩:=h
  exact ⟨cs,vs,f1,f2,f3,fun i hi=>(f4 i hi).mono hok (fun _ _ _=>rfl),f5⟩

theorem ak_carve (t is:Nat) {b c:Nat} {l:List α} {S1 S2:List (Nat × Nat × List α)} (hS:st.rows[is]? = some (.obj (arS e z he kk ty (S1 ++ (b,c,l) :: S2)))) (ht:st.tm.lookup t=some (.d (.v (slv (some (b,c)) l.length))))
  (hs:st'=⟨st.nt,(t,.own st.rows.length kk 0 l.length) :: st.tm,st.rows.set is (.obj (arS e z he kk ty (S1 ++ S2))) ++ [.flat false kk ty l.length (vec e z l)]⟩) (h:AK X f k Q st'):AK X f k Q st:=by
 subst hs
 intro a C hC bb cs hb hk
 have hrel:=hC.rel
 have hSC:C.rows[is]? = some (.obj (arS e z he kk ty (S1 ++ (b,c,l) :: S2))):=by rw [hC.rows];exact hS
 obtain ⟨m,hμ⟩:=hrel.muOf hSC
 obtain ⟨hnd,hall⟩:=arS_at hrel hSC
 have hlt:=(List.getElem?_eq_some_iff.1 hSC).1
 have hlen:=hrel.len
 have hbm:b∈(S1 ++ (b,c,l) :: S2).map Prod.fst:=by simp
 have hsub:∀ {x:Nat},x∈(S1 ++ S2).map Prod.fst→x∈(S1 ++ (b,c,l) :: S2).map Prod.fst:=by
  intro x hx
  simp only [List.map_append,List.map_cons,List.mem_append,List.mem_cons] at hx ⊢
  rcases hx with hx | hx
  ·exact .inl hx
  ·exact .inr (.inr hx)
 have hbn:b ∉ (S1 ++ S2).map Prod.fst:=by
  simp only [List.map_append,List.map_cons] at hnd ⊢
  have:=(List.nodup_append.1 hnd)
  intro hx
  rcases List.mem_append.1 hx with hx | hx
  ·exact this.2.2 b hx b (List.mem_cons_self ..) rfl
  ·exact (List.nodup_cons.1 this.2.1).1 hx
 obtain ⟨s1,⟨ds,s2,s3⟩,s4,s5⟩:=hall (b,c,l) (by simp)
 let μ':=C.μ ++ [some b]
 let rows':=C.rows.set is (.obj (arS e z he kk ty (S1 ++ S2))) ++ [.flat false kk ty l.length (vec e z l)]
 have hrow:∀ {i:Nat} {m:Option Nat} {r:Row},μ'[i]? = some m→rows'[i]? = some r→(i=is∧C.μ[is]? = some m∧r=.obj (arS e z he kk ty (S1 ++ S2)))∨(i≠is∧i≠C.rows.length∧C.μ[i]? = some m∧C.rows[i]? = some r)∨(i=C.rows.length∧m=some b∧r=.flat false kk ty l.length (vec e z l)):=by
  intro i m r h1 h2
  rcases get_append_iff.1 h2 with h2 | ⟨e1,e2⟩
  ·have hi:i < C.μ.length:=by
    have:=(List.getElem?_eq_some_iff.1 h2).1
    rw [List.length_set] at this
    omega
   have h1:C.μ[i]? = some m:=by
    rw [← h1]
    exact (List.getElem?_append_left hi).symm
   rcases (get_set_iff hlt).1 h2 with ⟨rfl,rfl⟩ | ⟨n1,h2⟩
   ·exact .inl ⟨rfl,h1,rfl⟩
   ·exact .inr (.inl ⟨Ne.symm n1,by omega,h1,h2⟩)
  ·rw [List.length_set] at e1
   refine .inr (.inr ⟨e1, ?_,e2.symm⟩)
   rcases get_append_iff.1 h1 with h1 | ⟨_,e3⟩
   ·have:=(List.getElem?_eq_some_iff.1 h1).1
    omega
   ·exact e3.symm
 obtain ⟨ev,hR⟩:=repart hrel (μ':=μ') (rows':=rows') (fun i=>i=is∨i=C.rows.length) (by simp [μ',rows',hlen]) (fun i x hx=>get_append_old hx)
  (by
   intro i m r h1 h2 hg hc
   rcases hrow h1 h2 with ⟨e1,_⟩ | ⟨_,_,k1,k2⟩ | ⟨e1,_⟩
   ·exact absurd (.inl e1) hc
   ·exact ⟨k1,k2⟩
   ·exact absurd (.inr e1) hc)
  (by
   intro i x hx
   rcases get_append_iff.1 hx with hx | ⟨_,e1⟩
   ·exact .inl hx
   ·injection e1 with e1
    subst e1
    exact .inr ⟨is,m,_,hμ,hSC,.inr hbm⟩)
  (by
   intro i m' r x hc h1 h2 hg hx
   refine ⟨is,m,_,.inl rfl,hμ,hSC,rfl, ?_⟩
   rcases hrow h1 h2 with ⟨e1,e2,rfl⟩ | ⟨n1,n2,_⟩ | ⟨_,rfl,rfl⟩
   ·rw [hμ] at e2
    injection e2 with e2
    subst e2
    exact hx.imp (fun q=>q) fun q=>hsub q
   ·rcases hc with hc | hc
    ·exact absurd hc n1
    ·exact absurd hc n2
   ·rcases hx with hx | hx
    ·injection hx with hx
     subst hx
     exact .inr hbm
    ·cases hx)
  (by
   intro i j m1 m2 r s x hc hd h1 h2 h3 h4 hg1 hg2 hx hy
   rcases hrow h1 h3 with ⟨e1,e2,rfl⟩ | ⟨n1,n2,_⟩ | ⟨e1,rfl,rfl⟩
   ·rcases hrow h2 h4 with ⟨f1,f2,rfl⟩ | ⟨n1,n2,_⟩ | ⟨f1,rfl,rfl⟩
    ·rw [e1,f1]
    ·rcases hd with hd | hd
     ·exact absurd hd n1
     ·exact absurd hd n2
    ·exfalso
     rcases hy with hy | hy
     ·injection hy with hy
      subst hy
      rcases hx with hx | hx
      ·rw [e2] at hμ
       injection hμ with hμ
       subst hμ
       exact (hrel.apartX is is _ _ b _ _ e2 e2 hSC hSC hbm (by simp)).1 hx
      ·exact hbn hx
     ·cases hy
   ·rcases hc with hc | hc
    ·exact absurd hc n1
    ·exact absurd hc n2
   ·rcases hrow h2 h4 with ⟨f1,f2,rfl⟩ | ⟨n1,n2,_⟩ | ⟨f1,rfl,rfl⟩
    ·exfalso
     rcases hx with hx | hx
     ·injection hx with hx
      subst hx
      rcases hy with hy | hy
      ·rw [f2] at hμ
       injection hμ with hμ
       subst hμ
       exact (hrel.apartX is is _ _ b _ _ f2 f2 hSC hSC hbm (by simp)).1 hy
      ·exact hbn hy
     ·cases hx
    ·rcases hd with hd | hd
     ·exact absurd hd n1
     ·exact absurd hd n2
    ·rw [e1,f1])
  (by
   intro i m' r x hc h1 h2 hx
   rcases hrow h1 h2 with ⟨e1,e2,rfl⟩ | ⟨n1,n2,_⟩ | ⟨_,rfl,rfl⟩
   ·exact (hrel.apartX is is _ _ x _ _ e2 e2 hSC hSC (hsub hx) (by simp)).1
   ·rcases hc with hc | hc
    ·exact absurd hc n1
    ·exact absurd hc n2
   ·cases hx)
  (by
   intro ok hok i m' r hc h1 h2 hg
   rcases hrow h1 h2 with ⟨e1,e2,rfl⟩ | ⟨n1,n2,_⟩ | ⟨_,rfl,rfl⟩
   ·have key:(arS e z he kk ty (S1 ++ S2)).rel C.w ok m':=by
     refine ⟨?_,fun s hs=>?_⟩
     ·simp only [List.map_append,List.map_cons] at hnd ⊢
      have:=List.nodup_append.1 hnd
      refine List.nodup_append.2 ⟨this.1,(List.nodup_cons.1 this.2.1).2,fun x hx y hy=>this.2.2 x hx y (List.mem_cons_of_mem _ hy)⟩
     ·obtain ⟨q1,q2⟩:=hall s (by
       simp only [List.mem_append,List.mem_cons] at hs ⊢
       rcases hs with hs | hs
       ·exact .inl hs
       ·exact .inr (.inr hs))
      exact ⟨flat_mu q1 hok,q2⟩
    cases m'<;>exact key
   ·rcases hc with hc | hc
    ·exact absurd hc n1
    ·exact absurd hc n2
   ·exact flat_mu s1 hok)
 have hsim:=hC.moved ev hR
 have hsim2:Sim X ⟨st.nt,(t,.own st.rows.length kk 0 l.length) :: st.tm,st.rows.set is (.obj (arS e z he kk ty (S1 ++ S2))) ++ [.flat false kk ty l.length (vec e z l)]⟩ a ⟨μ',rows',C.w⟩:=by
  refine ⟨hsim.rel,by simp only [rows'];rw [hC.rows],hsim.defers,hsim.nt,fun j av e2=>?_⟩
  simp only [List.lookup_cons] at e2
  split at e2
  ·rename_i hj
   have hj:j=t:=by simpa using hj
   subst hj
   injection e2 with e2
   subst e2
   obtain ⟨v,q1,q2⟩:=hC.tm j _ ht
   refine ⟨v,q1, ?_⟩
   have:=q2.v_inv
   subst this
   have:=AVR.own (w:=C.w) (ok:=(⟨μ',rows',C.w⟩:Conf).ok X) (μ:=μ') (id:=st.rows.length) (k:=kk) (off:=0) (n:=l.length) (b:=b) (c:=c) (cs:=ds) (ty:=ty) (by
    rw [← hC.rows,← hlen]
    simp [μ']) s2 s3 s4 s5
   simpa [slv] using this
  ·exact hsim.tm j av e2
 obtain ⟨C',fr,q1,q2,q3⟩:=h a _ hsim2 bb cs hb hk
 exact ⟨C',fr,q1,q2,q3⟩

theorem ak_fill (t is N:Nat) {l:List α} {S:List (Nat × Nat × List α)} (hS:st.rows[is]? = some (.obj (arS e z he kk ty S))) (hN:st.rows[N]? = some (.flat false kk ty l.length (vec e z l))) (ht:st.tm.lookup t=some (.own N kk 0 l.length))
  (h:∀ so:Option (Nat × Nat),(so=none→l=[])→AK X f k Q ⟨st.nt,(t,.d (.v (slv so l.length))) :: st.tm,(st.rows.set N .gone).set is (.obj (arS e z he kk ty (S ++ (so.map fun q=>(q.1,q.2,l)).toList)))⟩):AK X f k Q st:=by
 intro a C hC bb cs hb hk
 have hrel:=hC.rel
 have hSC:C.rows[is]? = some (.obj (arS e z he kk ty S)):=by rw [hC.rows];exact hS
 have hNC:C.rows[N]? = some (.flat false kk ty l.length (vec e z l)):=by rw [hC.rows];exact hN
 obtain ⟨m,hμ⟩:=hrel.muOf hSC
 obtain ⟨mN,hμN⟩:=hrel.muOf hNC
 obtain ⟨hnd,hall⟩:=arS_at hrel hSC
 have hlt:=(List.getElem?_eq_some_iff.1 hSC).1
 have hltN:=(List.getElem?_eq_some_iff.1 hNC).1
 have hne:N≠is:=by rintro rfl;rw [hSC] at hNC;cases hNC
 obtain ⟨v,hv1,hv2⟩:=hC.tm t _ ht
 have hflat:=hrel.rel N mN _ hμN hNC
 -- what the value is
 obtain ⟨so,hso,hvv,hmN,hnew⟩:∃ so:Option (Nat × Nat),(so=none→l=[])∧v=slv so l.length∧(so.map (·.1))=mN∧∀ q,so=some q→(∃ ds,C.w.heap[q.1]? = some (.cells ds ty (0,0))∧(0+q.2) * kk=ds.size)∧l.length≤q.2∧q.2≤maxLen:=by
  generalize hn:l.length=n at hv2
  cases hv2 with
  | own0 h1=>
   rw [hμN] at h1
   injection h1 with h1
   subst h1
   exact ⟨none,fun _=>List.length_eq_zero_iff.1 hn,by simp [slv],rfl,fun q hq=>by cases hq⟩
  | own h1 hh hs hn2 hc=>
   rw [hμN] at h1
   injection h1 with h1
   subst h1
   rename_i b c ds ty'
   refine ⟨some (b,c),fun hq=>(by cases hq),by simp [slv,hn],rfl, ?_⟩
   rintro q hq
   injection hq with hq
   subst hq
   obtain ⟨cs',vs,f1,f2,f3,f4,f5⟩:=hflat
   have:ty'=ty:=by
    rw [hh] at f1
    injection f1 with f1
    injection f1 with _ f1
   subst this
   exact ⟨⟨ds,hh,hs⟩,hn2,hc⟩
 have hbS:∀ q,so=some q→q.1 ∉ S.map Prod.fst:=by
  rintro q rfl hq
  have e:C.μ[N]? = some (some q.1):=by rw [hμN,← hmN];rfl
  exact (hrel.apartX is N m _ q.1 _ _ hμ e hSC hNC hq (by simp)).1 rfl
 let S':=S ++ (so.map fun q=>(q.1,q.2,l)).toList
 have hmem:∀ {x:Nat},x∈S'.map Prod.fst→x∈S.map Prod.fst∨mN=some x:=by
  intro x hx
  simp only [S',List.map_append,List.mem_append] at hx
  rcases hx with hx | hx
  ·exact .inl hx
  ·right
   cases so with
   | none=>simp at hx
   | some q=>
    simp at hx
    subst hx
    exact hmN.symm
 let rows':=(C.rows.set N .gone).set is (.obj (arS e z he kk ty S'))
 have hrow:∀ {i:Nat} {r:Row},rows'[i]? = some r→r≠.gone→(i=is∧r=.obj (arS e z he kk ty S'))∨(i≠is∧i≠N∧C.rows[i]? = some r):=by
  intro i r h2 hg
  rcases (get_set_iff (by simpa using hlt)).1 h2 with ⟨rfl,rfl⟩ | ⟨n1,h2⟩
  ·exact .inl ⟨rfl,rfl⟩
  ·rcases (get_set_iff hltN).1 h2 with ⟨rfl,rfl⟩ | ⟨n2,h2⟩
   ·exact absurd rfl hg
   ·exact .inr ⟨Ne.symm n1,Ne.symm n2,h2⟩
 have hnone:∀ {x:Nat},x∈S'.map Prod.fst→m≠some x:=by
  intro x hx hm
  rcases hmem hx with hx | hx
  ·exact (hrel.apartX is is _ _ x _ _ hμ hμ hSC hSC hx (by simp)).1 hm
  ·subst hx;subst hm
   exact hne (hrel.apart is N x _ _ hμ hμN hSC hNC rfl (by simp)).symm
 obtain ⟨ev,hR⟩:=repart hrel (μ':=C.μ) (rows':=rows') (fun i=>i=is∨i=N) (by simp [rows',hrel.len]) (fun i x hx=>hx)
  (by
   intro i m r h1 h2 hg hc
   rcases hrow h2 hg with ⟨e1,_⟩ | ⟨_,_,k2⟩
   ·exact absurd (.inl e1) hc
   ·exact ⟨h1,k2⟩)
  (fun i b hb=>.inl hb)
  (by
   intro i m' r x hc h1 h2 hg hx
   rcases hrow h2 hg with ⟨e1,rfl⟩ | ⟨n1,n2,_⟩
   ·subst e1
    rw [hμ] at h1
    injection h1 with h1
    subst h1
    rcases hx with hx | hx
    ·exact ⟨i,m,_,.inl rfl,hμ,hSC,rfl,.inl hx⟩
    ·rcases hmem hx with hx | hx
     ·exact ⟨i,m,_,.inl rfl,hμ,hSC,rfl,.inr hx⟩
     ·exact ⟨N,mN,_,.inr rfl,hμN,hNC,rfl,.inl hx⟩
   ·rcases hc with hc | hc
    ·exact absurd hc n1
    ·exact absurd hc n2)
  (by
   intro i j m1 m2 r s x hc hd h1 h2 h3 h4 hg1 hg2 hx hy
   rcases hrow h3 hg1 with ⟨e1,_⟩ | ⟨n1,n2,_⟩
   ·rcases hrow h4 hg2 with ⟨f1,_⟩ | ⟨n1,n2,_⟩
    ·rw [e1,f1]
    ·rcases hd with hd | hd
     ·exact absurd hd n1
     ·exact absurd hd n2
   ·rcases hc with hc | hc
    ·exact absurd hc n1
    ·exact absurd hc n2)
  (by
   intro i m' r x hc h1 h2 hx
   have hg:r≠.gone:=by rintro rfl;cases hx
   rcases hrow h2 hg with ⟨e1,rfl⟩ | ⟨n1,n2,_⟩
   ·subst e1
    rw [hμ] at h1
    injection h1 with h1
    subst h1
    exact hnone hx
   ·rcases hc with hc | hc
    ·exact absurd hc n1
    ·exact absurd hc n2)
  (by
   intro ok hok i m' r hc h1 h2 hg
   rcases hrow h2 hg with ⟨e1,rfl⟩ | ⟨n1,n2,_⟩
   ·have key:(arS e z he kk ty S').rel C.w ok m':=by
     refine ⟨?_,fun s hs=>?_⟩
     ·simp only [S',List.map_append]
      refine List.nodup_append.2 ⟨hnd,by cases so<;>simp,fun x hx y hy=>?_⟩
      rintro rfl
      cases so with
      | none=>simp at hy
      | some q=>
       simp at hy
       subst hy
       exact hbS q rfl hx
     ·rcases List.mem_append.1 hs with hs | hs
      ·obtain ⟨q1,q2⟩:=hall s hs
       exact ⟨flat_mu q1 hok,q2⟩
      ·cases so with
       | none=>simp at hs
       | some q=>
        simp at hs
        subst hs
        obtain ⟨q1,q2⟩:=hnew q rfl
        have hmN':mN=some q.1:=hmN.symm
        subst hmN'
        exact ⟨flat_mu hflat hok,q1,q2⟩
    cases m'<;>exact key
   ·rcases hc with hc | hc
    ·exact absurd hc n1
    ·exact absurd hc n2)
 have hsim:=hC.moved ev hR
 have hsim2:Sim X ⟨st.nt,(t,.d (.v (slv so l.length))) :: st.tm,(st.rows.set N .gone).set is (.obj (arS e z he kk ty S'))⟩ a ⟨C.μ,rows',C.w⟩:=by
  refine ⟨hsim.rel,by simp only [rows'];rw [hC.rows],hsim.defers,hsim.nt,fun j av e2=>?_⟩
  simp only [List.lookup_cons] at e2
  split at e2
  ·rename_i hj
   have hj:j=t:=by simpa using hj
   subst hj
   injection e2 with e2
   subst e2
   refine ⟨v,hv1, ?_⟩
   rw [hvv]
   exact .d (.v (slv_one _ _))
  ·exact hsim.tm j av e2
 obtain ⟨C',fr,q1,q2,q3⟩:=h so hso a _ hsim2 bb cs hb hk
 exact ⟨C',fr,q1,q2,q3⟩

theorem ak_permS (is:Nat) {S S':List (Nat × Nat × List α)} (hS:st.rows[is]? = some (.obj (arS e z he kk ty S))) (hp:S.Perm S') (h:AK X f k Q ⟨st.nt,st.tm,st.rows.set is (.obj (arS e z he kk ty S'))⟩):AK X f k Q st:=by
 intro a C hC bb cs hb hk
 have hrel:=hC.rel
 have hSC:C.rows[is]? = some (.obj (arS e z he kk ty S)):=by rw [hC.rows];exact hS
 obtain ⟨m,hμ⟩:=hrel.muOf hSC
 obtain ⟨hnd,hall⟩:=arS_at hrel hSC
 have hlt:=(List.getElem?_eq_some_iff.1 hSC).1
 have hpm:(S.map Prod.fst).Perm (S'.map Prod.fst):=hp.map _
 have hin:∀ {x:Nat},x∈S'.map Prod.fst→x∈S.map Prod.fst:=fun hx=>hpm.mem_iff.2 hx
 let rows':=C.rows.set is (.obj (arS e z he kk ty S'))
 have hrow:∀ {i:Nat} {r:Row},rows'[i]? = some r→(i=is∧r=.obj (arS e z he kk ty S'))∨(i≠is∧C.rows[i]? = some r):=by
  intro i r h2
  rcases (get_set_iff hlt).1 h2 with ⟨rfl,rfl⟩ | ⟨n1,h2⟩
  ·exact .inl ⟨rfl,rfl⟩
  ·exact .inr ⟨Ne.symm n1,h2⟩
 obtain ⟨ev,hR⟩:=repart hrel (μ':=C.μ) (rows':=rows') (fun i=>i=is) (by simp [rows',hrel.len]) (fun i x hx=>hx)
  (by
   intro i m r h1 h2 hg hc
   rcases hrow h2 with ⟨e1,_⟩ | ⟨_,k2⟩
   ·exact absurd e1 hc
   ·exact ⟨h1,k2⟩)
  (fun i b hb=>.inl hb)
  (by
   intro i m' r x hc h1 h2 hg hx
   subst hc
   rcases hrow h2 with ⟨_,rfl⟩ | ⟨n1,_⟩
   ·exact ⟨i,m',_,rfl,h1,hSC,rfl,hx.imp (fun q=>q) fun q=>hin q⟩
   ·exact absurd rfl n1)
  (fun i j m1 m2 r s x hc hd _ _ _ _ _ _ _ _=>by rw [hc,hd])
  (by
   intro i m' r x hc h1 h2 hx
   subst hc
   rcases hrow h2 with ⟨_,rfl⟩ | ⟨n1,_⟩
   ·exact (hrel.apartX i i _ _ x _ _ h1 h1 hSC hSC (hin hx) (by simp)).1
   ·exact absurd rfl n1)
  (by
   intro ok hok i m' r hc h1 h2 hg
   subst hc
   rcases hrow h2 with ⟨_,rfl⟩ | ⟨n1,_⟩
   ·have key:(arS e z he kk ty S').rel C.w ok m':=⟨hpm.nodup_iff.1 hnd,fun s hs=>by
     obtain ⟨q1,q2⟩:=hall s (hp.mem_iff.2 hs)
     exact ⟨flat_mu q1 hok,q2⟩⟩
    cases m'<;>exact key
   ·exact absurd rfl n1)
 have hsim:=hC.moved ev hR
 obtain ⟨C',fr,q1,q2,q3⟩:=h a _ (by
  have:=hsim
  simp only [rows'] at this
  rw [hC.rows] at this
  exact this) bb cs hb hk
 exact ⟨C',fr,q1,q2,q3⟩

theorem ak_slices (e:α→List DV) (z:α) (he:∀ x,NLs (e x)) (kk:Nat) (ty:TypeId) (h:AK X f k Q ⟨st.nt,st.tm,st.rows ++ [.obj (arS e z he kk ty [])]⟩):AK X f k Q st:=by
 intro a C hC b cs hb hk
 have hrel:RowRel C.w ((C.virt (.obj (arS e z he kk ty []))).ok X) (C.virt (.obj (arS e z he kk ty []))).μ none (.obj (arS e z he kk ty [])):=⟨.nil,fun _ h=>by cases h⟩
 have hv:=HRel.virt hC.rel hrel
 have ev:=Ev.virt hC.rel (.obj (arS e z he kk ty []))
 exact h a (C.virt (.obj (arS e z he kk ty []))) (by
  have:=hC.moved ev hv
  have e:(C.virt (.obj (arS e z he kk ty []))).rows=st.rows ++ [.obj (arS e z he kk ty [])]:=by simp only [Conf.virt,hC.rows]
  rw [e] at this
  exact this) b cs hb hk
end

theorem hblkB {X:Ctx} {C:Conf} {ids:List Nat} {rowsIn:List Row} (h:HRel X C) (hh:Hands C.rows ids rowsIn) {id b:Nat} {m:Option Nat} {r:Row} (hr:C.rows[id]? = some r) (hμ:C.μ[id]? = some m) (hi:id ∉ ids) (hg:r≠.gone) (hb:r.hasB C.w m b):¬ (callConf X C ids rowsIn).live b:=by
 rintro ⟨j,m',s,e1,e2,e3,e6⟩
 obtain ⟨jd,e4,e5⟩:=(callMu h hh).1 e1
 have k1:=hh.rows j jd s e4 e2
 have:=h.apartB e5 hμ k1.1 hr (by rw [renR_live];exact e3) hg ((renR_hasB _ _ _ _ _).2 e6) hb
 subst this
 exact hi (List.mem_of_getElem? e4)

def eO (x:Value × Int):List DV:=[.v x.1,.i x.2]
theorem nlO (x:Value × Int):NLs (eO x):=.cons (.v _) (.cons (.v _) .nil)

theorem look_at {X:Ctx} {C:Conf} {ids:List Nat} {rowsIn:List Row} {α:Type} {e:α→List DV} {z:α} {he:∀ x,NLs (e x)} {kk:Nat} {ty tq:TypeId} (h:HRel X C) (hh:Hands C.rows ids rowsIn) {ia is a:Nat} {dom:List Nat} {M:Nat→Value × Int} {S:List (Nat × Nat × List α)}
  (hA:C.rows[ia]? = some (.obj (arO eO nlO tq dom M))) (hia:ia ∉ ids) (hS:C.rows[is]? = some (.obj (arS e z he kk ty S))) (his:is ∉ ids) (ha:a∈dom) {so:Option (Nat × Nat)} {l:List α} {mk:Int} (hM:M a=(slv so l.length,mk))
  (h0:so=none→l=[]) (h1:∀ q,so=some q→(q.1,q.2,l)∈S) {v:Value} (hv:AVR C.w (C.ok X) C.μ (.d (pA a 0)) v):
  AVR C.w ((callConf X C ids rowsIn).ok (callCtx X C ids)) (callCtx X C ids).μ0 (.d (.rop false 1 (fun _=>[.sl false l.length (vec e z l),.i mk]) 0 0)) v:=by
 have hv:=hv.v_inv
 subst hv
 obtain ⟨mA,hμA⟩:=h.muOf hA
 obtain ⟨mS,hμS⟩:=h.muOf hS
 obtain ⟨vs,c1,c2⟩:=arO_at h hA ha
 obtain ⟨hnd,hall⟩:=arS_at h hS
 have hx:a∈(Row.obj (arO eO nlO tq dom M)).ext C.w mA:=ha
 have hnot:=hblkB h hh hA hμA hia (by simp) (.inr hx)
 rw [hM] at c2
 have hvs:VRs C.w ((callConf X C ids rowsIn).ok (callCtx X C ids)) [.sl false l.length (vec e z l),.i mk] vs:=by
  cases c2 with
  | cons o1 o2 o3=>
   refine .cons o1 ?_ (o3.mono (callOk h hh) fun _ _ _=>rfl)
   cases o2 with
   | v o4=>
    cases so with
    | none=>
     rw [h0 rfl]
     exact .sl0
    | some q=>
     have hq:=h1 q rfl
     obtain ⟨s1,⟨ds,s2,s3⟩,s4,s5⟩:=hall _ hq
     rcases Nat.eq_zero_or_pos l.length with hl | hl
     ·have:l=[]:=List.length_eq_zero_iff.1 hl
      subst this
      exact .sl0
     ·obtain ⟨cs,ws,f1,f2,f3,f4,f5⟩:=s1
      have hy:q.1∈(Row.obj (arS e z he kk ty S)).ext C.w mS:=List.mem_map.2 ⟨_,hq,rfl⟩
      refine .sl kk ws hl s4 ⟨(h.placeX is mS q.1 _ hμS hS hy).2,hblkB h hh hS hμS his (by simp) (.inr hy),fun e=>by cases e⟩ f3 (fun i hi=>(f4 i hi).mono (callOk h hh) fun _ _ _=>rfl) ?_
      intro i j u hi hj
      rw [cell_of_row _ _ _ _ _ _ f1]
      have:=f5 i j u hi hj
      rwa [Nat.zero_add]
 have:=VR.rop (w:=C.w) (ok:=(callConf X C ids rowsIn).ok (callCtx X C ids)) (t:=false) (n:=1) (g:=fun _=>[.sl false l.length (vec e z l),.i mk]) (i:=0) (off:=0) (b:=a) (o:=0) vs.length (fun _=>vs) (by omega)
  ⟨(h.placeX ia mA a _ hμA hA hx).2,hnot,fun e=>by cases e⟩ (fun _ _=>rfl) (fun _ _=>hvs) (fun i j u hi hj=>by
   have hi:i=0:=by omega
   subst hi
   rw [cell_of_row _ _ _ _ _ _ c1]
   simpa using hj)
 simp only [Nat.zero_mul,Nat.zero_add] at this ⊢
 exact .d this

theorem look_args {X:Ctx} {C:Conf} {ids:List Nat} {rowsIn:List Row} {α:Type} {e:α→List DV} {z:α} {he:∀ x,NLs (e x)} {kk:Nat} {ty tq:TypeId} (h:HRel X C) (hh:Hands C.rows ids rowsIn) (ia is:Nat) {a:Nat} {dom:List Nat} {M:Nat→Value × Int} {S:List (Nat × Nat × List α)}
  (hA:C.rows[ia]? = some (.obj (arO eO nlO tq dom M))) (hia:ia ∉ ids) (hS:C.rows[is]? = some (.obj (arS e z he kk ty S))) (his:is ∉ ids) (ha:a∈dom) {so:Option (Nat × Nat)} {l:List α} {mk:Int} (hM:M a=(slv so l.length,mk))
  (h0:so=none→l=[]) (h1:∀ q,so=some q→(q.1,q.2,l)∈S) {x0 x2 x3:DV} {vs:List Value} (hv:AVRl C.w (C.ok X) C.μ [.d x0,.d (pA a 0),.d x2,.d x3] vs):
  AVRl C.w ((callConf X C ids rowsIn).ok (callCtx X C ids)) (callCtx X C ids).μ0 [.d x0,.d (.rop false 1 (fun _=>[.sl false l.length (vec e z l),.i mk]) 0 0),.d x2,.d x3] vs:=by
 cases hv with
 | cons g0 hv=>
  cases hv with
  | cons g1 hv=>
   exact .cons (pass_rel h hh (pass_d x0) g0) (.cons (look_at h hh hA hia hS his ha hM h0 h1 g1) (passL_rel h hh (.cons (pass_d x2) (.cons (pass_d x3) .nil)) hv))
end Go.Sy
set_option linter.unusedVariables false
set_option linter.unusedSimpArgs false
set_option linter.unusedSectionVars false
namespace Go.Sy

section
variable {X:Ctx} {T:Tab} {f:FuncId} {k k':List Item} {Q:Frame→Frame→Conf→Prop} {st st':St}

def lenvAt (T:Tab) (st:St) (k:List Item):Option (Value × Option Tmp × List Item):=
 match topOp st k with
 | some (o,k')=>
  match o.op with
  | .call ⟨.builtin .len,⟨[x]⟩,⟨[t]⟩⟩=>
   match valOf st.tm x with
   | some (.d (.v u))=>bif (T.slices.lookup t).isSome then some (u,o.dst,k') else none
   | _=>none
  | _=>none
 | none=>none
theorem ak_lenV (hT:TabOk X.P T) {so:Option (Nat × Nat)} {n:Nat} {dst:Option Tmp} (e:lenvAt T st k=some (slv so n,dst,k')) (h0:so=none→n=0)
  (hput:St.put st dst (.d (.v (.int .i64 n)))=some st') (h:AK X f k' Q st'):AK X f k Q st:=by
 unfold lenvAt at e
 split at e
 ·rename_i o k3 htop
  split at e
  ·rename_i x t hop
   split at e
   ·rename_i u hx
    cases hs:(T.slices.lookup t).isSome with
    | false=>rw [hs] at e;cases e
    | true=>
     rw [hs] at e
     simp only [cond_true,Option.some.injEq,Prod.mk.injEq] at e
     obtain ⟨rfl,rfl,rfl⟩:=e
     refine ak_top htop h fun a C hC=>⟨.int .i64 n,C,st, ?_,hC,_,hput,.d (.v rfl)⟩
     obtain ⟨el,he⟩:=Option.isSome_iff_exists.1 hs
     have e1:=(hC.val _ _ hx).v_inv
     have key:∀ (A:Option Addr) (c:Nat),a.eval x=.slice A n c→(execOp a.eval o).run X.P C.w=.ok (.value (.int .i64 n)) C.w:=by
      intro A c e1
      unfold execOp
      rw [hop]
      simp [resolve,invoke,builtin,e1,run_lenSlice hT he]
     cases so with
     | none=>
      have:n=0:=h0 rfl
      subst this
      exact key none 0 e1
     | some q=>exact key _ _ e1
   ·cases e
  ·cases e
 ·cases e

def sb {α:Type} (so:Option (Nat × Nat)) (l:List α):List (Nat × Nat × List α):=(so.map fun q=>(q.1,q.2,l)).toList

variable {α:Type} {e:α→List DV} {z:α} {he:∀ x,NLs (e x)} {kk:Nat} {ty tq:TypeId}
theorem ak_ldCarve (hT:TabOk X.P T) {M:Nat→Value × Int} {dom:List Nat} (ia is:Nat) {a:Nat} {so:Option (Nat × Nat)} {l:List α} {mk:Int} {S:List (Nat × Nat × List α)} {dst:Tmp} (e1:ldaAt T st k=some (a,0,1,false,some dst,k'))
  (hA:st.rows[ia]? = some (.obj (arO eO nlO tq dom M))) (ha:a∈dom) (hM:M a=(slv so l.length,mk)) (h0:so=none→l=[]) (hS:st.rows[is]? = some (.obj (arS e z he kk ty (sb so l ++ S))))
  (hput:St.put { st with rows:=st.rows.set is (.obj (arS e z he kk ty S)) ++ [.flat false kk ty l.length (vec e z l)] } (some dst) (.own st.rows.length kk 0 l.length)=some st') (h:AK X f k' Q st'):AK X f k Q st:=by
 have hb:Nat.blt dst st.nt=true:=by
  cases hb:Nat.blt dst st.nt with
  | true=>rfl
  | false=>simp only [St.put,hb] at hput;cases hput
 simp only [St.put,hb,cond_true,Option.some.injEq] at hput
 subst hput
 refine ak_lda0 hT ia [.v (slv so l.length)] e1 hA ha (by rw [hM];rfl) rfl (fun _=>rfl) (st':=⟨st.nt,(dst,.d (.v (slv so l.length))) :: st.tm,st.rows⟩) (by simp [St.put,hb]) ?_
 have hlk:∀ {x y:AV} {i:Nat} {av:AV},((dst,x) :: st.tm).lookup i=some av→((dst,x) :: (dst,y) :: st.tm).lookup i=some av:=by
  intro x y i av hl
  simp only [List.lookup_cons] at hl ⊢
  split at hl
  ·exact hl
  ·exact hl
 cases so with
 | none=>
  have:l=[]:=h0 rfl
  subst this
  refine ak_nil (st:=⟨st.nt,(dst,.d (.v (.slice none 0 0))) :: st.tm,st.rows⟩) dst kk ty (vec e z []) _ (by simp [List.lookup_cons]) rfl ?_
  refine ak_sub ((dst,.own st.rows.length kk 0 0) :: st.tm) (fun i av hl=>hlk hl) ?_
  have:st.rows.set is (.obj (arS e z he kk ty S))=st.rows:=by
   apply List.ext_getElem?
   intro i
   by_cases hi:is=i
   ·subst hi
    rw [List.getElem?_set_self (List.getElem?_eq_some_iff.1 hS).1,hS]
    simp [sb]
   ·rw [List.getElem?_set_ne hi]
  rw [this] at h
  exact h
 | some q=>
  refine ak_carve (st:=⟨st.nt,(dst,.d (.v (slv (some q) l.length))) :: st.tm,st.rows⟩) dst is (b:=q.1) (c:=q.2) (l:=l) (S1:=[]) (S2:=S) (by simpa [sb] using hS) (by simp [List.lookup_cons]) rfl ?_
  exact ak_sub ((dst,.own st.rows.length kk 0 l.length) :: st.tm) (fun i av hl=>hlk hl) h
end

structure Rec where
 c:Int
 a:Nat
 so:Option (Nat × Nat)
def mpK (L:List Rec):List (Int × Value):=L.map fun r=>(r.c,.pointer (some ⟨r.a,0,none⟩))
def adr (L:List Rec):List Nat:=L.map Rec.a
def blks {α:Type} (P:Int→List α × Int) (L:List Rec):List (Nat × Nat × List α):=L.flatMap fun r=>sb r.so (P r.c).1
structure PInv {α:Type} (L:List Rec) (M:Nat→Value × Int) (S:List (Nat × Nat × List α)) (P:Int→List α × Int):Prop where
 nc:(L.map Rec.c).Nodup
 na:(L.map Rec.a).Nodup
 obj:∀ r∈L,M r.a=(slv r.so (P r.c).1.length,(P r.c).2)∧(r.so=none→(P r.c).1=[])
 out:∀ c,(∀ r∈L,r.c≠c)→P c=([],0)
 blk:S.Perm (blks P L)
def updP {α:Type} (P:Int→α) (c:Int) (x:α):Int→α:=fun d=>if d=c then x else P d

section
variable {α:Type} {L:List Rec} {M:Nat→Value × Int} {S:List (Nat × Nat × List α)} {P:Int→List α × Int}
theorem PInv.nil:PInv (α:=α) [] (fun _=>(.slice none 0 0,0)) [] (fun _=>([],0)):=⟨.nil,.nil,fun _ h=>by simp at h,fun _ _=>rfl,.nil⟩
theorem mpK_none {c:Int} (h:(mpK L).lookup c=none):∀ r∈L,r.c≠c:=by
 induction L with
 | nil=>intro r hr;simp at hr
 | cons x L ih=>
  intro r hr
  simp only [mpK,List.map_cons,List.lookup_cons] at h
  split at h
  ·cases h
  ·rename_i hc
   rcases List.mem_cons.1 hr with rfl | hr
   ·simp at hc;exact fun e=>hc e.symm
   ·exact ih h r hr
theorem mpK_some {c:Int} {v:Value} (h:(mpK L).lookup c=some v):∃ r∈L,r.c=c∧v=.pointer (some ⟨r.a,0,none⟩):=by
 induction L with
 | nil=>simp [mpK] at h
 | cons x L ih=>
  simp only [mpK,List.map_cons,List.lookup_cons] at h
  split at h
  ·rename_i hc
   injection h with h
   simp at hc
   exact ⟨x,List.mem_cons_self ..,hc.symm,h.symm⟩
  ·obtain ⟨r,h1,h2⟩:=ih h
   exact ⟨r,List.mem_cons_of_mem _ h1,h2⟩
theorem mpK_snoc {c:Int} {a:Nat} (h:∀ r∈L,r.c≠c):(mpK (L ++ [⟨c,a,none⟩])).lookup c=some (.pointer (some ⟨a,0,none⟩)):=by
 induction L with
 | nil=>simp [mpK,List.lookup_cons]
 | cons x L ih=>
  simp only [mpK,List.cons_append,List.map_cons,List.lookup_cons]
  split
  ·rename_i hc
   simp at hc
   exact absurd hc.symm (h x (List.mem_cons_self ..))
  ·exact ih fun r hr=>h r (List.mem_cons_of_mem _ hr)

theorem PInv.new (h:PInv L M S P) {c:Int} {a:Nat} (hc:∀ r∈L,r.c≠c) (ha:a ∉ adr L):PInv (L ++ [⟨c,a,none⟩]) (upd M a (.slice none 0 0,0)) S P:=by
 have hP:=h.out c hc
 refine ⟨?_, ?_, ?_, ?_, ?_⟩
 ·rw [List.map_append]
  refine List.nodup_append.2 ⟨h.nc,by simp,fun x hx y hy=>?_⟩
  simp at hy
  subst hy
  rintro rfl
  obtain ⟨r,hr,e⟩:=List.mem_map.1 hx
  exact hc r hr e
 ·rw [List.map_append]
  refine List.nodup_append.2 ⟨h.na,by simp,fun x hx y hy=>?_⟩
  simp at hy
  subst hy
  rintro rfl
  exact ha hx
 ·intro r hr
  rcases List.mem_append.1 hr with hr | hr
  ·have:r.a≠a:=fun e=>ha (e▸List.mem_map.2 ⟨r,hr,rfl⟩)
   simp only [upd,this,if_false]
   exact h.obj r hr
  ·simp at hr
   subst hr
   simp [upd,slv,hP]
 ·intro d hd
  exact h.out d fun r hr=>hd r (List.mem_append_left _ hr)
 ·refine h.blk.trans ?_
  simp [blks,sb]

theorem adr_mem {r:Rec} (hr:r∈L):r.a∈adr L:=List.mem_map.2 ⟨r,hr,rfl⟩
theorem blks_congr {P P':Int→List α × Int}:∀ {L:List Rec},(∀ r∈L,P' r.c=P r.c)→blks P' L=blks P L
 | [],_=>rfl
 | x :: L,h=>by
  simp only [blks,List.flatMap_cons]
  rw [h x (List.mem_cons_self ..)]
  exact congrArg _ (blks_congr (L:=L) fun r hr=>h r (List.mem_cons_of_mem _ hr))

theorem PInv.split (h:PInv L M S P) {r:Rec} (hr:r∈L):∃ L1 L2,L=L1 ++ r :: L2∧S.Perm (sb r.so (P r.c).1 ++ blks P (L1 ++ L2))∧(∀ x∈L1 ++ L2,x.c≠r.c∧x.a≠r.a):=by
 obtain ⟨L1,L2,rfl⟩:=List.append_of_mem hr
 refine ⟨L1,L2,rfl,h.blk.trans ?_,fun x hx=>?_⟩
 ·simp only [blks,List.flatMap_append,List.flatMap_cons]
  refine (List.perm_append_comm_assoc _ _ _)
 ·have nc:=h.nc
  have na:=h.na
  simp only [List.map_append,List.map_cons] at nc na
  have nc:=List.nodup_append.1 nc
  have na:=List.nodup_append.1 na
  rcases List.mem_append.1 hx with hx | hx
  ·exact ⟨fun e=>nc.2.2 _ (List.mem_map.2 ⟨x,hx,rfl⟩) _ (List.mem_cons_self ..) e,fun e=>na.2.2 _ (List.mem_map.2 ⟨x,hx,rfl⟩) _ (List.mem_cons_self ..) e⟩
  ·exact ⟨fun e=>(List.nodup_cons.1 nc.2.1).1 (e▸List.mem_map.2 ⟨x,hx,rfl⟩),fun e=>(List.nodup_cons.1 na.2.1).1 (e▸List.mem_map.2 ⟨x,hx,rfl⟩)⟩

theorem PInv.put (h:PInv L M S P) {L1 L2:List Rec} {r:Rec} (hL:L=L1 ++ r :: L2) (hx:∀ x∈L1 ++ L2,x.c≠r.c∧x.a≠r.a) (so:Option (Nat × Nat)) (l:List α) (mk:Int) (h0:so=none→l=[]):
  PInv (L1 ++ ⟨r.c,r.a,so⟩ :: L2) (upd M r.a (slv so l.length,mk)) (blks P (L1 ++ L2) ++ sb so l) (updP P r.c (l,mk)):=by
 subst hL
 have hP:∀ x∈L1 ++ L2,updP P r.c (l,mk) x.c=P x.c:=fun x hm=>by simp [updP,(hx x hm).1]
 refine ⟨by simpa using h.nc,by simpa using h.na, ?_, ?_, ?_⟩
 ·intro x hm
  have hm:x∈L1 ++ L2∨x=⟨r.c,r.a,so⟩:=by
   simp only [List.mem_append,List.mem_cons] at hm ⊢
   rcases hm with hm | hm | hm
   ·exact .inl (.inl hm)
   ·exact .inr hm
   ·exact .inl (.inr hm)
  rcases hm with hm | rfl
  ·rw [hP x hm]
   simp only [upd,(hx x hm).2,if_false]
   refine h.obj x ?_
   simp only [List.mem_append,List.mem_cons] at hm ⊢
   rcases hm with hm | hm
   ·exact .inl hm
   ·exact .inr (.inr hm)
  ·simp only [upd,updP,if_true]
   exact ⟨trivial,h0⟩
 ·intro c hc
  have:c≠r.c:=fun e=>hc ⟨r.c,r.a,so⟩ (by simp) e.symm
  simp only [updP,this,if_false]
  refine h.out c fun x hm=>?_
  rcases List.mem_append.1 hm with hm | hm
  ·exact hc x (List.mem_append_left _ hm)
  ·rcases List.mem_cons.1 hm with rfl | hm
   ·exact fun e=>this e.symm
   ·exact hc x (List.mem_append_right _ (List.mem_cons_of_mem _ hm))
 ·have e1:blks (updP P r.c (l,mk)) (L1 ++ ⟨r.c,r.a,so⟩ :: L2)=blks P L1 ++ (sb so l ++ blks P L2):=by
   simp only [blks,List.flatMap_append,List.flatMap_cons]
   have a1:=blks_congr (L:=L1) fun x hm=>hP x (List.mem_append_left _ hm)
   have a2:=blks_congr (L:=L2) fun x hm=>hP x (List.mem_append_right _ hm)
   simp only [blks] at a1 a2
   rw [a1,a2]
   simp [updP]
  rw [e1]
  have e2:blks P (L1 ++ L2)=blks P L1 ++ blks P L2:=by simp [blks,List.flatMap_append]
  rw [e2,List.append_assoc]
  exact List.Perm.append_left _ List.perm_append_comm

theorem PInv.mem (h:PInv L M S P) {r:Rec} (hr:r∈L):∀ q,r.so=some q→(q.1,q.2,(P r.c).1)∈S:=by
 intro q hq
 refine h.blk.mem_iff.2 (List.mem_flatMap.2 ⟨r,hr, ?_⟩)
 simp [sb,hq]
theorem mpK_put {L1 L2:List Rec} {r:Rec} (so:Option (Nat × Nat)):mpK (L1 ++ ⟨r.c,r.a,so⟩ :: L2)=mpK (L1 ++ r :: L2):=by simp [mpK]
theorem adr_put {L1 L2:List Rec} {r:Rec} (so:Option (Nat × Nat)):adr (L1 ++ ⟨r.c,r.a,so⟩ :: L2)=adr (L1 ++ r :: L2):=by simp [adr]

theorem PInv.mark (h:PInv L M S P) {r:Rec} (hr:r∈L) (mk:Int):PInv L (upd M r.a (slv r.so (P r.c).1.length,mk)) S (updP P r.c ((P r.c).1,mk)):=by
 obtain ⟨L1,L2,hL,hS,hx⟩:=h.split hr
 have:=h.put hL hx r.so (P r.c).1 mk (h.obj r hr).2
 rw [show (⟨r.c,r.a,r.so⟩:Rec)=r from rfl,← hL] at this
 exact ⟨this.nc,this.na,this.obj,this.out,(hS.trans List.perm_append_comm).trans this.blk⟩
end
end Go.Sy
