/- The law of the chain: steps hang together. -/
import Derived.Test.YtdndobkfnmommaaGreatP24zX
set_option linter.unusedVariables false
set_option linter.unusedSimpArgs false
namespace Go.SyP
open Go Go.Sy Sets
def Qvl (m:Ql) (k:Int) (c:Option Int):Option Int:=(Qfu m k c).getD c
def Wgr (l:List Qa) (m:Ql) (on:List Qb) (k:Int):Prop:=Qc1 m k=true/\hasB on k=true/\Qfu m k (look l k)=none
theorem Wc2 {l:List Qa} {m:Ql} {on:List Qb} {k:Int}:Qd3 l m on k=none↔Wgr l m on k:=by
 unfold Qd3 Wgr
 by_cases h:(Qc1 m k && hasB on k)=true
 ·rw [if_pos h]
  rw [Bool.and_eq_true] at h
  exact ⟨fun e=>⟨h.1,h.2,e⟩,fun e=>e.2.2⟩
 rw [if_neg h]
 rw [Bool.and_eq_true] at h
 exact ⟨fun e=>(by cases e),fun e=>absurd ⟨e.1,e.2.1⟩ h⟩
theorem Qxt {m:Ql} (hm:Qpw m) {k:Int} {c:Option Int} (h:Qfu m k c=none) (ht:Qc1 m k=true):∀ j,Qc1 m j=true->j=k:=by
 have hk:m.Kind=3\/m.Kind=4:=by
  unfold Qfu at h
  by_cases k3:m.Kind=3
  ·exact .inl k3
  by_cases k4:m.Kind=4
  ·exact .inr k4
  rw [if_neg k3,if_neg k4] at h
  exfalso
  split at h
  ·cases h
  split at h
  ·split at h<;>cases h
  cases h
 obtain ⟨p,hp⟩:=hm.one hk
 have key:∀ j,Qc1 m j=true->j=p.Key:=fun j hj=>by
  unfold Qc1 at hj
  rw [if_neg (by omega),hp] at hj
  by_cases e:p.Key=j
  ·exact e.symm
  simp [look,e] at hj
 intro j hj
 rw [key j hj,key k ht]
theorem Qym {l:List Qa} {m:Ql} {on:List Qb} {r:List Qa × Bool} (h:Qgl l m on r) (hm:Qpw m) (k:Int):
  look r.1 k=if (Qc1 m k && hasB on k)=true then Qvl m k (look l k) else look l k:=by
 cases hr:r.2 with
 | true=>
  have:=(h.done hr).2 k
  unfold Qd3 at this
  by_cases hc:(Qc1 m k && hasB on k)=true
  ·rw [if_pos hc] at this ⊢
   unfold Qvl
   rw [this]
   rfl
  rw [if_neg hc] at this ⊢
  injection this with this
  exact this.symm
 | false=>
  obtain ⟨e,j,hj⟩:=h.fail hr
  have hf:=Wc2.1 hj
  rw [e]
  by_cases hc:(Qc1 m k && hasB on k)=true
  ·rw [if_pos hc]
   rw [Bool.and_eq_true] at hc
   have:k=j:=Qxt hm hf.2.2 hf.1 k hc.1
   subst this
   unfold Qvl
   rw [hf.2.2]
   rfl
  rw [if_neg hc]
def cF (key:Int) (o:Option Int) (m:Ql):Option Int:=if Qc1 m key=true then Qvl m key o else o
theorem Qwx {on:List Qb} {t:List Qa} {m:Ql} {key:Int} (hl:t.length<=1000) (ho:on.length<=5000) (ht:Tb t) (hm:mOk m=true) (hs:SOk on) (hb:hasB on key=true):
  look (apD on t m).1 key=cF key (look t key) m:=by
 rw [Qym (Qf8 hl ho ht hm hs).to (Qn7 hm) key,hb,Bool.and_true]
 rfl
theorem Qn3 {on:List Qb} {key:Int} (ho:on.length<=5000) (hs:SOk on) (hb:hasB on key=true):∀ {ms:List Ql} {t:List Qa},Tb t->(∀ m∈ms,mOk m=true)->t.length+8 * ms.length<=1000 ->
  look (foldM on t ms) key=ms.foldl (cF key) (look t key)
 | [],t,ht,_,_=>rfl
 | m :: ms,t,ht,hm,hl=>by
  simp only [List.length_cons] at hl
  have hmm:=hm m (List.mem_cons_self ..)
  have a:=Qf8 (on:=on) (t:=t) (m:=m) (by omega) ho ht hmm hs
  have b:=Qn3 ho hs hb (ms:=ms) a.tb (fun x hx=>hm x (List.mem_cons_of_mem _ hx)) (by have:=a.len;omega)
  rw [show foldM on t (m :: ms)=foldM on (apD on t m).1 ms from rfl,b,Qwx (by omega) ho ht hmm hs hb]
  rfl
theorem Qsv {on:List Qb} {key:Int} (ho:on.length<=5000) (hs:SOk on) (hb:hasB on key=false):∀ {ms:List Ql} {t:List Qa},Tb t->(∀ m∈ms,mOk m=true)->t.length+8 * ms.length<=1000 ->
  look (foldM on t ms) key=look t key
 | [],t,ht,_,_=>rfl
 | m :: ms,t,ht,hm,hl=>by
  simp only [List.length_cons] at hl
  have hmm:=hm m (List.mem_cons_self ..)
  have a:=Qf8 (on:=on) (t:=t) (m:=m) (by omega) ho ht hmm hs
  have b:=Qsv ho hs hb (ms:=ms) a.tb (fun x hx=>hm x (List.mem_cons_of_mem _ hx)) (by have:=a.len;omega)
  rw [show foldM on t (m :: ms)=foldM on (apD on t m).1 ms from rfl,b,Qym a.to (Qn7 hmm) key,hb,Bool.and_false]
  rfl
theorem Qrm {key:Int} (hk:0<=key/\key < 4096) (j:Int):hasB [⟨key,key+1⟩] j=decide (j=key):=by
 rw [Qnw (by unfold Ok pa;simp only;omega),Bool.eq_iff_iff]
 simp
 omega
theorem Wc7 {key:Int} (hk:0<=key/\key < 4096):hasB Qgj key=true:=by
 rw [show Qgj=[⟨0,4096⟩] from rfl,Qnw (by decide)]
 simp
 omega
def Qd4 (S:List Wq):Yv:=match S.getLast? with | none=>⟨0,false⟩ | some s=>s.Is
structure Qin (key:Int) (pre:List Qd) (x:List Wq × List Qa):Prop where
 tb:Tb x.2
 len:x.2.length<=8 * pre.length
 last:Qd4 x.1=clA (look x.2 key)
 each:∀ i,i < x.1.length->(x.1.getD i Wq.z).Was=Qd4 (x.1.take i)/\Qc1 (x.1.getD i Wq.z).E.M key=true/\(x.1.getD i Wq.z).E.Jt=true
 who:x.1.getLast?.map (·.E)=pre.reverse.find? (fun e=>e.Jt && Qc1 e.M key)
 cell:look x.2 key=((pre.filter (·.Jt)).map (·.M)).foldl (cF key) none
theorem Qin.nil (key:Int):Qin key [] ([],[]):=⟨Tb.nil,by simp,rfl,fun i hi=>by simp at hi,rfl,rfl⟩
theorem Qin.step {key:Int} {pre:List Qd} {x:List Wq × List Qa} (h:Qin key pre x) {e:Qd} (hk:0<=key/\key < 4096) (hp:pre.length<=100) (hm:mOk e.M=true):Qin key (pre ++ [e]) (stF key x e):=by
 have htl:=h.len
 have a:=Qf8 (on:=[⟨key,key+1⟩]) (t:=x.2) (m:=e.M) (by omega) (by simp) h.tb hm (Qko hk)
 have hl:=Qwx (on:=[⟨key,key+1⟩]) (t:=x.2) (m:=e.M) (key:=key) (by omega) (by simp) h.tb hm (Qko hk) (by rw [Qrm hk];simp)
 have hrev:(pre ++ [e]).reverse=e :: pre.reverse:=by simp
 unfold stF
 by_cases hc:(e.Jt && Qc1 e.M key)=true
 ·rw [if_pos hc]
  have hc':=hc
  rw [Bool.and_eq_true] at hc'
  have hal:=a.len
  refine ⟨a.tb,by simp;omega, ?_,fun i hi=>?_, ?_, ?_⟩
  ·unfold Qd4
   simp
  ·rw [List.length_append,List.length_singleton] at hi
   rcases Nat.lt_or_ge i x.1.length with h1 | h1
   ·have e1:∀ s,(x.1 ++ [s]).getD i Wq.z=x.1.getD i Wq.z:=fun s=>by simp [List.getD_eq_getElem?_getD,List.getElem?_append_left h1]
    have e2:∀ s,(x.1 ++ [s]).take i=x.1.take i:=fun s=>List.take_append_of_le_length (by omega)
    simp only [e1,e2]
    exact h.each i h1
   obtain rfl:i=x.1.length:=by omega
   have e1:∀ s,(x.1 ++ [s]).getD x.1.length Wq.z=s:=fun s=>by simp [List.getD_eq_getElem?_getD]
   have e2:∀ s,(x.1 ++ [s]).take x.1.length=x.1:=fun s=>by simp
   simp only [e1,e2]
   exact ⟨h.last.symm,hc'.2,hc'.1⟩
  ·rw [hrev,List.find?_cons]
   simp [hc'.1,hc'.2]
  rw [List.filter_append,List.map_append,List.foldl_append,<- h.cell,hl]
  simp [hc'.1]
 rw [if_neg hc]
 refine ⟨h.tb,by simp;omega,h.last,h.each, ?_, ?_⟩
 ·rw [hrev,List.find?_cons,h.who]
  rw [show (e.Jt && Qc1 e.M key)=false by simpa using hc]
 rw [List.filter_append,List.map_append,List.foldl_append,<- h.cell]
 by_cases hd:e.Jt=true
 ·have:Qc1 e.M key=false:=by simpa [hd] using hc
  simp [hd,cF,this]
 simp [hd]
theorem Qin.fold {key:Int} (hk:0<=key/\key < 4096):∀ {l pre:List Qd} {x:List Wq × List Qa},Qin key pre x->pre.length+l.length<=100->(∀ e∈l,mOk e.M=true)->Qin key (pre ++ l) (l.foldl (stF key) x)
 | [],pre,x,h,_,_=>by simpa using h
 | e :: l,pre,x,h,hn,hm=>by
  simp only [List.length_cons] at hn
  have h1:=h.step (e:=e) hk (by omega) (hm e (List.mem_cons_self ..))
  have h2:=Qin.fold hk (l:=l) h1 (by simp;omega) fun x hx=>hm x (List.mem_cons_of_mem _ hx)
  simpa using h2
theorem Whp {t:List Qa} {key:Int} (ht:Tb t) (h:∀ j,j≠key->look t j=none):t=match look t key with | none=>[] | some v=>[⟨key,v⟩]:=by
 refine Up.unique ht.up ?_ fun j=>?_
 ·cases look t key<;>simp [Up]
 cases hl:look t key with
 | none=>
  by_cases hj:j=key
  ·rw [hj,hl];rfl
  rw [h j hj];rfl
 | some v=>
  by_cases hj:j=key
  ·rw [hj,hl];simp [look]
  rw [h j hj];simp [look,Ne.symm hj]
theorem Whu {mark:Int} {l:List Qd} (h:∀ e∈l,e.Time<=mark):Yx mark l=(l.filter (·.Jt)).map (·.M):=by
 unfold Yx
 congr 1
 refine List.filter_congr fun e he=>?_
 simp [Qn0,h e he]
theorem Wh2 {mark key:Int} {l:List Qd} (h:∀ e∈l,e.Time<=mark):Qxn l mark key=l.reverse.find? (fun e=>e.Jt && Qc1 e.M key):=by
 unfold Qxn
 have key:∀ {xs:List Qd},(∀ e∈xs,e.Time<=mark)->xs.find? (Qo5 mark key)=xs.find? (fun e=>e.Jt && Qc1 e.M key):=by
  intro xs
  induction xs with
  | nil=>intro _;rfl
  | cons e xs ih=>
   intro hx
   rw [List.find?_cons,List.find?_cons,ih fun y hy=>hx y (List.mem_cons_of_mem _ hy)]
   simp [Qo5,Qn0,hx e (List.mem_cons_self ..)]
 exact key fun e he=>h e (List.mem_reverse.1 he)
theorem place (a n:Int) (h0:0 < n) (h1:n<=1000000):0<=Int.tmod (IntKind.wrap .i64 (Int.tmod a n+n)) n/\Int.tmod (IntKind.wrap .i64 (Int.tmod a n+n)) n < n:=by
 have h2:=Int.tmod_lt_of_pos a h0
 have h3:=Int.lt_tmod_of_pos a h0
 rw [wr (by omega)]
 exact ⟨Int.tmod_nonneg _ (by omega),Int.tmod_lt_of_pos _ h0⟩
theorem Qin.all {l:List Qd} (hf:Few l) (hO:Ord l) {key:Int} (hk:0<=key/\key < 4096):Qin key l (l.foldl (stF key) ([],[])):=by
 have hl:=hf.len
 have:=Qin.fold hk (l:=l) (Qin.nil key) (by simp;omega) fun e he=>List.all_eq_true.1 hO.ok e he
 simpa using this
theorem Wbq {l:List Qd} (hf:Few l) (hO:Ord l) {key mark:Int} (hk:0<=key/\key < 4096) (hT:∀ e∈l,e.Time<=mark):
  (Qd4 (Ql0 key l)=⟨0,false⟩/\look (foldM Qgj [] (Yx mark l)) key=none/\Qv9 l mark (foldM [⟨key,key+1⟩] [] (Yx mark l))=[]) \/
  ∃ v s,Qd4 (Ql0 key l)=⟨v,true⟩/\look (foldM Qgj [] (Yx mark l)) key=some v/\(Ql0 key l).getLast? = some s/\Qv9 l mark (foldM [⟨key,key+1⟩] [] (Yx mark l))=[s.E]:=by
 have H:=Qin.all hf hO hk
 have hl:=hf.len
 have hsl:=Qyu mark l
 have hso:=Qpo (mark:=mark) hO.ok
 have Qgh:((l.filter (·.Jt)).map (·.M)).foldl (cF key) none=(Yx mark l).foldl (cF key) none:=by rw [Whu hT]
 have h1:look (foldM Qgj [] (Yx mark l)) key=look (l.foldl (stF key) ([],[])).2 key:=by
  rw [Qn3 (by decide) Qix (Wc7 hk) Tb.nil hso (by simp;omega),H.cell,Qgh]
  rfl
 have h2:look (foldM [⟨key,key+1⟩] [] (Yx mark l)) key=look (l.foldl (stF key) ([],[])).2 key:=by
  rw [Qn3 (by simp) (Qko hk) (by rw [Qrm hk];simp) Tb.nil hso (by simp;omega),H.cell,Qgh]
  rfl
 have h3:=Whp (key:=key) (Qnv (on:=[⟨key,key+1⟩]) (by simp) (Qko hk) (ms:=Yx mark l) (t:=[]) Tb.nil hso (by simp;omega)).1 fun j hj=>by
  rw [Qsv (by simp) (Qko hk) (by rw [Qrm hk];simp [hj]) Tb.nil hso (by simp;omega)]
  rfl
 have hla:=H.last
 have hw:=H.who
 rw [h2] at h3
 rw [h1]
 unfold Ql0
 generalize l.foldl (stF key) ([],[])=x at hla hw h3 ⊢
 cases hc:look x.2 key with
 | none=>
  left
  rw [hc] at h3 hla
  refine ⟨hla,rfl, ?_⟩
  rw [h3]
  rfl
 | some v=>
  right
  rw [hc] at h3 hla
  cases hs:x.1.getLast? with
  | none=>
   unfold Qd4 at hla
   rw [hs] at hla
   cases hla
  | some s=>
   rw [hs] at hw
   refine ⟨v,s,hla,rfl,rfl, ?_⟩
   rw [h3]
   show Qrh l mark [] ⟨key,v⟩=_
   unfold Qrh
   rw [show Qxn l mark key=some s.E by rw [Wh2 hT,<- hw];rfl]
   rfl
theorem Qkq (a0:List Qd) (a1:Int):Qf a0 a1=some true:=by
 obtain ⟨r,f1,f2⟩:=Wi5 a0 []
 unfold Qf bnd
 have hk:=place a1 4096 (by decide) (by decide)
 simp only []
 generalize Int.tmod (IntKind.wrap .i64 (Int.tmod a1 4096+4096)) 4096=key at hk ⊢
 have haw:Qf.j1 a0 key true=some true:=by
  unfold Qf.j1
  rw [if_pos rfl,Qp0]
  rfl
 rw [f1,Option.bind_some]
 by_cases hr:r=true
 ·rw [if_pos hr]
  have hso:=f2 hr
  have hf:=hso.few
  have hlen:=hf.len
  obtain ⟨o,o1,o2⟩:=Qne a0 hf
  rw [o1,Option.bind_some]
  cases ho:o with
  | false=>exact haw
  | true=>
   have hO:=o2.1 ho
   have H:=Qin.all hf hO hk
   have hp:∀ x∈a0,x.M.Pairs.length<=5000:=fun x hx=>by have:=hf.prs x hx;omega
   simp only [Bool.not_true,Qf.j1,Bool.false_eq_true,if_false]
   rw [Qzd hf hO hk,Option.bind_some,Qxp hk,Qy8 hf hO (by simp) (Qko hk),Option.bind_some,if_pos rfl]
   simp only [bne_self_eq_false,Qf.j2,Bool.false_eq_true,if_false]
   have hce:=fun hT=>Wbq hf hO (mark:=1099511627775) hk hT
   have Qdc:∀ s∈Ql0 key a0,s.E∈a0:=fun s hs=>by
    rcases Qxi s hs with h | h
    ·simp at h
    exact h
   have Waa:=H.each
   have hSl:(Ql0 key a0).length<=61:=by
    have:=Qxh (key:=key) (l:=a0) (x:=([],[]))
    unfold Ql0
    simp at this
    omega
   rw [show (a0.foldl (stF key) ([],[])).1=Ql0 key a0 from rfl] at Waa
   generalize Ql0 key a0=S at hce Qdc Waa hSl ⊢
   generalize hB:Qv9 a0 1099511627775 (foldM [⟨key,key+1⟩] [] (Yx 1099511627775 a0))=B at hce ⊢
   have hchk:Yd []=some true:=by
    obtain ⟨c,c1,c2⟩:=Qji [] (by simp)
    rw [c1,c2.2 ⟨Canon.nil,by simp⟩]
   let st:=Qf.step a0 key (S,0) (B,0)
   have loop2:∃ r,Yb st (.l2 0 (Qd4 S).Val (Qd4 S).Some)=some r/\r=true:=by
    refine Quq (step:=st) (n:=a0.length) (fun i (_:Unit)=>Qf.S.l2 (i:Int) (Qd4 S).Val (Qd4 S).Some) (fun i _=>∀ e∈a0.take i,e.Time<=1099511627775) _ ?_ ?_ 0 () (Nat.zero_le _) (by simp)
    ·intro _ hT
     rw [Qbp (Nat.le_refl _)] at hT
     refine ⟨true, ?_,rfl⟩
     have hsee:=Qx5 (order:=a0) (Qae:=[]) hso.fv 0 1 key 1099511627775 hO (hso.see hO 1 0)
     rw [show Qiv a0 (Qdv 1 ([].take (0:Int).toNat)) 1099511627775=foldM Qgj [] (Yx 1099511627775 a0) from rfl,List.map_nil] at hsee
     rw [Qau]
     simp only [st,Qf.step,Qf.l2,Int.lt_irrefl,if_false]
     rw [Qr6 a0 (by omega) hp,Option.bind_some,hsee,Option.bind_some]
     rcases hce hT with ⟨e1,e2,e3⟩ | ⟨v,s,e1,e2,e3,e4⟩
     ·rw [e1,e2,e3]
      simp [Qf.j4,Qf.j5,Qp0,hchk,stk]
     have hmS:=List.mem_of_getLast? e3
     have hEp:=hp _ (Qdc s hmS)
     have Wag:0 < S.length:=List.length_pos_of_mem hmS
     have hgl:S.getD (S.length - 1) Wq.z=s:=by
      rw [List.getLast?_eq_getElem?] at e3
      rw [List.getD_eq_getElem?_getD,e3]
      rfl
     have hE:Qa2 [s.E]=some [trE s.E]:=Qr6 [s.E] (by simp) (fun x hx=>by simp at hx;subst hx;exact hEp)
     rw [e1,e2,e4]
     simp only [Option.getD_some,Option.isSome_some,if_true,List.length_singleton,Qf.j4,Qp0,Option.bind_some,hE]
     rw [show IntKind.wrap .i64 ((S.length:Int) - 1)=((S.length - 1:Nat):Int) by rw [wr (by omega)];omega]
     have hcond:(0:Int)<=((S.length - 1:Nat):Int)/\((S.length - 1:Nat):Int) < (S.length:Int):=by omega
     simp only [hcond,and_self,if_true,show (((S.length - 1:Nat):Int)).toNat=S.length - 1 from rfl,hgl,hE,Option.bind_some,List.length_singleton,List.getD_cons_zero,Wd8 hEp,hchk,Qf.j5]
     simp [stk]
    intro i _ hi hT
    have hs:(0:Int)<=(i:Int)/\(i:Int) < (a0.length:Int):=by omega
    simp only [st,Qf.step,Qf.l2,hs.2,if_true,hs,and_self,show (i:Int).toNat=i from rfl,wr1 hi (by omega:a0.length<=9223372036854775807)]
    by_cases ht:(a0.getD i Qd.z).Time > 1099511627775
    ·right
     exact ⟨true,by rw [if_pos ht,Qp0];rfl,rfl⟩
    left
    refine ⟨(),by rw [if_neg ht],fun e he=>?_⟩
    rw [take_at (z:=Qd.z) hi] at he
    rcases List.mem_append.1 he with h | h
    ·exact hT e h
    simp only [List.mem_singleton] at h
    subst h
    omega
   obtain ⟨r2,g1,g2⟩:=loop2
   subst g2
   have loop1:∀ (m i:Nat),i+m=S.length->Yb st (.l1 (i:Int) (Qd4 (S.take i)).Val (Qd4 (S.take i)).Some)=some true:=by
    intro m
    induction m with
    | zero=>
     intro i hi
     obtain rfl:i=S.length:=by omega
     rw [Qau,Qbp (Nat.le_refl _)]
     have h0:st (.l1 (S.length:Int) (Qd4 S).Val (Qd4 S).Some)=some (.inl (.l2 0 (Qd4 S).Val (Qd4 S).Some)):=by
      simp only [st,Qf.step,Qf.l1,Int.lt_irrefl,if_false]
     rw [h0]
     exact g1
    | succ m ih=>
     intro i hi
     have hi':i < S.length:=by omega
     have hs:(0:Int)<=(i:Int)/\(i:Int) < (S.length:Int):=by omega
     obtain ⟨q1,q2,q3⟩:=Waa i hi'
     have hE:(S.getD i Wq.z).E.M.Pairs.length<=5000:=hp _ (Qdc _ (Qd0 (z:=Wq.z) hi'))
     have hnx:Qd4 (S.take (i+1))=(S.getD i Wq.z).Is:=by
      rw [take_at (z:=Wq.z) hi']
      simp [Qd4]
     have h0:st (.l1 (i:Int) (Qd4 (S.take i)).Val (Qd4 (S.take i)).Some)=some (.inl (.l1 ((i+1:Nat):Int) (Qd4 (S.take (i+1))).Val (Qd4 (S.take (i+1))).Some)):=by
      rw [hnx,<- q1]
      simp only [st,Qf.step,Qf.l1,hs.2,if_true,hs,and_self,show (i:Int).toNat=i from rfl]
      rw [Qya _ hE,Option.bind_some,Qs3 _ _ hE,Option.bind_some,q2]
      simp only [if_true,Qf.j3,q3,Bool.not_true,Bool.false_eq_true,if_false,wr1 hi' (by omega:S.length<=9223372036854775807)]
      cases (S.getD i Wq.z).Was.Some<;>simp
     rw [Qau,h0]
     exact ih (i+1) (by omega)
   exact loop1 S.length 0 (by omega)
 rw [if_neg hr]
 exact haw
end Go.SyP
