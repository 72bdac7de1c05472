/- A region whose order is left open, with two operations that turn rows in either order. -/
import Derived.Test.YtdndobkfnmommaaGreatSyM
import Derived.Test.YtdndobkfnmommaaGreatSyO
set_option linter.unusedVariables false
set_option linter.unusedSimpArgs false
namespace Go.Sy
section
variable {X:Ctx} {f:FuncId} {k:List Item} {Q:Frame->Frame->Wp->Prop} {nt m:Nat} {ops:Array Oper} {base:List (Nat × AV)} {Φ:List (Option AV)}
def Qpu (a b:Nat) (L:List Nat):Prop:=∀ p q,L=p ++ b :: q->a∈p
theorem Wes {a b:Nat} (h:a≠b) (L:List Nat):Qpu a b L\/Qpu b a L:=by
 by_cases h1:Qpu a b L
 ·exact .inl h1
 refine .inr fun p' q' e'=>?_
 have:∃ p q,L=p ++ b :: q/\a ∉ p:=by
  apply Classical.byContradiction
  intro hc
  exact h1 fun p q e=>Classical.byContradiction fun hn=>hc ⟨p,q,e,hn⟩
 obtain ⟨p,q,e,hn⟩:=this
 rw [e] at e'
 rcases List.append_eq_append_iff.1 e' with ⟨x,h2,h3⟩ | ⟨x,h2,h3⟩
 ·cases x with
  | nil=>
   simp at h3
   exact absurd h3.1.symm h
  | cons y x=>
   simp only [List.cons_append,List.cons.injEq] at h3
   rw [h2,h3.1]
   simp
 cases x with
 | nil=>
  simp at h3
  exact absurd h3.1 h
 | cons y x=>
  simp only [List.cons_append,List.cons.injEq] at h3
  exfalso
  apply hn
  rw [h2,h3.1]
  simp
structure Wh7 (E:List Nat) (m:Nat):Prop where
 lt:∀ e∈E,e < m
 nodup:E.Nodup
def Low (E:List Nat) (listed:Array Bool):Prop:=∀ (j e e':Nat),E[j]? = some e->E[j+1]? = some e'->isL listed e'->isL listed e
theorem Low.down {E:List Nat} {listed:Array Bool} (h:Low E listed):∀ (d j e q:Nat),E[j]? = some e->E[j+d]? = some q->isL listed q->isL listed e
 | 0,j,e,q,h1,h2,hq=>by
  rw [Nat.add_zero,h1] at h2
  injection h2 with h2
  exact h2▸hq
 | d+1,j,e,q,h1,h2,hq=>by
  have hlt:=(List.getElem?_eq_some_iff.1 h2).1
  have Qro:E[j+d]? = some E[j+d]:=List.getElem?_eq_getElem (by omega)
  exact Low.down h d j e _ h1 Qro (h (j+d) _ q Qro h2 hq)
theorem We8 {rw_:Nat->List Row} {E:List Nat} (w:Qmx ops m (base.map (·.1))) (hE:Wh7 E m) (hop:∀ i,i < m->i ∉ E->∀ s,s<=E.length->Qkr X f k Q nt (rw_ s) ops base Φ i) (Qrn:∀ (j e:Nat),E[j]? = some e->Ql5 X f k Q nt (rw_ j) (rw_ (j+1)) ops base Φ e)
  (Qd1:AK X f (.inRegion ops (List.range' m (ops.size - m)) :: k) Q ⟨nt,Qe5 ops Φ m ++ base,rw_ E.length⟩):
  ∀ (fuel t:Nat) (listed:Array Bool) (tm:List (Nat × AV)),listed.size=ops.size->(∀ j,m<=j->j < ops.size->¬ isL listed j)->((List.range m).filter fun j=>!listed.getD j true).length+(ops.size - m)=fuel ->
   Holds ops base Φ listed m tm->Qlh ops listed->Low E listed->(∀ (j e e':Nat),E[j]? = some e->E[j+1]? = some e'->e∈Qiq ops e' (Qff ops e')\/isL listed e\/Qpu e e' (Region.linearise.go .any ops fuel t listed [])) ->
   AK X f (.inRegion ops (Region.linearise.go .any ops fuel t listed []) :: k) Q ⟨nt,tm,rw_ (Qd2 E listed)⟩:=by
 intro fuel
 have full:∀ (fuel t:Nat) (listed:Array Bool) (tm:List (Nat × AV)),listed.size=ops.size->(∀ j,m<=j->j < ops.size->¬ isL listed j)->(∀ j,j < m->isL listed j)->ops.size - m=fuel ->
   Holds ops base Φ listed m tm->AK X f (.inRegion ops (Region.linearise.go .any ops fuel t listed []) :: k) Q ⟨nt,tm,rw_ (Qd2 E listed)⟩:=by
  intro fuel t listed tm hs hno Qdj hf hh
  have hle:=w.le
  have hrw:Qd2 E listed=E.length:=Qh5 (Nat.le_refl _) (fun i e _ he=>Qdj e (hE.lt e (List.mem_of_getElem? he))) (fun i e h1 h2=>by
   have:=(List.getElem?_eq_some_iff.1 h2).1
   omega)
  rw [hrw]
  rw [Qyw w fuel m t listed (Nat.le_refl _) (by omega) hs (fun j hj=>⟨fun h=>by
   rcases Nat.lt_or_ge j m with h1 | h1
   ·exact h1
   exact absurd h (hno j h1 hj),Qdj j⟩),<- hf]
  refine Qm1 (Qe5 ops Φ m ++ base) (fun t av e=>?_) Qd1
  rw [List.lookup_append] at e
  cases e1:(Qe5 ops Φ m).lookup t with
  | none=>
   rw [e1] at e
   exact hh.1 _ _ (by simpa using e)
  | some av'=>
   rw [e1] at e
   simp only [Option.some_or,Option.some.injEq] at e
   subst e
   have:=Qcx e1
   simp only [Qe5,List.mem_filterMap,List.mem_range] at this
   obtain ⟨j,hj,e2⟩:=this
   split at e2
   ·rename_i d hd
    obtain ⟨x,e3,e4⟩:=Option.map_eq_some_iff.1 e2
    injection e4 with e4 e5
    subst e4
    subst e5
    exact hh.2 j _ _ hj (Qdj j hj) hd e3
   cases e2
 induction fuel with
 | zero=>
  intro t listed tm hs hno hf hh hcl Qo8 Wfj
  refine full 0 t listed tm hs hno (fun j hj=>?_) (by omega) hh
  have h0:((List.range m).filter fun j=>!listed.getD j true).length=0:=by omega
  rw [List.length_eq_zero_iff,List.filter_eq_nil_iff] at h0
  simpa [isL] using h0 j (by simpa using hj)
 | succ fuel ih=>
  intro t listed tm hs hno hf hh hcl Qo8 Wfj
  by_cases Qdj:∀ j,j < m->isL listed j
  ·refine full (fuel+1) t listed tm hs hno Qdj ?_ hh
   have h0:((List.range m).filter fun j=>!listed.getD j true).length=0:=by
    rw [List.length_eq_zero_iff,List.filter_eq_nil_iff]
    intro j hj
    have:=Qdj j (by simpa using hj)
    simpa [isL] using this
   omega
  -- one comes up
  have hle:=w.le
  have Qob:∃ i,i∈Region.ready .any ops listed:=by
   have:∃ j,j < m/\¬ isL listed j:=by
    apply Classical.byContradiction
    intro hc
    exact Qdj fun j hj=>Classical.byContradiction fun hn=>hc ⟨j,hj,hn⟩
   obtain ⟨j,hj,hjn⟩:=this
   have least:∀ n j,j<=n->j < m->¬ isL listed j->∃ i,i < m/\¬ isL listed i/\∀ q,q < i->isL listed q:=by
    intro n
    induction n with
    | zero=>intro j hj hm hn;exact ⟨j,hm,hn,fun q hq=>by omega⟩
    | succ n ihn=>
     intro j hj hm hn
     by_cases hq:∀ q,q < j->isL listed q
     ·exact ⟨j,hm,hn,hq⟩
     have:∃ q,q < j/\¬ isL listed q:=by
      apply Classical.byContradiction
      intro hc
      exact hq fun q hq=>Classical.byContradiction fun hn=>hc ⟨q,hq,hn⟩
     obtain ⟨q,h1,h2⟩:=this
     exact ihn q (by omega) (by omega) h2
   obtain ⟨i,h1,h2,h3⟩:=least j j (Nat.le_refl _) hj hjn
   have hi:i < ops.size:=by omega
   refine ⟨i,Qrz (Array.getElem?_eq_getElem hi) h2 (fun e he hb=>?_)⟩
   have:=w.back i _ (Array.getElem?_eq_getElem hi) e he hb
   exact Qku (by omega) (h3 _ this)
  simp only [Region.linearise.go]
  change AK X f (.inRegion ops (match (Region.ready .any ops listed)[t % (Region.ready .any ops listed).length]? with
   | some i=>Region.linearise.go .any ops fuel (t / (Region.ready .any ops listed).length) (listed.setIfInBounds i true) [i]
   | none=>[].reverse) :: k) Q _
  have Wag:0 < (Region.ready .any ops listed).length:=by
   obtain ⟨i,hi⟩:=Qob
   exact List.length_pos_of_mem hi
  have hlt:=Nat.mod_lt t Wag
  have hL:Region.linearise.go .any ops (fuel+1) t listed []=(Region.ready .any ops listed)[t % (Region.ready .any ops listed).length] :: Region.linearise.go .any ops fuel (t / (Region.ready .any ops listed).length) (listed.setIfInBounds (Region.ready .any ops listed)[t % (Region.ready .any ops listed).length] true) []:=by
   simp only [Region.linearise.go]
   change (match (Region.ready .any ops listed)[t % (Region.ready .any ops listed).length]? with
    | some i=>Region.linearise.go .any ops fuel (t / (Region.ready .any ops listed).length) (listed.setIfInBounds i true) [i]
    | none=>[].reverse)=_
   rw [List.getElem?_eq_getElem hlt]
   simp only
   rw [linearise_go_acc]
   rfl
  rw [List.getElem?_eq_getElem hlt]
  simp only
  have Qdc:(Region.ready .any ops listed)[t % (Region.ready .any ops listed).length]∈Region.ready .any ops listed:=List.getElem_mem hlt
  generalize (Region.ready .any ops listed)[t % (Region.ready .any ops listed).length]=i at Qdc hL ⊢
  obtain ⟨h1,h2,o,h3,h4⟩:=mem_ready Qdc
  have him:i < m:=by
   rcases Nat.lt_or_ge i m with h | h
   ·exact h
   exfalso
   rcases Nat.lt_or_ge m i with h5 | h5
   ·obtain ⟨e,he,hej,hb⟩:=w.next i o h3 h5
    exact hno e.on (by omega) (by omega) (Qeq (h4 e he hb))
   have:i=m:=by omega
   subst this
   refine Qdj fun j hj=>?_
   exact Qgx hcl i _ (by omega) (fun q hq=>Qeq (Qh8 Qdc q hq)) j (w.tail o h3 j hj)
  rw [linearise_go_acc]
  have Qfb:∀ (j e:Nat),E[j]? = some e->E[j+1]? = some i->isL listed e:=fun j e he hi=>by
   rcases Wfj j e i he hi with h | h | h
   ·exact Qgx hcl i _ (by omega) (fun z hz=>Qeq (Qh8 Qdc z hz)) _ h
   ·exact h
   have:=h [] _ hL
   cases this
  have hlow2:Low E (listed.setIfInBounds i true):=fun j e e' he he' hl=>by
   rw [Qex (by omega)] at hl ⊢
   rcases hl with rfl | hl
   ·exact .inr (Qfb j e he he')
   exact .inr (Qo8 j e e' he he' hl)
  have hbef2:∀ (j e e':Nat),E[j]? = some e->E[j+1]? = some e'->e∈Qiq ops e' (Qff ops e')\/isL (listed.setIfInBounds i true) e\/Qpu e e' (Region.linearise.go .any ops fuel (t / (Region.ready .any ops listed).length) (listed.setIfInBounds i true) []):=fun j e e' he he'=>by
   rcases Wfj j e e' he he' with h | h | h
   ·exact .inl h
   ·exact .inr (.inl ((Qex (by omega)).2 (.inr h)))
   by_cases hei:e=i
   ·exact .inr (.inl ((Qex (by omega)).2 (.inl hei)))
   refine .inr (.inr fun p q hpq=>?_)
   have:=h (i :: p) q (by rw [hL,hpq];rfl)
   rcases List.mem_cons.1 this with h | h
   ·exact absurd h hei
   exact h
  refine Qm1 (Qb6 ops base Φ i ++ tm) (Qlg w him hs Qdc hh) ?_
  have Wfl:Qlh ops (listed.setIfInBounds i true):=by
   intro q hq hql j hj
   rw [Qex (by omega)] at hql ⊢
   rcases hql with rfl | hql
   ·exact .inr (Qeq (Qh8 Qdc j hj))
   exact .inr (hcl q hq hql j hj)
  have hgo:AK X f (.inRegion ops (Region.linearise.go .any ops fuel (t / (Region.ready .any ops listed).length) (listed.setIfInBounds i true) []) :: k) Q ⟨nt,Qfc (Qe1 ops i) ((Φ[i]?).join) (Qb6 ops base Φ i ++ tm),rw_ (Qd2 E (listed.setIfInBounds i true))⟩->AK X f (.inRegion ops (i :: Region.linearise.go .any ops fuel (t / (Region.ready .any ops listed).length) (listed.setIfInBounds i true) []) :: k) Q ⟨nt,Qb6 ops base Φ i ++ tm,rw_ (Qd2 E listed)⟩:=by
   by_cases hie:i∈E
   ·obtain ⟨j,hj⟩:=List.mem_iff_getElem?.1 hie
    have hjl:=(List.getElem?_eq_some_iff.1 hj).1
    have low:∀ (q e:Nat),q < j->E[q]? = some e->isL listed e:=fun q e hq he=>by
     have hpr:E[j - 1]? = some E[j - 1]:=List.getElem?_eq_getElem (by omega)
     have h5:isL listed E[j - 1]:=Qfb (j - 1) _ hpr (by rw [show j - 1+1=j by omega];exact hj)
     exact Qo8.down (j - 1 - q) q e _ he (by rw [show q+(j - 1 - q)=j - 1 by omega];exact hpr) h5
    have high:∀ (q e:Nat),j<=q->E[q]? = some e->¬ isL listed e:=fun q e hq he hl=>h2 (Qo8.down (q - j) j i e hj (by rw [show j+(q - j)=q by omega];exact he) hl)
    have e1:Qd2 E listed=j:=Qh5 (by omega) (fun q e hq he=>low q e hq he) (fun q e hq he=>by simpa [isL] using high q e hq he)
    have e2:Qd2 E (listed.setIfInBounds i true)=j+1:=Qh5 (by omega) (fun q e hq he=>(Qex (j:=e) (by omega)).2 (by
     rcases Nat.lt_or_ge q j with h | h
     ·exact .inr (low q e h he)
     ·have:q=j:=by omega
      subst this
      rw [hj] at he
      injection he with he
      exact .inl he.symm)) (fun q e hq he=>by
     have hne:e≠i:=by
      rintro rfl
      have hql:=(List.getElem?_eq_some_iff.1 he).1
      have:=List.pairwise_iff_getElem.1 hE.nodup j q hjl hql (by omega)
      rw [List.getElem?_eq_getElem hjl] at hj
      rw [List.getElem?_eq_getElem hql] at he
      injection hj with hj
      injection he with he
      exact this (hj.trans he.symm)
     have h6:=high q e (by omega) he
     have h7:¬ isL (listed.setIfInBounds i true) e:=fun h=>by
      rcases (Qex (by omega)).1 h with h | h
      ·exact hne h
      exact h6 h
     simpa [isL] using h7)
    rw [e1,e2]
    exact Qrn j i hj _ tm
   have e1:Qd2 E (listed.setIfInBounds i true)=Qd2 E listed:=by
    unfold Qd2
    congr 1
    apply List.filter_congr
    intro e he
    have:i≠e:=fun h=>hie (h▸he)
    simp [Array.getD_eq_getD_getElem?,Array.getElem?_setIfInBounds,this]
   rw [e1]
   exact hop i him hie _ (List.length_filter_le _ _) _ tm
  refine hgo ?_
  refine ih _ _ _ (by simpa using hs) ?_ ?_ ?_ Wfl hlow2 hbef2
  ·intro j hj hj2 hl
   rw [Qex (by omega)] at hl
   rcases hl with h | h
   ·omega
   exact hno j hj hj2 h
  ·have Qwm:∀ n,i < n->n<=m->((List.range n).filter fun j=>!listed.getD j true).length=((List.range n).filter fun j=>!(listed.setIfInBounds i true).getD j true).length+1:=by
    have same:∀ n,n<=i->((List.range n).filter fun j=>!listed.getD j true)=((List.range n).filter fun j=>!(listed.setIfInBounds i true).getD j true):=by
     intro n hn
     apply List.filter_congr
     intro j hj
     have hj:j < n:=by simpa using hj
     have:j≠i:=by omega
     simp [Array.getD_eq_getD_getElem?,Array.getElem?_setIfInBounds,Ne.symm this]
    intro n
    induction n with
    | zero=>intro h;omega
    | succ n ihn=>
     intro h1 h2
     rw [List.range_succ,List.filter_append,List.filter_append,List.length_append,List.length_append]
     by_cases e:i=n
     ·subst e
      rw [same i (Nat.le_refl _)]
      have a1:listed.getD i true=false:=by simpa [isL] using ‹¬ isL listed i›
      have a2:(listed.setIfInBounds i true).getD i true=true:=(Qex (j:=i) (by omega)).2 (.inl rfl)
      simp only [List.filter_cons,List.filter_nil,a1,a2]
      simp
     have:=ihn (by omega) (by omega)
     have a3:(listed.setIfInBounds i true).getD n true=listed.getD n true:=by simp [Array.getD_eq_getD_getElem?,Array.getElem?_setIfInBounds,e]
     rw [this]
     simp only [List.filter_cons,List.filter_nil,a3]
     omega
   have:=Qwm m him (Nat.le_refl _)
   omega
  refine ⟨fun t av ht=>?_,fun j d av hj hl hd hv=>?_⟩
  ·refine Qoc ?_ (fun e=>w.fresh i t him e (Qsw ht))
   have:=hh.1 t av ht
   cases hq:(Qb6 ops base Φ i).lookup t with
   | none=>rw [List.lookup_append,hq];simpa using this
   | some x=>
    have h5:=Qlg w him hs Qdc hh t x (by rw [List.lookup_append,hq];rfl)
    rw [List.lookup_append,hq,<- this,h5]
    rfl
  rw [Qex (by omega)] at hl
  rcases hl with rfl | hl
  ·rw [hd,hv]
   simp [Qfc]
  have hji:j≠i:=by rintro rfl;exact h2 hl
  refine Qoc ?_ ?_
  ·have:=hh.2 j d av hj hl hd hv
   cases hq:(Qb6 ops base Φ i).lookup d with
   | none=>rw [List.lookup_append,hq];simpa using this
   | some x=>
    have h5:=Qlg w him hs Qdc hh d x (by rw [List.lookup_append,hq];rfl)
    rw [List.lookup_append,hq,<- this,h5]
    rfl
  intro e
  rcases Nat.lt_or_ge j i with h | h
  ·exact w.apart i j d him h e hd
  exact w.apart j i d hj (by omega) hd e
def Qjr (ops:Array Oper) (m a b:Nat):List Nat->Bool
 | []=>true
 | [e]=>Nat.blt e m
 | e :: e' :: es=>Nat.blt e m && ((Qiq ops e' (Qff ops e')).contains e || (Nat.beq e a && Nat.beq e' b)) && Qjr ops m a b (e' :: es)
theorem Qt4 {a b:Nat}:∀ {E:List Nat},Qjr ops m a b E=true->(∀ e∈E,e < m)/\∀ (j e e':Nat),E[j]? = some e->E[j+1]? = some e'->e∈Qiq ops e' (Qff ops e')\/(e=a/\e'=b)
 | [],_=>⟨fun _ h=>by simp at h,fun _ _ _ h=>by simp at h⟩
 | [e],h=>⟨fun x hx=>by
   have:x=e:=by simpa using hx
   subst this
   exact Nat.le_of_ble_eq_true h,fun j _ _ _ h=>by simp at h⟩
 | e :: e' :: es,h=>by
  simp only [Qjr,Bool.and_eq_true,Bool.or_eq_true] at h
  obtain ⟨⟨h1,h3⟩,h4⟩:=h
  obtain ⟨a1,a3⟩:=Qt4 h4
  refine ⟨fun x hx=>?_,fun j x y hx hy=>?_⟩
  ·rcases List.mem_cons.1 hx with rfl | hx
   ·exact Nat.le_of_ble_eq_true h1
   exact a1 x hx
  cases j with
  | zero=>
   simp at hx hy
   subst hx
   subst hy
   rcases h3 with h3 | h3
   ·exact .inl (by simpa using h3)
   exact .inr ⟨Nat.eq_of_beq_eq_true h3.1,Nat.eq_of_beq_eq_true h3.2⟩
  | succ j=>exact a3 j x y (by simpa using hx) (by simpa using hy)
theorem Qxr (hm:X.P.follows .mixedOrders=true) (m a b:Nat) (S:List Nat) (base:List (Nat × AV)) (E1 E2:List Nat) (Φ1 Φ2:List (Option AV)) (R1 R2:List (List Row)) {st:St} (hd:Qlu k=true)
  (e:st.only S=⟨nt,base,R1.getD 0 []⟩) (e':R2.getD 0 []=R1.getD 0 []) (hck:Qja (Qdm k) m (base.map (·.1))=true) (hab:a≠b) (n1:E1.Nodup) (n2:E2.Nodup) (hch1:Qjr (Qdm k) m a b E1=true) (hch2:Qjr (Qdm k) m b a E2=true)
  (hs1:Qkf X f k.tail Q nt (Qdm k) base Φ1 E1 m R1 E1) (hs2:Qkf X f k.tail Q nt (Qdm k) base Φ2 E2 m R2 E2)
  (h21:AK X f (.inRegion (Qdm k) (List.range' m ((Qdm k).size - m)) :: k.tail) Q ⟨nt,Qe5 (Qdm k) Φ1 m ++ base,R1.getD E1.length []⟩->AK X f (.inRegion (Qdm k) (List.range' m ((Qdm k).size - m)) :: k.tail) Q ⟨nt,Qe5 (Qdm k) Φ2 m ++ base,R2.getD E2.length []⟩)
  (Qd1:AK X f (.inRegion (Qdm k) (List.range' m ((Qdm k).size - m)) :: k.tail) Q ⟨nt,Qe5 (Qdm k) Φ1 m ++ base,R1.getD E1.length []⟩):AK X f k Q st:=by
 unfold Qlu at hd
 split at hd
 ·rename_i id ops k0
  refine Qed S ?_
  rw [e]
  intro ac C hC b0 cs hb hk
  have hdr:Sim X ⟨nt,base,R1.getD 0 []⟩ ac C.drew:=⟨hC.rel.drew,hC.rows,hC.defers,hC.nt,fun i av e=>let ⟨v,h1,h2⟩:=hC.tm i av e;⟨v,h1,Ev.drew.avr h2⟩⟩
  have w:Qmx ops m (base.map (·.1)):=Qq9 hck
  have Wfr:∀ t,Region.schedule (X.P.follows .mixedOrders) ops t=Region.linearise.go .any ops ops.size t (Array.replicate ops.size false) []:=by
   intro t
   simp [Region.schedule,hm,Region.linearise]
  have hl:∀ j,j < ops.size->¬ isL (Array.replicate ops.size false) j:=by
   intro j hj
   simp [isL,Array.getD_eq_getD_getElem?,hj]
  have hle:=w.le
  have h0:((List.range m).filter fun j=>!(Array.replicate ops.size false).getD j true).length=m:=by
   rw [List.filter_eq_self.2 (fun j hj=>?_)]
   ·simp
   have hj:j < m:=by simpa using hj
   have:=hl j (by
    have:m<=ops.size:=hle
    omega)
   simpa [isL] using this
  have go:∀ (E:List Nat) (Φ:List (Option AV)) (R:List (List Row)) (x y:Nat),E.Nodup->Qjr ops m x y E=true->R.getD 0 []=R1.getD 0 []->Qkf X f k0 Q nt ops base Φ E m R E->AK X f (.inRegion ops (List.range' m (ops.size - m)) :: k0) Q ⟨nt,Qe5 ops Φ m ++ base,R.getD E.length []⟩ ->
    ∀ t,Qpu x y (Region.linearise.go .any ops ops.size t (Array.replicate ops.size false) [])->AK X f (.inRegion ops (Region.linearise.go .any ops ops.size t (Array.replicate ops.size false) []) :: k0) Q ⟨nt,base,R1.getD 0 []⟩:=by
   intro E Φ R x y hn hch hr hs hf t hah
   obtain ⟨a1,a2,a3⟩:=hs.at_
   obtain ⟨b1,b3⟩:=Qt4 hch
   have hmle:m<=ops.size:=hle
   have key:=We8 (ops:=ops) (rw_:=fun s=>R.getD s []) (E:=E) w ⟨b1,hn⟩ (fun i hi hne s hs=>a2 s hs i hi hne) a3 hf ops.size t (Array.replicate ops.size false) base (by simp) (fun j _ hj=>hl j hj) (by rw [h0];omega)
    ⟨fun _ _ h=>h,fun j d av hj h _ _=>absurd h (hl j (by omega))⟩ (fun j hj h=>absurd h (hl j hj)) (fun j u v _ hv h=>absurd h (hl v (by have:=b1 v (List.mem_of_getElem? hv);omega)))
    (fun j u v hu hv=>(b3 j u v hu hv).imp (fun h=>h) fun h=>.inr (by rw [h.1,h.2];exact hah))
   have hr0:Qd2 E (Array.replicate ops.size false)=0:=Qh5 (Nat.zero_le _) (fun i e h _=>by omega) (fun i e _ he=>by
    have:=hl e (by have:=b1 e (List.mem_of_getElem? he);omega)
    simpa [isL] using this)
   rw [hr0] at key
   simp only [hr] at key
   exact key
  have key:AK X f (.inRegion ops (Region.linearise.go .any ops ops.size (C.w.tape C.w.drawn (.order b0.fn id)) (Array.replicate ops.size false) []) :: k0) Q ⟨nt,base,R1.getD 0 []⟩:=by
   rcases Wes hab (Region.linearise.go .any ops ops.size (C.w.tape C.w.drawn (.order b0.fn id)) (Array.replicate ops.size false) []) with h | h
   ·exact go E1 Φ1 R1 a b n1 hch1 rfl hs1 Qd1 _ h
   exact go E2 Φ2 R2 b a n2 hch2 e' hs2 (h21 Qd1) _ h
  obtain ⟨C',fr,q,h1,h2⟩:=key ac C.drew hdr b0 cs hb hk
  refine ⟨C',fr,q,.head ?_ h1,h2⟩
  have:=stepR_region_draw (P:=X.P) (b:=b0) (a:=ac) (k:=k0) (cs:=cs) (w:=C.w) (ops:=ops) (id:=id)
  rw [Wfr] at this
  exact this
 cases hd
end
end Go.Sy
