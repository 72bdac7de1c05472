/- Tables: the document's answer. -/
import Derived.Test.YticmlllaimjdcaaGreatP15zA
set_option linter.unusedVariables false
set_option linter.unusedSimpArgs false
namespace Go.SyP
open Go Go.Sy Sets
theorem Wf4 {σ ρ α:Type} {step:σ->Option (σ ⊕ ρ)} {n:Nat} (st:Nat->α->σ) (I:Nat->α->Prop)
  (Xu:∀ i x,i < n->I i x->∃ y,step (st i x)=some (.inl (st (i+1) y))/\I (i+1) y):∀ i x,i<=n->I i x->∃ y,Xf step (st i x)=Xf step (st n y)/\I n y:=by
 have key:∀ m i x,i+m=n->I i x->∃ y,Xf step (st i x)=Xf step (st n y)/\I n y:=by
  intro m
  induction m with
  | zero=>
   intro i x hi hI
   obtain rfl:i=n:=by omega
   exact ⟨x,rfl,hI⟩
  | succ m ih=>
   intro i x hi hI
   obtain ⟨y,h1,h2⟩:=Xu i x (by omega) hI
   obtain ⟨z,h3,h4⟩:=ih (i+1) y (by omega) h2
   exact ⟨z,by rw [Zc,h1];exact h3,h4⟩
 exact fun i x h=>key (n - i) i x (by omega)
theorem Qnf (l:List Qa) (lo hi:Int) (hn:l.length<=5000):Yb (l.map tr) lo hi=some (Qfp l lo hi):=by
 unfold Yb Qfp
 have e:Xf (Yb.step (l.map tr)) (.l1 0)=some (prs l):=by
  obtain ⟨r,h1,h2⟩:∃ r,Xf (Yb.step (l.map tr)) (.l1 0)=some r/\(r=true↔∀ x∈l,okP x):=by
   refine Qbi (n:=l.length) (fun i (_:Unit)=>Yb.S.l1 (i:Int)) (fun i _=>∀ x∈l.take i,okP x) _ ?_ ?_ 0 () (Nat.zero_le _) (by simp)
   ·intro _ h
    rw [Qa3 (Nat.le_refl _)] at h
    exact ⟨true,by simp [Yb.step,Yb.l1],by simpa using h⟩
   intro i _ hi h
   have Xu:(0:Int)<=(i:Int)/\(i:Int) < (l.length:Int):=by omega
   have hx:=Qd2 (l:=l) (z:=Qa.z) hi
   have hin:l.getD (i:Int).toNat Qa.z∈l:=by
    show l.getD i Qa.z∈l
    simp [List.getD_eq_getElem?_getD,hi]
   simp only [Yb.step,Yb.l1,Yb.j2,List.length_map,Xu.2,if_true,Xu,and_self,Qn8 l hi,wr1 hi (by omega:l.length<=9223372036854775807),Qrc]
   generalize l.getD (i:Int).toNat Qa.z=X at hx hin ⊢
   by_cases ho:okP X
   ·obtain ⟨o1,o2,o3,o4⟩:=id ho
    left
    refine ⟨(), ?_, ?_⟩
    ·rw [if_neg (show ¬ (tr X).Key < 0 by show ¬ X.Key < 0;omega),if_neg (show ¬ (tr X).Key > 4095 by show ¬ X.Key > 4095;omega)]
     have:Qlo (tr X).Val=true:=by
      show (decide (_<=X.Val) && decide (X.Val<=_))=true
      rw [decide_eq_true o3,decide_eq_true o4];rfl
     rw [this]
     rfl
    rw [hx]
    intro x hxm
    rcases List.mem_append.1 hxm with hm | hm
    ·exact h x hm
    simp at hm;subst hm;exact ho
   right
   refine ⟨false, ?_, ?_⟩
   ·by_cases h1:(tr X).Key < 0
    ·rw [if_pos h1]
    by_cases h2:(tr X).Key > 4095
    ·rw [if_neg h1,if_pos h2]
    have:Qlo (tr X).Val=false:=by
     cases hv:Qlo (tr X).Val with
     | false=>rfl
     | true=>
      have hv:(decide (-1099511627776<=X.Val) && decide (X.Val<=1099511627776))=true:=hv
      simp only [tr,Bool.and_eq_true,decide_eq_true_eq] at hv h1 h2
      exact absurd ⟨by omega,by omega,hv.1,hv.2⟩ ho
    rw [if_neg h1,if_neg h2,this]
    rfl
   simp only [Bool.false_eq_true,false_iff]
   exact fun hh=>ho (hh X hin)
  rw [h1]
  congr 1
  rw [Bool.eq_iff_iff,h2,Qvi]
 simp only [Yb.j1,e,List.length_map]
 by_cases h1:(l.length:Int) < lo
 ·rw [if_pos h1,decide_eq_false (show ¬ lo<=(l.length:Int) by omega)]
  rfl
 rw [if_neg h1,decide_eq_true (show lo<=(l.length:Int) by omega)]
 by_cases h2:(l.length:Int) > hi
 ·rw [decide_eq_true h2,decide_eq_false (show ¬ (l.length:Int)<=hi by omega)]
  rfl
 rw [decide_eq_false h2,decide_eq_true (show (l.length:Int)<=hi by omega)]
 rfl
theorem Qzc (m:We) (hn:m.Pairs.length<=5000):Xf (Wi.step (trM m)) (.l1 1)=some (Qfp m.Pairs 1 8 && decide (Up m.Pairs)):=by
 rcases Nat.eq_zero_or_pos m.Pairs.length with h0 | h0
 ·rw [Zc]
  simp only [Wi.step,Wi.l1]
  rw [if_neg (by simp [trM];omega),show (trM m).Pairs=m.Pairs.map tr from rfl,Qnf _ _ _ hn]
  have:m.Pairs=[]:=List.length_eq_zero_iff.1 h0
  rw [this]
  rfl
 obtain ⟨r,e1,e2⟩:∃ r,Xf (Wi.step (trM m)) (.l1 ((1:Nat):Int))=some r/\r=(Qfp m.Pairs 1 8 && decide (Up m.Pairs)):=by
  refine Qbi (n:=m.Pairs.length) (fun i (_:Unit)=>Wi.S.l1 (i:Int)) (fun i _=>0 < i/\Up (m.Pairs.take i)) _ ?_ ?_ 1 () (by omega) ⟨by omega,by
   rw [take_at (z:=Qa.z) h0]
   simp [Up]⟩
  ·rintro _ ⟨_,h⟩
   rw [Qa3 (Nat.le_refl _)] at h
   refine ⟨_, ?_,rfl⟩
   simp only [Wi.step,Wi.l1,show (trM m).Pairs=m.Pairs.map tr from rfl,List.length_map,Int.lt_irrefl,if_false,Qnf _ _ _ hn,Option.bind_some,decide_eq_true h,Bool.and_true]
  rintro i _ hi ⟨hp,h⟩
  have hw:IntKind.wrap .i64 ((i:Int) - 1)=((i - 1:Nat):Int):=by rw [wr (by omega)];omega
  simp only [Wi.step,Wi.l1,show (trM m).Pairs=m.Pairs.map tr from rfl,List.length_map,hw,Qn8 m.Pairs hi,Qn8 m.Pairs (i:=i - 1) (by omega)]
  rw [if_pos (by omega),if_pos (by omega),if_pos (by omega),wr1 hi (by omega:m.Pairs.length<=9223372036854775807)]
  have hm:=Waz hp hi h
  rw [show ((i - 1:Nat):Int).toNat=i - 1 from rfl,show ((i:Nat):Int).toNat=i from rfl]
  by_cases hc:(tr (m.Pairs.getD (i - 1) Qa.z)).Key>=(tr (m.Pairs.getD i Qa.z)).Key
  ·right
   refine ⟨false,by rw [if_pos hc], ?_⟩
   have:¬ Up m.Pairs:=by
    intro hu
    rw [<- List.take_append_drop (i+1) m.Pairs] at hu
    have:=hm.1 (Qvp hu)
    simp only [tr] at hc
    omega
   rw [decide_eq_false this,Bool.and_false]
  left
  exact ⟨(),by rw [if_neg hc],by omega,hm.2 (by simp only [tr] at hc;omega)⟩
 rw [show ((1:Nat):Int)=1 from rfl] at e1
 rw [e1,e2]
theorem Qne (m:We) (hn:m.Pairs.length<=5000):Wi (trM m)=some (mOk m):=by
 have hp:∀ lo hi,Yb (trM m).Pairs lo hi=some (Qfp m.Pairs lo hi):=fun lo hi=>Qnf _ _ _ hn
 have hl:((trM m).Pairs.length:Int)=(m.Pairs.length:Int):=by simp [trM]
 have hk:(trM m).Kind=m.Kind:=rfl
 have ho:(trM m).Old=m.Old:=rfl
 have h1o:(trM m).Over.Lo=m.Over.Lo:=rfl
 have h2o:(trM m).Over.Hi=m.Over.Hi:=rfl
 have j3:∀ b,Wi.j3 (trM m) b=some (!b && (if m.Kind=4 then Qfp m.Pairs 1 1 && (Qlo m.Old || decide (m.Old=1099511627777))
  else decide (m.Old=0) &&
   (if m.Kind=1 then Qfp m.Pairs 1 8 && decide (Up m.Pairs)
   else if m.Kind=3 then Qfp m.Pairs 1 1
   else if m.Kind=5 then Qfp m.Pairs 2 2 && (decide ((m.Pairs.getD 0 Qa.z).Key≠(m.Pairs.getD 1 Qa.z).Key) && (decide ((m.Pairs.getD 0 Qa.z).Val=(m.Pairs.getD 1 Qa.z).Val) && decide ((m.Pairs.getD 0 Qa.z).Val>=0)))
   else false))):=by
  intro b
  unfold Wi.j3
  cases b with
  | true=>rfl
  | false=>
   rw [if_neg (by decide),Bool.not_false,Bool.true_and]
   simp only [hp,hk,ho,Option.bind_some,Qrc,Wi.j4,Wi.j5,Qzc m hn,hl]
   by_cases k4:m.Kind=4
   ·rw [if_pos k4,if_pos k4]
    cases Qfp m.Pairs 1 1<;>cases Qlo m.Old<;>first | rfl | simp
   rw [if_neg k4,if_neg k4]
   by_cases h0:m.Old=0
   ·rw [if_pos h0,decide_eq_true h0,Bool.true_and]
    by_cases k1:m.Kind=1
    ·rw [if_pos k1,if_pos k1]
    rw [if_neg k1,if_neg k1]
    by_cases k3:m.Kind=3
    ·rw [if_pos k3,if_pos k3]
    rw [if_neg k3,if_neg k3]
    by_cases k5:m.Kind=5
    ·rw [if_pos k5,if_pos k5]
     cases hp:Qfp m.Pairs 2 2 with
     | false=>simp
     | true=>
      have hln:=Qto hp
      rw [if_pos rfl,if_pos (by omega),if_pos (by omega)]
      have g0:(trM m).Pairs.getD 0 Qg.z=tr (m.Pairs.getD 0 Qa.z):=Qn8 m.Pairs (i:=0) (by omega)
      have g1:(trM m).Pairs.getD 1 Qg.z=tr (m.Pairs.getD 1 Qa.z):=Qn8 m.Pairs (i:=1) (by omega)
      rw [g0,g1]
      generalize m.Pairs.getD 0 Qa.z=P0
      generalize m.Pairs.getD 1 Qa.z=P1
      by_cases h1:(tr P0).Key=(tr P1).Key
      ·rw [if_pos h1]
       have h1:P0.Key=P1.Key:=h1
       simp [h1]
      rw [if_neg h1]
      have h1:¬ P0.Key=P1.Key:=h1
      by_cases h2:(tr P0).Val=(tr P1).Val
      ·rw [if_pos h2]
       have h2:P0.Val=P1.Val:=h2
       simp [h1,h2,tr]
      rw [if_neg h2]
      have h2:¬ P0.Val=P1.Val:=h2
      simp [h2]
    rw [if_neg k5,if_neg k5]
   rw [if_neg h0,decide_eq_false h0,Bool.false_and]
 have j1:∀ b,Wi.j1 (trM m) b=some (!b && Qnz m):=by
  intro b
  unfold Wi.j1 Qnz
  cases b with
  | true=>rfl
  | false=>
   rw [if_neg (by decide),Bool.not_false,Bool.true_and]
   simp only [hk,ho,h1o,h2o,hl,j3,Qfk,Wi.j2]
   by_cases k2:m.Kind=2
   ·rw [if_pos k2,if_pos k2]
    by_cases h1:m.Pairs.length=0
    ·rw [if_pos (by omega),decide_eq_true h1]
     by_cases h2:m.Old=0
     ·rw [if_pos h2,decide_eq_true h2];rfl
     rw [if_neg h2,decide_eq_false h2];rfl
    rw [if_neg (by omega),decide_eq_false h1];rfl
   rw [if_neg k2,if_neg k2]
   by_cases h1:m.Over.Lo=0
   ·rw [if_pos h1,decide_eq_true h1]
    by_cases h2:m.Over.Hi=0
    ·simp [h2]
    simp [h2]
   rw [if_neg h1,decide_eq_false h1];rfl
 unfold Wi
 simp only [j1,show (trM m).Client=m.Client from rfl,show (trM m).Seq=m.Seq from rfl,mOk]
 by_cases h1:m.Client < 1
 ·rw [if_pos h1,decide_eq_false (p:=1<=m.Client/\m.Client<=1048576) (by omega)];rfl
 by_cases h2:m.Client > 1048576
 ·rw [if_neg h1,if_pos h2,decide_eq_false (p:=1<=m.Client/\m.Client<=1048576) (by omega)];rfl
 rw [if_neg h1,if_neg h2,decide_eq_true (p:=1<=m.Client/\m.Client<=1048576) (by omega)]
 by_cases h3:m.Seq < 1
 ·rw [if_pos h3,decide_eq_false (p:=1<=m.Seq/\m.Seq<=1073741824) (by omega)];rfl
 rw [if_neg h3]
 by_cases h4:m.Seq > 1073741824
 ·rw [decide_eq_true h4,decide_eq_false (p:=1<=m.Seq/\m.Seq<=1073741824) (by omega)];rfl
 rw [decide_eq_false h4,decide_eq_true (p:=1<=m.Seq/\m.Seq<=1073741824) (by omega)];rfl
def Qh6 (m:We) (k:Int):Bool:=if m.Kind=2 then decide (m.Over.Lo<=k) && decide (k < m.Over.Hi) else (look m.Pairs k).isSome
def within (v:Int):Int:=if v > 1099511627776 then 1099511627776 else if v < -1099511627776 then -1099511627776 else v
theorem Qrj (v:Int):-1099511627776<=within v/\within v<=1099511627776:=by
 unfold within
 split
 ·omega
 split<;>omega
def Qkg (m:We) (k:Int) (c:Option Int):Option (Option Int):=
 if m.Kind=2 then some none
 else if m.Kind=3 then (if c.getD 0+(m.Pairs.getD 0 Qa.z).Val < 0\/c.getD 0+(m.Pairs.getD 0 Qa.z).Val > 1099511627776 then none else some (some (c.getD 0+(m.Pairs.getD 0 Qa.z).Val)))
 else if m.Kind=4 then (if c.getD 1099511627777=m.Old then some (some (m.Pairs.getD 0 Qa.z).Val) else none)
 else if m.Kind=5 then (if k=(m.Pairs.getD 0 Qa.z).Key then some (some (within (c.getD 0 - (m.Pairs.getD 0 Qa.z).Val))) else some (some (within (c.getD 0+(m.Pairs.getD 0 Qa.z).Val))))
 else some (match look m.Pairs k with | some v=>some v | none=>c)
structure Wa6 (m:We):Prop where
 ok:∀ x∈m.Pairs,okP x
 len:m.Pairs.length<=8
 del:m.Kind=2->m.Pairs=[]
 put:m.Kind=1->Up m.Pairs
 one:m.Kind=3\/m.Kind=4->∃ p,m.Pairs=[p]
 two:m.Kind=5->∃ p q,m.Pairs=[p,q]/\p.Key≠q.Key/\p.Val=q.Val
 kind:m.Kind=1\/m.Kind=2\/m.Kind=3\/m.Kind=4\/m.Kind=5
 Qtn:m.Kind=2->Ok (pa m.Over)
theorem Qxk {m:We} (h:mOk m=true):Wa6 m:=by
 unfold mOk at h
 simp only [Bool.and_eq_true,decide_eq_true_eq] at h
 have hk:=h.2
 clear h
 unfold Qnz at hk
 have hp:∀ {lo hi},Qfp m.Pairs lo hi=true->(∀ x∈m.Pairs,okP x)/\lo<=(m.Pairs.length:Int)/\(m.Pairs.length:Int)<=hi:=fun h=>by
  have h2:=Qto h
  unfold Qfp at h
  simp only [Bool.and_eq_true] at h
  exact ⟨Qvi.1 h.2,h2⟩
 by_cases k2:m.Kind=2
 ·rw [if_pos k2] at hk
  simp only [Bool.and_eq_true,decide_eq_true_eq] at hk
  have e:=List.length_eq_zero_iff.1 hk.1.1
  exact ⟨by simp [e],by simp [e],fun _=>e,fun h=>by omega,fun h=>by omega,fun h=>by omega,by omega,fun _=>hk.2⟩
 rw [if_neg k2] at hk
 simp only [Bool.and_eq_true,decide_eq_true_eq] at hk
 have hk:=hk.2
 by_cases k4:m.Kind=4
 ·rw [if_pos k4] at hk
  simp only [Bool.and_eq_true] at hk
  have h:=hp hk.1
  have:∃ p,m.Pairs=[p]:=List.length_eq_one_iff.1 (by omega)
  exact ⟨h.1,by omega,fun h=>by omega,fun h=>by omega,fun _=>this,fun h=>by omega,by omega,fun h=>by omega⟩
 rw [if_neg k4] at hk
 simp only [Bool.and_eq_true,decide_eq_true_eq] at hk
 have hk:=hk.2
 by_cases k1:m.Kind=1
 ·rw [if_pos k1] at hk
  simp only [Bool.and_eq_true,decide_eq_true_eq] at hk
  have h:=hp hk.1
  exact ⟨h.1,by omega,fun h=>by omega,fun _=>hk.2,fun h=>by omega,fun h=>by omega,by omega,fun h=>by omega⟩
 rw [if_neg k1] at hk
 by_cases k3:m.Kind=3
 ·rw [if_pos k3] at hk
  have h:=hp hk
  have:∃ p,m.Pairs=[p]:=List.length_eq_one_iff.1 (by omega)
  exact ⟨h.1,by omega,fun h=>by omega,fun h=>by omega,fun _=>this,fun h=>by omega,by omega,fun h=>by omega⟩
 rw [if_neg k3] at hk
 by_cases k5:m.Kind=5
 ·rw [if_pos k5] at hk
  simp only [Bool.and_eq_true,decide_eq_true_eq] at hk
  have h:=hp hk.1
  refine ⟨h.1,by omega,fun h=>by omega,fun h=>by omega,fun h=>by omega,fun _=>?_,by omega,fun h=>by omega⟩
  match hm:m.Pairs,h.2 with
  | [p,q],_=>
   rw [hm] at hk
   exact ⟨p,q,rfl,hk.2.1,hk.2.2.1⟩
  | [],h=>simp at h
  | [p],h=>simp at h
  | p :: q :: r :: l,h=>simp at h;omega
 rw [if_neg k5] at hk
 cases hk
end Go.SyP
namespace Go.SyP
open Go Go.Sy Sets
def Ql4 (l:List Qa) (m:We) (on:List Qb) (k:Int):Option (Option Int):=if Qh6 m k && hasB on k then Qkg m k (look l k) else some (look l k)
structure Qiw (l:List Qa) (m:We) (on:List Qb) (r:List Qa × Bool):Prop where
 done:r.2=true->Up r.1/\∀ j,Ql4 l m on j=some (look r.1 j)
 fail:r.2=false->r.1=l/\∃ k,Ql4 l m on k=none
theorem Qiw.unique {l:List Qa} {m:We} {on:List Qb} {r s:List Qa × Bool} (h:Qiw l m on r) (h':Qiw l m on s):r=s:=by
 obtain ⟨a,x⟩:=r
 obtain ⟨b,y⟩:=s
 cases x with
 | true=>
  obtain ⟨h1,h2⟩:=h.done rfl
  cases y with
  | true=>
   obtain ⟨h3,h4⟩:=h'.done rfl
   have:a=b:=Up.unique h1 h3 fun k=>by
    have:=(h2 k).symm.trans (h4 k)
    injection this
   rw [this]
  | false=>
   obtain ⟨_,k,h4⟩:=h'.fail rfl
   rw [h2 k] at h4
   cases h4
 | false=>
  obtain ⟨h1,k,h2⟩:=h.fail rfl
  cases y with
  | true=>
   obtain ⟨h3,h4⟩:=h'.done rfl
   rw [h4 k] at h2
   cases h2
  | false=>
   obtain ⟨h3,_⟩:=h'.fail rfl
   simp only at h1 h3
   rw [h1,h3]
end Go.SyP
