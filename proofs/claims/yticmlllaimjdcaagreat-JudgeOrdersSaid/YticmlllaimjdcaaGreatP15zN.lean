/- Pairs of a set; the same mutations; how stamps stand in the document. -/
import Derived.Test.YticmlllaimjdcaaGreatP15zTC
set_option linter.unusedVariables false
set_option linter.unusedSimpArgs false
namespace Go.SyP
open Go Go.Sy Sets
def clip (l:List Qa) (on:List Qb):List Qa:=l.filter fun x=>hasB on x.Key
theorem Wid (l:List Qa) (on:List Qb):(clip l on).length<=l.length:=List.length_filter_le _ _
theorem Wd4 {l:List Qa} {on:List Qb} (hl:l.length<=5000) (ho:on.length<=5000) (ht:Tb l) (hs:SOk on):Qap l on=some (clip l on):=by
 obtain ⟨r1,c1,c2⟩:=Qjv l (by omega)
 obtain ⟨r2,c3,c4⟩:=Wbe on ho
 unfold Qap
 rw [c1,Option.bind_some,if_pos (c2.2 ht),c3,Option.bind_some,c4.2 hs]
 unfold Qap.j1
 rw [if_neg (by decide)]
 obtain ⟨r,e1,e2⟩:∃ r,Xf (Qap.step l on) (.l1 0 [])=some r/\r=clip l on:=by
  refine Qbi (n:=l.length) (fun i x=>Qap.S.l1 (i:Int) x) (fun i x=>x=clip (l.take i) on) _ ?_ ?_ 0 [] (Nat.zero_le _) rfl
  ·rintro x rfl
   rw [Qa3 (Nat.le_refl _)]
   exact ⟨_,by simp [Qap.step,Qap.l1],rfl⟩
  rintro i x hi rfl
  left
  have Xu:(0:Int)<=(i:Int)/\(i:Int) < (l.length:Int):=by omega
  have hx:=take_at (l:=l) (z:=Qa.z) hi
  have hlen:(clip (l.take i) on).length<=i:=by
   have:=Wid (l.take i) on
   rw [List.length_take] at this
   omega
  simp only [Qap.step,Qap.l1,Qap.j2,Xu.2,if_true,Xu,and_self,show (i:Int).toNat=i from rfl,has_eq on ho,Option.bind_some,wr1 hi (by omega:l.length<=9223372036854775807)]
  rw [hx]
  unfold clip at hlen ⊢
  rw [List.filter_append,List.filter_cons,List.filter_nil]
  by_cases hh:hasB on (l.getD i Qa.z).Key=true
  ·rw [if_pos hh,if_pos hh,if_pos (by omega)]
   exact ⟨_,rfl,rfl⟩
  rw [if_neg hh,if_neg hh,List.append_nil]
  exact ⟨_,rfl,rfl⟩
 rw [e1,e2]
theorem Wii (x y:List Qa) (hn:x.length<=5000):∃ r,Js x y=some r/\(r=true↔x=y):=by
 unfold Js
 by_cases hl:(x.length:Int)=(y.length:Int)
 ·rw [if_pos hl]
  refine Qbi (n:=x.length) (fun i (_:Unit)=>Js.S.l1 (i:Int)) (fun i _=>x.take i=y.take i) _ ?_ ?_ 0 () (Nat.zero_le _) (by simp)
  ·intro _ h
   rw [Qa3 (Nat.le_refl _),Qa3 (by omega)] at h
   exact ⟨true,by simp [Js.step,Js.l1],by simp [h]⟩
  intro i _ hi h
  have Xu:(0:Int)<=(i:Int)/\(i:Int) < (x.length:Int):=by omega
  have Qyr:(0:Int)<=(i:Int)/\(i:Int) < (y.length:Int):=by omega
  have hx:=Qd2 (l:=x) (z:=Qa.z) hi
  have hy:=Qd2 (l:=y) (z:=Qa.z) (i:=i) (by omega)
  simp only [Js.step,Js.l1,Xu.2,if_true,Xu,Qyr,and_self,wr1 hi (by omega:x.length<=9223372036854775807)]
  generalize x.getD (i:Int).toNat Qa.z=X at hx ⊢
  generalize y.getD (i:Int).toNat Qa.z=Y at hy ⊢
  by_cases hXY:X=Y
  ·left
   subst hXY
   exact ⟨(),by simp,by rw [hx,hy,h]⟩
  right
  have hne:x≠y:=by
   rintro rfl
   rw [hx] at hy
   exact hXY (by simpa using hy)
  refine ⟨false, ?_,by simp [hne]⟩
  by_cases h1:X.Key=Y.Key
  ·by_cases h2:X.Val=Y.Val
   ·exact absurd (by cases X;cases Y;simp only at h1 h2;subst h1;subst h2;rfl) hXY
   rw [if_pos h1,if_neg h2]
  rw [if_neg h1]
  split<;>rfl
 rw [if_neg hl]
 exact ⟨false,rfl,by simp;rintro rfl;exact hl rfl⟩
theorem Qw7 (a b:Xe) (hn:a.Pairs.length<=5000) (hl:a.Pairs.length=b.Pairs.length):∃ r,Xf (Ya.step a b) (.l1 0)=some r/\(r=true↔a.Pairs=b.Pairs):=by
 refine Qbi (n:=a.Pairs.length) (fun i (_:Unit)=>Ya.S.l1 (i:Int)) (fun i _=>a.Pairs.take i=b.Pairs.take i) _ ?_ ?_ 0 () (Nat.zero_le _) (by simp)
 ·intro _ h
  rw [Qa3 (Nat.le_refl _),Qa3 (by omega)] at h
  exact ⟨true,by simp [Ya.step,Ya.l1],by simp [h]⟩
 intro i _ hi h
 have Xu:(0:Int)<=(i:Int)/\(i:Int) < (a.Pairs.length:Int):=by omega
 have Qyr:(0:Int)<=(i:Int)/\(i:Int) < (b.Pairs.length:Int):=by omega
 have hx:=Qd2 (l:=a.Pairs) (z:=Qg.z) hi
 have hy:=Qd2 (l:=b.Pairs) (z:=Qg.z) (i:=i) (by omega)
 simp only [Ya.step,Ya.l1,Xu.2,if_true,Xu,Qyr,and_self,wr1 hi (by omega:a.Pairs.length<=9223372036854775807)]
 generalize a.Pairs.getD (i:Int).toNat Qg.z=X at hx ⊢
 generalize b.Pairs.getD (i:Int).toNat Qg.z=Y at hy ⊢
 by_cases hXY:X=Y
 ·left
  subst hXY
  exact ⟨(),by simp,by rw [hx,hy,h]⟩
 right
 have hne:a.Pairs≠b.Pairs:=by
  intro e
  rw [e] at hx h
  rw [hx] at hy
  exact hXY (by simpa using hy)
 refine ⟨false, ?_,by simp [hne]⟩
 by_cases h1:X.Key=Y.Key
 ·by_cases h2:X.Val=Y.Val
  ·exact absurd (by cases X;cases Y;simp only at h1 h2;subst h1;subst h2;rfl) hXY
  rw [if_pos h1,if_neg h2]
 rw [if_neg h1]
 split<;>rfl
theorem Waq {a b:We}:a=b↔a.Client=b.Client/\a.Seq=b.Seq/\a.Kind=b.Kind/\a.Over.Lo=b.Over.Lo/\a.Over.Hi=b.Over.Hi/\a.Old=b.Old/\a.Pairs=b.Pairs:=by
 constructor
 ·rintro rfl;exact ⟨rfl,rfl,rfl,rfl,rfl,rfl,rfl⟩
 rintro ⟨h1,h2,h3,h4,h5,h6,h7⟩
 cases a;cases b
 rename_i o1 _ _ _ _ _ o2 _
 cases o1;cases o2
 simp only at h1 h2 h3 h4 h5 h6 h7
 rw [h1,h2,h3,h4,h5,h6,h7]
theorem Qy1 {a b:Xe}:a=b↔a.Client=b.Client/\a.Seq=b.Seq/\a.Kind=b.Kind/\a.Over.Lo=b.Over.Lo/\a.Over.Hi=b.Over.Hi/\a.Old=b.Old/\a.Pairs=b.Pairs:=by
 constructor
 ·rintro rfl;exact ⟨rfl,rfl,rfl,rfl,rfl,rfl,rfl⟩
 rintro ⟨h1,h2,h3,h4,h5,h6,h7⟩
 cases a;cases b
 rename_i o1 _ _ _ _ _ o2 _
 cases o1;cases o2
 simp only at h1 h2 h3 h4 h5 h6 h7
 rw [h1,h2,h3,h4,h5,h6,h7]
theorem Qzw (a b:We) (hn:a.Pairs.length<=5000):∃ r,Qdh a b=some r/\(r=true↔a=b):=by
 unfold Qdh Qdh.j1
 rw [Waq]
 by_cases h1:a.Client=b.Client
 ·by_cases h2:a.Seq=b.Seq
  ·by_cases h3:a.Kind=b.Kind
   ·by_cases h4:a.Over.Lo=b.Over.Lo
    ·by_cases h5:a.Over.Hi=b.Over.Hi
     ·by_cases h6:a.Old=b.Old
      ·obtain ⟨r,e1,e2⟩:=Wii a.Pairs b.Pairs hn
       rw [if_pos h1,if_pos h2,if_pos h3,if_pos h4,if_pos h5,if_pos h6,e1]
       exact ⟨r,rfl,by rw [e2];simp [h1,h2,h3,h4,h5,h6]⟩
      exact ⟨false,by rw [if_pos h1,if_pos h2,if_pos h3,if_pos h4,if_pos h5,if_neg h6],by simp [h6]⟩
     exact ⟨false,by rw [if_pos h1,if_pos h2,if_pos h3,if_pos h4,if_neg h5],by simp [h5]⟩
    exact ⟨false,by rw [if_pos h1,if_pos h2,if_pos h3,if_neg h4];split<;>rfl,by simp [h4]⟩
   exact ⟨false,by rw [if_pos h1,if_pos h2,if_neg h3],by simp [h3]⟩
  exact ⟨false,by rw [if_pos h1,if_neg h2],by simp [h2]⟩
 exact ⟨false,by rw [if_neg h1],by simp [h1]⟩
theorem Qs0 (a b:Xe) (hn:a.Pairs.length<=5000):∃ r,Ya a b=some r/\(r=true↔a=b):=by
 unfold Ya
 rw [Qy1]
 have jt:Ya.j1 a b true=some false:=rfl
 by_cases h1:a.Client=b.Client
 ·by_cases h2:a.Seq=b.Seq
  ·by_cases h3:a.Kind=b.Kind
   ·by_cases h4:a.Over.Lo=b.Over.Lo
    ·by_cases h5:a.Over.Hi=b.Over.Hi
     ·by_cases h6:a.Old=b.Old
      ·rw [if_pos h1,if_pos h2,if_pos h3,if_pos h4,if_pos h5,if_pos h6]
       by_cases hl:a.Pairs.length=b.Pairs.length
       ·rw [show ((a.Pairs.length:Int) != (b.Pairs.length:Int))=false by simp [hl]]
        obtain ⟨r,e1,e2⟩:=Qw7 a b hn hl
        exact ⟨r,e1,by rw [e2];simp [h1,h2,h3,h4,h5,h6]⟩
       rw [show ((a.Pairs.length:Int) != (b.Pairs.length:Int))=true by simp;omega]
       exact ⟨false,jt,by simp;intro _ _ _ _ _ _ h;exact hl (by rw [h])⟩
      exact ⟨false,by rw [if_pos h1,if_pos h2,if_pos h3,if_pos h4,if_pos h5,if_neg h6,jt],by simp [h6]⟩
     exact ⟨false,by rw [if_pos h1,if_pos h2,if_pos h3,if_pos h4,if_neg h5,jt],by simp [h5]⟩
    exact ⟨false,by rw [if_pos h1,if_pos h2,if_pos h3,if_neg h4,jt];split<;>rfl,by simp [h4]⟩
   exact ⟨false,by rw [if_pos h1,if_pos h2,if_neg h3,jt],by simp [h3]⟩
  exact ⟨false,by rw [if_pos h1,if_neg h2,jt],by simp [h2]⟩
 exact ⟨false,by rw [if_neg h1,jt],by simp [h1]⟩
theorem Wky {a b:We}:trM a=trM b↔a=b:=by
 rw [Qy1,Waq]
 unfold trM
 simp only
 constructor
 ·rintro ⟨h1,h2,h3,h4,h5,h6,h7⟩;exact ⟨h1,h2,h3,h4,h5,h6,Wmb h7⟩
 rintro ⟨h1,h2,h3,h4,h5,h6,h7⟩;exact ⟨h1,h2,h3,h4,h5,h6,by rw [h7]⟩
theorem Wao (a b:Jk):ltS a b↔(if a.Time=b.Time then (if a.Client=b.Client then a.Seq < b.Seq else a.Client < b.Client) else a.Time < b.Time):=by
 unfold ltS
 split
 ·split<;>omega
 omega
theorem Qs2 {a b:Jk} (h:ltS a b):Qa6 ⟨a.Time,a.Client,a.Seq⟩ ⟨b.Time,b.Client,b.Seq⟩=true:=by
 rw [Wao] at h
 unfold Qa6
 by_cases h1:a.Time=b.Time
 ·rw [if_pos h1] at h ⊢
  by_cases h2:a.Client=b.Client
  ·rw [if_pos h2] at h ⊢;exact decide_eq_true h
  rw [if_neg h2] at h ⊢;exact decide_eq_true h
 rw [if_neg h1] at h ⊢;exact decide_eq_true h
theorem Qqd {a b:Jk} (h:¬ ltS a b):Qa6 ⟨a.Time,a.Client,a.Seq⟩ ⟨b.Time,b.Client,b.Seq⟩=false:=by
 rw [Wao] at h
 unfold Qa6
 by_cases h1:a.Time=b.Time
 ·rw [if_pos h1] at h ⊢
  by_cases h2:a.Client=b.Client
  ·rw [if_pos h2] at h ⊢;exact decide_eq_false h
  rw [if_neg h2] at h ⊢;exact decide_eq_false h
 rw [if_neg h1] at h ⊢;exact decide_eq_false h
end Go.SyP
namespace Go.SyP
open Go Go.Sy Sets
theorem Qim {σ:Type} {step:σ->Option (σ ⊕ Bool)} {n:Nat} (st:Nat->σ) (Q:Nat->Prop) {E:Prop} (Qj8:∃ r,Xf step (st n)=some r/\(r=true↔E))
  (Xu:∀ i,i < n->(step (st i)=some (.inl (st (i+1)))/\Q i)\/(step (st i)=some (.inr false)/\¬ Q i)):
  ∃ r,Xf step (st 0)=some r/\(r=true↔(∀ i,i < n->Q i)/\E):=by
 have key:∀ m i,i+m=n->∃ r,Xf step (st i)=some r/\(r=true↔(∀ j,i<=j->j < n->Q j)/\E):=by
  intro m
  induction m with
  | zero=>
   intro i hi
   obtain rfl:i=n:=by omega
   obtain ⟨r,h1,h2⟩:=Qj8
   exact ⟨r,h1,h2.trans ⟨fun h=>⟨fun j h3 h4=>by omega,h⟩,fun h=>h.2⟩⟩
  | succ m ih=>
   intro i hi
   rcases Xu i (by omega) with ⟨h1,h2⟩ | ⟨h1,h2⟩
   ·obtain ⟨r,h3,h4⟩:=ih (i+1) (by omega)
    refine ⟨r,by rw [Zc,h1];exact h3,h4.trans ⟨fun h=>⟨fun j h5 h6=>?_,h.2⟩,fun h=>⟨fun j h5 h6=>h.1 j (by omega) h6,h.2⟩⟩⟩
    by_cases hj:j=i
    ·rw [hj];exact h2
    exact h.1 j (by omega) h6
   exact ⟨false,by rw [Zc,h1];rfl,by simp;exact fun h=>absurd (h i (Nat.le_refl _) (by omega)) h2⟩
 obtain ⟨r,h1,h2⟩:=key n 0 (by omega)
 exact ⟨r,h1,h2.trans ⟨fun h=>⟨fun i hi=>h.1 i (Nat.zero_le _) hi,h.2⟩,fun h=>⟨fun i _ hi=>h.1 i hi,h.2⟩⟩⟩
theorem Qnc {α β:Type} (f:α->β) (l:List α) {z:α} {y:β} {i:Nat} (hi:i < l.length):(l.map f).getD i y=f (l.getD i z):=by
 simp [List.getD_eq_getElem?_getD,hi]
theorem Ql8 {α:Type} {l:List α} {z:α} {p:α->Prop}:(∀ i,i < l.length->p (l.getD i z))↔∀ x∈l,p x:=by
 constructor
 ·intro h x hx
  obtain ⟨i,hi,rfl⟩:=List.getElem_of_mem hx
  have:=h i hi
  simpa [List.getD_eq_getElem?_getD,hi] using this
 intro h i hi
 exact h _ (Qbo hi)
theorem Qk4 {α β:Type} (f:α->β):∀ (l:List α) (x:List β),l.foldl (fun x s=>x ++ [f s]) x=x ++ l.map f
 | [],x=>by simp
 | s :: l,x=>by rw [List.foldl_cons,Qk4 f l];simp
structure Qik (c:Qm):Prop where
 held:c.Held.length<=30
 log:c.Log.length<=40
 known:c.Qs.length<=60
 base:c.Base.length<=60
 hp:∀ w∈c.Held,w.M.Pairs.length<=20/\w.Qdk.length<=30
 lp:∀ e∈c.Log,e.M.Pairs.length<=20
theorem Wk9 (c:Qm):∃ r,Yj c=some r/\(r=true->Qik c):=by
 have j1:∀ b,(b=false->c.Held.length<=30/\c.Log.length<=40/\c.Qs.length<=60/\c.Base.length<=60)->∃ r,Yj.j1 c b=some r/\(r=true->Qik c):=by
  intro b hb
  unfold Yj.j1
  cases b with
  | true=>exact ⟨false,by rw [if_pos rfl],by simp⟩
  | false=>
   obtain ⟨h1,h2,h3,h4⟩:=hb rfl
   rw [if_neg (by simp)]
   obtain ⟨r,q1,q2⟩:=Qim (step:=Yj.step c) (n:=c.Log.length) (fun i=>.l2 (i:Int)) (fun i=>(c.Log.getD i Qc.z).M.Pairs.length<=20) (E:=True)
    ⟨true,by rw [Zc];simp [Yj.step,Yj.l2,stk],by simp⟩ (fun i hi=>by
     have Xu:(0:Int)<=(i:Int)/\(i:Int) < (c.Log.length:Int):=by omega
     simp only [Yj.step,Yj.l2,Xu.2,if_true,Xu,and_self,show (i:Int).toNat=i from rfl,wr1 hi (by omega:c.Log.length<=9223372036854775807)]
     by_cases h:((c.Log.getD i Qc.z).M.Pairs.length:Int) > 20
     ·right;exact ⟨by rw [if_pos h],by omega⟩
     left;exact ⟨by rw [if_neg h],by omega⟩)
   obtain ⟨s,q3,q4⟩:=Qim (step:=Yj.step c) (n:=c.Held.length) (fun i=>.l1 (i:Int)) (fun i=>(c.Held.getD i Qr.z).M.Pairs.length<=20/\(c.Held.getD i Qr.z).Qdk.length<=30)
    (E:=∀ i,i < c.Log.length->(c.Log.getD i Qc.z).M.Pairs.length<=20)
    ⟨r,by
     have e:Yj.step c (.l1 (c.Held.length:Int))=some (.inl (.l2 0)):=by simp [Yj.step,Yj.l1]
     rw [Zc,e];exact q1,by rw [q2];exact ⟨fun h=>h.1,fun h=>⟨h,trivial⟩⟩⟩ (fun i hi=>by
     have Xu:(0:Int)<=(i:Int)/\(i:Int) < (c.Held.length:Int):=by omega
     simp only [Yj.step,Yj.l1,Yj.j2,Xu.2,if_true,Xu,and_self,show (i:Int).toNat=i from rfl,wr1 hi (by omega:c.Held.length<=9223372036854775807)]
     by_cases h:((c.Held.getD i Qr.z).M.Pairs.length:Int) > 20
     ·right;exact ⟨by rw [if_pos h],by omega⟩
     rw [if_neg h]
     by_cases h5:((c.Held.getD i Qr.z).Qdk.length:Int) > 30
     ·right;exact ⟨by rw [decide_eq_true h5];rfl,by omega⟩
     left;exact ⟨by rw [decide_eq_false h5];rfl,by omega,by omega⟩)
   exact ⟨s,q3,fun h=>⟨h1,h2,h3,h4,Ql8.1 (q4.1 h).1,Ql8.1 (q4.1 h).2⟩⟩
 unfold Yj
 by_cases h1:(c.Held.length:Int) > 30
 ·rw [if_pos h1];exact j1 true (by simp)
 rw [if_neg h1]
 by_cases h2:(c.Log.length:Int) > 40
 ·rw [if_pos h2];exact j1 true (by simp)
 rw [if_neg h2]
 by_cases h3:(c.Qs.length:Int) > 60
 ·rw [if_pos h3];exact j1 true (by simp)
 rw [if_neg h3]
 refine j1 _ fun h=>?_
 simp at h
 omega
theorem Wmi (l:List Qm):∃ r,Jw l=some r/\(r=true->l.length<=7/\∀ c∈l,Qik c):=by
 obtain ⟨r,h1,h2⟩:=Qbi (step:=Jw.step l) (n:=l.length) (fun i (_:Unit)=>Jw.S.l1 (i:Int)) (fun i _=>i<=7/\∀ c∈l.take i,Qik c) (fun r=>r=true->l.length<=7/\∀ c∈l,Qik c)
  (by
   rintro _ ⟨h1,h2⟩
   rw [Qa3 (Nat.le_refl _)] at h2
   exact ⟨true,by simp [Jw.step,Jw.l1],fun _=>⟨h1,h2⟩⟩)
  (by
   rintro i _ hi ⟨h1,h2⟩
   have Xu:(0:Int)<=(i:Int)/\(i:Int) < (l.length:Int):=by omega
   have hx:=take_at (l:=l) (z:=Qm.z) hi
   have hw:IntKind.wrap .i64 ((i:Int)+1)=((i+1:Nat):Int):=by rw [wr (by omega)];omega
   simp only [Jw.step,Jw.l1,Jw.j1,Xu.2,if_true,Xu,and_self,show (i:Int).toNat=i from rfl,hw]
   by_cases h6:(i:Int) > 6
   ·right;exact ⟨false,by rw [if_pos h6],by simp⟩
   rw [if_neg h6]
   obtain ⟨r,f1,f2⟩:=Wk9 (l.getD i Qm.z)
   rw [f1,Option.bind_some]
   cases r with
   | false=>right;exact ⟨false,rfl,by simp⟩
   | true=>
    left
    refine ⟨(),rfl,by omega,fun c hc=>?_⟩
    rw [hx] at hc
    rcases List.mem_append.1 hc with h | h
    ·exact h2 c h
    simp only [List.mem_singleton] at h
    subst h
    exact f2 rfl) 0 () (Nat.zero_le _) (by simp)
 exact ⟨r,h1,h2⟩
def trP (p:Qbb):Yh:=⟨p.Qo8,p.Time⟩
def trW (w:Qr):Qz:=⟨trM w.M,w.Time,w.Qcq,w.Qdk.map trP⟩
def trN (k:Qo):Wh:=⟨k.Client,k.Seq,k.Time,k.Zw⟩
def trO (c:Qm):Ql:=⟨c.ID,toR c.Keys,c.Clock,c.Qa1,c.Qag,c.Held.map trW,c.Base.map tr,c.Log.map trE,c.Qs.map trN⟩
theorem Whz {c:Qm} (h:Qik c):Qj c=some (trO c):=by
 have hh:=h.held
 have hlg:=h.log
 have hk:=h.known
 have hb:=h.base
 unfold Qj
 rw [Qxy c.Base (by omega),Option.bind_some]
 let st:=Qj.step c (c.Base.map tr)
 have s4:∀ r3 r4,Xf st (.l4 0 r3 r4 [])=some ⟨c.ID,toR c.Keys,c.Clock,c.Qa1,c.Qag,r3,c.Base.map tr,r4,c.Qs.map trN⟩:=by
  intro r3 r4
  have e:=(Qin (step:=st) c.Qs Qo.z (fun i (x:List Wh)=>Qj.S.l4 (i:Int) r3 r4 x) (fun x s=>x ++ [trN s]) (fun i x=>x.length<=i) (fun i x hi hx=>by
   have Xu:(0:Int)<=(i:Int)/\(i:Int) < (c.Qs.length:Int):=by omega
   simp only [st,Qj.step,Qj.l4,Xu.2,if_true,Xu,and_self,show (i:Int).toNat=i from rfl,wr1 hi (by omega:c.Qs.length<=9223372036854775807)]
   rw [if_pos (by omega)]
   exact ⟨rfl,by simp;omega⟩) [] (by simp)).1
  rw [Qk4,List.nil_append] at e
  refine (show Xf st (.l4 0 r3 r4 [])=_ from e).trans ?_
  rw [Zc]
  simp [st,Qj.step,Qj.l4,stk,toR]
 have s2:∀ r3,Xf st (.l2 0 r3 [])=some ⟨c.ID,toR c.Keys,c.Clock,c.Qa1,c.Qag,r3,c.Base.map tr,c.Log.map trE,c.Qs.map trN⟩:=by
  intro r3
  have e:=(Qin (step:=st) c.Log Qc.z (fun i (x:List Qd)=>Qj.S.l2 (i:Int) r3 x) (fun x s=>x ++ [trE s]) (fun i x=>x.length<=i) (fun i x hi hx=>by
   have Xu:(0:Int)<=(i:Int)/\(i:Int) < (c.Log.length:Int):=by omega
   have hp:=h.lp _ (Qbo (z:=Qc.z) hi)
   simp only [st,Qj.step,Qj.l2,Xu.2,if_true,Xu,and_self,show (i:Int).toNat=i from rfl,wr1 hi (by omega:c.Log.length<=9223372036854775807)]
   rw [Quz _ (by omega),Option.bind_some,if_pos (by omega)]
   exact ⟨rfl,by simp;omega⟩) [] (by simp)).1
  rw [Qk4,List.nil_append] at e
  refine (show Xf st (.l2 0 r3 [])=_ from e).trans ?_
  have e2:st (.l2 (c.Log.length:Int) r3 (c.Log.map trE))=some (.inl (.l4 0 r3 (c.Log.map trE) [])):=by simp [st,Qj.step,Qj.l2]
  rw [Zc,e2]
  exact s4 r3 _
 have s1:∀ (m i:Nat) (r3:List Qz),i+m=c.Held.length->r3.length<=i->Xf st (.l1 (i:Int) r3)=some ⟨c.ID,toR c.Keys,c.Clock,c.Qa1,c.Qag,r3 ++ (c.Held.drop i).map trW,c.Base.map tr,c.Log.map trE,c.Qs.map trN⟩:=by
  intro m
  induction m with
  | zero=>
   intro i r3 hi hr
   obtain rfl:i=c.Held.length:=by omega
   have e2:st (.l1 (c.Held.length:Int) r3)=some (.inl (.l2 0 r3 [])):=by simp [st,Qj.step,Qj.l1]
   rw [Zc,e2,List.drop_length,List.map_nil,List.append_nil]
   exact s2 r3
  | succ m ih=>
   intro i r3 hi hr
   have hi':i < c.Held.length:=by omega
   have Xu:(0:Int)<=(i:Int)/\(i:Int) < (c.Held.length:Int):=by omega
   have hp:=h.hp _ (Qbo (z:=Qr.z) hi')
   have hx:c.Held[i]=c.Held.getD i Qr.z:=by simp [hi']
   rw [List.drop_eq_getElem_cons hi',hx]
   generalize hw:c.Held.getD i Qr.z=w at hp
   have e1:st (.l1 (i:Int) r3)=some (.inl (.l3 (trM w.M) (i:Int) 0 r3 w.Time w.Qcq [])):=by
    simp only [st,Qj.step,Qj.l1,Xu.2,if_true,Xu,and_self,show (i:Int).toNat=i from rfl,hw]
    rw [Quz _ (by omega)]
    rfl
   have e3:=(Qin (step:=st) w.Qdk Qbb.z (fun q (x:List Yh)=>Qj.S.l3 (trM w.M) (i:Int) (q:Int) r3 w.Time w.Qcq x) (fun x s=>x ++ [trP s]) (fun i x=>x.length<=i) (fun q x hq hx=>by
    have hs2:(0:Int)<=(q:Int)/\(q:Int) < (w.Qdk.length:Int):=by omega
    simp only [st,Qj.step,Qj.l3,if_true,Xu,and_self,show (i:Int).toNat=i from rfl,hw,hs2.2,hs2,show (q:Int).toNat=q from rfl,wr1 hq (by omega:w.Qdk.length<=9223372036854775807)]
    rw [if_pos (by omega)]
    exact ⟨rfl,by simp;omega⟩) [] (by simp)).1
   rw [Qk4,List.nil_append] at e3
   have e4:st (.l3 (trM w.M) (i:Int) (w.Qdk.length:Int) r3 w.Time w.Qcq (w.Qdk.map trP))=some (.inl (.l1 ((i+1:Nat):Int) (r3 ++ [trW w]))):=by
    simp only [st,Qj.step,Qj.l3,if_true,Xu,and_self,show (i:Int).toNat=i from rfl,hw,Int.lt_irrefl,if_false,wr1 hi' (by omega:c.Held.length<=9223372036854775807)]
    rw [if_pos (by omega)]
    rfl
   rw [Zc,e1]
   refine (show Xf st (.l3 (trM w.M) (i:Int) 0 r3 w.Time w.Qcq [])=_ from e3).trans ?_
   rw [Zc,e4]
   refine (ih (i+1) (r3 ++ [trW w]) (by omega) (by simp;omega)).trans ?_
   simp
 have:=s1 c.Held.length 0 [] (by omega) (by simp)
 simpa [trO] using this
theorem Wha {l:List Qm} (hl:l.length<=5000) (h:∀ c∈l,Qik c):Qab l=some (l.map trO):=by
 have e:=(Qin (step:=Qab.step l) l Qm.z (fun i (x:List Ql)=>Qab.S.l1 (i:Int) x) (fun x s=>x ++ [trO s]) (fun i x=>x.length<=i) (fun i x hi hx=>by
  have Xu:(0:Int)<=(i:Int)/\(i:Int) < (l.length:Int):=by omega
  simp only [Qab.step,Qab.l1,Xu.2,if_true,Xu,and_self,show (i:Int).toNat=i from rfl,wr1 hi (by omega:l.length<=9223372036854775807)]
  rw [Whz (h _ (Qbo hi)),Option.bind_some,if_pos (by omega)]
  exact ⟨rfl,by simp;omega⟩) [] (by simp)).1
 rw [Qk4,List.nil_append] at e
 unfold Qab
 refine (show Xf (Qab.step l) (.l1 0 [])=_ from e).trans ?_
 rw [Zc]
 simp [Qab.step,Qab.l1,stk]
end Go.SyP
