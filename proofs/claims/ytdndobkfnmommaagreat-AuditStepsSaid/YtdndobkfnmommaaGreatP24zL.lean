/- Stamps, the same mutations: at the seat of audit. -/
import Derived.Test.YtdndobkfnmommaaGreatP24zJ
set_option linter.unusedVariables false
set_option linter.unusedSimpArgs false
namespace Go.SyP
open Go Go.Sy Sets
def Qi5 (x y:Int):Int:=if x < y then -1 else if x > y then 1 else 0
def Qrc (a b:Qbf):Int:=if Qi5 a.Time b.Time≠0 then Qi5 a.Time b.Time else if Qi5 a.Client b.Client≠0 then Qi5 a.Client b.Client else Qi5 a.Seq b.Seq
theorem Qwe (x y:Int):Zj x y=Qi5 x y:=by
 unfold Zj cmp_isNaN_int Qi5
 by_cases h1:x < y
 ·simp [h1]
 by_cases h2:x > y
 ·simp [h1,h2]
 simp [h1,h2]
theorem Qtm (a b:Qbf):Qc8 a b=some (Qrc a b):=by
 unfold Qc8 Qax Qrc
 rw [Qwe,Qwe,Qwe]
 generalize Qi5 a.Time b.Time=x
 generalize Qi5 a.Client b.Client=y
 generalize Qi5 a.Seq b.Seq=z
 have w0:IntKind.wrap .i64 ((0:Int)+1)=1:=by decide
 have w1:IntKind.wrap .i64 ((1:Int)+1)=2:=by decide
 have w2:IntKind.wrap .i64 ((2:Int)+1)=3:=by decide
 rw [Ji]
 simp only [Qax.step,Qax.l1,List.length_cons,List.length_nil]
 by_cases hx:x=0
 ·subst hx
  simp only [w0,stk]
  rw [show (if (0:Int) < ((0+1+1+1:Nat):Int) then _ else _)=_ from if_pos (by decide),if_pos (by decide)]
  simp only [List.getD_cons_zero,Int.toNat_zero,if_true]
  rw [Ji]
  simp only [Qax.step,Qax.l1,List.length_cons,List.length_nil,w1]
  rw [if_pos (by decide),if_pos (by decide)]
  simp only [show (1:Int).toNat=1 from rfl,List.getD_cons_succ,List.getD_cons_zero]
  by_cases hy:y=0
  ·subst hy
   simp only [if_true,stk]
   rw [Ji]
   simp only [Qax.step,Qax.l1,List.length_cons,List.length_nil,w2]
   rw [if_pos (by decide),if_pos (by decide)]
   simp only [show (2:Int).toNat=2 from rfl,List.getD_cons_succ,List.getD_cons_zero]
   by_cases hz:z=0
   ·subst hz
    simp only [if_true,stk]
    rw [Ji]
    simp [Qax.step,Qax.l1,stk]
   simp [hz,stk]
  simp [hy,stk]
 rw [if_pos (by decide),if_pos (by decide)]
 simp [hx,stk]
theorem Qng (x y:Int):(Qi5 x y=-1/\x < y)\/(Qi5 x y=0/\x=y)\/(Qi5 x y=1/\x > y):=by
 unfold Qi5
 split
 ·exact .inl ⟨rfl,‹_›⟩
 split
 ·exact .inr (.inr ⟨rfl,‹_›⟩)
 exact .inr (.inl ⟨rfl,by omega⟩)
def Qgv (a b:Qbf):Prop:=a.Time < b.Time\/a.Time=b.Time/\(a.Client < b.Client\/a.Client=b.Client/\a.Seq < b.Seq)
theorem Qzd (a b:Qbf):(Qrc a b=-1/\Qgv a b)\/(Qrc a b=0/\a=b)\/(Qrc a b=1/\Qgv b a):=by
 unfold Qrc Qgv
 rcases Qng a.Time b.Time with ⟨e,h⟩ | ⟨e,h⟩ | ⟨e,h⟩
 ·rw [e];exact .inl ⟨rfl,.inl h⟩
 ·rw [e]
  rcases Qng a.Client b.Client with ⟨e2,h2⟩ | ⟨e2,h2⟩ | ⟨e2,h2⟩
  ·rw [e2];exact .inl ⟨rfl,.inr ⟨h,.inl h2⟩⟩
  ·rw [e2]
   rcases Qng a.Seq b.Seq with ⟨e3,h3⟩ | ⟨e3,h3⟩ | ⟨e3,h3⟩
   ·rw [e3];exact .inl ⟨rfl,.inr ⟨h,.inr ⟨h2,h3⟩⟩⟩
   ·rw [e3]
    refine .inr (.inl ⟨rfl, ?_⟩)
    cases a;cases b
    simp only at h h2 h3
    rw [h,h2,h3]
   rw [e3];exact .inr (.inr ⟨rfl,.inr ⟨h.symm,.inr ⟨h2.symm,h3⟩⟩⟩)
  rw [e2];exact .inr (.inr ⟨rfl,.inr ⟨h.symm,.inl h2⟩⟩)
 rw [e];exact .inr (.inr ⟨rfl,.inl h⟩)
theorem Qob {a b:Qbf} (h:Qgv a b):¬ Qgv b a/\a≠b:=by
 unfold Qgv at *
 refine ⟨by omega, ?_⟩
 rintro rfl
 omega
theorem Wfh (x y:List Qa) (hn:x.length<=5000):∃ r,Zc x y=some r/\(r=true↔x=y):=by
 unfold Zc
 by_cases hl:(x.length:Int)=(y.length:Int)
 ·rw [if_pos hl]
  refine Qbj (n:=x.length) (fun i (_:Unit)=>Zc.S.l1 (i:Int)) (fun i _=>x.take i=y.take i) _ ?_ ?_ 0 () (Nat.zero_le _) (by simp)
  ·intro _ h
   rw [Qbt (Nat.le_refl _),Qbt (by omega)] at h
   exact ⟨true,by simp [Zc.step,Zc.l1],by simp [h]⟩
  intro i _ hi h
  have Yj:(0:Int)<=(i:Int)/\(i:Int) < (x.length:Int):=by omega
  have Qwu:(0:Int)<=(i:Int)/\(i:Int) < (y.length:Int):=by omega
  have hx:=Qcl (l:=x) (z:=Qa.z) hi
  have hy:=Qcl (l:=y) (z:=Qa.z) (i:=i) (by omega)
  simp only [Zc.step,Zc.l1,Yj.2,if_true,Yj,Qwu,and_self,wr1 hi (by omega:x.length<=9223372036854775807)]
  generalize x.getD (i:Int).toNat Qa.z=X at hx ⊢
  generalize y.getD (i:Int).toNat Qa.z=Y at hy ⊢
  by_cases hXY:X=Y
  ·left
   subst hXY
   exact ⟨(),by simp,by rw [hx,hy,h]⟩
  right
  have hne:x≠y:=by
   rintro rfl
   rw [hx] at hy
   exact hXY (by simpa using hy)
  refine ⟨false, ?_,by simp [hne]⟩
  by_cases h1:X.Key=Y.Key
  ·by_cases h2:X.Val=Y.Val
   ·exact absurd (by cases X;cases Y;simp only at h1 h2;subst h1;subst h2;rfl) hXY
   rw [if_pos h1,if_neg h2]
  rw [if_neg h1]
  split<;>rfl
 rw [if_neg hl]
 exact ⟨false,rfl,by simp;rintro rfl;exact hl rfl⟩
theorem Qu9 (a b:Xd) (hn:a.Pairs.length<=5000) (hl:a.Pairs.length=b.Pairs.length):∃ r,Xx (Xm.step a b) (.l1 0)=some r/\(r=true↔a.Pairs=b.Pairs):=by
 refine Qbj (n:=a.Pairs.length) (fun i (_:Unit)=>Xm.S.l1 (i:Int)) (fun i _=>a.Pairs.take i=b.Pairs.take i) _ ?_ ?_ 0 () (Nat.zero_le _) (by simp)
 ·intro _ h
  rw [Qbt (Nat.le_refl _),Qbt (by omega)] at h
  exact ⟨true,by simp [Xm.step,Xm.l1],by simp [h]⟩
 intro i _ hi h
 have Yj:(0:Int)<=(i:Int)/\(i:Int) < (a.Pairs.length:Int):=by omega
 have Qwu:(0:Int)<=(i:Int)/\(i:Int) < (b.Pairs.length:Int):=by omega
 have hx:=Qcl (l:=a.Pairs) (z:=Qd.z) hi
 have hy:=Qcl (l:=b.Pairs) (z:=Qd.z) (i:=i) (by omega)
 simp only [Xm.step,Xm.l1,Yj.2,if_true,Yj,Qwu,and_self,wr1 hi (by omega:a.Pairs.length<=9223372036854775807)]
 generalize a.Pairs.getD (i:Int).toNat Qd.z=X at hx ⊢
 generalize b.Pairs.getD (i:Int).toNat Qd.z=Y at hy ⊢
 by_cases hXY:X=Y
 ·left
  subst hXY
  exact ⟨(),by simp,by rw [hx,hy,h]⟩
 right
 have hne:a.Pairs≠b.Pairs:=by
  intro e
  rw [e] at hx h
  rw [hx] at hy
  exact hXY (by simpa using hy)
 refine ⟨false, ?_,by simp [hne]⟩
 by_cases h1:X.Key=Y.Key
 ·by_cases h2:X.Val=Y.Val
  ·exact absurd (by cases X;cases Y;simp only at h1 h2;subst h1;subst h2;rfl) hXY
  rw [if_pos h1,if_neg h2]
 rw [if_neg h1]
 split<;>rfl
theorem Qym {a b:Qn}:a=b↔a.Client=b.Client/\a.Seq=b.Seq/\a.Kind=b.Kind/\a.Over.Lo=b.Over.Lo/\a.Over.Hi=b.Over.Hi/\a.Old=b.Old/\a.Pairs=b.Pairs:=by
 constructor
 ·rintro rfl;exact ⟨rfl,rfl,rfl,rfl,rfl,rfl,rfl⟩
 rintro ⟨h1,h2,h3,h4,h5,h6,h7⟩
 cases a;cases b
 rename_i o1 _ _ _ _ _ o2 _
 cases o1;cases o2
 simp only at h1 h2 h3 h4 h5 h6 h7
 rw [h1,h2,h3,h4,h5,h6,h7]
theorem Wf8 {a b:Xd}:a=b↔a.Client=b.Client/\a.Seq=b.Seq/\a.Kind=b.Kind/\a.Over.Lo=b.Over.Lo/\a.Over.Hi=b.Over.Hi/\a.Old=b.Old/\a.Pairs=b.Pairs:=by
 constructor
 ·rintro rfl;exact ⟨rfl,rfl,rfl,rfl,rfl,rfl,rfl⟩
 rintro ⟨h1,h2,h3,h4,h5,h6,h7⟩
 cases a;cases b
 rename_i o1 _ _ _ _ _ o2 _
 cases o1;cases o2
 simp only at h1 h2 h3 h4 h5 h6 h7
 rw [h1,h2,h3,h4,h5,h6,h7]
theorem Qxw (a b:Qn) (hn:a.Pairs.length<=5000):∃ r,Qcz a b=some r/\(r=true↔a=b):=by
 unfold Qcz Qcz.j1
 rw [Qym]
 by_cases h1:a.Client=b.Client
 ·by_cases h2:a.Seq=b.Seq
  ·by_cases h3:a.Kind=b.Kind
   ·by_cases h4:a.Over.Lo=b.Over.Lo
    ·by_cases h5:a.Over.Hi=b.Over.Hi
     ·by_cases h6:a.Old=b.Old
      ·obtain ⟨r,e1,e2⟩:=Wfh a.Pairs b.Pairs hn
       rw [if_pos h1,if_pos h2,if_pos h3,if_pos h4,if_pos h5,if_pos h6,e1]
       exact ⟨r,rfl,by rw [e2];simp [h1,h2,h3,h4,h5,h6]⟩
      exact ⟨false,by rw [if_pos h1,if_pos h2,if_pos h3,if_pos h4,if_pos h5,if_neg h6],by simp [h6]⟩
     exact ⟨false,by rw [if_pos h1,if_pos h2,if_pos h3,if_pos h4,if_neg h5],by simp [h5]⟩
    exact ⟨false,by rw [if_pos h1,if_pos h2,if_pos h3,if_neg h4];split<;>rfl,by simp [h4]⟩
   exact ⟨false,by rw [if_pos h1,if_pos h2,if_neg h3],by simp [h3]⟩
  exact ⟨false,by rw [if_pos h1,if_neg h2],by simp [h2]⟩
 exact ⟨false,by rw [if_neg h1],by simp [h1]⟩
theorem Qx4 (a b:Xd) (hn:a.Pairs.length<=5000):∃ r,Xm a b=some r/\(r=true↔a=b):=by
 unfold Xm
 rw [Wf8]
 have jt:Xm.j1 a b true=some false:=rfl
 by_cases h1:a.Client=b.Client
 ·by_cases h2:a.Seq=b.Seq
  ·by_cases h3:a.Kind=b.Kind
   ·by_cases h4:a.Over.Lo=b.Over.Lo
    ·by_cases h5:a.Over.Hi=b.Over.Hi
     ·by_cases h6:a.Old=b.Old
      ·rw [if_pos h1,if_pos h2,if_pos h3,if_pos h4,if_pos h5,if_pos h6]
       by_cases hl:a.Pairs.length=b.Pairs.length
       ·rw [show ((a.Pairs.length:Int) != (b.Pairs.length:Int))=false by simp [hl]]
        obtain ⟨r,e1,e2⟩:=Qu9 a b hn hl
        exact ⟨r,e1,by rw [e2];simp [h1,h2,h3,h4,h5,h6]⟩
       rw [show ((a.Pairs.length:Int) != (b.Pairs.length:Int))=true by simp;omega]
       exact ⟨false,jt,by simp;intro _ _ _ _ _ _ h;exact hl (by rw [h])⟩
      exact ⟨false,by rw [if_pos h1,if_pos h2,if_pos h3,if_pos h4,if_pos h5,if_neg h6,jt],by simp [h6]⟩
     exact ⟨false,by rw [if_pos h1,if_pos h2,if_pos h3,if_pos h4,if_neg h5,jt],by simp [h5]⟩
    exact ⟨false,by rw [if_pos h1,if_pos h2,if_pos h3,if_neg h4,jt];split<;>rfl,by simp [h4]⟩
   exact ⟨false,by rw [if_pos h1,if_pos h2,if_neg h3,jt],by simp [h3]⟩
  exact ⟨false,by rw [if_pos h1,if_neg h2,jt],by simp [h2]⟩
 exact ⟨false,by rw [if_neg h1,jt],by simp [h1]⟩
theorem Qr6 (a b:Qbf):Qgv a b↔(if a.Time=b.Time then (if a.Client=b.Client then a.Seq < b.Seq else a.Client < b.Client) else a.Time < b.Time):=by
 unfold Qgv
 split
 ·split<;>omega
 omega
theorem Wen {a b:Qbf} (h:Qgv a b):Qc3 ⟨a.Time,a.Client,a.Seq⟩ ⟨b.Time,b.Client,b.Seq⟩=true:=by
 rw [Qr6] at h
 unfold Qc3
 by_cases h1:a.Time=b.Time
 ·rw [if_pos h1] at h ⊢
  by_cases h2:a.Client=b.Client
  ·rw [if_pos h2] at h ⊢;exact decide_eq_true h
  rw [if_neg h2] at h ⊢;exact decide_eq_true h
 rw [if_neg h1] at h ⊢;exact decide_eq_true h
theorem Wa8 {a b:Qbf} (h:¬ Qgv a b):Qc3 ⟨a.Time,a.Client,a.Seq⟩ ⟨b.Time,b.Client,b.Seq⟩=false:=by
 rw [Qr6] at h
 unfold Qc3
 by_cases h1:a.Time=b.Time
 ·rw [if_pos h1] at h ⊢
  by_cases h2:a.Client=b.Client
  ·rw [if_pos h2] at h ⊢;exact decide_eq_false h
  rw [if_neg h2] at h ⊢;exact decide_eq_false h
 rw [if_neg h1] at h ⊢;exact decide_eq_false h
end Go.SyP
namespace Go.SyP
open Go Go.Sy Sets
def stE (e:Qe):Qbf:=⟨e.Time,e.M.Client,e.M.Seq⟩
theorem Qte (e:Qe):Qdk e=stE e:=rfl
theorem Qpe (e:Qe):Qa7 (trE e)=⟨(stE e).Time,(stE e).Client,(stE e).Seq⟩:=rfl
def Qkp (l:List Qe) (i:Nat):Prop:=mOk (l.getD i Qe.z).M=true/\(0 < i->Qgv (stE (l.getD (i - 1) Qe.z)) (stE (l.getD i Qe.z)))
def Ord (l:List Qe):Prop:=∀ i,i < l.length->Qkp l i
theorem Whn (a b:Qbf):Qrc a b>=0↔¬ Qgv a b:=by
 rcases Qzd a b with ⟨h1,h2⟩ | ⟨h1,h2⟩ | ⟨h1,h2⟩
 ·rw [h1];simp [h2]
 ·rw [h1];subst h2;simp;exact fun h=>(Qob h).2 rfl
 rw [h1];simp;exact (Qob h2).1
theorem Qil (l:List Qe) (hf:Few l):∃ r,Zn l=some r/\(r=true↔Ord l):=by
 have hl:=hf.len
 unfold Zn
 refine Qbj (n:=l.length) (fun i (_:Unit)=>Zn.S.l1 (i:Int)) (fun i _=>∀ j,j < i->Qkp l j) _ ?_ ?_ 0 () (Nat.zero_le _) (fun j hj=>by omega)
 ·intro _ h
  exact ⟨true,by simp [Zn.step,Zn.l1],by simp;exact h⟩
 intro i _ hi h
 have Yj:(0:Int)<=(i:Int)/\(i:Int) < (l.length:Int):=by omega
 have hp:=hf.prs _ (Qeo (z:=Qe.z) hi)
 simp only [Zn.step,Zn.l1,Yj.2,if_true,Yj,and_self,show (i:Int).toNat=i from rfl,Qfs _ (by omega:(l.getD i Qe.z).M.Pairs.length<=5000),Option.bind_some,wr1 hi (by omega:l.length<=9223372036854775807),Qtm,Qte]
 have Qwn:¬ Qkp l i->¬ Ord l:=fun h1 h2=>h1 (h2 i hi)
 have Qsn:Qkp l i->∀ j,j < i+1->Qkp l j:=fun h1 j hj=>by
  rcases Nat.lt_or_ge j i with h2 | h2
  ·exact h j h2
  obtain rfl:j=i:=by omega
  exact h1
 by_cases hm:mOk (l.getD i Qe.z).M=true
 ·rw [if_pos hm]
  by_cases h0:(i:Int) > 0
  ·have hw:IntKind.wrap .i64 ((i:Int) - 1)=((i - 1:Nat):Int):=by rw [wr (by omega)];omega
   rw [if_pos h0,hw,if_pos (by omega),show ((i - 1:Nat):Int).toNat=i - 1 from rfl]
   simp only [Zn.j1]
   have hc:=Whn (stE (l.getD (i - 1) Qe.z)) (stE (l.getD i Qe.z))
   by_cases ha:Qgv (stE (l.getD (i - 1) Qe.z)) (stE (l.getD i Qe.z))
   ·left
    rw [decide_eq_false (fun h=>hc.1 h ha),if_neg (by decide)]
    exact ⟨(),by rw [wr1 hi (by omega:l.length<=9223372036854775807)],Qsn ⟨hm,fun _=>ha⟩⟩
   right
   rw [decide_eq_true (hc.2 ha),if_pos rfl]
   exact ⟨false,rfl,by simp;exact Qwn fun h1=>ha (h1.2 (by omega))⟩
  left
  rw [if_neg h0]
  simp only [Zn.j1,Bool.false_eq_true,if_false,wr1 hi (by omega:l.length<=9223372036854775807)]
  exact ⟨(),by first | rfl | trivial,Qsn ⟨hm,fun h1=>by omega⟩⟩
 right
 rw [if_neg hm]
 exact ⟨false,rfl,by simp;exact Qwn fun h1=>hm h1.1⟩
theorem Qgj (l:List Qe) (hf:Few l):∃ r,Yn (l.map trE)=some r/\(r=true↔Ord l):=by
 have hl:=hf.len
 unfold Yn
 refine Qbj (n:=l.length) (fun i (_:Unit)=>Yn.S.l1 (i:Int)) (fun i _=>∀ j,j < i->Qkp l j) _ ?_ ?_ 0 () (Nat.zero_le _) (fun j hj=>by omega)
 ·intro _ h
  exact ⟨true,by simp [Yn.step,Yn.l1],by simp;exact h⟩
 intro i _ hi h
 have Yj:(0:Int)<=(i:Int)/\(i:Int) < (l.length:Int):=by omega
 have hp:=hf.prs _ (Qeo (z:=Qe.z) hi)
 simp only [Yn.step,Yn.l1,List.length_map,Yj.2,if_true,Yj,and_self,show (i:Int).toNat=i from rfl,Qig l hi,wr1 hi (by omega:l.length<=9223372036854775807)]
 rw [show (trE (l.getD i Qe.z)).M=trM (l.getD i Qe.z).M from rfl,Qjc _ (by omega:(l.getD i Qe.z).M.Pairs.length<=5000),Option.bind_some]
 have Qwn:¬ Qkp l i->¬ Ord l:=fun h1 h2=>h1 (h2 i hi)
 have Qsn:Qkp l i->∀ j,j < i+1->Qkp l j:=fun h1 j hj=>by
  rcases Nat.lt_or_ge j i with h2 | h2
  ·exact h j h2
  obtain rfl:j=i:=by omega
  exact h1
 by_cases hm:mOk (l.getD i Qe.z).M=true
 ·rw [if_pos hm]
  by_cases h0:(i:Int) > 0
  ·have hw:IntKind.wrap .i64 ((i:Int) - 1)=((i - 1:Nat):Int):=by rw [wr (by omega)];omega
   rw [if_pos h0,hw,if_pos (by omega),show ((i - 1:Nat):Int).toNat=i - 1 from rfl,Qig l (by omega:i - 1 < l.length),Qpe,Qpe]
   simp only [Yn.j1]
   by_cases ha:Qgv (stE (l.getD (i - 1) Qe.z)) (stE (l.getD i Qe.z))
   ·left
    rw [Wen ha]
    exact ⟨(),by rw [wr1 hi (by omega:l.length<=9223372036854775807)];rfl,Qsn ⟨hm,fun _=>ha⟩⟩
   right
   rw [Wa8 ha]
   exact ⟨false,rfl,by simp;exact Qwn fun h1=>ha (h1.2 (by omega))⟩
  left
  rw [if_neg h0]
  simp only [Yn.j1,Bool.false_eq_true,if_false,wr1 hi (by omega:l.length<=9223372036854775807)]
  exact ⟨(),by first | rfl | trivial,Qsn ⟨hm,fun h1=>by omega⟩⟩
 right
 rw [if_neg hm]
 exact ⟨false,rfl,by simp;exact Qwn fun h1=>hm h1.1⟩
theorem Qy4 (l:List Qe) (hf:Few l):∃ r,Zn l=some r/\Yn (l.map trE)=some r/\(r=true↔Ord l):=by
 obtain ⟨r,h1,h2⟩:=Qil l hf
 obtain ⟨s,h3,h4⟩:=Qgj l hf
 have:s=r:=by rw [Bool.eq_iff_iff,h2,h4]
 subst this
 exact ⟨s,h1,h3,h2⟩
theorem Ord.ok {l:List Qe} (h:Ord l):okE l=true:=by
 unfold okE
 rw [List.all_eq_true]
 intro e he
 obtain ⟨i,hi,rfl⟩:=List.mem_iff_getElem.1 he
 have:=(h i hi).1
 simpa [List.getD_eq_getElem?_getD,hi] using this
def trC (c:Ze):Xb:=⟨c.Val,c.Some⟩
structure Wjq (l:List Wn):Prop where
 len:l.length<=30
 prs:∀ e∈l,e.M.Pairs.length<=10
theorem Qm8 (l:List Qe) (hl:l.length<=5000) (hp:∀ e∈l,e.M.Pairs.length<=5000):Qan l=some (l.map trE):=by
 unfold Qan Qt
 rw [Wew [] (by simp),Option.bind_some,Ji]
 show ((Xx (Qt.step l (List.map tr [])) (.l2 ((0:Nat):Int) [])).bind fun v1=>some v1.Log)=some (l.map trE)
 have h:=Qge (step:=Qt.step l (List.map tr [])) l Qe.z (fun i t=>Qt.S.l2 (i:Int) t) (fun t e=>t ++ [trE e]) (fun i t=>t.length=i) (fun i t hi hlen=>by
  have Yj:(0:Int)<=(i:Int)/\(i:Int) < (l.length:Int):=by omega
  have hpp:=hp _ (Qeo (z:=Qe.z) hi)
  simp only [Qt.step,Qt.l2,Yj.2,if_true,Yj,and_self,show (i:Int).toNat=i from rfl,Wg8 _ hpp,Option.bind_some,wr1 hi (by omega:l.length<=9223372036854775807)]
  rw [if_pos (by omega)]
  exact ⟨rfl,by simp [hlen]⟩) [] rfl
 have e:=h.1
 rw [e,Ji]
 have hf:∀ (l:List Qe) (t:List Qg),l.foldl (fun t e=>t ++ [trE e]) t=t ++ l.map trE:=by
  intro l
  induction l with
  | nil=>intro t;simp
  | cons e l ih=>intro t;rw [List.foldl_cons,ih];simp
 rw [hf,List.nil_append]
 have s2:Qt.step l (List.map tr []) (.l2 (l.length:Int) (l.map trE))=some (.inl (.l3 (l.map trE))):=by
  simp only [Qt.step,Qt.l2,Int.lt_irrefl,if_false]
 rw [s2]
 show ((Xx (Qt.step l (List.map tr [])) (.l3 (l.map trE))).bind fun v1=>some v1.Log)=some (l.map trE)
 rw [Ji]
 simp only [Qt.step,Qt.l3]
 rfl
def Qvi (c:Ze):Bool:=if c.Some=true then decide (-1099511627776<=c.Val) && decide (c.Val<=1099511627776) else decide (c.Val=0)
theorem Qu3 (c:Ze):Qdq c=Qvi c:=by
 unfold Qdq Qdq.j1 Qvi
 by_cases h:c.Some=true
 ·rw [if_pos h,if_pos h]
  by_cases h1:c.Val>=-1099511627776
  ·rw [if_pos h1,decide_eq_true (show -1099511627776<=c.Val from h1),Bool.true_and]
  rw [if_neg h1,decide_eq_false (show ¬ -1099511627776<=c.Val from h1),Bool.false_and]
 rw [if_neg h,if_neg h]
 rfl
def Qkr (e:Wn):Bool:=
 if e.Kind=1 then mOk e.M && decide (e.M.Client=e.Client/\e.Key=0/\e.Cell.Val=0/\e.Cell.Some=false/\e.Mark=0)
 else if e.Kind=2 then decide (e.M.Client=0/\e.M.Seq=0/\e.M.Kind=0/\e.M.Over.Lo=0/\e.M.Over.Hi=0/\e.M.Old=0/\e.M.Pairs.length=0) && (decide (1<=e.Client/\e.Client<=1048576/\0<=e.Key/\e.Key < 4096/\0<=e.Mark) && Qvi e.Cell)
 else false
theorem Wdb (e:Wn) (hn:e.M.Pairs.length<=5000):Zl e=some (Qkr e):=by
 unfold Zl Zl.j1 Zl.j2 Qkr
 by_cases k1:e.Kind=1
 ·rw [if_pos k1,if_pos k1,Qfs _ hn,Option.bind_some]
  cases hm:mOk e.M with
  | false=>simp
  | true=>
   simp only [if_true,Bool.true_and]
   by_cases h1:e.M.Client=e.Client<;>by_cases h2:e.Key=0<;>by_cases h3:e.Cell.Val=0<;>by_cases h4:e.Cell.Some=true<;>simp [h1,h2,h3,h4]<;>first | rfl | skip
 rw [if_neg k1,if_neg k1]
 by_cases k2:e.Kind=2
 ·rw [if_pos k2,if_pos k2]
  obtain ⟨r,e1,e2⟩:=Qxw e.M (⟨0,0,0,[],(⟨0,0⟩:Qb),0⟩:Qn) hn
  rw [Qym] at e2
  simp only at e2
  rw [e1,Option.bind_some,Qu3]
  have e3:decide (e.M.Client=0/\e.M.Seq=0/\e.M.Kind=0/\e.M.Over.Lo=0/\e.M.Over.Hi=0/\e.M.Old=0/\e.M.Pairs.length=0)=r:=by
   rw [Bool.eq_iff_iff,e2]
   simp [List.length_eq_zero_iff]
  rw [e3]
  cases r with
  | false=>simp
  | true=>
   simp only [if_true,Bool.true_and]
   by_cases h1:e.Client>=1<;>by_cases h2:e.Client<=1048576<;>by_cases h3:e.Key>=0<;>by_cases h4:e.Key < 4096<;>cases h5:Qvi e.Cell<;>simp [h1,h2,h3,h4]
 rw [if_neg k2,if_neg k2]
end Go.SyP
