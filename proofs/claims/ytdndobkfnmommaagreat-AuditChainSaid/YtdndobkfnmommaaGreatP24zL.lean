/- Stamps, the same mutations: at the seat of audit. -/
import Derived.Test.YtdndobkfnmommaaGreatP24zJ
set_option linter.unusedVariables false
set_option linter.unusedSimpArgs false
namespace Go.SyP
open Go Go.Sy Sets
def Qi9 (x y:Int):Int:=if x < y then -1 else if x > y then 1 else 0
def Qri (a b:Qa9):Int:=if Qi9 a.Time b.Time≠0 then Qi9 a.Time b.Time else if Qi9 a.Client b.Client≠0 then Qi9 a.Client b.Client else Qi9 a.Seq b.Seq
theorem Qwd (x y:Int):Zc x y=Qi9 x y:=by
 unfold Zc cmp_isNaN_int Qi9
 by_cases h1:x < y
 ·simp [h1]
 by_cases h2:x > y
 ·simp [h1,h2]
 simp [h1,h2]
theorem Qtm (a b:Qa9):Qcz a b=some (Qri a b):=by
 unfold Qcz Qav Qri
 rw [Qwd,Qwd,Qwd]
 generalize Qi9 a.Time b.Time=x
 generalize Qi9 a.Client b.Client=y
 generalize Qi9 a.Seq b.Seq=z
 have w0:IntKind.wrap .i64 ((0:Int)+1)=1:=by decide
 have w1:IntKind.wrap .i64 ((1:Int)+1)=2:=by decide
 have w2:IntKind.wrap .i64 ((2:Int)+1)=3:=by decide
 rw [Qau]
 simp only [Qav.step,Qav.l1,List.length_cons,List.length_nil]
 by_cases hx:x=0
 ·subst hx
  simp only [w0,stk]
  rw [show (if (0:Int) < ((0+1+1+1:Nat):Int) then _ else _)=_ from if_pos (by decide),if_pos (by decide)]
  simp only [List.getD_cons_zero,Int.toNat_zero,if_true]
  rw [Qau]
  simp only [Qav.step,Qav.l1,List.length_cons,List.length_nil,w1]
  rw [if_pos (by decide),if_pos (by decide)]
  simp only [show (1:Int).toNat=1 from rfl,List.getD_cons_succ,List.getD_cons_zero]
  by_cases hy:y=0
  ·subst hy
   simp only [if_true,stk]
   rw [Qau]
   simp only [Qav.step,Qav.l1,List.length_cons,List.length_nil,w2]
   rw [if_pos (by decide),if_pos (by decide)]
   simp only [show (2:Int).toNat=2 from rfl,List.getD_cons_succ,List.getD_cons_zero]
   by_cases hz:z=0
   ·subst hz
    simp only [if_true,stk]
    rw [Qau]
    simp [Qav.step,Qav.l1,stk]
   simp [hz,stk]
  simp [hy,stk]
 rw [if_pos (by decide),if_pos (by decide)]
 simp [hx,stk]
theorem Qnm (x y:Int):(Qi9 x y=-1/\x < y)\/(Qi9 x y=0/\x=y)\/(Qi9 x y=1/\x > y):=by
 unfold Qi9
 split
 ·exact .inl ⟨rfl,‹_›⟩
 split
 ·exact .inr (.inr ⟨rfl,‹_›⟩)
 exact .inr (.inl ⟨rfl,by omega⟩)
def Qgp (a b:Qa9):Prop:=a.Time < b.Time\/a.Time=b.Time/\(a.Client < b.Client\/a.Client=b.Client/\a.Seq < b.Seq)
theorem Qzi (a b:Qa9):(Qri a b=-1/\Qgp a b)\/(Qri a b=0/\a=b)\/(Qri a b=1/\Qgp b a):=by
 unfold Qri Qgp
 rcases Qnm a.Time b.Time with ⟨e,h⟩ | ⟨e,h⟩ | ⟨e,h⟩
 ·rw [e];exact .inl ⟨rfl,.inl h⟩
 ·rw [e]
  rcases Qnm a.Client b.Client with ⟨e2,h2⟩ | ⟨e2,h2⟩ | ⟨e2,h2⟩
  ·rw [e2];exact .inl ⟨rfl,.inr ⟨h,.inl h2⟩⟩
  ·rw [e2]
   rcases Qnm a.Seq b.Seq with ⟨e3,h3⟩ | ⟨e3,h3⟩ | ⟨e3,h3⟩
   ·rw [e3];exact .inl ⟨rfl,.inr ⟨h,.inr ⟨h2,h3⟩⟩⟩
   ·rw [e3]
    refine .inr (.inl ⟨rfl, ?_⟩)
    cases a;cases b
    simp only at h h2 h3
    rw [h,h2,h3]
   rw [e3];exact .inr (.inr ⟨rfl,.inr ⟨h.symm,.inr ⟨h2.symm,h3⟩⟩⟩)
  rw [e2];exact .inr (.inr ⟨rfl,.inr ⟨h.symm,.inl h2⟩⟩)
 rw [e];exact .inr (.inr ⟨rfl,.inl h⟩)
theorem Qoh {a b:Qa9} (h:Qgp a b):¬ Qgp b a/\a≠b:=by
 unfold Qgp at *
 refine ⟨by omega, ?_⟩
 rintro rfl
 omega
theorem Wfe (x y:List Qa) (hn:x.length<=5000):∃ r,Yu x y=some r/\(r=true↔x=y):=by
 unfold Yu
 by_cases hl:(x.length:Int)=(y.length:Int)
 ·rw [if_pos hl]
  refine Qbi (n:=x.length) (fun i (_:Unit)=>Yu.S.l1 (i:Int)) (fun i _=>x.take i=y.take i) _ ?_ ?_ 0 () (Nat.zero_le _) (by simp)
  ·intro _ h
   rw [Qbp (Nat.le_refl _),Qbp (by omega)] at h
   exact ⟨true,by simp [Yu.step,Yu.l1],by simp [h]⟩
  intro i _ hi h
  have Ye:(0:Int)<=(i:Int)/\(i:Int) < (x.length:Int):=by omega
  have Qwr:(0:Int)<=(i:Int)/\(i:Int) < (y.length:Int):=by omega
  have hx:=Qch (l:=x) (z:=Qa.z) hi
  have hy:=Qch (l:=y) (z:=Qa.z) (i:=i) (by omega)
  simp only [Yu.step,Yu.l1,Ye.2,if_true,Ye,Qwr,and_self,wr1 hi (by omega:x.length<=9223372036854775807)]
  generalize x.getD (i:Int).toNat Qa.z=X at hx ⊢
  generalize y.getD (i:Int).toNat Qa.z=Y at hy ⊢
  by_cases hXY:X=Y
  ·left
   subst hXY
   exact ⟨(),by simp,by rw [hx,hy,h]⟩
  right
  have hne:x≠y:=by
   rintro rfl
   rw [hx] at hy
   exact hXY (by simpa using hy)
  refine ⟨false, ?_,by simp [hne]⟩
  by_cases h1:X.Key=Y.Key
  ·by_cases h2:X.Val=Y.Val
   ·exact absurd (by cases X;cases Y;simp only at h1 h2;subst h1;subst h2;rfl) hXY
   rw [if_pos h1,if_neg h2]
  rw [if_neg h1]
  split<;>rfl
 rw [if_neg hl]
 exact ⟨false,rfl,by simp;rintro rfl;exact hl rfl⟩
theorem Qva (a b:Qk) (hn:a.Pairs.length<=5000) (hl:a.Pairs.length=b.Pairs.length):∃ r,Yb (Xh.step a b) (.l1 0)=some r/\(r=true↔a.Pairs=b.Pairs):=by
 refine Qbi (n:=a.Pairs.length) (fun i (_:Unit)=>Xh.S.l1 (i:Int)) (fun i _=>a.Pairs.take i=b.Pairs.take i) _ ?_ ?_ 0 () (Nat.zero_le _) (by simp)
 ·intro _ h
  rw [Qbp (Nat.le_refl _),Qbp (by omega)] at h
  exact ⟨true,by simp [Xh.step,Xh.l1],by simp [h]⟩
 intro i _ hi h
 have Ye:(0:Int)<=(i:Int)/\(i:Int) < (a.Pairs.length:Int):=by omega
 have Qwr:(0:Int)<=(i:Int)/\(i:Int) < (b.Pairs.length:Int):=by omega
 have hx:=Qch (l:=a.Pairs) (z:=Qc.z) hi
 have hy:=Qch (l:=b.Pairs) (z:=Qc.z) (i:=i) (by omega)
 simp only [Xh.step,Xh.l1,Ye.2,if_true,Ye,Qwr,and_self,wr1 hi (by omega:a.Pairs.length<=9223372036854775807)]
 generalize a.Pairs.getD (i:Int).toNat Qc.z=X at hx ⊢
 generalize b.Pairs.getD (i:Int).toNat Qc.z=Y at hy ⊢
 by_cases hXY:X=Y
 ·left
  subst hXY
  exact ⟨(),by simp,by rw [hx,hy,h]⟩
 right
 have hne:a.Pairs≠b.Pairs:=by
  intro e
  rw [e] at hx h
  rw [hx] at hy
  exact hXY (by simpa using hy)
 refine ⟨false, ?_,by simp [hne]⟩
 by_cases h1:X.Key=Y.Key
 ·by_cases h2:X.Val=Y.Val
  ·exact absurd (by cases X;cases Y;simp only at h1 h2;subst h1;subst h2;rfl) hXY
  rw [if_pos h1,if_neg h2]
 rw [if_neg h1]
 split<;>rfl
theorem Qyq {a b:Ql}:a=b↔a.Client=b.Client/\a.Seq=b.Seq/\a.Kind=b.Kind/\a.Over.Lo=b.Over.Lo/\a.Over.Hi=b.Over.Hi/\a.Old=b.Old/\a.Pairs=b.Pairs:=by
 constructor
 ·rintro rfl;exact ⟨rfl,rfl,rfl,rfl,rfl,rfl,rfl⟩
 rintro ⟨h1,h2,h3,h4,h5,h6,h7⟩
 cases a;cases b
 rename_i o1 _ _ _ _ _ o2 _
 cases o1;cases o2
 simp only at h1 h2 h3 h4 h5 h6 h7
 rw [h1,h2,h3,h4,h5,h6,h7]
theorem Qw0 {a b:Qk}:a=b↔a.Client=b.Client/\a.Seq=b.Seq/\a.Kind=b.Kind/\a.Over.Lo=b.Over.Lo/\a.Over.Hi=b.Over.Hi/\a.Old=b.Old/\a.Pairs=b.Pairs:=by
 constructor
 ·rintro rfl;exact ⟨rfl,rfl,rfl,rfl,rfl,rfl,rfl⟩
 rintro ⟨h1,h2,h3,h4,h5,h6,h7⟩
 cases a;cases b
 rename_i o1 _ _ _ _ _ o2 _
 cases o1;cases o2
 simp only at h1 h2 h3 h4 h5 h6 h7
 rw [h1,h2,h3,h4,h5,h6,h7]
theorem Qx0 (a b:Ql) (hn:a.Pairs.length<=5000):∃ r,Qcn a b=some r/\(r=true↔a=b):=by
 unfold Qcn Qcn.j1
 rw [Qyq]
 by_cases h1:a.Client=b.Client
 ·by_cases h2:a.Seq=b.Seq
  ·by_cases h3:a.Kind=b.Kind
   ·by_cases h4:a.Over.Lo=b.Over.Lo
    ·by_cases h5:a.Over.Hi=b.Over.Hi
     ·by_cases h6:a.Old=b.Old
      ·obtain ⟨r,e1,e2⟩:=Wfe a.Pairs b.Pairs hn
       rw [if_pos h1,if_pos h2,if_pos h3,if_pos h4,if_pos h5,if_pos h6,e1]
       exact ⟨r,rfl,by rw [e2];simp [h1,h2,h3,h4,h5,h6]⟩
      exact ⟨false,by rw [if_pos h1,if_pos h2,if_pos h3,if_pos h4,if_pos h5,if_neg h6],by simp [h6]⟩
     exact ⟨false,by rw [if_pos h1,if_pos h2,if_pos h3,if_pos h4,if_neg h5],by simp [h5]⟩
    exact ⟨false,by rw [if_pos h1,if_pos h2,if_pos h3,if_neg h4];split<;>rfl,by simp [h4]⟩
   exact ⟨false,by rw [if_pos h1,if_pos h2,if_neg h3],by simp [h3]⟩
  exact ⟨false,by rw [if_pos h1,if_neg h2],by simp [h2]⟩
 exact ⟨false,by rw [if_neg h1],by simp [h1]⟩
theorem Qre (a b:Qk) (hn:a.Pairs.length<=5000):∃ r,Xh a b=some r/\(r=true↔a=b):=by
 unfold Xh
 rw [Qw0]
 have jt:Xh.j1 a b true=some false:=rfl
 by_cases h1:a.Client=b.Client
 ·by_cases h2:a.Seq=b.Seq
  ·by_cases h3:a.Kind=b.Kind
   ·by_cases h4:a.Over.Lo=b.Over.Lo
    ·by_cases h5:a.Over.Hi=b.Over.Hi
     ·by_cases h6:a.Old=b.Old
      ·rw [if_pos h1,if_pos h2,if_pos h3,if_pos h4,if_pos h5,if_pos h6]
       by_cases hl:a.Pairs.length=b.Pairs.length
       ·rw [show ((a.Pairs.length:Int) != (b.Pairs.length:Int))=false by simp [hl]]
        obtain ⟨r,e1,e2⟩:=Qva a b hn hl
        exact ⟨r,e1,by rw [e2];simp [h1,h2,h3,h4,h5,h6]⟩
       rw [show ((a.Pairs.length:Int) != (b.Pairs.length:Int))=true by simp;omega]
       exact ⟨false,jt,by simp;intro _ _ _ _ _ _ h;exact hl (by rw [h])⟩
      exact ⟨false,by rw [if_pos h1,if_pos h2,if_pos h3,if_pos h4,if_pos h5,if_neg h6,jt],by simp [h6]⟩
     exact ⟨false,by rw [if_pos h1,if_pos h2,if_pos h3,if_pos h4,if_neg h5,jt],by simp [h5]⟩
    exact ⟨false,by rw [if_pos h1,if_pos h2,if_pos h3,if_neg h4,jt];split<;>rfl,by simp [h4]⟩
   exact ⟨false,by rw [if_pos h1,if_pos h2,if_neg h3,jt],by simp [h3]⟩
  exact ⟨false,by rw [if_pos h1,if_neg h2,jt],by simp [h2]⟩
 exact ⟨false,by rw [if_neg h1,jt],by simp [h1]⟩
theorem Qr8 (a b:Qa9):Qgp a b↔(if a.Time=b.Time then (if a.Client=b.Client then a.Seq < b.Seq else a.Client < b.Client) else a.Time < b.Time):=by
 unfold Qgp
 split
 ·split<;>omega
 omega
theorem Wek {a b:Qa9} (h:Qgp a b):Qcu ⟨a.Time,a.Client,a.Seq⟩ ⟨b.Time,b.Client,b.Seq⟩=true:=by
 rw [Qr8] at h
 unfold Qcu
 by_cases h1:a.Time=b.Time
 ·rw [if_pos h1] at h ⊢
  by_cases h2:a.Client=b.Client
  ·rw [if_pos h2] at h ⊢;exact decide_eq_true h
  rw [if_neg h2] at h ⊢;exact decide_eq_true h
 rw [if_neg h1] at h ⊢;exact decide_eq_true h
theorem Wa9 {a b:Qa9} (h:¬ Qgp a b):Qcu ⟨a.Time,a.Client,a.Seq⟩ ⟨b.Time,b.Client,b.Seq⟩=false:=by
 rw [Qr8] at h
 unfold Qcu
 by_cases h1:a.Time=b.Time
 ·rw [if_pos h1] at h ⊢
  by_cases h2:a.Client=b.Client
  ·rw [if_pos h2] at h ⊢;exact decide_eq_false h
  rw [if_neg h2] at h ⊢;exact decide_eq_false h
 rw [if_neg h1] at h ⊢;exact decide_eq_false h
end Go.SyP
namespace Go.SyP
open Go Go.Sy Sets
def stE (e:Qd):Qa9:=⟨e.Time,e.M.Client,e.M.Seq⟩
theorem Qte (e:Qd):Qda e=stE e:=rfl
theorem Qpi (e:Qd):Qaz (trE e)=⟨(stE e).Time,(stE e).Client,(stE e).Seq⟩:=rfl
def Qkz (l:List Qd) (i:Nat):Prop:=mOk (l.getD i Qd.z).M=true/\(0 < i->Qgp (stE (l.getD (i - 1) Qd.z)) (stE (l.getD i Qd.z)))
def Ord (l:List Qd):Prop:=∀ i,i < l.length->Qkz l i
theorem Whf (a b:Qa9):Qri a b>=0↔¬ Qgp a b:=by
 rcases Qzi a b with ⟨h1,h2⟩ | ⟨h1,h2⟩ | ⟨h1,h2⟩
 ·rw [h1];simp [h2]
 ·rw [h1];subst h2;simp;exact fun h=>(Qoh h).2 rfl
 rw [h1];simp;exact (Qoh h2).1
theorem Qne (l:List Qd) (hf:Few l):∃ r,Zb l=some r/\(r=true↔Ord l):=by
 have hl:=hf.len
 unfold Zb
 refine Qbi (n:=l.length) (fun i (_:Unit)=>Zb.S.l1 (i:Int)) (fun i _=>∀ j,j < i->Qkz l j) _ ?_ ?_ 0 () (Nat.zero_le _) (fun j hj=>by omega)
 ·intro _ h
  exact ⟨true,by simp [Zb.step,Zb.l1],by simp;exact h⟩
 intro i _ hi h
 have Ye:(0:Int)<=(i:Int)/\(i:Int) < (l.length:Int):=by omega
 have hp:=hf.prs _ (Qd0 (z:=Qd.z) hi)
 simp only [Zb.step,Zb.l1,Ye.2,if_true,Ye,and_self,show (i:Int).toNat=i from rfl,Qfj _ (by omega:(l.getD i Qd.z).M.Pairs.length<=5000),Option.bind_some,wr1 hi (by omega:l.length<=9223372036854775807),Qtm,Qte]
 have Qwk:¬ Qkz l i->¬ Ord l:=fun h1 h2=>h1 (h2 i hi)
 have Qsp:Qkz l i->∀ j,j < i+1->Qkz l j:=fun h1 j hj=>by
  rcases Nat.lt_or_ge j i with h2 | h2
  ·exact h j h2
  obtain rfl:j=i:=by omega
  exact h1
 by_cases hm:mOk (l.getD i Qd.z).M=true
 ·rw [if_pos hm]
  by_cases h0:(i:Int) > 0
  ·have hw:IntKind.wrap .i64 ((i:Int) - 1)=((i - 1:Nat):Int):=by rw [wr (by omega)];omega
   rw [if_pos h0,hw,if_pos (by omega),show ((i - 1:Nat):Int).toNat=i - 1 from rfl]
   simp only [Zb.j1]
   have hc:=Whf (stE (l.getD (i - 1) Qd.z)) (stE (l.getD i Qd.z))
   by_cases ha:Qgp (stE (l.getD (i - 1) Qd.z)) (stE (l.getD i Qd.z))
   ·left
    rw [decide_eq_false (fun h=>hc.1 h ha),if_neg (by decide)]
    exact ⟨(),by rw [wr1 hi (by omega:l.length<=9223372036854775807)],Qsp ⟨hm,fun _=>ha⟩⟩
   right
   rw [decide_eq_true (hc.2 ha),if_pos rfl]
   exact ⟨false,rfl,by simp;exact Qwk fun h1=>ha (h1.2 (by omega))⟩
  left
  rw [if_neg h0]
  simp only [Zb.j1,Bool.false_eq_true,if_false,wr1 hi (by omega:l.length<=9223372036854775807)]
  exact ⟨(),by first | rfl | trivial,Qsp ⟨hm,fun h1=>by omega⟩⟩
 right
 rw [if_neg hm]
 exact ⟨false,rfl,by simp;exact Qwk fun h1=>hm h1.1⟩
theorem Qw9 (l:List Qd) (hf:Few l):∃ r,Yj (l.map trE)=some r/\(r=true↔Ord l):=by
 have hl:=hf.len
 unfold Yj
 refine Qbi (n:=l.length) (fun i (_:Unit)=>Yj.S.l1 (i:Int)) (fun i _=>∀ j,j < i->Qkz l j) _ ?_ ?_ 0 () (Nat.zero_le _) (fun j hj=>by omega)
 ·intro _ h
  exact ⟨true,by simp [Yj.step,Yj.l1],by simp;exact h⟩
 intro i _ hi h
 have Ye:(0:Int)<=(i:Int)/\(i:Int) < (l.length:Int):=by omega
 have hp:=hf.prs _ (Qd0 (z:=Qd.z) hi)
 simp only [Yj.step,Yj.l1,List.length_map,Ye.2,if_true,Ye,and_self,show (i:Int).toNat=i from rfl,Qpr l hi,wr1 hi (by omega:l.length<=9223372036854775807)]
 rw [show (trE (l.getD i Qd.z)).M=trM (l.getD i Qd.z).M from rfl,Qh2 _ (by omega:(l.getD i Qd.z).M.Pairs.length<=5000),Option.bind_some]
 have Qwk:¬ Qkz l i->¬ Ord l:=fun h1 h2=>h1 (h2 i hi)
 have Qsp:Qkz l i->∀ j,j < i+1->Qkz l j:=fun h1 j hj=>by
  rcases Nat.lt_or_ge j i with h2 | h2
  ·exact h j h2
  obtain rfl:j=i:=by omega
  exact h1
 by_cases hm:mOk (l.getD i Qd.z).M=true
 ·rw [if_pos hm]
  by_cases h0:(i:Int) > 0
  ·have hw:IntKind.wrap .i64 ((i:Int) - 1)=((i - 1:Nat):Int):=by rw [wr (by omega)];omega
   rw [if_pos h0,hw,if_pos (by omega),show ((i - 1:Nat):Int).toNat=i - 1 from rfl,Qpr l (by omega:i - 1 < l.length),Qpi,Qpi]
   simp only [Yj.j1]
   by_cases ha:Qgp (stE (l.getD (i - 1) Qd.z)) (stE (l.getD i Qd.z))
   ·left
    rw [Wek ha]
    exact ⟨(),by rw [wr1 hi (by omega:l.length<=9223372036854775807)];rfl,Qsp ⟨hm,fun _=>ha⟩⟩
   right
   rw [Wa9 ha]
   exact ⟨false,rfl,by simp;exact Qwk fun h1=>ha (h1.2 (by omega))⟩
  left
  rw [if_neg h0]
  simp only [Yj.j1,Bool.false_eq_true,if_false,wr1 hi (by omega:l.length<=9223372036854775807)]
  exact ⟨(),by first | rfl | trivial,Qsp ⟨hm,fun h1=>by omega⟩⟩
 right
 rw [if_neg hm]
 exact ⟨false,rfl,by simp;exact Qwk fun h1=>hm h1.1⟩
theorem Qr7 (l:List Qd) (hf:Few l):∃ r,Zb l=some r/\Yj (l.map trE)=some r/\(r=true↔Ord l):=by
 obtain ⟨r,h1,h2⟩:=Qne l hf
 obtain ⟨s,h3,h4⟩:=Qw9 l hf
 have:s=r:=by rw [Bool.eq_iff_iff,h2,h4]
 subst this
 exact ⟨s,h1,h3,h2⟩
theorem Ord.ok {l:List Qd} (h:Ord l):okE l=true:=by
 unfold okE
 rw [List.all_eq_true]
 intro e he
 obtain ⟨i,hi,rfl⟩:=List.mem_iff_getElem.1 he
 have:=(h i hi).1
 simpa [List.getD_eq_getElem?_getD,hi] using this
def trC (c:Yv):Xf:=⟨c.Val,c.Some⟩
def trV (e:Qy):Xc:=⟨e.Kind,e.Client,trM e.M,e.Key,trC e.Cell,e.Mark⟩
theorem Wee (l:List Qy) {i:Nat} (hi:i < l.length):(l.map trV).getD i Xc.z=trV (l.getD i Qy.z):=by
 simp [List.getD_eq_getElem?_getD,hi]
structure Qy9 (l:List Qy):Prop where
 len:l.length<=30
 prs:∀ e∈l,e.M.Pairs.length<=10
theorem Qr6 (l:List Qd) (hl:l.length<=5000) (hp:∀ e∈l,e.M.Pairs.length<=5000):Qa2 l=some (l.map trE):=by
 unfold Qa2 Qr
 rw [Wer [] (by simp),Option.bind_some,Qau]
 show ((Yb (Qr.step l (List.map tr [])) (.l2 ((0:Nat):Int) [])).bind fun v1=>some v1.Log)=some (l.map trE)
 have h:=Qhh (step:=Qr.step l (List.map tr [])) l Qd.z (fun i t=>Qr.S.l2 (i:Int) t) (fun t e=>t ++ [trE e]) (fun i t=>t.length=i) (fun i t hi hlen=>by
  have Ye:(0:Int)<=(i:Int)/\(i:Int) < (l.length:Int):=by omega
  have hpp:=hp _ (Qd0 (z:=Qd.z) hi)
  simp only [Qr.step,Qr.l2,Ye.2,if_true,Ye,and_self,show (i:Int).toNat=i from rfl,Qya _ hpp,Option.bind_some,wr1 hi (by omega:l.length<=9223372036854775807)]
  rw [if_pos (by omega)]
  exact ⟨rfl,by simp [hlen]⟩) [] rfl
 have e:=h.1
 rw [e,Qau]
 have hf:∀ (l:List Qd) (t:List Qe),l.foldl (fun t e=>t ++ [trE e]) t=t ++ l.map trE:=by
  intro l
  induction l with
  | nil=>intro t;simp
  | cons e l ih=>intro t;rw [List.foldl_cons,ih];simp
 rw [hf,List.nil_append]
 have s2:Qr.step l (List.map tr []) (.l2 (l.length:Int) (l.map trE))=some (.inl (.l3 (l.map trE))):=by
  simp only [Qr.step,Qr.l2,Int.lt_irrefl,if_false]
 rw [s2]
 show ((Yb (Qr.step l (List.map tr [])) (.l3 (l.map trE))).bind fun v1=>some v1.Log)=some (l.map trE)
 rw [Qau]
 simp only [Qr.step,Qr.l3]
 rfl
def Qsg (c:Yv):Bool:=if c.Some=true then decide (-1099511627776<=c.Val) && decide (c.Val<=1099511627776) else decide (c.Val=0)
theorem Qu5 (c:Yv):Qdg c=Qsg c:=by
 unfold Qdg Qdg.j1 Qsg
 by_cases h:c.Some=true
 ·rw [if_pos h,if_pos h]
  by_cases h1:c.Val>=-1099511627776
  ·rw [if_pos h1,decide_eq_true (show -1099511627776<=c.Val from h1),Bool.true_and]
  rw [if_neg h1,decide_eq_false (show ¬ -1099511627776<=c.Val from h1),Bool.false_and]
 rw [if_neg h,if_neg h]
 rfl
def Qij (e:Qy):Bool:=
 if e.Kind=1 then mOk e.M && decide (e.M.Client=e.Client/\e.Key=0/\e.Cell.Val=0/\e.Cell.Some=false/\e.Mark=0)
 else if e.Kind=2 then decide (e.M.Client=0/\e.M.Seq=0/\e.M.Kind=0/\e.M.Over.Lo=0/\e.M.Over.Hi=0/\e.M.Old=0/\e.M.Pairs.length=0) && (decide (1<=e.Client/\e.Client<=1048576/\0<=e.Key/\e.Key < 4096/\0<=e.Mark) && Qsg e.Cell)
 else false
theorem Wc5 (e:Qy) (hn:e.M.Pairs.length<=5000):Ze e=some (Qij e):=by
 unfold Ze Ze.j1 Ze.j2 Qij
 by_cases k1:e.Kind=1
 ·rw [if_pos k1,if_pos k1,Qfj _ hn,Option.bind_some]
  cases hm:mOk e.M with
  | false=>simp
  | true=>
   simp only [if_true,Bool.true_and]
   by_cases h1:e.M.Client=e.Client<;>by_cases h2:e.Key=0<;>by_cases h3:e.Cell.Val=0<;>by_cases h4:e.Cell.Some=true<;>simp [h1,h2,h3,h4]<;>first | rfl | skip
 rw [if_neg k1,if_neg k1]
 by_cases k2:e.Kind=2
 ·rw [if_pos k2,if_pos k2]
  obtain ⟨r,e1,e2⟩:=Qx0 e.M (⟨0,0,0,[],(⟨0,0⟩:Qb),0⟩:Ql) hn
  rw [Qyq] at e2
  simp only at e2
  rw [e1,Option.bind_some,Qu5]
  have e3:decide (e.M.Client=0/\e.M.Seq=0/\e.M.Kind=0/\e.M.Over.Lo=0/\e.M.Over.Hi=0/\e.M.Old=0/\e.M.Pairs.length=0)=r:=by
   rw [Bool.eq_iff_iff,e2]
   simp [List.length_eq_zero_iff]
  rw [e3]
  cases r with
  | false=>simp
  | true=>
   simp only [if_true,Bool.true_and]
   by_cases h1:e.Client>=1<;>by_cases h2:e.Client<=1048576<;>by_cases h3:e.Key>=0<;>by_cases h4:e.Key < 4096<;>cases h5:Qsg e.Cell<;>simp [h1,h2,h3,h4]
 rw [if_neg k2,if_neg k2]
theorem Qvc (e:Qy) (hn:e.M.Pairs.length<=5000):Wx (trV e)=some (Qij e):=by
 unfold Wx Qij trV
 simp only
 by_cases k1:e.Kind=1
 ·rw [if_pos k1,if_pos k1,Qh2 _ hn,Option.bind_some]
  unfold Wx.j1
  cases hm:mOk e.M with
  | false=>simp
  | true=>
   simp only [if_true,Bool.true_and,trM,trC]
   by_cases h1:e.M.Client=e.Client<;>by_cases h2:e.Key=0<;>by_cases h3:e.Cell.Val=0<;>by_cases h4:e.Cell.Some=true<;>simp [h1,h2,h3,h4]<;>first | rfl | skip
 rw [if_neg k1,if_neg k1]
 unfold Wx.j2 Wx.j3
 by_cases k2:e.Kind=2
 ·rw [if_pos k2,if_pos k2]
  obtain ⟨r,e1,e2⟩:=Qre (trM e.M) (⟨0,0,0,[],(⟨0,0⟩:Qi),0⟩:Qk) (by simpa [trM] using hn)
  rw [Qw0] at e2
  simp only [trM] at e2
  rw [e1,Option.bind_some]
  have e3:decide (e.M.Client=0/\e.M.Seq=0/\e.M.Kind=0/\e.M.Over.Lo=0/\e.M.Over.Hi=0/\e.M.Old=0/\e.M.Pairs.length=0)=r:=by
   rw [Bool.eq_iff_iff,e2]
   simp [List.length_eq_zero_iff]
  rw [e3]
  unfold Qsg
  simp only [trC]
  cases r with
  | false=>simp
  | true=>
   simp only [if_true,Bool.true_and]
   by_cases h1:e.Client < 1
   ·simp [h1];omega
   by_cases h2:e.Client > 1048576
   ·simp [h1,h2];omega
   by_cases h3:e.Key < 0
   ·simp [h1,h2,h3];omega
   by_cases h4:e.Key>=4096
   ·simp [h1,h2,h3,h4];omega
   by_cases h5:e.Mark < 0
   ·simp [h1,h2,h3,h4,h5];omega
   have e4:(decide (1<=e.Client/\e.Client<=1048576/\0<=e.Key/\e.Key < 4096/\0<=e.Mark))=true:=by simp;omega
   rw [e4,Bool.true_and,if_neg h1,if_neg h2,if_neg h3,if_neg h4,if_neg (by simp [h5])]
   by_cases h6:e.Cell.Some=true
   ·rw [if_pos h6]
    refine (if_pos h6).trans ?_
    by_cases h7:e.Cell.Val>=-1099511627776
    ·exact (if_pos h7).trans (by rw [decide_eq_true (show -1099511627776<=e.Cell.Val from h7),Bool.true_and];rfl)
    exact (if_neg h7).trans (by rw [decide_eq_false (show ¬ -1099511627776<=e.Cell.Val from h7),Bool.false_and])
   rw [if_neg h6]
   refine (if_neg h6).trans ?_
   by_cases h7:e.Cell.Val=0<;>simp [h7]
 rw [if_neg k2,if_neg k2]
 rfl
end Go.SyP
