/- Stamps, the same mutations: at the seat of audit. -/
import Derived.Test.YtdndobkfnmommaaP24J
set_option linter.unusedVariables false
set_option linter.unusedSimpArgs false
namespace Go.SyP
open Go Go.Sy Sets

def cmp3 (x y:Int):Int:=if x < y then -1 else if x > y then 1 else 0
def cmpS (a b:api_Stamp):Int:=if cmp3 a.Time b.Time≠0 then cmp3 a.Time b.Time else if cmp3 a.Client b.Client≠0 then cmp3 a.Client b.Client else cmp3 a.Seq b.Seq
theorem cmp_eq (x y:Int):cmp_Compare_int x y=cmp3 x y:=by
 unfold cmp_Compare_int cmp_isNaN_int cmp3
 by_cases h1:x < y
 ·simp [h1]
 ·by_cases h2:x > y
  ·simp [h1,h2]
  ·simp [h1,h2]
theorem mut_Compare_eq (a b:api_Stamp):mut_Compare a b=some (cmpS a b):=by
 unfold mut_Compare cmp_Or_int cmpS
 rw [cmp_eq,cmp_eq,cmp_eq]
 generalize cmp3 a.Time b.Time=x
 generalize cmp3 a.Client b.Client=y
 generalize cmp3 a.Seq b.Seq=z
 have w0:IntKind.wrap .i64 ((0:Int)+1)=1:=by decide
 have w1:IntKind.wrap .i64 ((1:Int)+1)=2:=by decide
 have w2:IntKind.wrap .i64 ((2:Int)+1)=3:=by decide
 rw [loop_eq]
 simp only [cmp_Or_int.step,cmp_Or_int.l1,List.length_cons,List.length_nil]
 by_cases hx:x=0
 ·subst hx
  simp only [w0,stk]
  rw [show (if (0:Int) < ((0+1+1+1:Nat):Int) then _ else _)=_ from if_pos (by decide),if_pos (by decide)]
  simp only [List.getD_cons_zero,Int.toNat_zero,if_true]
  rw [loop_eq]
  simp only [cmp_Or_int.step,cmp_Or_int.l1,List.length_cons,List.length_nil,w1]
  rw [if_pos (by decide),if_pos (by decide)]
  simp only [show (1:Int).toNat=1 from rfl,List.getD_cons_succ,List.getD_cons_zero]
  by_cases hy:y=0
  ·subst hy
   simp only [if_true,stk]
   rw [loop_eq]
   simp only [cmp_Or_int.step,cmp_Or_int.l1,List.length_cons,List.length_nil,w2]
   rw [if_pos (by decide),if_pos (by decide)]
   simp only [show (2:Int).toNat=2 from rfl,List.getD_cons_succ,List.getD_cons_zero]
   by_cases hz:z=0
   ·subst hz
    simp only [if_true,stk]
    rw [loop_eq]
    simp [cmp_Or_int.step,cmp_Or_int.l1,stk]
   ·simp [hz,stk]
  ·simp [hy,stk]
 ·rw [if_pos (by decide),if_pos (by decide)]
  simp [hx,stk]

theorem cmp3_cases (x y:Int):(cmp3 x y=-1∧x < y)∨(cmp3 x y=0∧x=y)∨(cmp3 x y=1∧x > y):=by
 unfold cmp3
 split
 ·exact .inl ⟨rfl,‹_›⟩
 ·split
  ·exact .inr (.inr ⟨rfl,‹_›⟩)
  ·exact .inr (.inl ⟨rfl,by omega⟩)
def aheadS (a b:api_Stamp):Prop:=a.Time < b.Time∨a.Time=b.Time∧(a.Client < b.Client∨a.Client=b.Client∧a.Seq < b.Seq)
theorem cmpS_cases (a b:api_Stamp):(cmpS a b=-1∧aheadS a b)∨(cmpS a b=0∧a=b)∨(cmpS a b=1∧aheadS b a):=by
 unfold cmpS aheadS
 rcases cmp3_cases a.Time b.Time with ⟨e,h⟩ | ⟨e,h⟩ | ⟨e,h⟩
 ·rw [e];exact .inl ⟨rfl,.inl h⟩
 ·rw [e]
  rcases cmp3_cases a.Client b.Client with ⟨e2,h2⟩ | ⟨e2,h2⟩ | ⟨e2,h2⟩
  ·rw [e2];exact .inl ⟨rfl,.inr ⟨h,.inl h2⟩⟩
  ·rw [e2]
   rcases cmp3_cases a.Seq b.Seq with ⟨e3,h3⟩ | ⟨e3,h3⟩ | ⟨e3,h3⟩
   ·rw [e3];exact .inl ⟨rfl,.inr ⟨h,.inr ⟨h2,h3⟩⟩⟩
   ·rw [e3]
    refine .inr (.inl ⟨rfl, ?_⟩)
    cases a;cases b
    simp only at h h2 h3
    rw [h,h2,h3]
   ·rw [e3];exact .inr (.inr ⟨rfl,.inr ⟨h.symm,.inr ⟨h2.symm,h3⟩⟩⟩)
  ·rw [e2];exact .inr (.inr ⟨rfl,.inr ⟨h.symm,.inl h2⟩⟩)
 ·rw [e];exact .inr (.inr ⟨rfl,.inl h⟩)
theorem aheadS_irrefl {a b:api_Stamp} (h:aheadS a b):¬ aheadS b a∧a≠b:=by
 unfold aheadS at *
 refine ⟨by omega, ?_⟩
 rintro rfl
 omega
theorem equal_eq (x y:List api_Pair) (hn:x.length≤5000):∃ r,slices_Equal_api_Pair x y=some r∧(r=true↔x=y):=by
 unfold slices_Equal_api_Pair
 by_cases hl:(x.length:Int)=(y.length:Int)
 ·rw [if_pos hl]
  refine for_post (n:=x.length) (fun i (_:Unit)=>slices_Equal_api_Pair.S.l1 (i:Int)) (fun i _=>x.take i=y.take i) _ ?_ ?_ 0 () (Nat.zero_le _) (by simp)
  ·intro _ h
   rw [take_all (Nat.le_refl _),take_all (by omega)] at h
   exact ⟨true,by simp [slices_Equal_api_Pair.step,slices_Equal_api_Pair.l1],by simp [h]⟩
  ·intro i _ hi h
   have hstep:(0:Int)≤(i:Int)∧(i:Int) < (x.length:Int):=by omega
   have hstep2:(0:Int)≤(i:Int)∧(i:Int) < (y.length:Int):=by omega
   have hx:=take_atI (l:=x) (z:=api_Pair.z) hi
   have hy:=take_atI (l:=y) (z:=api_Pair.z) (i:=i) (by omega)
   simp only [slices_Equal_api_Pair.step,slices_Equal_api_Pair.l1,hstep.2,if_true,hstep,hstep2,and_self,wr1 hi (by omega:x.length≤9223372036854775807)]
   generalize x.getD (i:Int).toNat api_Pair.z=X at hx ⊢
   generalize y.getD (i:Int).toNat api_Pair.z=Y at hy ⊢
   by_cases hXY:X=Y
   ·left
    subst hXY
    exact ⟨(),by simp,by rw [hx,hy,h]⟩
   ·right
    have hne:x≠y:=by
     rintro rfl
     rw [hx] at hy
     exact hXY (by simpa using hy)
    refine ⟨false, ?_,by simp [hne]⟩
    by_cases h1:X.Key=Y.Key
    ·by_cases h2:X.Val=Y.Val
     ·exact absurd (by cases X;cases Y;simp only at h1 h2;subst h1;subst h2;rfl) hXY
     ·rw [if_pos h1,if_neg h2]
    ·rw [if_neg h1]
     split<;>rfl
 ·rw [if_neg hl]
  exact ⟨false,rfl,by simp;rintro rfl;exact hl rfl⟩
theorem ref_Same_loop (a b:spliceref04_Mut) (hn:a.Pairs.length≤5000) (hl:a.Pairs.length=b.Pairs.length):∃ r,goLoop (spliceref04_Same.step a b) (.l1 0)=some r∧(r=true↔a.Pairs=b.Pairs):=by
 refine for_post (n:=a.Pairs.length) (fun i (_:Unit)=>spliceref04_Same.S.l1 (i:Int)) (fun i _=>a.Pairs.take i=b.Pairs.take i) _ ?_ ?_ 0 () (Nat.zero_le _) (by simp)
 ·intro _ h
  rw [take_all (Nat.le_refl _),take_all (by omega)] at h
  exact ⟨true,by simp [spliceref04_Same.step,spliceref04_Same.l1],by simp [h]⟩
 ·intro i _ hi h
  have hstep:(0:Int)≤(i:Int)∧(i:Int) < (a.Pairs.length:Int):=by omega
  have hstep2:(0:Int)≤(i:Int)∧(i:Int) < (b.Pairs.length:Int):=by omega
  have hx:=take_atI (l:=a.Pairs) (z:=spliceref04_Pair.z) hi
  have hy:=take_atI (l:=b.Pairs) (z:=spliceref04_Pair.z) (i:=i) (by omega)
  simp only [spliceref04_Same.step,spliceref04_Same.l1,hstep.2,if_true,hstep,hstep2,and_self,wr1 hi (by omega:a.Pairs.length≤9223372036854775807)]
  generalize a.Pairs.getD (i:Int).toNat spliceref04_Pair.z=X at hx ⊢
  generalize b.Pairs.getD (i:Int).toNat spliceref04_Pair.z=Y at hy ⊢
  by_cases hXY:X=Y
  ·left
   subst hXY
   exact ⟨(),by simp,by rw [hx,hy,h]⟩
  ·right
   have hne:a.Pairs≠b.Pairs:=by
    intro e
    rw [e] at hx h
    rw [hx] at hy
    exact hXY (by simpa using hy)
   refine ⟨false, ?_,by simp [hne]⟩
   by_cases h1:X.Key=Y.Key
   ·by_cases h2:X.Val=Y.Val
    ·exact absurd (by cases X;cases Y;simp only at h1 h2;subst h1;subst h2;rfl) hXY
    ·rw [if_pos h1,if_neg h2]
   ·rw [if_neg h1]
    split<;>rfl
theorem mut_ext {a b:api_Mut}:a=b↔a.Client=b.Client∧a.Seq=b.Seq∧a.Kind=b.Kind∧a.Over.Lo=b.Over.Lo∧a.Over.Hi=b.Over.Hi∧a.Old=b.Old∧a.Pairs=b.Pairs:=by
 constructor
 ·rintro rfl;exact ⟨rfl,rfl,rfl,rfl,rfl,rfl,rfl⟩
 ·rintro ⟨h1,h2,h3,h4,h5,h6,h7⟩
  cases a;cases b
  rename_i o1 _ _ _ _ _ o2 _
  cases o1;cases o2
  simp only at h1 h2 h3 h4 h5 h6 h7
  rw [h1,h2,h3,h4,h5,h6,h7]
theorem mutR_ext {a b:spliceref04_Mut}:a=b↔a.Client=b.Client∧a.Seq=b.Seq∧a.Kind=b.Kind∧a.Over.Lo=b.Over.Lo∧a.Over.Hi=b.Over.Hi∧a.Old=b.Old∧a.Pairs=b.Pairs:=by
 constructor
 ·rintro rfl;exact ⟨rfl,rfl,rfl,rfl,rfl,rfl,rfl⟩
 ·rintro ⟨h1,h2,h3,h4,h5,h6,h7⟩
  cases a;cases b
  rename_i o1 _ _ _ _ _ o2 _
  cases o1;cases o2
  simp only at h1 h2 h3 h4 h5 h6 h7
  rw [h1,h2,h3,h4,h5,h6,h7]
theorem mut_Same_eq (a b:api_Mut) (hn:a.Pairs.length≤5000):∃ r,mut_Same a b=some r∧(r=true↔a=b):=by
 unfold mut_Same mut_Same.j1
 rw [mut_ext]
 by_cases h1:a.Client=b.Client
 ·by_cases h2:a.Seq=b.Seq
  ·by_cases h3:a.Kind=b.Kind
   ·by_cases h4:a.Over.Lo=b.Over.Lo
    ·by_cases h5:a.Over.Hi=b.Over.Hi
     ·by_cases h6:a.Old=b.Old
      ·obtain ⟨r,e1,e2⟩:=equal_eq a.Pairs b.Pairs hn
       rw [if_pos h1,if_pos h2,if_pos h3,if_pos h4,if_pos h5,if_pos h6,e1]
       exact ⟨r,rfl,by rw [e2];simp [h1,h2,h3,h4,h5,h6]⟩
      ·exact ⟨false,by rw [if_pos h1,if_pos h2,if_pos h3,if_pos h4,if_pos h5,if_neg h6],by simp [h6]⟩
     ·exact ⟨false,by rw [if_pos h1,if_pos h2,if_pos h3,if_pos h4,if_neg h5],by simp [h5]⟩
    ·exact ⟨false,by rw [if_pos h1,if_pos h2,if_pos h3,if_neg h4];split<;>rfl,by simp [h4]⟩
   ·exact ⟨false,by rw [if_pos h1,if_pos h2,if_neg h3],by simp [h3]⟩
  ·exact ⟨false,by rw [if_pos h1,if_neg h2],by simp [h2]⟩
 ·exact ⟨false,by rw [if_neg h1],by simp [h1]⟩
theorem ref_Same_eq (a b:spliceref04_Mut) (hn:a.Pairs.length≤5000):∃ r,spliceref04_Same a b=some r∧(r=true↔a=b):=by
 unfold spliceref04_Same
 rw [mutR_ext]
 have jt:spliceref04_Same.j1 a b true=some false:=rfl
 by_cases h1:a.Client=b.Client
 ·by_cases h2:a.Seq=b.Seq
  ·by_cases h3:a.Kind=b.Kind
   ·by_cases h4:a.Over.Lo=b.Over.Lo
    ·by_cases h5:a.Over.Hi=b.Over.Hi
     ·by_cases h6:a.Old=b.Old
      ·rw [if_pos h1,if_pos h2,if_pos h3,if_pos h4,if_pos h5,if_pos h6]
       by_cases hl:a.Pairs.length=b.Pairs.length
       ·rw [show ((a.Pairs.length:Int) != (b.Pairs.length:Int))=false by simp [hl]]
        obtain ⟨r,e1,e2⟩:=ref_Same_loop a b hn hl
        exact ⟨r,e1,by rw [e2];simp [h1,h2,h3,h4,h5,h6]⟩
       ·rw [show ((a.Pairs.length:Int) != (b.Pairs.length:Int))=true by simp;omega]
        exact ⟨false,jt,by simp;intro _ _ _ _ _ _ h;exact hl (by rw [h])⟩
      ·exact ⟨false,by rw [if_pos h1,if_pos h2,if_pos h3,if_pos h4,if_pos h5,if_neg h6,jt],by simp [h6]⟩
     ·exact ⟨false,by rw [if_pos h1,if_pos h2,if_pos h3,if_pos h4,if_neg h5,jt],by simp [h5]⟩
    ·exact ⟨false,by rw [if_pos h1,if_pos h2,if_pos h3,if_neg h4,jt];split<;>rfl,by simp [h4]⟩
   ·exact ⟨false,by rw [if_pos h1,if_pos h2,if_neg h3,jt],by simp [h3]⟩
  ·exact ⟨false,by rw [if_pos h1,if_neg h2,jt],by simp [h2]⟩
 ·exact ⟨false,by rw [if_neg h1,jt],by simp [h1]⟩
theorem aheadS_dec (a b:api_Stamp):aheadS a b↔(if a.Time=b.Time then (if a.Client=b.Client then a.Seq < b.Seq else a.Client < b.Client) else a.Time < b.Time):=by
 unfold aheadS
 split
 ·split<;>omega
 ·omega
theorem Ahead_of {a b:api_Stamp} (h:aheadS a b):spliceref04_Ahead ⟨a.Time,a.Client,a.Seq⟩ ⟨b.Time,b.Client,b.Seq⟩=true:=by
 rw [aheadS_dec] at h
 unfold spliceref04_Ahead
 by_cases h1:a.Time=b.Time
 ·rw [if_pos h1] at h ⊢
  by_cases h2:a.Client=b.Client
  ·rw [if_pos h2] at h ⊢;exact decide_eq_true h
  ·rw [if_neg h2] at h ⊢;exact decide_eq_true h
 ·rw [if_neg h1] at h ⊢;exact decide_eq_true h
theorem Ahead_not {a b:api_Stamp} (h:¬ aheadS a b):spliceref04_Ahead ⟨a.Time,a.Client,a.Seq⟩ ⟨b.Time,b.Client,b.Seq⟩=false:=by
 rw [aheadS_dec] at h
 unfold spliceref04_Ahead
 by_cases h1:a.Time=b.Time
 ·rw [if_pos h1] at h ⊢
  by_cases h2:a.Client=b.Client
  ·rw [if_pos h2] at h ⊢;exact decide_eq_false h
  ·rw [if_neg h2] at h ⊢;exact decide_eq_false h
 ·rw [if_neg h1] at h ⊢;exact decide_eq_false h
end Go.SyP
set_option linter.unusedVariables false
set_option linter.unusedSimpArgs false
namespace Go.SyP
open Go Go.Sy Sets

def stE (e:api_Entry):api_Stamp:=⟨e.Time,e.M.Client,e.M.Seq⟩
theorem audit_stamp_eq (e:api_Entry):audit_stamp e=stE e:=rfl
theorem ref_stamp_eq (e:api_Entry):spliceref24_stamp (trE e)=⟨(stE e).Time,(stE e).Client,(stE e).Seq⟩:=rfl

def OrdAt (l:List api_Entry) (i:Nat):Prop:=mOk (l.getD i api_Entry.z).M=true∧(0 < i→aheadS (stE (l.getD (i - 1) api_Entry.z)) (stE (l.getD i api_Entry.z)))
def Ord (l:List api_Entry):Prop:=∀ i,i < l.length→OrdAt l i
theorem cmpS_lt (a b:api_Stamp):cmpS a b≥0↔¬ aheadS a b:=by
 rcases cmpS_cases a b with ⟨h1,h2⟩ | ⟨h1,h2⟩ | ⟨h1,h2⟩
 ·rw [h1];simp [h2]
 ·rw [h1];subst h2;simp;exact fun h=>(aheadS_irrefl h).2 rfl
 ·rw [h1];simp;exact (aheadS_irrefl h2).1
theorem Order_eq (l:List api_Entry) (hf:Few l):∃ r,audit_Order l=some r∧(r=true↔Ord l):=by
 have hl:=hf.len
 unfold audit_Order
 refine for_post (n:=l.length) (fun i (_:Unit)=>audit_Order.S.l1 (i:Int)) (fun i _=>∀ j,j < i→OrdAt l j) _ ?_ ?_ 0 () (Nat.zero_le _) (fun j hj=>by omega)
 ·intro _ h
  exact ⟨true,by simp [audit_Order.step,audit_Order.l1],by simp;exact h⟩
 ·intro i _ hi h
  have hstep:(0:Int)≤(i:Int)∧(i:Int) < (l.length:Int):=by omega
  have hp:=hf.prs _ (getD_in (z:=api_Entry.z) hi)
  simp only [audit_Order.step,audit_Order.l1,hstep.2,if_true,hstep,and_self,show (i:Int).toNat=i from rfl,mut_Check_eq _ (by omega:(l.getD i api_Entry.z).M.Pairs.length≤5000),Option.bind_some,wr1 hi (by omega:l.length≤9223372036854775807),mut_Compare_eq,audit_stamp_eq]
  have hbad:¬ OrdAt l i→¬ Ord l:=fun h1 h2=>h1 (h2 i hi)
  have hgood:OrdAt l i→∀ j,j < i+1→OrdAt l j:=fun h1 j hj=>by
   rcases Nat.lt_or_ge j i with h2 | h2
   ·exact h j h2
   ·obtain rfl:j=i:=by omega
    exact h1
  by_cases hm:mOk (l.getD i api_Entry.z).M=true
  ·rw [if_pos hm]
   by_cases h0:(i:Int) > 0
   ·have hw:IntKind.wrap .i64 ((i:Int) - 1)=((i - 1:Nat):Int):=by rw [wr (by omega)];omega
    rw [if_pos h0,hw,if_pos (by omega),show ((i - 1:Nat):Int).toNat=i - 1 from rfl]
    simp only [audit_Order.j1]
    have hc:=cmpS_lt (stE (l.getD (i - 1) api_Entry.z)) (stE (l.getD i api_Entry.z))
    by_cases ha:aheadS (stE (l.getD (i - 1) api_Entry.z)) (stE (l.getD i api_Entry.z))
    ·left
     rw [decide_eq_false (fun h=>hc.1 h ha),if_neg (by decide)]
     exact ⟨(),by rw [wr1 hi (by omega:l.length≤9223372036854775807)],hgood ⟨hm,fun _=>ha⟩⟩
    ·right
     rw [decide_eq_true (hc.2 ha),if_pos rfl]
     exact ⟨false,rfl,by simp;exact hbad fun h1=>ha (h1.2 (by omega))⟩
   ·left
    rw [if_neg h0]
    simp only [audit_Order.j1,Bool.false_eq_true,if_false,wr1 hi (by omega:l.length≤9223372036854775807)]
    exact ⟨(),by first | rfl | trivial,hgood ⟨hm,fun h1=>by omega⟩⟩
  ·right
   rw [if_neg hm]
   exact ⟨false,rfl,by simp;exact hbad fun h1=>hm h1.1⟩
theorem ref_Order_eq (l:List api_Entry) (hf:Few l):∃ r,spliceref24_Order (l.map trE)=some r∧(r=true↔Ord l):=by
 have hl:=hf.len
 unfold spliceref24_Order
 refine for_post (n:=l.length) (fun i (_:Unit)=>spliceref24_Order.S.l1 (i:Int)) (fun i _=>∀ j,j < i→OrdAt l j) _ ?_ ?_ 0 () (Nat.zero_le _) (fun j hj=>by omega)
 ·intro _ h
  exact ⟨true,by simp [spliceref24_Order.step,spliceref24_Order.l1],by simp;exact h⟩
 ·intro i _ hi h
  have hstep:(0:Int)≤(i:Int)∧(i:Int) < (l.length:Int):=by omega
  have hp:=hf.prs _ (getD_in (z:=api_Entry.z) hi)
  simp only [spliceref24_Order.step,spliceref24_Order.l1,List.length_map,hstep.2,if_true,hstep,and_self,show (i:Int).toNat=i from rfl,trE_at l hi,wr1 hi (by omega:l.length≤9223372036854775807)]
  rw [show (trE (l.getD i api_Entry.z)).M=trM (l.getD i api_Entry.z).M from rfl,ref_Check_eq _ (by omega:(l.getD i api_Entry.z).M.Pairs.length≤5000),Option.bind_some]
  have hbad:¬ OrdAt l i→¬ Ord l:=fun h1 h2=>h1 (h2 i hi)
  have hgood:OrdAt l i→∀ j,j < i+1→OrdAt l j:=fun h1 j hj=>by
   rcases Nat.lt_or_ge j i with h2 | h2
   ·exact h j h2
   ·obtain rfl:j=i:=by omega
    exact h1
  by_cases hm:mOk (l.getD i api_Entry.z).M=true
  ·rw [if_pos hm]
   by_cases h0:(i:Int) > 0
   ·have hw:IntKind.wrap .i64 ((i:Int) - 1)=((i - 1:Nat):Int):=by rw [wr (by omega)];omega
    rw [if_pos h0,hw,if_pos (by omega),show ((i - 1:Nat):Int).toNat=i - 1 from rfl,trE_at l (by omega:i - 1 < l.length),ref_stamp_eq,ref_stamp_eq]
    simp only [spliceref24_Order.j1]
    by_cases ha:aheadS (stE (l.getD (i - 1) api_Entry.z)) (stE (l.getD i api_Entry.z))
    ·left
     rw [Ahead_of ha]
     exact ⟨(),by rw [wr1 hi (by omega:l.length≤9223372036854775807)];rfl,hgood ⟨hm,fun _=>ha⟩⟩
    ·right
     rw [Ahead_not ha]
     exact ⟨false,rfl,by simp;exact hbad fun h1=>ha (h1.2 (by omega))⟩
   ·left
    rw [if_neg h0]
    simp only [spliceref24_Order.j1,Bool.false_eq_true,if_false,wr1 hi (by omega:l.length≤9223372036854775807)]
    exact ⟨(),by first | rfl | trivial,hgood ⟨hm,fun h1=>by omega⟩⟩
  ·right
   rw [if_neg hm]
   exact ⟨false,rfl,by simp;exact hbad fun h1=>hm h1.1⟩
theorem Order_same (l:List api_Entry) (hf:Few l):∃ r,audit_Order l=some r∧spliceref24_Order (l.map trE)=some r∧(r=true↔Ord l):=by
 obtain ⟨r,h1,h2⟩:=Order_eq l hf
 obtain ⟨s,h3,h4⟩:=ref_Order_eq l hf
 have:s=r:=by rw [Bool.eq_iff_iff,h2,h4]
 subst this
 exact ⟨s,h1,h3,h2⟩
theorem Ord.ok {l:List api_Entry} (h:Ord l):okE l=true:=by
 unfold okE
 rw [List.all_eq_true]
 intro e he
 obtain ⟨i,hi,rfl⟩:=List.mem_iff_getElem.1 he
 have:=(h i hi).1
 simpa [List.getD_eq_getElem?_getD,hi] using this

def trC (c:api_Cell):spliceref05_Cell:=⟨c.Val,c.Some⟩
def trV (e:api_Event):spliceref24_Event:=⟨e.Kind,e.Client,trM e.M,e.Key,trC e.Cell,e.Mark⟩
theorem trV_at (l:List api_Event) {i:Nat} (hi:i < l.length):(l.map trV).getD i spliceref24_Event.z=trV (l.getD i api_Event.z):=by
 simp [List.getD_eq_getElem?_getD,hi]
structure FewV (l:List api_Event):Prop where
 len:l.length≤30
 prs:∀ e∈l,e.M.Pairs.length≤10

theorem events_eq (l:List api_Event) (hf:FewV l):splicelaw24_events l=some (l.map trV):=by
 have hl:=hf.len
 unfold splicelaw24_events
 have h:=for_fold (step:=splicelaw24_events.step l) l api_Event.z (fun i t=>splicelaw24_events.S.l1 (i:Int) t) (fun t e=>t ++ [trV e]) (fun i t=>t.length=i) (fun i t hi hlen=>by
  have hstep:(0:Int)≤(i:Int)∧(i:Int) < (l.length:Int):=by omega
  have hpp:=hf.prs _ (getD_in (z:=api_Event.z) hi)
  simp only [splicelaw24_events.step,splicelaw24_events.l1,hstep.2,if_true,hstep,and_self,show (i:Int).toNat=i from rfl,RefM_eq _ (by omega:(l.getD i api_Event.z).M.Pairs.length≤5000),Option.bind_some,wr1 hi (by omega:l.length≤9223372036854775807)]
  rw [if_pos (by omega)]
  exact ⟨rfl,by simp [hlen]⟩) [] rfl
 have e:=h.1
 simp only [show ((0:Nat):Int)=0 from rfl] at e
 rw [e,loop_eq]
 have hf:∀ (l:List api_Event) (t:List spliceref24_Event),l.foldl (fun t e=>t ++ [trV e]) t=t ++ l.map trV:=by
  intro l
  induction l with
  | nil=>intro t;simp
  | cons e l ih=>intro t;rw [List.foldl_cons,ih];simp
 rw [hf,List.nil_append]
 simp [splicelaw24_events.step,splicelaw24_events.l1,stk]

theorem Entries_eq (l:List api_Entry) (hl:l.length≤5000) (hp:∀ e∈l,e.M.Pairs.length≤5000):splicelaw24_Entries l=some (l.map trE):=by
 unfold splicelaw24_Entries splicelaw12_Ref_c8
 rw [Refs5_eq [] (by simp),Option.bind_some,loop_eq]
 show ((goLoop (splicelaw12_Ref_c8.step l (List.map tr [])) (.l2 ((0:Nat):Int) [])).bind fun v1=>some v1.Log)=some (l.map trE)
 have h:=for_fold (step:=splicelaw12_Ref_c8.step l (List.map tr [])) l api_Entry.z (fun i t=>splicelaw12_Ref_c8.S.l2 (i:Int) t) (fun t e=>t ++ [trE e]) (fun i t=>t.length=i) (fun i t hi hlen=>by
  have hstep:(0:Int)≤(i:Int)∧(i:Int) < (l.length:Int):=by omega
  have hpp:=hp _ (getD_in (z:=api_Entry.z) hi)
  simp only [splicelaw12_Ref_c8.step,splicelaw12_Ref_c8.l2,hstep.2,if_true,hstep,and_self,show (i:Int).toNat=i from rfl,RefM_eq _ hpp,Option.bind_some,wr1 hi (by omega:l.length≤9223372036854775807)]
  rw [if_pos (by omega)]
  exact ⟨rfl,by simp [hlen]⟩) [] rfl
 have e:=h.1
 rw [e,loop_eq]
 have hf:∀ (l:List api_Entry) (t:List spliceref12_Entry),l.foldl (fun t e=>t ++ [trE e]) t=t ++ l.map trE:=by
  intro l
  induction l with
  | nil=>intro t;simp
  | cons e l ih=>intro t;rw [List.foldl_cons,ih];simp
 rw [hf,List.nil_append]
 have s2:splicelaw12_Ref_c8.step l (List.map tr []) (.l2 (l.length:Int) (l.map trE))=some (.inl (.l3 (l.map trE))):=by
  simp only [splicelaw12_Ref_c8.step,splicelaw12_Ref_c8.l2,Int.lt_irrefl,if_false]
 rw [s2]
 show ((goLoop (splicelaw12_Ref_c8.step l (List.map tr [])) (.l3 (l.map trE))).bind fun v1=>some v1.Log)=some (l.map trE)
 rw [loop_eq]
 simp only [splicelaw12_Ref_c8.step,splicelaw12_Ref_c8.l3]
 rfl

def cellB (c:api_Cell):Bool:=if c.Some=true then decide (-1099511627776≤c.Val) && decide (c.Val≤1099511627776) else decide (c.Val=0)
theorem audit_cell_eq (c:api_Cell):audit_cell c=cellB c:=by
 unfold audit_cell audit_cell.j1 cellB
 by_cases h:c.Some=true
 ·rw [if_pos h,if_pos h]
  by_cases h1:c.Val≥-1099511627776
  ·rw [if_pos h1,decide_eq_true (show -1099511627776≤c.Val from h1),Bool.true_and]
  ·rw [if_neg h1,decide_eq_false (show ¬ -1099511627776≤c.Val from h1),Bool.false_and]
 ·rw [if_neg h,if_neg h]
  rfl
def formB (e:api_Event):Bool:=
 if e.Kind=1 then mOk e.M && decide (e.M.Client=e.Client∧e.Key=0∧e.Cell.Val=0∧e.Cell.Some=false∧e.Mark=0)
 else if e.Kind=2 then decide (e.M.Client=0∧e.M.Seq=0∧e.M.Kind=0∧e.M.Over.Lo=0∧e.M.Over.Hi=0∧e.M.Old=0∧e.M.Pairs.length=0) && (decide (1≤e.Client∧e.Client≤1048576∧0≤e.Key∧e.Key < 4096∧0≤e.Mark) && cellB e.Cell)
 else false
theorem formed_eq (e:api_Event) (hn:e.M.Pairs.length≤5000):audit_formed e=some (formB e):=by
 unfold audit_formed audit_formed.j1 audit_formed.j2 formB
 by_cases k1:e.Kind=1
 ·rw [if_pos k1,if_pos k1,mut_Check_eq _ hn,Option.bind_some]
  cases hm:mOk e.M with
  | false=>simp
  | true=>
   simp only [if_true,Bool.true_and]
   by_cases h1:e.M.Client=e.Client<;>by_cases h2:e.Key=0<;>by_cases h3:e.Cell.Val=0<;>by_cases h4:e.Cell.Some=true<;>simp [h1,h2,h3,h4]<;>first | rfl | skip
 ·rw [if_neg k1,if_neg k1]
  by_cases k2:e.Kind=2
  ·rw [if_pos k2,if_pos k2]
   obtain ⟨r,e1,e2⟩:=mut_Same_eq e.M (⟨0,0,0,[],(⟨0,0⟩:api_Span),0⟩:api_Mut) hn
   rw [mut_ext] at e2
   simp only at e2
   rw [e1,Option.bind_some,audit_cell_eq]
   have e3:decide (e.M.Client=0∧e.M.Seq=0∧e.M.Kind=0∧e.M.Over.Lo=0∧e.M.Over.Hi=0∧e.M.Old=0∧e.M.Pairs.length=0)=r:=by
    rw [Bool.eq_iff_iff,e2]
    simp [List.length_eq_zero_iff]
   rw [e3]
   cases r with
   | false=>simp
   | true=>
    simp only [if_true,Bool.true_and]
    by_cases h1:e.Client≥1<;>by_cases h2:e.Client≤1048576<;>by_cases h3:e.Key≥0<;>by_cases h4:e.Key < 4096<;>cases h5:cellB e.Cell<;>simp [h1,h2,h3,h4]
  ·rw [if_neg k2,if_neg k2]
theorem ref_formed_eq (e:api_Event) (hn:e.M.Pairs.length≤5000):spliceref24_formed (trV e)=some (formB e):=by
 unfold spliceref24_formed formB trV
 simp only
 by_cases k1:e.Kind=1
 ·rw [if_pos k1,if_pos k1,ref_Check_eq _ hn,Option.bind_some]
  unfold spliceref24_formed.j1
  cases hm:mOk e.M with
  | false=>simp
  | true=>
   simp only [if_true,Bool.true_and,trM,trC]
   by_cases h1:e.M.Client=e.Client<;>by_cases h2:e.Key=0<;>by_cases h3:e.Cell.Val=0<;>by_cases h4:e.Cell.Some=true<;>simp [h1,h2,h3,h4]<;>first | rfl | skip
 ·rw [if_neg k1,if_neg k1]
  unfold spliceref24_formed.j2 spliceref24_formed.j3
  by_cases k2:e.Kind=2
  ·rw [if_pos k2,if_pos k2]
   obtain ⟨r,e1,e2⟩:=ref_Same_eq (trM e.M) (⟨0,0,0,[],(⟨0,0⟩:spliceref03_Span),0⟩:spliceref04_Mut) (by simpa [trM] using hn)
   rw [mutR_ext] at e2
   simp only [trM] at e2
   rw [e1,Option.bind_some]
   have e3:decide (e.M.Client=0∧e.M.Seq=0∧e.M.Kind=0∧e.M.Over.Lo=0∧e.M.Over.Hi=0∧e.M.Old=0∧e.M.Pairs.length=0)=r:=by
    rw [Bool.eq_iff_iff,e2]
    simp [List.length_eq_zero_iff]
   rw [e3]
   unfold cellB
   simp only [trC]
   cases r with
   | false=>simp
   | true=>
    simp only [if_true,Bool.true_and]
    by_cases h1:e.Client < 1
    ·simp [h1];omega
    ·by_cases h2:e.Client > 1048576
     ·simp [h1,h2];omega
     ·by_cases h3:e.Key < 0
      ·simp [h1,h2,h3];omega
      ·by_cases h4:e.Key≥4096
       ·simp [h1,h2,h3,h4];omega
       ·by_cases h5:e.Mark < 0
        ·simp [h1,h2,h3,h4,h5];omega
        ·have e4:(decide (1≤e.Client∧e.Client≤1048576∧0≤e.Key∧e.Key < 4096∧0≤e.Mark))=true:=by simp;omega
         rw [e4,Bool.true_and,if_neg h1,if_neg h2,if_neg h3,if_neg h4,if_neg (by simp [h5])]
         by_cases h6:e.Cell.Some=true
         ·rw [if_pos h6]
          refine (if_pos h6).trans ?_
          by_cases h7:e.Cell.Val≥-1099511627776
          ·exact (if_pos h7).trans (by rw [decide_eq_true (show -1099511627776≤e.Cell.Val from h7),Bool.true_and];rfl)
          ·exact (if_neg h7).trans (by rw [decide_eq_false (show ¬ -1099511627776≤e.Cell.Val from h7),Bool.false_and])
         ·rw [if_neg h6]
          refine (if_neg h6).trans ?_
          by_cases h7:e.Cell.Val=0<;>simp [h7]
  ·rw [if_neg k2,if_neg k2]
   rfl
end Go.SyP
