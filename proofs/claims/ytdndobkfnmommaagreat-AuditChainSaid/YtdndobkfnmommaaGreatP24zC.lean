/- Tables: what the loops of table and of its reference come to. -/
import Derived.Test.YtdndobkfnmommaaGreatP24zA
set_option linter.unusedVariables false
set_option linter.unusedSimpArgs false
namespace Go.SyP
open Go Go.Sy Sets
theorem Qh9 {l:List Qa} {x:Qa}:Tb (l ++ [x])↔Tb l/\okP x/\∀ y∈l,y.Key < x.Key:=by
 constructor
 ·intro h
  have hp:=List.pairwise_append.1 h.up
  exact ⟨⟨fun y hy=>h.ok y (List.mem_append_left _ hy),hp.1⟩,h.ok x (by simp),fun y hy=>hp.2.2 y hy x (by simp)⟩
 rintro ⟨h1,h2,h3⟩
 refine ⟨fun y hy=>?_,List.pairwise_append.2 ⟨h1.up,by simp,fun y hy z hz=>?_⟩⟩
 ·rcases List.mem_append.1 hy with hy | hy
  ·exact h1.ok y hy
  simp at hy;subst hy;exact h2
 simp at hz;subst hz;exact h3 y hy
theorem Qyx {l:List Qa} {x:Qa} (h:Tb (l ++ [x])):∀ y∈l ++ [x],y.Key<=x.Key:=by
 intro y hy
 have h2:=Qh9.1 h
 rcases List.mem_append.1 hy with hy | hy
 ·exact Int.le_of_lt (h2.2.2 y hy)
 simp at hy;subst hy;exact Int.le_refl _
theorem Qyy {l m:List Qa} (h:Tb (l ++ m)):Tb l:=⟨fun y hy=>h.ok y (List.mem_append_left _ hy),(List.pairwise_append.1 h.up).1⟩
theorem Qim (a:List Qa) {i:Nat} (hi:i < a.length):(a.map tr).getD (i:Int).toNat Qc.z=tr (a.getD (i:Int).toNat Qa.z):=by
 show (a.map tr).getD i _=tr (a.getD i _)
 simp [List.getD_eq_getElem?_getD,hi]
theorem Wer (a:List Qa) (hn:a.length<=5000):Zq a=some (a.map tr):=by
 unfold Zq
 obtain ⟨r,h1,h2⟩:∃ r,Yb (Zq.step a) (.l1 0 [])=some r/\r=a.map tr:=by
  refine Qbi (n:=a.length) (fun i x=>Zq.S.l1 (i:Int) x) (fun i x=>x=(a.take i).map tr) _ ?_ ?_ 0 [] (Nat.zero_le _) (by simp)
  ·intro x h
   rw [Qbp (Nat.le_refl _)] at h
   exact ⟨x,by simp [Zq.step,Zq.l1],h⟩
  intro i x hi h
  left
  have Ye:(0:Int)<=(i:Int)/\(i:Int) < (a.length:Int):=by omega
  have hl:x.length=i:=by rw [h];simp [Nat.min_eq_left (Nat.le_of_lt hi)]
  simp only [Zq.step,Zq.l1,Ye.2,if_true,Ye,and_self,hl,wr1 hi (by omega:a.length<=9223372036854775807)]
  rw [if_pos (by omega)]
  refine ⟨_,rfl, ?_⟩
  rw [Qch (z:=Qa.z) hi,List.map_append,h]
  rfl
 rw [h1,h2]
def trM (m:Ql):Qk:=⟨m.Client,m.Seq,m.Kind,m.Pairs.map tr,⟨m.Over.Lo,m.Over.Hi⟩,m.Old⟩
theorem Qya (m:Ql) (hn:m.Pairs.length<=5000):Xa m=some (trM m):=by
 unfold Xa
 obtain ⟨r,h1,h2⟩:∃ r,Yb (Xa.step m) (.l1 0 [])=some r/\r=trM m:=by
  refine Qbi (n:=m.Pairs.length) (fun i x=>Xa.S.l1 (i:Int) x) (fun i x=>x=(m.Pairs.take i).map tr) _ ?_ ?_ 0 [] (Nat.zero_le _) (by simp)
  ·intro x h
   rw [Qbp (Nat.le_refl _)] at h
   exact ⟨_,by simp [Xa.step,Xa.l1];rfl,by rw [h];rfl⟩
  intro i x hi h
  left
  have Ye:(0:Int)<=(i:Int)/\(i:Int) < (m.Pairs.length:Int):=by omega
  have hl:x.length=i:=by rw [h];simp [Nat.min_eq_left (Nat.le_of_lt hi)]
  simp only [Xa.step,Xa.l1,Ye.2,if_true,Ye,and_self,hl,wr1 hi (by omega:m.Pairs.length<=9223372036854775807)]
  rw [if_pos (by omega)]
  refine ⟨_,rfl, ?_⟩
  rw [Qch (z:=Qa.z) hi,List.map_append,h]
  rfl
 rw [h1,h2]
instance:DecidableEq Qc:=fun a b=>decidable_of_iff (a.Key=b.Key/\a.Val=b.Val) ⟨fun h=>by cases a;cases b;simp only at h;obtain ⟨rfl,rfl⟩:=h;rfl,fun h=>by rw [h];exact ⟨rfl,rfl⟩⟩
theorem Qj4 (a:List Qa) (hn:a.length<=9223372036854775807):∃ r,Xk a=some r/\(r=true↔Tb a):=by
 unfold Xk
 refine Qbi (n:=a.length) (fun i (_:Unit)=>Xk.S.l1 (i:Int)) (fun i _=>Tb (a.take i)) _ ?_ ?_ 0 () (Nat.zero_le _) (by simpa using Tb.nil)
 ·intro _ h
  rw [Qbp (Nat.le_refl _)] at h
  exact ⟨true,by simp [Xk.step,Xk.l1],by simp [h]⟩
 intro i _ hi h
 have hx:a.take (i+1)=a.take i ++ [a.getD (i:Int).toNat Qa.z]:=Qch hi
 have Qgk:¬ Tb (a.take (i+1))->¬ Tb a:=fun h1 h2=>h1 (by
  rw [<- List.take_append_drop (i+1) a] at h2
  exact Qyy h2)
 have Ye:(0:Int)<=(i:Int)/\(i:Int) < (a.length:Int):=by omega
 simp only [Xk.step,Xk.l1,Ye.2,if_true,Ye,and_self]
 generalize a.getD (i:Int).toNat Qa.z=X at hx ⊢
 by_cases ho:okP X
 ·obtain ⟨o1,o2,o3,o4⟩:=id ho
  rw [if_neg (by omega),if_neg (by omega),if_neg (by omega),if_neg (by omega)]
  rcases Nat.eq_zero_or_pos i with h0 | h0
  ·subst h0
   left
   refine ⟨(),by simp [Xk.j1,show IntKind.wrap .i64 1=1 by decide], ?_⟩
   rw [hx,Qh9]
   exact ⟨h,ho,by simp⟩
  have hw:IntKind.wrap .i64 ((i:Int) - 1)=((i - 1:Nat):Int):=by rw [wr (by omega)];omega
  rw [if_pos (show (i:Int) > 0 by omega),hw,if_pos (by omega)]
  have Qfb:a.take i=a.take (i - 1) ++ [a.getD ((i - 1:Nat):Int).toNat Qa.z]:=by
   have:=Qch (l:=a) (z:=Qa.z) (i:=i - 1) (by omega)
   rwa [show i - 1+1=i by omega] at this
  generalize a.getD ((i - 1:Nat):Int).toNat Qa.z=Y at Qfb ⊢
  by_cases hc:Y.Key>=X.Key
  ·right
   refine ⟨false,by simp [Xk.j1,hc], ?_⟩
   simp only [Bool.false_eq_true,false_iff]
   refine Qgk ?_
   rw [hx,Qh9]
   rintro ⟨_,_,h4⟩
   have:=h4 Y (by rw [Qfb];simp)
   omega
  left
  refine ⟨(),by simp [Xk.j1,hc,wr1 hi hn], ?_⟩
  rw [hx,Qh9]
  refine ⟨h,ho,fun y hy=>?_⟩
  rw [Qfb] at h hy
  have:=Qyx h y hy
  omega
 right
 refine ⟨false, ?_, ?_⟩
 ·unfold okP at ho
  have e:Xk.j1 (i:Int) true=some (.inr false):=by simp [Xk.j1]
  rw [e]
  by_cases h1:X.Key < 0
  ·rw [if_pos h1]
  by_cases h2:X.Key>=4096
  ·rw [if_neg h1,if_pos h2]
  by_cases h3:X.Val < -1099511627776
  ·rw [if_neg h1,if_neg h2,if_pos h3]
  rw [if_neg h1,if_neg h2,if_neg h3,if_pos (by omega)]
 simp only [Bool.false_eq_true,false_iff]
 refine Qgk ?_
 rw [hx,Qh9]
 rintro ⟨_,h4,_⟩
 exact ho h4
theorem Qok (a:List Qa) (hn:a.length<=9223372036854775807):∃ r,Wy (a.map tr)=some r/\(r=true↔Tb a):=by
 unfold Wy
 refine Qbi (n:=a.length) (fun i (_:Unit)=>Wy.S.l1 (i:Int)) (fun i _=>Tb (a.take i)) _ ?_ ?_ 0 () (Nat.zero_le _) (by simpa using Tb.nil)
 ·intro _ h
  rw [Qbp (Nat.le_refl _)] at h
  exact ⟨true,by simp [Wy.step,Wy.l1],by simp [h]⟩
 intro i _ hi h
 have hx:a.take (i+1)=a.take i ++ [a.getD (i:Int).toNat Qa.z]:=Qch hi
 have Qgk:¬ Tb (a.take (i+1))->¬ Tb a:=fun h1 h2=>h1 (by
  rw [<- List.take_append_drop (i+1) a] at h2
  exact Qyy h2)
 have Ye:(0:Int)<=(i:Int)/\(i:Int) < (a.length:Int):=by omega
 simp only [Wy.step,Wy.l1,Wy.j1,List.length_map,Ye.2,if_true,Ye,and_self,Qim a hi]
 generalize a.getD (i:Int).toNat Qa.z=X at hx ⊢
 by_cases ho:okP X
 ·obtain ⟨o1,o2,o3,o4⟩:=id ho
  rw [if_neg (show ¬ (tr X).Key < 0 by show ¬ X.Key < 0;omega),if_neg (show ¬ (tr X).Key > 4095 by show ¬ X.Key > 4095;omega),if_neg (show ¬ (tr X).Val < -1099511627776 by show ¬ X.Val < _;omega),decide_eq_false (show ¬ (tr X).Val > 1099511627776 by show ¬ X.Val > _;omega),if_neg (by decide)]
  rcases Nat.eq_zero_or_pos i with h0 | h0
  ·subst h0
   left
   refine ⟨(),by simp [Wy.j2,show IntKind.wrap .i64 1=1 by decide], ?_⟩
   rw [hx,Qh9]
   exact ⟨h,ho,by simp⟩
  have hw:IntKind.wrap .i64 ((i:Int) - 1)=((i - 1:Nat):Int):=by rw [wr (by omega)];omega
  rw [if_pos (show (i:Int) > 0 by omega),hw,if_pos (by omega)]
  have Qfb:a.take i=a.take (i - 1) ++ [a.getD ((i - 1:Nat):Int).toNat Qa.z]:=by
   have:=Qch (l:=a) (z:=Qa.z) (i:=i - 1) (by omega)
   rwa [show i - 1+1=i by omega] at this
  rw [Qim a (i:=i - 1) (by omega)]
  generalize a.getD ((i - 1:Nat):Int).toNat Qa.z=Y at Qfb ⊢
  by_cases hc:X.Key<=Y.Key
  ·right
   refine ⟨false,by simp [Wy.j2,hc,tr], ?_⟩
   simp only [Bool.false_eq_true,false_iff]
   refine Qgk ?_
   rw [hx,Qh9]
   rintro ⟨_,_,h4⟩
   have:=h4 Y (by rw [Qfb];simp)
   omega
  left
  refine ⟨(),by simp [Wy.j2,hc,wr1 hi hn,tr], ?_⟩
  rw [hx,Qh9]
  refine ⟨h,ho,fun y hy=>?_⟩
  rw [Qfb] at h hy
  have:=Qyx h y hy
  omega
 right
 refine ⟨false, ?_, ?_⟩
 ·unfold okP at ho
  by_cases h1:(tr X).Key < 0
  ·rw [if_pos h1]
  by_cases h2:(tr X).Key > 4095
  ·rw [if_neg h1,if_pos h2]
  by_cases h3:(tr X).Val < -1099511627776
  ·rw [if_neg h1,if_neg h2,if_pos h3]
  rw [if_neg h1,if_neg h2,if_neg h3,decide_eq_true (show (tr X).Val > 1099511627776 by simp only [tr] at h1 h2 h3 ⊢;omega),if_pos rfl]
 simp only [Bool.false_eq_true,false_iff]
 refine Qgk ?_
 rw [hx,Qh9]
 rintro ⟨_,h4,_⟩
 exact ho h4
theorem Wc4 (a:List Qa) (k:Int) (f:Qa->Int->Option Int) (hf:∀ z,f z k=some (if z.Key < k then -1 else if z.Key > k then 1 else 0)) (hn:a.length<=5000) (hu:Up a):∀ (m lo hi:Nat),hi - lo<=m->lo<=low a k->low a k<=hi->hi<=a.length ->
  Yb (Wz.step a k f) (.l1 (lo:Int) (hi:Int))=some ((low a k:Int),hit a k):=by
 have fin:∀ n:Nat,n=low a k->Yb (Wz.step a k f) (.l1 (n:Int) (n:Int))=some ((low a k:Int),hit a k):=by
  rintro n rfl
  rw [Qau]
  simp only [Wz.step,Wz.l1,Int.lt_irrefl,if_false]
  by_cases hl:low a k < a.length
  ·rw [if_pos (by omega),if_pos (by omega)]
   simp only [hf,Option.bind_some,Wz.j1,hit,hl,decide_true,Bool.true_and]
   show some ((low a k:Int),(if (a.getD (low a k) Qa.z).Key < k then (-1:Int) else if (a.getD (low a k) Qa.z).Key > k then 1 else 0) == 0)=_
   congr 2
   by_cases h1:(a.getD (low a k) Qa.z).Key < k
   ·rw [if_pos h1,decide_eq_false (by omega)]
    rfl
   by_cases h2:(a.getD (low a k) Qa.z).Key > k
   ·rw [if_neg h1,if_pos h2,decide_eq_false (by omega)]
    rfl
   rw [if_neg h1,if_neg h2,decide_eq_true (by omega)]
   rfl
  rw [if_neg (by omega)]
  simp [Wz.j1,hit,hl,stk]
 intro m
 induction m with
 | zero=>
  intro lo hi h1 h2 h3 h4
  obtain rfl:lo=hi:=by omega
  exact fin lo (by omega)
 | succ m ih=>
  intro lo hi h1 h2 h3 h4
  rcases Nat.lt_or_ge lo hi with hlt | hge
  ·rw [Qau]
   simp only [Wz.step,Wz.l1]
   rw [if_pos (by omega)]
   have Qro:IntKind.wrap .i64 (Int.fdiv (IntKind.wrap .u64 (IntKind.wrap .i64 ((lo:Int)+(hi:Int)))) 2)=(((lo+hi) / 2:Nat):Int):=by
    rw [wr (n:=(lo:Int)+hi) (by omega)]
    have e1:IntKind.wrap .u64 ((lo:Int)+(hi:Int))=(lo:Int)+hi:=by
     simp [IntKind.wrap,IntKind.bits,IntKind.signed];omega
    rw [e1]
    have e2:Int.fdiv ((lo:Int)+(hi:Int)) 2=(((lo+hi) / 2:Nat):Int):=by
     rw [Int.fdiv_eq_ediv_of_nonneg _ (by omega)]
     omega
    rw [e2,wr (by omega)]
   rw [Qro]
   simp only [bnd]
   have hm1:(lo+hi) / 2 < a.length:=by omega
   rw [if_pos (by omega)]
   simp only [hf,Option.bind_some]
   rw [show (((lo+hi) / 2:Nat):Int).toNat=(lo+hi) / 2 from rfl]
   by_cases hk:(a.getD ((lo+hi) / 2) Qa.z).Key < k
   ·rw [if_pos hk,if_pos (by decide),wr (by omega)]
    have:=ih ((lo+hi) / 2+1) hi (by omega) (by
     rcases Nat.lt_or_ge ((lo+hi) / 2) (low a k) with h | h
     ·exact h
     have:=Wdn hu h hm1;omega) h3 h4
    exact this
   have Qo8:low a k<=(lo+hi) / 2:=by
    rcases Nat.lt_or_ge ((lo+hi) / 2) (low a k) with h | h
    ·exact absurd (Wdo h) hk
    exact h
   have:=ih lo ((lo+hi) / 2) (by omega) h2 Qo8 (by omega)
   rw [if_neg hk,if_neg (by split<;>decide)]
   exact this
  obtain rfl:lo=hi:=by omega
  exact fin lo (by omega)
theorem find_eq (a:List Qa) (k:Int) (hn:a.length<=5000) (hu:Up a):Qgw a k=some ((low a k:Int),hit a k):=by
 unfold Qgw Wz
 have:=Wc4 a k (fun z0 z1=>some (Qfl z0 z1)) (fun z=>by simp [Qfl,Zc,cmp_isNaN_int]) hn hu a.length 0 a.length (by omega) (Nat.zero_le _) (Qwy a k) (Nat.le_refl _)
 rw [show ((0:Nat):Int)=0 from rfl] at this
 rw [this]
 rfl
abbrev Qvr (o:Option Int):Int × Bool:=(o.getD 0,o.isSome)
theorem get_eq (a:List Qa) (k:Int) (hn:a.length<=5000) (hu:Up a):Qf3 a k=some (Qvr (look a k)):=by
 unfold Qf3
 rw [find_eq a k hn hu,Option.bind_some,Qwo hu]
 by_cases h:hit a k=true
 ·have hl:low a k < a.length:=by
   unfold hit at h
   simp only [Bool.and_eq_true,decide_eq_true_eq] at h
   exact h.1
  simp only [h,if_true]
  rw [if_pos (by omega)]
  rfl
 simp only [h,if_false]
 rfl
theorem put_eq (a:List Qa) (k v:Int) (hn:a.length<=5000) (hu:Up a):Qec a k v=some (Qeu a k v):=by
 unfold Qec
 rw [find_eq a k hn hu,Option.bind_some]
 have hl:=Qwy a k
 by_cases h:hit a k=true
 ·have hh:=h
  unfold hit at hh
  simp only [Bool.and_eq_true,decide_eq_true_eq] at hh
  simp only [h,if_true]
  rw [if_pos (by omega),Qw6 v h]
  show some (a.set (low a k) ⟨(a.getD (low a k) Qa.z).Key,v⟩)=_
  rw [hh.2]
 have h':hit a k=false:=by simpa using h
 simp only [h',Bool.false_eq_true,if_false]
 rw [if_pos (by omega),Quw v h']
 rfl
theorem Qrd (a:List Qa) (k:Int) (hn:a.length<=9223372036854775807):Zi (a.map tr) k=some ⟨(look a k).getD 0,(look a k).isSome⟩:=by
 unfold Zi
 obtain ⟨r,h1,h2⟩:∃ r,Yb (Zi.step (a.map tr) k) (.l1 0)=some r/\r=⟨(look a k).getD 0,(look a k).isSome⟩:=by
  refine Qbi (n:=a.length) (fun i (_:Unit)=>Zi.S.l1 (i:Int)) (fun i _=>look a k=look (a.drop i) k) _ ?_ ?_ 0 () (Nat.zero_le _) (by simp)
  ·intro _ h
   rw [List.drop_length] at h
   exact ⟨_,by simp [Zi.step,Zi.l1];rfl,by rw [h];rfl⟩
  intro i _ hi h
  have Ye:(0:Int)<=(i:Int)/\(i:Int) < (a.length:Int):=by omega
  have hd:=Qhf (l:=a) (z:=Qa.z) hi
  simp only [Zi.step,Zi.l1,List.length_map,Ye.2,if_true,Ye,and_self,Qim a hi,wr1 hi hn]
  generalize a.getD (i:Int).toNat Qa.z=X at hd ⊢
  rw [hd,look] at h
  by_cases hk:X.Key=k
  ·right
   rw [if_pos hk] at h
   refine ⟨⟨X.Val,true⟩,by simp [tr,hk],by rw [h];rfl⟩
  left
  rw [if_neg hk] at h
  exact ⟨(),by simp [tr,hk],h⟩
 rw [h1,h2]
end Go.SyP
