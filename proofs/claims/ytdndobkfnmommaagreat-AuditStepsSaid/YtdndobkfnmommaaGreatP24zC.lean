/- Tables: what the loops of table and of its reference come to. -/
import Derived.Test.YtdndobkfnmommaaGreatP24zA
set_option linter.unusedVariables false
set_option linter.unusedSimpArgs false
namespace Go.SyP
open Go Go.Sy Sets
theorem Qh7 {l:List Qa} {x:Qa}:Tb (l ++ [x])↔Tb l/\okP x/\∀ y∈l,y.Key < x.Key:=by
 constructor
 ·intro h
  have hp:=List.pairwise_append.1 h.up
  exact ⟨⟨fun y hy=>h.ok y (List.mem_append_left _ hy),hp.1⟩,h.ok x (by simp),fun y hy=>hp.2.2 y hy x (by simp)⟩
 rintro ⟨h1,h2,h3⟩
 refine ⟨fun y hy=>?_,List.pairwise_append.2 ⟨h1.up,by simp,fun y hy z hz=>?_⟩⟩
 ·rcases List.mem_append.1 hy with hy | hy
  ·exact h1.ok y hy
  simp at hy;subst hy;exact h2
 simp at hz;subst hz;exact h3 y hy
theorem Qys {l:List Qa} {x:Qa} (h:Tb (l ++ [x])):∀ y∈l ++ [x],y.Key<=x.Key:=by
 intro y hy
 have h2:=Qh7.1 h
 rcases List.mem_append.1 hy with hy | hy
 ·exact Int.le_of_lt (h2.2.2 y hy)
 simp at hy;subst hy;exact Int.le_refl _
theorem Qyt {l m:List Qa} (h:Tb (l ++ m)):Tb l:=⟨fun y hy=>h.ok y (List.mem_append_left _ hy),(List.pairwise_append.1 h.up).1⟩
theorem Qhp (a:List Qa) {i:Nat} (hi:i < a.length):(a.map tr).getD (i:Int).toNat Qd.z=tr (a.getD (i:Int).toNat Qa.z):=by
 show (a.map tr).getD i _=tr (a.getD i _)
 simp [List.getD_eq_getElem?_getD,hi]
theorem Wew (a:List Qa) (hn:a.length<=5000):Zx a=some (a.map tr):=by
 unfold Zx
 obtain ⟨r,h1,h2⟩:∃ r,Xx (Zx.step a) (.l1 0 [])=some r/\r=a.map tr:=by
  refine Qbj (n:=a.length) (fun i x=>Zx.S.l1 (i:Int) x) (fun i x=>x=(a.take i).map tr) _ ?_ ?_ 0 [] (Nat.zero_le _) (by simp)
  ·intro x h
   rw [Qbt (Nat.le_refl _)] at h
   exact ⟨x,by simp [Zx.step,Zx.l1],h⟩
  intro i x hi h
  left
  have Yj:(0:Int)<=(i:Int)/\(i:Int) < (a.length:Int):=by omega
  have hl:x.length=i:=by rw [h];simp [Nat.min_eq_left (Nat.le_of_lt hi)]
  simp only [Zx.step,Zx.l1,Yj.2,if_true,Yj,and_self,hl,wr1 hi (by omega:a.length<=9223372036854775807)]
  rw [if_pos (by omega)]
  refine ⟨_,rfl, ?_⟩
  rw [Qcl (z:=Qa.z) hi,List.map_append,h]
  rfl
 rw [h1,h2]
def trM (m:Qn):Xd:=⟨m.Client,m.Seq,m.Kind,m.Pairs.map tr,⟨m.Over.Lo,m.Over.Hi⟩,m.Old⟩
theorem Wg8 (m:Qn) (hn:m.Pairs.length<=5000):Xg m=some (trM m):=by
 unfold Xg
 obtain ⟨r,h1,h2⟩:∃ r,Xx (Xg.step m) (.l1 0 [])=some r/\r=trM m:=by
  refine Qbj (n:=m.Pairs.length) (fun i x=>Xg.S.l1 (i:Int) x) (fun i x=>x=(m.Pairs.take i).map tr) _ ?_ ?_ 0 [] (Nat.zero_le _) (by simp)
  ·intro x h
   rw [Qbt (Nat.le_refl _)] at h
   exact ⟨_,by simp [Xg.step,Xg.l1];rfl,by rw [h];rfl⟩
  intro i x hi h
  left
  have Yj:(0:Int)<=(i:Int)/\(i:Int) < (m.Pairs.length:Int):=by omega
  have hl:x.length=i:=by rw [h];simp [Nat.min_eq_left (Nat.le_of_lt hi)]
  simp only [Xg.step,Xg.l1,Yj.2,if_true,Yj,and_self,hl,wr1 hi (by omega:m.Pairs.length<=9223372036854775807)]
  rw [if_pos (by omega)]
  refine ⟨_,rfl, ?_⟩
  rw [Qcl (z:=Qa.z) hi,List.map_append,h]
  rfl
 rw [h1,h2]
instance:DecidableEq Qd:=fun a b=>decidable_of_iff (a.Key=b.Key/\a.Val=b.Val) ⟨fun h=>by cases a;cases b;simp only at h;obtain ⟨rfl,rfl⟩:=h;rfl,fun h=>by rw [h];exact ⟨rfl,rfl⟩⟩
theorem Qjx (a:List Qa) (hn:a.length<=9223372036854775807):∃ r,Xl a=some r/\(r=true↔Tb a):=by
 unfold Xl
 refine Qbj (n:=a.length) (fun i (_:Unit)=>Xl.S.l1 (i:Int)) (fun i _=>Tb (a.take i)) _ ?_ ?_ 0 () (Nat.zero_le _) (by simpa using Tb.nil)
 ·intro _ h
  rw [Qbt (Nat.le_refl _)] at h
  exact ⟨true,by simp [Xl.step,Xl.l1],by simp [h]⟩
 intro i _ hi h
 have hx:a.take (i+1)=a.take i ++ [a.getD (i:Int).toNat Qa.z]:=Qcl hi
 have Qgq:¬ Tb (a.take (i+1))->¬ Tb a:=fun h1 h2=>h1 (by
  rw [<- List.take_append_drop (i+1) a] at h2
  exact Qyt h2)
 have Yj:(0:Int)<=(i:Int)/\(i:Int) < (a.length:Int):=by omega
 simp only [Xl.step,Xl.l1,Yj.2,if_true,Yj,and_self]
 generalize a.getD (i:Int).toNat Qa.z=X at hx ⊢
 by_cases ho:okP X
 ·obtain ⟨o1,o2,o3,o4⟩:=id ho
  rw [if_neg (by omega),if_neg (by omega),if_neg (by omega),if_neg (by omega)]
  rcases Nat.eq_zero_or_pos i with h0 | h0
  ·subst h0
   left
   refine ⟨(),by simp [Xl.j1,show IntKind.wrap .i64 1=1 by decide], ?_⟩
   rw [hx,Qh7]
   exact ⟨h,ho,by simp⟩
  have hw:IntKind.wrap .i64 ((i:Int) - 1)=((i - 1:Nat):Int):=by rw [wr (by omega)];omega
  rw [if_pos (show (i:Int) > 0 by omega),hw,if_pos (by omega)]
  have Qfk:a.take i=a.take (i - 1) ++ [a.getD ((i - 1:Nat):Int).toNat Qa.z]:=by
   have:=Qcl (l:=a) (z:=Qa.z) (i:=i - 1) (by omega)
   rwa [show i - 1+1=i by omega] at this
  generalize a.getD ((i - 1:Nat):Int).toNat Qa.z=Y at Qfk ⊢
  by_cases hc:Y.Key>=X.Key
  ·right
   refine ⟨false,by simp [Xl.j1,hc], ?_⟩
   simp only [Bool.false_eq_true,false_iff]
   refine Qgq ?_
   rw [hx,Qh7]
   rintro ⟨_,_,h4⟩
   have:=h4 Y (by rw [Qfk];simp)
   omega
  left
  refine ⟨(),by simp [Xl.j1,hc,wr1 hi hn], ?_⟩
  rw [hx,Qh7]
  refine ⟨h,ho,fun y hy=>?_⟩
  rw [Qfk] at h hy
  have:=Qys h y hy
  omega
 right
 refine ⟨false, ?_, ?_⟩
 ·unfold okP at ho
  have e:Xl.j1 (i:Int) true=some (.inr false):=by simp [Xl.j1]
  rw [e]
  by_cases h1:X.Key < 0
  ·rw [if_pos h1]
  by_cases h2:X.Key>=4096
  ·rw [if_neg h1,if_pos h2]
  by_cases h3:X.Val < -1099511627776
  ·rw [if_neg h1,if_neg h2,if_pos h3]
  rw [if_neg h1,if_neg h2,if_neg h3,if_pos (by omega)]
 simp only [Bool.false_eq_true,false_iff]
 refine Qgq ?_
 rw [hx,Qh7]
 rintro ⟨_,h4,_⟩
 exact ho h4
theorem Qu7 (a:List Qa) (hn:a.length<=9223372036854775807):∃ r,Xc (a.map tr)=some r/\(r=true↔Tb a):=by
 unfold Xc
 refine Qbj (n:=a.length) (fun i (_:Unit)=>Xc.S.l1 (i:Int)) (fun i _=>Tb (a.take i)) _ ?_ ?_ 0 () (Nat.zero_le _) (by simpa using Tb.nil)
 ·intro _ h
  rw [Qbt (Nat.le_refl _)] at h
  exact ⟨true,by simp [Xc.step,Xc.l1],by simp [h]⟩
 intro i _ hi h
 have hx:a.take (i+1)=a.take i ++ [a.getD (i:Int).toNat Qa.z]:=Qcl hi
 have Qgq:¬ Tb (a.take (i+1))->¬ Tb a:=fun h1 h2=>h1 (by
  rw [<- List.take_append_drop (i+1) a] at h2
  exact Qyt h2)
 have Yj:(0:Int)<=(i:Int)/\(i:Int) < (a.length:Int):=by omega
 simp only [Xc.step,Xc.l1,Xc.j1,List.length_map,Yj.2,if_true,Yj,and_self,Qhp a hi]
 generalize a.getD (i:Int).toNat Qa.z=X at hx ⊢
 by_cases ho:okP X
 ·obtain ⟨o1,o2,o3,o4⟩:=id ho
  rw [if_neg (show ¬ (tr X).Key < 0 by show ¬ X.Key < 0;omega),if_neg (show ¬ (tr X).Key > 4095 by show ¬ X.Key > 4095;omega),if_neg (show ¬ (tr X).Val < -1099511627776 by show ¬ X.Val < _;omega),decide_eq_false (show ¬ (tr X).Val > 1099511627776 by show ¬ X.Val > _;omega),if_neg (by decide)]
  rcases Nat.eq_zero_or_pos i with h0 | h0
  ·subst h0
   left
   refine ⟨(),by simp [Xc.j2,show IntKind.wrap .i64 1=1 by decide], ?_⟩
   rw [hx,Qh7]
   exact ⟨h,ho,by simp⟩
  have hw:IntKind.wrap .i64 ((i:Int) - 1)=((i - 1:Nat):Int):=by rw [wr (by omega)];omega
  rw [if_pos (show (i:Int) > 0 by omega),hw,if_pos (by omega)]
  have Qfk:a.take i=a.take (i - 1) ++ [a.getD ((i - 1:Nat):Int).toNat Qa.z]:=by
   have:=Qcl (l:=a) (z:=Qa.z) (i:=i - 1) (by omega)
   rwa [show i - 1+1=i by omega] at this
  rw [Qhp a (i:=i - 1) (by omega)]
  generalize a.getD ((i - 1:Nat):Int).toNat Qa.z=Y at Qfk ⊢
  by_cases hc:X.Key<=Y.Key
  ·right
   refine ⟨false,by simp [Xc.j2,hc,tr], ?_⟩
   simp only [Bool.false_eq_true,false_iff]
   refine Qgq ?_
   rw [hx,Qh7]
   rintro ⟨_,_,h4⟩
   have:=h4 Y (by rw [Qfk];simp)
   omega
  left
  refine ⟨(),by simp [Xc.j2,hc,wr1 hi hn,tr], ?_⟩
  rw [hx,Qh7]
  refine ⟨h,ho,fun y hy=>?_⟩
  rw [Qfk] at h hy
  have:=Qys h y hy
  omega
 right
 refine ⟨false, ?_, ?_⟩
 ·unfold okP at ho
  by_cases h1:(tr X).Key < 0
  ·rw [if_pos h1]
  by_cases h2:(tr X).Key > 4095
  ·rw [if_neg h1,if_pos h2]
  by_cases h3:(tr X).Val < -1099511627776
  ·rw [if_neg h1,if_neg h2,if_pos h3]
  rw [if_neg h1,if_neg h2,if_neg h3,decide_eq_true (show (tr X).Val > 1099511627776 by simp only [tr] at h1 h2 h3 ⊢;omega),if_pos rfl]
 simp only [Bool.false_eq_true,false_iff]
 refine Qgq ?_
 rw [hx,Qh7]
 rintro ⟨_,h4,_⟩
 exact ho h4
theorem Wc8 (a:List Qa) (k:Int) (f:Qa->Int->Option Int) (hf:∀ z,f z k=some (if z.Key < k then -1 else if z.Key > k then 1 else 0)) (hn:a.length<=5000) (hu:Up a):∀ (m lo hi:Nat),hi - lo<=m->lo<=low a k->low a k<=hi->hi<=a.length ->
  Xx (Xa.step a k f) (.l1 (lo:Int) (hi:Int))=some ((low a k:Int),hit a k):=by
 have fin:∀ n:Nat,n=low a k->Xx (Xa.step a k f) (.l1 (n:Int) (n:Int))=some ((low a k:Int),hit a k):=by
  rintro n rfl
  rw [Ji]
  simp only [Xa.step,Xa.l1,Int.lt_irrefl,if_false]
  by_cases hl:low a k < a.length
  ·rw [if_pos (by omega),if_pos (by omega)]
   simp only [hf,Option.bind_some,Xa.j1,hit,hl,decide_true,Bool.true_and]
   show some ((low a k:Int),(if (a.getD (low a k) Qa.z).Key < k then (-1:Int) else if (a.getD (low a k) Qa.z).Key > k then 1 else 0) == 0)=_
   congr 2
   by_cases h1:(a.getD (low a k) Qa.z).Key < k
   ·rw [if_pos h1,decide_eq_false (by omega)]
    rfl
   by_cases h2:(a.getD (low a k) Qa.z).Key > k
   ·rw [if_neg h1,if_pos h2,decide_eq_false (by omega)]
    rfl
   rw [if_neg h1,if_neg h2,decide_eq_true (by omega)]
   rfl
  rw [if_neg (by omega)]
  simp [Xa.j1,hit,hl,stk]
 intro m
 induction m with
 | zero=>
  intro lo hi h1 h2 h3 h4
  obtain rfl:lo=hi:=by omega
  exact fin lo (by omega)
 | succ m ih=>
  intro lo hi h1 h2 h3 h4
  rcases Nat.lt_or_ge lo hi with hlt | hge
  ·rw [Ji]
   simp only [Xa.step,Xa.l1]
   rw [if_pos (by omega)]
   have Qrm:IntKind.wrap .i64 (Int.fdiv (IntKind.wrap .u64 (IntKind.wrap .i64 ((lo:Int)+(hi:Int)))) 2)=(((lo+hi) / 2:Nat):Int):=by
    rw [wr (n:=(lo:Int)+hi) (by omega)]
    have e1:IntKind.wrap .u64 ((lo:Int)+(hi:Int))=(lo:Int)+hi:=by
     simp [IntKind.wrap,IntKind.bits,IntKind.signed];omega
    rw [e1]
    have e2:Int.fdiv ((lo:Int)+(hi:Int)) 2=(((lo+hi) / 2:Nat):Int):=by
     rw [Int.fdiv_eq_ediv_of_nonneg _ (by omega)]
     omega
    rw [e2,wr (by omega)]
   rw [Qrm]
   simp only [bnd]
   have hm1:(lo+hi) / 2 < a.length:=by omega
   rw [if_pos (by omega)]
   simp only [hf,Option.bind_some]
   rw [show (((lo+hi) / 2:Nat):Int).toNat=(lo+hi) / 2 from rfl]
   by_cases hk:(a.getD ((lo+hi) / 2) Qa.z).Key < k
   ·rw [if_pos hk,if_pos (by decide),wr (by omega)]
    have:=ih ((lo+hi) / 2+1) hi (by omega) (by
     rcases Nat.lt_or_ge ((lo+hi) / 2) (low a k) with h | h
     ·exact h
     have:=Wdt hu h hm1;omega) h3 h4
    exact this
   have Qo1:low a k<=(lo+hi) / 2:=by
    rcases Nat.lt_or_ge ((lo+hi) / 2) (low a k) with h | h
    ·exact absurd (Wdu h) hk
    exact h
   have:=ih lo ((lo+hi) / 2) (by omega) h2 Qo1 (by omega)
   rw [if_neg hk,if_neg (by split<;>decide)]
   exact this
  obtain rfl:lo=hi:=by omega
  exact fin lo (by omega)
theorem find_eq (a:List Qa) (k:Int) (hn:a.length<=5000) (hu:Up a):Qg2 a k=some ((low a k:Int),hit a k):=by
 unfold Qg2 Xa
 have:=Wc8 a k (fun z0 z1=>some (Qfu z0 z1)) (fun z=>by simp [Qfu,Zj,cmp_isNaN_int]) hn hu a.length 0 a.length (by omega) (Nat.zero_le _) (Qw0 a k) (Nat.le_refl _)
 rw [show ((0:Nat):Int)=0 from rfl] at this
 rw [this]
 rfl
abbrev Qvp (o:Option Int):Int × Bool:=(o.getD 0,o.isSome)
theorem get_eq (a:List Qa) (k:Int) (hn:a.length<=5000) (hu:Up a):Qgb a k=some (Qvp (look a k)):=by
 unfold Qgb
 rw [find_eq a k hn hu,Option.bind_some,Qwr hu]
 by_cases h:hit a k=true
 ·have hl:low a k < a.length:=by
   unfold hit at h
   simp only [Bool.and_eq_true,decide_eq_true_eq] at h
   exact h.1
  simp only [h,if_true]
  rw [if_pos (by omega)]
  rfl
 simp only [h,if_false]
 rfl
theorem put_eq (a:List Qa) (k v:Int) (hn:a.length<=5000) (hu:Up a):Qek a k v=some (Qe3 a k v):=by
 unfold Qek
 rw [find_eq a k hn hu,Option.bind_some]
 have hl:=Qw0 a k
 by_cases h:hit a k=true
 ·have hh:=h
  unfold hit at hh
  simp only [Bool.and_eq_true,decide_eq_true_eq] at hh
  simp only [h,if_true]
  rw [if_pos (by omega),Qw7 v h]
  show some (a.set (low a k) ⟨(a.getD (low a k) Qa.z).Key,v⟩)=_
  rw [hh.2]
 have h':hit a k=false:=by simpa using h
 simp only [h',Bool.false_eq_true,if_false]
 rw [if_pos (by omega),Qut v h']
 rfl
theorem Qx0 (a:List Qa) (k:Int) (hn:a.length<=9223372036854775807):Zy (a.map tr) k=some ⟨(look a k).getD 0,(look a k).isSome⟩:=by
 unfold Zy
 obtain ⟨r,h1,h2⟩:∃ r,Xx (Zy.step (a.map tr) k) (.l1 0)=some r/\r=⟨(look a k).getD 0,(look a k).isSome⟩:=by
  refine Qbj (n:=a.length) (fun i (_:Unit)=>Zy.S.l1 (i:Int)) (fun i _=>look a k=look (a.drop i) k) _ ?_ ?_ 0 () (Nat.zero_le _) (by simp)
  ·intro _ h
   rw [List.drop_length] at h
   exact ⟨_,by simp [Zy.step,Zy.l1];rfl,by rw [h];rfl⟩
  intro i _ hi h
  have Yj:(0:Int)<=(i:Int)/\(i:Int) < (a.length:Int):=by omega
  have hd:=Qg5 (l:=a) (z:=Qa.z) hi
  simp only [Zy.step,Zy.l1,List.length_map,Yj.2,if_true,Yj,and_self,Qhp a hi,wr1 hi hn]
  generalize a.getD (i:Int).toNat Qa.z=X at hd ⊢
  rw [hd,look] at h
  by_cases hk:X.Key=k
  ·right
   rw [if_pos hk] at h
   refine ⟨⟨X.Val,true⟩,by simp [tr,hk],by rw [h];rfl⟩
  left
  rw [if_neg hk] at h
  exact ⟨(),by simp [tr,hk],h⟩
 rw [h1,h2]
end Go.SyP
