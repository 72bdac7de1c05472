/- Tables: what the loops of table and of its reference come to. -/
import Derived.Test.YtdndobkfnmommaaP24A
set_option linter.unusedVariables false
set_option linter.unusedSimpArgs false
namespace Go.SyP
open Go Go.Sy Sets

theorem tb_snoc {l:List api_Pair} {x:api_Pair}:Tb (l ++ [x])↔Tb l∧okP x∧∀ y∈l,y.Key < x.Key:=by
 constructor
 ·intro h
  have hp:=List.pairwise_append.1 h.up
  exact ⟨⟨fun y hy=>h.ok y (List.mem_append_left _ hy),hp.1⟩,h.ok x (by simp),fun y hy=>hp.2.2 y hy x (by simp)⟩
 ·rintro ⟨h1,h2,h3⟩
  refine ⟨fun y hy=>?_,List.pairwise_append.2 ⟨h1.up,by simp,fun y hy z hz=>?_⟩⟩
  ·rcases List.mem_append.1 hy with hy | hy
   ·exact h1.ok y hy
   ·simp at hy;subst hy;exact h2
  ·simp at hz;subst hz;exact h3 y hy
theorem tb_last {l:List api_Pair} {x:api_Pair} (h:Tb (l ++ [x])):∀ y∈l ++ [x],y.Key≤x.Key:=by
 intro y hy
 have h2:=tb_snoc.1 h
 rcases List.mem_append.1 hy with hy | hy
 ·exact Int.le_of_lt (h2.2.2 y hy)
 ·simp at hy;subst hy;exact Int.le_refl _
theorem tb_take {l m:List api_Pair} (h:Tb (l ++ m)):Tb l:=⟨fun y hy=>h.ok y (List.mem_append_left _ hy),(List.pairwise_append.1 h.up).1⟩
theorem tr_at (a:List api_Pair) {i:Nat} (hi:i < a.length):(a.map tr).getD (i:Int).toNat spliceref04_Pair.z=tr (a.getD (i:Int).toNat api_Pair.z):=by
 show (a.map tr).getD i _=tr (a.getD i _)
 simp [List.getD_eq_getElem?_getD,hi]

theorem Refs5_eq (a:List api_Pair) (hn:a.length≤5000):splicelaw05_Refs a=some (a.map tr):=by
 unfold splicelaw05_Refs
 obtain ⟨r,h1,h2⟩:∃ r,goLoop (splicelaw05_Refs.step a) (.l1 0 [])=some r∧r=a.map tr:=by
  refine for_post (n:=a.length) (fun i x=>splicelaw05_Refs.S.l1 (i:Int) x) (fun i x=>x=(a.take i).map tr) _ ?_ ?_ 0 [] (Nat.zero_le _) (by simp)
  ·intro x h
   rw [take_all (Nat.le_refl _)] at h
   exact ⟨x,by simp [splicelaw05_Refs.step,splicelaw05_Refs.l1],h⟩
  ·intro i x hi h
   left
   have hstep:(0:Int)≤(i:Int)∧(i:Int) < (a.length:Int):=by omega
   have hl:x.length=i:=by rw [h];simp [Nat.min_eq_left (Nat.le_of_lt hi)]
   simp only [splicelaw05_Refs.step,splicelaw05_Refs.l1,hstep.2,if_true,hstep,and_self,hl,wr1 hi (by omega:a.length≤9223372036854775807)]
   rw [if_pos (by omega)]
   refine ⟨_,rfl, ?_⟩
   rw [take_atI (z:=api_Pair.z) hi,List.map_append,h]
   rfl
 rw [h1,h2]

def trM (m:api_Mut):spliceref04_Mut:=⟨m.Client,m.Seq,m.Kind,m.Pairs.map tr,⟨m.Over.Lo,m.Over.Hi⟩,m.Old⟩
theorem RefM_eq (m:api_Mut) (hn:m.Pairs.length≤5000):splicelaw04_Ref m=some (trM m):=by
 unfold splicelaw04_Ref
 obtain ⟨r,h1,h2⟩:∃ r,goLoop (splicelaw04_Ref.step m) (.l1 0 [])=some r∧r=trM m:=by
  refine for_post (n:=m.Pairs.length) (fun i x=>splicelaw04_Ref.S.l1 (i:Int) x) (fun i x=>x=(m.Pairs.take i).map tr) _ ?_ ?_ 0 [] (Nat.zero_le _) (by simp)
  ·intro x h
   rw [take_all (Nat.le_refl _)] at h
   exact ⟨_,by simp [splicelaw04_Ref.step,splicelaw04_Ref.l1];rfl,by rw [h];rfl⟩
  ·intro i x hi h
   left
   have hstep:(0:Int)≤(i:Int)∧(i:Int) < (m.Pairs.length:Int):=by omega
   have hl:x.length=i:=by rw [h];simp [Nat.min_eq_left (Nat.le_of_lt hi)]
   simp only [splicelaw04_Ref.step,splicelaw04_Ref.l1,hstep.2,if_true,hstep,and_self,hl,wr1 hi (by omega:m.Pairs.length≤9223372036854775807)]
   rw [if_pos (by omega)]
   refine ⟨_,rfl, ?_⟩
   rw [take_atI (z:=api_Pair.z) hi,List.map_append,h]
   rfl
 rw [h1,h2]

instance:DecidableEq spliceref04_Pair:=fun a b=>decidable_of_iff (a.Key=b.Key∧a.Val=b.Val) ⟨fun h=>by cases a;cases b;simp only at h;obtain ⟨rfl,rfl⟩:=h;rfl,fun h=>by rw [h];exact ⟨rfl,rfl⟩⟩
theorem table_Check_eq (a:List api_Pair) (hn:a.length≤9223372036854775807):∃ r,table_Check a=some r∧(r=true↔Tb a):=by
 unfold table_Check
 refine for_post (n:=a.length) (fun i (_:Unit)=>table_Check.S.l1 (i:Int)) (fun i _=>Tb (a.take i)) _ ?_ ?_ 0 () (Nat.zero_le _) (by simpa using Tb.nil)
 ·intro _ h
  rw [take_all (Nat.le_refl _)] at h
  exact ⟨true,by simp [table_Check.step,table_Check.l1],by simp [h]⟩
 ·intro i _ hi h
  have hx:a.take (i+1)=a.take i ++ [a.getD (i:Int).toNat api_Pair.z]:=take_atI hi
  have hsub:¬ Tb (a.take (i+1))→¬ Tb a:=fun h1 h2=>h1 (by
   rw [← List.take_append_drop (i+1) a] at h2
   exact tb_take h2)
  have hstep:(0:Int)≤(i:Int)∧(i:Int) < (a.length:Int):=by omega
  simp only [table_Check.step,table_Check.l1,hstep.2,if_true,hstep,and_self]
  generalize a.getD (i:Int).toNat api_Pair.z=X at hx ⊢
  by_cases ho:okP X
  ·obtain ⟨o1,o2,o3,o4⟩:=id ho
   rw [if_neg (by omega),if_neg (by omega),if_neg (by omega),if_neg (by omega)]
   rcases Nat.eq_zero_or_pos i with h0 | h0
   ·subst h0
    left
    refine ⟨(),by simp [table_Check.j1,show IntKind.wrap .i64 1=1 by decide], ?_⟩
    rw [hx,tb_snoc]
    exact ⟨h,ho,by simp⟩
   ·have hw:IntKind.wrap .i64 ((i:Int) - 1)=((i - 1:Nat):Int):=by rw [wr (by omega)];omega
    rw [if_pos (show (i:Int) > 0 by omega),hw,if_pos (by omega)]
    have hprev:a.take i=a.take (i - 1) ++ [a.getD ((i - 1:Nat):Int).toNat api_Pair.z]:=by
     have:=take_atI (l:=a) (z:=api_Pair.z) (i:=i - 1) (by omega)
     rwa [show i - 1+1=i by omega] at this
    generalize a.getD ((i - 1:Nat):Int).toNat api_Pair.z=Y at hprev ⊢
    by_cases hc:Y.Key≥X.Key
    ·right
     refine ⟨false,by simp [table_Check.j1,hc], ?_⟩
     simp only [Bool.false_eq_true,false_iff]
     refine hsub ?_
     rw [hx,tb_snoc]
     rintro ⟨_,_,h4⟩
     have:=h4 Y (by rw [hprev];simp)
     omega
    ·left
     refine ⟨(),by simp [table_Check.j1,hc,wr1 hi hn], ?_⟩
     rw [hx,tb_snoc]
     refine ⟨h,ho,fun y hy=>?_⟩
     rw [hprev] at h hy
     have:=tb_last h y hy
     omega
  ·right
   refine ⟨false, ?_, ?_⟩
   ·unfold okP at ho
    have e:table_Check.j1 (i:Int) true=some (.inr false):=by simp [table_Check.j1]
    rw [e]
    by_cases h1:X.Key < 0
    ·rw [if_pos h1]
    ·by_cases h2:X.Key≥4096
     ·rw [if_neg h1,if_pos h2]
     ·by_cases h3:X.Val < -1099511627776
      ·rw [if_neg h1,if_neg h2,if_pos h3]
      ·rw [if_neg h1,if_neg h2,if_neg h3,if_pos (by omega)]
   ·simp only [Bool.false_eq_true,false_iff]
    refine hsub ?_
    rw [hx,tb_snoc]
    rintro ⟨_,h4,_⟩
    exact ho h4

theorem ref5_Check_eq (a:List api_Pair) (hn:a.length≤9223372036854775807):∃ r,spliceref05_Check (a.map tr)=some r∧(r=true↔Tb a):=by
 unfold spliceref05_Check
 refine for_post (n:=a.length) (fun i (_:Unit)=>spliceref05_Check.S.l1 (i:Int)) (fun i _=>Tb (a.take i)) _ ?_ ?_ 0 () (Nat.zero_le _) (by simpa using Tb.nil)
 ·intro _ h
  rw [take_all (Nat.le_refl _)] at h
  exact ⟨true,by simp [spliceref05_Check.step,spliceref05_Check.l1],by simp [h]⟩
 ·intro i _ hi h
  have hx:a.take (i+1)=a.take i ++ [a.getD (i:Int).toNat api_Pair.z]:=take_atI hi
  have hsub:¬ Tb (a.take (i+1))→¬ Tb a:=fun h1 h2=>h1 (by
   rw [← List.take_append_drop (i+1) a] at h2
   exact tb_take h2)
  have hstep:(0:Int)≤(i:Int)∧(i:Int) < (a.length:Int):=by omega
  simp only [spliceref05_Check.step,spliceref05_Check.l1,spliceref05_Check.j1,List.length_map,hstep.2,if_true,hstep,and_self,tr_at a hi]
  generalize a.getD (i:Int).toNat api_Pair.z=X at hx ⊢
  by_cases ho:okP X
  ·obtain ⟨o1,o2,o3,o4⟩:=id ho
   rw [if_neg (show ¬ (tr X).Key < 0 by show ¬ X.Key < 0;omega),if_neg (show ¬ (tr X).Key > 4095 by show ¬ X.Key > 4095;omega),if_neg (show ¬ (tr X).Val < -1099511627776 by show ¬ X.Val < _;omega),decide_eq_false (show ¬ (tr X).Val > 1099511627776 by show ¬ X.Val > _;omega),if_neg (by decide)]
   rcases Nat.eq_zero_or_pos i with h0 | h0
   ·subst h0
    left
    refine ⟨(),by simp [spliceref05_Check.j2,show IntKind.wrap .i64 1=1 by decide], ?_⟩
    rw [hx,tb_snoc]
    exact ⟨h,ho,by simp⟩
   ·have hw:IntKind.wrap .i64 ((i:Int) - 1)=((i - 1:Nat):Int):=by rw [wr (by omega)];omega
    rw [if_pos (show (i:Int) > 0 by omega),hw,if_pos (by omega)]
    have hprev:a.take i=a.take (i - 1) ++ [a.getD ((i - 1:Nat):Int).toNat api_Pair.z]:=by
     have:=take_atI (l:=a) (z:=api_Pair.z) (i:=i - 1) (by omega)
     rwa [show i - 1+1=i by omega] at this
    rw [tr_at a (i:=i - 1) (by omega)]
    generalize a.getD ((i - 1:Nat):Int).toNat api_Pair.z=Y at hprev ⊢
    by_cases hc:X.Key≤Y.Key
    ·right
     refine ⟨false,by simp [spliceref05_Check.j2,hc,tr], ?_⟩
     simp only [Bool.false_eq_true,false_iff]
     refine hsub ?_
     rw [hx,tb_snoc]
     rintro ⟨_,_,h4⟩
     have:=h4 Y (by rw [hprev];simp)
     omega
    ·left
     refine ⟨(),by simp [spliceref05_Check.j2,hc,wr1 hi hn,tr], ?_⟩
     rw [hx,tb_snoc]
     refine ⟨h,ho,fun y hy=>?_⟩
     rw [hprev] at h hy
     have:=tb_last h y hy
     omega
  ·right
   refine ⟨false, ?_, ?_⟩
   ·unfold okP at ho
    by_cases h1:(tr X).Key < 0
    ·rw [if_pos h1]
    ·by_cases h2:(tr X).Key > 4095
     ·rw [if_neg h1,if_pos h2]
     ·by_cases h3:(tr X).Val < -1099511627776
      ·rw [if_neg h1,if_neg h2,if_pos h3]
      ·rw [if_neg h1,if_neg h2,if_neg h3,decide_eq_true (show (tr X).Val > 1099511627776 by simp only [tr] at h1 h2 h3 ⊢;omega),if_pos rfl]
   ·simp only [Bool.false_eq_true,false_iff]
    refine hsub ?_
    rw [hx,tb_snoc]
    rintro ⟨_,h4,_⟩
    exact ho h4

theorem find_loop (a:List api_Pair) (k:Int) (f:api_Pair→Int→Option Int) (hf:∀ z,f z k=some (if z.Key < k then -1 else if z.Key > k then 1 else 0)) (hn:a.length≤5000) (hu:Up a):∀ (m lo hi:Nat),hi - lo≤m→lo≤low a k→low a k≤hi→hi≤a.length →
  goLoop (slices_BinarySearchFunc_int.step a k f) (.l1 (lo:Int) (hi:Int))=some ((low a k:Int),hit a k):=by
 have fin:∀ n:Nat,n=low a k→goLoop (slices_BinarySearchFunc_int.step a k f) (.l1 (n:Int) (n:Int))=some ((low a k:Int),hit a k):=by
  rintro n rfl
  rw [loop_eq]
  simp only [slices_BinarySearchFunc_int.step,slices_BinarySearchFunc_int.l1,Int.lt_irrefl,if_false]
  by_cases hl:low a k < a.length
  ·rw [if_pos (by omega),if_pos (by omega)]
   simp only [hf,Option.bind_some,slices_BinarySearchFunc_int.j1,hit,hl,decide_true,Bool.true_and]
   show some ((low a k:Int),(if (a.getD (low a k) api_Pair.z).Key < k then (-1:Int) else if (a.getD (low a k) api_Pair.z).Key > k then 1 else 0) == 0)=_
   congr 2
   by_cases h1:(a.getD (low a k) api_Pair.z).Key < k
   ·rw [if_pos h1,decide_eq_false (by omega)]
    rfl
   ·by_cases h2:(a.getD (low a k) api_Pair.z).Key > k
    ·rw [if_neg h1,if_pos h2,decide_eq_false (by omega)]
     rfl
    ·rw [if_neg h1,if_neg h2,decide_eq_true (by omega)]
     rfl
  ·rw [if_neg (by omega)]
   simp [slices_BinarySearchFunc_int.j1,hit,hl,stk]
 intro m
 induction m with
 | zero=>
  intro lo hi h1 h2 h3 h4
  obtain rfl:lo=hi:=by omega
  exact fin lo (by omega)
 | succ m ih=>
  intro lo hi h1 h2 h3 h4
  rcases Nat.lt_or_ge lo hi with hlt | hge
  ·rw [loop_eq]
   simp only [slices_BinarySearchFunc_int.step,slices_BinarySearchFunc_int.l1]
   rw [if_pos (by omega)]
   have hmid:IntKind.wrap .i64 (Int.fdiv (IntKind.wrap .u64 (IntKind.wrap .i64 ((lo:Int)+(hi:Int)))) 2)=(((lo+hi) / 2:Nat):Int):=by
    rw [wr (n:=(lo:Int)+hi) (by omega)]
    have e1:IntKind.wrap .u64 ((lo:Int)+(hi:Int))=(lo:Int)+hi:=by
     simp [IntKind.wrap,IntKind.bits,IntKind.signed];omega
    rw [e1]
    have e2:Int.fdiv ((lo:Int)+(hi:Int)) 2=(((lo+hi) / 2:Nat):Int):=by
     rw [Int.fdiv_eq_ediv_of_nonneg _ (by omega)]
     omega
    rw [e2,wr (by omega)]
   rw [hmid]
   simp only [bnd]
   have hm1:(lo+hi) / 2 < a.length:=by omega
   rw [if_pos (by omega)]
   simp only [hf,Option.bind_some]
   rw [show (((lo+hi) / 2:Nat):Int).toNat=(lo+hi) / 2 from rfl]
   by_cases hk:(a.getD ((lo+hi) / 2) api_Pair.z).Key < k
   ·rw [if_pos hk,if_pos (by decide),wr (by omega)]
    have:=ih ((lo+hi) / 2+1) hi (by omega) (by
     rcases Nat.lt_or_ge ((lo+hi) / 2) (low a k) with h | h
     ·exact h
     ·have:=low_ge hu h hm1;omega) h3 h4
    exact this
   ·have hlow:low a k≤(lo+hi) / 2:=by
     rcases Nat.lt_or_ge ((lo+hi) / 2) (low a k) with h | h
     ·exact absurd (low_lt h) hk
     ·exact h
    have:=ih lo ((lo+hi) / 2) (by omega) h2 hlow (by omega)
    rw [if_neg hk,if_neg (by split<;>decide)]
    exact this
  ·obtain rfl:lo=hi:=by omega
   exact fin lo (by omega)

theorem find_eq (a:List api_Pair) (k:Int) (hn:a.length≤5000) (hu:Up a):table_find a k=some ((low a k:Int),hit a k):=by
 unfold table_find slices_BinarySearchFunc_int
 have:=find_loop a k (fun z0 z1=>some (table_find_1 z0 z1)) (fun z=>by simp [table_find_1,cmp_Compare_int,cmp_isNaN_int]) hn hu a.length 0 a.length (by omega) (Nat.zero_le _) (low_le a k) (Nat.le_refl _)
 rw [show ((0:Nat):Int)=0 from rfl] at this
 rw [this]
 rfl
abbrev pairO (o:Option Int):Int × Bool:=(o.getD 0,o.isSome)
theorem get_eq (a:List api_Pair) (k:Int) (hn:a.length≤5000) (hu:Up a):table_get a k=some (pairO (look a k)):=by
 unfold table_get
 rw [find_eq a k hn hu,Option.bind_some,hit_look hu]
 by_cases h:hit a k=true
 ·have hl:low a k < a.length:=by
   unfold hit at h
   simp only [Bool.and_eq_true,decide_eq_true_eq] at h
   exact h.1
  simp only [h,if_true]
  rw [if_pos (by omega)]
  rfl
 ·simp only [h,if_false]
  rfl
theorem put_eq (a:List api_Pair) (k v:Int) (hn:a.length≤5000) (hu:Up a):table_put a k v=some (putL a k v):=by
 unfold table_put
 rw [find_eq a k hn hu,Option.bind_some]
 have hl:=low_le a k
 by_cases h:hit a k=true
 ·have hh:=h
  unfold hit at hh
  simp only [Bool.and_eq_true,decide_eq_true_eq] at hh
  simp only [h,if_true]
  rw [if_pos (by omega),putL_hit v h]
  show some (a.set (low a k) ⟨(a.getD (low a k) api_Pair.z).Key,v⟩)=_
  rw [hh.2]
 ·have h':hit a k=false:=by simpa using h
  simp only [h',Bool.false_eq_true,if_false]
  rw [if_pos (by omega),putL_miss v h']
  rfl
theorem ref5_Get_eq (a:List api_Pair) (k:Int) (hn:a.length≤9223372036854775807):spliceref05_Get (a.map tr) k=some ⟨(look a k).getD 0,(look a k).isSome⟩:=by
 unfold spliceref05_Get
 obtain ⟨r,h1,h2⟩:∃ r,goLoop (spliceref05_Get.step (a.map tr) k) (.l1 0)=some r∧r=⟨(look a k).getD 0,(look a k).isSome⟩:=by
  refine for_post (n:=a.length) (fun i (_:Unit)=>spliceref05_Get.S.l1 (i:Int)) (fun i _=>look a k=look (a.drop i) k) _ ?_ ?_ 0 () (Nat.zero_le _) (by simp)
  ·intro _ h
   rw [List.drop_length] at h
   exact ⟨_,by simp [spliceref05_Get.step,spliceref05_Get.l1];rfl,by rw [h];rfl⟩
  ·intro i _ hi h
   have hstep:(0:Int)≤(i:Int)∧(i:Int) < (a.length:Int):=by omega
   have hd:=drop_atI (l:=a) (z:=api_Pair.z) hi
   simp only [spliceref05_Get.step,spliceref05_Get.l1,List.length_map,hstep.2,if_true,hstep,and_self,tr_at a hi,wr1 hi hn]
   generalize a.getD (i:Int).toNat api_Pair.z=X at hd ⊢
   rw [hd,look] at h
   by_cases hk:X.Key=k
   ·right
    rw [if_pos hk] at h
    refine ⟨⟨X.Val,true⟩,by simp [tr,hk],by rw [h];rfl⟩
   ·left
    rw [if_neg hk] at h
    exact ⟨(),by simp [tr,hk],h⟩
 rw [h1,h2]
end Go.SyP
