/- Sets of keys at the seat of table: what the loops come to (printed of P03B). -/
import Derived.Test.YtdhmflhncidjaaaGreatPthzmA
import Derived.Test.YtdhmflhncidjaaaGreatP03A
set_option linter.unusedVariables false
set_option linter.unusedSimpArgs false
namespace Go.SyP
open Go Go.Sy Sets
theorem Qpz (a:List Qb) (hn:a.length<=9223372036854775807):∃ r,Jf a=some r/\(r=true↔Canon (a.map pa)/\a.length<=64):=by
 unfold Jf
 refine Qd7 (n:=a.length) (fun i (_:Unit)=>Jf.S.l1 (i:Int)) (fun i _=>Canon ((a.take i).map pa)) _ ?_ ?_ 0 () (Nat.zero_le _) (by simpa using Canon.nil)
 ·intro _ h
  rw [Qe7 (Nat.le_refl _)] at h
  refine ⟨_,by simp [Jf.step,Jf.l1];rfl, ?_⟩
  simp only [h,true_and,decide_eq_true_eq]
  omega
 intro i _ hi h
 have hx:(a.take (i+1)).map pa=(a.take i).map pa ++ [pa (a.getD (i:Int).toNat Qb.z)]:=by rw [Qfo hi,List.map_append];rfl
 have Qky:∀ l:List Sp,¬ Canon ((a.take (i+1)).map pa)->¬ Canon (a.map pa):=fun _ h1 h2=>h1 (by
  rw [<- List.take_append_drop (i+1) a,List.map_append] at h2
  exact Wce h2)
 have Qay:(0:Int)<=(i:Int)/\(i:Int) < (a.length:Int):=by omega
 simp only [Jf.step,Jf.l1,Qay.2,if_true,Qay,and_self,Qjj]
 generalize a.getD (i:Int).toNat Qb.z=X at hx ⊢
 by_cases ho:Ok (pa X)
 ·simp only [ho,decide_true,if_true]
  rcases Nat.eq_zero_or_pos i with h0 | h0
  ·subst h0
   left
   refine ⟨(),by simp [Jf.j1,show IntKind.wrap .i64 1=1 by decide], ?_⟩
   rw [hx,Qgr]
   exact ⟨h,ho,by simp⟩
  have hw:IntKind.wrap .i64 ((i:Int) - 1)=((i - 1:Nat):Int):=by rw [wr (by omega)];omega
  rw [if_pos (show (i:Int) > 0 by omega),hw,if_pos (by omega)]
  have Qlf:(a.take i).map pa=(a.take (i - 1)).map pa ++ [pa (a.getD ((i - 1:Nat):Int).toNat Qb.z)]:=by
   have:=Qfo (l:=a) (z:=Qb.z) (i:=i - 1) (by omega)
   rw [show i - 1+1=i by omega] at this
   rw [this,List.map_append];rfl
  generalize a.getD ((i - 1:Nat):Int).toNat Qb.z=Y at Qlf ⊢
  by_cases hc:X.Lo<=Y.Hi
  ·right
   refine ⟨false,by simp [Jf.j1,hc], ?_⟩
   simp only [Bool.false_eq_true,false_iff,not_and]
   intro h1
   exfalso
   refine Qky [] ?_ h1
   rw [hx,Qgr]
   rintro ⟨_,_,h4⟩
   have:=h4 (pa Y) (by rw [Qlf];simp)
   simp only [pa] at this
   omega
  left
  refine ⟨(),by simp [Jf.j1,hc,wr1 hi hn], ?_⟩
  rw [hx,Qgr]
  refine ⟨h,ho,fun y hy=>?_⟩
  rw [Qlf] at h hy
  have:=Qtx h y hy
  simp only [pa] at this ⊢
  omega
 right
 refine ⟨false,by simp [Jf.j1,ho], ?_⟩
 simp only [Bool.false_eq_true,false_iff,not_and]
 intro h1
 exfalso
 refine Qky [] ?_ h1
 rw [hx,Qgr]
 rintro ⟨_,h4,_⟩
 exact ho h4
theorem Wj8 (a:List Qb) (hn:a.length<=9223372036854775807) (q:Qb->Bool):∃ r,Za a (fun z=>some (q z))=some r/\decide (r>=0)=a.any q:=by
 unfold Za
 refine Qd7 (n:=a.length) (fun i (_:Unit)=>Za.S.l1 (i:Int)) (fun i _=>(a.take i).any q=false) _ ?_ ?_ 0 () (Nat.zero_le _) rfl
 ·intro _ h
  rw [Qe7 (Nat.le_refl _)] at h
  refine ⟨_,by simp [Za.step,Za.l1];rfl, ?_⟩
  rw [h];decide
 intro i _ hi h
 have hx:(a.take (i+1)).any q=q (a.getD (i:Int).toNat Qb.z):=by rw [Qfo (z:=Qb.z) hi,List.any_append,h];simp
 have Qay:(0:Int)<=(i:Int)/\(i:Int) < (a.length:Int):=by omega
 simp only [Za.step,Za.l1,Qay.2,if_true,Qay,and_self,Option.bind_some]
 cases hq:q (a.getD (i:Int).toNat Qb.z) with
 | true=>
  right
  refine ⟨i,by simp, ?_⟩
  rw [hq] at hx
  have:a.any q=true:=by rw [<- List.take_append_drop (i+1) a,List.any_append,hx];rfl
  rw [this]
  simp
 | false=>
  left
  refine ⟨(),by simp [wr1 hi hn], ?_⟩
  rw [hx,hq]
theorem contains_eq (a:List Qb) (hn:a.length<=9223372036854775807) (q:Qb->Bool):Qbo a (fun z=>some (q z))=some (a.any q):=by
 obtain ⟨r,h1,h2⟩:=Wj8 a hn q
 unfold Qbo
 rw [h1,Option.bind_some,h2]
theorem Wa4 (a:List Qb) (hn:a.length<=9223372036854775807) (k:Int):Qe6 a k=some ((a.map pa).any fun x=>decide (Ok x) && decide (x.1<=k) && decide (k < x.2)):=by
 unfold Qe6
 rw [contains_eq a hn,Option.bind_some,List.any_map]
 congr 1
 congr 1
 funext x
 unfold Qd4 Qd4.j1
 rw [Qjj]
 simp only [Function.comp,pa]
 by_cases h1:Ok (x.Lo,x.Hi)<;>by_cases h2:k>=x.Lo<;>simp [h1,h2]<;>try exact decide_eq_decide.2 Iff.rfl
end Go.SyP
namespace Go.SyP
open Go Go.Sy Sets
def tr (x:Qa):Qx:=⟨x.Key,x.Val⟩
instance (x:Qa):Decidable (okP x):=by unfold okP;exact inferInstance
end Go.SyP
namespace Go.SyP
open Go Go.Sy Sets
theorem Qs0 (a:List Qa) (hn:a.length<=5000):Zh a=some (a.map tr):=by
 unfold Zh
 obtain ⟨r,h1,h2⟩:∃ r,Yy (Zh.step a) (.l1 0 [])=some r/\r=a.map tr:=by
  refine Qd7 (n:=a.length) (fun i x=>Zh.S.l1 (i:Int) x) (fun i x=>x=(a.take i).map tr) _ ?_ ?_ 0 [] (Nat.zero_le _) (by simp)
  ·intro x h
   rw [Qe7 (Nat.le_refl _)] at h
   exact ⟨x,by simp [Zh.step,Zh.l1],h⟩
  intro i x hi h
  left
  have Qay:(0:Int)<=(i:Int)/\(i:Int) < (a.length:Int):=by omega
  have hl:x.length=i:=by rw [h];simp [Nat.min_eq_left (Nat.le_of_lt hi)]
  simp only [Zh.step,Zh.l1,Qay.2,if_true,Qay,and_self,hl,wr1 hi (by omega:a.length<=9223372036854775807)]
  rw [if_pos (by omega)]
  refine ⟨_,rfl, ?_⟩
  rw [Qfo (z:=Qa.z) hi,List.map_append,h]
  rfl
 rw [h1,h2]
instance:DecidableEq Qx:=fun a b=>decidable_of_iff (a.Key=b.Key/\a.Val=b.Val) ⟨fun h=>by cases a;cases b;simp only at h;obtain ⟨rfl,rfl⟩:=h;rfl,fun h=>by rw [h];exact ⟨rfl,rfl⟩⟩
theorem Qf7 (a:List Qa) (hn:a.length<=9223372036854775807):∃ r,Wz a=some r/\(r=true↔Tb a):=by
 unfold Wz
 refine Qd7 (n:=a.length) (fun i (_:Unit)=>Wz.S.l1 (i:Int)) (fun i _=>Tb (a.take i)) _ ?_ ?_ 0 () (Nat.zero_le _) (by simpa using Tb.nil)
 ·intro _ h
  rw [Qe7 (Nat.le_refl _)] at h
  exact ⟨true,by simp [Wz.step,Wz.l1],by simp [h]⟩
 intro i _ hi h
 have hx:a.take (i+1)=a.take i ++ [a.getD (i:Int).toNat Qa.z]:=Qfo hi
 have Qky:¬ Tb (a.take (i+1))->¬ Tb a:=fun h1 h2=>h1 (by
  rw [<- List.take_append_drop (i+1) a] at h2
  exact Qvp h2)
 have Qay:(0:Int)<=(i:Int)/\(i:Int) < (a.length:Int):=by omega
 simp only [Wz.step,Wz.l1,Qay.2,if_true,Qay,and_self]
 generalize a.getD (i:Int).toNat Qa.z=X at hx ⊢
 by_cases ho:okP X
 ·obtain ⟨o1,o2,o3,o4⟩:=id ho
  rw [if_neg (by omega),if_neg (by omega),if_neg (by omega),if_neg (by omega)]
  rcases Nat.eq_zero_or_pos i with h0 | h0
  ·subst h0
   left
   refine ⟨(),by simp [Wz.j1,show IntKind.wrap .i64 1=1 by decide], ?_⟩
   rw [hx,Qol]
   exact ⟨h,ho,by simp⟩
  have hw:IntKind.wrap .i64 ((i:Int) - 1)=((i - 1:Nat):Int):=by rw [wr (by omega)];omega
  rw [if_pos (show (i:Int) > 0 by omega),hw,if_pos (by omega)]
  have Qlf:a.take i=a.take (i - 1) ++ [a.getD ((i - 1:Nat):Int).toNat Qa.z]:=by
   have:=Qfo (l:=a) (z:=Qa.z) (i:=i - 1) (by omega)
   rwa [show i - 1+1=i by omega] at this
  generalize a.getD ((i - 1:Nat):Int).toNat Qa.z=Y at Qlf ⊢
  by_cases hc:Y.Key>=X.Key
  ·right
   refine ⟨false,by simp [Wz.j1,hc], ?_⟩
   simp only [Bool.false_eq_true,false_iff]
   refine Qky ?_
   rw [hx,Qol]
   rintro ⟨_,_,h4⟩
   have:=h4 Y (by rw [Qlf];simp)
   omega
  left
  refine ⟨(),by simp [Wz.j1,hc,wr1 hi hn], ?_⟩
  rw [hx,Qol]
  refine ⟨h,ho,fun y hy=>?_⟩
  rw [Qlf] at h hy
  have:=Wm8 h y hy
  omega
 right
 refine ⟨false, ?_, ?_⟩
 ·unfold okP at ho
  have e:Wz.j1 (i:Int) true=some (.inr false):=by simp [Wz.j1]
  rw [e]
  by_cases h1:X.Key < 0
  ·rw [if_pos h1]
  by_cases h2:X.Key>=4096
  ·rw [if_neg h1,if_pos h2]
  by_cases h3:X.Val < -1099511627776
  ·rw [if_neg h1,if_neg h2,if_pos h3]
  rw [if_neg h1,if_neg h2,if_neg h3,if_pos (by omega)]
 simp only [Bool.false_eq_true,false_iff]
 refine Qky ?_
 rw [hx,Qol]
 rintro ⟨_,h4,_⟩
 exact ho h4
theorem Wg0 (a:List Qa) (k:Int) (f:Qa->Int->Option Int) (hf:∀ z,f z k=some (if z.Key < k then -1 else if z.Key > k then 1 else 0)) (hn:a.length<=5000) (hu:Up a):∀ (m lo hi:Nat),hi - lo<=m->lo<=low a k->low a k<=hi->hi<=a.length ->
  Yy (Xn.step a k f) (.l1 (lo:Int) (hi:Int))=some ((low a k:Int),hit a k):=by
 have fin:∀ n:Nat,n=low a k->Yy (Xn.step a k f) (.l1 (n:Int) (n:Int))=some ((low a k:Int),hit a k):=by
  rintro n rfl
  rw [Ya]
  simp only [Xn.step,Xn.l1,Int.lt_irrefl,if_false]
  by_cases hl:low a k < a.length
  ·rw [if_pos (by omega),if_pos (by omega)]
   simp only [hf,Option.bind_some,Xn.j1,hit,hl,decide_true,Bool.true_and]
   show some ((low a k:Int),(if (a.getD (low a k) Qa.z).Key < k then (-1:Int) else if (a.getD (low a k) Qa.z).Key > k then 1 else 0) == 0)=_
   congr 2
   by_cases h1:(a.getD (low a k) Qa.z).Key < k
   ·rw [if_pos h1,decide_eq_false (by omega)]
    rfl
   by_cases h2:(a.getD (low a k) Qa.z).Key > k
   ·rw [if_neg h1,if_pos h2,decide_eq_false (by omega)]
    rfl
   rw [if_neg h1,if_neg h2,decide_eq_true (by omega)]
   rfl
  rw [if_neg (by omega)]
  simp [Xn.j1,hit,hl,Jq]
 intro m
 induction m with
 | zero=>
  intro lo hi h1 h2 h3 h4
  obtain rfl:lo=hi:=by omega
  exact fin lo (by omega)
 | succ m ih=>
  intro lo hi h1 h2 h3 h4
  rcases Nat.lt_or_ge lo hi with hlt | hge
  ·rw [Ya]
   simp only [Xn.step,Xn.l1]
   rw [if_pos (by omega)]
   have Qqp:IntKind.wrap .i64 (Int.fdiv (IntKind.wrap .u64 (IntKind.wrap .i64 ((lo:Int)+(hi:Int)))) 2)=(((lo+hi) / 2:Nat):Int):=by
    rw [wr (n:=(lo:Int)+hi) (by omega)]
    have e1:IntKind.wrap .u64 ((lo:Int)+(hi:Int))=(lo:Int)+hi:=by
     simp [IntKind.wrap,IntKind.bits,IntKind.signed];omega
    rw [e1]
    have e2:Int.fdiv ((lo:Int)+(hi:Int)) 2=(((lo+hi) / 2:Nat):Int):=by
     rw [Int.fdiv_eq_ediv_of_nonneg _ (by omega)]
     omega
    rw [e2,wr (by omega)]
   rw [Qqp]
   simp only [bnd]
   have hm1:(lo+hi) / 2 < a.length:=by omega
   rw [if_pos (by omega)]
   simp only [hf,Option.bind_some]
   rw [show (((lo+hi) / 2:Nat):Int).toNat=(lo+hi) / 2 from rfl]
   by_cases hk:(a.getD ((lo+hi) / 2) Qa.z).Key < k
   ·rw [if_pos hk,if_pos (by decide),wr (by omega)]
    have:=ih ((lo+hi) / 2+1) hi (by omega) (by
     rcases Nat.lt_or_ge ((lo+hi) / 2) (low a k) with h | h
     ·exact h
     have:=Whp hu h hm1;omega) h3 h4
    exact this
   have Wj0:low a k<=(lo+hi) / 2:=by
    rcases Nat.lt_or_ge ((lo+hi) / 2) (low a k) with h | h
    ·exact absurd (Whq h) hk
    exact h
   have:=ih lo ((lo+hi) / 2) (by omega) h2 Wj0 (by omega)
   rw [if_neg hk,if_neg (by split<;>decide)]
   exact this
  obtain rfl:lo=hi:=by omega
  exact fin lo (by omega)
theorem find_eq (a:List Qa) (k:Int) (hn:a.length<=5000) (hu:Up a):Qgw a k=some ((low a k:Int),hit a k):=by
 unfold Qgw Xn
 have:=Wg0 a k (fun z0 z1=>some (Qfd z0 z1)) (fun z=>by simp [Qfd,Yr,cmp_isNaN_int]) hn hu a.length 0 a.length (by omega) (Nat.zero_le _) (Qzp a k) (Nat.le_refl _)
 rw [show ((0:Nat):Int)=0 from rfl] at this
 rw [this]
 rfl
theorem get_eq (a:List Qa) (k:Int) (hn:a.length<=5000) (hu:Up a):Qhq a k=some (Weq (look a k)):=by
 unfold Qhq
 rw [find_eq a k hn hu,Option.bind_some,Qyz hu]
 by_cases h:hit a k=true
 ·have hl:low a k < a.length:=by
   unfold hit at h
   simp only [Bool.and_eq_true,decide_eq_true_eq] at h
   exact h.1
  simp only [h,if_true]
  rw [if_pos (by omega)]
  rfl
 simp only [h,if_false]
 rfl
theorem put_eq (a:List Qa) (k v:Int) (hn:a.length<=5000) (hu:Up a):Qea a k v=some (Qes a k v):=by
 unfold Qea
 rw [find_eq a k hn hu,Option.bind_some]
 have hl:=Qzp a k
 by_cases h:hit a k=true
 ·have hh:=h
  unfold hit at hh
  simp only [Bool.and_eq_true,decide_eq_true_eq] at hh
  simp only [h,if_true]
  rw [if_pos (by omega),Qzx v h]
  show some (a.set (low a k) ⟨(a.getD (low a k) Qa.z).Key,v⟩)=_
  rw [hh.2]
 have h':hit a k=false:=by simpa using h
 simp only [h',Bool.false_eq_true,if_false]
 rw [if_pos (by omega),Qwr v h']
 rfl
end Go.SyP
namespace Go.SyP
open Go Go.Sy Sets
theorem has_eq (on:List Qb) (hn:on.length<=5000) (k:Int):Qe6 on k=some (hasB on k):=Wa4 on (by omega) k
theorem Wn1 (on:List Qb) (hn:on.length<=5000):∃ r,Jf on=some r/\(r=true↔SOk on):=Qpz on (by omega)
theorem Wfy (a:List Qa) (hn:a.length<=5000) (q:Qa->Bool):Xo a (fun z=>some (q z))=some (a.filter fun x=>!q x):=by
 unfold Xo
 obtain ⟨r,h1,h2⟩:=Wg9 a (by omega) q
 rw [h1,Option.bind_some]
 rcases h2 with ⟨rfl,h⟩ | ⟨p,rfl,hp,hq,Qvd⟩
 ·rw [if_pos rfl,List.filter_eq_self.2 fun x hx=>by rw [h x hx];rfl]
 rw [if_neg (by omega),wr1 hp (by omega)]
 obtain ⟨r,e1,e2⟩:∃ r,Yy (Xo.step fun z=>some (q z)) (.l1 (p:Int) ((p+1:Nat):Int) a)=some r/\r=a.filter fun x=>!q x:=by
  refine Qd7 (n:=a.length) (fun j (x:Nat × List Qa)=>Xo.S.l1 (x.1:Int) (j:Int) x.2)
   (fun j x=>x.1<=j/\x.2.length=a.length/\x.2.take x.1=(a.take j).filter (fun x=>!q x)/\x.2.drop j=a.drop j) _ ?_ ?_ (p+1) (p,a) (by omega) ?_
  ·rintro ⟨i,row⟩ ⟨hi,hl,ht,hd⟩
   simp only at hi hl ht hd ⊢
   rw [Qe7 (Nat.le_refl _)] at ht
   refine ⟨row.take i, ?_,ht⟩
   simp only [Xo.step,Xo.l1,hl,Int.lt_irrefl,if_false]
   rw [if_pos (by omega)]
   rfl
  ·rintro j ⟨i,row⟩ hj ⟨hi,hl,ht,hd⟩
   simp only at hi hl ht hd ⊢
   have Qay:(0:Int)<=(j:Int)/\(j:Int) < (row.length:Int):=by omega
   have hx:=Qfo (l:=a) (z:=Qa.z) hj
   have d1:=Qmo (l:=a) (z:=Qa.z) hj
   have d2:=Qmo (l:=row) (z:=Qa.z) (i:=j) (by omega)
   rw [hd,d1] at d2
   injection d2 with d3 d4
   simp only [Xo.step,Xo.l1,Qay.2,if_true,Qay,and_self,Option.bind_some,<- d3]
   generalize a.getD (j:Int).toNat Qa.z=X at hx ⊢
   left
   cases hqX:q X with
   | true=>
    refine ⟨(i,row),by simp [Xo.j1,wr1 hj (by omega:a.length<=9223372036854775807)],by simp only;omega,hl, ?_,d4.symm⟩
    rw [hx,List.filter_append,List.filter_cons,if_neg (by simp [hqX]),ht]
    simp
   | false=>
    have hi2:i < row.length:=by omega
    refine ⟨(i+1,row.set i X), ?_,by simp only;omega,by simp [hl], ?_, ?_⟩
    ·rw [if_neg (by decide),if_pos (by omega)]
     simp only [Xo.j1,wr1 hj (by omega:a.length<=9223372036854775807),wr1 hi2 (by omega:row.length<=9223372036854775807)]
     rfl
    ·simp only
     rw [hx,List.filter_append,List.filter_cons,if_pos (by simp [hqX]),<- ht,take_at (z:=Qa.z) (by simpa using hi2),List.take_set_of_le (Nat.le_refl _)]
     simp [List.getD_eq_getElem?_getD,hi2]
    simp only
    rw [List.drop_set_of_lt (by omega),d4]
  refine ⟨by simp only;omega,rfl, ?_,rfl⟩
  simp only
  rw [take_at (z:=Qa.z) hp,List.filter_append,List.filter_cons,if_neg (by rw [hq];decide),List.filter_eq_self.2 fun x hx=>by rw [Qvd x hx];rfl]
  simp
 rw [e1,e2]
theorem Wn4 (a:List Qa) (hn:a.length<=5000) (s:Qb) (on:List Qb) (ho:on.length<=5000):
  Qj8 a s on=some (a.filter fun x=>!((decide (s.Lo<=x.Key) && decide (x.Key < s.Hi)) && hasB on x.Key)):=by
 unfold Qj8
 have:(fun z0=>Qdp z0 s on)=fun z:Qa=>some ((decide (s.Lo<=z.Key) && decide (z.Key < s.Hi)) && hasB on z.Key):=by
  funext z
  unfold Qdp Qdp.j1
  rw [has_eq on ho]
  by_cases h1:z.Key>=s.Lo<;>by_cases h2:z.Key < s.Hi<;>simp [h1,h2]
 rw [this,Wfy a hn]
 rfl
instance (l:List Qa):Decidable (Up l):=by unfold Up;exact inferInstance
end Go.SyP
