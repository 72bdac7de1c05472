/- Sets of keys at the seat of table: what the loops come to (printed of P03B). -/
import Derived.Test.YticmlllaimjdcaaGreatG15zLP
import Derived.Test.YticmlllaimjdcaaGreatP03A
set_option linter.unusedVariables false
set_option linter.unusedSimpArgs false
namespace Go.SyP
open Go Go.Sy Sets
def pr (x:Qx):Sp:=(x.Lo,x.Hi)
def toR (x:Qb):Qx:=⟨x.Lo,x.Hi⟩
theorem Qxv (l:List Qb):(l.map toR).map pr=l.map pa:=by
 rw [List.map_map];rfl
theorem Wj3 {l m:List Qx} (h:l.map pr=m.map pr):l=m:=by
 have:∀ x y:Qx,pr x=pr y->x=y:=by
  intro x y e
  cases x;cases y
  simp only [pr,Prod.mk.injEq] at e
  obtain ⟨rfl,rfl⟩:=e
  rfl
 exact (List.map_inj_right this).1 h
theorem Qpa (a:List Qb) (hn:a.length<=9223372036854775807):∃ r,Zg a=some r/\(r=true↔Canon (a.map pa)/\a.length<=64):=by
 unfold Zg
 refine Qbb (n:=a.length) (fun i (_:Unit)=>Zg.S.l1 (i:Int)) (fun i _=>Canon ((a.take i).map pa)) _ ?_ ?_ 0 () (Nat.zero_le _) (by simpa using Canon.nil)
 ·intro _ h
  rw [Qau (Nat.le_refl _)] at h
  refine ⟨_,by simp [Zg.step,Zg.l1];rfl, ?_⟩
  simp only [h,true_and,decide_eq_true_eq]
  omega
 intro i _ hi h
 have hx:(a.take (i+1)).map pa=(a.take i).map pa ++ [pa (a.getD (i:Int).toNat Qb.z)]:=by rw [Qdi hi,List.map_append];rfl
 have Qii:∀ l:List Sp,¬ Canon ((a.take (i+1)).map pa)->¬ Canon (a.map pa):=fun _ h1 h2=>h1 (by
  rw [<- List.take_append_drop (i+1) a,List.map_append] at h2
  exact Qzx h2)
 have Xr:(0:Int)<=(i:Int)/\(i:Int) < (a.length:Int):=by omega
 simp only [Zg.step,Zg.l1,Xr.2,if_true,Xr,and_self,Qjd]
 generalize a.getD (i:Int).toNat Qb.z=X at hx ⊢
 by_cases ho:Ok (pa X)
 ·simp only [ho,decide_true,if_true]
  rcases Nat.eq_zero_or_pos i with h0 | h0
  ·subst h0
   left
   refine ⟨(),by simp [Zg.j1,show IntKind.wrap .i64 1=1 by decide], ?_⟩
   rw [hx,Qf2]
   exact ⟨h,ho,by simp⟩
  have hw:IntKind.wrap .i64 ((i:Int) - 1)=((i - 1:Nat):Int):=by rw [wr (by omega)];omega
  rw [if_pos (show (i:Int) > 0 by omega),hw,if_pos (by omega)]
  have Qh6:(a.take i).map pa=(a.take (i - 1)).map pa ++ [pa (a.getD ((i - 1:Nat):Int).toNat Qb.z)]:=by
   have:=Qdi (l:=a) (z:=Qb.z) (i:=i - 1) (by omega)
   rw [show i - 1+1=i by omega] at this
   rw [this,List.map_append];rfl
  generalize a.getD ((i - 1:Nat):Int).toNat Qb.z=Y at Qh6 ⊢
  by_cases hc:X.Lo<=Y.Hi
  ·right
   refine ⟨false,by simp [Zg.j1,hc], ?_⟩
   simp only [Bool.false_eq_true,false_iff,not_and]
   intro h1
   exfalso
   refine Qii [] ?_ h1
   rw [hx,Qf2]
   rintro ⟨_,_,h4⟩
   have:=h4 (pa Y) (by rw [Qh6];simp)
   simp only [pa] at this
   omega
  left
  refine ⟨(),by simp [Zg.j1,hc,wr1 hi hn], ?_⟩
  rw [hx,Qf2]
  refine ⟨h,ho,fun y hy=>?_⟩
  rw [Qh6] at h hy
  have:=Qs2 h y hy
  simp only [pa] at this ⊢
  omega
 right
 refine ⟨false,by simp [Zg.j1,ho], ?_⟩
 simp only [Bool.false_eq_true,false_iff,not_and]
 intro h1
 exfalso
 refine Qii [] ?_ h1
 rw [hx,Qf2]
 rintro ⟨_,h4,_⟩
 exact ho h4
theorem Qex (x:Qx):Qc1 x=decide (Ok (pr x)):=by
 unfold Qc1 Qc1.j1 Ok pr
 by_cases h1:x.Lo>=0<;>by_cases h2:x.Lo < x.Hi<;>simp [h1,h2]
theorem Wg8 (a:List Qb) (hn:a.length<=9223372036854775807) (q:Qb->Bool):∃ r,Zr a (fun z=>some (q z))=some r/\decide (r>=0)=a.any q:=by
 unfold Zr
 refine Qbb (n:=a.length) (fun i (_:Unit)=>Zr.S.l1 (i:Int)) (fun i _=>(a.take i).any q=false) _ ?_ ?_ 0 () (Nat.zero_le _) rfl
 ·intro _ h
  rw [Qau (Nat.le_refl _)] at h
  refine ⟨_,by simp [Zr.step,Zr.l1];rfl, ?_⟩
  rw [h];decide
 intro i _ hi h
 have hx:(a.take (i+1)).any q=q (a.getD (i:Int).toNat Qb.z):=by rw [Qdi (z:=Qb.z) hi,List.any_append,h];simp
 have Xr:(0:Int)<=(i:Int)/\(i:Int) < (a.length:Int):=by omega
 simp only [Zr.step,Zr.l1,Xr.2,if_true,Xr,and_self,Option.bind_some]
 cases hq:q (a.getD (i:Int).toNat Qb.z) with
 | true=>
  right
  refine ⟨i,by simp, ?_⟩
  rw [hq] at hx
  have:a.any q=true:=by rw [<- List.take_append_drop (i+1) a,List.any_append,hx];rfl
  rw [this]
  simp
 | false=>
  left
  refine ⟨(),by simp [wr1 hi hn], ?_⟩
  rw [hx,hq]
theorem contains_eq (a:List Qb) (hn:a.length<=9223372036854775807) (q:Qb->Bool):Qbq a (fun z=>some (q z))=some (a.any q):=by
 obtain ⟨r,h1,h2⟩:=Wg8 a hn q
 unfold Qbq
 rw [h1,Option.bind_some,h2]
theorem Qyp (a:List Qb) (hn:a.length<=9223372036854775807) (k:Int):Qfm a k=some ((a.map pa).any fun x=>decide (Ok x) && decide (x.1<=k) && decide (k < x.2)):=by
 unfold Qfm
 rw [contains_eq a hn,Option.bind_some,List.any_map]
 congr 1
 congr 1
 funext x
 unfold Qcr Qcr.j1
 rw [Qjd]
 simp only [Function.comp,pa]
 by_cases h1:Ok (x.Lo,x.Hi)<;>by_cases h2:k>=x.Lo<;>simp [h1,h2]<;>try exact decide_eq_decide.2 Iff.rfl
end Go.SyP
namespace Go.SyP
open Go Go.Sy Sets
def tr (x:Qa):Qj:=⟨x.Key,x.Val⟩
theorem Wkd {a b:List Qa} (h:a.map tr=b.map tr):a=b:=by
 have:∀ x y:Qa,tr x=tr y->x=y:=by
  intro x y e
  cases x;cases y
  simp only [tr,Qj.mk.injEq] at e
  obtain ⟨rfl,rfl⟩:=e
  rfl
 exact (List.map_inj_right this).1 h
instance (x:Qa):Decidable (okP x):=by unfold okP;exact inferInstance
end Go.SyP
namespace Go.SyP
open Go Go.Sy Sets
theorem Qnb (a:List Qa) {i:Nat} (hi:i < a.length):(a.map tr).getD (i:Int).toNat Qj.z=tr (a.getD (i:Int).toNat Qa.z):=by
 show (a.map tr).getD i _=tr (a.getD i _)
 simp [List.getD_eq_getElem?_getD,hi]
theorem Qwo (a:List Qa) (hn:a.length<=5000):Jd a=some (a.map tr):=by
 unfold Jd
 obtain ⟨r,h1,h2⟩:∃ r,Xb (Jd.step a) (.l1 0 [])=some r/\r=a.map tr:=by
  refine Qbb (n:=a.length) (fun i x=>Jd.S.l1 (i:Int) x) (fun i x=>x=(a.take i).map tr) _ ?_ ?_ 0 [] (Nat.zero_le _) (by simp)
  ·intro x h
   rw [Qau (Nat.le_refl _)] at h
   exact ⟨x,by simp [Jd.step,Jd.l1],h⟩
  intro i x hi h
  left
  have Xr:(0:Int)<=(i:Int)/\(i:Int) < (a.length:Int):=by omega
  have hl:x.length=i:=by rw [h];simp [Nat.min_eq_left (Nat.le_of_lt hi)]
  simp only [Jd.step,Jd.l1,Xr.2,if_true,Xr,and_self,hl,wr1 hi (by omega:a.length<=9223372036854775807)]
  rw [if_pos (by omega)]
  refine ⟨_,rfl, ?_⟩
  rw [Qdi (z:=Qa.z) hi,List.map_append,h]
  rfl
 rw [h1,h2]
def trM (m:Qu):Xq:=⟨m.Client,m.Seq,m.Kind,m.Pairs.map tr,⟨m.Over.Lo,m.Over.Hi⟩,m.Old⟩
theorem Qtx (m:Qu) (hn:m.Pairs.length<=5000):Wz m=some (trM m):=by
 unfold Wz
 obtain ⟨r,h1,h2⟩:∃ r,Xb (Wz.step m) (.l1 0 [])=some r/\r=trM m:=by
  refine Qbb (n:=m.Pairs.length) (fun i x=>Wz.S.l1 (i:Int) x) (fun i x=>x=(m.Pairs.take i).map tr) _ ?_ ?_ 0 [] (Nat.zero_le _) (by simp)
  ·intro x h
   rw [Qau (Nat.le_refl _)] at h
   exact ⟨_,by simp [Wz.step,Wz.l1];rfl,by rw [h];rfl⟩
  intro i x hi h
  left
  have Xr:(0:Int)<=(i:Int)/\(i:Int) < (m.Pairs.length:Int):=by omega
  have hl:x.length=i:=by rw [h];simp [Nat.min_eq_left (Nat.le_of_lt hi)]
  simp only [Wz.step,Wz.l1,Xr.2,if_true,Xr,and_self,hl,wr1 hi (by omega:m.Pairs.length<=9223372036854775807)]
  rw [if_pos (by omega)]
  refine ⟨_,rfl, ?_⟩
  rw [Qdi (z:=Qa.z) hi,List.map_append,h]
  rfl
 rw [h1,h2]
instance:DecidableEq Qj:=fun a b=>decidable_of_iff (a.Key=b.Key/\a.Val=b.Val) ⟨fun h=>by cases a;cases b;simp only at h;obtain ⟨rfl,rfl⟩:=h;rfl,fun h=>by rw [h];exact ⟨rfl,rfl⟩⟩
theorem Qiu (a:List Qa) (hn:a.length<=9223372036854775807):∃ r,Xc a=some r/\(r=true↔Tb a):=by
 unfold Xc
 refine Qbb (n:=a.length) (fun i (_:Unit)=>Xc.S.l1 (i:Int)) (fun i _=>Tb (a.take i)) _ ?_ ?_ 0 () (Nat.zero_le _) (by simpa using Tb.nil)
 ·intro _ h
  rw [Qau (Nat.le_refl _)] at h
  exact ⟨true,by simp [Xc.step,Xc.l1],by simp [h]⟩
 intro i _ hi h
 have hx:a.take (i+1)=a.take i ++ [a.getD (i:Int).toNat Qa.z]:=Qdi hi
 have Qii:¬ Tb (a.take (i+1))->¬ Tb a:=fun h1 h2=>h1 (by
  rw [<- List.take_append_drop (i+1) a] at h2
  exact Qzh h2)
 have Xr:(0:Int)<=(i:Int)/\(i:Int) < (a.length:Int):=by omega
 simp only [Xc.step,Xc.l1,Xr.2,if_true,Xr,and_self]
 generalize a.getD (i:Int).toNat Qa.z=X at hx ⊢
 by_cases ho:okP X
 ·obtain ⟨o1,o2,o3,o4⟩:=id ho
  rw [if_neg (by omega),if_neg (by omega),if_neg (by omega),if_neg (by omega)]
  rcases Nat.eq_zero_or_pos i with h0 | h0
  ·subst h0
   left
   refine ⟨(),by simp [Xc.j1,show IntKind.wrap .i64 1=1 by decide], ?_⟩
   rw [hx,Qiv]
   exact ⟨h,ho,by simp⟩
  have hw:IntKind.wrap .i64 ((i:Int) - 1)=((i - 1:Nat):Int):=by rw [wr (by omega)];omega
  rw [if_pos (show (i:Int) > 0 by omega),hw,if_pos (by omega)]
  have Qh6:a.take i=a.take (i - 1) ++ [a.getD ((i - 1:Nat):Int).toNat Qa.z]:=by
   have:=Qdi (l:=a) (z:=Qa.z) (i:=i - 1) (by omega)
   rwa [show i - 1+1=i by omega] at this
  generalize a.getD ((i - 1:Nat):Int).toNat Qa.z=Y at Qh6 ⊢
  by_cases hc:Y.Key>=X.Key
  ·right
   refine ⟨false,by simp [Xc.j1,hc], ?_⟩
   simp only [Bool.false_eq_true,false_iff]
   refine Qii ?_
   rw [hx,Qiv]
   rintro ⟨_,_,h4⟩
   have:=h4 Y (by rw [Qh6];simp)
   omega
  left
  refine ⟨(),by simp [Xc.j1,hc,wr1 hi hn], ?_⟩
  rw [hx,Qiv]
  refine ⟨h,ho,fun y hy=>?_⟩
  rw [Qh6] at h hy
  have:=Qzg h y hy
  omega
 right
 refine ⟨false, ?_, ?_⟩
 ·unfold okP at ho
  have e:Xc.j1 (i:Int) true=some (.inr false):=by simp [Xc.j1]
  rw [e]
  by_cases h1:X.Key < 0
  ·rw [if_pos h1]
  by_cases h2:X.Key>=4096
  ·rw [if_neg h1,if_pos h2]
  by_cases h3:X.Val < -1099511627776
  ·rw [if_neg h1,if_neg h2,if_pos h3]
  rw [if_neg h1,if_neg h2,if_neg h3,if_pos (by omega)]
 simp only [Bool.false_eq_true,false_iff]
 refine Qii ?_
 rw [hx,Qiv]
 rintro ⟨_,h4,_⟩
 exact ho h4
theorem Qv1 (a:List Qa) (hn:a.length<=9223372036854775807):∃ r,Zq (a.map tr)=some r/\(r=true↔Tb a):=by
 unfold Zq
 refine Qbb (n:=a.length) (fun i (_:Unit)=>Zq.S.l1 (i:Int)) (fun i _=>Tb (a.take i)) _ ?_ ?_ 0 () (Nat.zero_le _) (by simpa using Tb.nil)
 ·intro _ h
  rw [Qau (Nat.le_refl _)] at h
  exact ⟨true,by simp [Zq.step,Zq.l1],by simp [h]⟩
 intro i _ hi h
 have hx:a.take (i+1)=a.take i ++ [a.getD (i:Int).toNat Qa.z]:=Qdi hi
 have Qii:¬ Tb (a.take (i+1))->¬ Tb a:=fun h1 h2=>h1 (by
  rw [<- List.take_append_drop (i+1) a] at h2
  exact Qzh h2)
 have Xr:(0:Int)<=(i:Int)/\(i:Int) < (a.length:Int):=by omega
 simp only [Zq.step,Zq.l1,Zq.j1,List.length_map,Xr.2,if_true,Xr,and_self,Qnb a hi]
 generalize a.getD (i:Int).toNat Qa.z=X at hx ⊢
 by_cases ho:okP X
 ·obtain ⟨o1,o2,o3,o4⟩:=id ho
  rw [if_neg (show ¬ (tr X).Key < 0 by show ¬ X.Key < 0;omega),if_neg (show ¬ (tr X).Key > 4095 by show ¬ X.Key > 4095;omega),if_neg (show ¬ (tr X).Val < -1099511627776 by show ¬ X.Val < _;omega),decide_eq_false (show ¬ (tr X).Val > 1099511627776 by show ¬ X.Val > _;omega),if_neg (by decide)]
  rcases Nat.eq_zero_or_pos i with h0 | h0
  ·subst h0
   left
   refine ⟨(),by simp [Zq.j2,show IntKind.wrap .i64 1=1 by decide], ?_⟩
   rw [hx,Qiv]
   exact ⟨h,ho,by simp⟩
  have hw:IntKind.wrap .i64 ((i:Int) - 1)=((i - 1:Nat):Int):=by rw [wr (by omega)];omega
  rw [if_pos (show (i:Int) > 0 by omega),hw,if_pos (by omega)]
  have Qh6:a.take i=a.take (i - 1) ++ [a.getD ((i - 1:Nat):Int).toNat Qa.z]:=by
   have:=Qdi (l:=a) (z:=Qa.z) (i:=i - 1) (by omega)
   rwa [show i - 1+1=i by omega] at this
  rw [Qnb a (i:=i - 1) (by omega)]
  generalize a.getD ((i - 1:Nat):Int).toNat Qa.z=Y at Qh6 ⊢
  by_cases hc:X.Key<=Y.Key
  ·right
   refine ⟨false,by simp [Zq.j2,hc,tr], ?_⟩
   simp only [Bool.false_eq_true,false_iff]
   refine Qii ?_
   rw [hx,Qiv]
   rintro ⟨_,_,h4⟩
   have:=h4 Y (by rw [Qh6];simp)
   omega
  left
  refine ⟨(),by simp [Zq.j2,hc,wr1 hi hn,tr], ?_⟩
  rw [hx,Qiv]
  refine ⟨h,ho,fun y hy=>?_⟩
  rw [Qh6] at h hy
  have:=Qzg h y hy
  omega
 right
 refine ⟨false, ?_, ?_⟩
 ·unfold okP at ho
  by_cases h1:(tr X).Key < 0
  ·rw [if_pos h1]
  by_cases h2:(tr X).Key > 4095
  ·rw [if_neg h1,if_pos h2]
  by_cases h3:(tr X).Val < -1099511627776
  ·rw [if_neg h1,if_neg h2,if_pos h3]
  rw [if_neg h1,if_neg h2,if_neg h3,decide_eq_true (show (tr X).Val > 1099511627776 by simp only [tr] at h1 h2 h3 ⊢;omega),if_pos rfl]
 simp only [Bool.false_eq_true,false_iff]
 refine Qii ?_
 rw [hx,Qiv]
 rintro ⟨_,h4,_⟩
 exact ho h4
theorem Wef (a:List Qa) (k:Int) (f:Qa->Int->Option Int) (hf:∀ z,f z k=some (if z.Key < k then -1 else if z.Key > k then 1 else 0)) (hn:a.length<=5000) (hu:Up a):∀ (m lo hi:Nat),hi - lo<=m->lo<=low a k->low a k<=hi->hi<=a.length ->
  Xb (Wv.step a k f) (.l1 (lo:Int) (hi:Int))=some ((low a k:Int),hit a k):=by
 have fin:∀ n:Nat,n=low a k->Xb (Wv.step a k f) (.l1 (n:Int) (n:Int))=some ((low a k:Int),hit a k):=by
  rintro n rfl
  rw [Zd]
  simp only [Wv.step,Wv.l1,Int.lt_irrefl,if_false]
  by_cases hl:low a k < a.length
  ·rw [if_pos (by omega),if_pos (by omega)]
   simp only [hf,Option.bind_some,Wv.j1,hit,hl,decide_true,Bool.true_and]
   show some ((low a k:Int),(if (a.getD (low a k) Qa.z).Key < k then (-1:Int) else if (a.getD (low a k) Qa.z).Key > k then 1 else 0) == 0)=_
   congr 2
   by_cases h1:(a.getD (low a k) Qa.z).Key < k
   ·rw [if_pos h1,decide_eq_false (by omega)]
    rfl
   by_cases h2:(a.getD (low a k) Qa.z).Key > k
   ·rw [if_neg h1,if_pos h2,decide_eq_false (by omega)]
    rfl
   rw [if_neg h1,if_neg h2,decide_eq_true (by omega)]
   rfl
  rw [if_neg (by omega)]
  simp [Wv.j1,hit,hl,stk]
 intro m
 induction m with
 | zero=>
  intro lo hi h1 h2 h3 h4
  obtain rfl:lo=hi:=by omega
  exact fin lo (by omega)
 | succ m ih=>
  intro lo hi h1 h2 h3 h4
  rcases Nat.lt_or_ge lo hi with hlt | hge
  ·rw [Zd]
   simp only [Wv.step,Wv.l1]
   rw [if_pos (by omega)]
   have Qua:IntKind.wrap .i64 (Int.fdiv (IntKind.wrap .u64 (IntKind.wrap .i64 ((lo:Int)+(hi:Int)))) 2)=(((lo+hi) / 2:Nat):Int):=by
    rw [wr (n:=(lo:Int)+hi) (by omega)]
    have e1:IntKind.wrap .u64 ((lo:Int)+(hi:Int))=(lo:Int)+hi:=by
     simp [IntKind.wrap,IntKind.bits,IntKind.signed];omega
    rw [e1]
    have e2:Int.fdiv ((lo:Int)+(hi:Int)) 2=(((lo+hi) / 2:Nat):Int):=by
     rw [Int.fdiv_eq_ediv_of_nonneg _ (by omega)]
     omega
    rw [e2,wr (by omega)]
   rw [Qua]
   simp only [bnd]
   have hm1:(lo+hi) / 2 < a.length:=by omega
   rw [if_pos (by omega)]
   simp only [hf,Option.bind_some]
   rw [show (((lo+hi) / 2:Nat):Int).toNat=(lo+hi) / 2 from rfl]
   by_cases hk:(a.getD ((lo+hi) / 2) Qa.z).Key < k
   ·rw [if_pos hk,if_pos (by decide),wr (by omega)]
    have:=ih ((lo+hi) / 2+1) hi (by omega) (by
     rcases Nat.lt_or_ge ((lo+hi) / 2) (low a k) with h | h
     ·exact h
     have:=We1 hu h hm1;omega) h3 h4
    exact this
   have Wg0:low a k<=(lo+hi) / 2:=by
    rcases Nat.lt_or_ge ((lo+hi) / 2) (low a k) with h | h
    ·exact absurd (We2 h) hk
    exact h
   have:=ih lo ((lo+hi) / 2) (by omega) h2 Wg0 (by omega)
   rw [if_neg hk,if_neg (by split<;>decide)]
   exact this
  obtain rfl:lo=hi:=by omega
  exact fin lo (by omega)
theorem find_eq (a:List Qa) (k:Int) (hn:a.length<=5000) (hu:Up a):Qgp a k=some ((low a k:Int),hit a k):=by
 unfold Qgp Wv
 have:=Wef a k (fun z0 z1=>some (Qfu z0 z1)) (fun z=>by simp [Qfu,Yf,cmp_isNaN_int]) hn hu a.length 0 a.length (by omega) (Nat.zero_le _) (Qxk a k) (Nat.le_refl _)
 rw [show ((0:Nat):Int)=0 from rfl] at this
 rw [this]
 rfl
theorem get_eq (a:List Qa) (k:Int) (hn:a.length<=5000) (hu:Up a):Qhf a k=some (Wb0 (look a k)):=by
 unfold Qhf
 rw [find_eq a k hn hu,Option.bind_some,Qxc hu]
 by_cases h:hit a k=true
 ·have hl:low a k < a.length:=by
   unfold hit at h
   simp only [Bool.and_eq_true,decide_eq_true_eq] at h
   exact h.1
  simp only [h,if_true]
  rw [if_pos (by omega)]
  rfl
 simp only [h,if_false]
 rfl
theorem put_eq (a:List Qa) (k v:Int) (hn:a.length<=5000) (hu:Up a):Qel a k v=some (Qe6 a k v):=by
 unfold Qel
 rw [find_eq a k hn hu,Option.bind_some]
 have hl:=Qxk a k
 by_cases h:hit a k=true
 ·have hh:=h
  unfold hit at hh
  simp only [Bool.and_eq_true,decide_eq_true_eq] at hh
  simp only [h,if_true]
  rw [if_pos (by omega),Qxw v h]
  show some (a.set (low a k) ⟨(a.getD (low a k) Qa.z).Key,v⟩)=_
  rw [hh.2]
 have h':hit a k=false:=by simpa using h
 simp only [h',Bool.false_eq_true,if_false]
 rw [if_pos (by omega),Qvk v h']
 rfl
end Go.SyP
namespace Go.SyP
open Go Go.Sy Sets
theorem has_eq (on:List Qb) (hn:on.length<=5000) (k:Int):Qfm on k=some (hasB on k):=Qyp on (by omega) k
theorem Qzy (on:List Qb) (hn:on.length<=5000):∃ r,Zg on=some r/\(r=true↔SOk on):=Qpa on (by omega)
theorem Wdc (a:List Qa) (hn:a.length<=5000) (q:Qa->Bool):Xv a (fun z=>some (q z))=some (a.filter fun x=>!q x):=by
 unfold Xv
 obtain ⟨r,h1,h2⟩:=Wen a (by omega) q
 rw [h1,Option.bind_some]
 rcases h2 with ⟨rfl,h⟩ | ⟨p,rfl,hp,hq,hpre⟩
 ·rw [if_pos rfl,List.filter_eq_self.2 fun x hx=>by rw [h x hx];rfl]
 rw [if_neg (by omega),wr1 hp (by omega)]
 obtain ⟨r,e1,e2⟩:∃ r,Xb (Xv.step fun z=>some (q z)) (.l1 (p:Int) ((p+1:Nat):Int) a)=some r/\r=a.filter fun x=>!q x:=by
  refine Qbb (n:=a.length) (fun j (x:Nat × List Qa)=>Xv.S.l1 (x.1:Int) (j:Int) x.2)
   (fun j x=>x.1<=j/\x.2.length=a.length/\x.2.take x.1=(a.take j).filter (fun x=>!q x)/\x.2.drop j=a.drop j) _ ?_ ?_ (p+1) (p,a) (by omega) ?_
  ·rintro ⟨i,row⟩ ⟨hi,hl,ht,hd⟩
   simp only at hi hl ht hd ⊢
   rw [Qau (Nat.le_refl _)] at ht
   refine ⟨row.take i, ?_,ht⟩
   simp only [Xv.step,Xv.l1,hl,Int.lt_irrefl,if_false]
   rw [if_pos (by omega)]
   rfl
  ·rintro j ⟨i,row⟩ hj ⟨hi,hl,ht,hd⟩
   simp only at hi hl ht hd ⊢
   have Xr:(0:Int)<=(j:Int)/\(j:Int) < (row.length:Int):=by omega
   have hx:=Qdi (l:=a) (z:=Qa.z) hj
   have d1:=Qkr (l:=a) (z:=Qa.z) hj
   have d2:=Qkr (l:=row) (z:=Qa.z) (i:=j) (by omega)
   rw [hd,d1] at d2
   injection d2 with d3 d4
   simp only [Xv.step,Xv.l1,Xr.2,if_true,Xr,and_self,Option.bind_some,<- d3]
   generalize a.getD (j:Int).toNat Qa.z=X at hx ⊢
   left
   cases hqX:q X with
   | true=>
    refine ⟨(i,row),by simp [Xv.j1,wr1 hj (by omega:a.length<=9223372036854775807)],by simp only;omega,hl, ?_,d4.symm⟩
    rw [hx,List.filter_append,List.filter_cons,if_neg (by simp [hqX]),ht]
    simp
   | false=>
    have hi2:i < row.length:=by omega
    refine ⟨(i+1,row.set i X), ?_,by simp only;omega,by simp [hl], ?_, ?_⟩
    ·rw [if_neg (by decide),if_pos (by omega)]
     simp only [Xv.j1,wr1 hj (by omega:a.length<=9223372036854775807),wr1 hi2 (by omega:row.length<=9223372036854775807)]
     rfl
    ·simp only
     rw [hx,List.filter_append,List.filter_cons,if_pos (by simp [hqX]),<- ht,take_at (z:=Qa.z) (by simpa using hi2),List.take_set_of_le (Nat.le_refl _)]
     simp [List.getD_eq_getElem?_getD,hi2]
    simp only
    rw [List.drop_set_of_lt (by omega),d4]
  refine ⟨by simp only;omega,rfl, ?_,rfl⟩
  simp only
  rw [take_at (z:=Qa.z) hp,List.filter_append,List.filter_cons,if_neg (by rw [hq];decide),List.filter_eq_self.2 fun x hx=>by rw [hpre x hx];rfl]
  simp
 rw [e1,e2]
theorem Wjr (a:List Qa) (hn:a.length<=5000) (s:Qb) (on:List Qb) (ho:on.length<=5000):
  Qjw a s on=some (a.filter fun x=>!((decide (s.Lo<=x.Key) && decide (x.Key < s.Hi)) && hasB on x.Key)):=by
 unfold Qjw
 have:(fun z0=>Qds z0 s on)=fun z:Qa=>some ((decide (s.Lo<=z.Key) && decide (z.Key < s.Hi)) && hasB on z.Key):=by
  funext z
  unfold Qds Qds.j1
  rw [has_eq on ho]
  by_cases h1:z.Key>=s.Lo<;>by_cases h2:z.Key < s.Hi<;>simp [h1,h2]
 rw [this,Wdc a hn]
 rfl
theorem Qqg (v:Int):Qdt v=Qkx v:=by
 unfold Qdt Qdt.j1 Qkx
 by_cases h:v>=-1099511627776
 ·rw [if_pos h,decide_eq_true (show (-1099511627776:Int)<=v by omega)];rfl
 rw [if_neg h,decide_eq_false (show ¬ (-1099511627776:Int)<=v by omega)];rfl
instance (l:List Qa):Decidable (Up l):=by unfold Up;exact inferInstance
end Go.SyP
