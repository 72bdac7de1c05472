/- Pairs of a set; the same mutations; how stamps stand in the document. -/
import Derived.Test.YtdhmflhncidjaaaGreatPthzTA
set_option linter.unusedVariables false
set_option linter.unusedSimpArgs false
namespace Go.SyP
open Go Go.Sy Sets
def clip (l:List Qa) (on:List Qb):List Qa:=l.filter fun x=>hasB on x.Key
theorem Wl7 {l:List Qa} (h:Tb l) (on:List Qb):Tb (clip l on):=h.filter _
theorem Qow (l:List Qa) (on:List Qb):(clip l on).length<=l.length:=List.length_filter_le _ _
theorem Qv3 {l:List Qa} {on:List Qb} (hl:l.length<=5000) (ho:on.length<=5000) (ht:Tb l) (hs:SOk on):Ji l on=some (clip l on):=by
 obtain ⟨r1,c1,c2⟩:=Qf7 l (by omega)
 obtain ⟨r2,c3,c4⟩:=Wn1 on ho
 unfold Ji
 rw [c1,Option.bind_some,if_pos (c2.2 ht),c3,Option.bind_some,c4.2 hs]
 unfold Ji.j1
 rw [if_neg (by decide)]
 obtain ⟨r,e1,e2⟩:∃ r,Yy (Ji.step l on) (.l1 0 [])=some r/\r=clip l on:=by
  refine Qd7 (n:=l.length) (fun i x=>Ji.S.l1 (i:Int) x) (fun i x=>x=clip (l.take i) on) _ ?_ ?_ 0 [] (Nat.zero_le _) rfl
  ·rintro x rfl
   rw [Qe7 (Nat.le_refl _)]
   exact ⟨_,by simp [Ji.step,Ji.l1],rfl⟩
  rintro i x hi rfl
  left
  have Qay:(0:Int)<=(i:Int)/\(i:Int) < (l.length:Int):=by omega
  have hx:=take_at (l:=l) (z:=Qa.z) hi
  have hlen:(clip (l.take i) on).length<=i:=by
   have:=Qow (l.take i) on
   rw [List.length_take] at this
   omega
  simp only [Ji.step,Ji.l1,Ji.j2,Qay.2,if_true,Qay,and_self,show (i:Int).toNat=i from rfl,has_eq on ho,Option.bind_some,wr1 hi (by omega:l.length<=9223372036854775807)]
  rw [hx]
  unfold clip at hlen ⊢
  rw [List.filter_append,List.filter_cons,List.filter_nil]
  by_cases hh:hasB on (l.getD i Qa.z).Key=true
  ·rw [if_pos hh,if_pos hh,if_pos (by omega)]
   exact ⟨_,rfl,rfl⟩
  rw [if_neg hh,if_neg hh,List.append_nil]
  exact ⟨_,rfl,rfl⟩
 rw [e1,e2]
end Go.SyP
namespace Go.SyP
open Go Go.Sy Sets
theorem Qzq {α β:Type} (f:α->β) (l:List α) {z:α} {y:β} {i:Nat} (hi:i < l.length):(l.map f).getD i y=f (l.getD i z):=by
 simp [List.getD_eq_getElem?_getD,hi]
theorem Ql3 {α β:Type} (f:α->β):∀ (l:List α) (x:List β),l.foldl (fun x s=>x ++ [f s]) x=x ++ l.map f
 | [],x=>by simp
 | s :: l,x=>by rw [List.foldl_cons,Ql3 f l];simp
structure Qxs (c:Qc):Prop where
 held:c.Held.length<=30
 log:c.Log.length<=40
 known:c.Known.length<=60
 base:c.Base.length<=1000
 hp:∀ w∈c.Held,w.M.Pairs.length<=20/\w.Qg6.length<=30
 lp:∀ e∈c.Log,e.M.Pairs.length<=20
end Go.SyP
namespace Go.SyP
open Go Go.Sy Sets
open Classical in
noncomputable def Qvr (m:Qp) (on:List Qb):Bool:=decide (∃ k,Qig m k=true/\mem (on.map pa) k)
theorem Wac (m:Qp) (on:List Qb):Qvr m on=true↔∃ k,Qig m k=true/\mem (on.map pa) k:=by
 unfold Qvr
 exact @decide_eq_true_iff _ (Classical.propDecidable _)
theorem Wio {m:Qp} {x:Qb} (hm:mOk m=true) (hs:SOk [x]):∃ T,Qaj m=some T/\SOk T/\(∀ k,mem (T.map pa) k↔Qig m k=true)/\Qc0 T [x]=some (Qvr m [x]):=by
 obtain ⟨T,t1,t2,t3⟩:=Qqz hm
 have hT:=t2.2
 obtain ⟨v,v1,v2⟩:=Wae T [x] (by omega) (by simp)
 refine ⟨T,t1,t2,t3, ?_⟩
 rw [v1]
 congr 1
 rw [Bool.eq_iff_iff,v2,Wac]
 constructor
 ·rintro ⟨_,_,k,h1,h2⟩
  exact ⟨k,(t3 k).1 h1,h2⟩
 rintro ⟨k,h1,h2⟩
 exact ⟨t2,hs,k,(t3 k).2 h1,h2⟩
theorem Qqs (n a b:Int):Qbs n a b=true↔a<=n/\n<=b:=by
 unfold Qbs Qbs.j1
 by_cases h:n>=a
 ·rw [if_pos h];simp;omega
 rw [if_neg h];simp;omega
def KL (a b:Qg):Prop:=a.Client < b.Client\/(a.Client=b.Client/\a.Seq < b.Seq)
def isW (c s:Int) (k:Qg):Prop:=k.Client=c/\k.Seq=s
def Qp7 (a b:Qg):Int:=if Qib a.Client b.Client≠0 then Qib a.Client b.Client else Qib a.Seq b.Seq
theorem Qu5 (a b:Qg):Qcp a b=some (Qp7 a b):=by
 unfold Qcp Qam Qp7
 rw [Qp8,Qp8]
 generalize Qib a.Client b.Client=y
 generalize Qib a.Seq b.Seq=z
 have w0:IntKind.wrap .i64 ((0:Int)+1)=1:=by decide
 have w1:IntKind.wrap .i64 ((1:Int)+1)=2:=by decide
 rw [Ya]
 simp only [Qam.step,Qam.l1,List.length_cons,List.length_nil,w0]
 rw [if_pos (by decide),if_pos (by decide)]
 simp only [List.getD_cons_zero,Int.toNat_zero]
 by_cases hy:y=0
 ·subst hy
  simp only [if_true,Jq]
  rw [Ya]
  simp only [Qam.step,Qam.l1,List.length_cons,List.length_nil,w1]
  rw [if_pos (by decide),if_pos (by decide)]
  simp only [show (1:Int).toNat=1 from rfl,List.getD_cons_succ,List.getD_cons_zero]
  by_cases hz:z=0
  ·subst hz
   simp only [if_true,Jq]
   rw [Ya]
   simp [Qam.step,Qam.l1,Jq]
  simp [hz,Jq]
 simp [hy,Jq]
theorem Qrk (a b:Qg):Qp7 a b < 0↔KL a b:=by
 unfold Qp7 Qib KL
 split<;>split<;>(try split)<;>(try split)<;>omega
theorem Wbf (a b:Qg):Qp7 a b=0↔isW b.Client b.Seq a:=by
 unfold Qp7 Qib isW
 split<;>split<;>(try split)<;>(try split)<;>omega
def KnS (l:List Qg):Prop:=∀ i j,i < j->j < l.length->KL (l.getD i Qg.z) (l.getD j Qg.z)
theorem KnS.uniq {l:List Qg} (h:KnS l) {c s:Int} {i j:Nat} (hi:i < l.length) (hj:j < l.length) (wi:isW c s (l.getD i Qg.z)) (wj:isW c s (l.getD j Qg.z)):i=j:=by
 rcases Nat.lt_trichotomy i j with h1 | h1 | h1
 ·have:=h i j h1 hj
  unfold KL isW at *
  omega
 ·exact h1
 have:=h j i h1 hi
 unfold KL isW at *
 omega
theorem Was (l:List Qg) (t:Qg) (f:Qg->Qg->Option Int) (hf:∀ a b,f a b=some (Qp7 a b)) (hn:l.length<=5000) (hs:KnS l):∀ (m lo hi:Nat),hi - lo<=m->lo<=hi->hi<=l.length->(∀ j,j < lo->KL (l.getD j Qg.z) t)->(∀ j,hi<=j->j < l.length->¬ KL (l.getD j Qg.z) t) ->
  ∃ (i:Nat) (b:Bool),Yy (Qu.step l t f) (.l1 (lo:Int) (hi:Int))=some ((i:Int),b)/\(b=true->i < l.length/\isW t.Client t.Seq (l.getD i Qg.z))/\(b=false->∀ j,j < l.length->¬ isW t.Client t.Seq (l.getD j Qg.z)):=by
 have fin:∀ n:Nat,n<=l.length->(∀ j,j < n->KL (l.getD j Qg.z) t)->(∀ j,n<=j->j < l.length->¬ KL (l.getD j Qg.z) t) ->
   ∃ (i:Nat) (b:Bool),Yy (Qu.step l t f) (.l1 (n:Int) (n:Int))=some ((i:Int),b)/\(b=true->i < l.length/\isW t.Client t.Seq (l.getD i Qg.z))/\(b=false->∀ j,j < l.length->¬ isW t.Client t.Seq (l.getD j Qg.z)):=by
  intro n hn1 h1 h2
  have hlt:∀ j,j < n->¬ isW t.Client t.Seq (l.getD j Qg.z):=fun j hj=>by
   have:=h1 j hj
   unfold KL isW at *
   omega
  rw [Ya]
  simp only [Qu.step,Qu.l1,Int.lt_irrefl,if_false,Qu.j1]
  by_cases hl:n < l.length
  ·rw [if_pos (by omega),if_pos (by omega)]
   simp only [hf,Option.bind_some,show (n:Int).toNat=n from rfl,Jq]
   refine ⟨n,_,rfl,fun h=>⟨hl,(Wbf _ _).1 (by simpa using h)⟩,fun h j hj=>?_⟩
   have hne:¬ isW t.Client t.Seq (l.getD n Qg.z):=fun hw=>by
    rw [(Wbf _ _).2 hw] at h
    simp at h
   rcases Nat.lt_trichotomy j n with h3 | h3 | h3
   ·exact hlt j h3
   ·rw [h3];exact hne
   have h4:=hs n j h3 hj
   have h5:=h2 n (Nat.le_refl _) hl
   unfold KL isW at *
   omega
  rw [if_neg (by omega)]
  exact ⟨n,false,rfl,by simp,fun _ j hj=>hlt j (by omega)⟩
 intro m
 induction m with
 | zero=>
  intro lo hi h1 h2 h3 h4 h5
  obtain rfl:lo=hi:=by omega
  exact fin lo h3 h4 h5
 | succ m ih=>
  intro lo hi h1 h2 h3 h4 h5
  rcases Nat.lt_or_ge lo hi with hlt | hge
  ·rw [Ya]
   simp only [Qu.step,Qu.l1]
   rw [if_pos (by omega)]
   have Qqp:IntKind.wrap .i64 (Int.fdiv (IntKind.wrap .u64 (IntKind.wrap .i64 ((lo:Int)+(hi:Int)))) 2)=(((lo+hi) / 2:Nat):Int):=by
    rw [wr (n:=(lo:Int)+hi) (by omega)]
    have e1:IntKind.wrap .u64 ((lo:Int)+(hi:Int))=(lo:Int)+hi:=by
     simp [IntKind.wrap,IntKind.bits,IntKind.signed];omega
    rw [e1]
    have e2:Int.fdiv ((lo:Int)+(hi:Int)) 2=(((lo+hi) / 2:Nat):Int):=by
     rw [Int.fdiv_eq_ediv_of_nonneg _ (by omega)]
     omega
    rw [e2,wr (by omega)]
   rw [Qqp]
   simp only [bnd]
   have hm1:(lo+hi) / 2 < l.length:=by omega
   rw [if_pos (by omega)]
   simp only [hf,Option.bind_some,show (((lo+hi) / 2:Nat):Int).toNat=(lo+hi) / 2 from rfl]
   by_cases hk:KL (l.getD ((lo+hi) / 2) Qg.z) t
   ·rw [if_pos ((Qrk _ _).2 hk),wr (by omega)]
    exact ih ((lo+hi) / 2+1) hi (by omega) (by omega) h3 (fun j hj=>by
     rcases Nat.lt_or_ge j ((lo+hi) / 2) with h6 | h6
     ·have:=hs j ((lo+hi) / 2) h6 hm1
      unfold KL at *
      omega
     obtain rfl:j=(lo+hi) / 2:=by omega
     exact hk) h5
   rw [if_neg fun h=>hk ((Qrk _ _).1 h)]
   exact ih lo ((lo+hi) / 2) (by omega) (by omega) (by omega) h4 (fun j hj hj2 hc=>by
    rcases Nat.lt_or_ge ((lo+hi) / 2) j with h6 | h6
    ·have:=hs ((lo+hi) / 2) j h6 hj2
     unfold KL at *
     omega
    obtain rfl:j=(lo+hi) / 2:=by omega
    exact hk hc)
  obtain rfl:lo=hi:=by omega
  exact fin lo h3 h4 h5
instance (a b:Qg):Decidable (KL a b):=by unfold KL;infer_instance
theorem Qwj {c:Qc} (cl s:Int) (hn:c.Known.length<=5000) (hs:KnS c.Known):
  ∃ (i:Nat) (b:Bool),Qhk c cl s=some ((i:Int),b)/\(b=true->i < c.Known.length/\isW cl s (c.Known.getD i Qg.z))/\(b=false->∀ j,j < c.Known.length->¬ isW cl s (c.Known.getD j Qg.z)):=by
 obtain ⟨i,b,h1,h2,h3⟩:=Was c.Known ⟨cl,s,0,false⟩ _ Qu5 hn hs c.Known.length 0 c.Known.length (by omega) (Nat.zero_le _) (Nat.le_refl _) (fun j hj=>by omega) (fun j h1 h2=>by omega)
 refine ⟨i,b, ?_,h2,h3⟩
 unfold Qhk Qu
 rw [show ((0:Nat):Int)=0 from rfl] at h1
 rw [h1]
 rfl
end Go.SyP
