/- Tables: what the document makes of a table. -/
import Derived.Test.YtdndobkfnmommaaGreatP24zD
set_option linter.unusedVariables false
set_option linter.unusedSimpArgs false
namespace Go.SyP
open Go Go.Sy Sets
def Qgz:List Int->Int->List Int
 | [],n=>[n]
 | x :: l,n=>if x < n then x :: Qgz l n else if x=n then x :: l else n :: x :: l
theorem Qrt:∀ {l:List Int} {n j:Int},j∈Qgz l n↔j∈l\/j=n
 | [],n,j=>by simp [Qgz]
 | x :: l,n,j=>by
  simp only [Qgz]
  split
  ·rw [List.mem_cons,Qrt,List.mem_cons,or_assoc]
  split
  ·rename_i h
   subst h
   simp only [List.mem_cons]
   constructor
   ·exact .inl
   rintro (h | h)
   ·exact h
   exact .inl h
  simp only [List.mem_cons]
  constructor
  ·rintro (h | h)
   ·exact .inr h
   exact .inl h
  rintro (h | h)
  ·exact .inr h
  exact .inl h
theorem Qyj:∀ {l:List Int} (n:Int),l.Pairwise (· < ·)->(Qgz l n).Pairwise (· < ·)
 | [],n,_=>by simp [Qgz]
 | x :: l,n,h=>by
  have h1:=(List.pairwise_cons.1 h).1
  have h2:=(List.pairwise_cons.1 h).2
  simp only [Qgz]
  split
  ·rename_i hx
   refine List.pairwise_cons.2 ⟨fun y hy=>?_,Qyj n h2⟩
   rcases Qrt.1 hy with hy | rfl
   ·exact h1 y hy
   exact hx
  split
  ·exact h
  refine List.pairwise_cons.2 ⟨fun y hy=>?_,h⟩
  rcases List.mem_cons.1 hy with rfl | hy
  ·omega
  have:=h1 y hy;omega
theorem Qra:∀ (l:List Int) (n:Int),(Qgz l n).length<=l.length+1
 | [],_=>by simp [Qgz]
 | x :: l,n=>by
  simp only [Qgz]
  split
  ·have:=Qra l n
   simp only [List.length_cons]
   omega
  split<;>simp
theorem Qyp (l:List Int) (n:Int) (hn:l.length<=5000):Wn l n=some (Qgz l n):=by
 unfold Wn
 obtain ⟨r,h1,h2⟩:∃ r,Yb (Wn.step l n) (.l1 false 0 [])=some r/\r=Qgz l n:=by
  refine Qbi (n:=l.length) (fun i (x:Bool × List Int)=>Wn.S.l1 x.1 (i:Int) x.2)
   (fun i x=>x.2.length<=i+1/\(x.1=false->x.2.length<=i/\x.2 ++ Qgz (l.drop i) n=Qgz l n)/\(x.1=true->x.2 ++ l.drop i=Qgz l n)) _ ?_ ?_ 0 (false,[]) (Nat.zero_le _) ⟨by simp,by simp,by simp⟩
  ·rintro ⟨b,x⟩ ⟨hl,hf,ht⟩
   simp only at hl hf ht ⊢
   simp only [Wn.step,Wn.l1,Wn.j1,Int.lt_irrefl,if_false]
   cases b with
   | true=>
    have:=ht rfl
    rw [List.drop_length,List.append_nil] at this
    exact ⟨x,by simp,this⟩
   | false=>
    have:=(hf rfl).2
    rw [List.drop_length] at this
    refine ⟨x ++ [n], ?_,this⟩
    rw [if_neg (by decide),if_pos (by omega)]
  rintro i ⟨b,x⟩ hi ⟨hl,hf,ht⟩
  simp only at hl hf ht ⊢
  have Ye:(0:Int)<=(i:Int)/\(i:Int) < (l.length:Int):=by omega
  have hd:=Qhf (l:=l) (z:=(0:Int)) hi
  simp only [Wn.step,Wn.l1,Wn.j2,Wn.j3,Wn.j4,Ye.2,if_true,Ye,and_self,wr1 hi (by omega:l.length<=9223372036854775807)]
  generalize l.getD (i:Int).toNat 0=X at hd ⊢
  rw [hd] at hf ht
  left
  have b1:(x.length+1) * 8<=140737488355328:=by omega
  have b2:((x ++ [n]).length+1) * 8<=140737488355328:=by rw [List.length_append,List.length_singleton];omega
  cases b with
  | true=>
   have:=ht rfl
   refine ⟨(true,x ++ [X]), ?_, ?_,by simp,fun _=>?_⟩
   ·by_cases h:X=n<;>simp [h,b1]
   ·simp;omega
   simpa using this
  | false=>
   obtain ⟨hf1,hf2⟩:=hf rfl
   simp only [Qgz] at hf2
   by_cases h:X=n
   ·subst h
    rw [if_neg (by omega),if_pos rfl] at hf2
    refine ⟨(true,x ++ [X]),by simp [b1],by simp;omega,by simp,fun _=>by simpa using hf2⟩
   by_cases h2:X > n
   ·rw [if_neg (by omega),if_neg h] at hf2
    refine ⟨(true,x ++ [n] ++ [X]), ?_,by simp;omega,by simp,fun _=>by simpa using hf2⟩
    rw [if_neg h]
    simp only [Bool.false_eq_true,if_false,decide_eq_true h2,if_true]
    rw [if_pos b1,if_pos b2]
   rw [if_pos (by omega)] at hf2
   refine ⟨(false,x ++ [X]), ?_,by simp;omega,fun _=>⟨by simp;omega,by simpa using hf2⟩,by simp⟩
   rw [if_neg h]
   simp only [Bool.false_eq_true,if_false,decide_eq_false h2]
   rw [if_pos b1]
 rw [h1,h2]
def Qe2 (l:List Qa) (x:List Int):List Int:=l.foldl (fun x p=>Qgz x p.Key) x
theorem Qpe:∀ {l:List Qa} {x:List Int} {j:Int},j∈Qe2 l x↔j∈x\/∃ p∈l,p.Key=j
 | [],x,j=>by simp [Qe2]
 | p :: l,x,j=>by
  rw [show Qe2 (p :: l) x=Qe2 l (Qgz x p.Key) from rfl,Qpe,Qrt]
  constructor
  ·rintro ((h | h) | ⟨q,h1,h2⟩)
   ·exact .inl h
   ·exact .inr ⟨p,by simp,h.symm⟩
   exact .inr ⟨q,List.mem_cons_of_mem _ h1,h2⟩
  rintro (h | ⟨q,h1,h2⟩)
  ·exact .inl (.inl h)
  rcases List.mem_cons.1 h1 with rfl | h1
  ·exact .inl (.inr h2.symm)
  exact .inr ⟨q,h1,h2⟩
theorem Qrr:∀ {l:List Qa} {x:List Int},x.Pairwise (· < ·)->(Qe2 l x).Pairwise (· < ·)
 | [],_,h=>h
 | p :: l,x,h=>Qrr (l:=l) (Qyj p.Key h)
theorem Qg6:∀ (l:List Qa) (x:List Int),(Qe2 l x).length<=x.length+l.length
 | [],_=>by simp [Qe2]
 | p :: l,x=>by
  rw [show Qe2 (p :: l) x=Qe2 l (Qgz x p.Key) from rfl]
  have:=Qg6 l (Qgz x p.Key)
  have:=Qra x p.Key
  simp only [List.length_cons]
  omega
theorem Qst (l:List Qa) (p:Qa) (x:List Int):Qe2 (l ++ [p]) x=Qgz (Qe2 l x) p.Key:=by simp [Qe2,List.foldl_append]
theorem keys_eq (l:List Qa) (m:Ql) (hl:l.length<=1000) (hm:m.Pairs.length<=1000):Yh (l.map tr) (trM m)=some (Qe2 m.Pairs (Qe2 l [])):=by
 unfold Yh
 obtain ⟨y,e1,e2⟩:=Wil (step:=Yh.step (l.map tr) (trM m)) (n:=l.length) (fun i x=>Yh.S.l1 (i:Int) x) (fun i x=>x=Qe2 (l.take i) []) (by
  intro i x hi h
  have Ye:(0:Int)<=(i:Int)/\(i:Int) < (l.length:Int):=by omega
  have hx:=Qch (l:=l) (z:=Qa.z) hi
  have hb:=Qg6 (l.take i) []
  rw [<- h,List.length_take] at hb
  simp only [List.length_nil] at hb
  simp only [Yh.step,Yh.l1,List.length_map,Ye.2,if_true,Ye,and_self,Qim l hi,wr1 hi (by omega:l.length<=9223372036854775807),Qyp x _ (by omega),Option.bind_some]
  exact ⟨_,rfl,by rw [hx,Qst,h];rfl⟩) 0 [] (Nat.zero_le _) (by simp [Qe2])
 rw [Qbp (Nat.le_refl _)] at e2
 rw [show ((0:Nat):Int)=0 from rfl] at e1
 rw [e1,Qau]
 simp only [Yh.step,Yh.l1,List.length_map,Int.lt_irrefl,if_false,stk]
 have hb1:=Qg6 l []
 rw [<- e2] at hb1
 simp only [List.length_nil] at hb1
 obtain ⟨r,h1,h2⟩:∃ r,Yb (Yh.step (l.map tr) (trM m)) (.l2 0 y)=some r/\r=Qe2 m.Pairs y:=by
  refine Qbi (n:=m.Pairs.length) (fun i x=>Yh.S.l2 (i:Int) x) (fun i x=>x=Qe2 (m.Pairs.take i) y) _ ?_ ?_ 0 y (Nat.zero_le _) (by simp [Qe2])
  ·intro x h
   rw [Qbp (Nat.le_refl _)] at h
   exact ⟨x,by simp [Yh.step,Yh.l2,trM],h⟩
  intro i x hi h
  left
  have Ye:(0:Int)<=(i:Int)/\(i:Int) < (m.Pairs.length:Int):=by omega
  have hx:=Qch (l:=m.Pairs) (z:=Qa.z) hi
  have hb:=Qg6 (m.Pairs.take i) y
  rw [<- h,List.length_take] at hb
  simp only [Yh.step,Yh.l2,show (trM m).Pairs=m.Pairs.map tr from rfl,List.length_map,Ye.2,if_true,Ye,and_self,Qim m.Pairs hi,wr1 hi (by omega:m.Pairs.length<=9223372036854775807),Qyp x _ (by omega),Option.bind_some]
  exact ⟨_,rfl,by rw [hx,Qst,h];rfl⟩
 rw [<- e2]
 exact h1.trans (by rw [h2])
def Qd3 (l:List Qa) (m:Ql) (on:List Qb) (k:Int):Option (Option Int):=if Qc1 m k && hasB on k then Qfu m k (look l k) else some (look l k)
def Qjg (f:Int->Option (Option Int)) (ks:List Int):List Qa:=ks.filterMap fun k=>((f k).getD none).map fun v=>(⟨k,v⟩:Qa)
theorem Wd5 {f:Int->Option (Option Int)} {ks:List Int}:∀ x∈Qjg f ks,x.Key∈ks:=by
 intro x hx
 obtain ⟨k,h1,h2⟩:=List.mem_filterMap.1 hx
 obtain ⟨v,_,rfl⟩:=Option.map_eq_some_iff.1 h2
 exact h1
theorem Qyt {f:Int->Option (Option Int)}:∀ {ks:List Int},ks.Pairwise (· < ·)->Up (Qjg f ks)
 | [],_=>by simp [Qjg,Up]
 | k :: ks,h=>by
  have h1:=(List.pairwise_cons.1 h).1
  have h2:=Qyt (f:=f) (List.pairwise_cons.1 h).2
  unfold Qjg
  rw [List.filterMap_cons]
  cases hf:(f k).getD none with
  | none=>exact h2
  | some v=>exact List.pairwise_cons.2 ⟨fun y hy=>h1 _ (Wd5 y hy),h2⟩
theorem Qut {f:Int->Option (Option Int)} {j:Int}:∀ {ks:List Int},ks.Pairwise (· < ·)->look (Qjg f ks) j=if j∈ks then (f j).getD none else none
 | [],_=>by simp [Qjg,look]
 | k :: ks,h=>by
  have h1:=(List.pairwise_cons.1 h).1
  have ih:=Qut (f:=f) (j:=j) (List.pairwise_cons.1 h).2
  unfold Qjg at ih ⊢
  rw [List.filterMap_cons]
  by_cases hj:j=k
  ·subst hj
   rw [if_neg (fun e=>by have:=h1 j e;omega)] at ih
   cases hf:(f j).getD none with
   | none=>simp [ih]
   | some v=>simp [look]
  have:(j∈k :: ks)↔j∈ks:=by simp [hj]
  simp only [this]
  cases hf:(f k).getD none with
  | none=>simpa using ih
  | some v=>simp only [Option.map_some,look,if_neg (fun e:k=j=>hj e.symm)];exact ih
structure Qgl (l:List Qa) (m:Ql) (on:List Qb) (r:List Qa × Bool):Prop where
 done:r.2=true->Up r.1/\∀ j,Qd3 l m on j=some (look r.1 j)
 fail:r.2=false->r.1=l/\∃ k,Qd3 l m on k=none
theorem Qgl.unique {l:List Qa} {m:Ql} {on:List Qb} {r s:List Qa × Bool} (h:Qgl l m on r) (h':Qgl l m on s):r=s:=by
 obtain ⟨a,x⟩:=r
 obtain ⟨b,y⟩:=s
 cases x with
 | true=>
  obtain ⟨h1,h2⟩:=h.done rfl
  cases y with
  | true=>
   obtain ⟨h3,h4⟩:=h'.done rfl
   have:a=b:=Up.unique h1 h3 fun k=>by
    have:=(h2 k).symm.trans (h4 k)
    injection this
   rw [this]
  | false=>
   obtain ⟨_,k,h4⟩:=h'.fail rfl
   rw [h2 k] at h4
   cases h4
 | false=>
  obtain ⟨h1,k,h2⟩:=h.fail rfl
  cases y with
  | true=>
   obtain ⟨h3,h4⟩:=h'.done rfl
   rw [h4 k] at h2
   cases h2
  | false=>
   obtain ⟨h3,_⟩:=h'.fail rfl
   simp only at h1 h3
   rw [h1,h3]
theorem Qw8 (l:List Qa) (m:Ql) (on:List Qb) (hl:l.length<=1000) (hpl:m.Pairs.length<=1000) (ho:on.length<=5000) (ht:Tb l) (hm:mOk m=true) (hs:SOk on):
  ∃ r:List Qa × Bool,Qt (l.map tr) (trM m) (on.map toR)=some (r.1.map tr,r.2)/\Qgl l m on r:=by
 have hmi:=Qn7 hm
 obtain ⟨r1,c1,c2⟩:=Qok l (by omega)
 obtain ⟨r3,c5,c6⟩:=Qzh on ho
 have eta:(⟨(trM m).Client,(trM m).Seq,(trM m).Kind,(trM m).Pairs,(⟨(trM m).Over.Lo,(trM m).Over.Hi⟩:Qi),(trM m).Old⟩:Qk)=trM m:=rfl
 unfold Qt Qt.j1
 simp only [eta]
 rw [c1,c2.2 ht,Option.bind_some,if_pos rfl,Qh2 m (by omega),hm,Option.bind_some,if_pos rfl,c5,c6.2 hs,Option.bind_some]
 rw [if_neg (by decide),keys_eq l m hl hpl,Option.bind_some]
 generalize hks:Qe2 m.Pairs (Qe2 l [])=ks
 have hup:ks.Pairwise (· < ·):=by rw [<- hks];exact Qrr (Qrr .nil)
 have hklen:ks.length<=2000:=by
  have h1:=Qg6 m.Pairs (Qe2 l [])
  have h2:=Qg6 l []
  rw [hks] at h1
  simp only [List.length_nil] at h2
  omega
 have Qdc:∀ j,j∈ks↔(∃ p∈l,p.Key=j)\/∃ p∈m.Pairs,p.Key=j:=fun j=>by
  rw [<- hks,Qpe,Qpe]
  simp
 obtain ⟨r,e1,e2⟩:∃ r,Yb (Qt.step (l.map tr) (trM m) (on.map toR) ks) (.l1 0 [])=some r /\
   (((∀ k∈ks,(Qd3 l m on k).isSome=true)/\r=((Qjg (Qd3 l m on) ks).map tr,true))\/((∃ k∈ks,Qd3 l m on k=none)/\r=(l.map tr,false))):=by
  refine Qbi (n:=ks.length) (fun i x=>Qt.S.l1 (i:Int) x) (fun i x=>(∀ k∈ks.take i,(Qd3 l m on k).isSome=true)/\x=(Qjg (Qd3 l m on) (ks.take i)).map tr) _ ?_ ?_ 0 [] (Nat.zero_le _) (by simp [Qjg])
  ·rintro x ⟨h1,h2⟩
   rw [Qbp (Nat.le_refl _)] at h1 h2
   exact ⟨_,by simp [Qt.step,Qt.l1];rfl,.inl ⟨h1,by rw [h2]⟩⟩
  rintro i x hi ⟨h1,h2⟩
  have Ye:(0:Int)<=(i:Int)/\(i:Int) < (ks.length:Int):=by omega
  have hx:=Qch (l:=ks) (z:=(0:Int)) hi
  have hin:ks.getD (i:Int).toNat 0∈ks:=by
   show ks.getD i 0∈ks
   simp [List.getD_eq_getElem?_getD,hi]
  have hlen:x.length<=i:=by
   rw [h2,List.length_map]
   refine Nat.le_trans (List.length_filterMap_le ..) ?_
   rw [List.length_take]
   omega
  simp only [Qt.step,Qt.l1,Qt.j2,Qt.j3,Qt.j4,eta,Ye.2,if_true,Ye,and_self,Qrd l _ (by omega:l.length<=9223372036854775807),Option.bind_some,Qs3 m _ (by omega:m.Pairs.length<=5000),Whi on ho,wr1 hi (by omega:ks.length<=9223372036854775807)]
  generalize ks.getD (i:Int).toNat 0=K at hin hx ⊢
  -- the key's new cell is written down
  have wr3:∀ d:Option Int,Qd3 l m on K=some d ->
    ∃ y,(if d.isSome=true then (if (x.length+1) * 16<=140737488355328 then some (.inl (.l1 ((i+1:Nat):Int) (x ++ [(⟨K,d.getD 0⟩:Qc)]))) else none) else some (.inl (.l1 ((i+1:Nat):Int) x)):Option (Qt.S ⊕ ((List Qc) × Bool)))=some (.inl (.l1 ((i+1:Nat):Int) y))/\(∀ k∈ks.take (i+1),(Qd3 l m on k).isSome=true)/\y=(Qjg (Qd3 l m on) (ks.take (i+1))).map tr:=by
   intro d hd
   have Qdj:∀ k∈ks.take (i+1),(Qd3 l m on k).isSome=true:=by
    intro k hk
    rw [hx] at hk
    rcases List.mem_append.1 hk with hk | hk
    ·exact h1 k hk
    simp only [List.mem_singleton] at hk
    rw [hk,hd];rfl
   cases d with
   | none=>
    refine ⟨x,by simp,Qdj, ?_⟩
    rw [hx,h2]
    simp [Qjg,List.filterMap_append,hd]
   | some v=>
    refine ⟨x ++ [⟨K,v⟩], ?_,Qdj, ?_⟩
    ·simp only [Option.isSome_some,if_true,Option.getD_some]
     rw [if_pos (by omega)]
    rw [hx,h2]
    simp only [Qjg,List.filterMap_append,List.map_append]
    congr 1
    rw [List.filterMap_cons,hd]
    rfl
  by_cases hc:(Qc1 m K && hasB on K)=true
  ·have hc2:=hc
   simp only [Bool.and_eq_true] at hc2
   obtain ⟨r,q1,q2⟩:=We6 m hmi K (look l K) (Qn2 ht K)
   unfold cellOf at q1
   simp only [hc2.1,hc2.2,if_true,q1,Option.bind_some]
   rcases q2 with ⟨q3,q4⟩ | ⟨d,q3,q4⟩
   ·right
    rw [if_neg (by rw [q4];decide)]
    refine ⟨_,rfl,.inr ⟨⟨K,hin, ?_⟩,rfl⟩⟩
    unfold Qd3
    rw [if_pos hc,q3]
   left
   rw [q4]
   simp only [if_true]
   exact wr3 d (by unfold Qd3;rw [if_pos hc,q3])
  left
  have hw:=wr3 (look l K) (by unfold Qd3;rw [if_neg hc])
  cases h3:Qc1 m K with
  | false=>
   simp only [Bool.false_eq_true,if_false]
   exact hw
  | true=>
   cases h4:hasB on K with
   | false=>
    simp only [Bool.false_eq_true,if_false,if_true]
    exact hw
   | true=>exact absurd (by rw [h3,h4];rfl) hc
 rcases e2 with ⟨h1,h2⟩ | ⟨⟨k,h1,h3⟩,h2⟩
 ·refine ⟨(Qjg (Qd3 l m on) ks,true),by rw [e1,h2],fun _=>⟨Qyt hup,fun j=>?_⟩,fun h=>by cases h⟩
  simp only
  rw [Qut hup]
  by_cases hj:j∈ks
  ·rw [if_pos hj]
   have:=h1 j hj
   cases hh:Qd3 l m on j with
   | none=>rw [hh] at this;cases this
   | some d=>rfl
  rw [if_neg hj]
  have hn:=fun h=>hj ((Qdc j).2 h)
  have n1:look l j=none:=Qhd fun p hp e=>hn (.inl ⟨p,hp,e⟩)
  have n2:look m.Pairs j=none:=Qhd fun p hp e=>hn (.inr ⟨p,hp,e⟩)
  unfold Qd3
  by_cases hc:(Qc1 m j && hasB on j)=true
  ·rw [if_pos hc]
   have ht':=(Bool.and_eq_true _ _▸hc).1
   unfold Qc1 at ht'
   by_cases k2:m.Kind=2
   ·unfold Qfu
    rw [if_pos k2]
   rw [if_neg k2,n2] at ht'
   cases ht'
  rw [if_neg hc,n1]
 exact ⟨(l,false),by rw [e1,h2],⟨(fun h=>by cases h),fun _=>⟨rfl,k,h3⟩⟩⟩
end Go.SyP
namespace Go.SyP
open Go Go.Sy Sets
theorem Qv6 (m:Ql) (hn:m.Pairs.length<=5000):Qdw m=some (mOk m && (decide (m.Kind=3) || decide (m.Kind=4))):=by
 have eta:(⟨m.Client,m.Seq,m.Kind,m.Pairs,(⟨m.Over.Lo,m.Over.Hi⟩:Qb),m.Old⟩:Ql)=m:=rfl
 unfold Qdw Qdw.j1
 rw [Qfj m hn,Option.bind_some]
 cases mOk m with
 | false=>rfl
 | true=>
  rw [if_pos rfl]
  by_cases h:m.Kind=3
  ·rw [if_pos h,decide_eq_true h];rfl
  rw [if_neg h,decide_eq_false h]
  simp only [Bool.true_and,Bool.false_or]
  rfl
theorem Qrb (a b:List Qa) (k:Int):look (a ++ b) k=match look a k with | some v=>some v | none=>look b k:=by
 induction a with
 | nil=>rfl
 | cons x a ih=>
  rw [List.cons_append,look,look]
  by_cases h:x.Key=k
  ·rw [if_pos h,if_pos h]
  rw [if_neg h,if_neg h,ih]
theorem Qxo (v:Int):Qf9 (Qeh v (-1099511627776)) 1099511627776=within v:=by
 unfold Qf9 Qeh within
 by_cases h1:v > 1099511627776
 ·rw [if_pos h1]
  repeat split
  all_goals omega
 rw [if_neg h1]
 by_cases h2:v < -1099511627776
 ·rw [if_pos h2]
  repeat split
  all_goals omega
 rw [if_neg h2]
 repeat split
 all_goals omega
theorem Whl (a:List Qa) (k by':Int) (hn:a.length<=5000) (h:Tb a) (hb:-1099511627776<=by'/\by'<=1099511627776):Qfw a k by'=some (Qeu a k (within ((look a k).getD 0+by'))):=by
 unfold Qfw
 have hk:=Qn2 h k
 rw [get_eq a k hn h.up,Option.bind_some]
 simp only [Qvr]
 rw [wr (by omega),Qxo,put_eq a k _ hn h.up]
 rfl
theorem Wf9 (l:List Qa) (m:Ql) (on:List Qb) (hl:l.length<=1000) (ho:on.length<=5000) (ht:Tb l) (hmi:Qpw m) (k1:m.Kind=1):
  ∃ out,Yb (Wm.step m on) (.l1 0 l)=some (out,true)/\Tb out/\out.length<=l.length+m.Pairs.length/\∀ j,look out j=if hasB on j=true then (match look m.Pairs j with | some v=>some v | none=>look l j) else look l j:=by
 have hpl:=hmi.len
 have hu:=hmi.put k1
 obtain ⟨r,e1,out,e2,e3⟩:∃ r,Yb (Wm.step m on) (.l1 0 l)=some r/\∃ out,r=(out,true)/\Tb out/\out.length<=l.length+m.Pairs.length/\∀ j,look out j=if hasB on j=true then (match look m.Pairs j with | some v=>some v | none=>look l j) else look l j:=by
  refine Qbi (n:=m.Pairs.length) (fun i x=>Wm.S.l1 (i:Int) x) (fun i x=>Tb x/\x.length<=l.length+i/\∀ j,look x j=if hasB on j=true then (match look (m.Pairs.take i) j with | some v=>some v | none=>look l j) else look l j) _ ?_ ?_ 0 l (Nat.zero_le _) ⟨ht,by omega,fun j=>by simp [look]⟩
  ·rintro x ⟨h1,h2,h3⟩
   rw [Qbp (Nat.le_refl _)] at h3
   exact ⟨(x,true),by simp [Wm.step,Wm.l1],x,rfl,h1,h2,h3⟩
  rintro i x hi ⟨h1,h2,h3⟩
  left
  have Ye:(0:Int)<=(i:Int)/\(i:Int) < (m.Pairs.length:Int):=by omega
  have hx:=Qch (l:=m.Pairs) (z:=Qa.z) hi
  have hin:m.Pairs.getD (i:Int).toNat Qa.z∈m.Pairs:=by
   show m.Pairs.getD i Qa.z∈m.Pairs
   simp [List.getD_eq_getElem?_getD,hi]
  have hup:Up (m.Pairs.take (i+1)):=by
   rw [<- List.take_append_drop (i+1) m.Pairs] at hu
   exact Qts hu
  simp only [Wm.step,Wm.l1,Wm.j2,Ye.2,if_true,Ye,and_self,has_eq on ho,Option.bind_some,k1,put_eq x _ _ (by omega:x.length<=5000) h1.up,wr1 hi (by omega:m.Pairs.length<=9223372036854775807)]
  generalize m.Pairs.getD (i:Int).toNat Qa.z=X at hx hin ⊢
  rw [hx] at hup ⊢
  have Qo8:look (m.Pairs.take i) X.Key=none:=Qhd fun p hp=>by have:=(Qtr.1 hup).2 p hp;omega
  have Jg:=hmi.ok X hin
  by_cases hc:hasB on X.Key=true
  ·rw [if_pos hc]
   refine ⟨_,rfl,h1.Qeu Jg, ?_,fun j=>?_⟩
   ·have:=Qkc x X.Key X.Val
    omega
   rw [Qmf,h3 j,Qrb]
   by_cases hj:j=X.Key
   ·subst hj
    rw [if_pos rfl,if_pos hc,Qo8]
    simp [look]
   rw [if_neg hj]
   by_cases hb:hasB on j=true
   ·rw [if_pos hb,if_pos hb]
    cases look (m.Pairs.take i) j with
    | some v=>rfl
    | none=>simp [look,if_neg (fun e:X.Key=j=>hj e.symm)]
   rw [if_neg hb,if_neg hb]
  rw [if_neg hc]
  refine ⟨_,rfl,h1,by omega,fun j=>?_⟩
  rw [h3 j,Qrb]
  by_cases hb:hasB on j=true
  ·rw [if_pos hb,if_pos hb]
   have hj:¬ X.Key=j:=by rintro rfl;exact hc hb
   cases look (m.Pairs.take i) j with
   | some v=>rfl
   | none=>simp [look,if_neg hj]
  rw [if_neg hb,if_neg hb]
 rw [e2] at e1
 exact ⟨out,e1,e3⟩
theorem Wds (l:List Qa) (m:Ql) (on:List Qb) (hl:l.length<=1000) (ho:on.length<=5000) (ht:Tb l) (hmi:Qpw m) (k5:m.Kind=5) (p q:Qa) (hp:m.Pairs=[p,q]) (hne:p.Key≠q.Key) (hv:p.Val=q.Val):
  ∃ out,Yb (Wm.step m on) (.l1 0 l)=some (out,true)/\Tb out/\out.length<=l.length+2/\∀ j,look out j=if hasB on j=true then (if j=p.Key then some (within ((look l j).getD 0 - p.Val)) else if j=q.Key then some (within ((look l j).getD 0+q.Val)) else look l j) else look l j:=by
 have op:=hmi.ok p (by rw [hp];simp)
 have oq:=hmi.ok q (by rw [hp];simp)
 have one:∀ (x:List Qa) (k d:Int),Tb x->x.length<=2000->0<=k->k < 4096->-1099511627776<=d->d<=1099511627776->∃ y,(if hasB on k=true then Qfw x k d else some x)=some y/\Tb y/\y.length<=x.length+1 /\
   ∀ j,look y j=if hasB on j=true/\j=k then some (within ((look x j).getD 0+d)) else look x j:=by
  intro x k d hx hn hk0 hk hd0 hd
  by_cases hc:hasB on k=true
  ·rw [if_pos hc,Whl x k d (by omega) hx ⟨hd0,hd⟩]
   refine ⟨_,rfl,hx.Qeu ⟨hk0,hk,(Qps _).1,(Qps _).2⟩,Qkc _ _ _,fun j=>?_⟩
   rw [Qmf]
   by_cases hj:j=k
   ·subst hj
    rw [if_pos rfl,if_pos ⟨hc,rfl⟩]
   rw [if_neg hj,if_neg (fun h=>hj h.2)]
  rw [if_neg hc]
  refine ⟨_,rfl,hx,by omega,fun j=>?_⟩
  rw [if_neg]
  rintro ⟨h1,rfl⟩
  exact hc h1
 unfold okP at op oq
 obtain ⟨y,y1,y2,y3,y4⟩:=one l p.Key (-p.Val) ht (by omega) op.1 op.2.1 (by omega) (by omega)
 obtain ⟨z,z1,z2,z3,z4⟩:=one y q.Key q.Val y2 (by omega) oq.1 oq.2.1 (by omega) (by omega)
 have s0:Wm.step m on (.l1 0 l)=some (.inl (.l1 1 y)):=by
  simp only [Wm.step,Wm.l1,Wm.j2,hp,List.length_cons,List.length_nil,has_eq on ho,Option.bind_some,k5]
  rw [if_pos (by decide),if_pos (by decide)]
  simp only [show (0:Int).toNat=0 from rfl,List.getD_cons_zero]
  rw [wr (n:=0 - p.Val) (by omega),show (0:Int) - p.Val=-p.Val by omega]
  by_cases hc:hasB on p.Key=true
  ·rw [if_pos hc] at y1 ⊢
   rw [if_neg (by decide),y1]
   rfl
  rw [if_neg hc] at y1 ⊢
  injection y1 with y1
  rw [y1]
  rfl
 have s1:Wm.step m on (.l1 1 y)=some (.inl (.l1 2 z)):=by
  simp only [Wm.step,Wm.l1,Wm.j2,hp,List.length_cons,List.length_nil,has_eq on ho,Option.bind_some,k5]
  rw [if_pos (by decide),if_pos (by decide)]
  simp only [show (1:Int).toNat=1 from rfl,List.getD_cons_succ,List.getD_cons_zero]
  by_cases hc:hasB on q.Key=true
  ·rw [if_pos hc] at z1 ⊢
   rw [if_neg (by decide),if_neg (by decide),z1]
   rfl
  rw [if_neg hc] at z1 ⊢
  injection z1 with z1
  rw [z1]
  rfl
 have s2:Wm.step m on (.l1 2 z)=some (.inr (z,true)):=by
  simp only [Wm.step,Wm.l1,hp,List.length_cons,List.length_nil]
  rw [if_neg (by decide)]
 refine ⟨z, ?_,z2,by omega,fun j=>?_⟩
 ·rw [Qau,s0]
  simp only [stk]
  rw [Qau,s1]
  simp only [stk]
  rw [Qau,s2]
  rfl
 rw [z4 j,y4 j]
 by_cases hb:hasB on j=true
 ·rw [if_pos hb]
  by_cases h1:j=p.Key
  ·subst h1
   rw [if_neg (fun h=>hne h.2),if_pos ⟨hb,rfl⟩,if_pos rfl]
   rfl
  by_cases h2:j=q.Key
  ·rw [if_pos ⟨hb,h2⟩,if_neg (fun h=>h1 h.2),if_neg h1,if_pos h2]
  rw [if_neg (fun h=>h2 h.2),if_neg (fun h=>h1 h.2),if_neg h1,if_neg h2]
 rw [if_neg (fun h=>hb h.1),if_neg (fun h=>hb h.1),if_neg hb]
theorem Qtq (l:List Qa) (m:Ql) (on:List Qb) (hl:l.length<=1000) (hpl:m.Pairs.length<=1000) (ho:on.length<=5000) (ht:Tb l) (hm:mOk m=true) (hs:SOk on):
  ∃ r:List Qa × Bool,Wm l m on=some r/\Qgl l m on r/\Tb r.1/\r.1.length<=l.length+8:=by
 have hmi:=Qn7 hm
 have eta:(⟨m.Client,m.Seq,m.Kind,m.Pairs,(⟨m.Over.Lo,m.Over.Hi⟩:Qb),m.Old⟩:Ql)=m:=rfl
 have etaO:(⟨m.Over.Lo,m.Over.Hi⟩:Qb)=m.Over:=rfl
 obtain ⟨r1,c1,c2⟩:=Qj4 l (by omega)
 obtain ⟨r3,c5,c6⟩:=Qzg on ho
 unfold Wm Wm.j1
 simp only [eta,etaO]
 rw [c1,c2.2 ht,Option.bind_some,if_pos rfl,Qfj m (by omega),hm,Option.bind_some,if_pos rfl,c5,c6.2 hs,Option.bind_some]
 rw [if_neg (by decide),if_pos (by omega)]
 by_cases k2:m.Kind=2
 ·rw [if_pos k2,Wif l (by omega) _ on ho,Option.bind_some]
  refine ⟨_,rfl,⟨fun _=>?_,fun h=>by cases h⟩,ht.filter _,Nat.le_trans (List.length_filter_le ..) (by omega)⟩
  refine ⟨ht.up.filter _,fun j=>?_⟩
  have hlk:=Qrc l (fun k=>!((decide (m.Over.Lo<=k) && decide (k < m.Over.Hi)) && hasB on k)) j
  simp only at hlk ⊢
  rw [hlk]
  unfold Qd3 Qc1 Qfu
  rw [if_pos k2,if_pos k2]
  cases ((decide (m.Over.Lo<=j) && decide (j < m.Over.Hi)) && hasB on j)<;>simp
 rw [if_neg k2,Qv6 m (by omega),Option.bind_some,hm,Bool.true_and]
 by_cases k34:m.Kind=3\/m.Kind=4
 ·obtain ⟨p,hp⟩:=hmi.one k34
  have op:=hmi.ok p (by rw [hp];simp)
  unfold okP at op
  have hb:=Qn2 ht p.Key
  have Wft:∀ j,Qc1 m j=decide (j=p.Key):=fun j=>by
   unfold Qc1
   rw [if_neg k2,hp]
   simp only [look]
   by_cases h:p.Key=j
   ·rw [if_pos h,decide_eq_true h.symm];rfl
   rw [if_neg h,decide_eq_false (fun e=>h e.symm)];rfl
  have hd:(decide (m.Kind=3) || decide (m.Kind=4))=true:=by simpa using k34
  -- what a put does
  have Qcd:∀ v,Qfu m p.Key (look l p.Key)=some (some v)->hasB on p.Key=true->-1099511627776<=v->v<=1099511627776 ->
    ∃ r:List Qa × Bool,((Qec l p.Key v).bind fun v2=>some (v2,true))=some r/\Qgl l m on r/\Tb r.1/\r.1.length<=l.length+8:=by
   intro v hc hh hv1 hv2
   rw [put_eq l _ _ (by omega) ht.up]
   refine ⟨_,rfl,⟨fun _=>⟨ht.up.Qeu _ _,fun j=>?_⟩,fun h=>by cases h⟩,ht.Qeu ⟨op.1,op.2.1,hv1,hv2⟩,Nat.le_trans (Qkc _ _ _) (by omega)⟩
   simp only
   unfold Qd3
   rw [Wft,Qmf]
   by_cases hj:j=p.Key
   ·subst hj
    rw [hh,decide_eq_true rfl,if_pos (show (true && true)=true from rfl),if_pos rfl,hc]
   rw [decide_eq_false hj,if_neg (by simp),if_neg hj]
  have hno:Qfu m p.Key (look l p.Key)=none->hasB on p.Key=true->Qgl l m on (l,false):=fun hc hh=>
   ⟨(fun h=>by cases h),fun _=>⟨rfl,p.Key,by unfold Qd3;rw [Wft,hh,decide_eq_true rfl,if_pos (show (true && true)=true from rfl),hc]⟩⟩
  rw [hd,if_pos rfl,hp]
  simp only [List.length_singleton,List.getD_cons_zero]
  rw [if_pos (by omega),has_eq on ho,Option.bind_some]
  by_cases hh:hasB on p.Key=true
  ·rw [if_pos hh]
   unfold Jd Jd.j1 Jd.j2
   simp only [eta,hp,List.length_singleton,List.getD_cons_zero]
   rw [if_pos (by omega),get_eq l _ (by omega) ht.up,Option.bind_some]
   have hw:=wr (n:=(look l p.Key).getD 0+p.Val) (by omega)
   simp only [Qvr,hw]
   by_cases k3:m.Kind=3
   ·have Qgh:Qfu m p.Key (look l p.Key)=if (look l p.Key).getD 0+p.Val < 0\/(look l p.Key).getD 0+p.Val > 1099511627776 then none else some (some ((look l p.Key).getD 0+p.Val)):=by
     unfold Qfu
     rw [if_neg k2,if_pos k3,hp]
     rfl
    rw [if_pos k3]
    by_cases h1:(look l p.Key).getD 0+p.Val < 0
    ·rw [if_pos h1,if_pos trivial]
     refine ⟨_,rfl,hno (by rw [Qgh,if_pos (.inl h1)]) hh,ht,by simp⟩
    rw [if_neg h1]
    by_cases h2:(look l p.Key).getD 0+p.Val > 1099511627776
    ·rw [decide_eq_true h2,if_pos rfl]
     refine ⟨_,rfl,hno (by rw [Qgh,if_pos (.inr h2)]) hh,ht,by simp⟩
    rw [decide_eq_false h2,if_neg (by decide)]
    obtain ⟨r,q1,q2⟩:=Qcd _ (by rw [Qgh,if_neg (by omega)]) hh (by omega) (by omega)
    refine ⟨r, ?_,q2⟩
    rw [put_eq l _ _ (by omega) ht.up] at q1 ⊢
    exact q1
   have k4:m.Kind=4:=by omega
   have Qgh:Qfu m p.Key (look l p.Key)=if (look l p.Key).getD 1099511627777=m.Old then some (some p.Val) else none:=by
    unfold Qfu
    rw [if_neg k2,if_neg k3,if_pos k4,hp]
    rfl
   rw [if_neg k3]
   have yes:(look l p.Key).getD 1099511627777=m.Old->∃ r:List Qa × Bool,(((Qec l p.Key p.Val).bind fun v2=>some (v2,true)).bind fun v7=>some (v7.1,v7.2))=some r/\Qgl l m on r/\Tb r.1/\r.1.length<=l.length+8:=fun hc=>by
    obtain ⟨r,q1,q2⟩:=Qcd _ (by rw [Qgh,if_pos hc]) hh op.2.2.1 op.2.2.2
    refine ⟨r, ?_,q2⟩
    rw [put_eq l _ _ (by omega) ht.up] at q1 ⊢
    exact q1
   have no:¬ (look l p.Key).getD 1099511627777=m.Old->∃ r:List Qa × Bool,((some (l,false):Option (List Qa × Bool)).bind fun v7=>some (v7.1,v7.2))=some r/\Qgl l m on r/\Tb r.1/\r.1.length<=l.length+8:=fun hc=>
    ⟨_,rfl,hno (by rw [Qgh,if_neg hc]) hh,ht,by simp⟩
   by_cases hs:(look l p.Key).isSome=true
   ·rw [if_pos hs]
    have e:(look l p.Key).getD 1099511627777=(look l p.Key).getD 0:=by
     revert hs
     cases look l p.Key<;>simp
    rw [e] at yes no
    by_cases hc:(look l p.Key).getD 0=m.Old
    ·rw [if_pos hc]
     exact yes hc
    rw [if_neg hc]
    exact no hc
   rw [if_neg hs]
   have e:(look l p.Key).getD 1099511627777=1099511627777:=by
    revert hs
    cases look l p.Key<;>simp
   rw [e] at yes no
   by_cases hc:(1099511627777:Int)=m.Old
   ·rw [if_pos hc]
    exact yes hc
   rw [if_neg hc]
   exact no hc
  rw [if_neg hh]
  refine ⟨_,rfl,⟨fun _=>⟨ht.up,fun j=>?_⟩,fun h=>by cases h⟩,ht,by simp⟩
  unfold Qd3
  rw [Wft]
  by_cases hj:j=p.Key
  ·subst hj
   rw [if_neg (by simp [hh])]
  rw [decide_eq_false hj,if_neg (by simp)]
 have hd:(decide (m.Kind=3) || decide (m.Kind=4))=false:=by
  rw [Bool.eq_false_iff]
  intro h
  simp only [Bool.or_eq_true,decide_eq_true_eq] at h
  exact k34 h
 rw [hd,if_neg (by decide)]
 have k3:¬ m.Kind=3:=fun e=>k34 (.inl e)
 have k4:¬ m.Kind=4:=fun e=>k34 (.inr e)
 have hkind:=hmi.kind
 by_cases k1:m.Kind=1
 ·obtain ⟨out,q1,q2,q3,q4⟩:=Wf9 l m on hl ho ht hmi k1
  have hpl8:=hmi.len
  refine ⟨_,q1,⟨fun _=>⟨q2.up,fun j=>?_⟩,fun h=>by cases h⟩,q2,by simp only;omega⟩
  simp only
  rw [q4 j]
  unfold Qd3 Qc1 Qfu
  rw [if_neg k2,if_neg k2,if_neg k3,if_neg k4,if_neg (show ¬ m.Kind=5 by omega)]
  cases hlp:look m.Pairs j with
  | none=>simp
  | some v=>
   by_cases hb:hasB on j=true
   ·simp [hb]
   simp [hb]
 have k5:m.Kind=5:=by omega
 obtain ⟨p,q,hp,hne,hv⟩:=hmi.two k5
 obtain ⟨out,q1,q2,q3,q4⟩:=Wds l m on hl ho ht hmi k5 p q hp hne hv
 refine ⟨_,q1,⟨fun _=>⟨q2.up,fun j=>?_⟩,fun h=>by cases h⟩,q2,by simp only;omega⟩
 simp only
 rw [q4 j]
 unfold Qd3 Qc1 Qfu
 rw [if_neg k2,if_neg k2,if_neg k3,if_neg k4,if_pos k5,hp]
 simp only [look,List.getD_cons_zero]
 by_cases hb:hasB on j=true
 ·rw [if_pos hb,hb,Bool.and_true]
  by_cases h1:j=p.Key
  ·subst h1
   simp
  simp only [if_neg h1,if_neg (show ¬ p.Key=j from fun e=>h1 e.symm)]
  by_cases h2:j=q.Key
  ·rw [if_pos h2,if_pos h2.symm,if_pos (by rfl),hv]
  rw [if_neg h2,if_neg (show ¬ q.Key=j from fun e=>h2 e.symm),if_neg (by simp)]
 rw [if_neg hb]
 simp [hb]
end Go.SyP
