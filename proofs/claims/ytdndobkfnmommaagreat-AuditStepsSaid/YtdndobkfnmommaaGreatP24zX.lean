/- How many entries above a mark touch a set. -/
import Derived.Test.YtdndobkfnmommaaGreatP24zU
set_option linter.unusedVariables false
set_option linter.unusedSimpArgs false
namespace Go.SyP
open Go Go.Sy Sets
noncomputable def Qnu (on:List Qb) (mark:Int) (c:Nat) (e:Qe):Nat:=if (decide (e.Time > mark) && Qn5 e.M on)=true then c+1 else c
noncomputable def Wf0 (on:List Qb) (mark:Int) (l:List Qe):Nat:=l.foldl (Qnu on mark) 0
theorem Weu {l:List Qe} {on:List Qb} {mark:Int} (hf:Few l) (hO:Ord l) (ho:on.length<=5000) (hs:SOk on):Zg l on mark=some (Wf0 on mark l:Int):=by
 have hl:=hf.len
 obtain ⟨r,o1,o2⟩:=Qil l hf
 obtain ⟨c,c1,c2⟩:=Qrb on ho
 unfold Zg
 rw [o1,Option.bind_some,o2.2 hO,if_pos rfl,c1,Option.bind_some,c2.2 hs]
 simp only [Bool.not_true,Zg.j1,Bool.false_eq_true,if_false]
 have h:=Qge (step:=Zg.step l on mark) l Qe.z (fun i (x:Nat)=>Zg.S.l1 (x:Int) (i:Int)) (Qnu on mark) (fun i x=>x<=i) (fun i x hi hx=>by
  have Yj:(0:Int)<=(i:Int)/\(i:Int) < (l.length:Int):=by omega
  have hm:=Qsv hO hi
  simp only [Zg.step,Zg.l1,Zg.j2,Zg.j3,Yj.2,if_true,Yj,and_self,show l.getD (i:Int).toNat Qe.z=l.getD i Qe.z from rfl,wr1 hi (by omega:l.length<=9223372036854775807)]
  generalize l.getD i Qe.z=e at hm ⊢
  unfold Qnu
  by_cases ht:e.Time > mark
  ·rw [if_pos ht,Qs3 hm hs ho,Option.bind_some,decide_eq_true ht,Bool.true_and]
   cases Qn5 e.M on with
   | true=>
    simp only [if_true]
    rw [show IntKind.wrap .i64 ((x:Int)+1)=((x+1:Nat):Int) by rw [wr (by omega)];omega]
    exact ⟨rfl,by omega⟩
   | false=>
    simp only [Bool.false_eq_true,if_false]
    exact ⟨trivial,by omega⟩
  rw [if_neg ht,decide_eq_false ht]
  simp only [Bool.false_and,Bool.false_eq_true,if_false]
  exact ⟨trivial,by omega⟩) 0 (by simp)
 have e:=h.1
 simp only [Int.natCast_zero,show ((0:Nat):Int)=0 from rfl] at e
 refine (show Xx (Zg.step l on mark) (Zg.S.l1 0 0)=_ from e).trans ?_
 rw [Ji]
 simp [Zg.step,Zg.l1,stk,Wf0]
theorem Wg7 {l:List Qe} {on:List Qb} {mark:Int} (hf:Few l) (ho:on.length<=5000) (h:¬ (Ord l/\SOk on)):Zg l on mark=some 0:=by
 obtain ⟨r,o1,o2⟩:=Qil l hf
 obtain ⟨c,c1,c2⟩:=Qrb on ho
 unfold Zg
 rw [o1,Option.bind_some]
 simp only [Zg.j1,if_true]
 by_cases h1:r=true
 ·rw [if_pos h1,c1,Option.bind_some]
  have:c=false:=by
   cases hc:c with
   | false=>rfl
   | true=>exact absurd ⟨o2.1 h1,c2.1 hc⟩ h
  rw [this]
  rfl
 rw [if_neg h1]
def ov (t s:Qb):Bool:=decide (t.Lo < s.Hi) && decide (s.Lo < t.Hi)
def ovs (T on:List Qb):Bool:=T.any fun t=>on.any (ov t)
theorem Wh3 {T on:List Qb} (h1:SOk T) (h2:SOk on):ovs T on=true↔∃ k,mem (T.map pa) k/\mem (on.map pa) k:=by
 unfold ovs
 simp only [List.any_eq_true,ov,Bool.and_eq_true,decide_eq_true_eq,mem,List.mem_map]
 constructor
 ·rintro ⟨t,ht,s,hs,a1,a2⟩
  have k1:=h1.1.1 (pa t) (List.mem_map_of_mem ht)
  have k2:=h2.1.1 (pa s) (List.mem_map_of_mem hs)
  unfold Ok pa at k1 k2
  simp only at k1 k2
  by_cases hle:t.Lo<=s.Lo
  ·exact ⟨s.Lo,⟨pa t,⟨t,ht,rfl⟩,by unfold pa;simp only;omega⟩,⟨pa s,⟨s,hs,rfl⟩,by unfold pa;simp only;omega⟩⟩
  exact ⟨t.Lo,⟨pa t,⟨t,ht,rfl⟩,by unfold pa;simp only;omega⟩,⟨pa s,⟨s,hs,rfl⟩,by unfold pa;simp only;omega⟩⟩
 rintro ⟨k,⟨_,⟨t,ht,rfl⟩,a1⟩,⟨_,⟨s,hs,rfl⟩,a2⟩⟩
 unfold pa at a1 a2
 simp only at a1 a2
 exact ⟨t,ht,s,hs,by omega,by omega⟩
theorem Weg (a:List Qb) {i:Nat} (hi:i < a.length):(a.map toR).getD i Qf.z=toR (a.getD i Qb.z):=by
 simp [List.getD_eq_getElem?_getD,hi]
theorem Qyg {α:Type} (p:α->Bool):∀ (l:List α) (b:Bool),l.foldl (fun b x=>b || p x) b=(b || l.any p)
 | [],b=>by simp
 | x :: l,b=>by rw [List.foldl_cons,Qyg p l,List.any_cons,Bool.or_assoc]
theorem Qw9 {l:List Qe} {on:List Qb} {mark:Int} (hf:Few l) (hO:Ord l) (ho:on.length<=5000) (hs:SOk on):Qs (l.map trE) (on.map toR) mark=some (Wf0 on mark l:Int):=by
 have hl:=hf.len
 have hon:=hs.2
 obtain ⟨r,o1,o2⟩:=Qgj l hf
 obtain ⟨c,c1,c2⟩:=Qzc on ho
 have hr:=o2.2 hO
 have hc:=c2.2 hs
 subst hr
 subst hc
 let st:=Qs.step (l.map trE) (on.map toR) mark
 have in3:∀ (T:List Qb) (n i j:Nat) (b:Bool),T.length<=64->j < T.length->Xx st (.l3 (T.map toR) (n:Int) (i:Int) b (j:Int) 0)=Xx st (.l2 (T.map toR) (n:Int) (i:Int) (b || on.any (ov (T.getD j Qb.z))) ((j+1:Nat):Int)):=by
  intro T n i j b hT hj
  have h:=Qge (step:=st) on Qb.z (fun q (b:Bool)=>Qs.S.l3 (T.map toR) (n:Int) (i:Int) b (j:Int) (q:Int)) (fun b s=>b || ov (T.getD j Qb.z) s) (fun _ _=>True) (fun q b hq _=>by
   have hs1:(0:Int)<=(j:Int)/\(j:Int) < (T.length:Int):=by omega
   have hs2:(0:Int)<=(q:Int)/\(q:Int) < (on.length:Int):=by omega
   refine ⟨?_,trivial⟩
   simp only [st,Qs.step,Qs.l3,Qs.j4,List.length_map,hs2.2,if_true,hs1,hs2,and_self,show (q:Int).toNat=q from rfl,show (j:Int).toNat=j from rfl,Weg on hq,Weg T hj,wr1 hq (by omega:on.length<=9223372036854775807)]
   unfold ov
   cases b with
   | true=>rfl
   | false=>
    simp only [Bool.false_eq_true,if_false,Bool.false_or]
    rw [show (toR (T.getD j Qb.z)).Lo=(T.getD j Qb.z).Lo from rfl,show (toR (T.getD j Qb.z)).Hi=(T.getD j Qb.z).Hi from rfl,show (toR (on.getD q Qb.z)).Lo=(on.getD q Qb.z).Lo from rfl,show (toR (on.getD q Qb.z)).Hi=(on.getD q Qb.z).Hi from rfl]
    by_cases h1:(T.getD j Qb.z).Lo < (on.getD q Qb.z).Hi
    ·rw [if_pos h1,decide_eq_true h1,Bool.true_and]
    rw [if_neg h1,decide_eq_false h1,Bool.false_and]) b trivial
  have e:=h.1
  rw [Qyg] at e
  refine (show Xx st (Qs.S.l3 (T.map toR) (n:Int) (i:Int) b (j:Int) 0)=_ from e).trans ?_
  rw [Ji]
  simp only [st,Qs.step,Qs.l3,List.length_map,Int.lt_irrefl,if_false,wr1 hj (by omega:T.length<=9223372036854775807)]
  rfl
 have in2:∀ (T:List Qb) (n i:Nat),T.length<=64->Xx st (.l2 (T.map toR) (n:Int) (i:Int) false 0)=Xx st (.l2 (T.map toR) (n:Int) (i:Int) (ovs T on) (T.length:Int)):=by
  intro T n i hT
  have key:∀ (m j:Nat) (b:Bool),j+m=T.length->Xx st (.l2 (T.map toR) (n:Int) (i:Int) b (j:Int))=Xx st (.l2 (T.map toR) (n:Int) (i:Int) (b || (T.drop j).any fun t=>on.any (ov t)) (T.length:Int)):=by
   intro m
   induction m with
   | zero=>
    intro j b hj
    obtain rfl:j=T.length:=by omega
    simp
   | succ m ih=>
    intro j b hj
    have hj':j < T.length:=by omega
    have h0:st (.l2 (T.map toR) (n:Int) (i:Int) b (j:Int))=some (.inl (.l3 (T.map toR) (n:Int) (i:Int) b (j:Int) 0)):=by
     simp only [st,Qs.step,Qs.l2,List.length_map,show (j:Int) < (T.length:Int) by omega,if_true]
    rw [Ji,h0]
    refine (in3 T n i j b hT hj').trans ?_
    rw [ih (j+1) _ (by omega),List.drop_eq_getElem_cons hj',List.any_cons,show T[j]=T.getD j Qb.z by simp [hj'],Bool.or_assoc]
  have:=key T.length 0 false (by omega)
  simpa [ovs] using this
 have h:=Qge (step:=st) l Qe.z (fun i (x:Nat)=>Qs.S.l1 (x:Int) (i:Int)) (Qnu on mark) (fun i x=>x<=i)
 have all:∀ (m i x:Nat),i+m=l.length->x<=i->Xx st (.l1 (x:Int) (i:Int))=some (((l.drop i).foldl (Qnu on mark) x:Nat):Int):=by
  intro m
  induction m with
  | zero=>
   intro i x hi hx
   obtain rfl:i=l.length:=by omega
   rw [Ji]
   simp [st,Qs.step,Qs.l1,Qs.j1,stk]
  | succ m ih=>
   intro i x hi hx
   have hi':i < l.length:=by omega
   have hs1:(0:Int)<=(i:Int)/\(i:Int) < (l.length:Int):=by omega
   have hm:=Qsv hO hi'
   obtain ⟨T,t1,t2,t3,t4⟩:=Qxa hm
   have h0:st (.l1 (x:Int) (i:Int))=some (.inl (.l2 (T.map toR) (x:Int) (i:Int) false 0)):=by
    simp only [st,Qs.step,Qs.l1,Qs.j1,List.length_map,hs1.2,if_true,o1,c1,Option.bind_some,hs1,and_self,show (i:Int).toNat=i from rfl,Qig l hi']
    rw [show (trE (l.getD i Qe.z)).M=trM (l.getD i Qe.z).M from rfl,t4]
    rfl
   have h2:ovs T on=Qn5 (l.getD i Qe.z).M on:=by
    rw [Bool.eq_iff_iff,Wh3 t2 hs,Qrz]
    exact ⟨fun ⟨k,a,b⟩=>⟨k,(t3 k).1 a,b⟩,fun ⟨k,a,b⟩=>⟨k,(t3 k).2 a,b⟩⟩
   have hS:Qnu on mark x (l.getD i Qe.z)<=x+1:=by
    unfold Qnu
    split<;>omega
   have hw:IntKind.wrap .i64 ((x:Int)+1)=((x+1:Nat):Int):=by rw [wr (by omega)];omega
   have h3:st (.l2 (T.map toR) (x:Int) (i:Int) (ovs T on) (T.length:Int))=some (.inl (.l1 (Qnu on mark x (l.getD i Qe.z):Int) ((i+1:Nat):Int))):=by
    simp only [st,Qs.step,Qs.l2,Qs.j2,Qs.j3,List.length_map,Int.lt_irrefl,if_false,hs1,and_self,if_true,show (i:Int).toNat=i from rfl,Qig l hi',wr1 hi' (by omega:l.length<=9223372036854775807),hw]
    rw [h2,show (trE (l.getD i Qe.z)).Time=(l.getD i Qe.z).Time from rfl]
    unfold Qnu
    cases Qn5 (l.getD i Qe.z).M on with
    | false=>simp
    | true=>
     generalize (l.getD i Qe.z).Time=tm
     by_cases ht:tm > mark
     ·simp [ht]
     simp [ht]
   rw [Ji,h0]
   refine (in2 T x i t2.2).trans ?_
   rw [Ji,h3]
   refine (ih (i+1) _ (by omega) (by omega)).trans ?_
   rw [List.drop_eq_getElem_cons hi',List.foldl_cons,show l[i]=l.getD i Qe.z by simp [hi']]
 have:=all l.length 0 0 (by omega) (by omega)
 unfold Qs
 exact this
theorem Qx2 {l:List Qe} {on:List Qb} {mark:Int} (hf:Few l) (ho:on.length<=5000) (h:¬ (Ord l/\SOk on)):Qs (l.map trE) (on.map toR) mark=some 0:=by
 obtain ⟨r,o1,o2⟩:=Qgj l hf
 obtain ⟨c,c1,c2⟩:=Qzc on ho
 unfold Qs
 rw [Ji]
 simp only [Qs.step,Qs.l1,Qs.j1,List.length_map,o1,Option.bind_some]
 by_cases h0:(0:Int) < (l.length:Int)
 ·rw [if_pos h0]
  by_cases h1:r=true
  ·rw [if_pos h1,c1,Option.bind_some]
   have:c=false:=by
    cases hc:c with
    | false=>rfl
    | true=>exact absurd ⟨o2.1 h1,c2.1 hc⟩ h
   rw [this]
   rfl
  rw [if_neg h1]
  rfl
 rw [if_neg h0]
 rfl
end Go.SyP
namespace Go.SyP
open Go Go.Sy Sets
theorem Quy {e:Qe} (hp:e.M.Pairs.length<=5000):Qak (trE e) (trE e)=some true:=by
 unfold Qak
 rw [show (trE e).M=trM e.M from rfl,Qva _ hp,Option.bind_some,if_pos rfl,if_pos rfl]
 simp [Qak.j1]
theorem Qxj {key:Int}:∀ {l:List Qe} {x:List Xe × List Qa},(l.foldl (stF key) x).1.length<=x.1.length+l.length
 | [],x=>by simp
 | e :: l,x=>by
  have h1:=Qxj (key:=key) (l:=l) (x:=stF key x e)
  have h2:(stF key x e).1.length<=x.1.length+1:=by
   unfold stF
   split<;>simp
  simp only [List.foldl_cons,List.length_cons]
  omega
theorem Qy8 {l:List Qe} (hf:Few l) (key:Int):∃ S e,Ws l key=some (S,e)/\Qk (l.map trE) key=some (S.map trS,e)/\(∀ s∈S,s.E∈l)/\S.length<=61:=by
 by_cases h:Ord l/\0<=key/\key < 4096
 ·refine ⟨_,_,Qy7 hf h.1 h.2,Qto hf h.1 h.2,fun s hs=>?_, ?_⟩
  ·rcases Qxk s hs with h | h
   ·simp at h
   exact h
  have:=Qxj (key:=key) (l:=l) (x:=([],[]))
  have:=hf.len
  unfold Qxi
  simp at *
  omega
 exact ⟨_,_,Wbd hf h,Qvb hf h,by simp,by simp⟩
theorem Qy1 {l:List Qe} (hf:Few l) {on:List Qb} (ho:on.length<=5000) (mark:Int):∃ B g,Zm l on mark=some (B,g)/\Qx (l.map trE) (on.map toR) mark=some (B.map trE,g)/\(∀ e∈B,e∈l)/\B.length<=488:=by
 by_cases h:Ord l/\SOk on
 ·refine ⟨_,_,Qy0 hf h.1 ho h.2,Qtn hf h.1 ho h.2,fun e he=>?_, ?_⟩
  ·rcases Qv9 e he with h | h
   ·simp at h
   exact h
  have h1:=Qv8 (l:=l) (mark:=mark) (ps:=foldM on [] (Zi mark l)) (out:=[])
  have h2:=(Qrj mark hf ho h.2 h.1.ok).2
  have:=hf.len
  unfold Qzb
  simp at h1
  omega
 exact ⟨_,_,Wa9 hf ho h,Qu8 hf ho h,by simp,by simp⟩
theorem Wev {l:List Qe} (hf:Few l) {on:List Qb} (ho:on.length<=5000) (mark:Int):∃ n,Zg l on mark=some n/\Qs (l.map trE) (on.map toR) mark=some n:=by
 by_cases h:Ord l/\SOk on
 ·exact ⟨_,Weu hf h.1 ho h.2,Qw9 hf h.1 ho h.2⟩
 exact ⟨_,Wg7 hf ho h,Qx2 hf ho h⟩
theorem Wjd (l:List Xe) {i:Nat} (hi:i < l.length):(l.map trS).getD i Xf.z=trS (l.getD i Xe.z):=by
 simp [List.getD_eq_getElem?_getD,hi]
theorem Qkf (a0:List Qe) (a1:List Qb) (a2:Qcy):Qc a0 a1 a2=some true:=by
 obtain ⟨r,f1,f2⟩:=Wjh a0 []
 unfold Qc
 rw [f1,Option.bind_some]
 by_cases hr:r=true
 ·rw [if_pos hr]
  have hso:=f2 hr
  have hf:=hso.few
  by_cases hl:(a1.length:Int) > 60
  ·rw [decide_eq_true hl]
   simp only [Qc.j1,if_true]
   rw [Qtf]
   rfl
  rw [decide_eq_false hl]
  have ho:a1.length<=5000:=by omega
  obtain ⟨S,e,s1,s2,s3,s4⟩:=Qy8 hf a2.i0
  obtain ⟨B,g,b1,b2,b3,b4⟩:=Qy1 hf ho a2.i1
  obtain ⟨n,n1,n2⟩:=Wev hf ho a2.i1
  have hp:∀ x∈a0,x.M.Pairs.length<=5000:=fun x hx=>by have:=hf.prs x hx;omega
  have hlen:=hf.len
  simp only [Qc.j1,Bool.false_eq_true,if_false]
  rw [Qm8 a0 (by omega) hp,Option.bind_some,s1,Option.bind_some,s2,Option.bind_some,if_pos rfl]
  simp only [Qc.j2,List.length_map,bne_self_eq_false,Bool.false_eq_true,if_false]
  let st:=Qc.step a0 a1 a2 (a0.map trE) (S,e) (S.map trS,e)
  have loop2:∀ (m i:Nat),i+m=B.length->Xx st (.l2 (B.map trE,g) (B.map trE) (i:Int))=some true:=by
   intro m
   induction m with
   | zero=>
    intro i hi
    obtain rfl:i=B.length:=by omega
    rw [Ji]
    simp only [st,Qc.step,Qc.l2,List.length_map,Int.lt_irrefl,if_false]
    rw [Qtf,Option.bind_some,if_pos rfl,n1,Option.bind_some,Qvv a1 ho,Option.bind_some,n2,Option.bind_some]
    simp [Qc.j5,stk]
   | succ m ih=>
    intro i hi
    have hi':i < B.length:=by omega
    have hs:(0:Int)<=(i:Int)/\(i:Int) < (B.length:Int):=by omega
    have h0:st (.l2 (B.map trE,g) (B.map trE) (i:Int))=some (.inl (.l2 (B.map trE,g) (B.map trE) ((i+1:Nat):Int))):=by
     simp only [st,Qc.step,Qc.l2,List.length_map,hs.2,if_true,hs,and_self,show (i:Int).toNat=i from rfl,Qig B hi',Quy (hp _ (b3 _ (Qeo (z:=Qe.z) hi'))),Option.bind_some,wr1 hi' (by omega:B.length<=9223372036854775807)]
    rw [Ji,h0]
    exact ih (i+1) (by omega)
  have loop1:∀ (m i:Nat),i+m=S.length->Xx st (.l1 (i:Int))=some true:=by
   intro m
   induction m with
   | zero=>
    intro i hi
    obtain rfl:i=S.length:=by omega
    rw [Ji]
    have h0:st (.l1 (S.length:Int))=some (.inl (.l2 (B.map trE,g) (B.map trE) 0)):=by
     simp only [st,Qc.step,Qc.l1,Int.lt_irrefl,if_false,b1,Option.bind_some,Qvv a1 ho,b2,if_true,List.length_map,bne_self_eq_false,Qc.j3,Bool.false_eq_true]
     rw [Qm8 B (by omega) (fun x hx=>hp x (b3 x hx))]
     rfl
    rw [h0]
    exact loop2 B.length 0 (by omega)
   | succ m ih=>
    intro i hi
    have hi':i < S.length:=by omega
    have hs:(0:Int)<=(i:Int)/\(i:Int) < (S.length:Int):=by omega
    have hE:(S.getD i Xe.z).E.M.Pairs.length<=5000:=hp _ (s3 _ (Qeo (z:=Xe.z) hi'))
    have h0:st (.l1 (i:Int))=some (.inl (.l1 ((i+1:Nat):Int))):=by
     simp only [st,Qc.step,Qc.l1,List.length_map,hs.2,if_true,hs,and_self,show (i:Int).toNat=i from rfl,Wjd S hi']
     generalize S.getD i Xe.z=s at hE ⊢
     rw [Qm8 [s.E] (by simp) (fun x hx=>by simp at hx;subst hx;exact hE),Option.bind_some]
     simp only [List.map_cons,List.map_nil,List.length_singleton,List.getD_cons_zero,show (trS s).E=trE s.E from rfl,Quy hE,Option.bind_some,if_true,show (trS s).Was.Val=s.Was.Val from rfl,show (trS s).Was.Some=s.Was.Some from rfl,show (trS s).Is.Val=s.Is.Val from rfl,show (trS s).Is.Some=s.Is.Some from rfl,Qc.j4,wr1 hi' (by omega:S.length<=9223372036854775807)]
     cases hb:s.Was.Some<;>simp
    rw [Ji,h0]
    exact ih (i+1) (by omega)
  exact loop1 S.length 0 (by omega)
 rw [if_neg hr]
 simp only [Qc.j1,if_true]
 rw [Qtf]
 rfl
end Go.SyP
