/- The order of cores, the program's and the document's. -/
import Derived.Test.YticmlllaimjdcaaGreatP15zU
set_option linter.unusedVariables false
set_option linter.unusedSimpArgs false
namespace Go.SyP
open Go Go.Sy Sets
def Qb3 (a b:Qc):Prop:=a.M.Client=b.M.Client/\a.M.Seq=b.M.Seq
instance (a b:Qc):Decidable (Qb3 a b):=by unfold Qb3;infer_instance
theorem Qb3.symm {a b:Qc} (h:Qb3 a b):Qb3 b a:=⟨h.1.symm,h.2.symm⟩
def Wp (L:List Qc):Prop:=∃ x∈L,∃ y∈L,Qb3 x y/\x≠y
theorem Wp.mono {L L':List Qc} (h:Wp L) (hs:∀ x∈L,x∈L'):Wp L':=by
 obtain ⟨x,hx,y,hy,h⟩:=h
 exact ⟨x,hs x hx,y,hs y hy,h⟩
def ltE (a b:Qc):Prop:=ltS (stE a) (stE b)
instance (a b:Qc):Decidable (ltE a b):=by unfold ltE;infer_instance
theorem Qop (a:Qc):¬ ltE a a:=by unfold ltE ltS;omega
theorem We3 {a b:Qc} (h:ltE a b):¬ ltE b a:=by unfold ltE ltS at *;omega
theorem We4 {a b c:Qc} (h:ltE a b) (k:ltE b c):ltE a c:=Qp8 h k
theorem Qvh {a b:Qc} (h:¬ Qb3 a b):ltE a b\/ltE b a:=by unfold ltE ltS stE Qb3 at *;simp only;omega
structure Ql2 (L S:List Qc):Prop where
 mem:∀ x,x∈S↔x∈L
 up:S.Pairwise ltE
theorem Qo9:∀ {a b:List Qc},a.Pairwise ltE->b.Pairwise ltE->(∀ x,x∈a↔x∈b)->a=b
 | [],[],_,_,_=>rfl
 | [],y :: b,_,_,h=>absurd ((h y).2 (List.mem_cons_self ..)) (by simp)
 | x :: a,[],_,_,h=>absurd ((h x).1 (List.mem_cons_self ..)) (by simp)
 | x :: a,y :: b,ha,hb,h=>by
  rw [List.pairwise_cons] at ha hb
  have hxy:x=y:=by
   rcases List.mem_cons.1 ((h x).1 (List.mem_cons_self ..)) with e | h1
   ·exact e
   rcases List.mem_cons.1 ((h y).2 (List.mem_cons_self ..)) with e | h2
   ·exact e.symm
   exact absurd (ha.1 y h2) (We3 (hb.1 x h1))
  subst hxy
  refine congrArg (x :: ·) (Qo9 ha.2 hb.2 fun z=>⟨fun hz=>?_,fun hz=>?_⟩)
  ·rcases List.mem_cons.1 ((h z).1 (List.mem_cons_of_mem _ hz)) with e | h1
   ·subst e;exact absurd (ha.1 z hz) (Qop z)
   exact h1
  rcases List.mem_cons.1 ((h z).2 (List.mem_cons_of_mem _ hz)) with e | h1
  ·subst e;exact absurd (hb.1 z hz) (Qop z)
  exact h1
theorem Ql2.unique {L L' S S':List Qc} (h:Ql2 L S) (h':Ql2 L' S') (hl:∀ x,x∈L↔x∈L'):S=S':=
 Qo9 h.up h'.up fun x=>(h.mem x).trans ((hl x).trans (h'.mem x).symm)
def Qc4 (l:List Qf):List Qc:=l.flatMap (·.Log)
theorem Qf9 {l:List Qf} {x:Qc}:x∈Qc4 l↔∃ c∈l,x∈c.Log:=List.mem_flatMap
structure Acc (D acc:List Qc):Prop where
 mem:∀ x,x∈acc↔x∈D
 apart:acc.Pairwise fun x y=>¬ Qb3 x y
theorem Acc.Wfa {D acc:List Qc} (h:Acc D acc):¬ Wp D:=by
 rintro ⟨x,hx,y,hy,hw,hne⟩
 rw [<- h.mem] at hx hy
 have key:∀ {l:List Qc},l.Pairwise (fun x y=>¬ Qb3 x y)->x∈l->y∈l->False:=by
  intro l
  induction l with
  | nil=>intro _ h _;cases h
  | cons z l ih=>
   intro hp h1 h2
   rw [List.pairwise_cons] at hp
   rcases List.mem_cons.1 h1 with e1 | h1<;>rcases List.mem_cons.1 h2 with e2 | h2
   ·exact hne (e1.trans e2.symm)
   ·exact hp.1 y h2 (e1▸hw)
   ·exact hp.1 x h1 (e2▸hw.symm)
   exact ih hp.2 h1 h2
 exact key h.apart hx hy
theorem Acc.more {D acc:List Qc} (h:Acc D acc) {e:Qc} (he:∀ x∈acc,¬ Qb3 x e):Acc (D ++ [e]) (acc ++ [e]):=by
 refine ⟨fun x=>by simp [h.mem], ?_⟩
 rw [List.pairwise_append]
 exact ⟨h.apart,by simp,fun a ha b hb=>by simp at hb;subst hb;exact he a ha⟩
theorem Acc.same {D acc:List Qc} (h:Acc D acc) {e:Qc} (he:e∈acc):Acc (D ++ [e]) acc:=by
 refine ⟨fun x=>?_,h.apart⟩
 rw [h.mem,List.mem_append,List.mem_singleton]
 exact ⟨.inl,fun hx=>by
  rcases hx with hx | rfl
  ·exact hx
  exact (h.mem _).1 he⟩
theorem Acc.sorted {D acc:List Qc} (h:Acc D acc):Ql2 D (Qd8 Qc.z Qbu acc):=by
 have hp:=Wca Qc.z Qgk acc
 have hs:=Qx6 Qc.z Qgk acc
 refine ⟨fun x=>hp.mem_iff.trans (h.mem x), ?_⟩
 have ha:(Qd8 Qc.z Qbu acc).Pairwise fun x y=>¬ Qb3 x y:=(hp.pairwise_iff fun h k=>h k.symm).2 h.apart
 refine (hs.and ha).imp fun {x y} ⟨h1,h2⟩=>?_
 rcases Qvh h2 with h3 | h3
 ·exact h3
 have:=(Qq1 y x).2 h3
 rw [h1] at this
 cases this
theorem Wji (a b:Qc):Qer a b=decide (Qb3 a b):=by
 unfold Qer Qek Qek.j1 Qb3
 by_cases h:a.M.Client=b.M.Client
 ·rw [if_pos h,Bool.eq_iff_iff];simp [h]
 rw [if_neg h];simp [h]
theorem Qif {a b:Qc}:a=b↔a.M=b.M/\a.Time=b.Time/\a.Jc=b.Jc:=by
 constructor
 ·rintro rfl;exact ⟨rfl,rfl,rfl⟩
 obtain ⟨m,t,d⟩:=a
 obtain ⟨m',t',d'⟩:=b
 rintro ⟨h1,h2,h3⟩
 simp only at h1 h2 h3
 rw [h1,h2,h3]
theorem Wg9 (a b:Qc) (hn:a.M.Pairs.length<=5000):∃ r,Qd7 a b=some r/\(r=true↔a=b):=by
 obtain ⟨v,h1,h2⟩:=Qyk a.M b.M hn
 unfold Qd7 Qd7.j1
 rw [h1,Option.bind_some]
 by_cases hv:v=true
 ·rw [if_pos hv]
  by_cases ht:a.Time=b.Time
  ·rw [if_pos ht]
   refine ⟨_,rfl, ?_⟩
   rw [beq_iff_eq,Qif]
   exact ⟨fun h=>⟨h2.1 hv,ht,h⟩,fun h=>h.2.2⟩
  rw [if_neg ht]
  exact ⟨false,rfl,by rw [Qif];simp;exact fun _ h=>absurd h ht⟩
 rw [if_neg hv]
 exact ⟨false,rfl,by rw [Qif];simp;exact fun h=>absurd (h2.2 h) hv⟩
structure Qio (l:List Qf):Prop where
 len:l.length<=14
 few:∀ c∈l,Qhg c
theorem Qol {l:List Qf} (h:Qio l):∀ i,i<=l.length->(Qc4 (l.take i)).length<=40 * i:=by
 intro i
 induction i with
 | zero=>intro _;simp [Qc4]
 | succ i ih=>
  intro hi
  have h1:=ih (by omega)
  have h2:=(h.few _ (Qbf (z:=Qf.z) (show i < l.length by omega))).log
  rw [take_at (z:=Qf.z) (by omega:i < l.length)]
  simp only [Qc4,List.flatMap_append,List.flatMap_cons,List.flatMap_nil,List.append_nil,List.length_append] at *
  omega
theorem Qzu {l:List Qf} (h:Qio l):(∀ c∈l,Qc6 c) ->
  (Wp (Qc4 l)/\Qm l=some ([],3))\/∃ S,Qm l=some (S,0)/\¬ Wp (Qc4 l)/\Ql2 (Qc4 l) S:=by
 intro Jl
 have hlen:=h.len
 let st:=Qm.step l
 have hbound:∀ {D acc:List Qc},Acc D acc->acc.length<=D.length:=by
  intro D acc ha
  have key:∀ (acc D:List Qc),acc.Pairwise (fun x y=>¬ Qb3 x y)->(∀ x∈acc,x∈D)->acc.length<=D.length:=by
   intro acc
   induction acc with
   | nil=>intro D _ _;simp
   | cons x acc ih=>
    intro D hp hs
    rw [List.pairwise_cons] at hp
    obtain ⟨s,t,rfl⟩:=List.append_of_mem (hs x (List.mem_cons_self ..))
    have:=ih (s ++ t) hp.2 fun y hy=>by
     have:=hs y (List.mem_cons_of_mem _ hy)
     rw [List.mem_append,List.mem_cons] at this
     rcases this with h1 | rfl | h1
     ·exact List.mem_append.2 (.inl h1)
     ·exact absurd ⟨rfl,rfl⟩ (hp.1 y hy)
     exact List.mem_append.2 (.inr h1)
    simp only [List.length_append,List.length_cons] at *
    omega
  exact key acc D ha.apart fun x hx=>(ha.mem x).1 hx
 -- one core's log
 have inner:∀ (i:Nat) (E D:List Qc),i < l.length->(∀ e∈D ++ E,e.M.Pairs.length<=20)->D.length+E.length<=1000->∀ (m j:Nat) (acc:List Qc),j+m=E.length->Acc (D ++ E.take j) acc ->
   (Wp (D ++ E)/\Xb st (.l3 (i:Int) E (E.length:Int) (j:Int) acc)=some ([],3))\/∃ acc',Acc (D ++ E) acc'/\Xb st (.l3 (i:Int) E (E.length:Int) (j:Int) acc)=Xb st (.l2 ((i+1:Nat):Int) acc'):=by
  intro i E D hi hE hDE m
  induction m with
  | zero=>
   intro j acc hj ha
   obtain rfl:j=E.length:=by omega
   rw [Qau (Nat.le_refl _)] at ha
   right
   refine ⟨acc,ha, ?_⟩
   rw [Zd]
   have:st (.l3 (i:Int) E (E.length:Int) (E.length:Int) acc)=some (.inl (.l2 ((i+1:Nat):Int) acc)):=by
    simp only [st,Qm.step,Qm.l3,Int.lt_irrefl,if_false,wr1 hi (by omega:l.length<=9223372036854775807)]
   rw [this]
   rfl
  | succ m ih=>
   intro j acc hj ha
   have hj':j < E.length:=by omega
   have hs2:(0:Int)<=(j:Int)/\(j:Int) < (E.length:Int):=by omega
   have hal:=hbound ha
   have htk:(E.take j).length<=E.length:=by simp;omega
   rw [List.length_append] at hal
   have hp:=hE _ (List.mem_append.2 (.inr (Qbf (z:=Qc.z) hj')))
   have hin:=Qbf (z:=Qc.z) hj'
   have hx:E.take (j+1)=E.take j ++ [E.getD j Qc.z]:=take_at hj'
   generalize he:E.getD j Qc.z=e at hp hin hx
   obtain ⟨r,q1,q2⟩:=Wem acc (by omega) (fun z0=>some (Qer z0 e)) (fun z=>decide (Qb3 z e)) (fun x _=>by rw [Wji])
   have hstp:st (.l3 (i:Int) E (E.length:Int) (j:Int) acc)=(if r>=0 then if 0<=r/\r < (acc.length:Int) then (Qd7 (acc.getD r.toNat Qc.z) e).bind fun v3=>Qm.j1 (i:Int) E (E.length:Int) (j:Int) acc r (!v3) else none else Qm.j1 (i:Int) E (E.length:Int) (j:Int) acc r false):=by
    simp only [st,Qm.step,Qm.l3,hs2.2,if_true,hs2,and_self,show (j:Int).toNat=j from rfl,he,q1,Option.bind_some]
   rw [Zd,hstp]
   have hj2:Qm.j1 (i:Int) E (E.length:Int) (j:Int) acc r false=(if r < 0 then some (.inl (.l3 (i:Int) E (E.length:Int) ((j+1:Nat):Int) (acc ++ [e]))) else some (.inl (.l3 (i:Int) E (E.length:Int) ((j+1:Nat):Int) acc))):=by
    simp only [Qm.j1,Qm.j2,Bool.false_eq_true,if_false,show (j:Int).toNat=j from rfl,he,wr1 hj' (by omega:E.length<=9223372036854775807)]
    rw [if_pos (show e.M.Pairs.length * 16<=140737488355328 by omega),if_pos (show (acc.length+1) * 88<=140737488355328 by omega)]
   rcases q2 with ⟨rfl,hno⟩ | ⟨q,rfl,hq,hqq,_⟩
   ·rw [if_neg (by decide),hj2,if_pos (by decide)]
    refine ih (j+1) (acc ++ [e]) (by omega) ?_
    rw [hx,<- List.append_assoc]
    exact ha.more fun x hx=>by simpa using hno x hx
   rw [if_pos (by omega),if_pos (by omega),show (q:Int).toNat=q from rfl]
   have Wg5:=Qbf (z:=Qc.z) hq
   have hqD:=(ha.mem _).1 Wg5
   have hqq:Qb3 (acc.getD q Qc.z) e:=by simpa using hqq
   generalize acc.getD q Qc.z=o at Wg5 hqD hqq ⊢
   obtain ⟨v,j1,j2⟩:=Wg9 o e (by
    have:=hE o (by
     rcases List.mem_append.1 hqD with h1 | h1
     ·exact List.mem_append.2 (.inl h1)
     exact List.mem_append.2 (.inr (List.mem_of_mem_take h1)))
    omega)
   rw [j1,Option.bind_some]
   cases v with
   | true=>
    have hoe:=j2.1 rfl
    subst hoe
    rw [Bool.not_true,hj2,if_neg (by omega)]
    refine ih (j+1) acc (by omega) ?_
    rw [hx,<- List.append_assoc]
    exact ha.same Wg5
   | false=>
    left
    refine ⟨⟨o, ?_,e,List.mem_append.2 (.inr hin),hqq,fun hoe=>by simpa using j2.2 hoe⟩,rfl⟩
    rcases List.mem_append.1 hqD with h1 | h1
    ·exact List.mem_append.2 (.inl h1)
    exact List.mem_append.2 (.inr (List.mem_of_mem_take h1))
 have hDp:∀ i,∀ e∈Qc4 (l.take i),e.M.Pairs.length<=20:=fun i e he=>by
  obtain ⟨c,hc,he⟩:=Qf9.1 he
  exact (h.few c (List.mem_of_mem_take hc)).lp e he
 have outer:∀ (m i:Nat) (acc:List Qc),i+m=l.length->Acc (Qc4 (l.take i)) acc ->
   (Wp (Qc4 l)/\Xb st (.l2 (i:Int) acc)=some ([],3))\/∃ S,Xb st (.l2 (i:Int) acc)=some (S,0)/\¬ Wp (Qc4 l)/\Ql2 (Qc4 l) S:=by
  intro m
  induction m with
  | zero=>
   intro i acc hi ha
   obtain rfl:i=l.length:=by omega
   have hal:=hbound ha
   have hll:=Qol h l.length (Nat.le_refl _)
   rw [Qau (Nat.le_refl _)] at ha hal hll
   right
   refine ⟨_, ?_,ha.Wfa,ha.sorted⟩
   rw [Zd]
   simp only [st,Qm.step,Qm.l2,Int.lt_irrefl,if_false]
   rw [if_pos (by omega)]
   rfl
  | succ m ih=>
   intro i acc hi ha
   have hi':i < l.length:=by omega
   have hs1:(0:Int)<=(i:Int)/\(i:Int) < (l.length:Int):=by omega
   have e1:st (.l2 (i:Int) acc)=some (.inl (.l3 (i:Int) (l.getD i Qf.z).Log ((l.getD i Qf.z).Log.length:Int) 0 acc)):=by
    simp only [st,Qm.step,Qm.l2,hs1.2,if_true,hs1,and_self,show (i:Int).toNat=i from rfl]
   have hnx:Qc4 (l.take (i+1))=Qc4 (l.take i) ++ (l.getD i Qf.z).Log:=by
    rw [take_at (z:=Qf.z) hi']
    simp [Qc4]
   have hll:=Qol h i (by omega)
   have hlg:=(h.few _ (Qbf (z:=Qf.z) hi')).log
   have:=inner i (l.getD i Qf.z).Log (Qc4 (l.take i)) hi' (by rw [<- hnx];exact hDp _) (by omega) (l.getD i Qf.z).Log.length 0 acc (by omega) (by simpa using ha)
   rw [Zd,e1]
   rcases this with ⟨k1,k2⟩ | ⟨acc',k1,k2⟩
   ·left
    refine ⟨k1.mono fun x hx=>?_,k2⟩
    rw [<- hnx] at hx
    obtain ⟨c,hc,hx⟩:=Qf9.1 hx
    exact Qf9.2 ⟨c,List.mem_of_mem_take hc,hx⟩
   rw [<- hnx] at k1
   have:=ih (i+1) acc' (by omega) k1
   have e2:stk (some (Sum.inl (Qm.S.l3 (i:Int) (l.getD i Qf.z).Log ((l.getD i Qf.z).Log.length:Int) 0 acc))) (Xb st)=Xb st (.l2 ((i+1:Nat):Int) acc'):=k2
   rw [e2]
   exact this
 have first:=Weg (step:=st) (n:=l.length) (fun n (_:Unit)=>Qm.S.l1 (n:Int)) (fun _ _=>True) (fun i _ hi _=>by
  have hs1:(0:Int)<=(i:Int)/\(i:Int) < (l.length:Int):=by omega
  have hin:=Qbf (z:=Qf.z) hi
  obtain ⟨r,c1,c2⟩:=Qli (h.few _ hin)
  refine ⟨(), ?_,trivial⟩
  simp only [st,Qm.step,Qm.l1,hs1.2,if_true,hs1,and_self,show (i:Int).toNat=i from rfl,wr1 hi (by omega:l.length<=9223372036854775807)]
  rw [c1,Option.bind_some,if_pos (c2.2 (Jl _ hin))]) 0 () (Nat.zero_le _) trivial
 obtain ⟨_,f1,_⟩:=first
 have e0:Qm l=Xb st (.l2 0 []):=by
  unfold Qm
  refine (show Xb (Qm.step l) (.l1 0)=_ from f1).trans ?_
  have:st (.l1 (l.length:Int))=some (.inl (.l2 0 [])):=by simp [st,Qm.step,Qm.l1]
  rw [Zd,this]
  rfl
 rw [e0]
 exact outer l.length 0 [] (by omega) ⟨by simp [Qc4],by simp⟩
theorem Wco {l:List Qf} (h:Qio l) (hb:¬ ∀ c∈l,Qc6 c):Qm l=some ([],1):=by
 have hlen:=h.len
 obtain ⟨r,h1,h2⟩:=Qbb (step:=Qm.step l) (n:=l.length) (fun i (_:Unit)=>Qm.S.l1 (i:Int)) (fun i _=>∀ c∈l.take i,Qc6 c) (fun r=>r=([],1))
  (fun _ hI=>by rw [Qau (Nat.le_refl _)] at hI;exact absurd hI hb) (fun i _ hi hI=>by
  have hs1:(0:Int)<=(i:Int)/\(i:Int) < (l.length:Int):=by omega
  have hin:=Qbf (z:=Qf.z) hi
  have hx:=take_at (l:=l) (z:=Qf.z) hi
  obtain ⟨r,c1,c2⟩:=Qli (h.few _ hin)
  simp only [Qm.step,Qm.l1,hs1.2,if_true,hs1,and_self,show (i:Int).toNat=i from rfl,wr1 hi (by omega:l.length<=9223372036854775807)]
  rw [c1,Option.bind_some]
  by_cases hr:r=true
  ·left
   refine ⟨(),by rw [if_pos hr],fun c hc=>?_⟩
   rw [hx] at hc
   rcases List.mem_append.1 hc with h3 | h3
   ·exact hI c h3
   simp only [List.mem_singleton] at h3
   subst h3
   exact c2.1 hr
  right
  exact ⟨_,by rw [if_neg hr],rfl⟩) 0 () (Nat.zero_le _) (by simp)
 unfold Qm
 rw [show ((0:Nat):Int)=0 from rfl] at h1
 rw [h1,h2]
end Go.SyP
