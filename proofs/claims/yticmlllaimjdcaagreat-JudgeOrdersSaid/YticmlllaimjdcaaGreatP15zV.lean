/- The order of cores, the program's and the document's. -/
import Derived.Test.YticmlllaimjdcaaGreatP15zU
set_option linter.unusedVariables false
set_option linter.unusedSimpArgs false
namespace Go.SyP
open Go Go.Sy Sets
def Qcl (a b:Qc):Prop:=a.M.Client=b.M.Client/\a.M.Seq=b.M.Seq
instance (a b:Qc):Decidable (Qcl a b):=by unfold Qcl;infer_instance
theorem Qcl.symm {a b:Qc} (h:Qcl a b):Qcl b a:=⟨h.1.symm,h.2.symm⟩
def Wt (L:List Qc):Prop:=∃ x∈L,∃ y∈L,Qcl x y/\x≠y
theorem Wt.mono {L L':List Qc} (h:Wt L) (hs:∀ x∈L,x∈L'):Wt L':=by
 obtain ⟨x,hx,y,hy,h⟩:=h
 exact ⟨x,hs x hx,y,hs y hy,h⟩
def ltE (a b:Qc):Prop:=ltS (stE a) (stE b)
instance (a b:Qc):Decidable (ltE a b):=by unfold ltE;infer_instance
theorem Qpr (a:Qc):¬ ltE a a:=by unfold ltE ltS;omega
theorem Wgt {a b:Qc} (h:ltE a b):¬ ltE b a:=by unfold ltE ltS at *;omega
theorem Wgu {a b c:Qc} (h:ltE a b) (k:ltE b c):ltE a c:=Qq4 h k
theorem Qwm {a b:Qc} (h:¬ Qcl a b):ltE a b\/ltE b a:=by unfold ltE ltS stE Qcl at *;simp only;omega
structure Qmz (L S:List Qc):Prop where
 mem:∀ x,x∈S↔x∈L
 up:S.Pairwise ltE
theorem Qqa:∀ {a b:List Qc},a.Pairwise ltE->b.Pairwise ltE->(∀ x,x∈a↔x∈b)->a=b
 | [],[],_,_,_=>rfl
 | [],y :: b,_,_,h=>absurd ((h y).2 (List.mem_cons_self ..)) (by simp)
 | x :: a,[],_,_,h=>absurd ((h x).1 (List.mem_cons_self ..)) (by simp)
 | x :: a,y :: b,ha,hb,h=>by
  rw [List.pairwise_cons] at ha hb
  have hxy:x=y:=by
   rcases List.mem_cons.1 ((h x).1 (List.mem_cons_self ..)) with e | h1
   ·exact e
   rcases List.mem_cons.1 ((h y).2 (List.mem_cons_self ..)) with e | h2
   ·exact e.symm
   exact absurd (ha.1 y h2) (Wgt (hb.1 x h1))
  subst hxy
  refine congrArg (x :: ·) (Qqa ha.2 hb.2 fun z=>⟨fun hz=>?_,fun hz=>?_⟩)
  ·rcases List.mem_cons.1 ((h z).1 (List.mem_cons_of_mem _ hz)) with e | h1
   ·subst e;exact absurd (ha.1 z hz) (Qpr z)
   exact h1
  rcases List.mem_cons.1 ((h z).2 (List.mem_cons_of_mem _ hz)) with e | h1
  ·subst e;exact absurd (hb.1 z hz) (Qpr z)
  exact h1
theorem Qmz.unique {L L' S S':List Qc} (h:Qmz L S) (h':Qmz L' S') (hl:∀ x,x∈L↔x∈L'):S=S':=
 Qqa h.up h'.up fun x=>(h.mem x).trans ((hl x).trans (h'.mem x).symm)
def Qd6 (l:List Qm):List Qc:=l.flatMap (·.Log)
theorem Qig {l:List Qm} {x:Qc}:x∈Qd6 l↔∃ c∈l,x∈c.Log:=List.mem_flatMap
structure Acc (D acc:List Qc):Prop where
 mem:∀ x,x∈acc↔x∈D
 apart:acc.Pairwise fun x y=>¬ Qcl x y
theorem Acc.Wg0 {D acc:List Qc} (h:Acc D acc):¬ Wt D:=by
 rintro ⟨x,hx,y,hy,hw,hne⟩
 rw [<- h.mem] at hx hy
 have key:∀ {l:List Qc},l.Pairwise (fun x y=>¬ Qcl x y)->x∈l->y∈l->False:=by
  intro l
  induction l with
  | nil=>intro _ h _;cases h
  | cons z l ih=>
   intro hp h1 h2
   rw [List.pairwise_cons] at hp
   rcases List.mem_cons.1 h1 with e1 | h1<;>rcases List.mem_cons.1 h2 with e2 | h2
   ·exact hne (e1.trans e2.symm)
   ·exact hp.1 y h2 (e1▸hw)
   ·exact hp.1 x h1 (e2▸hw.symm)
   exact ih hp.2 h1 h2
 exact key h.apart hx hy
theorem Acc.more {D acc:List Qc} (h:Acc D acc) {e:Qc} (he:∀ x∈acc,¬ Qcl x e):Acc (D ++ [e]) (acc ++ [e]):=by
 refine ⟨fun x=>by simp [h.mem], ?_⟩
 rw [List.pairwise_append]
 exact ⟨h.apart,by simp,fun a ha b hb=>by simp at hb;subst hb;exact he a ha⟩
theorem Acc.same {D acc:List Qc} (h:Acc D acc) {e:Qc} (he:e∈acc):Acc (D ++ [e]) acc:=by
 refine ⟨fun x=>?_,h.apart⟩
 rw [h.mem,List.mem_append,List.mem_singleton]
 exact ⟨.inl,fun hx=>by
  rcases hx with hx | rfl
  ·exact hx
  exact (h.mem _).1 he⟩
theorem Acc.sorted {D acc:List Qc} (h:Acc D acc):Qmz D (Qfm Qc.z Qdd acc):=by
 have hp:=Wdu Qc.z Qhb acc
 have hs:=Qzj Qc.z Qhb acc
 refine ⟨fun x=>hp.mem_iff.trans (h.mem x), ?_⟩
 have ha:(Qfm Qc.z Qdd acc).Pairwise fun x y=>¬ Qcl x y:=(hp.pairwise_iff fun h k=>h k.symm).2 h.apart
 refine (hs.and ha).imp fun {x y} ⟨h1,h2⟩=>?_
 rcases Qwm h2 with h3 | h3
 ·exact h3
 have:=(Qrt y x).2 h3
 rw [h1] at this
 cases this
theorem Wk6 (a b:Qc):Qfe a b=decide (Qcl a b):=by
 unfold Qfe Qgf Qgf.j1 Qcl
 by_cases h:a.M.Client=b.M.Client
 ·rw [if_pos h,Bool.eq_iff_iff];simp [h]
 rw [if_neg h];simp [h]
theorem Qjj {a b:Qc}:a=b↔a.M=b.M/\a.Time=b.Time/\a.Zw=b.Zw:=by
 constructor
 ·rintro rfl;exact ⟨rfl,rfl,rfl⟩
 obtain ⟨m,t,d⟩:=a
 obtain ⟨m',t',d'⟩:=b
 rintro ⟨h1,h2,h3⟩
 simp only at h1 h2 h3
 rw [h1,h2,h3]
theorem Wi0 (a b:Qc) (hn:a.M.Pairs.length<=5000):∃ r,Qe1 a b=some r/\(r=true↔a=b):=by
 obtain ⟨v,h1,h2⟩:=Qzw a.M b.M hn
 unfold Qe1 Qe1.j1
 rw [h1,Option.bind_some]
 by_cases hv:v=true
 ·rw [if_pos hv]
  by_cases ht:a.Time=b.Time
  ·rw [if_pos ht]
   refine ⟨_,rfl, ?_⟩
   rw [beq_iff_eq,Qjj]
   exact ⟨fun h=>⟨h2.1 hv,ht,h⟩,fun h=>h.2.2⟩
  rw [if_neg ht]
  exact ⟨false,rfl,by rw [Qjj];simp;exact fun _ h=>absurd h ht⟩
 rw [if_neg hv]
 exact ⟨false,rfl,by rw [Qjj];simp;exact fun h=>absurd (h2.2 h) hv⟩
structure Qlt (l:List Qm):Prop where
 len:l.length<=14
 few:∀ c∈l,Qik c
theorem Qpn {l:List Qm} (h:Qlt l):∀ i,i<=l.length->(Qd6 (l.take i)).length<=40 * i:=by
 intro i
 induction i with
 | zero=>intro _;simp [Qd6]
 | succ i ih=>
  intro hi
  have h1:=ih (by omega)
  have h2:=(h.few _ (Qbo (z:=Qm.z) (show i < l.length by omega))).log
  rw [take_at (z:=Qm.z) (by omega:i < l.length)]
  simp only [Qd6,List.flatMap_append,List.flatMap_cons,List.flatMap_nil,List.append_nil,List.length_append] at *
  omega
theorem Wa8 {l:List Qm} (h:Qlt l):(∀ c∈l,Qds c) ->
  (Wt (Qd6 l)/\Qt l=some ([],3))\/∃ S,Qt l=some (S,0)/\¬ Wt (Qd6 l)/\Qmz (Qd6 l) S:=by
 intro Jp
 have hlen:=h.len
 let st:=Qt.step l
 have hbound:∀ {D acc:List Qc},Acc D acc->acc.length<=D.length:=by
  intro D acc ha
  have key:∀ (acc D:List Qc),acc.Pairwise (fun x y=>¬ Qcl x y)->(∀ x∈acc,x∈D)->acc.length<=D.length:=by
   intro acc
   induction acc with
   | nil=>intro D _ _;simp
   | cons x acc ih=>
    intro D hp hs
    rw [List.pairwise_cons] at hp
    obtain ⟨s,t,rfl⟩:=List.append_of_mem (hs x (List.mem_cons_self ..))
    have:=ih (s ++ t) hp.2 fun y hy=>by
     have:=hs y (List.mem_cons_of_mem _ hy)
     rw [List.mem_append,List.mem_cons] at this
     rcases this with h1 | rfl | h1
     ·exact List.mem_append.2 (.inl h1)
     ·exact absurd ⟨rfl,rfl⟩ (hp.1 y hy)
     exact List.mem_append.2 (.inr h1)
    simp only [List.length_append,List.length_cons] at *
    omega
  exact key acc D ha.apart fun x hx=>(ha.mem x).1 hx
 -- one core's log
 have inner:∀ (i:Nat) (E D:List Qc),i < l.length->(∀ e∈D ++ E,e.M.Pairs.length<=20)->D.length+E.length<=1000->∀ (m j:Nat) (acc:List Qc),j+m=E.length->Acc (D ++ E.take j) acc ->
   (Wt (D ++ E)/\Xf st (.l3 (i:Int) E (E.length:Int) (j:Int) acc)=some ([],3))\/∃ acc',Acc (D ++ E) acc'/\Xf st (.l3 (i:Int) E (E.length:Int) (j:Int) acc)=Xf st (.l2 ((i+1:Nat):Int) acc'):=by
  intro i E D hi hE hDE m
  induction m with
  | zero=>
   intro j acc hj ha
   obtain rfl:j=E.length:=by omega
   rw [Qa3 (Nat.le_refl _)] at ha
   right
   refine ⟨acc,ha, ?_⟩
   rw [Zc]
   have:st (.l3 (i:Int) E (E.length:Int) (E.length:Int) acc)=some (.inl (.l2 ((i+1:Nat):Int) acc)):=by
    simp only [st,Qt.step,Qt.l3,Int.lt_irrefl,if_false,wr1 hi (by omega:l.length<=9223372036854775807)]
   rw [this]
   rfl
  | succ m ih=>
   intro j acc hj ha
   have hj':j < E.length:=by omega
   have hs2:(0:Int)<=(j:Int)/\(j:Int) < (E.length:Int):=by omega
   have hal:=hbound ha
   have htk:(E.take j).length<=E.length:=by simp;omega
   rw [List.length_append] at hal
   have hp:=hE _ (List.mem_append.2 (.inr (Qbo (z:=Qc.z) hj')))
   have hin:=Qbo (z:=Qc.z) hj'
   have hx:E.take (j+1)=E.take j ++ [E.getD j Qc.z]:=take_at hj'
   generalize he:E.getD j Qc.z=e at hp hin hx
   obtain ⟨r,q1,q2⟩:=Wga acc (by omega) (fun z0=>some (Qfe z0 e)) (fun z=>decide (Qcl z e)) (fun x _=>by rw [Wk6])
   have hstp:st (.l3 (i:Int) E (E.length:Int) (j:Int) acc)=(if r>=0 then if 0<=r/\r < (acc.length:Int) then (Qe1 (acc.getD r.toNat Qc.z) e).bind fun v3=>Qt.j1 (i:Int) E (E.length:Int) (j:Int) acc r (!v3) else none else Qt.j1 (i:Int) E (E.length:Int) (j:Int) acc r false):=by
    simp only [st,Qt.step,Qt.l3,hs2.2,if_true,hs2,and_self,show (j:Int).toNat=j from rfl,he,q1,Option.bind_some]
   rw [Zc,hstp]
   have hj2:Qt.j1 (i:Int) E (E.length:Int) (j:Int) acc r false=(if r < 0 then some (.inl (.l3 (i:Int) E (E.length:Int) ((j+1:Nat):Int) (acc ++ [e]))) else some (.inl (.l3 (i:Int) E (E.length:Int) ((j+1:Nat):Int) acc))):=by
    simp only [Qt.j1,Qt.j2,Bool.false_eq_true,if_false,show (j:Int).toNat=j from rfl,he,wr1 hj' (by omega:E.length<=9223372036854775807)]
    rw [if_pos (show e.M.Pairs.length * 16<=140737488355328 by omega),if_pos (show (acc.length+1) * 88<=140737488355328 by omega)]
   rcases q2 with ⟨rfl,hno⟩ | ⟨q,rfl,hq,hqq,_⟩
   ·rw [if_neg (by decide),hj2,if_pos (by decide)]
    refine ih (j+1) (acc ++ [e]) (by omega) ?_
    rw [hx,<- List.append_assoc]
    exact ha.more fun x hx=>by simpa using hno x hx
   rw [if_pos (by omega),if_pos (by omega),show (q:Int).toNat=q from rfl]
   have Wiw:=Qbo (z:=Qc.z) hq
   have hqD:=(ha.mem _).1 Wiw
   have hqq:Qcl (acc.getD q Qc.z) e:=by simpa using hqq
   generalize acc.getD q Qc.z=o at Wiw hqD hqq ⊢
   obtain ⟨v,j1,j2⟩:=Wi0 o e (by
    have:=hE o (by
     rcases List.mem_append.1 hqD with h1 | h1
     ·exact List.mem_append.2 (.inl h1)
     exact List.mem_append.2 (.inr (List.mem_of_mem_take h1)))
    omega)
   rw [j1,Option.bind_some]
   cases v with
   | true=>
    have hoe:=j2.1 rfl
    subst hoe
    rw [Bool.not_true,hj2,if_neg (by omega)]
    refine ih (j+1) acc (by omega) ?_
    rw [hx,<- List.append_assoc]
    exact ha.same Wiw
   | false=>
    left
    refine ⟨⟨o, ?_,e,List.mem_append.2 (.inr hin),hqq,fun hoe=>by simpa using j2.2 hoe⟩,rfl⟩
    rcases List.mem_append.1 hqD with h1 | h1
    ·exact List.mem_append.2 (.inl h1)
    exact List.mem_append.2 (.inr (List.mem_of_mem_take h1))
 have hDp:∀ i,∀ e∈Qd6 (l.take i),e.M.Pairs.length<=20:=fun i e he=>by
  obtain ⟨c,hc,he⟩:=Qig.1 he
  exact (h.few c (List.mem_of_mem_take hc)).lp e he
 have outer:∀ (m i:Nat) (acc:List Qc),i+m=l.length->Acc (Qd6 (l.take i)) acc ->
   (Wt (Qd6 l)/\Xf st (.l2 (i:Int) acc)=some ([],3))\/∃ S,Xf st (.l2 (i:Int) acc)=some (S,0)/\¬ Wt (Qd6 l)/\Qmz (Qd6 l) S:=by
  intro m
  induction m with
  | zero=>
   intro i acc hi ha
   obtain rfl:i=l.length:=by omega
   have hal:=hbound ha
   have hll:=Qpn h l.length (Nat.le_refl _)
   rw [Qa3 (Nat.le_refl _)] at ha hal hll
   right
   refine ⟨_, ?_,ha.Wg0,ha.sorted⟩
   rw [Zc]
   simp only [st,Qt.step,Qt.l2,Int.lt_irrefl,if_false]
   rw [if_pos (by omega)]
   rfl
  | succ m ih=>
   intro i acc hi ha
   have hi':i < l.length:=by omega
   have hs1:(0:Int)<=(i:Int)/\(i:Int) < (l.length:Int):=by omega
   have e1:st (.l2 (i:Int) acc)=some (.inl (.l3 (i:Int) (l.getD i Qm.z).Log ((l.getD i Qm.z).Log.length:Int) 0 acc)):=by
    simp only [st,Qt.step,Qt.l2,hs1.2,if_true,hs1,and_self,show (i:Int).toNat=i from rfl]
   have hnx:Qd6 (l.take (i+1))=Qd6 (l.take i) ++ (l.getD i Qm.z).Log:=by
    rw [take_at (z:=Qm.z) hi']
    simp [Qd6]
   have hll:=Qpn h i (by omega)
   have hlg:=(h.few _ (Qbo (z:=Qm.z) hi')).log
   have:=inner i (l.getD i Qm.z).Log (Qd6 (l.take i)) hi' (by rw [<- hnx];exact hDp _) (by omega) (l.getD i Qm.z).Log.length 0 acc (by omega) (by simpa using ha)
   rw [Zc,e1]
   rcases this with ⟨k1,k2⟩ | ⟨acc',k1,k2⟩
   ·left
    refine ⟨k1.mono fun x hx=>?_,k2⟩
    rw [<- hnx] at hx
    obtain ⟨c,hc,hx⟩:=Qig.1 hx
    exact Qig.2 ⟨c,List.mem_of_mem_take hc,hx⟩
   rw [<- hnx] at k1
   have:=ih (i+1) acc' (by omega) k1
   have e2:stk (some (Sum.inl (Qt.S.l3 (i:Int) (l.getD i Qm.z).Log ((l.getD i Qm.z).Log.length:Int) 0 acc))) (Xf st)=Xf st (.l2 ((i+1:Nat):Int) acc'):=k2
   rw [e2]
   exact this
 have first:=Wf4 (step:=st) (n:=l.length) (fun n (_:Unit)=>Qt.S.l1 (n:Int)) (fun _ _=>True) (fun i _ hi _=>by
  have hs1:(0:Int)<=(i:Int)/\(i:Int) < (l.length:Int):=by omega
  have hin:=Qbo (z:=Qm.z) hi
  obtain ⟨r,c1,c2⟩:=Qmg (h.few _ hin)
  refine ⟨(), ?_,trivial⟩
  simp only [st,Qt.step,Qt.l1,hs1.2,if_true,hs1,and_self,show (i:Int).toNat=i from rfl,wr1 hi (by omega:l.length<=9223372036854775807)]
  rw [c1,Option.bind_some,if_pos (c2.2 (Jp _ hin))]) 0 () (Nat.zero_le _) trivial
 obtain ⟨_,f1,_⟩:=first
 have e0:Qt l=Xf st (.l2 0 []):=by
  unfold Qt
  refine (show Xf (Qt.step l) (.l1 0)=_ from f1).trans ?_
  have:st (.l1 (l.length:Int))=some (.inl (.l2 0 [])):=by simp [st,Qt.step,Qt.l1]
  rw [Zc,this]
  rfl
 rw [e0]
 exact outer l.length 0 [] (by omega) ⟨by simp [Qd6],by simp⟩
theorem Wd7 {l:List Qm} (h:Qlt l) (hb:¬ ∀ c∈l,Qds c):Qt l=some ([],1):=by
 have hlen:=h.len
 obtain ⟨r,h1,h2⟩:=Qbi (step:=Qt.step l) (n:=l.length) (fun i (_:Unit)=>Qt.S.l1 (i:Int)) (fun i _=>∀ c∈l.take i,Qds c) (fun r=>r=([],1))
  (fun _ hI=>by rw [Qa3 (Nat.le_refl _)] at hI;exact absurd hI hb) (fun i _ hi hI=>by
  have hs1:(0:Int)<=(i:Int)/\(i:Int) < (l.length:Int):=by omega
  have hin:=Qbo (z:=Qm.z) hi
  have hx:=take_at (l:=l) (z:=Qm.z) hi
  obtain ⟨r,c1,c2⟩:=Qmg (h.few _ hin)
  simp only [Qt.step,Qt.l1,hs1.2,if_true,hs1,and_self,show (i:Int).toNat=i from rfl,wr1 hi (by omega:l.length<=9223372036854775807)]
  rw [c1,Option.bind_some]
  by_cases hr:r=true
  ·left
   refine ⟨(),by rw [if_pos hr],fun c hc=>?_⟩
   rw [hx] at hc
   rcases List.mem_append.1 hc with h3 | h3
   ·exact hI c h3
   simp only [List.mem_singleton] at h3
   subst h3
   exact c2.1 hr
  right
  exact ⟨_,by rw [if_neg hr],rfl⟩) 0 () (Nat.zero_le _) (by simp)
 unfold Qt
 rw [show ((0:Nat):Int)=0 from rfl] at h1
 rw [h1,h2]
end Go.SyP
