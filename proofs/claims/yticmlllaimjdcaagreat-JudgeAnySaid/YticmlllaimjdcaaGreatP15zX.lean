/- The order of cores, as the document has it. -/
import Derived.Test.YticmlllaimjdcaaGreatP15zV
set_option linter.unusedVariables false
set_option linter.unusedSimpArgs false
namespace Go.SyP
open Go Go.Sy Sets
noncomputable instance entDec:DecidableEq Qc:=fun a b=>Classical.propDecidable (a=b)
def Qfq (x:Qc):List Qc->List Qc
 | []=>[x]
 | y :: ys=>if ltE x y then x :: y :: ys else y :: Qfq x ys
theorem Que {x:Qc}:∀ {a b:List Qc},(∀ y∈a,¬ ltE x y)->Qfq x (a ++ b)=a ++ Qfq x b
 | [],_,_=>rfl
 | y :: a,b,h=>by
  show (if ltE x y then _ else y :: Qfq x (a ++ b))=_
  rw [if_neg (h y (List.mem_cons_self ..)),Que fun z hz=>h z (List.mem_cons_of_mem _ hz)]
  rfl
theorem Qxf {x:Qc}:∀ {a b:List Qc},(∃ y∈a,ltE x y)->Qfq x (a ++ b)=Qfq x a ++ b
 | [],_,h=>by obtain ⟨y,hy,_⟩:=h;cases hy
 | y :: a,b,h=>by
  show (if ltE x y then x :: y :: (a ++ b) else y :: Qfq x (a ++ b))=(if ltE x y then x :: y :: a else y :: Qfq x a) ++ b
  by_cases hl:ltE x y
  ·rw [if_pos hl,if_pos hl];rfl
  rw [if_neg hl,if_neg hl,Qxf (by
   obtain ⟨z,hz,h⟩:=h
   rcases List.mem_cons.1 hz with rfl | hz
   ·exact absurd h hl
   exact ⟨z,hz,h⟩)]
  rfl
theorem Qm0 (x:Qc):∀ S,(Qfq x S).Perm (x :: S)
 | []=>.refl _
 | y :: ys=>by
  unfold Qfq
  split
  ·exact .refl _
  exact ((Qm0 x ys).cons y).trans (.swap x y ys)
theorem Qy4 {x:Qc}:∀ {S:List Qc},S.Pairwise ltE->(∀ y∈S,¬ Qb3 x y)->(Qfq x S).Pairwise ltE
 | [],_,_=>by simp [Qfq]
 | y :: ys,h,ha=>by
  rw [List.pairwise_cons] at h
  unfold Qfq
  split
  ·rename_i hl
   rw [List.pairwise_cons]
   refine ⟨fun z hz=>?_,List.pairwise_cons.2 h⟩
   rcases List.mem_cons.1 hz with rfl | hz
   ·exact hl
   exact We4 hl (h.1 z hz)
  rename_i hl
  rw [List.pairwise_cons]
  refine ⟨fun z hz=>?_,Qy4 h.2 fun z hz=>ha z (List.mem_cons_of_mem _ hz)⟩
  rcases List.mem_cons.1 ((Qm0 x ys).mem_iff.1 hz) with rfl | hz
  ·rcases Qvh (ha y (List.mem_cons_self ..)) with h1 | h1
   ·exact absurd h1 hl
   exact h1
  exact h.1 z hz
theorem Acc.len {D acc:List Qc} (ha:Acc D acc):acc.length<=D.length:=by
 have key:∀ (acc D:List Qc),acc.Pairwise (fun x y=>¬ Qb3 x y)->(∀ x∈acc,x∈D)->acc.length<=D.length:=by
  intro acc
  induction acc with
  | nil=>intro D _ _;simp
  | cons x acc ih=>
   intro D hp hs
   rw [List.pairwise_cons] at hp
   obtain ⟨s,t,rfl⟩:=List.append_of_mem (hs x (List.mem_cons_self ..))
   have:=ih (s ++ t) hp.2 fun y hy=>by
    have:=hs y (List.mem_cons_of_mem _ hy)
    rw [List.mem_append,List.mem_cons] at this
    rcases this with h1 | rfl | h1
    ·exact List.mem_append.2 (.inl h1)
    ·exact absurd ⟨rfl,rfl⟩ (hp.1 y hy)
    exact List.mem_append.2 (.inr h1)
   simp only [List.length_append,List.length_cons] at *
   omega
 exact key acc D ha.apart fun x hx=>(ha.mem x).1 hx
structure Qr9 (D S:List Qc):Prop where
 acc:Acc D S
 up:S.Pairwise ltE
theorem Qr9.ins {D S:List Qc} (h:Qr9 D S) {x:Qc} (hx:∀ y∈S,¬ Qb3 y x):Qr9 (D ++ [x]) (Qfq x S):=by
 have p:=Qm0 x S
 refine ⟨⟨fun z=>?_,(p.pairwise_iff fun h k=>h k.symm).2 (List.pairwise_cons.2 ⟨fun y hy k=>hx y hy k.symm,h.acc.apart⟩)⟩,Qy4 h.up fun y hy k=>hx y hy k.symm⟩
 rw [p.mem_iff,List.mem_cons,List.mem_append,List.mem_singleton,h.acc.mem]
 exact or_comm
theorem Qzi (m:Qu):(trM m).Pairs.length=m.Pairs.length:=by simp [trM]
theorem Qn0 {l:List Qf} (h:Qio l):(∀ c∈l,Qc6 c) ->
  (Wp (Qc4 l)/\Qs (l.map trO)=some ([],3))\/∃ S,Qs (l.map trO)=some (S.map trE,0)/\¬ Wp (Qc4 l)/\Ql2 (Qc4 l) S:=by
 intro Jl
 have hlen:=h.len
 let st:=Qs.step (l.map trO)
 have Qoh:∀ {i:Nat},i < l.length->(l.map trO).getD i Qt.z=trO (l.getD i Qf.z):=fun hi=>Qme trO l hi
 -- one entry
 have one:∀ (i j:Nat) (S:List Qc),i < l.length->j < (l.getD i Qf.z).Log.length->S.length<=1000->(∀ y∈S,y.M.Pairs.length<=20)->∀ (k:Nat) (th pu:Bool) (more:List Qe),k < S.length->more.length<=k+1 ->
   st (.l4 (i:Int) (j:Int) (S.map trE) th pu (k:Int) more)=if Qb3 (S.getD k Qc.z) ((l.getD i Qf.z).Log.getD j Qc.z)/\S.getD k Qc.z≠(l.getD i Qf.z).Log.getD j Qc.z then some (.inr ([],3))
    else some (.inl (.l4 (i:Int) (j:Int) (S.map trE) (th || decide (Qb3 (S.getD k Qc.z) ((l.getD i Qf.z).Log.getD j Qc.z))) (pu || decide (ltE ((l.getD i Qf.z).Log.getD j Qc.z) (S.getD k Qc.z))) ((k+1:Nat):Int)
     ((more ++ if (!pu && decide (ltE ((l.getD i Qf.z).Log.getD j Qc.z) (S.getD k Qc.z)))=true then [trE ((l.getD i Qf.z).Log.getD j Qc.z)] else []) ++ [trE (S.getD k Qc.z)]))):=by
  intro i j S hi hj hS hSp k th pu more hk hm
  have hs1:(0:Int)<=(k:Int)/\(k:Int) < (S.length:Int):=by omega
  have hE:((l.map trO).getD i Qt.z).Log.getD j Qe.z=trE ((l.getD i Qf.z).Log.getD j Qc.z):=by rw [Qoh hi];exact Qje _ hj
  have hop:=hSp _ (Qbf (z:=Qc.z) hk)
  have hSk:(S.map trE).getD k Qe.z=trE (S.getD k Qc.z):=Qje S hk
  have hmax:more.length<=1001:=by omega
  generalize (l.getD i Qf.z).Log.getD j Qc.z=x at hE
  generalize S.getD k Qc.z=o at hSk hop
  have hj7:∀ (th pu:Bool) (more:List Qe),more.length<=1002->Qs.j7 (i:Int) (j:Int) (S.map trE) (k:Int) th pu more=some (.inl (.l4 (i:Int) (j:Int) (S.map trE) th pu ((k+1:Nat):Int) (more ++ [trE o]))):=by
   intro th pu more hm
   simp only [Qs.j7,show (k:Int).toNat=k from rfl,hSk,wr1 hk (by omega:S.length<=9223372036854775807)]
   rw [if_pos (by omega)]
  have hj5:∀ th:Bool,Qs.j5 (l.map trO) (i:Int) (j:Int) (S.map trE) pu (k:Int) more th=some (.inl (.l4 (i:Int) (j:Int) (S.map trE) th (pu || decide (ltE x o)) ((k+1:Nat):Int) ((more ++ if (!pu && decide (ltE x o))=true then [trE x] else []) ++ [trE o]))):=by
   intro th
   simp only [Qs.j5,Qs.j6,show (i:Int).toNat=i from rfl,show (j:Int).toNat=j from rfl,show (k:Int).toNat=k from rfl,hE,hSk]
   rw [show Qgx (trE x)=⟨(stE x).Time,(stE x).Client,(stE x).Seq⟩ from rfl,show Qgx (trE o)=⟨(stE o).Time,(stE o).Client,(stE o).Seq⟩ from rfl]
   cases pu with
   | true=>
    rw [if_pos rfl,if_neg (by simp),hj7 _ _ _ (by omega)]
    simp
   | false=>
    rw [if_neg (by simp)]
    by_cases hl:ltE x o
    ·rw [Qr4 hl,if_pos rfl,if_pos (by omega),hj7 _ _ _ (by simp;omega)]
     simp [hl]
    rw [Qpc hl,if_neg (by simp),hj7 _ _ _ (by omega)]
    simp [hl]
  simp only [st,Qs.step,Qs.l4,List.length_map,hs1.2,if_true,hs1,and_self,show (i:Int).toNat=i from rfl,show (j:Int).toNat=j from rfl,show (k:Int).toNat=k from rfl,hE,hSk]
  rw [show (trE o).M.Client=o.M.Client from rfl,show (trE x).M.Client=x.M.Client from rfl,show (trE o).M.Seq=o.M.Seq from rfl,show (trE x).M.Seq=x.M.Seq from rfl]
  by_cases hw:Qb3 o x
  ·rw [if_pos hw.1,show (o.M.Seq == x.M.Seq)=true by rw [beq_iff_eq];exact hw.2]
   simp only [Qs.j3,if_true,show (i:Int).toNat=i from rfl,show (j:Int).toNat=j from rfl,show (k:Int).toNat=k from rfl,hE,hSk]
   obtain ⟨v,v1,v2⟩:=Qr1 (trE o).M (trE x).M (by rw [show (trE o).M=trM o.M from rfl,Qzi];omega)
   rw [v1,Option.bind_some]
   have v3:v=true↔o.M=x.M:=v2.trans Wja
   rw [show (trE o).Time=o.Time from rfl,show (trE x).Time=x.Time from rfl,show (trE o).Jc=o.Jc from rfl,show (trE x).Jc=x.Jc from rfl]
   have Wgz:Qs.j4 (l.map trO) (i:Int) (j:Int) (S.map trE) pu (k:Int) more true=some (.inr ([],3)):=rfl
   by_cases hv:v=true
   ·rw [if_pos hv]
    by_cases ht:o.Time=x.Time
    ·rw [if_pos ht]
     by_cases hd:o.Jc=x.Jc
     ·rw [if_neg fun hc=>hc.2 (Qif.2 ⟨v3.1 hv,ht,hd⟩),show (!(o.Jc == x.Jc))=false by simp [hd]]
      simp only [Qs.j4,Bool.false_eq_true,if_false]
      rw [hj5,decide_eq_true hw]
      simp
     rw [if_pos ⟨hw,fun hc=>hd (Qif.1 hc).2.2⟩,show (!(o.Jc == x.Jc))=true by rw [Bool.not_eq_true',beq_eq_false_iff_ne];exact hd]
     exact Wgz
    rw [if_neg ht,if_pos ⟨hw,fun hc=>ht (Qif.1 hc).2.1⟩]
    exact Wgz
   rw [if_neg hv,if_pos ⟨hw,fun hc=>hv (v3.2 (Qif.1 hc).1)⟩]
   exact Wgz
  have hfalse:(if o.M.Client=x.M.Client then Qs.j3 (l.map trO) (i:Int) (j:Int) (S.map trE) th pu (k:Int) more (o.M.Seq == x.M.Seq) else Qs.j3 (l.map trO) (i:Int) (j:Int) (S.map trE) th pu (k:Int) more false)=Qs.j3 (l.map trO) (i:Int) (j:Int) (S.map trE) th pu (k:Int) more false:=by
   by_cases hc:o.M.Client=x.M.Client
   ·rw [if_pos hc,show (o.M.Seq == x.M.Seq)=false by rw [beq_eq_false_iff_ne];exact fun hq=>hw ⟨hc,hq⟩]
   rw [if_neg hc]
  rw [hfalse,if_neg fun hc=>hw hc.1]
  simp only [Qs.j3,Bool.false_eq_true,if_false]
  rw [hj5,decide_eq_false hw]
  simp
 -- all that is there
 have scan:∀ (i j:Nat) (S:List Qc),i < l.length->j < (l.getD i Qf.z).Log.length->S.length<=1000->(∀ y∈S,y.M.Pairs.length<=20)->∀ x,x=(l.getD i Qf.z).Log.getD j Qc.z->∀ (m k:Nat),k+m=S.length->(∀ y∈S.take k,Qb3 y x->y=x) ->
   ((∃ y∈S,Qb3 y x/\y≠x)/\Xb st (.l4 (i:Int) (j:Int) (S.map trE) ((S.take k).any fun y=>decide (Qb3 y x)) ((S.take k).any fun y=>decide (ltE x y)) (k:Int) ((if ((S.take k).any fun y=>decide (ltE x y))=true then Qfq x (S.take k) else S.take k).map trE))=some ([],3)) \/
   ((∀ y∈S,Qb3 y x->y=x)/\Xb st (.l4 (i:Int) (j:Int) (S.map trE) ((S.take k).any fun y=>decide (Qb3 y x)) ((S.take k).any fun y=>decide (ltE x y)) (k:Int) ((if ((S.take k).any fun y=>decide (ltE x y))=true then Qfq x (S.take k) else S.take k).map trE)) =
    Xb st (.l3 (i:Int) ((j+1:Nat):Int) ((if (S.any fun y=>decide (Qb3 y x))=true then S else Qfq x S).map trE))):=by
  intro i j S hi hj hS hSp x hx m
  induction m with
  | zero=>
   intro k hk hno
   obtain rfl:k=S.length:=by omega
   rw [Qau (Nat.le_refl _)] at hno ⊢
   right
   refine ⟨hno, ?_⟩
   rw [Zd]
   have hE:((l.map trO).getD i Qt.z).Log.getD j Qe.z=trE x:=by rw [Qoh hi,hx];exact Qje _ hj
   have hj1:∀ (th:Bool) (T:List Qe),Qs.j1 (i:Int) (j:Int) (S.map trE) th T=some (.inl (.l3 (i:Int) ((j+1:Nat):Int) (if th=true then S.map trE else T))):=by
    intro th T
    have hlg:=(h.few _ (Qbf (z:=Qf.z) hi)).log
    simp only [Qs.j1,Qs.j2,wr1 hj (by omega:(l.getD i Qf.z).Log.length<=9223372036854775807)]
    cases th<;>simp
   have hst:st (.l4 (i:Int) (j:Int) (S.map trE) (S.any fun y=>decide (Qb3 y x)) (S.any fun y=>decide (ltE x y)) (S.length:Int) ((if (S.any fun y=>decide (ltE x y))=true then Qfq x S else S).map trE)) =
     some (.inl (.l3 (i:Int) ((j+1:Nat):Int) ((if (S.any fun y=>decide (Qb3 y x))=true then S else Qfq x S).map trE))):=by
    simp only [st,Qs.step,Qs.l4,List.length_map,Int.lt_irrefl,if_false,show (i:Int).toNat=i from rfl,show (j:Int).toNat=j from rfl,hE]
    by_cases hp:(S.any fun y=>decide (ltE x y))=true
    ·rw [if_pos hp,if_pos hp,hj1]
     cases (S.any fun y=>decide (Qb3 y x))<;>rfl
    rw [if_neg hp,if_neg hp,if_pos (by omega),hj1]
    have:Qfq x S=S ++ [x]:=by
     have:=Que (x:=x) (a:=S) (b:=[]) fun y hy hl=>hp (by rw [List.any_eq_true];exact ⟨y,hy,decide_eq_true hl⟩)
     simpa [Qfq] using this
    rw [this]
    cases (S.any fun y=>decide (Qb3 y x))<;>simp
   rw [hst]
   rfl
  | succ m ih=>
   intro k hk hno
   have hk':k < S.length:=by omega
   have hxk:=take_at (l:=S) (z:=Qc.z) hk'
   have hin:=Qbf (z:=Qc.z) hk'
   have hpl:((if ((S.take k).any fun y=>decide (ltE x y))=true then Qfq x (S.take k) else S.take k).map trE).length<=k+1:=by
    rw [List.length_map]
    split
    ·rw [(Qm0 x (S.take k)).length_eq,List.length_cons,List.length_take];omega
    rw [List.length_take];omega
   have e1:=one i j S hi hj hS hSp k ((S.take k).any fun y=>decide (Qb3 y x)) ((S.take k).any fun y=>decide (ltE x y)) _ hk' hpl
   rw [<- hx] at e1
   rw [Zd,e1]
   generalize S.getD k Qc.z=o at hxk hin
   by_cases hc:Qb3 o x/\o≠x
   ·rw [if_pos hc]
    left
    exact ⟨⟨o,hin,hc⟩,rfl⟩
   rw [if_neg hc]
   have hnx:=ih (k+1) (by omega) fun y hy hw=>by
    rw [hxk] at hy
    rcases List.mem_append.1 hy with h1 | h1
    ·exact hno y h1 hw
    simp only [List.mem_singleton] at h1
    subst h1
    exact Classical.byContradiction fun h2=>hc ⟨hw,h2⟩
   have e2:((S.take k).any fun y=>decide (Qb3 y x))=true\/((S.take k).any fun y=>decide (Qb3 y x))=false:=by cases ((S.take k).any fun y=>decide (Qb3 y x))<;>simp
   have a1:((S.take (k+1)).any fun y=>decide (Qb3 y x))=(((S.take k).any fun y=>decide (Qb3 y x)) || decide (Qb3 o x)):=by rw [hxk,List.any_append];simp
   have a2:((S.take (k+1)).any fun y=>decide (ltE x y))=(((S.take k).any fun y=>decide (ltE x y)) || decide (ltE x o)):=by rw [hxk,List.any_append];simp
   have a3:(if ((S.take (k+1)).any fun y=>decide (ltE x y))=true then Qfq x (S.take (k+1)) else S.take (k+1)).map trE =
     ((if ((S.take k).any fun y=>decide (ltE x y))=true then Qfq x (S.take k) else S.take k).map trE ++ if (!((S.take k).any fun y=>decide (ltE x y)) && decide (ltE x o))=true then [trE x] else []) ++ [trE o]:=by
    rw [a2,hxk]
    by_cases hp:((S.take k).any fun y=>decide (ltE x y))=true
    ·obtain ⟨y,hy,hl⟩:=List.any_eq_true.1 hp
     rw [hp,Qxf ⟨y,hy,of_decide_eq_true hl⟩]
     simp
    have hp':((S.take k).any fun y=>decide (ltE x y))=false:=by simpa using hp
    have Qh1:∀ y∈S.take k,¬ ltE x y:=fun y hy hl=>hp (List.any_eq_true.2 ⟨y,hy,decide_eq_true hl⟩)
    rw [hp',Que Qh1]
    by_cases hl:ltE x o
    ·simp [hl,Qfq]
    simp [hl]
   rw [a1,a2,<- a2,a3,a2] at hnx
   exact hnx
 -- one core's log
 have inner:∀ (i:Nat) (D:List Qc),i < l.length->(∀ e∈D ++ (l.getD i Qf.z).Log,e.M.Pairs.length<=20)->D.length+(l.getD i Qf.z).Log.length<=1000->∀ (m j:Nat) (S:List Qc),j+m=(l.getD i Qf.z).Log.length->Qr9 (D ++ (l.getD i Qf.z).Log.take j) S ->
   (Wp (D ++ (l.getD i Qf.z).Log)/\Xb st (.l3 (i:Int) (j:Int) (S.map trE))=some ([],3))\/∃ S',Qr9 (D ++ (l.getD i Qf.z).Log) S'/\Xb st (.l3 (i:Int) (j:Int) (S.map trE))=Xb st (.l2 ((i+1:Nat):Int) (S'.map trE)):=by
  intro i D hi hE hDE m
  have hs1:(0:Int)<=(i:Int)/\(i:Int) < (l.length:Int):=by omega
  have hLg:((l.map trO).getD i Qt.z).Log.length=(l.getD i Qf.z).Log.length:=by rw [Qoh hi];simp [trO]
  induction m with
  | zero=>
   intro j S hj ha
   obtain rfl:j=(l.getD i Qf.z).Log.length:=by omega
   rw [Qau (Nat.le_refl _)] at ha
   right
   refine ⟨S,ha, ?_⟩
   rw [Zd]
   have:st (.l3 (i:Int) ((l.getD i Qf.z).Log.length:Int) (S.map trE))=some (.inl (.l2 ((i+1:Nat):Int) (S.map trE))):=by
    simp only [st,Qs.step,Qs.l3,List.length_map,hs1,and_self,if_true,show (i:Int).toNat=i from rfl,hLg,Int.lt_irrefl,if_false,wr1 hi (by omega:l.length<=9223372036854775807)]
   rw [this]
   rfl
  | succ m ih=>
   intro j S hj ha
   have hj':j < (l.getD i Qf.z).Log.length:=by omega
   have hs2:(0:Int)<=(j:Int)/\(j:Int) < ((l.getD i Qf.z).Log.length:Int):=by omega
   have e1:st (.l3 (i:Int) (j:Int) (S.map trE))=some (.inl (.l4 (i:Int) (j:Int) (S.map trE) false false 0 [])):=by
    simp only [st,Qs.step,Qs.l3,List.length_map,hs1,and_self,if_true,show (i:Int).toNat=i from rfl,hLg,hs2]
   have hal:=ha.acc.len
   have htk:((l.getD i Qf.z).Log.take j).length<=(l.getD i Qf.z).Log.length:=by simp;omega
   rw [List.length_append] at hal
   have hx:=take_at (l:=(l.getD i Qf.z).Log) (z:=Qc.z) hj'
   have hin:=Qbf (z:=Qc.z) hj'
   have hSD:∀ y∈S,y∈D ++ (l.getD i Qf.z).Log:=fun y hy=>by
    rcases List.mem_append.1 ((ha.acc.mem y).1 hy) with h1 | h1
    ·exact List.mem_append.2 (.inl h1)
    exact List.mem_append.2 (.inr (List.mem_of_mem_take h1))
   have hs:=scan i j S hi hj' (by omega) (fun y hy=>hE y (hSD y hy)) _ rfl S.length 0 (by omega) (by simp)
   simp only [List.take_zero,List.any_nil,Bool.false_eq_true,if_false,List.map_nil] at hs
   rw [Zd,e1]
   generalize hxe:(l.getD i Qf.z).Log.getD j Qc.z=x at hx hin hs
   rcases hs with ⟨⟨y,hy,hw,hne⟩,hg⟩ | ⟨Qh1,hg⟩
   ·left
    exact ⟨⟨y,hSD y hy,x,List.mem_append.2 (.inr hin),hw,hne⟩,hg⟩
   have hR:Qr9 (D ++ (l.getD i Qf.z).Log.take (j+1)) (if (S.any fun y=>decide (Qb3 y x))=true then S else Qfq x S):=by
    rw [hx,<- List.append_assoc]
    by_cases Wa7:(S.any fun y=>decide (Qb3 y x))=true
    ·rw [if_pos Wa7]
     obtain ⟨y,hy,hw⟩:=List.any_eq_true.1 Wa7
     have:=Qh1 y hy (of_decide_eq_true hw)
     subst this
     exact ⟨ha.acc.same hy,ha.up⟩
    rw [if_neg Wa7]
    exact ha.ins fun y hy hw=>Wa7 (List.any_eq_true.2 ⟨y,hy,decide_eq_true hw⟩)
   have:=ih (j+1) _ (by omega) hR
   rw [<- hg] at this
   exact this
 have hDp:∀ i,∀ e∈Qc4 (l.take i),e.M.Pairs.length<=20:=fun i e he=>by
  obtain ⟨c,hc,he⟩:=Qf9.1 he
  exact (h.few c (List.mem_of_mem_take hc)).lp e he
 have outer:∀ (m i:Nat) (S:List Qc),i+m=l.length->Qr9 (Qc4 (l.take i)) S ->
   (Wp (Qc4 l)/\Xb st (.l2 (i:Int) (S.map trE))=some ([],3))\/∃ S',Xb st (.l2 (i:Int) (S.map trE))=some (S'.map trE,0)/\¬ Wp (Qc4 l)/\Ql2 (Qc4 l) S':=by
  intro m
  induction m with
  | zero=>
   intro i S hi ha
   obtain rfl:i=l.length:=by omega
   rw [Qau (Nat.le_refl _)] at ha
   right
   refine ⟨S, ?_,ha.acc.Wfa,ha.acc.mem,ha.up⟩
   rw [Zd]
   simp only [st,Qs.step,Qs.l2,List.length_map,Int.lt_irrefl,if_false]
   rfl
  | succ m ih=>
   intro i S hi ha
   have hi':i < l.length:=by omega
   have e1:st (.l2 (i:Int) (S.map trE))=some (.inl (.l3 (i:Int) 0 (S.map trE))):=by
    simp only [st,Qs.step,Qs.l2,List.length_map,show (i:Int) < (l.length:Int) by omega,if_true]
   have hnx:Qc4 (l.take (i+1))=Qc4 (l.take i) ++ (l.getD i Qf.z).Log:=by
    rw [take_at (z:=Qf.z) hi']
    simp [Qc4]
   have hll:=Qol h i (by omega)
   have hlg:=(h.few _ (Qbf (z:=Qf.z) hi')).log
   have:=inner i (Qc4 (l.take i)) hi' (by rw [<- hnx];exact hDp _) (by omega) (l.getD i Qf.z).Log.length 0 S (by omega) (by simpa using ha)
   rw [Zd,e1]
   rcases this with ⟨k1,k2⟩ | ⟨S',k1,k2⟩
   ·left
    refine ⟨k1.mono fun x hx=>?_,k2⟩
    rw [<- hnx] at hx
    obtain ⟨c,hc,hx⟩:=Qf9.1 hx
    exact Qf9.2 ⟨c,List.mem_of_mem_take hc,hx⟩
   rw [<- hnx] at k1
   have:=ih (i+1) S' (by omega) k1
   have e2:stk (some (Sum.inl (Qs.S.l3 (i:Int) 0 (S.map trE)))) (Xb st)=Xb st (.l2 ((i+1:Nat):Int) (S'.map trE)):=k2
   rw [e2]
   exact this
 obtain ⟨_,f1,_⟩:=Weg (step:=st) (n:=l.length) (fun n (_:Unit)=>Qs.S.l1 (n:Int)) (fun _ _=>True) (fun i _ hi _=>by
  have hs1:(0:Int)<=(i:Int)/\(i:Int) < (l.length:Int):=by omega
  have hin:=Qbf (z:=Qf.z) hi
  obtain ⟨r,c1,c2⟩:=Qnz (h.few _ hin)
  refine ⟨(), ?_,trivial⟩
  simp only [st,Qs.step,Qs.l1,List.length_map,hs1.2,if_true,hs1,and_self,show (i:Int).toNat=i from rfl,Qoh hi,wr1 hi (by omega:l.length<=9223372036854775807)]
  rw [c1,Option.bind_some,if_pos (c2.2 (Jl _ hin))]) 0 () (Nat.zero_le _) trivial
 have e0:Qs (l.map trO)=Xb st (.l2 0 []):=by
  unfold Qs
  refine (show Xb (Qs.step (l.map trO)) (.l1 0)=_ from f1).trans ?_
  have:st (.l1 (l.length:Int))=some (.inl (.l2 0 [])):=by simp [st,Qs.step,Qs.l1]
  rw [Zd,this]
  rfl
 rw [e0]
 exact outer l.length 0 [] (by omega) ⟨⟨by simp [Qc4],by simp⟩,by simp⟩
theorem Qv2 {l:List Qf} (h:Qio l) (hb:¬ ∀ c∈l,Qc6 c):Qs (l.map trO)=some ([],1):=by
 have hlen:=h.len
 obtain ⟨r,h1,h2⟩:=Qbb (step:=Qs.step (l.map trO)) (n:=l.length) (fun i (_:Unit)=>Qs.S.l1 (i:Int)) (fun i _=>∀ c∈l.take i,Qc6 c) (fun r=>r=([],1))
  (fun _ hI=>by rw [Qau (Nat.le_refl _)] at hI;exact absurd hI hb) (fun i _ hi hI=>by
  have hs1:(0:Int)<=(i:Int)/\(i:Int) < (l.length:Int):=by omega
  have hin:=Qbf (z:=Qf.z) hi
  have hx:=take_at (l:=l) (z:=Qf.z) hi
  obtain ⟨r,c1,c2⟩:=Qnz (h.few _ hin)
  simp only [Qs.step,Qs.l1,List.length_map,hs1.2,if_true,hs1,and_self,show (i:Int).toNat=i from rfl,Qme trO l (z:=Qf.z) hi,wr1 hi (by omega:l.length<=9223372036854775807)]
  rw [c1,Option.bind_some]
  by_cases hr:r=true
  ·left
   refine ⟨(),by rw [if_pos hr],fun c hc=>?_⟩
   rw [hx] at hc
   rcases List.mem_append.1 hc with h3 | h3
   ·exact hI c h3
   simp only [List.mem_singleton] at h3
   subst h3
   exact c2.1 hr
  right
  exact ⟨_,by rw [if_neg hr],rfl⟩) 0 () (Nat.zero_le _) (by simp)
 unfold Qs
 rw [show ((0:Nat):Int)=0 from rfl] at h1
 rw [h1,h2]
end Go.SyP
