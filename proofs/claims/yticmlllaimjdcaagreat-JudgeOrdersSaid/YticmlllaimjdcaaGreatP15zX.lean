/- The order of cores, as the document has it. -/
import Derived.Test.YticmlllaimjdcaaGreatP15zV
set_option linter.unusedVariables false
set_option linter.unusedSimpArgs false
namespace Go.SyP
open Go Go.Sy Sets
noncomputable instance entDec:DecidableEq Qc:=fun a b=>Classical.propDecidable (a=b)
def Qge (x:Qc):List Qc->List Qc
 | []=>[x]
 | y :: ys=>if ltE x y then x :: y :: ys else y :: Qge x ys
theorem Qvg {x:Qc}:∀ {a b:List Qc},(∀ y∈a,¬ ltE x y)->Qge x (a ++ b)=a ++ Qge x b
 | [],_,_=>rfl
 | y :: a,b,h=>by
  show (if ltE x y then _ else y :: Qge x (a ++ b))=_
  rw [if_neg (h y (List.mem_cons_self ..)),Qvg fun z hz=>h z (List.mem_cons_of_mem _ hz)]
  rfl
theorem Qys {x:Qc}:∀ {a b:List Qc},(∃ y∈a,ltE x y)->Qge x (a ++ b)=Qge x a ++ b
 | [],_,h=>by obtain ⟨y,hy,_⟩:=h;cases hy
 | y :: a,b,h=>by
  show (if ltE x y then x :: y :: (a ++ b) else y :: Qge x (a ++ b))=(if ltE x y then x :: y :: a else y :: Qge x a) ++ b
  by_cases hl:ltE x y
  ·rw [if_pos hl,if_pos hl];rfl
  rw [if_neg hl,if_neg hl,Qys (by
   obtain ⟨z,hz,h⟩:=h
   rcases List.mem_cons.1 hz with rfl | hz
   ·exact absurd h hl
   exact ⟨z,hz,h⟩)]
  rfl
theorem Qny (x:Qc):∀ S,(Qge x S).Perm (x :: S)
 | []=>.refl _
 | y :: ys=>by
  unfold Qge
  split
  ·exact .refl _
  exact ((Qny x ys).cons y).trans (.swap x y ys)
theorem Waj {x:Qc}:∀ {S:List Qc},S.Pairwise ltE->(∀ y∈S,¬ Qcl x y)->(Qge x S).Pairwise ltE
 | [],_,_=>by simp [Qge]
 | y :: ys,h,ha=>by
  rw [List.pairwise_cons] at h
  unfold Qge
  split
  ·rename_i hl
   rw [List.pairwise_cons]
   refine ⟨fun z hz=>?_,List.pairwise_cons.2 h⟩
   rcases List.mem_cons.1 hz with rfl | hz
   ·exact hl
   exact Wgu hl (h.1 z hz)
  rename_i hl
  rw [List.pairwise_cons]
  refine ⟨fun z hz=>?_,Waj h.2 fun z hz=>ha z (List.mem_cons_of_mem _ hz)⟩
  rcases List.mem_cons.1 ((Qny x ys).mem_iff.1 hz) with rfl | hz
  ·rcases Qwm (ha y (List.mem_cons_self ..)) with h1 | h1
   ·exact absurd h1 hl
   exact h1
  exact h.1 z hz
theorem Acc.len {D acc:List Qc} (ha:Acc D acc):acc.length<=D.length:=by
 have key:∀ (acc D:List Qc),acc.Pairwise (fun x y=>¬ Qcl x y)->(∀ x∈acc,x∈D)->acc.length<=D.length:=by
  intro acc
  induction acc with
  | nil=>intro D _ _;simp
  | cons x acc ih=>
   intro D hp hs
   rw [List.pairwise_cons] at hp
   obtain ⟨s,t,rfl⟩:=List.append_of_mem (hs x (List.mem_cons_self ..))
   have:=ih (s ++ t) hp.2 fun y hy=>by
    have:=hs y (List.mem_cons_of_mem _ hy)
    rw [List.mem_append,List.mem_cons] at this
    rcases this with h1 | rfl | h1
    ·exact List.mem_append.2 (.inl h1)
    ·exact absurd ⟨rfl,rfl⟩ (hp.1 y hy)
    exact List.mem_append.2 (.inr h1)
   simp only [List.length_append,List.length_cons] at *
   omega
 exact key acc D ha.apart fun x hx=>(ha.mem x).1 hx
structure Qs7 (D S:List Qc):Prop where
 acc:Acc D S
 up:S.Pairwise ltE
theorem Qs7.ins {D S:List Qc} (h:Qs7 D S) {x:Qc} (hx:∀ y∈S,¬ Qcl y x):Qs7 (D ++ [x]) (Qge x S):=by
 have p:=Qny x S
 refine ⟨⟨fun z=>?_,(p.pairwise_iff fun h k=>h k.symm).2 (List.pairwise_cons.2 ⟨fun y hy k=>hx y hy k.symm,h.acc.apart⟩)⟩,Waj h.up fun y hy k=>hx y hy k.symm⟩
 rw [p.mem_iff,List.mem_cons,List.mem_append,List.mem_singleton,h.acc.mem]
 exact or_comm
theorem Wax (m:We):(trM m).Pairs.length=m.Pairs.length:=by simp [trM]
theorem Qow {l:List Qm} (h:Qlt l):(∀ c∈l,Qds c) ->
  (Wt (Qd6 l)/\Qf (l.map trO)=some ([],3))\/∃ S,Qf (l.map trO)=some (S.map trE,0)/\¬ Wt (Qd6 l)/\Qmz (Qd6 l) S:=by
 intro Jp
 have hlen:=h.len
 let st:=Qf.step (l.map trO)
 have Qpj:∀ {i:Nat},i < l.length->(l.map trO).getD i Ql.z=trO (l.getD i Qm.z):=fun hi=>Qnc trO l hi
 -- one entry
 have one:∀ (i j:Nat) (S:List Qc),i < l.length->j < (l.getD i Qm.z).Log.length->S.length<=1000->(∀ y∈S,y.M.Pairs.length<=20)->∀ (k:Nat) (th pu:Bool) (more:List Qd),k < S.length->more.length<=k+1 ->
   st (.l4 (i:Int) (j:Int) (S.map trE) th pu (k:Int) more)=if Qcl (S.getD k Qc.z) ((l.getD i Qm.z).Log.getD j Qc.z)/\S.getD k Qc.z≠(l.getD i Qm.z).Log.getD j Qc.z then some (.inr ([],3))
    else some (.inl (.l4 (i:Int) (j:Int) (S.map trE) (th || decide (Qcl (S.getD k Qc.z) ((l.getD i Qm.z).Log.getD j Qc.z))) (pu || decide (ltE ((l.getD i Qm.z).Log.getD j Qc.z) (S.getD k Qc.z))) ((k+1:Nat):Int)
     ((more ++ if (!pu && decide (ltE ((l.getD i Qm.z).Log.getD j Qc.z) (S.getD k Qc.z)))=true then [trE ((l.getD i Qm.z).Log.getD j Qc.z)] else []) ++ [trE (S.getD k Qc.z)]))):=by
  intro i j S hi hj hS hSp k th pu more hk hm
  have hs1:(0:Int)<=(k:Int)/\(k:Int) < (S.length:Int):=by omega
  have hE:((l.map trO).getD i Ql.z).Log.getD j Qd.z=trE ((l.getD i Qm.z).Log.getD j Qc.z):=by rw [Qpj hi];exact Qke _ hj
  have hop:=hSp _ (Qbo (z:=Qc.z) hk)
  have hSk:(S.map trE).getD k Qd.z=trE (S.getD k Qc.z):=Qke S hk
  have hmax:more.length<=1001:=by omega
  generalize (l.getD i Qm.z).Log.getD j Qc.z=x at hE
  generalize S.getD k Qc.z=o at hSk hop
  have hj7:∀ (th pu:Bool) (more:List Qd),more.length<=1002->Qf.j7 (i:Int) (j:Int) (S.map trE) (k:Int) th pu more=some (.inl (.l4 (i:Int) (j:Int) (S.map trE) th pu ((k+1:Nat):Int) (more ++ [trE o]))):=by
   intro th pu more hm
   simp only [Qf.j7,show (k:Int).toNat=k from rfl,hSk,wr1 hk (by omega:S.length<=9223372036854775807)]
   rw [if_pos (by omega)]
  have hj5:∀ th:Bool,Qf.j5 (l.map trO) (i:Int) (j:Int) (S.map trE) pu (k:Int) more th=some (.inl (.l4 (i:Int) (j:Int) (S.map trE) th (pu || decide (ltE x o)) ((k+1:Nat):Int) ((more ++ if (!pu && decide (ltE x o))=true then [trE x] else []) ++ [trE o]))):=by
   intro th
   simp only [Qf.j5,Qf.j6,show (i:Int).toNat=i from rfl,show (j:Int).toNat=j from rfl,show (k:Int).toNat=k from rfl,hE,hSk]
   rw [show Qao (trE x)=⟨(stE x).Time,(stE x).Client,(stE x).Seq⟩ from rfl,show Qao (trE o)=⟨(stE o).Time,(stE o).Client,(stE o).Seq⟩ from rfl]
   cases pu with
   | true=>
    rw [if_pos rfl,if_neg (by simp),hj7 _ _ _ (by omega)]
    simp
   | false=>
    rw [if_neg (by simp)]
    by_cases hl:ltE x o
    ·rw [Qs2 hl,if_pos rfl,if_pos (by omega),hj7 _ _ _ (by simp;omega)]
     simp [hl]
    rw [Qqd hl,if_neg (by simp),hj7 _ _ _ (by omega)]
    simp [hl]
  simp only [st,Qf.step,Qf.l4,List.length_map,hs1.2,if_true,hs1,and_self,show (i:Int).toNat=i from rfl,show (j:Int).toNat=j from rfl,show (k:Int).toNat=k from rfl,hE,hSk]
  rw [show (trE o).M.Client=o.M.Client from rfl,show (trE x).M.Client=x.M.Client from rfl,show (trE o).M.Seq=o.M.Seq from rfl,show (trE x).M.Seq=x.M.Seq from rfl]
  by_cases hw:Qcl o x
  ·rw [if_pos hw.1,show (o.M.Seq == x.M.Seq)=true by rw [beq_iff_eq];exact hw.2]
   simp only [Qf.j3,if_true,show (i:Int).toNat=i from rfl,show (j:Int).toNat=j from rfl,show (k:Int).toNat=k from rfl,hE,hSk]
   obtain ⟨v,v1,v2⟩:=Qs0 (trE o).M (trE x).M (by rw [show (trE o).M=trM o.M from rfl,Wax];omega)
   rw [v1,Option.bind_some]
   have v3:v=true↔o.M=x.M:=v2.trans Wky
   rw [show (trE o).Time=o.Time from rfl,show (trE x).Time=x.Time from rfl,show (trE o).Zw=o.Zw from rfl,show (trE x).Zw=x.Zw from rfl]
   have Wiq:Qf.j4 (l.map trO) (i:Int) (j:Int) (S.map trE) pu (k:Int) more true=some (.inr ([],3)):=rfl
   by_cases hv:v=true
   ·rw [if_pos hv]
    by_cases ht:o.Time=x.Time
    ·rw [if_pos ht]
     by_cases hd:o.Zw=x.Zw
     ·rw [if_neg fun hc=>hc.2 (Qjj.2 ⟨v3.1 hv,ht,hd⟩),show (!(o.Zw == x.Zw))=false by simp [hd]]
      simp only [Qf.j4,Bool.false_eq_true,if_false]
      rw [hj5,decide_eq_true hw]
      simp
     rw [if_pos ⟨hw,fun hc=>hd (Qjj.1 hc).2.2⟩,show (!(o.Zw == x.Zw))=true by rw [Bool.not_eq_true',beq_eq_false_iff_ne];exact hd]
     exact Wiq
    rw [if_neg ht,if_pos ⟨hw,fun hc=>ht (Qjj.1 hc).2.1⟩]
    exact Wiq
   rw [if_neg hv,if_pos ⟨hw,fun hc=>hv (v3.2 (Qjj.1 hc).1)⟩]
   exact Wiq
  have hfalse:(if o.M.Client=x.M.Client then Qf.j3 (l.map trO) (i:Int) (j:Int) (S.map trE) th pu (k:Int) more (o.M.Seq == x.M.Seq) else Qf.j3 (l.map trO) (i:Int) (j:Int) (S.map trE) th pu (k:Int) more false)=Qf.j3 (l.map trO) (i:Int) (j:Int) (S.map trE) th pu (k:Int) more false:=by
   by_cases hc:o.M.Client=x.M.Client
   ·rw [if_pos hc,show (o.M.Seq == x.M.Seq)=false by rw [beq_eq_false_iff_ne];exact fun hq=>hw ⟨hc,hq⟩]
   rw [if_neg hc]
  rw [hfalse,if_neg fun hc=>hw hc.1]
  simp only [Qf.j3,Bool.false_eq_true,if_false]
  rw [hj5,decide_eq_false hw]
  simp
 -- all that is there
 have scan:∀ (i j:Nat) (S:List Qc),i < l.length->j < (l.getD i Qm.z).Log.length->S.length<=1000->(∀ y∈S,y.M.Pairs.length<=20)->∀ x,x=(l.getD i Qm.z).Log.getD j Qc.z->∀ (m k:Nat),k+m=S.length->(∀ y∈S.take k,Qcl y x->y=x) ->
   ((∃ y∈S,Qcl y x/\y≠x)/\Xf st (.l4 (i:Int) (j:Int) (S.map trE) ((S.take k).any fun y=>decide (Qcl y x)) ((S.take k).any fun y=>decide (ltE x y)) (k:Int) ((if ((S.take k).any fun y=>decide (ltE x y))=true then Qge x (S.take k) else S.take k).map trE))=some ([],3)) \/
   ((∀ y∈S,Qcl y x->y=x)/\Xf st (.l4 (i:Int) (j:Int) (S.map trE) ((S.take k).any fun y=>decide (Qcl y x)) ((S.take k).any fun y=>decide (ltE x y)) (k:Int) ((if ((S.take k).any fun y=>decide (ltE x y))=true then Qge x (S.take k) else S.take k).map trE)) =
    Xf st (.l3 (i:Int) ((j+1:Nat):Int) ((if (S.any fun y=>decide (Qcl y x))=true then S else Qge x S).map trE))):=by
  intro i j S hi hj hS hSp x hx m
  induction m with
  | zero=>
   intro k hk hno
   obtain rfl:k=S.length:=by omega
   rw [Qa3 (Nat.le_refl _)] at hno ⊢
   right
   refine ⟨hno, ?_⟩
   rw [Zc]
   have hE:((l.map trO).getD i Ql.z).Log.getD j Qd.z=trE x:=by rw [Qpj hi,hx];exact Qke _ hj
   have hj1:∀ (th:Bool) (T:List Qd),Qf.j1 (i:Int) (j:Int) (S.map trE) th T=some (.inl (.l3 (i:Int) ((j+1:Nat):Int) (if th=true then S.map trE else T))):=by
    intro th T
    have hlg:=(h.few _ (Qbo (z:=Qm.z) hi)).log
    simp only [Qf.j1,Qf.j2,wr1 hj (by omega:(l.getD i Qm.z).Log.length<=9223372036854775807)]
    cases th<;>simp
   have hst:st (.l4 (i:Int) (j:Int) (S.map trE) (S.any fun y=>decide (Qcl y x)) (S.any fun y=>decide (ltE x y)) (S.length:Int) ((if (S.any fun y=>decide (ltE x y))=true then Qge x S else S).map trE)) =
     some (.inl (.l3 (i:Int) ((j+1:Nat):Int) ((if (S.any fun y=>decide (Qcl y x))=true then S else Qge x S).map trE))):=by
    simp only [st,Qf.step,Qf.l4,List.length_map,Int.lt_irrefl,if_false,show (i:Int).toNat=i from rfl,show (j:Int).toNat=j from rfl,hE]
    by_cases hp:(S.any fun y=>decide (ltE x y))=true
    ·rw [if_pos hp,if_pos hp,hj1]
     cases (S.any fun y=>decide (Qcl y x))<;>rfl
    rw [if_neg hp,if_neg hp,if_pos (by omega),hj1]
    have:Qge x S=S ++ [x]:=by
     have:=Qvg (x:=x) (a:=S) (b:=[]) fun y hy hl=>hp (by rw [List.any_eq_true];exact ⟨y,hy,decide_eq_true hl⟩)
     simpa [Qge] using this
    rw [this]
    cases (S.any fun y=>decide (Qcl y x))<;>simp
   rw [hst]
   rfl
  | succ m ih=>
   intro k hk hno
   have hk':k < S.length:=by omega
   have hxk:=take_at (l:=S) (z:=Qc.z) hk'
   have hin:=Qbo (z:=Qc.z) hk'
   have hpl:((if ((S.take k).any fun y=>decide (ltE x y))=true then Qge x (S.take k) else S.take k).map trE).length<=k+1:=by
    rw [List.length_map]
    split
    ·rw [(Qny x (S.take k)).length_eq,List.length_cons,List.length_take];omega
    rw [List.length_take];omega
   have e1:=one i j S hi hj hS hSp k ((S.take k).any fun y=>decide (Qcl y x)) ((S.take k).any fun y=>decide (ltE x y)) _ hk' hpl
   rw [<- hx] at e1
   rw [Zc,e1]
   generalize S.getD k Qc.z=o at hxk hin
   by_cases hc:Qcl o x/\o≠x
   ·rw [if_pos hc]
    left
    exact ⟨⟨o,hin,hc⟩,rfl⟩
   rw [if_neg hc]
   have hnx:=ih (k+1) (by omega) fun y hy hw=>by
    rw [hxk] at hy
    rcases List.mem_append.1 hy with h1 | h1
    ·exact hno y h1 hw
    simp only [List.mem_singleton] at h1
    subst h1
    exact Classical.byContradiction fun h2=>hc ⟨hw,h2⟩
   have e2:((S.take k).any fun y=>decide (Qcl y x))=true\/((S.take k).any fun y=>decide (Qcl y x))=false:=by cases ((S.take k).any fun y=>decide (Qcl y x))<;>simp
   have a1:((S.take (k+1)).any fun y=>decide (Qcl y x))=(((S.take k).any fun y=>decide (Qcl y x)) || decide (Qcl o x)):=by rw [hxk,List.any_append];simp
   have a2:((S.take (k+1)).any fun y=>decide (ltE x y))=(((S.take k).any fun y=>decide (ltE x y)) || decide (ltE x o)):=by rw [hxk,List.any_append];simp
   have a3:(if ((S.take (k+1)).any fun y=>decide (ltE x y))=true then Qge x (S.take (k+1)) else S.take (k+1)).map trE =
     ((if ((S.take k).any fun y=>decide (ltE x y))=true then Qge x (S.take k) else S.take k).map trE ++ if (!((S.take k).any fun y=>decide (ltE x y)) && decide (ltE x o))=true then [trE x] else []) ++ [trE o]:=by
    rw [a2,hxk]
    by_cases hp:((S.take k).any fun y=>decide (ltE x y))=true
    ·obtain ⟨y,hy,hl⟩:=List.any_eq_true.1 hp
     rw [hp,Qys ⟨y,hy,of_decide_eq_true hl⟩]
     simp
    have hp':((S.take k).any fun y=>decide (ltE x y))=false:=by simpa using hp
    have Qi2:∀ y∈S.take k,¬ ltE x y:=fun y hy hl=>hp (List.any_eq_true.2 ⟨y,hy,decide_eq_true hl⟩)
    rw [hp',Qvg Qi2]
    by_cases hl:ltE x o
    ·simp [hl,Qge]
    simp [hl]
   rw [a1,a2,<- a2,a3,a2] at hnx
   exact hnx
 -- one core's log
 have inner:∀ (i:Nat) (D:List Qc),i < l.length->(∀ e∈D ++ (l.getD i Qm.z).Log,e.M.Pairs.length<=20)->D.length+(l.getD i Qm.z).Log.length<=1000->∀ (m j:Nat) (S:List Qc),j+m=(l.getD i Qm.z).Log.length->Qs7 (D ++ (l.getD i Qm.z).Log.take j) S ->
   (Wt (D ++ (l.getD i Qm.z).Log)/\Xf st (.l3 (i:Int) (j:Int) (S.map trE))=some ([],3))\/∃ S',Qs7 (D ++ (l.getD i Qm.z).Log) S'/\Xf st (.l3 (i:Int) (j:Int) (S.map trE))=Xf st (.l2 ((i+1:Nat):Int) (S'.map trE)):=by
  intro i D hi hE hDE m
  have hs1:(0:Int)<=(i:Int)/\(i:Int) < (l.length:Int):=by omega
  have hLg:((l.map trO).getD i Ql.z).Log.length=(l.getD i Qm.z).Log.length:=by rw [Qpj hi];simp [trO]
  induction m with
  | zero=>
   intro j S hj ha
   obtain rfl:j=(l.getD i Qm.z).Log.length:=by omega
   rw [Qa3 (Nat.le_refl _)] at ha
   right
   refine ⟨S,ha, ?_⟩
   rw [Zc]
   have:st (.l3 (i:Int) ((l.getD i Qm.z).Log.length:Int) (S.map trE))=some (.inl (.l2 ((i+1:Nat):Int) (S.map trE))):=by
    simp only [st,Qf.step,Qf.l3,List.length_map,hs1,and_self,if_true,show (i:Int).toNat=i from rfl,hLg,Int.lt_irrefl,if_false,wr1 hi (by omega:l.length<=9223372036854775807)]
   rw [this]
   rfl
  | succ m ih=>
   intro j S hj ha
   have hj':j < (l.getD i Qm.z).Log.length:=by omega
   have hs2:(0:Int)<=(j:Int)/\(j:Int) < ((l.getD i Qm.z).Log.length:Int):=by omega
   have e1:st (.l3 (i:Int) (j:Int) (S.map trE))=some (.inl (.l4 (i:Int) (j:Int) (S.map trE) false false 0 [])):=by
    simp only [st,Qf.step,Qf.l3,List.length_map,hs1,and_self,if_true,show (i:Int).toNat=i from rfl,hLg,hs2]
   have hal:=ha.acc.len
   have htk:((l.getD i Qm.z).Log.take j).length<=(l.getD i Qm.z).Log.length:=by simp;omega
   rw [List.length_append] at hal
   have hx:=take_at (l:=(l.getD i Qm.z).Log) (z:=Qc.z) hj'
   have hin:=Qbo (z:=Qc.z) hj'
   have hSD:∀ y∈S,y∈D ++ (l.getD i Qm.z).Log:=fun y hy=>by
    rcases List.mem_append.1 ((ha.acc.mem y).1 hy) with h1 | h1
    ·exact List.mem_append.2 (.inl h1)
    exact List.mem_append.2 (.inr (List.mem_of_mem_take h1))
   have hs:=scan i j S hi hj' (by omega) (fun y hy=>hE y (hSD y hy)) _ rfl S.length 0 (by omega) (by simp)
   simp only [List.take_zero,List.any_nil,Bool.false_eq_true,if_false,List.map_nil] at hs
   rw [Zc,e1]
   generalize hxe:(l.getD i Qm.z).Log.getD j Qc.z=x at hx hin hs
   rcases hs with ⟨⟨y,hy,hw,hne⟩,hg⟩ | ⟨Qi2,hg⟩
   ·left
    exact ⟨⟨y,hSD y hy,x,List.mem_append.2 (.inr hin),hw,hne⟩,hg⟩
   have hR:Qs7 (D ++ (l.getD i Qm.z).Log.take (j+1)) (if (S.any fun y=>decide (Qcl y x))=true then S else Qge x S):=by
    rw [hx,<- List.append_assoc]
    by_cases Wcq:(S.any fun y=>decide (Qcl y x))=true
    ·rw [if_pos Wcq]
     obtain ⟨y,hy,hw⟩:=List.any_eq_true.1 Wcq
     have:=Qi2 y hy (of_decide_eq_true hw)
     subst this
     exact ⟨ha.acc.same hy,ha.up⟩
    rw [if_neg Wcq]
    exact ha.ins fun y hy hw=>Wcq (List.any_eq_true.2 ⟨y,hy,decide_eq_true hw⟩)
   have:=ih (j+1) _ (by omega) hR
   rw [<- hg] at this
   exact this
 have hDp:∀ i,∀ e∈Qd6 (l.take i),e.M.Pairs.length<=20:=fun i e he=>by
  obtain ⟨c,hc,he⟩:=Qig.1 he
  exact (h.few c (List.mem_of_mem_take hc)).lp e he
 have outer:∀ (m i:Nat) (S:List Qc),i+m=l.length->Qs7 (Qd6 (l.take i)) S ->
   (Wt (Qd6 l)/\Xf st (.l2 (i:Int) (S.map trE))=some ([],3))\/∃ S',Xf st (.l2 (i:Int) (S.map trE))=some (S'.map trE,0)/\¬ Wt (Qd6 l)/\Qmz (Qd6 l) S':=by
  intro m
  induction m with
  | zero=>
   intro i S hi ha
   obtain rfl:i=l.length:=by omega
   rw [Qa3 (Nat.le_refl _)] at ha
   right
   refine ⟨S, ?_,ha.acc.Wg0,ha.acc.mem,ha.up⟩
   rw [Zc]
   simp only [st,Qf.step,Qf.l2,List.length_map,Int.lt_irrefl,if_false]
   rfl
  | succ m ih=>
   intro i S hi ha
   have hi':i < l.length:=by omega
   have e1:st (.l2 (i:Int) (S.map trE))=some (.inl (.l3 (i:Int) 0 (S.map trE))):=by
    simp only [st,Qf.step,Qf.l2,List.length_map,show (i:Int) < (l.length:Int) by omega,if_true]
   have hnx:Qd6 (l.take (i+1))=Qd6 (l.take i) ++ (l.getD i Qm.z).Log:=by
    rw [take_at (z:=Qm.z) hi']
    simp [Qd6]
   have hll:=Qpn h i (by omega)
   have hlg:=(h.few _ (Qbo (z:=Qm.z) hi')).log
   have:=inner i (Qd6 (l.take i)) hi' (by rw [<- hnx];exact hDp _) (by omega) (l.getD i Qm.z).Log.length 0 S (by omega) (by simpa using ha)
   rw [Zc,e1]
   rcases this with ⟨k1,k2⟩ | ⟨S',k1,k2⟩
   ·left
    refine ⟨k1.mono fun x hx=>?_,k2⟩
    rw [<- hnx] at hx
    obtain ⟨c,hc,hx⟩:=Qig.1 hx
    exact Qig.2 ⟨c,List.mem_of_mem_take hc,hx⟩
   rw [<- hnx] at k1
   have:=ih (i+1) S' (by omega) k1
   have e2:stk (some (Sum.inl (Qf.S.l3 (i:Int) 0 (S.map trE)))) (Xf st)=Xf st (.l2 ((i+1:Nat):Int) (S'.map trE)):=k2
   rw [e2]
   exact this
 obtain ⟨_,f1,_⟩:=Wf4 (step:=st) (n:=l.length) (fun n (_:Unit)=>Qf.S.l1 (n:Int)) (fun _ _=>True) (fun i _ hi _=>by
  have hs1:(0:Int)<=(i:Int)/\(i:Int) < (l.length:Int):=by omega
  have hin:=Qbo (z:=Qm.z) hi
  obtain ⟨r,c1,c2⟩:=Qov (h.few _ hin)
  refine ⟨(), ?_,trivial⟩
  simp only [st,Qf.step,Qf.l1,List.length_map,hs1.2,if_true,hs1,and_self,show (i:Int).toNat=i from rfl,Qpj hi,wr1 hi (by omega:l.length<=9223372036854775807)]
  rw [c1,Option.bind_some,if_pos (c2.2 (Jp _ hin))]) 0 () (Nat.zero_le _) trivial
 have e0:Qf (l.map trO)=Xf st (.l2 0 []):=by
  unfold Qf
  refine (show Xf (Qf.step (l.map trO)) (.l1 0)=_ from f1).trans ?_
  have:st (.l1 (l.length:Int))=some (.inl (.l2 0 [])):=by simp [st,Qf.step,Qf.l1]
  rw [Zc,this]
  rfl
 rw [e0]
 exact outer l.length 0 [] (by omega) ⟨⟨by simp [Qd6],by simp⟩,by simp⟩
theorem Qw6 {l:List Qm} (h:Qlt l) (hb:¬ ∀ c∈l,Qds c):Qf (l.map trO)=some ([],1):=by
 have hlen:=h.len
 obtain ⟨r,h1,h2⟩:=Qbi (step:=Qf.step (l.map trO)) (n:=l.length) (fun i (_:Unit)=>Qf.S.l1 (i:Int)) (fun i _=>∀ c∈l.take i,Qds c) (fun r=>r=([],1))
  (fun _ hI=>by rw [Qa3 (Nat.le_refl _)] at hI;exact absurd hI hb) (fun i _ hi hI=>by
  have hs1:(0:Int)<=(i:Int)/\(i:Int) < (l.length:Int):=by omega
  have hin:=Qbo (z:=Qm.z) hi
  have hx:=take_at (l:=l) (z:=Qm.z) hi
  obtain ⟨r,c1,c2⟩:=Qov (h.few _ hin)
  simp only [Qf.step,Qf.l1,List.length_map,hs1.2,if_true,hs1,and_self,show (i:Int).toNat=i from rfl,Qnc trO l (z:=Qm.z) hi,wr1 hi (by omega:l.length<=9223372036854775807)]
  rw [c1,Option.bind_some]
  by_cases hr:r=true
  ·left
   refine ⟨(),by rw [if_pos hr],fun c hc=>?_⟩
   rw [hx] at hc
   rcases List.mem_append.1 hc with h3 | h3
   ·exact hI c h3
   simp only [List.mem_singleton] at h3
   subst h3
   exact c2.1 hr
  right
  exact ⟨_,by rw [if_neg hr],rfl⟩) 0 () (Nat.zero_le _) (by simp)
 unfold Qf
 rw [show ((0:Nat):Int)=0 from rfl] at h1
 rw [h1,h2]
end Go.SyP
