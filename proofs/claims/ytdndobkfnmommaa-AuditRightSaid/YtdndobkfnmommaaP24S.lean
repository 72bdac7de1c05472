/- Laws of audit: the page's example, pendings, checks. -/
import Derived.Test.YtdndobkfnmommaaP24P
set_option linter.unusedVariables false
set_option linter.unusedSimpArgs false
namespace Go.SyP
open Go Go.Sy Sets

abbrev m0:api_Mut:=⟨1,1,1,[⟨5,7⟩],⟨0,0⟩,0⟩
abbrev ord0:List api_Entry:=[⟨m0,3,true⟩]
abbrev ev0:api_Event:=⟨1,1,m0,0,⟨0,false⟩,0⟩
abbrev ev1:api_Event:=⟨2,1,⟨0,0,0,[],⟨0,0⟩,0⟩,5,⟨7,true⟩,0⟩
abbrev ev2 (v:Int):api_Event:=⟨2,1,⟨0,0,0,[],⟨0,0⟩,0⟩,5,⟨v,true⟩,4⟩
abbrev sto (v:Int):List api_Event:=[ev0,ev1,ev2 v]

theorem ap0:(apD allS [] m0).1=[⟨5,7⟩]:=by
 rw [apD_is (r:=([⟨5,7⟩],true)) (by decide) (by decide) Tb.nil (by decide) allS_ok ⟨fun _=>⟨by simp [Up],fun j=>by
  unfold stepK touB cellO
  by_cases hj:j=5
  ·subst hj
   rw [show allS=[⟨0,4096⟩] from rfl,hasB_one (by decide)]
   simp [look]
  ·simp [look,if_neg (show ¬ (5:Int)=j from fun e=>hj e.symm)]⟩,fun h=>by cases h⟩]
theorem few0 (v:Int):StOk ord0 (sto v):=⟨⟨by decide,fun e he=>by simp at he;subst he;decide⟩,by decide,⟨by simp,fun e he=>by simp at he;rcases he with rfl | rfl | rfl<;>simp⟩⟩
theorem ordOk0:Ord ord0:=fun i hi=>by
 have:i=0:=by simp at hi;exact hi
 subst this
 exact ⟨by decide,fun h=>absurd h (by decide)⟩
theorem see0 (mark:Int) (h:mark=0∨mark=4):seeT ord0 [m0] mark=[⟨5,7⟩]:=by
 rcases h with rfl | rfl
 ·rw [show seeT ord0 [m0] 0=(apD allS [] m0).1 from rfl]
  exact ap0
 ·rw [show seeT ord0 [m0] 4=(apD allS [] m0).1 from rfl]
  exact ap0
theorem w0 (v:Int):wAt ord0 (sto v) 0=0:=rfl
theorem w1 (v:Int):wAt ord0 (sto v) 1=0:=by
 show whyV ord0 [m0] 0 ev1=0
 unfold whyV
 rw [if_pos (by decide),if_neg (by decide),if_neg (by decide)]
 unfold seeC
 rw [see0 0 (.inl rfl)]
 rfl
theorem w2 (v:Int) (hv:v=7∨v=8):wAt ord0 (sto v) 2=if v=7 then 0 else 4:=by
 show whyV ord0 [m0] 0 (ev2 v)=_
 unfold whyV
 rw [if_pos (by rcases hv with rfl | rfl<;>decide),if_neg (by show ¬ (2:Int)=1;decide),if_neg (by show ¬ (4:Int) < 0;decide)]
 unfold seeC
 rw [see0 4 (.inr rfl)]
 rcases hv with rfl | rfl<;>rfl
theorem find0:findL ord0 (sto 7) 3=[]:=by
 rw [findL_succ,w2 7 (.inl rfl),if_pos rfl,findL_succ,w1,if_pos rfl,findL_succ,w0,if_pos rfl]
 rfl
theorem find1:findL ord0 (sto 8) 3=[(2,4)]:=by
 rw [findL_succ,w2 8 (.inr rfl),if_neg (by decide),findL_succ,w1,if_pos rfl,findL_succ,w0,if_pos rfl]
 rfl
theorem awake24:splicelaw24_awake=some true:=by
 have hA:audit_Check ord0 (sto 7)=some ([],0):=by
  rw [(Check_eq (few0 7)).1 ordOk0,show (sto 7).length=3 from rfl,find0]
  rfl
 have hB:audit_Check ord0 (sto 8)=some ([⟨2,4⟩],0):=by
  rw [(Check_eq (few0 8)).1 ordOk0,show (sto 8).length=3 from rfl,find1]
  rfl
 unfold splicelaw24_awake
 rw [hA,Option.bind_some,if_pos (by decide)]
 refine (congrArg (fun o=>Option.bind o _) (show _=some ([(⟨2,4⟩:api_Finding)],(0:Int)) from hB)).trans ?_
 rfl
theorem out24:((splicelaw24_awake).bind fun v=>some v)=some true:=by rw [awake24];rfl

theorem for_postG {σ ρ α:Type} {step:σ→Option (σ ⊕ ρ)} {n:Nat} (st:Nat→α→σ) (I:Nat→α→Prop) (P:ρ→Prop)
  (hend:∀ x,I n x→∃ r,goLoop step (st n x)=some r∧P r)
  (hstep:∀ i x,i < n→I i x→(∃ y,step (st i x)=some (.inl (st (i+1) y))∧I (i+1) y)∨∃ r,step (st i x)=some (.inr r)∧P r):
  ∀ i x,i≤n→I i x→∃ r,goLoop step (st i x)=some r∧P r:=by
 have key:∀ m i x,i+m=n→I i x→∃ r,goLoop step (st i x)=some r∧P r:=by
  intro m
  induction m with
  | zero=>
   intro i x hi hI
   obtain rfl:i=n:=by omega
   exact hend x hI
  | succ m ih=>
   intro i x hi hI
   rcases hstep i x (by omega) hI with ⟨y,h1,h2⟩ | ⟨r,h1,h2⟩
   ·obtain ⟨r,h3,h4⟩:=ih (i+1) y (by omega) h2
    exact ⟨r,by rw [loop_eq,h1];exact h3,h4⟩
   ·exact ⟨r,by rw [loop_eq,h1];rfl,h2⟩
 exact fun i x h=>key (n - i) i x (by omega)

theorem few24 (order:List api_Entry) (story:List api_Event):∃ r,splicelaw24_few order story=some r∧(r=true→StOk order story):=by
 unfold splicelaw24_few
 have second:order.length≤30→(∀ e∈order,e.M.Pairs.length≤10)→∃ r,goLoop (splicelaw24_few.step order story) (.l2 0)=some r∧(r=true→StOk order story):=by
  intro ho hp
  refine for_post (step:=splicelaw24_few.step order story) (n:=story.length) (fun i (_:Unit)=>splicelaw24_few.S.l2 (i:Int)) (fun i _=>i≤30∧∀ e∈story.take i,e.M.Pairs.length≤10) _ ?_ ?_ 0 () (Nat.zero_le _) (by simp)
  ·rintro _ ⟨h1,h2⟩
   rw [take_all (Nat.le_refl _)] at h2
   exact ⟨true,by simp [splicelaw24_few.step,splicelaw24_few.l2],fun _=>⟨⟨by omega,fun e he=>by have:=hp e he;omega⟩,ho,⟨h1,h2⟩⟩⟩
  ·rintro i _ hi ⟨h1,h2⟩
   have hstep:(0:Int)≤(i:Int)∧(i:Int) < (story.length:Int):=by omega
   have hx:=take_at (l:=story) (z:=api_Event.z) hi
   have hw:IntKind.wrap .i64 ((i:Int)+1)=((i+1:Nat):Int):=by rw [wr (by omega)];omega
   simp only [splicelaw24_few.step,splicelaw24_few.l2,splicelaw24_few.j2,hstep.2,if_true,hstep,and_self,show (i:Int).toNat=i from rfl,hw]
   by_cases h60:(i:Int)≥30
   ·right
    exact ⟨false,by rw [if_pos h60],by simp⟩
   ·rw [if_neg h60]
    by_cases h20:((story.getD i api_Event.z).M.Pairs.length:Int) > 10
    ·right
     exact ⟨false,by rw [decide_eq_true h20];rfl,by simp⟩
    ·left
     refine ⟨(),by rw [decide_eq_false h20];rfl,by omega,fun e he=>?_⟩
     rw [hx] at he
     rcases List.mem_append.1 he with h | h
     ·exact h2 e h
     ·simp only [List.mem_singleton] at h
      subst h
      omega
 refine for_postG (step:=splicelaw24_few.step order story) (n:=order.length) (fun i (_:Unit)=>splicelaw24_few.S.l1 (i:Int)) (fun i _=>i≤30∧∀ e∈order.take i,e.M.Pairs.length≤10) _ ?_ ?_ 0 () (Nat.zero_le _) (by simp)
 ·rintro _ ⟨h1,h2⟩
  rw [take_all (Nat.le_refl _)] at h2
  have e1:splicelaw24_few.step order story (.l1 (order.length:Int))=some (.inl (.l2 0)):=by simp [splicelaw24_few.step,splicelaw24_few.l1]
  rw [loop_eq,e1]
  exact second h1 h2
 ·rintro i _ hi ⟨h1,h2⟩
  have hstep:(0:Int)≤(i:Int)∧(i:Int) < (order.length:Int):=by omega
  have hx:=take_at (l:=order) (z:=api_Entry.z) hi
  have hw:IntKind.wrap .i64 ((i:Int)+1)=((i+1:Nat):Int):=by rw [wr (by omega)];omega
  simp only [splicelaw24_few.step,splicelaw24_few.l1,splicelaw24_few.j1,hstep.2,if_true,hstep,and_self,show (i:Int).toNat=i from rfl,hw]
  by_cases h60:(i:Int)≥30
  ·right
   exact ⟨false,by rw [if_pos h60],by simp⟩
  ·rw [if_neg h60]
   by_cases h20:((order.getD i api_Entry.z).M.Pairs.length:Int) > 10
   ·right
    exact ⟨false,by rw [decide_eq_true h20];rfl,by simp⟩
   ·left
    refine ⟨(),by rw [decide_eq_false h20];rfl,by omega,fun e he=>?_⟩
    rw [hx] at he
    rcases List.mem_append.1 he with h | h
    ·exact h2 e h
    ·simp only [List.mem_singleton] at h
     subst h
     omega

end Go.SyP
