/- What is wrong with a story: audit's findings are the document's. -/
import Derived.Test.YtdndobkfnmommaaP24O
set_option linter.unusedVariables false
set_option linter.unusedSimpArgs false
namespace Go.SyP
open Go Go.Sy Sets

def marS (c:Int) (mk:Int) (e:api_Event):Int:=if (decide (e.Kind=2∧e.Client=c) && formB e)=true then max mk e.Mark else mk
def marL (c:Int) (l:List api_Event):Int:=l.foldl (marS c) 0
theorem marL_snoc (c:Int) (l:List api_Event) (e:api_Event):marL c (l ++ [e])=marS c (marL c l) e:=by simp [marL]
noncomputable def seeC (order:List api_Entry) (l:List api_Mut) (key mark:Int):api_Cell:=⟨(look (seeT order l mark) key).getD 0,(look (seeT order l mark) key).isSome⟩
noncomputable def whyV (order:List api_Entry) (l:List api_Mut) (mk:Int) (e:api_Event):Int:=
 if formB e=true then
  if e.Kind=1 then (if e.M.Seq=(l.length:Int)+1 then 0 else 2)
  else if e.Mark < mk then 3
  else if (seeC order l e.Key e.Mark).Val=e.Cell.Val∧(seeC order l e.Key e.Mark).Some=e.Cell.Some then 0 else 4
 else 1
def past (l:List api_Event):PT:=fun c=>(issL c l,marL c l)
theorem past_nil:past []=fun _=>([],0):=rfl
theorem past_same {l:List api_Event} {e:api_Event} (h1:∀ c,issC c (issL c l) e=false) (h2:∀ c,marS c (marL c l) e=marL c l):past (l ++ [e])=past l:=by
 funext c
 unfold past
 rw [issL_snoc,marL_snoc,h2]
 unfold issS
 rw [h1]
 rfl
theorem form2 {e:api_Event} (h:formB e=true) (k1:¬ e.Kind=1):e.Kind=2∧0≤e.Mark∧1≤e.Client:=by
 unfold formB at h
 rw [if_neg k1] at h
 by_cases k2:e.Kind=2
 ·rw [if_pos k2] at h
  simp only [Bool.and_eq_true,decide_eq_true_eq] at h
  exact ⟨k2,h.2.1.2.2.2.2,h.2.1.1⟩
 ·rw [if_neg k2] at h;cases h

theorem why_eq (order:List api_Entry) (l:List api_Event) (e:api_Event) (hl:l.length≤29) (hp:e.M.Pairs.length≤10) (hs:SeeOk order (issL e.Client l)):
  audit_why order e (past l)=some (whyV order (issL e.Client l) (marL e.Client l) e,past (l ++ [e])):=by
 have hil:=issL_len e.Client l
 unfold audit_why whyV
 rw [formed_eq e (by omega),Option.bind_some]
 cases hfo:formB e with
 | false=>
  rw [if_neg (by decide),if_neg (by decide),past_same (fun c=>by simp [issC,hfo]) (fun c=>by simp [marS,hfo])]
 | true=>
  rw [if_pos rfl,if_pos rfl]
  have hP:past l e.Client=(issL e.Client l,marL e.Client l):=rfl
  rw [hP]
  have hw:IntKind.wrap .i64 (((issL e.Client l).length:Int)+1)=((issL e.Client l).length:Int)+1:=by rw [wr (by omega)]
  by_cases k1:e.Kind=1
  ·rw [if_pos k1,if_pos k1]
   simp only [hw]
   have hm:∀ c,marS c (marL c l) e=marL c l:=fun c=>by simp [marS,k1]
   by_cases k2:e.M.Seq=((issL e.Client l).length:Int)+1
   ·rw [if_pos k2,if_pos k2,if_pos (by omega),if_pos (by omega)]
    congr 2
    funext c
    unfold past updP
    rw [issL_snoc,marL_snoc,hm]
    by_cases hc:c=e.Client
    ·subst hc
     rw [if_pos rfl]
     unfold issS
     rw [if_pos (by simp [issC,k1,hfo,k2])]
    ·rw [if_neg hc]
     unfold issS
     rw [if_neg (by simp [issC,Ne.symm hc])]
   ·rw [if_neg k2,if_neg k2,past_same (fun c=>by
     by_cases hc:e.Client=c
     ·subst hc;simp [issC,k2]
     ·simp [issC,hc]) hm]
  ·rw [if_neg k1,if_neg k1]
   obtain ⟨f1,f2,f3⟩:=form2 hfo k1
   have hi:∀ c,issC c (issL c l) e=false:=fun c=>by simp [issC,k1]
   by_cases k2:e.Mark < marL e.Client l
   ·rw [if_pos k2,if_pos k2,past_same hi fun c=>by
     unfold marS
     by_cases hc:e.Client=c
     ·subst hc;rw [if_pos (by simp [f1,hfo])];omega
     ·rw [if_neg (by simp [hc])]]
   ·rw [if_neg k2,if_neg k2]
    simp only
    rw [sees_eq hs,Option.bind_some]
    have hpast:updP (past l) e.Client (issL e.Client l,e.Mark)=past (l ++ [e]):=by
     funext c
     have hiss:∀ c,issS c (issL c l) e=issL c l:=fun c=>by unfold issS;rw [hi];rfl
     unfold past updP
     rw [issL_snoc,marL_snoc,hiss]
     by_cases hc:c=e.Client
     ·subst hc
      rw [if_pos rfl]
      unfold marS
      rw [if_pos (by simp [f1,hfo]),show max (marL e.Client l) e.Mark=e.Mark by omega]
     ·rw [if_neg hc]
      unfold marS
      rw [if_neg (by simp [Ne.symm hc])]
    unfold audit_why.j1
    simp only [hP]
    rw [hpast]
    show _=some (if (seeC order (issL e.Client l) e.Key e.Mark).Val=e.Cell.Val∧(seeC order (issL e.Client l) e.Key e.Mark).Some=e.Cell.Some then (0:Int) else 4,_)
    change (if (seeC order (issL e.Client l) e.Key e.Mark).Val=e.Cell.Val then (if (seeC order (issL e.Client l) e.Key e.Mark).Some=true then _ else _) else (if (seeC order (issL e.Client l) e.Key e.Mark).Some=true then _ else _))=_
    generalize seeC order (issL e.Client l) e.Key e.Mark=C
    by_cases h1:C.Val=e.Cell.Val<;>by_cases h2:C.Some=true<;>by_cases h3:e.Cell.Some=true<;>simp [h1,h2,h3]

noncomputable def wAt (order:List api_Entry) (story:List api_Event) (i:Nat):Int:=
 whyV order (issL (story.getD i api_Event.z).Client (story.take i)) (marL (story.getD i api_Event.z).Client (story.take i)) (story.getD i api_Event.z)
noncomputable def findL (order:List api_Entry) (story:List api_Event) (n:Nat):List (Int × Int):=(List.range n).filterMap fun i=>if wAt order story i=0 then none else some ((i:Int),wAt order story i)
theorem findL_succ (order:List api_Entry) (story:List api_Event) (n:Nat):findL order story (n+1)=if wAt order story n=0 then findL order story n else findL order story n ++ [((n:Int),wAt order story n)]:=by
 unfold findL
 rw [List.range_succ,List.filterMap_append]
 by_cases h:wAt order story n=0<;>simp [h]
theorem findL_len (order:List api_Entry) (story:List api_Event) (n:Nat):(findL order story n).length≤n:=by
 unfold findL
 exact Nat.le_trans (List.length_filterMap_le _ _) (by simp)
def fI (x:Int × Int):api_Finding:=⟨x.1,x.2⟩
structure StOk (order:List api_Entry) (story:List api_Event):Prop where
 few:Few order
 len:order.length≤30
 fv:FewV story
theorem StOk.see {order:List api_Entry} {story:List api_Event} (h:StOk order story) (ho:Ord order) (c:Int) (n:Nat):SeeOk order (issL c (story.take n)):=
 ⟨h.few,h.len,ho.ok,fun m hm=>(issL_mem c _ m hm).1,by
  have:=issL_len c (story.take n)
  have:=h.fv.len
  rw [List.length_take] at *
  omega⟩
theorem Check_eq {order:List api_Entry} {story:List api_Event} (h:StOk order story):(Ord order→audit_Check order story=some ((findL order story story.length).map fI,0))∧(¬ Ord order→audit_Check order story=some ([],1)):=by
 obtain ⟨r,h1,_,h3⟩:=Order_same order h.few
 have hl:=h.fv.len
 constructor
 ·intro ho
  unfold audit_Check
  rw [h1,Option.bind_some,if_pos (h3.2 ho)]
  obtain ⟨s,q1,q2⟩:=for_post (step:=audit_Check.step order story) (n:=story.length) (fun i (t:PT × List api_Finding)=>audit_Check.S.l1 (i:Int) t.1 t.2) (fun i t=>t=(past (story.take i),(findL order story i).map fI)) (fun r=>r=((findL order story story.length).map fI,0)) (by
   rintro t rfl
   exact ⟨_,by simp [audit_Check.step,audit_Check.l1],rfl⟩) (by
   rintro i t hi rfl
   left
   have hstep:(0:Int)≤(i:Int)∧(i:Int) < (story.length:Int):=by omega
   have hp:=h.fv.prs _ (getD_in (z:=api_Event.z) hi)
   have hfl:=findL_len order story i
   simp only [audit_Check.step,audit_Check.l1,audit_Check.j1,hstep.2,if_true,hstep,and_self,show (i:Int).toNat=i from rfl,wr1 hi (by omega:story.length≤9223372036854775807)]
   rw [why_eq order (story.take i) (story.getD i api_Event.z) (by rw [List.length_take];omega) hp (h.see ho _ _),Option.bind_some,← take_at hi]
   refine ⟨(past (story.take (i+1)),(findL order story (i+1)).map fI), ?_,rfl⟩
   rw [findL_succ]
   show (if wAt order story i=0 then _ else _)=_
   by_cases hw:wAt order story i=0
   ·rw [if_pos hw,if_pos hw]
   ·rw [if_neg hw,if_neg hw,List.length_map,if_pos (by omega)]
    simp only [List.map_append,List.map_cons,List.map_nil]
    rfl) 0 (fun _=>([],0),[]) (Nat.zero_le _) (by simp [past_nil,findL])
  subst q2
  exact q1
 ·intro ho
  unfold audit_Check
  rw [h1,Option.bind_some,if_neg (fun hr=>ho (h3.1 hr))]

end Go.SyP
