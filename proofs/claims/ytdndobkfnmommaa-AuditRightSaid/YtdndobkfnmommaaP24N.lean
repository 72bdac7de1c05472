/- What clients issued, what is pending, what they must see. -/
import Derived.Test.YtdndobkfnmommaaP24L
set_option linter.unusedVariables false
set_option linter.unusedSimpArgs false
namespace Go.SyP
open Go Go.Sy Sets

def issC (c:Int) (acc:List api_Mut) (e:api_Event):Bool:=decide (e.Kind=1∧e.Client=c) && (formB e && decide (e.M.Seq=(acc.length:Int)+1))
def issS (c:Int) (acc:List api_Mut) (e:api_Event):List api_Mut:=if issC c acc e=true then acc ++ [e.M] else acc
def issL (c:Int) (l:List api_Event):List api_Mut:=l.foldl (issS c) []
theorem issL_snoc (c:Int) (l:List api_Event) (e:api_Event):issL c (l ++ [e])=issS c (issL c l) e:=by simp [issL]
theorem issS_len (c:Int) (acc:List api_Mut) (e:api_Event):(issS c acc e).length≤acc.length+1:=by
 unfold issS
 split<;>simp
theorem issL_len (c:Int):∀ (l:List api_Event),(issL c l).length≤l.length:=by
 intro l
 have key:∀ (l:List api_Event) (acc:List api_Mut),(l.foldl (issS c) acc).length≤acc.length+l.length:=by
  intro l
  induction l with
  | nil=>intro acc;simp
  | cons e l ih=>
   intro acc
   have:=ih (issS c acc e)
   have:=issS_len c acc e
   simp only [List.foldl_cons,List.length_cons]
   omega
 have:=key l []
 simpa [issL] using this
theorem issL_mem (c:Int):∀ (l:List api_Event),∀ m∈issL c l,mOk m=true∧m.Client=c∧∃ e∈l,e.M=m:=by
 intro l
 have key:∀ (l:List api_Event) (acc:List api_Mut),∀ m∈l.foldl (issS c) acc,m∈acc∨(mOk m=true∧m.Client=c∧∃ e∈l,e.M=m):=by
  intro l
  induction l with
  | nil=>intro acc m hm;exact .inl hm
  | cons e l ih=>
   intro acc m hm
   rw [List.foldl_cons] at hm
   rcases ih _ m hm with h | ⟨h1,h2,x,h3,h4⟩
   ·unfold issS at h
    split at h
    ·rename_i hc
     rcases List.mem_append.1 h with h | h
     ·exact .inl h
     ·right
      simp at h
      subst h
      unfold issC at hc
      simp only [Bool.and_eq_true,decide_eq_true_eq] at hc
      obtain ⟨⟨k1,k2⟩,k3,k4⟩:=hc
      unfold formB at k3
      rw [if_pos k1] at k3
      simp only [Bool.and_eq_true,decide_eq_true_eq] at k3
      exact ⟨k3.1,by rw [k3.2.1,k2],e,List.mem_cons_self ..,rfl⟩
    ·exact .inl h
   ·exact .inr ⟨h1,h2,x,List.mem_cons_of_mem _ h3,h4⟩
 intro m hm
 rcases key l [] m hm with h | h
 ·simp at h
 ·exact h

theorem ref_issued_eq (l:List api_Event) (hf:FewV l) (at_ c:Int):spliceref24_issued (l.map trV) at_ c=some ((issL c (l.take at_.toNat)).map trM):=by
 have hl:=hf.len
 unfold spliceref24_issued
 generalize hn:(l.take at_.toNat).length=n
 have hnl:n≤l.length∧n≤at_.toNat:=by rw [← hn,List.length_take];omega
 have hn':n=min at_.toNat l.length:=by rw [← hn,List.length_take]
 have h:=for_fold (step:=spliceref24_issued.step (l.map trV) at_ c) (l.take at_.toNat) api_Event.z (fun i t=>spliceref24_issued.S.l1 (i:Int) (t.map trM)) (issS c) (fun i t=>t.length≤i) (fun i t hi hlen=>by
  have hi':i < l.length:=by omega
  have hin:((i:Int) < at_):=by omega
  have hstep:(0:Int)≤(i:Int)∧(i:Int) < (l.length:Int):=by omega
  have hp:=hf.prs _ (getD_in (z:=api_Event.z) hi')
  have hg:(l.take at_.toNat).getD i api_Event.z=l.getD i api_Event.z:=by
   simp [List.getD_eq_getElem?_getD,List.getElem?_take,show i < at_.toNat by omega]
  rw [hg]
  simp only [spliceref24_issued.step,spliceref24_issued.l1,if_pos hin,spliceref24_issued.j1,List.length_map,decide_eq_true hstep.2,decide_true,if_true,hstep,and_self,show (i:Int).toNat=i from rfl,trV_at l hi']
  obtain ⟨e,he⟩:∃ e,l.getD i api_Event.z=e:=⟨_,rfl⟩
  rw [he] at hp ⊢
  have hw:IntKind.wrap .i64 ((t.length:Int)+1)=(t.length:Int)+1:=by rw [wr (by omega)]
  rw [show (trV e).Kind=e.Kind from rfl,show (trV e).Client=e.Client from rfl,ref_formed_eq e (by omega),Option.bind_some,hw,show ((trV e).M).Seq=e.M.Seq from rfl]
  have j2t:spliceref24_issued.j2 (l.map trV) (i:Int) (t.map trM) false=some (.inl (.l1 ((i+1:Nat):Int) (t.map trM))):=by
   simp only [spliceref24_issued.j2,spliceref24_issued.j3,Bool.false_eq_true,if_false,wr1 hi' (by omega:l.length≤9223372036854775807)]
  have hno:issC c t e=false→issS c t e=t:=fun h=>by unfold issS;rw [h];rfl
  by_cases k1:e.Kind=1
  ·by_cases k2:e.Client=c
   ·cases k3:formB e with
    | false=>
     rw [if_pos k1,if_pos k2,if_neg (by decide),j2t,hno (by simp [issC,k3])]
     exact ⟨rfl,by omega⟩
    | true=>
     rw [if_pos k1,if_pos k2,if_pos rfl]
     by_cases k4:e.M.Seq=(t.length:Int)+1
     ·have hyes:issS c t e=t ++ [e.M]:=by unfold issS;rw [if_pos (by simp [issC,k1,k2,k3,k4])]
      rw [hyes,show (e.M.Seq == (t.length:Int)+1)=true by simpa using k4]
      simp only [spliceref24_issued.j2,spliceref24_issued.j3,if_true,List.length_map]
      rw [if_pos (by omega),show (i:Int).toNat=i from rfl,trV_at l hi',wr1 hi' (by omega:l.length≤9223372036854775807)]
      refine ⟨?_,by simp;omega⟩
      rw [he]
      simp [trV]
     ·rw [show (e.M.Seq == (t.length:Int)+1)=false by simpa using k4,j2t,hno (by simp [issC,k4])]
      exact ⟨rfl,by omega⟩
   ·rw [if_pos k1,if_neg k2,j2t,hno (by simp [issC,k2])]
    exact ⟨rfl,by omega⟩
  ·rw [if_neg k1,j2t,hno (by simp [issC,k1])]
   exact ⟨rfl,by omega⟩) [] (by simp)
 have e:=h.1
 simp only [show ((0:Nat):Int)=0 from rfl,List.map_nil] at e
 rw [e,loop_eq,hn]
 have hend:spliceref24_issued.step (l.map trV) at_ c (.l1 (n:Int) (((l.take at_.toNat).foldl (issS c) []).map trM))=some (.inr (((l.take at_.toNat).foldl (issS c) []).map trM)):=by
  simp only [spliceref24_issued.step,spliceref24_issued.l1,spliceref24_issued.j1,List.length_map]
  by_cases h1:(n:Int) < at_
  ·rw [if_pos h1,decide_eq_false (by omega)]
   rfl
  ·rw [if_neg h1]
   rfl
 rw [hend]
 rfl
end Go.SyP
set_option linter.unusedVariables false
set_option linter.unusedSimpArgs false
namespace Go.SyP
open Go Go.Sy Sets

theorem Get_eq (a:List api_Pair) (k:Int) (hn:a.length≤5000) (h:Tb a):table_Get a k=some (pairO (look a k)):=by
 unfold table_Get
 obtain ⟨r,h1,h2⟩:=table_Check_eq a (by omega)
 rw [h1,h2.2 h,Option.bind_some,if_pos rfl,get_eq a k hn h.up]
 rfl
end Go.SyP
