/- What clients issued, what is pending, what they must see. -/
import Derived.Test.YtdndobkfnmommaaGreatP24zL
set_option linter.unusedVariables false
set_option linter.unusedSimpArgs false
namespace Go.SyP
open Go Go.Sy Sets
def Qif (c:Int) (acc:List Ql) (e:Qy):Bool:=decide (e.Kind=1/\e.Client=c) && (Qij e && decide (e.M.Seq=(acc.length:Int)+1))
def Qg5 (c:Int) (acc:List Ql) (e:Qy):List Ql:=if Qif c acc e=true then acc ++ [e.M] else acc
def Qdv (c:Int) (l:List Qy):List Ql:=l.foldl (Qg5 c) []
theorem Qpa (c:Int) (l:List Qy) (e:Qy):Qdv c (l ++ [e])=Qg5 c (Qdv c l) e:=by simp [Qdv]
theorem Wfx (c:Int) (acc:List Ql) (e:Qy):(Qg5 c acc e).length<=acc.length+1:=by
 unfold Qg5
 split<;>simp
theorem Qrq (c:Int):∀ (l:List Qy),(Qdv c l).length<=l.length:=by
 intro l
 have key:∀ (l:List Qy) (acc:List Ql),(l.foldl (Qg5 c) acc).length<=acc.length+l.length:=by
  intro l
  induction l with
  | nil=>intro acc;simp
  | cons e l ih=>
   intro acc
   have:=ih (Qg5 c acc e)
   have:=Wfx c acc e
   simp only [List.foldl_cons,List.length_cons]
   omega
 have:=key l []
 simpa [Qdv] using this
theorem Qwt (c:Int):∀ (l:List Qy),∀ m∈Qdv c l,mOk m=true/\m.Client=c/\∃ e∈l,e.M=m:=by
 intro l
 have key:∀ (l:List Qy) (acc:List Ql),∀ m∈l.foldl (Qg5 c) acc,m∈acc\/(mOk m=true/\m.Client=c/\∃ e∈l,e.M=m):=by
  intro l
  induction l with
  | nil=>intro acc m hm;exact .inl hm
  | cons e l ih=>
   intro acc m hm
   rw [List.foldl_cons] at hm
   rcases ih _ m hm with h | ⟨h1,h2,x,h3,h4⟩
   ·unfold Qg5 at h
    split at h
    ·rename_i hc
     rcases List.mem_append.1 h with h | h
     ·exact .inl h
     right
     simp at h
     subst h
     unfold Qif at hc
     simp only [Bool.and_eq_true,decide_eq_true_eq] at hc
     obtain ⟨⟨k1,k2⟩,k3,k4⟩:=hc
     unfold Qij at k3
     rw [if_pos k1] at k3
     simp only [Bool.and_eq_true,decide_eq_true_eq] at k3
     exact ⟨k3.1,by rw [k3.2.1,k2],e,List.mem_cons_self ..,rfl⟩
    exact .inl h
   exact .inr ⟨h1,h2,x,List.mem_cons_of_mem _ h3,h4⟩
 intro m hm
 rcases key l [] m hm with h | h
 ·simp at h
 exact h
theorem Qvd (l:List Qy) (hf:Qy9 l) (at_ c:Int):Wh (l.map trV) at_ c=some ((Qdv c (l.take at_.toNat)).map trM):=by
 have hl:=hf.len
 unfold Wh
 generalize hn:(l.take at_.toNat).length=n
 have hnl:n<=l.length/\n<=at_.toNat:=by rw [<- hn,List.length_take];omega
 have hn':n=min at_.toNat l.length:=by rw [<- hn,List.length_take]
 have h:=Qhh (step:=Wh.step (l.map trV) at_ c) (l.take at_.toNat) Qy.z (fun i t=>Wh.S.l1 (i:Int) (t.map trM)) (Qg5 c) (fun i t=>t.length<=i) (fun i t hi hlen=>by
  have hi':i < l.length:=by omega
  have hin:((i:Int) < at_):=by omega
  have Ye:(0:Int)<=(i:Int)/\(i:Int) < (l.length:Int):=by omega
  have hp:=hf.prs _ (Qd0 (z:=Qy.z) hi')
  have hg:(l.take at_.toNat).getD i Qy.z=l.getD i Qy.z:=by
   simp [List.getD_eq_getElem?_getD,List.getElem?_take,show i < at_.toNat by omega]
  rw [hg]
  simp only [Wh.step,Wh.l1,if_pos hin,Wh.j1,List.length_map,decide_eq_true Ye.2,decide_true,if_true,Ye,and_self,show (i:Int).toNat=i from rfl,Wee l hi']
  obtain ⟨e,he⟩:∃ e,l.getD i Qy.z=e:=⟨_,rfl⟩
  rw [he] at hp ⊢
  have hw:IntKind.wrap .i64 ((t.length:Int)+1)=(t.length:Int)+1:=by rw [wr (by omega)]
  rw [show (trV e).Kind=e.Kind from rfl,show (trV e).Client=e.Client from rfl,Qvc e (by omega),Option.bind_some,hw,show ((trV e).M).Seq=e.M.Seq from rfl]
  have j2t:Wh.j2 (l.map trV) (i:Int) (t.map trM) false=some (.inl (.l1 ((i+1:Nat):Int) (t.map trM))):=by
   simp only [Wh.j2,Wh.j3,Bool.false_eq_true,if_false,wr1 hi' (by omega:l.length<=9223372036854775807)]
  have hno:Qif c t e=false->Qg5 c t e=t:=fun h=>by unfold Qg5;rw [h];rfl
  by_cases k1:e.Kind=1
  ·by_cases k2:e.Client=c
   ·cases k3:Qij e with
    | false=>
     rw [if_pos k1,if_pos k2,if_neg (by decide),j2t,hno (by simp [Qif,k3])]
     exact ⟨rfl,by omega⟩
    | true=>
     rw [if_pos k1,if_pos k2,if_pos rfl]
     by_cases k4:e.M.Seq=(t.length:Int)+1
     ·have hyes:Qg5 c t e=t ++ [e.M]:=by unfold Qg5;rw [if_pos (by simp [Qif,k1,k2,k3,k4])]
      rw [hyes,show (e.M.Seq == (t.length:Int)+1)=true by simpa using k4]
      simp only [Wh.j2,Wh.j3,if_true,List.length_map]
      rw [if_pos (by omega),show (i:Int).toNat=i from rfl,Wee l hi',wr1 hi' (by omega:l.length<=9223372036854775807)]
      refine ⟨?_,by simp;omega⟩
      rw [he]
      simp [trV]
     rw [show (e.M.Seq == (t.length:Int)+1)=false by simpa using k4,j2t,hno (by simp [Qif,k4])]
     exact ⟨rfl,by omega⟩
   rw [if_pos k1,if_neg k2,j2t,hno (by simp [Qif,k2])]
   exact ⟨rfl,by omega⟩
  rw [if_neg k1,j2t,hno (by simp [Qif,k1])]
  exact ⟨rfl,by omega⟩) [] (by simp)
 have e:=h.1
 simp only [show ((0:Nat):Int)=0 from rfl,List.map_nil] at e
 rw [e,Qau,hn]
 have Qfh:Wh.step (l.map trV) at_ c (.l1 (n:Int) (((l.take at_.toNat).foldl (Qg5 c) []).map trM))=some (.inr (((l.take at_.toNat).foldl (Qg5 c) []).map trM)):=by
  simp only [Wh.step,Wh.l1,Wh.j1,List.length_map]
  by_cases h1:(n:Int) < at_
  ·rw [if_pos h1,decide_eq_false (by omega)]
   rfl
  rw [if_neg h1]
  rfl
 rw [Qfh]
 rfl
end Go.SyP
namespace Go.SyP
open Go Go.Sy Sets
theorem Wba (a:List Qa) (k:Int) (hn:a.length<=5000) (h:Tb a):Qgv a k=some (Qvr (look a k)):=by
 unfold Qgv
 obtain ⟨r,h1,h2⟩:=Qj4 a (by omega)
 rw [h1,h2.2 h,Option.bind_some,if_pos rfl,get_eq a k hn h.up]
 rfl
end Go.SyP
