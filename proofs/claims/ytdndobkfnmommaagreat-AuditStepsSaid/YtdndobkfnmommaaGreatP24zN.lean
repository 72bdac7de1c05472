/- What clients issued, what is pending, what they must see. -/
import Derived.Test.YtdndobkfnmommaaGreatP24zL
set_option linter.unusedVariables false
set_option linter.unusedSimpArgs false
namespace Go.SyP
open Go Go.Sy Sets
def Qmk (c:Int) (acc:List Qn) (e:Wn):Bool:=decide (e.Kind=1/\e.Client=c) && (Qkr e && decide (e.M.Seq=(acc.length:Int)+1))
def Qjs (c:Int) (acc:List Qn) (e:Wn):List Qn:=if Qmk c acc e=true then acc ++ [e.M] else acc
def Qfr (c:Int) (l:List Wn):List Qn:=l.foldl (Qjs c) []
theorem Qo3 (c:Int) (l:List Wn) (e:Wn):Qfr c (l ++ [e])=Qjs c (Qfr c l) e:=by simp [Qfr]
theorem Wfz (c:Int) (acc:List Qn) (e:Wn):(Qjs c acc e).length<=acc.length+1:=by
 unfold Qjs
 split<;>simp
theorem Qww (c:Int):∀ (l:List Wn),(Qfr c l).length<=l.length:=by
 intro l
 have key:∀ (l:List Wn) (acc:List Qn),(l.foldl (Qjs c) acc).length<=acc.length+l.length:=by
  intro l
  induction l with
  | nil=>intro acc;simp
  | cons e l ih=>
   intro acc
   have:=ih (Qjs c acc e)
   have:=Wfz c acc e
   simp only [List.foldl_cons,List.length_cons]
   omega
 have:=key l []
 simpa [Qfr] using this
theorem Wfy (c:Int):∀ (l:List Wn),∀ m∈Qfr c l,mOk m=true/\m.Client=c/\∃ e∈l,e.M=m:=by
 intro l
 have key:∀ (l:List Wn) (acc:List Qn),∀ m∈l.foldl (Qjs c) acc,m∈acc\/(mOk m=true/\m.Client=c/\∃ e∈l,e.M=m):=by
  intro l
  induction l with
  | nil=>intro acc m hm;exact .inl hm
  | cons e l ih=>
   intro acc m hm
   rw [List.foldl_cons] at hm
   rcases ih _ m hm with h | ⟨h1,h2,x,h3,h4⟩
   ·unfold Qjs at h
    split at h
    ·rename_i hc
     rcases List.mem_append.1 h with h | h
     ·exact .inl h
     right
     simp at h
     subst h
     unfold Qmk at hc
     simp only [Bool.and_eq_true,decide_eq_true_eq] at hc
     obtain ⟨⟨k1,k2⟩,k3,k4⟩:=hc
     unfold Qkr at k3
     rw [if_pos k1] at k3
     simp only [Bool.and_eq_true,decide_eq_true_eq] at k3
     exact ⟨k3.1,by rw [k3.2.1,k2],e,List.mem_cons_self ..,rfl⟩
    exact .inl h
   exact .inr ⟨h1,h2,x,List.mem_cons_of_mem _ h3,h4⟩
 intro m hm
 rcases key l [] m hm with h | h
 ·simp at h
 exact h
end Go.SyP
namespace Go.SyP
open Go Go.Sy Sets
theorem Wba (a:List Qa) (k:Int) (hn:a.length<=5000) (h:Tb a):Qg1 a k=some (Qvp (look a k)):=by
 unfold Qg1
 obtain ⟨r,h1,h2⟩:=Qjx a (by omega)
 rw [h1,h2.2 h,Option.bind_some,if_pos rfl,get_eq a k hn h.up]
 rfl
end Go.SyP
