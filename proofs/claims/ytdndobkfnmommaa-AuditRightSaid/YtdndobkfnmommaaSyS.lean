/- Yield, the statement itself, and leaving behind it. -/
import Derived.Test.YtdndobkfnmommaaSyM
import Derived.RangeFuncLeaves
import Derived.Shelf.SlSortCmp.NoneTotal
set_option linter.unusedVariables false
set_option linter.unusedSimpArgs false
namespace Go.Sy

section
variable {X:Ctx}

end
theorem hands_three {rows:List Row} {i j k:Nat} {a b c:Row} (h1:rows[i]? = some (renR (moveTo [i,j,k] rows.length) a)) (h2:rows[j]? = some (renR (moveTo [i,j,k] rows.length) b)) (h3:rows[k]? = some (renR (moveTo [i,j,k] rows.length) c))
  (hn:[i,j,k].Nodup) (l1:a.live=true:=by rfl) (l2:b.live=true:=by rfl) (l3:c.live=true:=by rfl):Hands rows [i,j,k] [a,b,c]:=by
 refine ⟨hn,rfl,fun q id r hq hr=>?_⟩
 match q with
 | 0=>simp at hq hr;subst hq;subst hr;exact ⟨h1,l1⟩
 | 1=>simp at hq hr;subst hq;subst hr;exact ⟨h2,l2⟩
 | 2=>simp at hq hr;subst hq;subst hr;exact ⟨h3,l3⟩
 | q+3=>simp at hq
end Go.Sy
set_option linter.unusedVariables false
set_option linter.unusedSimpArgs false
namespace Go.Sy
open Go.Proofs Go.Shelf Go.Sort Go.Lib

section
variable {X:Ctx} {C:Conf}
structure Grown (w w':World):Prop where
 os:w'.os=w.os
 tape:w'.tape=w.tape
 output:w'.output=w.output∧w.drawn≤w'.drawn
 size:w.heap.size≤w'.heap.size
 old:∀ b,b < w.heap.size→w'.heap[b]? = w.heap[b]?
end

theorem VRs.plain {w:World} {ok:Bool→Nat→Prop}:∀ {cs vs:List Value},VRs w ok (cs.map DV.v) vs→vs=cs
 | [],_,h=>by cases h;rfl
 | c :: cs,_,h=>by
  simp only [List.map_cons] at h
  cases h with
  | cons h1 h hs=>
   cases h with
   | v h=>rw [VRs.plain hs]
theorem VRs.ofPlain {w:World} {ok:Bool→Nat→Prop}:∀ {cs:List Value},(∀ v∈cs,v.oneCell'=true)→VRs w ok (cs.map DV.v) cs
 | [],_=>.nil
 | c :: cs,h=>.cons (h c (List.mem_cons_self ..)) (.v (h c (List.mem_cons_self ..))) (VRs.ofPlain fun v hv=>h v (List.mem_cons_of_mem _ hv))

end Go.Sy
