/- How many entries above a mark touch a set. -/
import Derived.Test.YtdndobkfnmommaaGreatP24zU
set_option linter.unusedVariables false
set_option linter.unusedSimpArgs false
namespace Go.SyP
open Go Go.Sy Sets
end Go.SyP
namespace Go.SyP
open Go Go.Sy Sets
theorem Wd8 {e:Qd} (hp:e.M.Pairs.length<=5000):Qbr (trE e) (trE e)=some true:=by
 unfold Qbr
 rw [show (trE e).M=trM e.M from rfl,Qvb _ hp,Option.bind_some,if_pos rfl,if_pos rfl]
 simp [Qbr.j1]
theorem Qxh {key:Int}:∀ {l:List Qd} {x:List Wq × List Qa},(l.foldl (stF key) x).1.length<=x.1.length+l.length
 | [],x=>by simp
 | e :: l,x=>by
  have h1:=Qxh (key:=key) (l:=l) (x:=stF key x e)
  have h2:(stF key x e).1.length<=x.1.length+1:=by
   unfold stF
   split<;>simp
  simp only [List.foldl_cons,List.length_cons]
  omega
end Go.SyP
