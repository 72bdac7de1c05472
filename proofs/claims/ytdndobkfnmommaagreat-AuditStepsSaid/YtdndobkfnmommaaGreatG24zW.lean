/- That the sort's comparison is an order. -/
import Derived.Test.YtdndobkfnmommaaGreatG24zP
import Derived.Test.YtdndobkfnmommaaGreatSyS
namespace Go.SyP
open Go Go.Sy Go.Proofs Go.Sort
theorem Qj5 (x y:Qb):ltOf Yz x y=decide (x.Lo < y.Lo):=by
 unfold ltOf Yz Zj cmp_isNaN_int
 by_cases h1:x.Lo < y.Lo
 ·simp [h1]
 by_cases h2:x.Lo > y.Lo
 ·simp [h1,h2]
 simp [h1,h2]
theorem Qjg:SWO (ltOf Yz) where
 irrefl x:=by rw [Qj5];simp
 trans x y z h1 h2:=by rw [Qj5] at *;simp at *;omega
 ntrans x y z h1 h2:=by rw [Qj5] at *;simp at *;omega
end Go.SyP
