/- That the sort's comparison is an order. -/
import Derived.Test.YtdndobkfnmommaaGreatG24zP
import Derived.Test.YtdndobkfnmommaaGreatSyS
namespace Go.SyP
open Go Go.Sy Go.Proofs Go.Sort
theorem Qkb (x y:Qb):ltOf Yr x y=decide (x.Lo < y.Lo):=by
 unfold ltOf Yr Zc cmp_isNaN_int
 by_cases h1:x.Lo < y.Lo
 ·simp [h1]
 by_cases h2:x.Lo > y.Lo
 ·simp [h1,h2]
 simp [h1,h2]
theorem Qjj:SWO (ltOf Yr) where
 irrefl x:=by rw [Qkb];simp
 trans x y z h1 h2:=by rw [Qkb] at *;simp at *;omega
 ntrans x y z h1 h2:=by rw [Qkb] at *;simp at *;omega
end Go.SyP
