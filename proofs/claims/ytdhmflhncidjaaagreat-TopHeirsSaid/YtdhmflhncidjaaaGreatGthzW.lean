/- That the sorts' comparisons are orders. -/
import Derived.Test.YtdhmflhncidjaaaGreatGthzP
import Derived.Test.YtdhmflhncidjaaaGreatSyM
namespace Go.SyP
open Go Go.Sy Go.Proofs Go.Sort
theorem Qlh (x y:Qb):ltOf Yq x y=decide (x.Lo < y.Lo):=by
 unfold ltOf Yq Yr cmp_isNaN_int
 by_cases h1:x.Lo < y.Lo
 ·simp [h1]
 by_cases h2:x.Lo > y.Lo
 ·simp [h1,h2]
 simp [h1,h2]
theorem Qkl:SWO (ltOf Yq) where
 irrefl x:=by rw [Qlh];simp
 trans x y z h1 h2:=by rw [Qlh] at *;simp at *;omega
 ntrans x y z h1 h2:=by rw [Qlh] at *;simp at *;omega
theorem Qlg (x y:Qa):ltOf Qcy x y=decide (x.Key < y.Key):=by
 unfold ltOf Qcy Yr cmp_isNaN_int
 by_cases h1:x.Key < y.Key
 ·simp [h1]
 by_cases h2:x.Key > y.Key
 ·simp [h1,h2]
 simp [h1,h2]
theorem Qh0:SWO (ltOf Qcy) where
 irrefl x:=by rw [Qlg];simp
 trans x y z h1 h2:=by rw [Qlg] at *;simp at *;omega
 ntrans x y z h1 h2:=by rw [Qlg] at *;simp at *;omega
end Go.SyP
