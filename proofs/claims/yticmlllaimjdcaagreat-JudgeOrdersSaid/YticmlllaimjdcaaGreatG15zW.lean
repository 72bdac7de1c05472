/- That the sort's comparison is an order. -/
import Derived.Test.YticmlllaimjdcaaGreatG15zP
import Derived.Test.YticmlllaimjdcaaGreatSyS
namespace Go.SyP
open Go Go.Sy Go.Proofs Go.Sort
theorem Ql0 (x y:Qb):ltOf Ze x y=decide (x.Lo < y.Lo):=by
 unfold ltOf Ze Zt cmp_isNaN_int
 by_cases h1:x.Lo < y.Lo
 ·simp [h1]
 by_cases h2:x.Lo > y.Lo
 ·simp [h1,h2]
 simp [h1,h2]
theorem Qlb:SWO (ltOf Ze) where
 irrefl x:=by rw [Ql0];simp
 trans x y z h1 h2:=by rw [Ql0] at *;simp at *;omega
 ntrans x y z h1 h2:=by rw [Ql0] at *;simp at *;omega
end Go.SyP
