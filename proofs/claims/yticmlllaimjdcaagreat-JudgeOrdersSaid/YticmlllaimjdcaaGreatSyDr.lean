/- A region whose order is left open, with two operations that turn rows in either order. -/
import Derived.Test.YticmlllaimjdcaaGreatSyM
import Derived.Test.YticmlllaimjdcaaGreatSyO
set_option linter.unusedVariables false
set_option linter.unusedSimpArgs false
namespace Go.Sy
section
variable {X:Ctx} {f:FuncId} {k:List Item} {Q:Frame->Frame->Wt->Prop} {nt m:Nat} {ops:Array Oper} {base:List (Nat × AV)} {Φ:List (Option AV)}
structure Wm9 (E:List Nat) (m:Nat):Prop where
 lt:∀ e∈E,e < m
 nodup:E.Nodup
end
end Go.Sy
