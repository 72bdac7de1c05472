/- Arrays of two, read as data. -/
import Derived.Test.YticmlllaimjdcaaGreatSyM
import Derived.OpenShut
import Derived.Test.YticmlllaimjdcaaGreatSyO
import Derived.Laws.BytesString
import Derived.Lib.AppendStr
import Derived.Deep.AppendSrc
import Derived.Deep.Upon
set_option linter.unusedVariables false
set_option linter.unusedSimpArgs false
namespace Go.Sy
open Go.Deep Go.WideShapes Go.RowKit
end Go.Sy
namespace Go.Sy
section
variable {X:Ctx} {T:Tab} {f:FuncId} {k k':List Item} {Q:Frame->Frame->Wt->Prop} {st st':St}
structure Wm8 (w:World) (xs:List Int) (v:Value):Prop where
 shape:∃ A c,v=.slice A xs.length c/\(A=none->xs=[])/\∀ ad,A=some ad->∀ (j:Nat) n,xs[j]? = some n->w.cell? (ad.add j)=some (.int .u8 n)
inductive Qz4 (rows:List Row) (xs:List Int):AV->Prop
 | d (tg:Bool):Qz4 rows xs (.d (.sl tg xs.length (vec (eI .u8) 0 xs)))
 | own {id e:Nat} {fz:Bool} (h:rows[id]? = some (.flat fz 1 e xs.length (vec (eI .u8) 0 xs))):Qz4 rows xs (.own id 1 0 xs.length)
end
end Go.Sy
