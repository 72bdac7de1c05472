/- Big arrays: rows of one cell each, and windows into them. -/
import Derived.Test.YtdhmflhncidjaaaGreatSyBd
set_option linter.unusedVariables false
set_option linter.unusedSimpArgs false
namespace Go.Sy
section
variable {X:Ctx} {T:Tab} {f:FuncId} {k k':List Item} {Q:Frame->Frame->Qq->Prop} {st st':St}
@[reducible] def Wqp {α β:Type} (o:Option α) (a:β) (b:α->β):β:=match o with | none=>a | some t=>b t
end
end Go.Sy
