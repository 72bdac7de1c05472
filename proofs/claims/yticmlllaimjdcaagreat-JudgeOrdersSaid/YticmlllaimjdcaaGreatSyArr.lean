/- Big arrays: rows of one cell each, and windows into them. -/
import Derived.Test.YticmlllaimjdcaaGreatSyStr2
import Derived.Test.YticmlllaimjdcaaGreatSyDr
set_option linter.unusedVariables false
set_option linter.unusedSimpArgs false
namespace Go.Sy
section
variable {X:Ctx} {T:Tab} {f:FuncId} {k k':List Item} {Q:Frame->Frame->Wt->Prop} {st st':St}
def dv0:DV:=.v (.bool false)
@[reducible] def Wnc {α β:Type} (o:Option α) (a:β) (b:α->β):β:=match o with | none=>a | some t=>b t
def upd {α:Type} (x:Nat->α) (i:Nat) (v:α):Nat->α:=fun j=>if j=i then v else x j
end
end Go.Sy
namespace Go.Sy
section
variable {X:Ctx} {f:FuncId} {k:List Item} {Q:Frame->Frame->Wt->Prop} {st st':St}
end
inductive NsL:List DV->List DV->Prop
 | nil:NsL [] []
 | same {xs ys:List DV} (x:DV) (h:NsL xs ys):NsL (x :: xs) (x :: ys)
 | ns {xs ys:List DV} (t:Bool) (g:Nat->List DV) (h:NsL xs ys):NsL (.v (.slice none 0 0) :: xs) (.sl t 0 g :: ys)
end Go.Sy
