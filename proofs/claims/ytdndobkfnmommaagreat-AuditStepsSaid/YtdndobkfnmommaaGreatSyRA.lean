/- Arrays of two, read as data. -/
import Derived.Test.YtdndobkfnmommaaGreatSyM
import Derived.OpenShut
import Derived.Test.YtdndobkfnmommaaGreatSyO
import Derived.Laws.BytesString
import Derived.Lib.AppendStr
import Derived.Deep.AppendSrc
import Derived.Deep.Upon
set_option linter.unusedVariables false
set_option linter.unusedSimpArgs false
namespace Go.Sy
open Go.Deep Go.WideShapes Go.RowKit
theorem Wh5 {P:Program} {t e:TypeId} {k:Nat} {α β:Type} {enc:α->List DV} {wf:α->Prop} {e':β->List DV} {wf':β->Prop} (hu:P.underlying t=some (.array 2 e)) (hk:P.cellsOf e=k) (hn:P.cellsOf t=2 * k)
  (he:RD P e enc wf) (f:α->α->β) (h1:∀ a b,enc a ++ enc b=e' (f a b)) (h2:∀ a b,wf a->wf b->wf' (f a b)):RD P t e' wf':=by
 intro H en w spare fuel cs x hx
 obtain ⟨xs,m,_,_,hl,hxl,Qdf⟩:=DataW.trod_array hu hx
 have q0:=Qdf 0 (by omega)
 have q1:=Qdf 1 (by omega)
 rw [List.getElem?_eq_getElem (by omega)] at q0 q1
 rw [Nat.zero_mul,List.drop_zero] at q0
 rw [Nat.one_mul] at q1
 obtain ⟨a,a1,a2⟩:=he _ _ _ _ _ _ _ q0
 obtain ⟨b,b1,b2⟩:=he _ _ _ _ _ _ _ q1
 refine ⟨f a b, ?_,h2 _ _ a2 b2⟩
 rw [<- h1]
 have hb:(cs.drop (P.cellsOf e)).take (P.cellsOf e)=cs.drop (P.cellsOf e):=List.take_of_length_le (by rw [List.length_drop];omega)
 rw [hb] at b1
 have:=a1.app b1
 rwa [List.take_append_drop] at this
theorem okWide_arr {P:Program} {w:World} {r:Reach} {base:Nat} {t e:TypeId} {n:Nat} {v:Value} (ht:P.underlying t=some (.array n e)) (h:Value.okWide P w r base t v):∃ cs,v=.agg cs/\cs.size=P.cellsOf t:=by
 simp only [Value.okWide,ht] at h
 obtain ⟨cs,h1,h2,_⟩:=h
 exact ⟨cs,h1,h2⟩
end Go.Sy
namespace Go.Sy
section
variable {X:Ctx} {T:Tab} {f:FuncId} {k k':List Item} {Q:Frame->Frame->Wt->Prop} {st st':St}
structure Wj5 (w:World) (xs:List Int) (v:Value):Prop where
 shape:∃ A c,v=.slice A xs.length c/\(A=none->xs=[])/\∀ ad,A=some ad->∀ (j:Nat) n,xs[j]? = some n->w.cell? (ad.add j)=some (.int .u8 n)
inductive Qx8 (rows:List Row) (xs:List Int):AV->Prop
 | d (tg:Bool):Qx8 rows xs (.d (.sl tg xs.length (vec (eI .u8) 0 xs)))
 | own {id e:Nat} {fz:Bool} (h:rows[id]? = some (.flat fz 1 e xs.length (vec (eI .u8) 0 xs))):Qx8 rows xs (.own id 1 0 xs.length)
end
end Go.Sy
