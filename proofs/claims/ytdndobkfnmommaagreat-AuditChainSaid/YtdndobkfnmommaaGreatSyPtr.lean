/- A slice of addresses in a struct of one field, with the objects it leads to, as one row. -/
import Derived.Test.YtdndobkfnmommaaGreatSyObj
set_option linter.unusedVariables false
set_option linter.unusedSimpArgs false
set_option linter.unusedSectionVars false
namespace Go.Sy
structure Wj5 {α:Type} (e:α->List DV) (he:∀ x,NLs (e x)) (ty tq te:TypeId) (I:List Nat->(Nat->α)->Prop) (w:World) (ok:Bool->Nat->Prop) (q:Nat) (b:Option Nat) (l:List Nat) (M:Nat->α):Prop where
 box:∃ sv,sv.oneCell'=true/\w.heap[q]? = some (.cells #[sv] tq (0,0))/\Js w ok [some q,b] (.own 1 1 0 l.length) sv
 flat:Qbm w ok [] b (.flat false 1 te l.length (vec eA 0 l))
 objs:(arO e he ty l M).rel w ok none
 qn:q ∉ l
 bq:b≠some q
 bn:∀ x,b=some x->x ∉ l
 inv:I l M
section
variable {X:Ctx} {C:Wp} {α:Type} {e:α->List DV} {he:∀ x,NLs (e x)} {ty tq te:TypeId} {I:List Nat->(Nat->α)->Prop} {id:Nat}
variable {f:FuncId} {k:List Item} {Q:Frame->Frame->Wp->Prop} {st st':St}
end
theorem Wet {X:Ctx} {α:Type} (e:α->List DV) (he:∀ x,NLs (e x)) (ty:TypeId) (m:Nat->α) {f:FuncId} {k:List Item} {Q:Frame->Frame->Wp->Prop} {st:St}
  (h:AK X f k Q ⟨st.nt,st.tm,st.rows ++ [.obj (arO e he ty [] m)]⟩):AK X f k Q st:=by
 intro a C hC b cs hb hk
 have Yo:Qbm C.w ((C.Qby (.obj (arO e he ty [] m))).ok X) (C.Qby (.obj (arO e he ty [] m))).μ none (.obj (arO e he ty [] m)):=⟨.nil,fun _ h=>by cases h⟩
 have hv:=Xp.Qby hC.rel Yo
 have ev:=Ev.Qby hC.rel (.obj (arO e he ty [] m))
 exact h a (C.Qby (.obj (arO e he ty [] m))) (by
  have:=hC.Qdl ev hv
  have e:(C.Qby (.obj (arO e he ty [] m))).rows=st.rows ++ [.obj (arO e he ty [] m)]:=by simp only [Wp.Qby,hC.rows]
  rw [e] at this
  exact this) b cs hb hk
end Go.Sy
