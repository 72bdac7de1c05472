/- A slice of addresses in a struct of one field, with the objects it leads to, as one row. -/
import Derived.Test.YtdndobkfnmommaaGreatSyObj
set_option linter.unusedVariables false
set_option linter.unusedSimpArgs false
set_option linter.unusedSectionVars false
namespace Go.Sy
structure Wj6 {α:Type} (e:α->List DV) (he:∀ x,NLs (e x)) (ty tq te:TypeId) (I:List Nat->(Nat->α)->Prop) (w:World) (ok:Bool->Nat->Prop) (q:Nat) (b:Option Nat) (l:List Nat) (M:Nat->α):Prop where
 box:∃ sv,sv.oneCell'=true/\w.heap[q]? = some (.cells #[sv] tq (0,0))/\Jy w ok [some q,b] (.own 1 1 0 l.length) sv
 flat:Qbv w ok [] b (.flat false 1 te l.length (vec eA 0 l))
 objs:(arO e he ty l M).rel w ok none
 qn:q ∉ l
 bq:b≠some q
 bn:∀ x,b=some x->x ∉ l
 inv:I l M
section
variable {X:Ctx} {C:Wt} {α:Type} {e:α->List DV} {he:∀ x,NLs (e x)} {ty tq te:TypeId} {I:List Nat->(Nat->α)->Prop} {id:Nat}
variable {f:FuncId} {k:List Item} {Q:Frame->Frame->Wt->Prop} {st st':St}
end
theorem Wey {X:Ctx} {α:Type} (e:α->List DV) (he:∀ x,NLs (e x)) (ty:TypeId) (m:Nat->α) {f:FuncId} {k:List Item} {Q:Frame->Frame->Wt->Prop} {st:St}
  (h:AK X f k Q ⟨st.nt,st.tm,st.rows ++ [.obj (arO e he ty [] m)]⟩):AK X f k Q st:=by
 intro a C hC b cs hb hk
 have Yx:Qbv C.w ((C.Qb7 (.obj (arO e he ty [] m))).ok X) (C.Qb7 (.obj (arO e he ty [] m))).μ none (.obj (arO e he ty [] m)):=⟨.nil,fun _ h=>by cases h⟩
 have hv:=Xt.Qb7 hC.rel Yx
 have ev:=Ev.Qb7 hC.rel (.obj (arO e he ty [] m))
 exact h a (C.Qb7 (.obj (arO e he ty [] m))) (by
  have:=hC.Qdy ev hv
  have e:(C.Qb7 (.obj (arO e he ty [] m))).rows=st.rows ++ [.obj (arO e he ty [] m)]:=by simp only [Wt.Qb7,hC.rows]
  rw [e] at this
  exact this) b cs hb hk
end Go.Sy
