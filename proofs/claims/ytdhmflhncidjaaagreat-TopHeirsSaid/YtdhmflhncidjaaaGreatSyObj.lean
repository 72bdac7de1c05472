/- Objects of one type, each in a block of its own, known by their addresses: loads and stores through addresses. -/
import Derived.Test.YtdhmflhncidjaaaGreatSyArr
set_option linter.unusedVariables false
set_option linter.unusedSimpArgs false
namespace Go.Sy
abbrev pA (a off:Nat):DV:=.v (.pointer (some ⟨a,off,none⟩))
def eA (a:Nat):List DV:=[pA a 0]
def arO {α:Type} (e:α->List DV) (he:∀ x,NLs (e x)) (ty:TypeId) (dom:List Nat) (m:Nat->α):Qls where
 ext:=fun _ _=>dom
 rel:=fun w ok _=>dom.Nodup/\∀ a∈dom,∃ vs:List Value,w.heap[a]? = some (.cells vs.toArray ty (0,0))/\VRs w ok (e (m a)) vs
 Qc3:=fun _ _=>rfl
 Qgv:=fun h Jj hw _ hx=>⟨h.1,fun a ha=>by
  obtain ⟨vs,h1,h2⟩:=h.2 a ha
  exact ⟨vs,(hx a ha).trans h1,h2.mono Jj hw⟩⟩
 perm:=fun Jj h=>⟨h.1,fun a ha=>by
  obtain ⟨vs,h1,h2⟩:=h.2 a ha
  exact ⟨vs,h1,VRs.perm Jj h2 (he _)⟩⟩
section
variable {X:Ctx} {T:Tab} {f:FuncId} {k k':List Item} {Q:Frame->Frame->Qq->Prop} {st st':St}
section
variable {C:Qq} {α:Type} {e:α->List DV} {he:∀ x,NLs (e x)} {ty:TypeId} {dom:List Nat} {m m':Nat->α} {id a:Nat} {w':World}
structure Wql (X:Ctx) (C:Qq) (id a:Nat) (dom:List Nat) (w':World):Prop where
 mem:a∈dom
 os:w'.os=C.w.os
 tape:w'.tape=C.w.tape
 output:w'.output=C.w.output/\C.w.drawn<=w'.drawn
 size:w'.heap.size=C.w.heap.size
 other:∀ k,k≠a->w'.heap[k]? = C.w.heap[k]?
 shape:∀ cs ty,C.w.heap[a]? = some (.cells cs ty (0,0))->∃ cs',w'.heap[a]? = some (.cells cs' ty (0,0))/\cs'.size=cs.size
end
end
end Go.Sy
set_option linter.unusedSectionVars false
namespace Go.Sy
section
variable {X:Ctx} {T:Tab} {f:FuncId} {k k':List Item} {Q:Frame->Frame->Qq->Prop} {st st':St}
end
theorem Qlb {X:Ctx} {T:Tab} {f:FuncId} {k k':List Item} {Q:Frame->Frame->Qq->Prop} {st st':St} {α:Type} (hT:Qw X.P T) {id kk id2 by':Nat} {t e e2:TypeId} {z:List Value} {dst:Option Tmp} {fz:Bool} (enc:α->List DV) (d:α) (xs:List α) (x:α)
  (e1:Qnd st k=some (id,kk,xs.length,.own id2 kk 0 1,t,dst,k')) (hr:st.rows[id]? = some (.flat false kk e xs.length (vec enc d xs))) (hr2:st.rows[id2]? = some (.flat fz kk e2 1 (fun j=>[enc x].getD j [])))
  (ht:T.Qbn.lookup t=some e) (hi:T.info.lookup e=some (kk,by',z)) (hz:Nat.beq z.length kk=true) (hk:Nat.blt 0 kk=true) (hb:(xs.length+1) * by'<=140737488355328) (Qkx:xs.length+1<=9223372036854775807)
  (Qat:St.put { st with rows:=st.rows.set id .gone ++ [.flat false kk e (xs ++ [x]).length (vec enc d (xs ++ [x]))] } dst (.own st.rows.length kk 0 (xs ++ [x]).length)=some st') (h:AK X f k' Q st'):AK X f k Q st:=
 Qm9 hT (vec enc d (xs ++ [x])) e1 hr (.own hr2) ht hi hz hk (by simp) hb Qkx Wai Wah Qat h
theorem Wlx {X:Ctx} {f:FuncId} {k:List Item} {Q:Frame->Frame->Qq->Prop} {st st':St} (S:List Nat) (e:St.only S st=st') (h:AK X f k Q st'):AK X f k Q st:=Qdh S (e▸h)
end Go.Sy
