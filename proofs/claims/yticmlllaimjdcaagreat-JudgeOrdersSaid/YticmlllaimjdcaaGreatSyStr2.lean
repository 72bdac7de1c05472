/- A string's bytes, appended. -/
import Derived.Test.YticmlllaimjdcaaGreatSyRA
import Derived.Test.YticmlllaimjdcaaGreatSyO
import Derived.Test.YticmlllaimjdcaaGreatSyX
import Derived.Lib.Builder
import Derived.Shelf.Strings.Builder1
set_option linter.unusedVariables false
set_option linter.unusedSimpArgs false
namespace Go.Sy
section
variable {X:Ctx} {C:Wt} {T:Tab}
end
section
variable {X:Ctx} {T:Tab} {f:FuncId} {k k':List Item} {Q:Frame->Frame->Wt->Prop} {st st':St}
end
end Go.Sy
namespace Go.Sy
theorem Wea {X:Ctx} {f g:FuncId} {k k':List Item} {Q:Frame->Frame->Wt->Prop} {st st':St} {P:Program} {Zk args:List AV} {dst:Option Tmp} (ids:List Nat) {Yn Wv:List Row} {ret:AV} (hP:X.P=P) (he:Enters P g) (hs:Xz P g Yn args Wv ret)
  (e:Qhx st k=some (g,Zk,dst,k')) (hh:Qci st.rows ids Yn) (hp:Qgv st.rows ids (Qa2 ids st.rows.length) Zk args)
  (Qcs:St.put { st with rows:=Qcn st.rows ids Wv } dst (Qdm (Qa2 ids st.rows.length) ret)=some st') (h:AK X f k' Q st'):AK X f k Q st:=by
 subst hP
 exact Qol ids e he hh hp hs Qcs h
structure Aft (g:Option Nat) (w w':World):Prop where
 os:w'.os=w.os
 tape:w'.tape=w.tape
 output:w'.output=w.output
 drawn:w.drawn<=w'.drawn
 size:w.heap.size<=w'.heap.size
 block:∀ k,k < w.heap.size->g≠some k->w'.heap[k]? = w.heap[k]?
structure Wm7 (P:Program) (f:FuncId) (T E:TypeId):Prop where
 full:∀ (b g cap:Nat) (p:Value) (cur:Array Value) (l:List UInt8) (w:World),l≠[]->l.length<=cap->cap<=maxLen->cur.size=cap->w.heap[b]? = some (.cells #[p,.slice (some ⟨g,0,none⟩) l.length cap] T (0,0)) ->
  w.heap[g]? = some (.cells cur E (0,0))->(∀ (j:Nat) x,l[j]? = some x->cur[j]? = some (.int .u8 x.toNat))->Calls P f #[.pointer (some ⟨b,0,none⟩)] w fun e w'=>e=.returned (.string ⟨l.toArray⟩)/\w'=w.drew.freeze ⟨g,0,none⟩ l.length
 empty:∀ (b:Nat) (p:Value) (w:World),w.heap[b]? = some (.cells #[p,.slice none 0 0] T (0,0))->Calls P f #[.pointer (some ⟨b,0,none⟩)] w fun e w'=>e=.returned (.string ⟨#[]⟩)/\w'=w.drew
 room:∀ (b g cap:Nat) (p:Value) (w:World),cap≠0->w.heap[b]? = some (.cells #[p,.slice (some ⟨g,0,none⟩) 0 cap] T (0,0))->Calls P f #[.pointer (some ⟨b,0,none⟩)] w fun e w'=>e=.returned (.string ⟨#[]⟩)/\w'=w.drew
 noroom:∀ (b g:Nat) (p:Value) (cur:Array Value) (w:World),w.heap[b]? = some (.cells #[p,.slice (some ⟨g,0,none⟩) 0 0] T (0,0))->w.heap[g]? = some (.cells cur E (0,0)) ->
  Calls P f #[.pointer (some ⟨b,0,none⟩)] w fun e w'=>e=.returned (.string ⟨#[]⟩)/\w'=w.drew.alloc (.view ⟨g,0,none⟩ E)
structure Wm5 (P:Program) (f:FuncId) (T:TypeId):Prop where
 used:∀ (b:Nat) (w:World),w.cell? ⟨b,0,none⟩=some (.pointer (some ⟨b,0,none⟩))->Calls P f #[.pointer (some ⟨b,0,none⟩)] w fun e w'=>e=.returned (.tuple #[])/\w'=w
 fresh:∀ (b:Nat) (w:World),w.cell? ⟨b,0,none⟩=some (.pointer none)->w.shape? b=some (T,2)->w.frozen? ⟨b,0,none⟩=false ->
  Calls P f #[.pointer (some ⟨b,0,none⟩)] w fun e w'=>e=.returned (.tuple #[])/\w'=w.setCell ⟨b,0,none⟩ (.pointer (some ⟨b,0,none⟩))
end Go.Sy
