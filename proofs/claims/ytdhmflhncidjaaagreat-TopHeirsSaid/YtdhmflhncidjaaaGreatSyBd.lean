/- strings.Builder: a box with a row of bytes. -/
import Derived.Test.YtdhmflhncidjaaaGreatSyStr
import Derived.Test.YtdhmflhncidjaaaGreatSyQ
import Derived.Lib.Builder
import Derived.Shelf.Strings.Builder1
import Derived.Test.YtdhmflhncidjaaaGreatSyM
set_option linter.unusedVariables false
set_option linter.unusedSimpArgs false
namespace Go.Sy
theorem We6 {X:Ctx} {f g:FuncId} {k k':List Item} {Q:Frame->Frame->Qq->Prop} {st st':St} {P:Program} {Xx args:List AV} {dst:Option Tmp} (ids:List Nat) {Xb Qr:List Row} {ret:AV} (hP:X.P=P) (he:Enters P g) (hs:Xt P g Xb args Qr ret)
  (e:Qdo st k=some (g,Xx,dst,k')) (hh:Qbz st.rows ids Xb) (hp:Qff st.rows ids (Zw ids st.rows.length) Xx args)
  (Qat:St.put { st with rows:=Qav st.rows ids Qr } dst (Qa0 (Zw ids st.rows.length) ret)=some st') (h:AK X f k' Q st'):AK X f k Q st:=by
 subst hP
 exact Qiv ids e he hh hp hs Qat h
structure Aft (g:Option Nat) (w w':World):Prop where
 os:w'.os=w.os
 tape:w'.tape=w.tape
 output:w'.output=w.output
 drawn:w.drawn<=w'.drawn
 size:w.heap.size<=w'.heap.size
 block:∀ k,k < w.heap.size->g≠some k->w'.heap[k]? = w.heap[k]?
structure We2 (P:Program) (f:FuncId) (T E:TypeId):Prop where
 full:∀ (b g cap:Nat) (p:Value) (cur:Array Value) (l:List UInt8) (w:World),l≠[]->l.length<=cap->cap<=maxLen->cur.size=cap->w.heap[b]? = some (.cells #[p,.slice (some ⟨g,0,none⟩) l.length cap] T (0,0)) ->
  w.heap[g]? = some (.cells cur E (0,0))->(∀ (j:Nat) x,l[j]? = some x->cur[j]? = some (.int .u8 x.toNat))->Calls P f #[.pointer (some ⟨b,0,none⟩)] w fun e w'=>e=.returned (.string ⟨l.toArray⟩)/\w'=w.drew.freeze ⟨g,0,none⟩ l.length
 empty:∀ (b:Nat) (p:Value) (w:World),w.heap[b]? = some (.cells #[p,.slice none 0 0] T (0,0))->Calls P f #[.pointer (some ⟨b,0,none⟩)] w fun e w'=>e=.returned (.string ⟨#[]⟩)/\w'=w.drew
 room:∀ (b g cap:Nat) (p:Value) (w:World),cap≠0->w.heap[b]? = some (.cells #[p,.slice (some ⟨g,0,none⟩) 0 cap] T (0,0))->Calls P f #[.pointer (some ⟨b,0,none⟩)] w fun e w'=>e=.returned (.string ⟨#[]⟩)/\w'=w.drew
 noroom:∀ (b g:Nat) (p:Value) (cur:Array Value) (w:World),w.heap[b]? = some (.cells #[p,.slice (some ⟨g,0,none⟩) 0 0] T (0,0))->w.heap[g]? = some (.cells cur E (0,0)) ->
  Calls P f #[.pointer (some ⟨b,0,none⟩)] w fun e w'=>e=.returned (.string ⟨#[]⟩)/\w'=w.drew.alloc (.view ⟨g,0,none⟩ E)
theorem Qx0 (w:World):Aft none w w.drew:=⟨rfl,rfl,rfl,Nat.le_succ _,Nat.le_refl _,fun _ _ _=>rfl⟩
theorem We4 (w:World) (o:Obj):Aft none w (w.drew.alloc o):=⟨rfl,rfl,rfl,Nat.le_succ _,by rw [World.alloc,Array.size_push];exact Nat.le_succ _,fun k hk _=>by
 simp only [World.alloc]
 exact (Array.getElem?_push_lt hk).trans (Array.getElem?_eq_getElem hk).symm⟩
theorem Wb7 (w:World) (g n:Nat):Aft (some g) w (w.drew.freeze ⟨g,0,none⟩ n):=by
 by_cases h0:n=0
 ·subst h0
  exact ⟨rfl,rfl,rfl,Nat.le_succ _,Nat.le_refl _,fun _ _ _=>rfl⟩
 have e:w.drew.freeze ⟨g,0,none⟩ n={ w.drew with heap:=(w.drew.freeze ⟨g,0,none⟩ n).heap }:=by simp [World.freeze,h0]
 refine ⟨by rw [e];rfl,by rw [e];rfl,by rw [e];rfl,by rw [e];exact Nat.le_succ _,by simp only [World.freeze,if_neg h0,Array.size_modify];exact Nat.le_refl _,fun k hk hg=>?_⟩
 have hkg:g≠k:=fun e=>hg (by rw [e])
 simp only [World.freeze,if_neg h0,Array.getElem?_modify,if_neg hkg]
 rfl
theorem Qjm (s t:ByteArray):Xr (s ++ t)=Xr s ++ Xr t:=by
 unfold Xr
 rw [ByteArray.data_append,Array.toList_append,List.map_append]
theorem Wfp {s:ByteArray} {j:Nat} {x:UInt8} (h:s.data.toList[j]? = some x):(Xr s).getD j 0=x.toNat:=by
 unfold Xr
 rw [List.getD_eq_getElem?_getD,List.getElem?_map,h]
 rfl
structure Wa6 (P:Program) (f:FuncId) (T:TypeId):Prop where
 used:∀ (b:Nat) (w:World),w.cell? ⟨b,0,none⟩=some (.pointer (some ⟨b,0,none⟩))->Calls P f #[.pointer (some ⟨b,0,none⟩)] w fun e w'=>e=.returned (.tuple #[])/\w'=w
 fresh:∀ (b:Nat) (w:World),w.cell? ⟨b,0,none⟩=some (.pointer none)->w.shape? b=some (T,2)->w.frozen? ⟨b,0,none⟩=false ->
  Calls P f #[.pointer (some ⟨b,0,none⟩)] w fun e w'=>e=.returned (.tuple #[])/\w'=w.setCell ⟨b,0,none⟩ (.pointer (some ⟨b,0,none⟩))
theorem Qyd {w:World} {ok ok':Bool->Nat->Prop} {μ:List (Option Nat)} {ob:Option Nat} {T E:TypeId} {n:Nat} {xs:List Int} {id:Nat} {r:Row} (Jj:∀ b,ok true b->ok' true b)
  (hr:[Row.box T [.ptr 0 0 0 0,.own 1 1 0 n],.flat false 1 E xs.length (vec (eI .u8) 0 xs)][id]? = some r) (h:Qbg w ok μ ob r):Qbg w ok' μ ob r:=
 h.perm Jj (match id,hr with
  | 0,rfl=>.box (.cons (.ptr _ _ _ _) (.cons (.own _ _ _ _) .nil))
  | 1,rfl=>Xa (nlI .u8)
  | _+2,h=>by simp at h)
theorem Wbd {P:Program} {f:FuncId} {T E:TypeId} (h:Wa6 P f T) (a:AV) (ha:a=.d (.v (.pointer none))\/a=.ptr 0 0 0 0) (n:Nat) (xs:List Int):
  Xt P f [.box T [a,.own 1 1 0 n],.flat false 1 E xs.length (vec (eI .u8) 0 xs)] [.ptr 0 0 0 0] [.box T [.ptr 0 0 0 0,.own 1 1 0 n],.flat false 1 E xs.length (vec (eI .u8) 0 xs)] (.Ql []):=by
 intro X vs hP hF hC Qb5
 cases Qb5 with
 | cons h1 hs=>
  cases hs
  cases h1 with
  | ptr hm=>
   rename_i b
   obtain ⟨us,c1,c2⟩:=hC.rel 0 _ _ hm rfl
   rw [Nat.zero_mul,Nat.zero_add]
   have Qgc:∀ (C:Qq) (b:Nat),C.ok X true b->C.okR X true b:=fun _ _ h=>⟨rfl,h⟩
   rcases ha with rfl | rfl
   ·cases c2 with
    | @cons _ _ _ us p1 c3 c4=>
     cases c3 with
     | d c3=>
      cases c3
      have hh:X.w0.heap[b]? = some (.cells (Value.pointer none :: us).toArray T (0,0)):=c1
      have hsz:(Value.pointer none :: us).toArray.size=2:=by
       have:=c4.length
       simp at this
       simp [<- this]
      refine (h.fresh b X.w0 (by rw [Lib.cell_of_heap hh];rfl) (by simp only [World.shape?,hh,hsz]) (Lib.frozen_of_heap hh 0)).mono ?_
      rintro e w' ⟨rfl,rfl⟩
      have hh':(X.w0.setCell ⟨b,0,none⟩ (.pointer (some ⟨b,0,none⟩))).heap[b]? = some (.cells (Value.pointer (some ⟨b,0,none⟩) :: us).toArray T (0,0)):=by
       simp [World.setCell,Array.getElem?_modify,hh]
      have tu:Qgo X ⟨X.μ0,[Row.box T [.d (.v (.pointer none)),.own 1 1 0 n],.flat false 1 E xs.length (vec (eI .u8) 0 xs)],X.w0⟩ 0 b (.box T [.d (.v (.pointer none)),.own 1 1 0 n]) (.box T [.ptr 0 0 0 0,.own 1 1 0 n]) (X.w0.setCell ⟨b,0,none⟩ (.pointer (some ⟨b,0,none⟩))):=
       ⟨hm,rfl,rfl,rfl,rfl,⟨rfl,Nat.le_refl _⟩,by simp [World.setCell],fun k hk=>by
        have hk':b≠k:=fun e=>hk e.symm
        simp only [World.setCell,Array.getElem?_modify,if_neg hk'],fun cs ty hc=>by
         rw [hh] at hc
         injection hc with hc
         injection hc with e1 e2
         subst e1
         subst e2
         exact ⟨_,hh',rfl⟩,fun _ _=>rfl,fun _ _=>rfl⟩
      have ev:=Ev.Yw hC tu
      have Zb:=Wt.Yw hC tu (.inl (by simp)) ⟨_,hh',.cons rfl (by
       have:=Zj.ptr (w:=X.w0.setCell ⟨b,0,none⟩ (.pointer (some ⟨b,0,none⟩))) (ok:=((⟨X.μ0,[Row.box T [.d (.v (.pointer none)),.own 1 1 0 n],.flat false 1 E xs.length (vec (eI .u8) 0 xs)],X.w0⟩:Qq).Yw 0 (.box T [.ptr 0 0 0 0,.own 1 1 0 n]) (X.w0.setCell ⟨b,0,none⟩ (.pointer (some ⟨b,0,none⟩)))).ok X) (id:=0) (k:=0) (i:=0) (off:=0) hm
       simpa using this) (c4.mono ev.ok ev.same ev.pre ev.shape)⟩
      exact ⟨_,X.μ0,rfl,Zb,fun id ob r e1 e2=>Qyd (Qgc _) e2 (Zb.rel id ob r e1 e2),.Ql .nil⟩
   have hc0:X.w0.cell? ⟨b,0,none⟩=some (.pointer (some ⟨b,0,none⟩)):=by
    rw [Lib.cell_of_heap c1]
    cases c2 with
    | cons p1 c3 c4=>
     cases c3 with
     | ptr hm2=>
      rw [hm] at hm2
      cases hm2
      simp
   refine (h.used b X.w0 hc0).mono ?_
   rintro e w' ⟨rfl,rfl⟩
   exact ⟨_,X.μ0,rfl,hC,fun id ob r e1 e2=>Qyd (Qgc _) e2 (hC.rel id ob r e1 e2),.Ql .nil⟩
end Go.Sy
namespace Go.Sy
section
variable {X:Ctx} {f:FuncId} {k:List Item} {Q:Frame->Frame->Qq->Prop} {nt m:Nat} {ops:Array Oper} {base:List (Nat × AV)} {Φ:List (Option AV)}
structure Wqk (E:List Nat) (m:Nat):Prop where
 lt:∀ e∈E,e < m
 nodup:E.Nodup
end
end Go.Sy
