/- Big arrays: rows of one cell each, and windows into them. -/
import Derived.Test.YtdndobkfnmommaaGreatSyStr2
import Derived.Test.YtdndobkfnmommaaGreatSyDr
set_option linter.unusedVariables false
set_option linter.unusedSimpArgs false
namespace Go.Sy
section
variable {X:Ctx} {T:Tab} {f:FuncId} {k k':List Item} {Q:Frame->Frame->Wp->Prop} {st st':St}
def dv0:DV:=.v (.bool false)
@[reducible] def Wj6 {α β:Type} (o:Option α) (a:β) (b:α->β):β:=match o with | none=>a | some t=>b t
def upd {α:Type} (x:Nat->α) (i:Nat) (v:α):Nat->α:=fun j=>if j=i then v else x j
end
end Go.Sy
namespace Go.Sy
section
variable {X:Ctx} {f:FuncId} {k:List Item} {Q:Frame->Frame->Wp->Prop} {st st':St}
theorem Wd3 {C:Wp} (h:Xp X C) {id:Nat} {r r':Row} (hr:C.rows[id]? = some r) (hl:r'.live=true->r.live=true) (hg:r≠.gone)
  (Yo:∀ (ob:Option Nat),Qbm C.w (C.ok X) C.μ ob r->Qbm C.w (C.ok X) C.μ ob r') (hx:∀ w m,r'.ext w m=[]:=by intros;rfl):
  Xp X ⟨C.μ,C.rows.set id r',C.w⟩/\Ev X C ⟨C.μ,C.rows.set id r',C.w⟩:=by
 have hlt:=(List.getElem?_eq_some_iff.1 hr).1
 have Qho:∀ {b:Nat},(⟨C.μ,C.rows.set id r',C.w⟩:Wp).live b->C.live b:=by
  rintro b ⟨i,m,s,h1,h2,h3,h4⟩
  rcases (Jr hlt).1 h2 with ⟨rfl,rfl⟩ | ⟨_,h2⟩
  ·rcases h4 with h4 | h4
   ·exact ⟨id,m,r,h1,hr,hl h3,.inl h4⟩
   rw [hx] at h4;cases h4
  exact ⟨i,m,s,h1,h2,h3,h4⟩
 have ev:Ev X C ⟨C.μ,C.rows.set id r',C.w⟩:=⟨Nat.le_refl _,fun _ _ _=>rfl,fun _ _ hl k=>hl (Qho k),fun _ _ _ k=>⟨_,k,rfl⟩,fun _ _ hx=>hx⟩
 have hold:∀ {i b:Nat} {m:Option Nat} {s:Row},(C.rows.set id r')[i]? = some s->b∈s.ext C.w m->C.rows[i]? = some s:=by
  intro i b m s h2 h3
  rcases (Jr hlt).1 h2 with ⟨rfl,rfl⟩ | ⟨_,h2⟩
  ·rw [hx] at h3;cases h3
  exact h2
 refine ⟨⟨by simp [h.len],h.os,h.tape,h.output,h.size,h.keep,h.shape,h.first,h.place, ?_, ?_, ?_, ?_⟩,ev⟩
 ·intro i j b p q h1 h2 h3 h4 h5 h6
  rcases (Jr hlt).1 h3 with ⟨rfl,rfl⟩ | ⟨n1,h3⟩<;>rcases (Jr hlt).1 h4 with ⟨rfl,rfl⟩ | ⟨n2,h4⟩
  ·rfl
  ·exact h.apart id j b r q h1 h2 hr h4 (hl h5) h6
  ·exact h.apart i id b p r h1 h2 h3 hr h5 hg
  exact h.apart i j b p q h1 h2 h3 h4 h5 h6
 ·intro i m b p h1 h2 h3
  exact h.Qbh i m b p h1 (hold h2 h3) h3
 ·intro i j m n b p q h1 h2 h3 h4 h5 h6
  have h3:=hold h3 h5
  rcases (Jr hlt).1 h4 with ⟨rfl,rfl⟩ | ⟨n2,h4⟩
  ·exact ⟨(h.Qa0 i id m n b p r h1 h2 h3 hr h5 hg).1,fun h7=>by rw [hx] at h7;cases h7⟩
  exact h.Qa0 i j m n b p q h1 h2 h3 h4 h5 h6
 intro i o s h1 h2
 rcases (Jr hlt).1 h2 with ⟨rfl,rfl⟩ | ⟨n1,h2⟩
 ·exact (Yo _ (h.rel id o r h1 hr)).mono ev.ok ev.same ev.pre ev.shape (fun _ _=>rfl) (fun _ _=>rfl)
 exact (h.rel i o s h1 h2).mono ev.ok ev.same ev.pre ev.shape (fun _ _=>rfl) (fun _ _=>rfl)
theorem Qsb (id:Nat) {ty:TypeId} {xs:List AV} {ys:List DV} (hr:st.rows[id]? = some (.box ty xs)) (hs:Qli st.rows xs ys) (he:st'={ st with rows:=st.rows.set id (.box ty (ys.map .d)) }) (h:AK X f k Q st'):AK X f k Q st:=by
 subst he
 intro a C hC b cs hb hk
 have hs':=hs
 rw [<- hC.rows] at hs'
 obtain ⟨h1,h2⟩:=Wd3 hC.rel (r':=.box ty (ys.map .d)) (by rw [hC.rows];exact hr) (fun _=>rfl) (by simp) (fun ob hx=>by
  cases ob with
  | none=>exact hx
  | some b=>
   obtain ⟨vs,q1,q2⟩:=hx
   exact ⟨vs,q1,(Qk5 hC.rel hs' q2).toA⟩)
 have:=hC.Qdl h2 h1
 simp only at this
 rw [hC.rows] at this
 obtain ⟨C',fr,q1,q2,q3⟩:=h a _ this b cs hb hk
 exact ⟨C',fr,q1,q2,q3⟩
end
inductive NsL:List DV->List DV->Prop
 | nil:NsL [] []
 | same {xs ys:List DV} (x:DV) (h:NsL xs ys):NsL (x :: xs) (x :: ys)
 | ns {xs ys:List DV} (t:Bool) (g:Nat->List DV) (h:NsL xs ys):NsL (.v (.slice none 0 0) :: xs) (.sl t 0 g :: ys)
end Go.Sy
