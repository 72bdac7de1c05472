/- Laws of audit: the page's example, pendings, checks. -/
import Derived.Test.YtdndobkfnmommaaGreatP24zP
set_option linter.unusedVariables false
set_option linter.unusedSimpArgs false
namespace Go.SyP
open Go Go.Sy Sets
abbrev m0:Ql:=⟨1,1,1,[⟨5,7⟩],⟨0,0⟩,0⟩
abbrev Qje:List Qd:=[⟨m0,3,true⟩]
abbrev ev0:Qy:=⟨1,1,m0,0,⟨0,false⟩,0⟩
abbrev ev1:Qy:=⟨2,1,⟨0,0,0,[],⟨0,0⟩,0⟩,5,⟨7,true⟩,0⟩
abbrev ev2 (v:Int):Qy:=⟨2,1,⟨0,0,0,[],⟨0,0⟩,0⟩,5,⟨v,true⟩,4⟩
abbrev sto (v:Int):List Qy:=[ev0,ev1,ev2 v]
theorem ap0:(apD Qgj [] m0).1=[⟨5,7⟩]:=by
 rw [Wib (r:=([⟨5,7⟩],true)) (by decide) (by decide) Tb.nil (by decide) Qix ⟨fun _=>⟨by simp [Up],fun j=>by
  unfold Qd3 Qc1 Qfu
  by_cases hj:j=5
  ·subst hj
   rw [show Qgj=[⟨0,4096⟩] from rfl,Qnw (by decide)]
   simp [look]
  simp [look,if_neg (show ¬ (5:Int)=j from fun e=>hj e.symm)]⟩,fun h=>by cases h⟩]
theorem Wik (v:Int):Qta Qje (sto v):=⟨⟨by decide,fun e he=>by simp at he;subst he;decide⟩,by decide,⟨by simp,fun e he=>by simp at he;rcases he with rfl | rfl | rfl<;>simp⟩⟩
theorem Wdy:Ord Qje:=fun i hi=>by
 have:i=0:=by simp at hi;exact hi
 subst this
 exact ⟨by decide,fun h=>absurd h (by decide)⟩
theorem Wiy (mark:Int) (h:mark=0\/mark=4):Qiv Qje [m0] mark=[⟨5,7⟩]:=by
 rcases h with rfl | rfl
 ·rw [show Qiv Qje [m0] 0=(apD Qgj [] m0).1 from rfl]
  exact ap0
 rw [show Qiv Qje [m0] 4=(apD Qgj [] m0).1 from rfl]
 exact ap0
theorem w0 (v:Int):wAt Qje (sto v) 0=0:=rfl
theorem w1 (v:Int):wAt Qje (sto v) 1=0:=by
 show Qr2 Qje [m0] 0 ev1=0
 unfold Qr2
 rw [if_pos (by decide),if_neg (by decide),if_neg (by decide)]
 unfold Qmv
 rw [Wiy 0 (.inl rfl)]
 rfl
theorem w2 (v:Int) (hv:v=7\/v=8):wAt Qje (sto v) 2=if v=7 then 0 else 4:=by
 show Qr2 Qje [m0] 0 (ev2 v)=_
 unfold Qr2
 rw [if_pos (by rcases hv with rfl | rfl<;>decide),if_neg (by show ¬ (2:Int)=1;decide),if_neg (by show ¬ (4:Int) < 0;decide)]
 unfold Qmv
 rw [Wiy 4 (.inr rfl)]
 rcases hv with rfl | rfl<;>rfl
theorem Wi6:Qh6 Qje (sto 7) 3=[]:=by
 rw [Qhg,w2 7 (.inl rfl),if_pos rfl,Qhg,w1,if_pos rfl,Qhg,w0,if_pos rfl]
 rfl
theorem Wi7:Qh6 Qje (sto 8) 3=[(2,4)]:=by
 rw [Qhg,w2 8 (.inr rfl),if_neg (by decide),Qhg,w1,if_pos rfl,Qhg,w0,if_pos rfl]
 rfl
theorem Qp0:Qm=some true:=by
 have hA:Jy Qje (sto 7)=some ([],0):=by
  rw [(Qvv (Wik 7)).1 Wdy,show (sto 7).length=3 from rfl,Wi6]
  rfl
 have hB:Jy Qje (sto 8)=some ([⟨2,4⟩],0):=by
  rw [(Qvv (Wik 8)).1 Wdy,show (sto 8).length=3 from rfl,Wi7]
  rfl
 unfold Qm
 rw [hA,Option.bind_some,if_pos (by decide)]
 refine (congrArg (fun o=>Option.bind o _) (show _=some ([(⟨2,4⟩:Ym)],(0:Int)) from hB)).trans ?_
 rfl
theorem Quq {σ ρ α:Type} {step:σ->Option (σ ⊕ ρ)} {n:Nat} (st:Nat->α->σ) (I:Nat->α->Prop) (P:ρ->Prop)
  (Qfh:∀ x,I n x->∃ r,Yb step (st n x)=some r/\P r)
  (Ye:∀ i x,i < n->I i x->(∃ y,step (st i x)=some (.inl (st (i+1) y))/\I (i+1) y)\/∃ r,step (st i x)=some (.inr r)/\P r):
  ∀ i x,i<=n->I i x->∃ r,Yb step (st i x)=some r/\P r:=by
 have key:∀ m i x,i+m=n->I i x->∃ r,Yb step (st i x)=some r/\P r:=by
  intro m
  induction m with
  | zero=>
   intro i x hi hI
   obtain rfl:i=n:=by omega
   exact Qfh x hI
  | succ m ih=>
   intro i x hi hI
   rcases Ye i x (by omega) hI with ⟨y,h1,h2⟩ | ⟨r,h1,h2⟩
   ·obtain ⟨r,h3,h4⟩:=ih (i+1) y (by omega) h2
    exact ⟨r,by rw [Qau,h1];exact h3,h4⟩
   exact ⟨r,by rw [Qau,h1];rfl,h2⟩
 exact fun i x h=>key (n - i) i x (by omega)
theorem Wi5 (order:List Qd) (Qae:List Qy):∃ r,Xm order Qae=some r/\(r=true->Qta order Qae):=by
 unfold Xm
 have second:order.length<=30->(∀ e∈order,e.M.Pairs.length<=10)->∃ r,Yb (Xm.step order Qae) (.l2 0)=some r/\(r=true->Qta order Qae):=by
  intro ho hp
  refine Qbi (step:=Xm.step order Qae) (n:=Qae.length) (fun i (_:Unit)=>Xm.S.l2 (i:Int)) (fun i _=>i<=30/\∀ e∈Qae.take i,e.M.Pairs.length<=10) _ ?_ ?_ 0 () (Nat.zero_le _) (by simp)
  ·rintro _ ⟨h1,h2⟩
   rw [Qbp (Nat.le_refl _)] at h2
   exact ⟨true,by simp [Xm.step,Xm.l2],fun _=>⟨⟨by omega,fun e he=>by have:=hp e he;omega⟩,ho,⟨h1,h2⟩⟩⟩
  rintro i _ hi ⟨h1,h2⟩
  have Ye:(0:Int)<=(i:Int)/\(i:Int) < (Qae.length:Int):=by omega
  have hx:=take_at (l:=Qae) (z:=Qy.z) hi
  have hw:IntKind.wrap .i64 ((i:Int)+1)=((i+1:Nat):Int):=by rw [wr (by omega)];omega
  simp only [Xm.step,Xm.l2,Xm.j2,Ye.2,if_true,Ye,and_self,show (i:Int).toNat=i from rfl,hw]
  by_cases h60:(i:Int)>=30
  ·right
   exact ⟨false,by rw [if_pos h60],by simp⟩
  rw [if_neg h60]
  by_cases h20:((Qae.getD i Qy.z).M.Pairs.length:Int) > 10
  ·right
   exact ⟨false,by rw [decide_eq_true h20];rfl,by simp⟩
  left
  refine ⟨(),by rw [decide_eq_false h20];rfl,by omega,fun e he=>?_⟩
  rw [hx] at he
  rcases List.mem_append.1 he with h | h
  ·exact h2 e h
  simp only [List.mem_singleton] at h
  subst h
  omega
 refine Quq (step:=Xm.step order Qae) (n:=order.length) (fun i (_:Unit)=>Xm.S.l1 (i:Int)) (fun i _=>i<=30/\∀ e∈order.take i,e.M.Pairs.length<=10) _ ?_ ?_ 0 () (Nat.zero_le _) (by simp)
 ·rintro _ ⟨h1,h2⟩
  rw [Qbp (Nat.le_refl _)] at h2
  have e1:Xm.step order Qae (.l1 (order.length:Int))=some (.inl (.l2 0)):=by simp [Xm.step,Xm.l1]
  rw [Qau,e1]
  exact second h1 h2
 rintro i _ hi ⟨h1,h2⟩
 have Ye:(0:Int)<=(i:Int)/\(i:Int) < (order.length:Int):=by omega
 have hx:=take_at (l:=order) (z:=Qd.z) hi
 have hw:IntKind.wrap .i64 ((i:Int)+1)=((i+1:Nat):Int):=by rw [wr (by omega)];omega
 simp only [Xm.step,Xm.l1,Xm.j1,Ye.2,if_true,Ye,and_self,show (i:Int).toNat=i from rfl,hw]
 by_cases h60:(i:Int)>=30
 ·right
  exact ⟨false,by rw [if_pos h60],by simp⟩
 rw [if_neg h60]
 by_cases h20:((order.getD i Qd.z).M.Pairs.length:Int) > 10
 ·right
  exact ⟨false,by rw [decide_eq_true h20];rfl,by simp⟩
 left
 refine ⟨(),by rw [decide_eq_false h20];rfl,by omega,fun e he=>?_⟩
 rw [hx] at he
 rcases List.mem_append.1 he with h | h
 ·exact h2 e h
 simp only [List.mem_singleton] at h
 subst h
 omega
theorem Qvb (m:Ql) (hn:m.Pairs.length<=5000):Xh (trM m) (trM m)=some true:=by
 obtain ⟨r,h1,h2⟩:=Qre (trM m) (trM m) (by simpa [trM] using hn)
 rw [h1,h2.2 rfl]
end Go.SyP
