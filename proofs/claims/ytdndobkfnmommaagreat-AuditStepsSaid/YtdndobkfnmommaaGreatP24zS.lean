/- Laws of audit: the page's example, pendings, checks. -/
import Derived.Test.YtdndobkfnmommaaGreatP24zP
set_option linter.unusedVariables false
set_option linter.unusedSimpArgs false
namespace Go.SyP
open Go Go.Sy Sets
abbrev m0:Qn:=⟨1,1,1,[⟨5,7⟩],⟨0,0⟩,0⟩
abbrev Qja:List Qe:=[⟨m0,3,true⟩]
abbrev ev0:Wn:=⟨1,1,m0,0,⟨0,false⟩,0⟩
abbrev ev1:Wn:=⟨2,1,⟨0,0,0,[],⟨0,0⟩,0⟩,5,⟨7,true⟩,0⟩
abbrev ev2 (v:Int):Wn:=⟨2,1,⟨0,0,0,[],⟨0,0⟩,0⟩,5,⟨v,true⟩,4⟩
abbrev sto (v:Int):List Wn:=[ev0,ev1,ev2 v]
theorem ap0:(apD Qi3 [] m0).1=[⟨5,7⟩]:=by
 rw [Wio (r:=([⟨5,7⟩],true)) (by decide) (by decide) Tb.nil (by decide) Qmt ⟨fun _=>⟨by simp [Up],fun j=>by
  unfold Qd5 Qew Qgx
  by_cases hj:j=5
  ·subst hj
   rw [show Qi3=[⟨0,4096⟩] from rfl,Qnp (by decide)]
   simp [look]
  simp [look,if_neg (show ¬ (5:Int)=j from fun e=>hj e.symm)]⟩,fun h=>by cases h⟩]
theorem Wiw (v:Int):Qs8 Qja (sto v):=⟨⟨by decide,fun e he=>by simp at he;subst he;decide⟩,by decide,⟨by simp,fun e he=>by simp at he;rcases he with rfl | rfl | rfl<;>simp⟩⟩
theorem Wd3:Ord Qja:=fun i hi=>by
 have:i=0:=by simp at hi;exact hi
 subst this
 exact ⟨by decide,fun h=>absurd h (by decide)⟩
theorem Wjb (mark:Int) (h:mark=0\/mark=4):Qlq Qja [m0] mark=[⟨5,7⟩]:=by
 rcases h with rfl | rfl
 ·rw [show Qlq Qja [m0] 0=(apD Qi3 [] m0).1 from rfl]
  exact ap0
 rw [show Qlq Qja [m0] 4=(apD Qi3 [] m0).1 from rfl]
 exact ap0
theorem w0 (v:Int):wAt Qja (sto v) 0=0:=rfl
theorem w1 (v:Int):wAt Qja (sto v) 1=0:=by
 show Qr1 Qja [m0] 0 ev1=0
 unfold Qr1
 rw [if_pos (by decide),if_neg (by decide),if_neg (by decide)]
 unfold Qml
 rw [Wjb 0 (.inl rfl)]
 rfl
theorem w2 (v:Int) (hv:v=7\/v=8):wAt Qja (sto v) 2=if v=7 then 0 else 4:=by
 show Qr1 Qja [m0] 0 (ev2 v)=_
 unfold Qr1
 rw [if_pos (by rcases hv with rfl | rfl<;>decide),if_neg (by show ¬ (2:Int)=1;decide),if_neg (by show ¬ (4:Int) < 0;decide)]
 unfold Qml
 rw [Wjb 4 (.inr rfl)]
 rcases hv with rfl | rfl<;>rfl
theorem Wji:Qh4 Qja (sto 7) 3=[]:=by
 rw [Qhi,w2 7 (.inl rfl),if_pos rfl,Qhi,w1,if_pos rfl,Qhi,w0,if_pos rfl]
 rfl
theorem Wjj:Qh4 Qja (sto 8) 3=[(2,4)]:=by
 rw [Qhi,w2 8 (.inr rfl),if_neg (by decide),Qhi,w1,if_pos rfl,Qhi,w0,if_pos rfl]
 rfl
theorem Qtf:Ql=some true:=by
 have hA:Jz Qja (sto 7)=some ([],0):=by
  rw [(Qvt (Wiw 7)).1 Wd3,show (sto 7).length=3 from rfl,Wji]
  rfl
 have hB:Jz Qja (sto 8)=some ([⟨2,4⟩],0):=by
  rw [(Qvt (Wiw 8)).1 Wd3,show (sto 8).length=3 from rfl,Wjj]
  rfl
 unfold Ql
 rw [hA,Option.bind_some,if_pos (by decide)]
 refine (congrArg (fun o=>Option.bind o _) (show _=some ([(⟨2,4⟩:Yt)],(0:Int)) from hB)).trans ?_
 rfl
theorem Wc9 {σ ρ α:Type} {step:σ->Option (σ ⊕ ρ)} {n:Nat} (st:Nat->α->σ) (I:Nat->α->Prop) (P:ρ->Prop)
  (Qgp:∀ x,I n x->∃ r,Xx step (st n x)=some r/\P r)
  (Yj:∀ i x,i < n->I i x->(∃ y,step (st i x)=some (.inl (st (i+1) y))/\I (i+1) y)\/∃ r,step (st i x)=some (.inr r)/\P r):
  ∀ i x,i<=n->I i x->∃ r,Xx step (st i x)=some r/\P r:=by
 have key:∀ m i x,i+m=n->I i x->∃ r,Xx step (st i x)=some r/\P r:=by
  intro m
  induction m with
  | zero=>
   intro i x hi hI
   obtain rfl:i=n:=by omega
   exact Qgp x hI
  | succ m ih=>
   intro i x hi hI
   rcases Yj i x (by omega) hI with ⟨y,h1,h2⟩ | ⟨r,h1,h2⟩
   ·obtain ⟨r,h3,h4⟩:=ih (i+1) y (by omega) h2
    exact ⟨r,by rw [Ji,h1];exact h3,h4⟩
   exact ⟨r,by rw [Ji,h1];rfl,h2⟩
 exact fun i x h=>key (n - i) i x (by omega)
theorem Wjh (order:List Qe) (Qa6:List Wn):∃ r,Xp order Qa6=some r/\(r=true->Qs8 order Qa6):=by
 unfold Xp
 have second:order.length<=30->(∀ e∈order,e.M.Pairs.length<=10)->∃ r,Xx (Xp.step order Qa6) (.l2 0)=some r/\(r=true->Qs8 order Qa6):=by
  intro ho hp
  refine Qbj (step:=Xp.step order Qa6) (n:=Qa6.length) (fun i (_:Unit)=>Xp.S.l2 (i:Int)) (fun i _=>i<=30/\∀ e∈Qa6.take i,e.M.Pairs.length<=10) _ ?_ ?_ 0 () (Nat.zero_le _) (by simp)
  ·rintro _ ⟨h1,h2⟩
   rw [Qbt (Nat.le_refl _)] at h2
   exact ⟨true,by simp [Xp.step,Xp.l2],fun _=>⟨⟨by omega,fun e he=>by have:=hp e he;omega⟩,ho,⟨h1,h2⟩⟩⟩
  rintro i _ hi ⟨h1,h2⟩
  have Yj:(0:Int)<=(i:Int)/\(i:Int) < (Qa6.length:Int):=by omega
  have hx:=take_at (l:=Qa6) (z:=Wn.z) hi
  have hw:IntKind.wrap .i64 ((i:Int)+1)=((i+1:Nat):Int):=by rw [wr (by omega)];omega
  simp only [Xp.step,Xp.l2,Xp.j2,Yj.2,if_true,Yj,and_self,show (i:Int).toNat=i from rfl,hw]
  by_cases h60:(i:Int)>=30
  ·right
   exact ⟨false,by rw [if_pos h60],by simp⟩
  rw [if_neg h60]
  by_cases h20:((Qa6.getD i Wn.z).M.Pairs.length:Int) > 10
  ·right
   exact ⟨false,by rw [decide_eq_true h20];rfl,by simp⟩
  left
  refine ⟨(),by rw [decide_eq_false h20];rfl,by omega,fun e he=>?_⟩
  rw [hx] at he
  rcases List.mem_append.1 he with h | h
  ·exact h2 e h
  simp only [List.mem_singleton] at h
  subst h
  omega
 refine Wc9 (step:=Xp.step order Qa6) (n:=order.length) (fun i (_:Unit)=>Xp.S.l1 (i:Int)) (fun i _=>i<=30/\∀ e∈order.take i,e.M.Pairs.length<=10) _ ?_ ?_ 0 () (Nat.zero_le _) (by simp)
 ·rintro _ ⟨h1,h2⟩
  rw [Qbt (Nat.le_refl _)] at h2
  have e1:Xp.step order Qa6 (.l1 (order.length:Int))=some (.inl (.l2 0)):=by simp [Xp.step,Xp.l1]
  rw [Ji,e1]
  exact second h1 h2
 rintro i _ hi ⟨h1,h2⟩
 have Yj:(0:Int)<=(i:Int)/\(i:Int) < (order.length:Int):=by omega
 have hx:=take_at (l:=order) (z:=Qe.z) hi
 have hw:IntKind.wrap .i64 ((i:Int)+1)=((i+1:Nat):Int):=by rw [wr (by omega)];omega
 simp only [Xp.step,Xp.l1,Xp.j1,Yj.2,if_true,Yj,and_self,show (i:Int).toNat=i from rfl,hw]
 by_cases h60:(i:Int)>=30
 ·right
  exact ⟨false,by rw [if_pos h60],by simp⟩
 rw [if_neg h60]
 by_cases h20:((order.getD i Qe.z).M.Pairs.length:Int) > 10
 ·right
  exact ⟨false,by rw [decide_eq_true h20];rfl,by simp⟩
 left
 refine ⟨(),by rw [decide_eq_false h20];rfl,by omega,fun e he=>?_⟩
 rw [hx] at he
 rcases List.mem_append.1 he with h | h
 ·exact h2 e h
 simp only [List.mem_singleton] at h
 subst h
 omega
theorem Qva (m:Qn) (hn:m.Pairs.length<=5000):Xm (trM m) (trM m)=some true:=by
 obtain ⟨r,h1,h2⟩:=Qx4 (trM m) (trM m) (by simpa [trM] using hn)
 rw [h1,h2.2 rfl]
end Go.SyP
