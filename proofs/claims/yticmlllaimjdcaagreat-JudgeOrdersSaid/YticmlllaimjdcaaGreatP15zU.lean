/- Cores: what is held; the whole check. -/
import Derived.Test.YticmlllaimjdcaaGreatP15zQ
set_option linter.unusedVariables false
set_option linter.unusedSimpArgs false
namespace Go.SyP
open Go Go.Sy Sets
theorem Wim {σ:Type} {step:σ->Option (σ ⊕ Bool)} {n:Nat} (st:Nat->σ) (Q:Nat->Prop) {E:Prop} (Qj8:∃ r,Xf step (st n)=some r/\(r=true↔E))
  (Xu:∀ i,i < n->(Xf step (st i)=Xf step (st (i+1))/\Q i)\/(Xf step (st i)=some false/\¬ Q i)):
  ∃ r,Xf step (st 0)=some r/\(r=true↔(∀ i,i < n->Q i)/\E):=by
 have key:∀ m i,i+m=n->∃ r,Xf step (st i)=some r/\(r=true↔(∀ j,i<=j->j < n->Q j)/\E):=by
  intro m
  induction m with
  | zero=>
   intro i hi
   obtain rfl:i=n:=by omega
   obtain ⟨r,h1,h2⟩:=Qj8
   exact ⟨r,h1,h2.trans ⟨fun h=>⟨fun j h3 h4=>by omega,h⟩,fun h=>h.2⟩⟩
  | succ m ih=>
   intro i hi
   rcases Xu i (by omega) with ⟨h1,h2⟩ | ⟨h1,h2⟩
   ·obtain ⟨r,h3,h4⟩:=ih (i+1) (by omega)
    refine ⟨r,h1.trans h3,h4.trans ⟨fun h=>⟨fun j h5 h6=>?_,h.2⟩,fun h=>⟨fun j h5 h6=>h.1 j (by omega) h6,h.2⟩⟩⟩
    by_cases hj:j=i
    ·rw [hj];exact h2
    exact h.1 j (by omega) h6
   exact ⟨false,h1,by simp;exact fun h=>absurd (h i (Nat.le_refl _) (by omega)) h2⟩
 obtain ⟨r,h1,h2⟩:=key n 0 (by omega)
 exact ⟨r,h1,h2.trans ⟨fun h=>⟨fun i hi=>h.1 i (Nat.zero_le _) hi,h.2⟩,fun h=>⟨fun i _ hi=>h.1 i hi,h.2⟩⟩⟩
instance (c s:Int) (w:Qr):Decidable (isH c s w):=by unfold isH;infer_instance
theorem Wf8 (w:Qr) (c s:Int):Qd4 w c s=decide (isH c s w):=by
 unfold Qd4 Qd4.j1 isH
 by_cases h:w.M.Client=c
 ·rw [if_pos h,Bool.eq_iff_iff];simp [h]
 rw [if_neg h];simp [h]
def Qtw (c:Qm) (cl s r:Int):Prop:=(r=-1/\∀ j,j < c.Held.length->¬ isH cl s (c.Held.getD j Qr.z))\/∃ i:Nat,r=(i:Int)/\i < c.Held.length/\isH cl s (c.Held.getD i Qr.z)/\∀ j,j < i->¬ isH cl s (c.Held.getD j Qr.z)
theorem Wkl {c:Qm} (cl s:Int) (hn:c.Held.length<=5000):∃ r,Qkp c cl s=some r/\Qtw c cl s r:=by
 obtain ⟨r,h1,h2⟩:=Qbi (step:=Zv.step c.Held (fun z0=>some (Qd4 z0 cl s))) (n:=c.Held.length) (fun i (_:Unit)=>Zv.S.l1 (i:Int)) (fun i _=>∀ j,j < i->¬ isH cl s (c.Held.getD j Qr.z)) (Qtw c cl s)
  (fun _ h=>⟨-1,by simp [Zv.step,Zv.l1],.inl ⟨rfl,h⟩⟩)
  (fun i _ hi h=>by
   have Xu:(0:Int)<=(i:Int)/\(i:Int) < (c.Held.length:Int):=by omega
   simp only [Zv.step,Zv.l1,Xu.2,if_true,Xu,and_self,show (i:Int).toNat=i from rfl,Option.bind_some,Wf8,wr1 hi (by omega:c.Held.length<=9223372036854775807)]
   by_cases h1:isH cl s (c.Held.getD i Qr.z)
   ·right
    exact ⟨(i:Int),by rw [decide_eq_true h1,if_pos rfl],.inr ⟨i,rfl,hi,h1,h⟩⟩
   left
   refine ⟨(),by rw [decide_eq_false h1,if_neg (by simp)],fun j hj=>?_⟩
   by_cases hj2:j=i
   ·rw [hj2];exact h1
   exact h j (by omega)) 0 () (Nat.zero_le _) (fun j hj=>by omega)
 refine ⟨r, ?_,h2⟩
 unfold Qkp Zv
 rw [show ((0:Nat):Int)=0 from rfl] at h1
 rw [h1]
 rfl
theorem Qus (l:List Qr) {i:Nat} (hi:i < l.length):(l.map trW).getD i Qz.z=trW (l.getD i Qr.z):=Qnc trW l hi
theorem Wjc {c:Qm} (cl s:Int) (hn:c.Held.length<=5000):∃ r,Jm (trO c) cl s=some r/\Qtw c cl s r:=by
 unfold Jm
 refine Qbi (step:=Jm.step (trO c) cl s) (n:=c.Held.length) (fun i (_:Unit)=>Jm.S.l1 (i:Int)) (fun i _=>∀ j,j < i->¬ isH cl s (c.Held.getD j Qr.z)) _ ?_ ?_ 0 () (Nat.zero_le _) (fun j hj=>by omega)
 ·intro _ h
  exact ⟨-1,by simp [Jm.step,Jm.l1,trO],.inl ⟨rfl,h⟩⟩
 intro i _ hi h
 have Xu:(0:Int)<=(i:Int)/\(i:Int) < (c.Held.length:Int):=by omega
 simp only [Jm.step,Jm.l1,Jm.j1,show (trO c).Held=c.Held.map trW from rfl,List.length_map,Xu.2,if_true,Xu,and_self,show (i:Int).toNat=i from rfl,Qus c.Held hi,wr1 hi (by omega:c.Held.length<=9223372036854775807)]
 rw [show (trW (c.Held.getD i Qr.z)).M.Client=(c.Held.getD i Qr.z).M.Client from rfl,show (trW (c.Held.getD i Qr.z)).M.Seq=(c.Held.getD i Qr.z).M.Seq from rfl]
 have Qiq:¬ isH cl s (c.Held.getD i Qr.z)->∀ j,j < i+1->¬ isH cl s (c.Held.getD j Qr.z):=fun h1 j hj=>by
  by_cases hj2:j=i
  ·rw [hj2];exact h1
  exact h j (by omega)
 generalize hK:c.Held.getD i Qr.z=K at Qiq
 by_cases h1:K.M.Client=cl
 ·rw [if_pos h1]
  by_cases h2:K.M.Seq=s
  ·right
   exact ⟨(i:Int),by simp [h2],.inr ⟨i,rfl,hi,by rw [hK];exact ⟨h1,h2⟩,h⟩⟩
  left
  exact ⟨(),by simp [h2],Qiq fun h=>h2 h.2⟩
 left
 exact ⟨(),by rw [if_neg h1];simp,Qiq fun h=>h1 h.1⟩
theorem Qtw.is {c:Qm} {i:Nat} (hi:i < c.Held.length) {r:Int} (h:Qtw c (c.Held.getD i Qr.z).M.Client (c.Held.getD i Qr.z).M.Seq r):
  r=(i:Int)↔∀ j,j < i->¬ isH (c.Held.getD i Qr.z).M.Client (c.Held.getD i Qr.z).M.Seq (c.Held.getD j Qr.z):=by
 rcases h with ⟨rfl,h⟩ | ⟨q,rfl,h1,h2,h3⟩
 ·exact absurd ⟨rfl,rfl⟩ (h i hi)
 constructor
 ·intro e
  obtain rfl:q=i:=by omega
  exact h3
 intro h
 have:¬ q < i:=fun h4=>h q h4 h2
 have:¬ i < q:=fun h4=>h3 i h4 ⟨rfl,rfl⟩
 omega
def Qu0 (c:Qm) (i:Nat):Prop:=mOk (c.Held.getD i Qr.z).M=true/\Qht (c.Held.getD i Qr.z).M [c.Keys]=true/\(1<=(c.Held.getD i Qr.z).Time/\(c.Held.getD i Qr.z).Time<=c.Clock) /\
 (∀ j,j < i->¬ isH (c.Held.getD i Qr.z).M.Client (c.Held.getD i Qr.z).M.Seq (c.Held.getD j Qr.z)) /\
 (∀ j,j < c.Qs.length->¬ isW (c.Held.getD i Qr.z).M.Client (c.Held.getD i Qr.z).M.Seq (c.Qs.getD j Qo.z)) /\
 ∀ k,k < c.Log.length->¬ ltS (stW (c.Held.getD i Qr.z)) (stE (c.Log.getD k Qc.z))
def Wba (c:Qm):Prop:=∀ i,i < c.Held.length->Qu0 c i
theorem Wjo {c:Qm} (hf:Qik c) (hs:SOk [c.Keys]) (hk:KnS c.Qs) (hl:Qs6 c):∃ r,Xh c=some r/\(r=true↔Wba c):=by
 have hkn:=hf.known
 have hlg:=hf.log
 have hhd:=hf.held
 unfold Xh
 obtain ⟨r,q1,q2⟩:=Qim (step:=Xh.step c) (n:=c.Held.length) (fun i=>.l1 (i:Int)) (Qu0 c) (E:=True) ⟨true,by rw [Zc];simp [Xh.step,Xh.l1,stk],by simp⟩ (fun i hi=>by
  have Xu:(0:Int)<=(i:Int)/\(i:Int) < (c.Held.length:Int):=by omega
  have hp:=(hf.hp _ (Qbo (z:=Qr.z) hi)).1
  simp only [Xh.step,Xh.l1,Xu.2,if_true,Xu,and_self,show (i:Int).toNat=i from rfl]
  rw [Qgg _ (by omega),Option.bind_some]
  by_cases a1:mOk (c.Held.getD i Qr.z).M=true
  ·rw [if_pos a1,Qsu a1 hs,Option.bind_some]
   by_cases a2:Qht (c.Held.getD i Qr.z).M [c.Keys]=true
   ·rw [if_pos a2]
    by_cases a3:1<=(c.Held.getD i Qr.z).Time/\(c.Held.getD i Qr.z).Time<=c.Clock
    ·rw [if_pos ((Qk7 _ _ _).2 a3)]
     obtain ⟨v,e1,e2⟩:=Wkl (c:=c) (c.Held.getD i Qr.z).M.Client (c.Held.getD i Qr.z).M.Seq (by omega)
     rw [e1,Option.bind_some]
     have e3:=e2.is hi
     unfold Xh.j1 Xh.j2
     by_cases a4:v=(i:Int)
     ·rw [a4,bne_self_eq_false,if_neg (by simp),show (i:Int).toNat=i from rfl]
      obtain ⟨q,b,f1,f2,f3⟩:=Qwg (c:=c) (c.Held.getD i Qr.z).M.Client (c.Held.getD i Qr.z).M.Seq (by omega) hk
      rw [f1,Option.bind_some]
      cases b with
      | true=>
       right
       obtain ⟨g1,g2⟩:=f2 rfl
       exact ⟨by rw [if_pos rfl],fun h=>h.2.2.2.2.1 q g1 g2⟩
      | false=>
       rw [if_neg (by simp)]
       by_cases a5:0 < c.Log.length
       ·rw [Qvq a5 (by omega),if_pos (by omega),if_pos (by omega),show ((c.Log.length - 1:Nat):Int).toNat=c.Log.length - 1 from rfl]
        rw [show Qgx (c.Held.getD i Qr.z)=stW (c.Held.getD i Qr.z) from rfl,show Qbr (c.Log.getD (c.Log.length - 1) Qc.z).Time (c.Log.getD (c.Log.length - 1) Qc.z).M=stE (c.Log.getD (c.Log.length - 1) Qc.z) from rfl,Qjt,Option.bind_some]
        by_cases a6:ltS (stW (c.Held.getD i Qr.z)) (stE (c.Log.getD (c.Log.length - 1) Qc.z))
        ·right
         exact ⟨by rw [decide_eq_true ((Qoq _ _).2 a6),if_pos rfl],fun h=>h.2.2.2.2.2 _ (by omega) a6⟩
        left
        refine ⟨by rw [decide_eq_false fun h=>a6 ((Qoq _ _).1 h),if_neg (by simp),wr1 hi (by omega:c.Held.length<=9223372036854775807)],a1,a2,a3,e3.1 a4,f3 rfl,fun k hk2 h=>a6 ?_⟩
        by_cases hkl:k=c.Log.length - 1
        ·rw [<- hkl];exact h
        exact Qq4 h (hl.sorted k (c.Log.length - 1) (by omega) (by omega))
       left
       refine ⟨?_,a1,a2,a3,e3.1 a4,f3 rfl,fun k hk2=>by omega⟩
       rw [show c.Log.length=0 by omega,if_neg (by decide),if_neg (by simp),wr1 hi (by omega:c.Held.length<=9223372036854775807)]
     right
     exact ⟨by rw [bne_iff_ne.2 a4,if_pos rfl],fun h=>a4 (e3.2 h.2.2.2.1)⟩
    right;exact ⟨by rw [if_neg fun h=>a3 ((Qk7 _ _ _).1 h)];rfl,fun h=>a3 h.2.2.1⟩
   right;exact ⟨by rw [if_neg a2];rfl,fun h=>a2 h.2.1⟩
  right;exact ⟨by rw [if_neg a1];rfl,fun h=>a1 h.1⟩)
 exact ⟨r,q1,q2.trans ⟨fun h=>h.1,fun h=>⟨h,trivial⟩⟩⟩
theorem Whe {c:Qm} (hf:Qik c) (hs:SOk [c.Keys]):∃ r,Qv (trO c)=some r/\(r=true↔Wba c):=by
 have hkn:=hf.known
 have hlg:=hf.log
 have hhd:=hf.held
 unfold Qv
 let st:=Qv.step (trO c)
 let L2:=fun (i k:Int) (w:Qz)=>Qv.S.l2 i k w.M.Client w.M.Seq w.M.Kind w.M.Pairs w.M.Over.Lo w.M.Over.Hi w.M.Old w.Time w.Qcq w.Qdk
 have hin:∀ (i k:Nat) (w:Qr),i < c.Held.length->k < c.Log.length->st (L2 i k (trW w))=some (if ltS (stW w) (stE (c.Log.getD k Qc.z)) then .inr false else .inl (L2 i ((k+1:Nat):Int) (trW w))):=by
  intro i k w hi hk
  have hs2:(0:Int)<=(k:Int)/\(k:Int) < (c.Log.length:Int):=by omega
  simp only [st,L2,Qv.step,Qv.l2,show (trO c).Log=c.Log.map trE from rfl,List.length_map,hs2.2,if_true,hs2,and_self,show (k:Int).toNat=k from rfl,Qke c.Log hk,wr1 hk (by omega:c.Log.length<=9223372036854775807)]
  rw [show Jh (trE (c.Log.getD k Qc.z)).M (trE (c.Log.getD k Qc.z)).Time=⟨(stE (c.Log.getD k Qc.z)).Time,(stE (c.Log.getD k Qc.z)).Client,(stE (c.Log.getD k Qc.z)).Seq⟩ from rfl]
  rw [show Jh (⟨(trW w).M.Client,(trW w).M.Seq,(trW w).M.Kind,(trW w).M.Pairs,(⟨(trW w).M.Over.Lo,(trW w).M.Over.Hi⟩:Qi),(trW w).M.Old⟩:Xe) (trW w).Time=⟨(stW w).Time,(stW w).Client,(stW w).Seq⟩ from rfl]
  by_cases a:ltS (stW w) (stE (c.Log.getD k Qc.z))
  ·rw [Qs2 a,if_pos rfl,if_pos a]
  rw [Qqd a,if_neg (by simp),if_neg a]
 have Qj8:∀ (i:Nat) (w:Qr),i < c.Held.length->st (L2 i (c.Log.length:Int) (trW w))=some (.inl (.l1 ((i+1:Nat):Int))):=by
  intro i w hi
  simp only [st,L2,Qv.step,Qv.l2,show (trO c).Log=c.Log.map trE from rfl,List.length_map,Int.lt_irrefl,if_false,wr1 hi (by omega:c.Held.length<=9223372036854775807)]
 have Qi2:∀ (i:Nat) (w:Qr),i < c.Held.length->∀ m k,k+m=c.Log.length->(∀ j,k<=j->j < c.Log.length->¬ ltS (stW w) (stE (c.Log.getD j Qc.z)))->Xf st (L2 i k (trW w))=Xf st (.l1 ((i+1:Nat):Int)):=by
  intro i w hi m
  induction m with
  | zero=>
   intro k hk h
   obtain rfl:k=c.Log.length:=by omega
   rw [Zc,Qj8 i w hi]
   rfl
  | succ m ih=>
   intro k hk h
   rw [Zc,hin i k w hi (by omega),if_neg (h k (Nat.le_refl _) (by omega))]
   exact ih (k+1) (by omega) fun j h1 h2=>h j (by omega) h2
 have hsome:∀ (i:Nat) (w:Qr),i < c.Held.length->∀ m k,k+m=c.Log.length->(∃ j,k<=j/\j < c.Log.length/\ltS (stW w) (stE (c.Log.getD j Qc.z)))->Xf st (L2 i k (trW w))=some false:=by
  intro i w hi m
  induction m with
  | zero=>
   rintro k hk ⟨j,h1,h2,h3⟩
   omega
  | succ m ih=>
   rintro k hk ⟨j,h1,h2,h3⟩
   rw [Zc,hin i k w hi (by omega)]
   by_cases a:ltS (stW w) (stE (c.Log.getD k Qc.z))
   ·rw [if_pos a];rfl
   rw [if_neg a]
   refine ih (k+1) (by omega) ⟨j, ?_,h2,h3⟩
   by_cases hj:j=k
   ·subst hj;exact absurd h3 a
   omega
 obtain ⟨r,q1,q2⟩:=Wim (step:=st) (n:=c.Held.length) (fun i=>.l1 (i:Int)) (Qu0 c) (E:=True) ⟨true,by rw [Zc];simp [st,Qv.step,Qv.l1,stk,trO],by simp⟩ (fun i hi=>by
  have Xu:(0:Int)<=(i:Int)/\(i:Int) < (c.Held.length:Int):=by omega
  have hp:=(hf.hp _ (Qbo (z:=Qr.z) hi)).1
  have key:∀ y,(y=false->mOk (c.Held.getD i Qr.z).M=true/\Qht (c.Held.getD i Qr.z).M [c.Keys]=true/\(1<=(c.Held.getD i Qr.z).Time/\(c.Held.getD i Qr.z).Time<=c.Clock)/\(∀ j,j < i->¬ isH (c.Held.getD i Qr.z).M.Client (c.Held.getD i Qr.z).M.Seq (c.Held.getD j Qr.z))/\(∀ j,j < c.Qs.length->¬ isW (c.Held.getD i Qr.z).M.Client (c.Held.getD i Qr.z).M.Seq (c.Qs.getD j Qo.z)))->(y=true->¬ Qu0 c i) ->
    st (.l1 (i:Int))=Qv.j1 (trO c) (i:Int) y->(Xf st (.l1 (i:Int))=Xf st (.l1 ((i+1:Nat):Int))/\Qu0 c i)\/(Xf st (.l1 (i:Int))=some false/\¬ Qu0 c i):=by
   intro y hy hn e
   rw [Zc,e]
   cases y with
   | true=>right;exact ⟨rfl,hn rfl⟩
   | false=>
    obtain ⟨b1,b2,b3,b4,b5⟩:=hy rfl
    have e2:Qv.j1 (trO c) (i:Int) false=some (.inl (L2 i 0 (trW (c.Held.getD i Qr.z)))):=by
     simp only [Qv.j1,L2,Bool.false_eq_true,if_false,show (trO c).Held=c.Held.map trW from rfl,show (i:Int).toNat=i from rfl,Qus c.Held hi]
    rw [e2]
    by_cases a:∀ k,k < c.Log.length->¬ ltS (stW (c.Held.getD i Qr.z)) (stE (c.Log.getD k Qc.z))
    ·left
     exact ⟨Qi2 i _ hi c.Log.length 0 (by omega) fun j _ h=>a j h,b1,b2,b3,b4,b5,a⟩
    right
    refine ⟨hsome i _ hi c.Log.length 0 (by omega) ?_,fun h=>a h.2.2.2.2.2⟩
    obtain ⟨j,h⟩:=Classical.not_forall.1 a
    obtain ⟨h1,h2⟩:=Classical.not_imp.1 h
    exact ⟨j,Nat.zero_le _,h1,Classical.not_not.1 h2⟩
  have e0:st (.l1 (i:Int))=Qv.l1 (trO c) (i:Int):=rfl
  simp only [Qv.l1,bnd,show (trO c).Held=c.Held.map trW from rfl,List.length_map,Xu.2,if_true,Xu,and_self,show (i:Int).toNat=i from rfl,Qus c.Held hi] at e0
  rw [show (trW (c.Held.getD i Qr.z)).M=trM (c.Held.getD i Qr.z).M from rfl,Qne _ (by omega),Option.bind_some] at e0
  by_cases a1:mOk (c.Held.getD i Qr.z).M=true
  ·rw [if_pos a1,Qs1 a1 hs,Option.bind_some] at e0
   by_cases a2:Qht (c.Held.getD i Qr.z).M [c.Keys]=true
   ·rw [if_pos a2,show (trW (c.Held.getD i Qr.z)).Time=(c.Held.getD i Qr.z).Time from rfl,show (trO c).Clock=c.Clock from rfl] at e0
    by_cases a3:1<=(c.Held.getD i Qr.z).Time/\(c.Held.getD i Qr.z).Time<=c.Clock
    ·rw [if_pos ((Qfi _ _ _).2 a3),show (trM (c.Held.getD i Qr.z).M).Client=(c.Held.getD i Qr.z).M.Client from rfl,show (trM (c.Held.getD i Qr.z).M).Seq=(c.Held.getD i Qr.z).M.Seq from rfl] at e0
     obtain ⟨v,e1,e2⟩:=Wjc (c:=c) (c.Held.getD i Qr.z).M.Client (c.Held.getD i Qr.z).M.Seq (by omega)
     rw [e1,Option.bind_some] at e0
     have e3:=e2.is hi
     by_cases a4:v=(i:Int)
     ·rw [if_pos a4] at e0
      obtain ⟨u,f1,f2⟩:=Qws (c:=c) (c.Held.getD i Qr.z).M.Client (c.Held.getD i Qr.z).M.Seq (by omega)
      rw [f1,Option.bind_some] at e0
      refine key _ (fun h=>⟨a1,a2,a3,e3.1 a4, ?_⟩) (fun h hw=>?_) e0
      ·rcases f2 with ⟨_,f3⟩ | ⟨q,rfl,_,_⟩
       ·exact f3
       simp at h
      rcases f2 with ⟨rfl,f3⟩ | ⟨q,rfl,g1,g2⟩
      ·simp at h
      exact hw.2.2.2.2.1 q g1 g2
     rw [if_neg a4] at e0
     exact key true (by simp) (fun _ h=>a4 (e3.2 h.2.2.2.1)) e0
    rw [if_neg fun h=>a3 ((Qfi _ _ _).1 h)] at e0
    exact key true (by simp) (fun _ h=>a3 h.2.2.1) e0
   rw [if_neg a2] at e0
   exact key true (by simp) (fun _ h=>a2 h.2.1) e0
  rw [if_neg a1] at e0
  exact key true (by simp) (fun _ h=>a1 h.1) e0)
 exact ⟨r,q1,q2.trans ⟨fun h=>h.1,fun h=>⟨h,trivial⟩⟩⟩
structure Qds (c:Qm):Prop where
 id:1<=c.ID/\c.ID<=65536
 keys:Ok (pa c.Keys)
 clock:0<=c.Clock/\c.Clock<=1099511627775
 base:Tb c.Base
 bk:∀ x∈c.Base,c.Keys.Lo<=x.Key/\x.Key < c.Keys.Hi
 Qxn:c.Qag=true->c.Qa1=true/\c.Held.length=0
 kn:Qs4 c
 lg:Qs6 c
 wt:Wba c
theorem Wgn {c:Qm} (hf:Qik c):¬ (IntKind.wrap .i64 ((c.Held.length:Int)+(c.Qs.length:Int)) > 1000):=by
 have h1:=hf.held
 have h2:=hf.known
 rw [wr (by omega)]
 omega
theorem Qx9 {l:List Qa} {x:Qb} (hx:Ok (pa x)):(clip l [x]).length=l.length↔∀ p∈l,x.Lo<=p.Key/\p.Key < x.Hi:=by
 unfold clip
 rw [List.length_filter_eq_length_iff]
 refine forall_congr' fun p=>forall_congr' fun _=>?_
 rw [Qti hx]
 simp
theorem Qmg {c:Qm} (hf:Qik c):∃ r,Qa9 c=some r/\(r=true↔Qds c):=by
 have hb:=hf.base
 have j2:Ok (pa c.Keys)->∀ y,(y=true->¬ Qds c)->(y=false->(Qs4 c->Qs6 c->Wba c->Qds c))->∃ r,Qa9.j2 c y=some r/\(r=true↔Qds c):=by
  intro hk y h1 h2
  unfold Qa9.j2 Qa9.j3
  cases y with
  | true=>exact ⟨false,by rw [if_pos rfl],by simpa using h1 rfl⟩
  | false=>
   rw [if_neg (by simp)]
   obtain ⟨r,q1,q2⟩:=Wi1 (c:=c) (by have:=hf.known;omega)
   rw [q1,Option.bind_some]
   by_cases hr:r=true
   ·have hkn:=q2.1 hr
    rw [if_pos hr]
    obtain ⟨s,q3,q4⟩:=Wkp hf (Qix hk) hkn.s
    rw [q3,Option.bind_some]
    by_cases hs:s=true
    ·have hl:=q4.1 hs
     rw [if_pos hs]
     obtain ⟨t,q5,q6⟩:=Wjo hf (Qix hk) hkn.s hl
     rw [q5,Option.bind_some]
     exact ⟨t,rfl,q6.trans ⟨fun h=>h2 rfl hkn hl h,fun h=>h.wt⟩⟩
    rw [if_neg hs]
    exact ⟨false,rfl,by simp;exact fun h=>hs (q4.2 h.lg)⟩
   rw [if_neg hr]
   exact ⟨false,rfl,by simp;exact fun h=>hr (q2.2 h.kn)⟩
 have j1:∀ y,(y=true->¬ Qds c)->(y=false->(1<=c.ID/\c.ID<=65536)/\Ok (pa c.Keys)/\0<=c.Clock/\c.Clock<=1099511627775)->∃ r,Qa9.j1 c y=some r/\(r=true↔Qds c):=by
  intro y h1 h2
  unfold Qa9.j1
  cases y with
  | true=>exact ⟨false,by rw [if_pos rfl],by simpa using h1 rfl⟩
  | false=>
   obtain ⟨g1,g2,g3⟩:=h2 rfl
   rw [if_neg (by simp)]
   obtain ⟨r,q1,q2⟩:=Qjv c.Base (by omega)
   rw [q1,Option.bind_some]
   by_cases hr:r=true
   ·have hT:=q2.1 hr
    rw [if_pos hr,show Qa5 c=[c.Keys] from rfl,Wd4 (by omega) (by simp) hT (Qix g2),Option.bind_some]
    by_cases hl:((clip c.Base [c.Keys]).length:Int)=(c.Base.length:Int)
    ·have hbk:=(Qx9 (l:=c.Base) g2).1 (by omega)
     rw [if_pos hl]
     by_cases hS:c.Qag=true
     ·rw [if_pos hS]
      by_cases hF:c.Qa1=true
      ·rw [if_pos hF]
       refine j2 g2 _ (fun h hc=>?_) (fun h k1 k2 k3=>⟨g1,g2,g3,hT,hbk,fun _=>⟨hF, ?_⟩,k1,k2,k3⟩)
       ·have:=(hc.Qxn hS).2
        simp at h
        simp [this] at h
       simp at h
       simp [h]
      rw [if_neg hF]
      exact j2 g2 _ (fun _ hc=>hF (hc.Qxn hS).1) (by simp)
     rw [if_neg hS]
     exact j2 g2 _ (by simp) (fun h k1 k2 k3=>⟨g1,g2,g3,hT,hbk,fun h=>absurd h hS,k1,k2,k3⟩)
    rw [if_neg hl]
    exact j2 g2 _ (fun _ hc=>hl (by rw [(Qx9 g2).2 hc.bk])) (by simp)
   rw [if_neg hr]
   exact j2 g2 _ (fun _ hc=>hr (q2.2 hc.base)) (by simp)
 unfold Qa9 Qec
 rw [Qkd]
 by_cases h1:Qbj c.ID 1 65536=true
 ·rw [if_pos h1]
  by_cases h2:Ok (pa c.Keys)
  ·rw [if_pos (decide_eq_true h2)]
   by_cases h3:Qbj c.Clock 0 1099511627775=true
   ·rw [if_pos h3,decide_eq_false (Wgn hf)]
    exact j1 false (by simp) fun _=>⟨(Qk7 _ _ _).1 h1,h2,(Qk7 _ _ _).1 h3⟩
   rw [if_neg h3]
   exact j1 true (fun _ h=>h3 ((Qk7 _ _ _).2 h.clock)) (by simp)
  rw [if_neg (by simpa using h2)]
  exact j1 true (fun _ h=>h2 h.keys) (by simp)
 rw [if_neg h1]
 exact j1 true (fun _ h=>h1 ((Qk7 _ _ _).2 h.id)) (by simp)
theorem Qov {c:Qm} (hf:Qik c):∃ r,Qk (trO c)=some r/\(r=true↔Qds c):=by
 have hb:=hf.base
 have hkl:=hf.known
 let st:=Qk.step (trO c)
 have tail:(1<=c.ID/\c.ID<=65536)->Ok (pa c.Keys)->(0<=c.Clock/\c.Clock<=1099511627775)->Tb c.Base->∃ r,Xf st (.l1 0)=some r/\(r=true↔Qds c):=by
  intro g1 g2 g3 hT
  have j3:Qs4 c->(∀ x∈c.Base,c.Keys.Lo<=x.Key/\x.Key < c.Keys.Hi)->∀ y,(y=true->¬ Qds c)->(y=false->c.Qag=true->c.Qa1=true/\c.Held.length=0)->∃ r,Qk.j3 (trO c) y=some (.inr r)/\(r=true↔Qds c):=by
   intro hkn hbk y h1 h2
   unfold Qk.j3 Qk.j4
   cases y with
   | true=>exact ⟨false,by rw [if_pos rfl],by simpa using h1 rfl⟩
   | false=>
    rw [if_neg (by simp)]
    obtain ⟨s,q3,q4⟩:=Wjd hf (Qix g2) hkn.s
    rw [q3,Option.bind_some]
    by_cases hs:s=true
    ·have hl:=q4.1 hs
     rw [if_pos hs]
     obtain ⟨t,q5,q6⟩:=Whe hf (Qix g2)
     rw [q5,Option.bind_some]
     exact ⟨t,rfl,q6.trans ⟨fun h=>⟨g1,g2,g3,hT,hbk,h2 rfl,hkn,hl,h⟩,fun h=>h.wt⟩⟩
    rw [if_neg hs]
    exact ⟨false,rfl,by simp;exact fun h=>hs (q4.2 h.lg)⟩
  by_cases hbk:∀ x∈c.Base,c.Keys.Lo<=x.Key/\x.Key < c.Keys.Hi
  ·have hl2:∃ r,Xf st (.l2 0)=some r/\(r=true↔Qds c):=by
    by_cases hkn:Qs4 c
    ·have:∃ r,st (.l2 (c.Qs.length:Int))=some (.inr r)/\(r=true↔Qds c):=by
      simp only [st,Qk.step,Qk.l2,show (trO c).Qs=c.Qs.map trN from rfl,List.length_map,Int.lt_irrefl,if_false,show (trO c).Qag=c.Qag from rfl,show (trO c).Qa1=c.Qa1 from rfl,show (trO c).Held=c.Held.map trW from rfl]
      by_cases hS:c.Qag=true
      ·rw [if_pos hS]
       by_cases hF:c.Qa1=true
       ·rw [if_pos hF]
        refine j3 hkn hbk _ (fun h hc=>?_) (fun h _=>⟨hF, ?_⟩)
        ·have:=(hc.Qxn hS).2
         simp at h
         simp [this] at h
        simp at h
        simp [h]
       rw [if_neg hF]
       exact j3 hkn hbk _ (fun _ hc=>hF (hc.Qxn hS).1) (by simp)
      rw [if_neg hS]
      exact j3 hkn hbk _ (by simp) (fun _ h=>absurd h hS)
     obtain ⟨r,t1,t2⟩:=this
     obtain ⟨s,u1,u2⟩:=Qim (step:=st) (n:=c.Qs.length) (fun i=>.l2 (i:Int)) (Qqg c) (E:=Qds c) ⟨r,by rw [Zc,t1];rfl,t2⟩ (fun i hi=>by
      have Xu:(0:Int)<=(i:Int)/\(i:Int) < (c.Qs.length:Int):=by omega
      left
      refine ⟨?_,hkn i hi⟩
      obtain ⟨k1,k2,k3,k4⟩:=hkn i hi
      simp only [st,Qk.step,Qk.l2,bnd,show (trO c).Qs=c.Qs.map trN from rfl,List.length_map,Xu.2,if_true,Xu,and_self,show (i:Int).toNat=i from rfl,Qlc c.Qs hi]
      rw [show (trN (c.Qs.getD i Qo.z)).Client=(c.Qs.getD i Qo.z).Client from rfl,show (trN (c.Qs.getD i Qo.z)).Seq=(c.Qs.getD i Qo.z).Seq from rfl,show (trN (c.Qs.getD i Qo.z)).Time=(c.Qs.getD i Qo.z).Time from rfl]
      rw [if_pos ((Qfi _ _ _).2 k1),if_pos ((Qfi _ _ _).2 k2),(Qfi _ _ _).2 k3]
      simp only [Qk.j5,Qk.j6,Bool.not_true,Bool.false_eq_true,if_false,show (trO c).Qs=c.Qs.map trN from rfl,List.length_map,wr1 hi (by omega:c.Qs.length<=9223372036854775807)]
      by_cases a4:(i:Int) > 0
      ·rw [if_pos a4,Qvq (by omega) (by omega),if_pos (by omega),show ((i - 1:Nat):Int).toNat=i - 1 from rfl,show (i:Int).toNat=i from rfl,Qlc c.Qs hi,Qlc c.Qs (by omega:i - 1 < c.Qs.length)]
       have:=k4 (by omega)
       unfold KL at this
       rw [show (trN (c.Qs.getD i Qo.z)).Client=(c.Qs.getD i Qo.z).Client from rfl,show (trN (c.Qs.getD i Qo.z)).Seq=(c.Qs.getD i Qo.z).Seq from rfl,show (trN (c.Qs.getD (i - 1) Qo.z)).Client=(c.Qs.getD (i - 1) Qo.z).Client from rfl,show (trN (c.Qs.getD (i - 1) Qo.z)).Seq=(c.Qs.getD (i - 1) Qo.z).Seq from rfl]
       rw [if_neg (by omega)]
       by_cases a5:(c.Qs.getD (i - 1) Qo.z).Client=(c.Qs.getD i Qo.z).Client
       ·rw [if_pos a5,decide_eq_false (by omega),if_neg (by simp)]
       rw [if_neg a5]
      rw [if_neg a4])
     rw [show ((0:Nat):Int)=0 from rfl] at u1
     exact ⟨s,u1,u2.trans ⟨fun h=>h.2,fun h=>⟨hkn,h⟩⟩⟩
    refine ⟨false, ?_,by simp;exact fun h=>hkn h.kn⟩
    obtain ⟨s,u1,u2⟩:=Qbi (step:=st) (n:=c.Qs.length) (fun i (_:Unit)=>Qk.S.l2 (i:Int)) (fun i _=>∀ j,j < i->Qqg c j) (fun r=>r=false)
     (fun _ h=>absurd h hkn) (fun i _ hi h=>by
     have Xu:(0:Int)<=(i:Int)/\(i:Int) < (c.Qs.length:Int):=by omega
     have Qiq:Qqg c i->∀ j,j < i+1->Qqg c j:=fun h1 j hj=>by
      by_cases hj2:j=i
      ·rw [hj2];exact h1
      exact h j (by omega)
     unfold Qqg at Qiq
     simp only [st,Qk.step,Qk.l2,bnd,show (trO c).Qs=c.Qs.map trN from rfl,List.length_map,Xu.2,if_true,Xu,and_self,show (i:Int).toNat=i from rfl,Qlc c.Qs hi]
     rw [show (trN (c.Qs.getD i Qo.z)).Client=(c.Qs.getD i Qo.z).Client from rfl,show (trN (c.Qs.getD i Qo.z)).Seq=(c.Qs.getD i Qo.z).Seq from rfl,show (trN (c.Qs.getD i Qo.z)).Time=(c.Qs.getD i Qo.z).Time from rfl]
     by_cases k1:1<=(c.Qs.getD i Qo.z).Client/\(c.Qs.getD i Qo.z).Client<=1048576
     ·rw [if_pos ((Qfi _ _ _).2 k1)]
      by_cases k2:1<=(c.Qs.getD i Qo.z).Seq/\(c.Qs.getD i Qo.z).Seq<=1073741824
      ·rw [if_pos ((Qfi _ _ _).2 k2)]
       by_cases k3:0<=(c.Qs.getD i Qo.z).Time/\(c.Qs.getD i Qo.z).Time<=1099511627775
       ·rw [(Qfi _ _ _).2 k3]
        simp only [Qk.j5,Qk.j6,Bool.not_true,Bool.false_eq_true,if_false,show (trO c).Qs=c.Qs.map trN from rfl,List.length_map,wr1 hi (by omega:c.Qs.length<=9223372036854775807)]
        by_cases a4:(i:Int) > 0
        ·rw [if_pos a4,Qvq (by omega) (by omega),if_pos (by omega),show ((i - 1:Nat):Int).toNat=i - 1 from rfl,show (i:Int).toNat=i from rfl,Qlc c.Qs hi,Qlc c.Qs (by omega:i - 1 < c.Qs.length)]
         rw [show (trN (c.Qs.getD i Qo.z)).Client=(c.Qs.getD i Qo.z).Client from rfl,show (trN (c.Qs.getD i Qo.z)).Seq=(c.Qs.getD i Qo.z).Seq from rfl,show (trN (c.Qs.getD (i - 1) Qo.z)).Client=(c.Qs.getD (i - 1) Qo.z).Client from rfl,show (trN (c.Qs.getD (i - 1) Qo.z)).Seq=(c.Qs.getD (i - 1) Qo.z).Seq from rfl]
         unfold KL at Qiq
         by_cases a5:(c.Qs.getD (i - 1) Qo.z).Client > (c.Qs.getD i Qo.z).Client
         ·right
          exact ⟨false,by rw [if_pos a5];rfl,rfl⟩
         rw [if_neg a5]
         by_cases a6:(c.Qs.getD (i - 1) Qo.z).Client=(c.Qs.getD i Qo.z).Client
         ·rw [if_pos a6]
          by_cases a7:(c.Qs.getD (i - 1) Qo.z).Seq>=(c.Qs.getD i Qo.z).Seq
          ·right
           exact ⟨false,by rw [decide_eq_true a7];rfl,rfl⟩
          left
          exact ⟨(),by rw [decide_eq_false a7,if_neg (by simp)],Qiq ⟨k1,k2,k3,fun _=>by omega⟩⟩
         left
         exact ⟨(),by rw [if_neg a6],Qiq ⟨k1,k2,k3,fun _=>by omega⟩⟩
        left
        exact ⟨(),by rw [if_neg a4],Qiq ⟨k1,k2,k3,fun h=>by omega⟩⟩
       right
       refine ⟨false, ?_,rfl⟩
       rw [show Zf (c.Qs.getD i Qo.z).Time 0 1099511627775=false by rw [Bool.eq_false_iff,ne_eq,Qfi];exact k3]
       rfl
      right
      exact ⟨false,by rw [if_neg fun h=>k2 ((Qfi _ _ _).1 h)];rfl,rfl⟩
     right
     exact ⟨false,by rw [if_neg fun h=>k1 ((Qfi _ _ _).1 h)];rfl,rfl⟩) 0 () (Nat.zero_le _) (fun j hj=>by omega)
    rw [show ((0:Nat):Int)=0 from rfl] at u1
    rw [u1,u2]
   obtain ⟨r,t1,t2⟩:=hl2
   obtain ⟨s,u1,u2⟩:=Qim (step:=st) (n:=c.Base.length) (fun i=>.l1 (i:Int)) (fun i=>c.Keys.Lo<=(c.Base.getD i Qa.z).Key/\(c.Base.getD i Qa.z).Key < c.Keys.Hi) (E:=Qds c)
    ⟨r,by
     have e:st (.l1 (c.Base.length:Int))=some (.inl (.l2 0)):=by simp [st,Qk.step,Qk.l1,trO]
     rw [Zc,e];exact t1,t2⟩ (fun i hi=>by
     have Xu:(0:Int)<=(i:Int)/\(i:Int) < (c.Base.length:Int):=by omega
     have hx:=hbk _ (Qbo (z:=Qa.z) hi)
     left
     refine ⟨?_,hx⟩
     simp only [st,Qk.step,Qk.l1,Qk.j2,show (trO c).Base=c.Base.map tr from rfl,List.length_map,Xu.2,if_true,Xu,and_self,show (i:Int).toNat=i from rfl,Qnc tr c.Base (z:=Qa.z) hi,show (trO c).Keys.Lo=c.Keys.Lo from rfl,show (trO c).Keys.Hi=c.Keys.Hi from rfl,wr1 hi (by omega:c.Base.length<=9223372036854775807)]
     rw [show (tr (c.Base.getD i Qa.z)).Key=(c.Base.getD i Qa.z).Key from rfl,if_neg (by omega),decide_eq_false (by omega),if_neg (by simp)])
   rw [show ((0:Nat):Int)=0 from rfl] at u1
   exact ⟨s,u1,u2.trans ⟨fun h=>h.2,fun h=>⟨Ql8.2 hbk,h⟩⟩⟩
  refine ⟨false, ?_,by simp;exact fun h=>hbk h.bk⟩
  obtain ⟨s,u1,u2⟩:=Qbi (step:=st) (n:=c.Base.length) (fun i (_:Unit)=>Qk.S.l1 (i:Int)) (fun i _=>∀ x∈c.Base.take i,c.Keys.Lo<=x.Key/\x.Key < c.Keys.Hi) (fun r=>r=false)
   (fun _ h=>by rw [Qa3 (Nat.le_refl _)] at h;exact absurd h hbk) (fun i _ hi h=>by
   have Xu:(0:Int)<=(i:Int)/\(i:Int) < (c.Base.length:Int):=by omega
   have hx:=take_at (l:=c.Base) (z:=Qa.z) hi
   simp only [st,Qk.step,Qk.l1,Qk.j2,show (trO c).Base=c.Base.map tr from rfl,List.length_map,Xu.2,if_true,Xu,and_self,show (i:Int).toNat=i from rfl,Qnc tr c.Base (z:=Qa.z) hi,show (trO c).Keys.Lo=c.Keys.Lo from rfl,show (trO c).Keys.Hi=c.Keys.Hi from rfl,wr1 hi (by omega:c.Base.length<=9223372036854775807)]
   rw [show (tr (c.Base.getD i Qa.z)).Key=(c.Base.getD i Qa.z).Key from rfl]
   by_cases a1:(c.Base.getD i Qa.z).Key < c.Keys.Lo
   ·right;exact ⟨false,by rw [if_pos a1],rfl⟩
   rw [if_neg a1]
   by_cases a2:(c.Base.getD i Qa.z).Key>=c.Keys.Hi
   ·right;exact ⟨false,by rw [decide_eq_true a2];rfl,rfl⟩
   left
   refine ⟨(),by rw [decide_eq_false a2,if_neg (by simp)],fun x hx2=>?_⟩
   rw [hx] at hx2
   rcases List.mem_append.1 hx2 with h3 | h3
   ·exact h x h3
   simp only [List.mem_singleton] at h3
   subst h3
   omega) 0 () (Nat.zero_le _) (by simp)
  rw [show ((0:Nat):Int)=0 from rfl] at u1
  rw [u1,u2]
 unfold Qk
 have jt:Qk.j1 (trO c) true=some false:=rfl
 rw [show (trO c).ID=c.ID from rfl,show (trO c).Keys=toR c.Keys from rfl,Qfk,show pr (toR c.Keys)=pa c.Keys from rfl,show (trO c).Clock=c.Clock from rfl,show (trO c).Held.length=c.Held.length by simp [trO],show (trO c).Qs.length=c.Qs.length by simp [trO]]
 by_cases h1:Zf c.ID 1 65536=true
 ·rw [if_pos h1]
  by_cases h2:Ok (pa c.Keys)
  ·rw [if_pos (decide_eq_true h2)]
   by_cases h3:Zf c.Clock 0 1099511627775=true
   ·rw [if_pos h3,if_neg (Wgn hf)]
    obtain ⟨r,q1,q2⟩:=Qw5 c.Base (by omega)
    rw [show (trO c).Base=c.Base.map tr from rfl,q1,Option.bind_some]
    by_cases hr:r=true
    ·rw [hr]
     exact tail ((Qfi _ _ _).1 h1) h2 ((Qfi _ _ _).1 h3) (q2.1 hr)
    rw [show r=false by simpa using hr]
    exact ⟨false,jt,by simp;exact fun h=>hr (q2.2 h.base)⟩
   rw [if_neg h3]
   exact ⟨false,jt,by simp;exact fun h=>h3 ((Qfi _ _ _).2 h.clock)⟩
  rw [if_neg (by simpa using h2)]
  exact ⟨false,jt,by simp;exact fun h=>h2 h.keys⟩
 rw [if_neg h1]
 exact ⟨false,jt,by simp;exact fun h=>h1 ((Qfi _ _ _).2 h.id)⟩
end Go.SyP
