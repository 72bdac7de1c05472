/- Hold: how stamps stand; states of the heap. -/
import Derived.Test.YticmlllaimjdcaaGreatP15zmA
set_option linter.unusedVariables false
set_option linter.unusedSimpArgs false
namespace Go.SyP
open Go Go.Sy
def Qi0 (x y:Int):Int:=if x < y then -1 else if x > y then 1 else 0
def Qya (a b:Jk):Int:=if Qi0 a.Time b.Time≠0 then Qi0 a.Time b.Time else if Qi0 a.Client b.Client≠0 then Qi0 a.Client b.Client else Qi0 a.Seq b.Seq
theorem Qqo (x y:Int):Zt x y=Qi0 x y:=by
 unfold Zt cmp_isNaN_int Qi0
 by_cases h1:x < y
 ·simp [h1]
 by_cases h2:x > y
 ·simp [h1,h2]
 simp [h1,h2]
theorem Qjt (a b:Jk):Qcw a b=some (Qya a b):=by
 unfold Qcw Qa8 Qya
 rw [Qqo,Qqo,Qqo]
 generalize Qi0 a.Time b.Time=x
 generalize Qi0 a.Client b.Client=y
 generalize Qi0 a.Seq b.Seq=z
 have w0:IntKind.wrap .i64 ((0:Int)+1)=1:=by decide
 have w1:IntKind.wrap .i64 ((1:Int)+1)=2:=by decide
 have w2:IntKind.wrap .i64 ((2:Int)+1)=3:=by decide
 rw [Zc]
 simp only [Qa8.step,Qa8.l1,List.length_cons,List.length_nil]
 by_cases hx:x=0
 ·subst hx
  simp only [w0,stk]
  rw [show (if (0:Int) < ((0+1+1+1:Nat):Int) then _ else _)=_ from if_pos (by decide),if_pos (by decide)]
  simp only [List.getD_cons_zero,Int.toNat_zero,if_true]
  rw [Zc]
  simp only [Qa8.step,Qa8.l1,List.length_cons,List.length_nil,w1]
  rw [if_pos (by decide),if_pos (by decide)]
  simp only [show (1:Int).toNat=1 from rfl,List.getD_cons_succ,List.getD_cons_zero]
  by_cases hy:y=0
  ·subst hy
   simp only [if_true,stk]
   rw [Zc]
   simp only [Qa8.step,Qa8.l1,List.length_cons,List.length_nil,w2]
   rw [if_pos (by decide),if_pos (by decide)]
   simp only [show (2:Int).toNat=2 from rfl,List.getD_cons_succ,List.getD_cons_zero]
   by_cases hz:z=0
   ·subst hz
    simp only [if_true,stk]
    rw [Zc]
    simp [Qa8.step,Qa8.l1,stk]
   simp [hz,stk]
  simp [hy,stk]
 rw [if_pos (by decide),if_pos (by decide)]
 simp [hx,stk]
def ltS (a b:Jk):Prop:=a.Time < b.Time\/(a.Time=b.Time/\(a.Client < b.Client\/(a.Client=b.Client/\a.Seq < b.Seq)))
instance (a b:Jk):Decidable (ltS a b):=by unfold ltS;infer_instance
theorem Qoq (a b:Jk):Qya a b < 0↔ltS a b:=by
 unfold Qya Qi0 ltS
 split<;>split<;>(try split)<;>(try split)<;>omega
def leS (a b:Jk):Prop:=¬ ltS b a
theorem Wi3 (a:Jk):leS a a:=by unfold leS ltS;omega
theorem Qq3 {a b c:Jk} (h:leS a b) (k:leS b c):leS a c:=by unfold leS ltS at *;omega
theorem Qwj {a b:Jk} (h:ltS a b):leS a b:=by unfold leS ltS at *;omega
def Qdi (h:Yl):Jk:=⟨h.Time,h.M.Client,h.M.Seq⟩
structure HS (dom l:List Nat) (M:Nat->Qh):Prop where
 sub:∀ a∈l,a∈dom
 nd:l.Nodup
 at_:∀ i,i < l.length->(M (l.getD i 0)).at_=(i:Int)
 len:l.length<=1000000000000000000
theorem Qg5 {l:List Nat} {i:Nat} (h:i < l.length):l.getD i 0∈l:=by
 rw [List.getD_eq_getElem?_getD,List.getElem?_eq_getElem h]
 exact List.getElem_mem h
theorem getD_inj {l:List Nat} (hn:l.Nodup) {i j:Nat} (hi:i < l.length) (hj:j < l.length) (h:l.getD i 0=l.getD j 0):i=j:=by
 rw [List.getD_eq_getElem?_getD,List.getD_eq_getElem?_getD,List.getElem?_eq_getElem hi,List.getElem?_eq_getElem hj] at h
 rcases Nat.lt_trichotomy i j with k | k | k
 ·exact absurd h (List.pairwise_iff_getElem.1 hn i j hi hj k)
 ·exact k
 exact absurd h.symm (List.pairwise_iff_getElem.1 hn j i hj hi k)
def Qf3 (l:List Nat) (i j:Nat):List Nat:=(l.set i (l.getD j 0)).set j (l.getD i 0)
theorem Qwx (l:List Nat) (i j:Nat):(Qf3 l i j).length=l.length:=by simp [Qf3]
theorem Qp2 {l:List Nat} {i j:Nat} (hi:i < l.length) (hj:j < l.length):(Qf3 l i j).Perm l:=by
 have:=List.set_set_perm hi hj
 unfold Qf3
 simpa [hi,hj] using this
theorem Qp1 {l:List Nat} {i j:Nat} (hi:i < l.length) (hj:j < l.length) (k:Nat):(Qf3 l i j).getD k 0=if k=j then l.getD i 0 else if k=i then l.getD j 0 else l.getD k 0:=by
 unfold Qf3
 by_cases h1:k=j
 ·subst h1
  simp [hj]
 by_cases h2:k=i
 ·subst h2
  simp [h1,Ne.symm h1,hi,List.getElem?_set]
 simp [h1,h2,Ne.symm h1,Ne.symm h2,List.getElem?_set]
def setAt (x:Qh) (i:Int):Qh:={ x with at_:=i }
def swM (M:Nat->Qh) (l:List Nat) (i j:Nat):Nat->Qh:=
 let M1:=upd M (l.getD i 0) (setAt (M (l.getD i 0)) i)
 upd M1 (l.getD j 0) (setAt (M1 (l.getD j 0)) j)
theorem Wmo (M:Nat->Qh) (l:List Nat) (i j a:Nat):(swM M l i j a).h=(M a).h:=by
 simp only [swM,upd]
 split
 ·rename_i h
  subst h
  simp only [setAt]
  split
  ·rename_i h
   rw [h]
  rfl
 split
 ·rename_i h
  subst h
  rfl
 rfl
theorem Wkv {dom l:List Nat} {M:Nat->Qh} (h:HS dom l M) {i j:Nat} (hi:i < l.length) (hj:j < l.length):HS dom (Qf3 l i j) (swM M (Qf3 l i j) i j):=by
 have p:=Qp2 hi hj
 have hlen:=Qwx l i j
 refine ⟨fun a ha=>h.sub a (p.mem_iff.1 ha),p.nodup_iff.2 h.nd,fun k hk=>?_,by rw [hlen];exact h.len⟩
 have hnd:(Qf3 l i j).Nodup:=p.nodup_iff.2 h.nd
 by_cases hkj:k=j
 ·subst hkj
  simp [swM,upd,setAt]
 have hne:(Qf3 l i j).getD k 0≠(Qf3 l i j).getD j 0:=fun e=>hkj (getD_inj hnd hk (by omega) e)
 by_cases hki:k=i
 ·subst hki
  simp only [swM,upd]
  rw [if_neg hne,if_pos trivial]
  rfl
 have hne2:(Qf3 l i j).getD k 0≠(Qf3 l i j).getD i 0:=fun e=>hki (getD_inj hnd hk (by omega) e)
 simp only [swM,upd]
 rw [if_neg hne,if_neg hne2,Qp1 hi hj,if_neg hkj,if_neg hki]
 exact h.at_ k (by omega)
theorem Wj7 {dom l:List Nat} {M:Nat->Qh} (h:HS dom l M) {i j:Nat} (hi:i < l.length) (hj:j < l.length):
  Wl ⟨⟨l⟩⟩ i j dom M=some (⟨⟨Qf3 l i j⟩⟩,swM M (Qf3 l i j) i j):=by
 have p:=Qp2 hi hj
 have hlen:=Qwx l i j
 unfold Wl
 simp only [bnd,Int.toNat_natCast]
 refine (if_pos (by omega)).trans ((if_pos (by omega)).trans ((if_pos (by simp;omega)).trans ((if_pos ?_).trans ((if_pos ?_).trans ((if_pos ?_).trans ((if_pos ?_).trans ?_))))))
 ·simp;omega
 ·simp;omega
 ·exact h.sub _ (p.mem_iff.1 (Qg5 (l:=Qf3 l i j) (by omega)))
 ·exact h.sub _ (p.mem_iff.1 (Qg5 (l:=Qf3 l i j) (by omega)))
 rfl
theorem Qzk {dom:List Nat} {M:Nat->Qh} {a:Nat} (h:a∈dom):Qe5 a dom M=some (Qdi (M a).h):=by
 unfold Qe5
 rw [if_pos h]
 rfl
theorem Wj6 {dom l:List Nat} {M:Nat->Qh} (h:HS dom l M) {i j:Nat} (hi:i < l.length) (hj:j < l.length):
  Qgk ⟨⟨l⟩⟩ i j dom M=some (decide (ltS (Qdi (M (l.getD i 0)).h) (Qdi (M (l.getD j 0)).h)),⟨⟨l⟩⟩):=by
 unfold Qgk
 simp only [Int.toNat_natCast]
 rw [if_pos (by omega),Qzk (h.sub _ (Qg5 hi)),Option.bind_some,if_pos (by omega),Qzk (h.sub _ (Qg5 hj)),Option.bind_some,Qjt,Option.bind_some]
 simp only [Qoq]
end Go.SyP
namespace Go.SyP
open Go Go.Sy
def Kf (κ:Nat->Jk) (l:List Nat) (i:Nat):Jk:=κ (l.getD i 0)
def Heap (κ:Nat->Jk) (l:List Nat) (n:Nat):Prop:=∀ c,1<=c->c < n->leS (Kf κ l ((c - 1) / 2)) (Kf κ l c)
structure UpI (κ:Nat->Jk) (l:List Nat) (n j:Nat):Prop where
 rest:∀ c,1<=c->c < n->c≠j->leS (Kf κ l ((c - 1) / 2)) (Kf κ l c)
 Qtn:∀ c,1<=j->1<=c->c < n->(c - 1) / 2=j->leS (Kf κ l ((j - 1) / 2)) (Kf κ l c)
structure Wm6 (κ:Nat->Jk) (l:List Nat) (n i:Nat):Prop where
 rest:∀ c,1<=c->c < n->c≠i->(c - 1) / 2≠i->leS (Kf κ l ((c - 1) / 2)) (Kf κ l c)
 Qtn:∀ c,1<=i->1<=c->c < n->(c - 1) / 2=i->leS (Kf κ l ((i - 1) / 2)) (Kf κ l c)
structure Qlu (dom:List Nat) (n:Nat) (l0:List Nat) (M0:Nat->Qh) (l:List Nat) (M:Nat->Qh):Prop where
 hs:HS dom l M
 perm:l.Perm l0
 same:∀ a,(M a).h=(M0 a).h
 tail:∀ k,n<=k->l.getD k 0=l0.getD k 0
theorem Qlu.refl {dom:List Nat} {n:Nat} {l:List Nat} {M:Nat->Qh} (h:HS dom l M):Qlu dom n l M l M:=⟨h,.refl _,fun _=>rfl,fun _ _=>rfl⟩
theorem Qlu.len {dom:List Nat} {n:Nat} {l0 l:List Nat} {M0 M:Nat->Qh} (h:Qlu dom n l0 M0 l M):l.length=l0.length:=h.perm.length_eq
theorem Qlu.swap {dom:List Nat} {n:Nat} {l0 l:List Nat} {M0 M:Nat->Qh} (h:Qlu dom n l0 M0 l M) (hn:n<=l.length) {i j:Nat} (hi:i < n) (hj:j < n):Qlu dom n l0 M0 (Qf3 l i j) (swM M (Qf3 l i j) i j):=
 ⟨Wkv h.hs (by omega) (by omega),(Qp2 (by omega) (by omega)).trans h.perm,fun a=>(Wmo _ _ _ _ _).trans (h.same a),fun k hk=>by
  rw [Qp1 (by omega) (by omega),if_neg (by omega),if_neg (by omega)]
  exact h.tail k hk⟩
theorem Qrk {κ:Nat->Jk} {l:List Nat} {i j:Nat} (hi:i < l.length) (hj:j < l.length) (k:Nat):Kf κ (Qf3 l i j) k=if k=j then Kf κ l i else if k=i then Kf κ l j else Kf κ l k:=by
 unfold Kf
 rw [Qp1 hi hj]
 split
 ·rfl
 split<;>rfl
theorem Wk5 {dom l0:List Nat} {M0:Nat->Qh} {n j:Nat} (h:HS dom l0 M0) (hn:n<=l0.length) (hj:j < n) (hu:UpI (fun a=>Qdi (M0 a).h) l0 n j):
  ∃ l M,Jb ⟨⟨l0⟩⟩ j dom M0=some (⟨⟨l⟩⟩,M)/\Qlu dom n l0 M0 l M/\Heap (fun a=>Qdi (M0 a).h) l n:=by
 have key:=Wan (step:=Jb.step dom)
  (fun s=>∃ (q:Nat) (M:Nat->Qh) (l:List Nat),s=.l1 q M l/\q < n/\Qlu dom n l0 M0 l M/\UpI (fun a=>Qdi (M0 a).h) l n q)
  (fun s=>match s with | .l1 x _ _=>x.toNat)
  (fun r=>∃ l M,r=(⟨⟨l⟩⟩,M)/\Qlu dom n l0 M0 l M/\Heap (fun a=>Qdi (M0 a).h) l n) ?_ (.l1 j M0 l0) ⟨j,M0,l0,rfl,hj,.refl h,hu⟩
 ·obtain ⟨r,h1,l,M,rfl,h2,h3⟩:=key
  exact ⟨l,M,h1,h2,h3⟩
 rintro s ⟨q,M,l,rfl,hq,hm,hu⟩
 have hlen:=hm.len
 have hL:=hm.hs.len
 simp only [Jb.step,Jb.l1,bnd]
 by_cases h0:q=0
 ·subst h0
  right
  refine ⟨(⟨⟨l⟩⟩,M), ?_,l,M,rfl,hm,fun c h1 h2=>hu.rest c h1 h2 (by omega)⟩
  rw [if_pos (by decide)]
  rfl
 have hp:IntKind.wrap .i64 (Int.tdiv (IntKind.wrap .i64 ((q:Int) - 1)) 2)=(((q - 1) / 2:Nat):Int):=by
  have e1:IntKind.wrap .i64 ((q:Int) - 1)=((q - 1:Nat):Int):=by rw [wr (by omega)];omega
  have e2:Int.tdiv ((q - 1:Nat):Int) 2=(((q - 1) / 2:Nat):Int):=by rw [Int.tdiv_eq_ediv_of_nonneg (by omega)];omega
  rw [e1,e2,wr (by omega)]
 rw [hp,if_neg (by omega),Wj6 hm.hs (by omega) (by omega),Option.bind_some]
 have hpq:(q - 1) / 2 < q:=by omega
 have hK:∀ i,Qdi (M (l.getD i 0)).h=Kf (fun a=>Qdi (M0 a).h) l i:=fun i=>by rw [hm.same];rfl
 simp only [hK]
 by_cases hl:ltS (Kf (fun a=>Qdi (M0 a).h) l q) (Kf (fun a=>Qdi (M0 a).h) l ((q - 1) / 2))
 ·left
  refine ⟨.l1 (((q - 1) / 2:Nat):Int) (swM M (Qf3 l ((q - 1) / 2) q) ((q - 1) / 2) q) (Qf3 l ((q - 1) / 2) q), ?_,⟨_,_,_,rfl,by omega,hm.swap (by omega) (by omega) (by omega), ?_, ?_⟩,by simp;omega⟩
  ·simp only [Jb.j1,decide_eq_true hl,Bool.not_true,Bool.false_eq_true,if_false]
   rw [Wj7 hm.hs (by omega) (by omega)]
   rfl
  ·intro c h1 h2 h3
   rw [Qrk (by omega) (by omega),Qrk (by omega) (by omega)]
   by_cases e1:c=q
   ·subst e1
    rw [if_neg (by omega),if_pos rfl,if_pos rfl]
    exact Qwj hl
   rw [if_neg (show ¬ c=q from e1),if_neg (show ¬ c=(q - 1) / 2 from h3)]
   by_cases e2:(c - 1) / 2=(q - 1) / 2
   ·rw [if_neg (by omega),if_pos e2]
    refine Qq3 (Qwj hl) ?_
    rw [<- e2]
    exact hu.rest c h1 h2 e1
   by_cases e3:(c - 1) / 2=q
   ·rw [if_pos e3]
    exact hu.Qtn c (by omega) h1 h2 e3
   rw [if_neg e3,if_neg e2]
   exact hu.rest c h1 h2 e1
  intro c h1 h2 h3 h4
  rw [Qrk (by omega) (by omega),Qrk (by omega) (by omega)]
  rw [if_neg (show ¬ ((q - 1) / 2 - 1) / 2=q by omega),if_neg (show ¬ ((q - 1) / 2 - 1) / 2=(q - 1) / 2 by omega)]
  have e0:=hu.rest ((q - 1) / 2) (by omega) (by omega) (by omega)
  by_cases e1:c=q
  ·rw [if_pos e1]
   exact e0
  rw [if_neg e1,if_neg (by omega)]
  refine Qq3 e0 ?_
  rw [<- h4]
  exact hu.rest c h2 h3 e1
 right
 refine ⟨(⟨⟨l⟩⟩,M), ?_,l,M,rfl,hm,fun c h1 h2=>?_⟩
 ·simp only [Jb.j1,decide_eq_false hl,Bool.not_false,if_true]
 by_cases e1:c=q
 ·subst e1
  exact hl
 exact hu.rest c h1 h2 e1
end Go.SyP
namespace Go.SyP
open Go Go.Sy
def isK (c s:Int) (h:Yl):Bool:=h.M.Client == c && h.M.Seq == s
theorem Qot {c s:Int} {h:Yl}:isK c s h=true↔h.M.Client=c/\h.M.Seq=s:=by simp [isK]
def Qjf (a b:Yl):Prop:=¬ (a.M.Client=b.M.Client/\a.M.Seq=b.M.Seq)
theorem Qjf.symm {a b:Yl} (h:Qjf a b):Qjf b a:=fun k=>h ⟨k.1.symm,k.2.symm⟩
def ltH (a b:Yl):Prop:=ltS (Qdi a) (Qdi b)
instance (a b:Yl):Decidable (ltH a b):=by unfold ltH;infer_instance
theorem Wgv {a b:Yl} (h:Qjf a b):ltH a b\/ltH b a:=by
 unfold ltH ltS Qdi Qjf at *
 simp only
 omega
theorem Wgw {a b c:Yl} (h:ltH a b) (k:ltH b c):ltH a c:=by unfold ltH ltS at *;omega
structure Good (L:List Yl):Prop where
 up:L.Pairwise ltH
 apart:L.Pairwise Qjf
 small:∀ h∈L,h.M.Pairs.length<=1000000
structure QL where
 l:List Yl
 good:Good l
theorem uniq {L:List Yl} (hp:L.Pairwise Qjf) {a b:Yl} (ha:a∈L) (hb:b∈L) (h:a.M.Client=b.M.Client/\a.M.Seq=b.M.Seq):a=b:=by
 induction L with
 | nil=>cases ha
 | cons x xs ih=>
  rw [List.pairwise_cons] at hp
  rcases List.mem_cons.1 ha with e1 | k1<;>rcases List.mem_cons.1 hb with e2 | k2
  ·rw [e1,e2]
  ·subst e1;exact absurd h (hp.1 b k2)
  ·subst e2;exact absurd ⟨h.1.symm,h.2.symm⟩ (hp.1 a k1)
  exact ih hp.2 k1 k2
def Qi5 (x:Yl):List Yl->List Yl
 | []=>[x]
 | y :: ys=>if ltH x y then x :: y :: ys else y :: Qi5 x ys
theorem Qks (x:Yl):∀ L,(Qi5 x L).Perm (x :: L)
 | []=>.refl _
 | y :: ys=>by
  unfold Qi5
  split
  ·exact .refl _
  exact ((Qks x ys).cons y).trans (.swap x y ys)
theorem Wak {x:Yl}:∀ {L:List Yl},L.Pairwise ltH->(∀ y∈L,Qjf x y)->(Qi5 x L).Pairwise ltH
 | [],_,_=>by simp [Qi5]
 | y :: ys,h,ha=>by
  rw [List.pairwise_cons] at h
  unfold Qi5
  split
  ·rename_i hl
   refine List.pairwise_cons.2 ⟨fun z hz=>?_,List.pairwise_cons.2 h⟩
   rcases List.mem_cons.1 hz with rfl | hz
   ·exact hl
   exact Wgw hl (h.1 z hz)
  rename_i hl
  have hyx:ltH y x:=(Wgv (ha y (List.mem_cons_self ..))).resolve_left hl
  refine List.pairwise_cons.2 ⟨fun z hz=>?_,Wak h.2 fun z hz=>ha z (List.mem_cons_of_mem _ hz)⟩
  rcases List.mem_cons.1 ((Qks x ys).mem_iff.1 hz) with rfl | hz
  ·exact hyx
  exact h.1 z hz
theorem Qwi {x:Yl} {L:List Yl} (h:Good L) (ha:∀ y∈L,Qjf x y) (hx:x.M.Pairs.length<=1000000):Good (Qi5 x L):=by
 have p:=Qks x L
 refine ⟨Wak h.up ha,(p.pairwise_iff fun h=>h.symm).2 (List.pairwise_cons.2 ⟨ha,h.apart⟩),fun y hy=>?_⟩
 rcases List.mem_cons.1 (p.mem_iff.1 hy) with rfl | hy
 ·exact hx
 exact h.small y hy
def Wbh (c s:Int) (L:List Yl):List Yl:=L.filter fun h=>!isK c s h
theorem Wev {c s:Int} {L:List Yl} (h:Good L):Good (Wbh c s L):=
 ⟨h.up.filter _,h.apart.filter _,fun y hy=>h.small y (List.mem_filter.1 hy).1⟩
theorem Wbi {c s:Int} {L:List Yl} {x:Yl} (hx:isK c s x=true):∀ y∈Wbh c s L,Qjf x y:=by
 intro y hy
 have:=(List.mem_filter.1 hy).2
 intro k
 rw [Qot] at hx
 have:isK c s y=true:=Qot.2 ⟨k.1.symm.trans hx.1,k.2.symm.trans hx.2⟩
 simp [this] at *
def Qmj (c s:Int) (L:List Yl):Option Yl:=L.find? (isK c s)
theorem Qth {c s:Int} {L:List Yl} {x:Yl} (h:Qmj c s L=some x):x∈L/\isK c s x=true:=⟨List.mem_of_find?_eq_some h,List.find?_some h⟩
theorem Wkj {c s:Int} {L:List Yl} (hp:L.Pairwise Qjf) {x:Yl} (hx:x∈L) (hk:isK c s x=true):Qmj c s L=some x:=by
 cases e:Qmj c s L with
 | none=>
  have:=List.find?_eq_none.1 e x hx
  exact absurd hk this
 | some y=>
  obtain ⟨h1,h2⟩:=Qth e
  rw [Qot] at h2 hk
  rw [uniq hp h1 hx ⟨h2.1.trans hk.1.symm,h2.2.trans hk.2.symm⟩]
def Qnh (t:Int):Bool:=decide (t>=0) && decide (t<=1099511627775)
theorem Wjj (t:Int):Qee t=Qnh t:=by
 unfold Qee Qnh Qee.j1
 by_cases h:t>=0<;>simp [h]
def Qvn (x:Yl) (t:Int):Yl:=⟨x.M,t,true⟩
theorem Wik {c s t:Int} {L:List Yl} (h:Good L) {x:Yl} (e:Qmj c s L=some x):Good (Qi5 (Qvn x t) (Wbh c s L)):=
 Qwi (Wev h) (Wbi (x:=Qvn x t) (Qth e).2) (h.small x (Qth e).1)
def Wna (q:QL) (c s t:Int):Int × QL:=
 match e:Qmj c s q.l with
 | some x=>if x.Qcq then (7,q) else if t < x.Time\/Qnh t=false then (1,q) else (0,⟨Qi5 (Qvn x t) (Wbh c s q.l),Wik q.good e⟩)
 | none=>(4,q)
theorem Qs8 {h:Yl} {L:List Yl} (g:Good L) (e:Qmj h.M.Client h.M.Seq L=none) (hp:h.M.Pairs.length<=1000000):Good (Qi5 h L):=
 Qwi g (fun y hy k=>by
  have:=List.find?_eq_none.1 e y hy
  exact this (Qot.2 ⟨k.1.symm,k.2.symm⟩)) hp
def Qvj (q:QL) (h:Yl):Int × QL:=
 match e:Qmj h.M.Client h.M.Seq q.l with
 | some _=>(7,q)
 | none=>if hp:h.M.Pairs.length<=1000000 then (0,⟨Qi5 h q.l,Qs8 q.good e hp⟩) else (0,q)
def Qnd (q:QL) (clock:Int):Int:=
 match q.l with
 | []=>clock
 | x :: _=>IntKind.wrap .i64 (x.Time - 1)
end Go.SyP
