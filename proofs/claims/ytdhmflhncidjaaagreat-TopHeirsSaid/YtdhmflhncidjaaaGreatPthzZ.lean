/- Heirs: what cores know and have in one, clipped; tables in one. -/
import Derived.Test.YtdhmflhncidjaaaGreatPthzX
import Derived.Test.YtdhmflhncidjaaaGreatGthzW
set_option linter.unusedVariables false
set_option linter.unusedSimpArgs false
namespace Go.SyP
open Go Go.Sy Go.Proofs Go.Sort Sets
theorem Wmc (a b:List Qa) (ha:a.length<=2000) (hb:b.length<=2000):Xw [a,b]=some (a ++ b):=by
 unfold Xw
 have w0:IntKind.wrap .i64 ((0:Int)+(a.length:Int))=(a.length:Int):=by rw [wr (by omega)];omega
 have w1:IntKind.wrap .i64 ((a.length:Int)+(b.length:Int))=(a.length:Int)+(b.length:Int):=wr (by omega)
 have w2:IntKind.wrap .i64 ((0:Int)+1)=1:=by decide
 have w3:IntKind.wrap .i64 ((1:Int)+1)=2:=by decide
 rw [Ya]
 simp only [Xw.step,Xw.l1]
 rw [if_pos (by simp),if_pos (by simp),show ([a,b]:List (List Qa)).getD (0:Int).toNat []=a from rfl,w0]
 simp only [bnd]
 rw [if_neg (by omega),w2]
 simp only [Jq]
 rw [Ya]
 simp only [Xw.step,Xw.l1]
 rw [if_pos (by simp),if_pos (by simp),show ([a,b]:List (List Qa)).getD (1:Int).toNat []=b from rfl,w1]
 simp only [bnd]
 rw [if_neg (by omega),w3]
 simp only [Jq]
 rw [Ya]
 simp only [Xw.step,Xw.l1]
 rw [if_neg (by simp),if_pos (by omega)]
 simp only [Jq]
 rw [Ya]
 simp only [Xw.step,Xw.l2]
 rw [if_pos (by simp),if_pos (by simp),show ([a,b]:List (List Qa)).getD (0:Int).toNat []=a from rfl,w2,if_pos (by simp;omega)]
 simp only [Jq]
 rw [Ya]
 simp only [Xw.step,Xw.l2]
 rw [if_pos (by simp),if_pos (by simp),show ([a,b]:List (List Qa)).getD (1:Int).toNat []=b from rfl,w3,if_pos (by simp;omega)]
 simp only [Jq]
 rw [Ya]
 simp only [Xw.step,Xw.l2]
 rw [if_neg (by simp)]
 simp [Jq]
theorem Wiz (x y:List Qx) (hn:x.length<=5000):∃ r,Jn x y=some r/\(r=true↔x=y):=by
 unfold Jn
 by_cases hl:(x.length:Int)=(y.length:Int)
 ·rw [if_pos hl]
  refine Qd7 (n:=x.length) (fun i (_:Unit)=>Jn.S.l1 (i:Int)) (fun i _=>x.take i=y.take i) _ ?_ ?_ 0 () (Nat.zero_le _) (by simp)
  ·intro _ h
   rw [Qe7 (Nat.le_refl _),Qe7 (by omega)] at h
   exact ⟨true,by simp [Jn.step,Jn.l1],by simp [h]⟩
  intro i _ hi h
  have Qay:(0:Int)<=(i:Int)/\(i:Int) < (x.length:Int):=by omega
  have hstep2:(0:Int)<=(i:Int)/\(i:Int) < (y.length:Int):=by omega
  have hx:=Qfo (l:=x) (z:=Qx.z) hi
  have hy:=Qfo (l:=y) (z:=Qx.z) (i:=i) (by omega)
  simp only [Jn.step,Jn.l1,Qay.2,if_true,Qay,hstep2,and_self,wr1 hi (by omega:x.length<=9223372036854775807)]
  generalize x.getD (i:Int).toNat Qx.z=X at hx ⊢
  generalize y.getD (i:Int).toNat Qx.z=Y at hy ⊢
  by_cases hXY:X=Y
  ·left
   subst hXY
   exact ⟨(),by simp,by rw [hx,hy,h]⟩
  right
  have hne:x≠y:=by
   rintro rfl
   rw [hx] at hy
   exact hXY (by simpa using hy)
  refine ⟨false, ?_,by simp [hne]⟩
  by_cases h1:X.Key=Y.Key
  ·by_cases h2:X.Val=Y.Val
   ·exact absurd (by cases X;cases Y;simp only at h1 h2;subst h1;subst h2;rfl) hXY
   rw [if_pos h1,if_neg h2]
  rw [if_neg h1]
  split<;>rfl
 rw [if_neg hl]
 exact ⟨false,rfl,by simp;rintro rfl;exact hl rfl⟩
theorem w12:IntKind.wrap .i64 ((1:Int)+1)=2:=by decide
theorem Qwn {l:List Qa} (hu:Up l) {k v:Int}:look l k=some v↔(⟨k,v⟩:Qa)∈l:=⟨Qm0,fun h=>Whn hu h⟩
theorem Wm3 {T:List Qa} (h:Tb T):Ja Qa.z Qcy T=T:=by
 have hp:=Qpm Qa.z Qh0 T
 have hs:(Ja Qa.z Qcy T).Pairwise fun x y=>x.Key<=y.Key:=(Qrb Qa.z Qh0 T).imp fun {x y} h=>by
  rw [Qlg] at h
  simpa using h
 have hn:(T.map (·.Key)).Nodup:=List.pairwise_map.2 (h.up.imp fun h=>Int.ne_of_lt h)
 have hk:((Ja Qa.z Qcy T).map (·.Key)).Nodup:=(hp.map (·.Key)).nodup_iff.2 hn
 have hu:Up (Ja Qa.z Qcy T):=(hs.and (List.pairwise_map.1 hk)).imp fun h=>by
  have:=h.1
  have:=h.2
  omega
 refine Up.unique hu h.up fun k=>?_
 apply Option.ext
 intro v
 rw [Qwn hu,Qwn h.up,hp.mem_iff]
theorem join_eq {a b:List Qa} (ha:a.length<=2000) (hb:b.length<=2000) (h:Tb (a ++ b)):Qc1 a b=some (a ++ b,0):=by
 have ta:Tb a:=Qvp h
 have tb:Tb b:=⟨fun y hy=>h.ok y (List.mem_append_right _ hy),(List.pairwise_append.1 h.up).2.1⟩
 obtain ⟨r1,c1,c2⟩:=Qf7 a (by omega)
 obtain ⟨r2,c3,c4⟩:=Qf7 b (by omega)
 obtain ⟨r3,c5,c6⟩:=Qf7 (a ++ b) (by simp;omega)
 unfold Qc1
 rw [c1,Option.bind_some,if_pos (c2.2 ta),c3,Option.bind_some,c4.2 tb]
 unfold Qc1.j1
 rw [if_neg (by decide),Wmc a b ha hb,Option.bind_some,if_pos (by simp;omega),Wm3 h,c5,Option.bind_some,if_pos (c6.2 h)]
theorem Qwq:∀ {T:List Qa} {k:Int},Tb T->0 < k->k < 4096->clip T [⟨0,k⟩] ++ clip T [⟨k,4096⟩]=T
 | [],_,_,_,_=>rfl
 | x :: T,k,h,h1,h2=>by
  have ih:=Qwq h.tail h1 h2
  have e1:∀ j,hasB [⟨0,k⟩] j=(decide (0<=j) && decide (j < k)):=fun j=>Qmt (x:=⟨0,k⟩) ⟨Int.le_refl 0,h1,Int.le_of_lt h2⟩ j
  have e2:∀ j,hasB [⟨k,4096⟩] j=(decide (k<=j) && decide (j < 4096)):=fun j=>Qmt (x:=⟨k,4096⟩) ⟨Int.le_of_lt h1,h2,Int.le_refl _⟩ j
  have hx:=h.ok x (by simp)
  unfold okP at hx
  unfold clip at ih ⊢
  simp only [e1,e2] at ih ⊢
  by_cases hk:x.Key < k
  ·rw [List.filter_cons_of_pos (by simp;omega),List.filter_cons_of_neg (by simp;omega),List.cons_append,ih]
  have Qd8:∀ y∈x :: T,k<=y.Key:=fun y hy=>by
   rcases List.mem_cons.1 hy with rfl | hy
   ·omega
   have:=h.up.head y hy
   omega
  have n1:(x :: T).filter (fun y=>decide (0<=y.Key) && decide (y.Key < k))=[]:=by
   rw [List.filter_eq_nil_iff]
   intro y hy
   have:=Qd8 y hy
   simp
   omega
  have n2:(x :: T).filter (fun y=>decide (k<=y.Key) && decide (y.Key < 4096))=x :: T:=by
   rw [List.filter_eq_self]
   intro y hy
   have:=Qd8 y hy
   have:=h.ok y hy
   unfold okP at this
   simp
   omega
  rw [n1,n2]
  rfl
theorem Qty {T:List Qa} (h:Tb T):clip T [⟨0,4096⟩]=T:=by
 unfold clip
 rw [List.filter_eq_self]
 intro y hy
 have:=h.ok y hy
 unfold okP at this
 rw [Qmt (x:=⟨0,4096⟩) (by decide)]
 simp
 omega
theorem Wot (a:List Qc) (hn:a.length<=5000) (p:Qc->Option Bool) (hp:∀ x∈a,p x=some false):Qcs a p=some false:=by
 obtain ⟨r,h1,h2⟩:=Qd7 (step:=Zf.step a p) (n:=a.length) (fun i (_:Unit)=>.l1 (i:Int)) (fun _ _=>True) (fun r=>r=-1)
  (fun _ _=>⟨-1,by simp [Zf.step,Zf.l1],rfl⟩)
  (fun i _ hi _=>.inl ⟨(),by
   simp only [Zf.step,Zf.l1]
   rw [if_pos (by omega),if_pos (by omega),show (i:Int).toNat=i from rfl,hp _ (Qgl hi),Option.bind_some,if_neg (by decide),wr1 hi (by omega:a.length<=9223372036854775807)],trivial⟩) 0 () (Nat.zero_le _) trivial
 unfold Qcs Zf
 rw [show ((0:Nat):Int)=0 from rfl] at h1
 rw [h1,h2]
 rfl
theorem Wou (a:List Qi) (hn:a.length<=5000) (p:Qi->Option Bool) (hp:∀ x∈a,p x=some false):Qap a p=some false:=by
 obtain ⟨r,h1,h2⟩:=Qd7 (step:=Yj.step a p) (n:=a.length) (fun i (_:Unit)=>.l1 (i:Int)) (fun _ _=>True) (fun r=>r=-1)
  (fun _ _=>⟨-1,by simp [Yj.step,Yj.l1],rfl⟩)
  (fun i _ hi _=>.inl ⟨(),by
   simp only [Yj.step,Yj.l1]
   rw [if_pos (by omega),if_pos (by omega),show (i:Int).toNat=i from rfl,hp _ (Qgl hi),Option.bind_some,if_neg (by decide),wr1 hi (by omega:a.length<=9223372036854775807)],trivial⟩) 0 () (Nat.zero_le _) trivial
 unfold Qap Yj
 rw [show ((0:Nat):Int)=0 from rfl] at h1
 rw [h1,h2]
 rfl
theorem Wlh (a:List Qc) (b:List Qi) (ha:a.length<=5000) (hb:b.length<=5000):Qas a b=some (a.map (·.Keys),b.map (·.Keys)):=by
 unfold Qas
 have k1:=Qms (step:=Qas.step a b) a Qc.z (fun i t=>.l1 (i:Int) t) (fun t c=>t ++ [c.Keys]) (fun i t=>t.length=i)
  (fun i t hi ht=>⟨by
   simp only [Qas.step,Qas.l1]
   rw [if_pos (by omega),if_pos (by omega),if_pos (by omega),wr1 hi (by omega:a.length<=9223372036854775807)]
   rfl,by simp [ht]⟩) [] rfl
 have k2:=Qms (step:=Qas.step a b) b Qi.z (fun i t=>.l2 (i:Int) (a.map (·.Keys)) t) (fun t c=>t ++ [c.Keys]) (fun i t=>t.length=i)
  (fun i t hi ht=>⟨by
   simp only [Qas.step,Qas.l2]
   rw [if_pos (by omega),if_pos (by omega),if_pos (by omega),wr1 hi (by omega:b.length<=9223372036854775807)]
   rfl,by simp [ht]⟩) [] rfl
 have f1:a.foldl (fun t c=>t ++ [c.Keys]) []=a.map (·.Keys):=by simpa using Ql3 (fun c:Qc=>c.Keys) a []
 have f2:b.foldl (fun t c=>t ++ [c.Keys]) []=b.map (·.Keys):=by simpa using Ql3 (fun c:Qi=>c.Keys) b []
 rw [f1] at k1
 rw [f2] at k2
 refine k1.1.trans ?_
 rw [Ya]
 have s1:Qas.step a b (.l1 (a.length:Int) (a.map (·.Keys)))=some (.inl (.l2 0 (a.map (·.Keys)) [])):=by
  simp only [Qas.step,Qas.l1]
  rw [if_neg (by omega)]
 rw [s1]
 simp only [Jq]
 refine k2.1.trans ?_
 rw [Ya]
 simp only [Qas.step,Qas.l2]
 rw [if_neg (by omega)]
 rfl
theorem Qzk {lo hi:Int} (h:lo < hi):Jz [⟨lo,hi⟩] lo hi=some true:=by
 unfold Jz
 rw [Ya]
 simp only [Jz.step,Jz.l1]
 rw [if_pos (by simp),if_pos (by simp),if_pos (by rfl)]
 unfold Jz.j1
 rw [if_neg (by simp;omega),w01]
 simp only [Jq]
 rw [Ya]
 simp only [Jz.step,Jz.l1]
 rw [if_neg (by simp)]
 simp [Jq]
theorem Qzl {lo k hi:Int} (h:lo < k) (h2:k < hi):Jz [⟨lo,k⟩,⟨k,hi⟩] lo hi=some true:=by
 unfold Jz
 rw [Ya]
 simp only [Jz.step,Jz.l1]
 rw [if_pos (by simp),if_pos (by simp),if_pos (by rfl)]
 unfold Jz.j1
 rw [if_neg (by simp;omega),w01]
 simp only [Jq]
 rw [Ya]
 simp only [Jz.step,Jz.l1]
 rw [if_pos (by simp),if_pos (by simp),if_pos (by rfl)]
 unfold Jz.j1
 rw [if_neg (by simp;omega),w12]
 simp only [Jq]
 rw [Ya]
 simp only [Jz.step,Jz.l1]
 rw [if_neg (by simp)]
 simp [Jq]
end Go.SyP
namespace Go.SyP
open Go Go.Sy Go.Proofs Go.Sort Sets
def H2 (id lo hi n:Int) (B:List Qa) (K:List Qg) (f s:Bool):Qc:=⟨id,⟨lo,hi⟩,n,f,s,[],B,[],K⟩
theorem Qza {a:List Qc} {K:List Qg} (hs:KnS K) (hK:K.length<=1000) (x:Int) (clk:Int) (T:List Qa):
  ∀ (d j:Nat),j+d=K.length->Yy (Xj.step a) (.l2 x K (K.length:Int) (j:Int) clk T (K.take j))=Yy (Xj.step a) (.l1 (IntKind.wrap .i64 (x+1)) clk T K):=by
 intro d
 induction d with
 | zero=>
  intro j hj
  obtain rfl:j=K.length:=by omega
  rw [Ya,List.take_length]
  simp only [Xj.step,Xj.l2]
  rw [if_neg (by omega)]
  rfl
 | succ d ih=>
  intro j hj
  have hj':j < K.length:=by omega
  rw [Ya]
  have lt:(K.take j).length=j:=by rw [List.length_take];omega
  have s1:Xj.step a (.l2 x K (K.length:Int) (j:Int) clk T (K.take j))=some (.inl (.l2 x K (K.length:Int) ((j+1:Nat):Int) clk T (K.take (j+1)))):=by
   simp only [Xj.step,Xj.l2]
   rw [if_pos (by omega),if_pos (by omega),show (j:Int).toNat=j from rfl]
   refine Qa1 (Qo5 (c:=⟨0,⟨0,0⟩,clk,false,false,[],T,[],K.take j⟩) (cl:=(K.getD j Qg.z).Client) (s:=(K.getD j Qg.z).Seq) (by simp only [lt];omega) ?_) ?_
   ·intro k hk
    obtain ⟨i,hi,e⟩:=List.mem_iff_getElem.1 hk
    simp only [List.length_take] at hi
    have:=hs i j (by omega) hj'
    have e2:K.getD i Qg.z=k:=by
     rw [<- e,List.getElem_take]
     simp [List.getD_eq_getElem?_getD,(by omega:i < K.length)]
    rw [e2] at this
    unfold KL at this ⊢
    exact this
   try dsimp only
   rw [if_neg (by simp),if_pos (by simp only [lt];omega)]
   unfold Xj.j1
   rw [wr1 hj' (by omega:K.length<=9223372036854775807)]
   have e1:(K.take j).take ((K.take j).length:Int).toNat=K.take j:=List.take_length
   have e2:(K.take j).drop ((K.take j).length:Int).toNat=[]:=List.drop_length
   rw [e1,e2,take_at (z:=Qg.z) hj']
  rw [s1]
  simp only [Jq]
  exact ih (j+1) (by omega)
theorem Wkz {a:List Qc} {K:List Qg} (hs:KnS K) (hK:K.length<=1000) (x:Int) (clk:Int) (T:List Qa):
  ∀ (d j:Nat),j+d=K.length->Yy (Xj.step a) (.l2 x K (K.length:Int) (j:Int) clk T K)=Yy (Xj.step a) (.l1 (IntKind.wrap .i64 (x+1)) clk T K):=by
 intro d
 induction d with
 | zero=>
  intro j hj
  obtain rfl:j=K.length:=by omega
  rw [Ya]
  simp only [Xj.step,Xj.l2]
  rw [if_neg (by omega)]
  rfl
 | succ d ih=>
  intro j hj
  have hj':j < K.length:=by omega
  rw [Ya]
  have s1:Xj.step a (.l2 x K (K.length:Int) (j:Int) clk T K)=some (.inl (.l2 x K (K.length:Int) ((j+1:Nat):Int) clk T K)):=by
   simp only [Xj.step,Xj.l2]
   rw [if_pos (by omega),if_pos (by omega),show (j:Int).toNat=j from rfl]
   obtain ⟨i,b,f1,f2,f3⟩:=Qwj (c:=⟨0,⟨0,0⟩,clk,false,false,[],T,[],K⟩) (K.getD j Qg.z).Client (K.getD j Qg.z).Seq (by simp only;omega) hs
   have hb:b=true:=by
    cases b with
    | true=>rfl
    | false=>exact absurd ⟨rfl,rfl⟩ (f3 rfl j hj')
   subst hb
   refine Qa1 f1 ?_
   try dsimp only
   rw [if_pos rfl]
   unfold Xj.j1
   rw [wr1 hj' (by omega:K.length<=9223372036854775807)]
  rw [s1]
  simp only [Jq]
  exact ih (j+1) (by omega)
theorem Wlo {n:Int} (h:0<=n):Qb6 0 n=n:=by unfold Qb6;split<;>omega
theorem Wpp (n:Int):Qb6 n n=n:=by unfold Qb6;split<;>rfl
structure Has (c:Qc) (T:List Qa) (n:Int) (K:List Qg):Prop where
 now:Qar c=some T
 clock:c.Clock=n
 kn:c.Known=K
theorem Wl4 {c:Qc} {T:List Qa} {n:Int} {K:List Qg} (h:Has c T n K) (h0:0<=n) (hT:T.length<=1000) (hs:KnS K) (hK:K.length<=1000):Xj [c]=some ⟨0,⟨0,0⟩,n,false,false,[],T,[],K⟩:=by
 unfold Xj
 rw [Ya]
 have s1:Xj.step [c] (.l1 0 0 [] [])=some (.inl (.l2 0 K (K.length:Int) ((0:Nat):Int) n T (K.take 0))):=by
  simp only [Xj.step,Xj.l1]
  rw [if_pos (by simp),if_pos (by simp),show ([c]:List Qc).getD (0:Int).toNat Qc.z=c from rfl,h.now,Option.bind_some,if_pos (by simp;omega),h.clock,h.kn,Wlo h0]
  rfl
 rw [s1]
 simp only [Jq]
 rw [Qza hs hK 0 n T K.length 0 (by omega),w01,Ya]
 simp only [Xj.step,Xj.l1]
 rw [if_neg (by simp)]
 rfl
theorem Wl5 {c d:Qc} {T U:List Qa} {n:Int} {K:List Qg} (h:Has c T n K) (g:Has d U n K) (h0:0<=n) (hT:T.length<=1000) (hU:U.length<=1000) (hs:KnS K) (hK:K.length<=1000):
  Xj [c,d]=some ⟨0,⟨0,0⟩,n,false,false,[],T ++ U,[],K⟩:=by
 unfold Xj
 rw [Ya]
 have s1:Xj.step [c,d] (.l1 0 0 [] [])=some (.inl (.l2 0 K (K.length:Int) ((0:Nat):Int) n T (K.take 0))):=by
  simp only [Xj.step,Xj.l1]
  rw [if_pos (by simp),if_pos (by simp),show ([c,d]:List Qc).getD (0:Int).toNat Qc.z=c from rfl,h.now,Option.bind_some,if_pos (by simp;omega),h.clock,h.kn,Wlo h0]
  rfl
 rw [s1]
 simp only [Jq]
 rw [Qza hs hK 0 n T K.length 0 (by omega),w01,Ya]
 have s2:Xj.step [c,d] (.l1 1 n T K)=some (.inl (.l2 1 K (K.length:Int) ((0:Nat):Int) n (T ++ U) K)):=by
  simp only [Xj.step,Xj.l1]
  rw [if_pos (by simp),if_pos (by simp),show ([c,d]:List Qc).getD (1:Int).toNat Qc.z=d from rfl,g.now,Option.bind_some,if_pos (by omega),g.clock,g.kn,Wpp]
  rfl
 rw [s2]
 simp only [Jq]
 rw [Wkz hs hK 1 n (T ++ U) K.length 0 (by omega),w12,Ya]
 simp only [Xj.step,Xj.l1]
 rw [if_neg (by simp)]
 rfl
theorem Wg7 {c:Qc} (h:Jg c=some true) (hs:c.Wn=true):Qdu c=some false:=by
 unfold Qdu
 rw [h,Option.bind_some,if_pos rfl,hs]
 rfl
def Qvc (n:Int) (K:List Qg) (T:List Qa) (s:Qi):Qc:=⟨s.ID,s.Keys,n,false,false,[],clip T [s.Keys],[],K⟩
theorem Wdw {sh:List Qi} {n:Int} {T:List Qa} {K:List Qg} (hT:Tb T) (hl:T.length<=1000) (hK:K.length<=1000) (hsh:sh.length<=100) (ho:∀ s∈sh,Ok (pa s.Keys)):
  Yy (Wl.step sh ⟨0,⟨0,0⟩,n,false,false,[],T,[],K⟩) (.l1 0 [])=some (sh.map (Qvc n K T),0):=by
 have k1:=Qms (step:=Wl.step sh ⟨0,⟨0,0⟩,n,false,false,[],T,[],K⟩) sh Qi.z (fun i t=>.l1 (i:Int) t) (fun t s=>t ++ [Qvc n K T s]) (fun i t=>t.length=i)
  (fun i t hi ht=>by
   have hk:=ho _ (Qgl (z:=Qi.z) hi)
   have hc:Ji T [(sh.getD i Qi.z).Keys]=some (clip T [(sh.getD i Qi.z).Keys]):=Qv3 (by omega) (by simp) hT (Qn6 hk)
   refine ⟨?_,by simp [ht]⟩
   simp only [Wl.step,Wl.l1]
   rw [if_pos (by omega),if_pos (by omega),show (i:Int).toNat=i from rfl]
   refine Qa1 (Wh5 (c:=⟨0,⟨0,0⟩,n,false,false,[],T,[],K⟩) rfl (by show T.length<=5000;omega) (by simp) (by show K.length<=5000;omega) (by simp)) ?_
   refine Qa1 hc ?_
   rw [if_pos (by omega),wr1 hi (by omega:sh.length<=9223372036854775807)]
   rfl) [] rfl
 have f1:sh.foldl (fun t s=>t ++ [Qvc n K T s]) []=sh.map (Qvc n K T):=by simpa using Ql3 (Qvc n K T) sh []
 rw [f1] at k1
 refine k1.1.trans ?_
 rw [Ya]
 simp only [Wl.step,Wl.l1]
 rw [if_neg (by omega)]
 rfl
theorem Qxt {a:List Qc} {sh:List Qi} {n lo hi:Int} {T:List Qa} {K:List Qg} (ha:0 < a.length/\a.length<=100) (hs:0 < sh.length/\sh.length<=100) (Jj:∀ c∈a,Jg c=some true/\c.Wn=true)
  (hlo:((a.map (·.Keys)).getD 0 Qb.z).Lo=lo) (hhi:((a.map (·.Keys)).getD (a.length - 1) Qb.z).Hi=hi) (l1:Jz (a.map (·.Keys)) lo hi=some true) (l2:Jz (sh.map (·.Keys)) lo hi=some true) (hid:∀ s∈sh,1<=s.ID/\s.ID<=65536)
  (Qd8:Xj a=some ⟨0,⟨0,0⟩,n,false,false,[],T,[],K⟩) (hT:Tb T) (hl:T.length<=1000) (hK:K.length<=1000) (ho:∀ s∈sh,Ok (pa s.Keys)):
  Wl a sh=some (sh.map (Qvc n K T),0):=by
 unfold Wl
 rw [if_neg (by omega),if_neg (by omega),Wot a (by omega) _ (fun c hc=>Wg7 (Jj c hc).1 (Jj c hc).2),Option.bind_some]
 unfold Wl.j1
 rw [if_neg (by decide)]
 refine Qa1 (Wlh a sh (by omega) (by omega)) ?_
 have hw:IntKind.wrap .i64 (((a.map (·.Keys)).length:Int) - 1)=((a.length - 1:Nat):Int):=by
  rw [List.length_map,wr (by omega)]
  omega
 simp only [hw]
 rw [if_pos (by simp only [List.length_map];omega),if_pos (by simp only [List.length_map];omega)]
 unfold bnd
 simp only [show ((a.length - 1:Nat):Int).toNat=a.length - 1 from rfl,hlo,hhi]
 rw [l1,Option.bind_some,if_pos rfl,l2,Option.bind_some,if_pos rfl,Wou sh (by omega) _ (fun s hs=>by
  have:=hid s hs
  unfold Qgb
  rw [(Qqs _ _ _).2 this]
  rfl),Option.bind_some]
 unfold Wl.j2
 rw [if_neg (by decide),Qd8,Option.bind_some,if_neg (by show ¬ ((K.length:Int) > 1000);omega)]
 exact Wdw hT hl hK hs.2 ho
end Go.SyP
