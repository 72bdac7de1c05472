/- The law of heirs. -/
import Derived.Test.YtdhmflhncidjaaaGreatPthzZ
set_option linter.unusedVariables false
set_option linter.unusedSimpArgs false
namespace Go.SyP
open Go Go.Sy Go.Proofs Go.Sort Sets
theorem at_eq (n:Int):∃ k:Int,Qhg n 4095=some k/\0<=k/\k < 4095:=by
 unfold Qhg
 rw [if_pos (by decide)]
 have h1:-4095 < Int.tmod n 4095/\Int.tmod n 4095 < 4095:=by
  have a1:=Int.tmod_lt_of_pos n (show (0:Int) < 4095 by decide)
  have a2:=Int.lt_tmod_of_pos n (show (0:Int) < 4095 by decide)
  omega
 rw [wr (by omega)]
 exact ⟨_,rfl,Int.tmod_nonneg _ (by omega),Int.tmod_lt_of_pos _ (by decide)⟩
theorem Qpo {c:Qc} {T:List Qa} (h:Jg c=some true) (hn:Qar c=some T) (hl:T.length<=1000):Qdq c=some T:=by
 unfold Qdq
 rw [h,Option.bind_some,if_pos rfl,hn,Option.bind_some,if_pos (by omega)]
def hrF (n:Int) (K:List Qg) (T:List Qa) (f g:Bool) (s:Qi):Qc:=⟨s.ID,s.Keys,n,f,g,[],clip T [s.Keys],[],K⟩
theorem Qqq {i:Nat} {L:List Qe} (h:Qja i L) (hi:i<=20) {T:List Qa} (hT:Tb T) (hl:T.length<=1000) {s:Qi} (hid:1<=s.ID/\s.ID<=65536) (ho:Ok (pa s.Keys)) (f g:Bool) (hfg:g=true->f=true):
  Jg (hrF (L.length:Int) (L.map toK) T f g s)=some true:=by
 have hlen:=h.len
 have hc:=Qow T [s.Keys]
 refine Qs5 ⟨by simp [hrF],by simp [hrF],by show (L.map toK).length<=60;rw [List.length_map];omega,by show (clip T [s.Keys]).length<=1000;omega,by simp [hrF],by simp [hrF]⟩ rfl ?_
 refine ⟨hid,ho,by show 0<=(L.length:Int)/\(L.length:Int)<=1099511627775;omega,Wl7 hT _,fun x hx=>?_,fun hg=>⟨hfg hg,rfl⟩,Wb1 h hi f g,⟨fun j hj=>by simp [hrF] at hj,by simp [hrF]⟩⟩
 have hx:x∈clip T [s.Keys]:=hx
 unfold clip at hx
 have:=(List.mem_filter.1 hx).2
 rw [Qmt ho] at this
 simp only [Bool.and_eq_true,decide_eq_true_eq] at this
 exact this
theorem Qod (n:Int) (K:List Qg) (T:List Qa) (f g:Bool) (s:Qi):Qar (hrF n K T f g s)=some (clip T [s.Keys]):=Wkx rfl
theorem Whh {c d:Qc} {A B:List Qa} (hc:Qdq c=some A) (hd:Qdq d=some B) (h:Tb (A ++ B)) (ha:A.length<=1000) (hb:B.length<=1000):Jh [c,d]=some (A ++ B,true):=by
 unfold Jh
 rw [Ya]
 have s1:Jh.step [c,d] (.l1 0 [])=some (.inl (.l1 1 A)):=by
  simp only [Jh.step,Jh.l1]
  rw [if_pos (by simp),if_pos (by simp),show ([c,d]:List Qc).getD (0:Int).toNat Qc.z=c from rfl,hc,Option.bind_some]
  refine Qa1 (join_eq (a:=[]) (b:=A) (by simp) (by omega) (Qvp h)) ?_
  try dsimp only
  rw [if_pos rfl,w01,List.nil_append]
 rw [s1]
 simp only [Jq]
 rw [Ya]
 have s2:Jh.step [c,d] (.l1 1 A)=some (.inl (.l1 2 (A ++ B))):=by
  simp only [Jh.step,Jh.l1]
  rw [if_pos (by simp),if_pos (by simp),show ([c,d]:List Qc).getD (1:Int).toNat Qc.z=d from rfl,hd,Option.bind_some]
  refine Qa1 (join_eq (a:=A) (b:=B) (by omega) (by omega) h) ?_
  try dsimp only
  rw [if_pos rfl,w12]
 rw [s2]
 simp only [Jq]
 rw [Ya]
 simp only [Jh.step,Jh.l1]
 rw [if_neg (by simp)]
 rfl
theorem Qwu (T:List Qa) (h:T.length<=1000):Jn (T.map tr) (T.map tr)=some true:=by
 obtain ⟨r,h1,h2⟩:=Wiz (T.map tr) (T.map tr) (by rw [List.length_map];omega)
 rw [h1,h2.2 rfl]
theorem Qqn {i:Nat} {L:List Qe} (h:Qja i L) (hi:i<=20) (a0:List Qp) (a1:Int) (x:Int):Jq (Qf.j1 a0 a1 x [C0 L false false] false) (Yy (Qf.step a0 a1))=some true:=by
 have hlen:=h.len
 have hm:∀ e∈L,mOk e.M=true:=fun e he=>(h.ok e he).1
 have ht:=Wbt hm (by omega)
 have hT:=ht.1
 have hTl:(Qbr L).length<=1000:=by omega
 obtain ⟨k,k1,k2,k3⟩:=at_eq a1
 have hk:KnS (L.map toK):=(Wb1 h hi false false).s
 have hKl:(L.map toK).length<=1000:=by rw [List.length_map];omega
 have c1:Jg (C0 L true true)=some true:=Qs5 (We3 h hi true true) rfl (Wlj h hi (by simp))
 have n1:Qar (C0 L true true)=some (Qbr L):=Wov rfl rfl hm (by simp only [C0];omega)
 have hw:IntKind.wrap .i64 (1+k)=k+1:=by rw [wr (by omega)];omega
 have hs2:Ok (pa (⟨0,k+1⟩:Qb)):=⟨Int.le_refl 0,by show 0 < k+1;omega,by show k+1<=4096;omega⟩
 have hs3:Ok (pa (⟨k+1,4096⟩:Qb)):=⟨by show 0<=k+1;omega,by show k+1 < 4096;omega,Int.le_refl _⟩
 have hs4:Ok (pa (⟨0,4096⟩:Qb)):=by decide
 have H1:Wl [C0 L true true] [⟨2,⟨0,k+1⟩,0⟩,⟨3,⟨k+1,4096⟩,0⟩]=some ([hrF L.length (L.map toK) (Qbr L) false false ⟨2,⟨0,k+1⟩,0⟩,hrF L.length (L.map toK) (Qbr L) false false ⟨3,⟨k+1,4096⟩,0⟩],0):=
  Qxt (lo:=0) (hi:=4096) (by simp) (by simp) (fun c hc=>by simp at hc;subst hc;exact ⟨c1,rfl⟩) rfl rfl (Qzk (by decide)) (Qzl (by omega) (by omega)) (fun s hs=>by simp at hs;rcases hs with rfl | rfl<;>simp)
   (Wl4 ⟨n1,rfl,rfl⟩ (by omega) hTl hk hKl) hT hTl hKl (fun s hs=>by simp at hs;rcases hs with rfl | rfl;exact hs2;exact hs3)
 have hB:=Qwq (T:=Qbr L) (k:=k+1) hT (by omega) (by omega)
 have la:=Qow (Qbr L) [⟨0,k+1⟩]
 have lb:=Qow (Qbr L) [⟨k+1,4096⟩]
 have t2:∀ f g,(g=true->f=true)->Jg (hrF L.length (L.map toK) (Qbr L) f g ⟨2,⟨0,k+1⟩,0⟩)=some true:=fun f g hf=>Qqq h hi hT hTl (by simp) hs2 f g hf
 have t3:∀ f g,(g=true->f=true)->Jg (hrF L.length (L.map toK) (Qbr L) f g ⟨3,⟨k+1,4096⟩,0⟩)=some true:=fun f g hf=>Qqq h hi hT hTl (by simp) hs3 f g hf
 have J:Jh [hrF L.length (L.map toK) (Qbr L) false false ⟨2,⟨0,k+1⟩,0⟩,hrF L.length (L.map toK) (Qbr L) false false ⟨3,⟨k+1,4096⟩,0⟩]=some (Qbr L,true):=by
  have:=Whh (Qpo (t2 false false (by simp)) (Qod ..) (by show (clip (Qbr L) [⟨0,k+1⟩]).length<=1000;omega)) (Qpo (t3 false false (by simp)) (Qod ..) (by show (clip (Qbr L) [⟨k+1,4096⟩]).length<=1000;omega)) (by rw [hB];exact hT) (show (clip (Qbr L) [⟨0,k+1⟩]).length<=1000 by omega) (show (clip (Qbr L) [⟨k+1,4096⟩]).length<=1000 by omega)
  rw [hB] at this
  exact this
 have H2:Wl [hrF L.length (L.map toK) (Qbr L) true true ⟨2,⟨0,k+1⟩,0⟩,hrF L.length (L.map toK) (Qbr L) true true ⟨3,⟨k+1,4096⟩,0⟩] [⟨4,⟨0,4096⟩,0⟩]=some ([hrF L.length (L.map toK) (Qbr L) false false ⟨4,⟨0,4096⟩,0⟩],0):=by
  have al:=Wl5 (c:=hrF L.length (L.map toK) (Qbr L) true true ⟨2,⟨0,k+1⟩,0⟩) (d:=hrF L.length (L.map toK) (Qbr L) true true ⟨3,⟨k+1,4096⟩,0⟩) (n:=(L.length:Int)) (K:=L.map toK) ⟨Qod ..,rfl,rfl⟩ ⟨Qod ..,rfl,rfl⟩ (by omega) (by show (clip (Qbr L) [⟨0,k+1⟩]).length<=1000;omega) (by show (clip (Qbr L) [⟨k+1,4096⟩]).length<=1000;omega) hk hKl
  rw [show clip (Qbr L) [(⟨2,⟨0,k+1⟩,0⟩:Qi).Keys] ++ clip (Qbr L) [(⟨3,⟨k+1,4096⟩,0⟩:Qi).Keys]=Qbr L from hB] at al
  exact Qxt (lo:=0) (hi:=4096) (by simp) (by simp) (fun c hc=>by simp at hc;rcases hc with rfl | rfl;exact ⟨t2 true true (by simp),rfl⟩;exact ⟨t3 true true (by simp),rfl⟩) rfl rfl (Qzl (by omega) (by omega)) (Qzk (by decide)) (fun s hs=>by simp at hs;subst hs;decide)
   al hT hTl hKl (fun s hs=>by simp at hs;subst hs;exact hs4)
 have T0:Qdq (C0 L true true)=some (Qbr L):=Qpo c1 n1 hTl
 have T4:Qdq (hrF L.length (L.map toK) (Qbr L) false false ⟨4,⟨0,4096⟩,0⟩)=some (Qbr L):=by
  have:=Qpo (Qqq h hi hT hTl (s:=⟨4,⟨0,4096⟩,0⟩) (by simp) hs4 false false (by simp)) (Qod ..) (by rw [Qty hT];exact hTl)
  rw [Qty hT] at this
  exact this
 have s0:Qf.j1 a0 a1 x [C0 L false false] false=some (.inl (.l2 (Qbr L,true) 0 1 0 4096 (L.length:Int) [] [] L (L.map toK) [hrF L.length (L.map toK) (Qbr L) false false ⟨2,⟨0,k+1⟩,0⟩,hrF L.length (L.map toK) (Qbr L) false false ⟨3,⟨k+1,4096⟩,0⟩])):=by
  unfold Qf.j1
  rw [if_neg (by decide),if_pos (by simp)]
  refine Qa1 k1 ?_
  try dsimp only
  rw [hw]
  refine Qa1 H1 ?_
  try dsimp only
  rw [if_pos rfl]
  unfold Qf.j2
  rw [if_neg (by simp)]
  refine Qa1 J ?_
  rfl
 rw [s0]
 simp only [Jq]
 rw [Ya]
 have s1:Qf.step a0 a1 (.l2 (Qbr L,true) 0 1 0 4096 (L.length:Int) [] [] L (L.map toK) [hrF L.length (L.map toK) (Qbr L) false false ⟨2,⟨0,k+1⟩,0⟩,hrF L.length (L.map toK) (Qbr L) false false ⟨3,⟨k+1,4096⟩,0⟩])=some (.inl (.l2 (Qbr L,true) 1 1 0 4096 (L.length:Int) [] [] L (L.map toK) [hrF L.length (L.map toK) (Qbr L) true true ⟨2,⟨0,k+1⟩,0⟩,hrF L.length (L.map toK) (Qbr L) false false ⟨3,⟨k+1,4096⟩,0⟩])):=by
  simp only [Qf.step]
  unfold Qf.l2
  rw [if_pos (by decide),if_pos (by simp),if_pos (by simp),w01]
  rfl
 rw [s1]
 simp only [Jq]
 rw [Ya]
 have s2:Qf.step a0 a1 (.l2 (Qbr L,true) 1 1 0 4096 (L.length:Int) [] [] L (L.map toK) [hrF L.length (L.map toK) (Qbr L) true true ⟨2,⟨0,k+1⟩,0⟩,hrF L.length (L.map toK) (Qbr L) false false ⟨3,⟨k+1,4096⟩,0⟩])=some (.inl (.l2 (Qbr L,true) 2 1 0 4096 (L.length:Int) [] [] L (L.map toK) [hrF L.length (L.map toK) (Qbr L) true true ⟨2,⟨0,k+1⟩,0⟩,hrF L.length (L.map toK) (Qbr L) true true ⟨3,⟨k+1,4096⟩,0⟩])):=by
  simp only [Qf.step]
  unfold Qf.l2
  rw [if_pos (by decide),if_pos (by simp),if_pos (by simp),w12]
  rfl
 rw [s2]
 simp only [Jq]
 rw [Ya]
 have s3:Qf.step a0 a1 (.l2 (Qbr L,true) 2 1 0 4096 (L.length:Int) [] [] L (L.map toK) [hrF L.length (L.map toK) (Qbr L) true true ⟨2,⟨0,k+1⟩,0⟩,hrF L.length (L.map toK) (Qbr L) true true ⟨3,⟨k+1,4096⟩,0⟩])=some (.inr true):=by
  simp only [Qf.step]
  unfold Qf.l2
  rw [if_neg (by decide)]
  refine Qa1 H2 ?_
  try dsimp only
  rw [if_pos rfl,if_pos rfl,if_pos (by simp),if_pos (by simp),if_pos (by rfl)]
  unfold Qf.j3
  rw [if_neg (by simp [hrF])]
  refine Qa1 T0 ?_
  refine Qa1 (Qs0 (Qbr L) (by omega)) ?_
  refine Qa1 (Qs0 (Qbr L) (by omega)) ?_
  refine Qa1 (Qwu (Qbr L) hTl) ?_
  try dsimp only
  rw [if_pos rfl,if_pos (by simp)]
  refine Qa1 T4 ?_
  refine Qa1 (Qs0 (Qbr L) (by omega)) ?_
  refine Qa1 (Qwu (Qbr L) hTl) ?_
  rfl
 rw [s3]
 rfl
theorem Wjv (a0:List Qp) (a1:Int):∀ (d i:Nat) (L:List Qe),i+d=20->Qja i L->Yy (Qf.step a0 a1) (.l1 (i:Int) [C0 L false false])=some true:=by
 intro d
 induction d with
 | zero=>
  intro i L hi h
  rw [Ya]
  simp only [Qf.step,Qf.l1]
  split
  ·rw [decide_eq_false (by omega)]
   exact Qqn h (by omega) a0 a1 _
  exact Qqn h (by omega) a0 a1 _
 | succ d ih=>
  intro i L hi h
  rw [Ya]
  simp only [Qf.step,Qf.l1]
  by_cases hlt:(i:Int) < (a0.length:Int)
  ·rw [if_pos hlt,decide_eq_true (by omega)]
   unfold Qf.j1
   rw [if_pos rfl,if_pos (by omega),show (i:Int).toNat=i from rfl,wr (by omega)]
   have skip:Jq (some (Sum.inl (Qf.S.l1 ((i:Int)+1) [C0 L false false])):Option (Qf.S ⊕ Bool)) (Yy (Qf.step a0 a1))=some true:=by
    simp only [Jq]
    exact ih (i+1) L (by omega) h.mono
   generalize a0.getD i Qp.z=M
   by_cases hp:(M.Pairs.length:Int)<=8
   ·rw [if_pos hp]
    have hp':M.Pairs.length<=8:=by omega
    rw [Qge ⟨1,(i:Int)+1,M.Kind,M.Pairs,M.Over,M.Old⟩ (by show M.Pairs.length<=5000;omega),Option.bind_some]
    by_cases hm:mOk ⟨1,(i:Int)+1,M.Kind,M.Pairs,M.Over,M.Old⟩=true
    ·rw [if_pos hm,Wm1,Option.bind_some]
     have P:Qfq i L ⟨1,(i:Int)+1,M.Kind,M.Pairs,M.Over,M.Old⟩:=⟨h,by omega,hm,rfl,rfl⟩
     rw [Wij P,Option.bind_some,if_pos (by simp),if_pos rfl]
     simp only [Jq]
     exact ih (i+1) _ (by omega) (h.snoc _ hm rfl rfl)
    rw [if_neg hm]
    exact skip
   rw [if_neg hp]
   exact skip
  rw [if_neg hlt]
  exact Qqn h (by omega) a0 a1 _
theorem Qm6 (a0:List Qp) (a1:Int):Qf a0 a1=some true:=by
 show (if Qnk=true then Yy (Qf.step a0 a1) (.l1 0 [Qeu]) else some false)=some true
 rw [if_pos (show Qnk=true from rfl)]
 exact Wjv a0 a1 20 0 [] rfl Qja.nil
end Go.SyP
