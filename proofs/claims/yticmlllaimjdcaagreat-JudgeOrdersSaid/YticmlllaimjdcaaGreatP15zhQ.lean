/- Hold: what the functions on the heap come to. -/
import Derived.Test.YticmlllaimjdcaaGreatP15zhA
set_option linter.unusedVariables false
set_option linter.unusedSimpArgs false
namespace Go.SyP
open Go Go.Sy
theorem find_spec {dom l:List Nat} {M:Nat->Qh} (hs:HS dom l M) (c s:Int):
  ∃ o,Zi ⟨⟨l⟩⟩ c s dom M=some (o,⟨⟨l⟩⟩)/\((o=none/\∀ a∈l,isK c s (M a).h=false)\/∃ i,i < l.length/\o=some (l.getD i 0)/\isK c s (M (l.getD i 0)).h=true):=by
 have key:=Qbi (step:=Zi.step ⟨⟨l⟩⟩ c s dom M) (n:=l.length) (fun i (_:Unit)=>.l1 (i:Int)) (fun i _=>∀ k,k < i->isK c s (M (l.getD k 0)).h=false)
  (fun r=>∃ o,r=(o,⟨⟨l⟩⟩)/\((o=none/\∀ a∈l,isK c s (M a).h=false)\/∃ i,i < l.length/\o=some (l.getD i 0)/\isK c s (M (l.getD i 0)).h=true)) ?_ ?_ 0 () (Nat.zero_le _) (fun k hk=>by omega)
 ·obtain ⟨r,h1,o,rfl,h2⟩:=key
  exact ⟨o,h1,h2⟩
 ·intro _ hI
  refine ⟨(none,⟨⟨l⟩⟩), ?_,none,rfl,.inl ⟨rfl,fun a ha=>?_⟩⟩
  ·simp [Zi.step,Zi.l1]
  obtain ⟨k,hk,rfl⟩:=List.mem_iff_getElem.1 ha
  have:=hI k hk
  simpa [hk] using this
 intro i _ hi hI
 have Qi3:=hs.sub _ (Qg5 hi)
 have hL:=hs.len
 simp only [Zi.step,Zi.l1,Int.toNat_natCast]
 rw [if_pos (by omega),if_pos (by omega),if_pos Qi3]
 have hj:∀ b,b=isK c s (M (l.getD i 0)).h->((∃ y:Unit,Zi.j1 ⟨⟨l⟩⟩ (i:Int) b=some (.inl (.l1 ((i+1:Nat):Int)))/\∀ k,k < i+1->isK c s (M (l.getD k 0)).h=false) \/
   ∃ r,Zi.j1 ⟨⟨l⟩⟩ (i:Int) b=some (.inr r)/\∃ o,r=(o,⟨⟨l⟩⟩)/\((o=none/\∀ a∈l,isK c s (M a).h=false)\/∃ i,i < l.length/\o=some (l.getD i 0)/\isK c s (M (l.getD i 0)).h=true)):=by
  intro b hb
  cases b with
  | true=>
   right
   refine ⟨(some (l.getD i 0),⟨⟨l⟩⟩), ?_,_,rfl,.inr ⟨i,hi,rfl,hb.symm⟩⟩
   simp [Zi.j1]
  | false=>
   left
   refine ⟨(), ?_,fun k hk=>?_⟩
   ·simp only [Zi.j1,Bool.false_eq_true,if_false]
    rw [wr1 hi (by omega)]
   by_cases e:k=i
   ·rw [e];exact hb.symm
   exact hI k (by omega)
 by_cases hc:(M (l.getD i 0)).h.M.Client=c
 ·rw [if_pos hc]
  exact hj _ (by unfold isK;rw [hc,beq_self_eq_true,Bool.true_and])
 rw [if_neg hc]
 exact hj _ (by unfold isK;rw [beq_eq_false_iff_ne.2 hc,Bool.false_and])
structure Wnb (dom l:List Nat) (M:Nat->Qh) (a:Nat) (l':List Nat) (M':Nat->Qh):Prop where
 hs:HS dom l' M'
 perm:(l' ++ [a]).Perm l
 same:∀ x,(M' x).h=(M x).h
 heap:Heap (fun x=>Qdi (M x).h) l' l'.length
theorem Wg6 {dom l:List Nat} {M:Nat->Qh} {a:Nat} (hs:HS dom l M) (hh:Heap (fun x=>Qdi (M x).h) l l.length) (ha:a∈dom) (hn:a ∉ l) (hb:(l.length+1) * 8<=140737488355328):
  ∃ l' M',Qe7 ⟨⟨l⟩⟩ a dom M=some (⟨⟨l'⟩⟩,M')/\HS dom l' M'/\l'.Perm (l ++ [a])/\(∀ x,(M' x).h=(M x).h)/\Heap (fun x=>Qdi (M x).h) l' l'.length:=by
 have hL:=hs.len
 let M1:Nat->Qh:=upd M a (setAt (M a) l.length)
 have hM1:∀ x,(M1 x).h=(M x).h:=fun x=>by
  simp only [M1,upd]
  split
  ·rename_i e;subst e;rfl
  rfl
 have hκ:(fun x=>Qdi (M1 x).h)=fun x=>Qdi (M x).h:=by funext x;rw [hM1]
 have hs1:HS dom (l ++ [a]) M1:=by
  refine ⟨fun x hx=>?_, ?_,fun i hi=>?_,by simp;omega⟩
  ·rcases List.mem_append.1 hx with hx | hx
   ·exact hs.sub x hx
   rw [List.mem_singleton.1 hx];exact ha
  ·exact List.nodup_append.2 ⟨hs.nd,by simp,fun x hx y hy=>by rw [List.mem_singleton.1 hy];rintro rfl;exact hn hx⟩
  rw [List.length_append,List.length_singleton] at hi
  by_cases e:i=l.length
  ·subst e
   simp [M1,upd,setAt]
  have hil:i < l.length:=by omega
  have hg:(l ++ [a]).getD i 0=l.getD i 0:=by simp [List.getD_eq_getElem?_getD,List.getElem?_append_left hil]
  rw [hg]
  have hne:l.getD i 0≠a:=fun e=>hn (e▸Qg5 hil)
  simp only [M1,upd]
  rw [if_neg hne]
  exact hs.at_ i hil
 have hK:∀ i,i < l.length->Kf (fun x=>Qdi (M x).h) (l ++ [a]) i=Kf (fun x=>Qdi (M x).h) l i:=fun i hi=>by
  unfold Kf
  simp [List.getD_eq_getElem?_getD,List.getElem?_append_left hi]
 have hu:UpI (fun x=>Qdi (M x).h) (l ++ [a]) (l.length+1) l.length:=by
  refine ⟨fun c h1 h2 h3=>?_,fun c h1 h2 h3 h4=>by omega⟩
  rw [hK _ (by omega),hK _ (by omega)]
  exact hh c h1 (by omega)
 obtain ⟨l3,M3,u1,u2,u3⟩:=Wk5 (n:=l.length+1) (j:=l.length) hs1 (by simp) (by omega) (by rw [hκ];exact hu)
 rw [hκ] at u3
 have hlen3:=u2.len
 rw [List.length_append,List.length_singleton] at hlen3
 refine ⟨l3,M3, ?_,u2.hs,u2.perm,fun x=>(u2.same x).trans (hM1 x),by rw [hlen3];exact u3⟩
 unfold Qe7 Qfv
 simp only [bnd]
 rw [if_pos ha,if_pos hb,Option.bind_some]
 simp only [Qdz]
 have w:IntKind.wrap .i64 (((l ++ [a]).length:Int) - 1)=(l.length:Int):=by
  rw [List.length_append,List.length_singleton,wr (by omega)];omega
 rw [w]
 have:Jb ⟨⟨l ++ [a]⟩⟩ (l.length:Int) dom M1=some (⟨⟨l3⟩⟩,M3):=u1
 exact (congrArg (fun o:Option (Xv × (Nat->Qh))=>o.bind fun v3=>some ((⟨⟨v3.1.h.l⟩⟩:Xv),v3.2)) this).trans rfl
end Go.SyP
namespace Go.SyP
open Go Go.Sy
structure QI (L:List Yl) (l:List Nat) (M:Nat->Qh):Prop where
 hs:HS l l M
 perm:(l.map fun a=>(M a).h).Perm L
 heap:Heap (fun a=>Qdi (M a).h) l l.length
 good:Good L
theorem HS.own {dom l:List Nat} {M:Nat->Qh} (h:HS dom l M):HS l l M:=⟨fun _ h=>h,h.nd,h.at_,h.len⟩
theorem QI.len {L:List Yl} {l:List Nat} {M:Nat->Qh} (h:QI L l M):l.length=L.length:=by
 have:=h.perm.length_eq
 simpa using this
theorem QI.mem {L:List Yl} {l:List Nat} {M:Nat->Qh} (h:QI L l M) {a:Nat} (ha:a∈l):(M a).h∈L:=h.perm.mem_iff.1 (List.mem_map.2 ⟨a,ha,rfl⟩)
theorem Wll {L:List Yl} {l:List Nat} {M:Nat->Qh} (h:QI L l M) (c s:Int):
  ∃ o,Zi ⟨⟨l⟩⟩ c s l M=some (o,⟨⟨l⟩⟩)/\((o=none/\Qmj c s L=none)\/∃ i,i < l.length/\o=some (l.getD i 0)/\Qmj c s L=some (M (l.getD i 0)).h):=by
 obtain ⟨o,h1,h2⟩:=find_spec h.hs c s
 refine ⟨o,h1, ?_⟩
 rcases h2 with ⟨rfl,h2⟩ | ⟨i,hi,rfl,h2⟩
 ·left
  refine ⟨rfl,List.find?_eq_none.2 fun x hx=>?_⟩
  obtain ⟨a,ha,rfl⟩:=List.mem_map.1 (h.perm.mem_iff.2 hx)
  rw [h2 a ha]
  simp
 right
 exact ⟨i,hi,rfl,Wkj h.good.apart (h.mem (Qg5 hi)) h2⟩
theorem Wf7 {κ:Nat->Jk} {l:List Nat} {n:Nat} (h:Heap κ l n):∀ i,i < n->leS (Kf κ l 0) (Kf κ l i):=by
 intro i
 induction i using Nat.strongRecOn with
 | _ i ih=>
  intro hi
  by_cases h0:i=0
  ·rw [h0];exact Wi3 _
  exact Qq3 (ih ((i - 1) / 2) (by omega) (by omega)) (h i (by omega) hi)
theorem Wl6 {x:Yl} {xs:List Yl} {l:List Nat} {M:Nat->Qh} (h:QI (x :: xs) l M):0 < l.length/\(M (l.getD 0 0)).h=x:=by
 have hlen:=h.len
 have h0:0 < l.length:=by rw [hlen];simp
 refine ⟨h0, ?_⟩
 obtain ⟨a,ha,hx⟩:=List.mem_map.1 (h.perm.mem_iff.2 (List.mem_cons_self (a:=x) (l:=xs)))
 obtain ⟨i,hi,rfl⟩:=List.mem_iff_getElem.1 ha
 have Qxh:=Wf7 h.heap i hi
 have hgi:l.getD i 0=l[i]:=by simp [hi]
 unfold Kf at Qxh
 rw [hgi] at Qxh
 simp only [hx] at Qxh
 rcases List.mem_cons.1 (h.mem (Qg5 h0)) with e | e
 ·exact e
 exact absurd ((List.pairwise_cons.1 h.good.up).1 _ e) Qxh
theorem Wj0 {L:List Yl} {l:List Nat} {M:Nat->Qh} (h:QI L l M) (dom:List Nat):Qdo ⟨⟨l⟩⟩ dom M=((L.length:Int),⟨⟨l⟩⟩):=by
 unfold Qdo
 rw [<- h.len]
theorem Wkk {q:QL} {l:List Nat} {M:Nat->Qh} (h:QI q.l l M) (clock:Int):Qg6 ⟨⟨l⟩⟩ clock l M=some (Qnd q clock,⟨⟨l⟩⟩):=by
 unfold Qg6
 simp only [bnd]
 rw [Wj0 h]
 simp only [Wj0 h]
 unfold Qnd
 obtain ⟨L,g⟩:=q
 cases L with
 | nil=>rfl
 | cons x xs=>
  obtain ⟨h0,hx⟩:=Wl6 h
  rw [if_neg (by simp;omega),if_pos (by omega),if_pos (Qg5 h0),hx]
theorem Wlu {h:Yl} (hp:h.M.Pairs.length<=1000000):Qew h=some h:=by
 unfold Qew
 rw [if_pos (by omega)]
end Go.SyP
