/- What is wrong with a story: audit's findings are the document's. -/
import Derived.Test.YtdndobkfnmommaaGreatP24zO
set_option linter.unusedVariables false
set_option linter.unusedSimpArgs false
namespace Go.SyP
open Go Go.Sy Sets
noncomputable section
def Qn6 (c:Int) (mk:Int) (e:Qy):Int:=if (decide (e.Kind=2/\e.Client=c) && Qij e)=true then max mk e.Mark else mk
def Qj0 (c:Int) (l:List Qy):Int:=l.foldl (Qn6 c) 0
theorem Qpd (c:Int) (l:List Qy) (e:Qy):Qj0 c (l ++ [e])=Qn6 c (Qj0 c l) e:=by simp [Qj0]
def Qmv (order:List Qd) (l:List Ql) (key mark:Int):Yv:=⟨(look (Qiv order l mark) key).getD 0,(look (Qiv order l mark) key).isSome⟩
def Qr2 (order:List Qd) (l:List Ql) (mk:Int) (e:Qy):Int:=
 if Qij e=true then
  if e.Kind=1 then (if e.M.Seq=(l.length:Int)+1 then 0 else 2)
  else if e.Mark < mk then 3
  else if (Qmv order l e.Key e.Mark).Val=e.Cell.Val/\(Qmv order l e.Key e.Mark).Some=e.Cell.Some then 0 else 4
 else 1
def Qj1 (l:List Qy):PT:=fun c=>(Qdv c l,Qj0 c l)
theorem past_nil:Qj1 []=fun _=>([],0):=rfl
theorem Qph {l:List Qy} {e:Qy} (h1:∀ c,Qif c (Qdv c l) e=false) (h2:∀ c,Qn6 c (Qj0 c l) e=Qj0 c l):Qj1 (l ++ [e])=Qj1 l:=by
 funext c
 unfold Qj1
 rw [Qpa,Qpd,h2]
 unfold Qg5
 rw [h1]
 rfl
theorem Wi8 {e:Qy} (h:Qij e=true) (k1:¬ e.Kind=1):e.Kind=2/\0<=e.Mark/\1<=e.Client:=by
 unfold Qij at h
 rw [if_neg k1] at h
 by_cases k2:e.Kind=2
 ·rw [if_pos k2] at h
  simp only [Bool.and_eq_true,decide_eq_true_eq] at h
  exact ⟨k2,h.2.1.2.2.2.2,h.2.1.1⟩
 rw [if_neg k2] at h;cases h
theorem Wi0 (order:List Qd) (l:List Qy) (e:Qy) (hl:l.length<=29) (hp:e.M.Pairs.length<=10) (hs:Ql8 order (Qdv e.Client l)):
  Qci order e (Qj1 l)=some (Qr2 order (Qdv e.Client l) (Qj0 e.Client l) e,Qj1 (l ++ [e])):=by
 have hil:=Qrq e.Client l
 unfold Qci Qr2
 rw [Wc5 e (by omega),Option.bind_some]
 cases hfo:Qij e with
 | false=>
  rw [if_neg (by decide),if_neg (by decide),Qph (fun c=>by simp [Qif,hfo]) (fun c=>by simp [Qn6,hfo])]
 | true=>
  rw [if_pos rfl,if_pos rfl]
  have hP:Qj1 l e.Client=(Qdv e.Client l,Qj0 e.Client l):=rfl
  rw [hP]
  have hw:IntKind.wrap .i64 (((Qdv e.Client l).length:Int)+1)=((Qdv e.Client l).length:Int)+1:=by rw [wr (by omega)]
  by_cases k1:e.Kind=1
  ·rw [if_pos k1,if_pos k1]
   simp only [hw]
   have hm:∀ c,Qn6 c (Qj0 c l) e=Qj0 c l:=fun c=>by simp [Qn6,k1]
   by_cases k2:e.M.Seq=((Qdv e.Client l).length:Int)+1
   ·rw [if_pos k2,if_pos k2,if_pos (by omega),if_pos (by omega)]
    congr 2
    funext c
    unfold Qj1 Qhj
    rw [Qpa,Qpd,hm]
    by_cases hc:c=e.Client
    ·subst hc
     rw [if_pos rfl]
     unfold Qg5
     rw [if_pos (by simp [Qif,k1,hfo,k2])]
    rw [if_neg hc]
    unfold Qg5
    rw [if_neg (by simp [Qif,Ne.symm hc])]
   rw [if_neg k2,if_neg k2,Qph (fun c=>by
    by_cases hc:e.Client=c
    ·subst hc;simp [Qif,k2]
    simp [Qif,hc]) hm]
  rw [if_neg k1,if_neg k1]
  obtain ⟨f1,f2,f3⟩:=Wi8 hfo k1
  have hi:∀ c,Qif c (Qdv c l) e=false:=fun c=>by simp [Qif,k1]
  by_cases k2:e.Mark < Qj0 e.Client l
  ·rw [if_pos k2,if_pos k2,Qph hi fun c=>by
    unfold Qn6
    by_cases hc:e.Client=c
    ·subst hc;rw [if_pos (by simp [f1,hfo])];omega
    rw [if_neg (by simp [hc])]]
  rw [if_neg k2,if_neg k2]
  simp only
  rw [Wht hs,Option.bind_some]
  have hpast:Qhj (Qj1 l) e.Client (Qdv e.Client l,e.Mark)=Qj1 (l ++ [e]):=by
   funext c
   have hiss:∀ c,Qg5 c (Qdv c l) e=Qdv c l:=fun c=>by unfold Qg5;rw [hi];rfl
   unfold Qj1 Qhj
   rw [Qpa,Qpd,hiss]
   by_cases hc:c=e.Client
   ·subst hc
    rw [if_pos rfl]
    unfold Qn6
    rw [if_pos (by simp [f1,hfo]),show max (Qj0 e.Client l) e.Mark=e.Mark by omega]
   rw [if_neg hc]
   unfold Qn6
   rw [if_neg (by simp [Ne.symm hc])]
  unfold Qci.j1
  simp only [hP]
  rw [hpast]
  show _=some (if (Qmv order (Qdv e.Client l) e.Key e.Mark).Val=e.Cell.Val/\(Qmv order (Qdv e.Client l) e.Key e.Mark).Some=e.Cell.Some then (0:Int) else 4,_)
  change (if (Qmv order (Qdv e.Client l) e.Key e.Mark).Val=e.Cell.Val then (if (Qmv order (Qdv e.Client l) e.Key e.Mark).Some=true then _ else _) else (if (Qmv order (Qdv e.Client l) e.Key e.Mark).Some=true then _ else _))=_
  generalize Qmv order (Qdv e.Client l) e.Key e.Mark=C
  by_cases h1:C.Val=e.Cell.Val<;>by_cases h2:C.Some=true<;>by_cases h3:e.Cell.Some=true<;>simp [h1,h2,h3]
def wAt (order:List Qd) (Qae:List Qy) (i:Nat):Int:=
 Qr2 order (Qdv (Qae.getD i Qy.z).Client (Qae.take i)) (Qj0 (Qae.getD i Qy.z).Client (Qae.take i)) (Qae.getD i Qy.z)
def Qh6 (order:List Qd) (Qae:List Qy) (n:Nat):List (Int × Int):=(List.range n).filterMap fun i=>if wAt order Qae i=0 then none else some ((i:Int),wAt order Qae i)
theorem Qhg (order:List Qd) (Qae:List Qy) (n:Nat):Qh6 order Qae (n+1)=if wAt order Qae n=0 then Qh6 order Qae n else Qh6 order Qae n ++ [((n:Int),wAt order Qae n)]:=by
 unfold Qh6
 rw [List.range_succ,List.filterMap_append]
 by_cases h:wAt order Qae n=0<;>simp [h]
theorem Wc3 (order:List Qd) (Qae:List Qy) (n:Nat):(Qh6 order Qae n).length<=n:=by
 unfold Qh6
 exact Nat.le_trans (List.length_filterMap_le _ _) (by simp)
def fI (x:Int × Int):Ym:=⟨x.1,x.2⟩
structure Qta (order:List Qd) (Qae:List Qy):Prop where
 few:Few order
 len:order.length<=30
 fv:Qy9 Qae
theorem Qta.see {order:List Qd} {Qae:List Qy} (h:Qta order Qae) (ho:Ord order) (c:Int) (n:Nat):Ql8 order (Qdv c (Qae.take n)):=
 ⟨h.few,h.len,ho.ok,fun m hm=>(Qwt c _ m hm).1,by
  have:=Qrq c (Qae.take n)
  have:=h.fv.len
  rw [List.length_take] at *
  omega⟩
theorem Qvv {order:List Qd} {Qae:List Qy} (h:Qta order Qae):(Ord order->Jy order Qae=some ((Qh6 order Qae Qae.length).map fI,0))/\(¬ Ord order->Jy order Qae=some ([],1)):=by
 obtain ⟨r,h1,_,h3⟩:=Qr7 order h.few
 have hl:=h.fv.len
 constructor
 ·intro ho
  unfold Jy
  rw [h1,Option.bind_some,if_pos (h3.2 ho)]
  obtain ⟨s,q1,q2⟩:=Qbi (step:=Jy.step order Qae) (n:=Qae.length) (fun i (t:PT × List Ym)=>Jy.S.l1 (i:Int) t.1 t.2) (fun i t=>t=(Qj1 (Qae.take i),(Qh6 order Qae i).map fI)) (fun r=>r=((Qh6 order Qae Qae.length).map fI,0)) (by
   rintro t rfl
   exact ⟨_,by simp [Jy.step,Jy.l1],rfl⟩) (by
   rintro i t hi rfl
   left
   have Ye:(0:Int)<=(i:Int)/\(i:Int) < (Qae.length:Int):=by omega
   have hp:=h.fv.prs _ (Qd0 (z:=Qy.z) hi)
   have hfl:=Wc3 order Qae i
   simp only [Jy.step,Jy.l1,Jy.j1,Ye.2,if_true,Ye,and_self,show (i:Int).toNat=i from rfl,wr1 hi (by omega:Qae.length<=9223372036854775807)]
   rw [Wi0 order (Qae.take i) (Qae.getD i Qy.z) (by rw [List.length_take];omega) hp (h.see ho _ _),Option.bind_some,<- take_at hi]
   refine ⟨(Qj1 (Qae.take (i+1)),(Qh6 order Qae (i+1)).map fI), ?_,rfl⟩
   rw [Qhg]
   show (if wAt order Qae i=0 then _ else _)=_
   by_cases hw:wAt order Qae i=0
   ·rw [if_pos hw,if_pos hw]
   rw [if_neg hw,if_neg hw,List.length_map,if_pos (by omega)]
   simp only [List.map_append,List.map_cons,List.map_nil]
   rfl) 0 (fun _=>([],0),[]) (Nat.zero_le _) (by simp [past_nil,Qh6])
  subst q2
  exact q1
 intro ho
 unfold Jy
 rw [h1,Option.bind_some,if_neg (fun hr=>ho (h3.1 hr))]
end
end Go.SyP
