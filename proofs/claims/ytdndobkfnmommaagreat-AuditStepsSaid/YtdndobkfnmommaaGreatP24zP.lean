/- What is wrong with a story: audit's findings are the document's. -/
import Derived.Test.YtdndobkfnmommaaGreatP24zO
set_option linter.unusedVariables false
set_option linter.unusedSimpArgs false
namespace Go.SyP
open Go Go.Sy Sets
noncomputable section
def Qny (c:Int) (mk:Int) (e:Wn):Int:=if (decide (e.Kind=2/\e.Client=c) && Qkr e)=true then max mk e.Mark else mk
def Qjt (c:Int) (l:List Wn):Int:=l.foldl (Qny c) 0
theorem Qo6 (c:Int) (l:List Wn) (e:Wn):Qjt c (l ++ [e])=Qny c (Qjt c l) e:=by simp [Qjt]
def Qml (order:List Qe) (l:List Qn) (key mark:Int):Ze:=⟨(look (Qlq order l mark) key).getD 0,(look (Qlq order l mark) key).isSome⟩
def Qr1 (order:List Qe) (l:List Qn) (mk:Int) (e:Wn):Int:=
 if Qkr e=true then
  if e.Kind=1 then (if e.M.Seq=(l.length:Int)+1 then 0 else 2)
  else if e.Mark < mk then 3
  else if (Qml order l e.Key e.Mark).Val=e.Cell.Val/\(Qml order l e.Key e.Mark).Some=e.Cell.Some then 0 else 4
 else 1
def Qju (l:List Wn):PT:=fun c=>(Qfr c l,Qjt c l)
theorem past_nil:Qju []=fun _=>([],0):=rfl
theorem Qpc {l:List Wn} {e:Wn} (h1:∀ c,Qmk c (Qfr c l) e=false) (h2:∀ c,Qny c (Qjt c l) e=Qjt c l):Qju (l ++ [e])=Qju l:=by
 funext c
 unfold Qju
 rw [Qo3,Qo6,h2]
 unfold Qjs
 rw [h1]
 rfl
theorem Wjk {e:Wn} (h:Qkr e=true) (k1:¬ e.Kind=1):e.Kind=2/\0<=e.Mark/\1<=e.Client:=by
 unfold Qkr at h
 rw [if_neg k1] at h
 by_cases k2:e.Kind=2
 ·rw [if_pos k2] at h
  simp only [Bool.and_eq_true,decide_eq_true_eq] at h
  exact ⟨k2,h.2.1.2.2.2.2,h.2.1.1⟩
 rw [if_neg k2] at h;cases h
theorem Wjf (order:List Qe) (l:List Wn) (e:Wn) (hl:l.length<=29) (hp:e.M.Pairs.length<=10) (hs:Qnb order (Qfr e.Client l)):
  Qcs order e (Qju l)=some (Qr1 order (Qfr e.Client l) (Qjt e.Client l) e,Qju (l ++ [e])):=by
 have hil:=Qww e.Client l
 unfold Qcs Qr1
 rw [Wdb e (by omega),Option.bind_some]
 cases hfo:Qkr e with
 | false=>
  rw [if_neg (by decide),if_neg (by decide),Qpc (fun c=>by simp [Qmk,hfo]) (fun c=>by simp [Qny,hfo])]
 | true=>
  rw [if_pos rfl,if_pos rfl]
  have hP:Qju l e.Client=(Qfr e.Client l,Qjt e.Client l):=rfl
  rw [hP]
  have hw:IntKind.wrap .i64 (((Qfr e.Client l).length:Int)+1)=((Qfr e.Client l).length:Int)+1:=by rw [wr (by omega)]
  by_cases k1:e.Kind=1
  ·rw [if_pos k1,if_pos k1]
   simp only [hw]
   have hm:∀ c,Qny c (Qjt c l) e=Qjt c l:=fun c=>by simp [Qny,k1]
   by_cases k2:e.M.Seq=((Qfr e.Client l).length:Int)+1
   ·rw [if_pos k2,if_pos k2,if_pos (by omega),if_pos (by omega)]
    congr 2
    funext c
    unfold Qju Qhl
    rw [Qo3,Qo6,hm]
    by_cases hc:c=e.Client
    ·subst hc
     rw [if_pos rfl]
     unfold Qjs
     rw [if_pos (by simp [Qmk,k1,hfo,k2])]
    rw [if_neg hc]
    unfold Qjs
    rw [if_neg (by simp [Qmk,Ne.symm hc])]
   rw [if_neg k2,if_neg k2,Qpc (fun c=>by
    by_cases hc:e.Client=c
    ·subst hc;simp [Qmk,k2]
    simp [Qmk,hc]) hm]
  rw [if_neg k1,if_neg k1]
  obtain ⟨f1,f2,f3⟩:=Wjk hfo k1
  have hi:∀ c,Qmk c (Qfr c l) e=false:=fun c=>by simp [Qmk,k1]
  by_cases k2:e.Mark < Qjt e.Client l
  ·rw [if_pos k2,if_pos k2,Qpc hi fun c=>by
    unfold Qny
    by_cases hc:e.Client=c
    ·subst hc;rw [if_pos (by simp [f1,hfo])];omega
    rw [if_neg (by simp [hc])]]
  rw [if_neg k2,if_neg k2]
  simp only
  rw [Wh8 hs,Option.bind_some]
  have hpast:Qhl (Qju l) e.Client (Qfr e.Client l,e.Mark)=Qju (l ++ [e]):=by
   funext c
   have hiss:∀ c,Qjs c (Qfr c l) e=Qfr c l:=fun c=>by unfold Qjs;rw [hi];rfl
   unfold Qju Qhl
   rw [Qo3,Qo6,hiss]
   by_cases hc:c=e.Client
   ·subst hc
    rw [if_pos rfl]
    unfold Qny
    rw [if_pos (by simp [f1,hfo]),show max (Qjt e.Client l) e.Mark=e.Mark by omega]
   rw [if_neg hc]
   unfold Qny
   rw [if_neg (by simp [Ne.symm hc])]
  unfold Qcs.j1
  simp only [hP]
  rw [hpast]
  show _=some (if (Qml order (Qfr e.Client l) e.Key e.Mark).Val=e.Cell.Val/\(Qml order (Qfr e.Client l) e.Key e.Mark).Some=e.Cell.Some then (0:Int) else 4,_)
  change (if (Qml order (Qfr e.Client l) e.Key e.Mark).Val=e.Cell.Val then (if (Qml order (Qfr e.Client l) e.Key e.Mark).Some=true then _ else _) else (if (Qml order (Qfr e.Client l) e.Key e.Mark).Some=true then _ else _))=_
  generalize Qml order (Qfr e.Client l) e.Key e.Mark=C
  by_cases h1:C.Val=e.Cell.Val<;>by_cases h2:C.Some=true<;>by_cases h3:e.Cell.Some=true<;>simp [h1,h2,h3]
def wAt (order:List Qe) (Qa6:List Wn) (i:Nat):Int:=
 Qr1 order (Qfr (Qa6.getD i Wn.z).Client (Qa6.take i)) (Qjt (Qa6.getD i Wn.z).Client (Qa6.take i)) (Qa6.getD i Wn.z)
def Qh4 (order:List Qe) (Qa6:List Wn) (n:Nat):List (Int × Int):=(List.range n).filterMap fun i=>if wAt order Qa6 i=0 then none else some ((i:Int),wAt order Qa6 i)
theorem Qhi (order:List Qe) (Qa6:List Wn) (n:Nat):Qh4 order Qa6 (n+1)=if wAt order Qa6 n=0 then Qh4 order Qa6 n else Qh4 order Qa6 n ++ [((n:Int),wAt order Qa6 n)]:=by
 unfold Qh4
 rw [List.range_succ,List.filterMap_append]
 by_cases h:wAt order Qa6 n=0<;>simp [h]
theorem Wc7 (order:List Qe) (Qa6:List Wn) (n:Nat):(Qh4 order Qa6 n).length<=n:=by
 unfold Qh4
 exact Nat.le_trans (List.length_filterMap_le _ _) (by simp)
def fI (x:Int × Int):Yt:=⟨x.1,x.2⟩
structure Qs8 (order:List Qe) (Qa6:List Wn):Prop where
 few:Few order
 len:order.length<=30
 fv:Wjq Qa6
theorem Qs8.see {order:List Qe} {Qa6:List Wn} (h:Qs8 order Qa6) (ho:Ord order) (c:Int) (n:Nat):Qnb order (Qfr c (Qa6.take n)):=
 ⟨h.few,h.len,ho.ok,fun m hm=>(Wfy c _ m hm).1,by
  have:=Qww c (Qa6.take n)
  have:=h.fv.len
  rw [List.length_take] at *
  omega⟩
theorem Qvt {order:List Qe} {Qa6:List Wn} (h:Qs8 order Qa6):(Ord order->Jz order Qa6=some ((Qh4 order Qa6 Qa6.length).map fI,0))/\(¬ Ord order->Jz order Qa6=some ([],1)):=by
 obtain ⟨r,h1,_,h3⟩:=Qy4 order h.few
 have hl:=h.fv.len
 constructor
 ·intro ho
  unfold Jz
  rw [h1,Option.bind_some,if_pos (h3.2 ho)]
  obtain ⟨s,q1,q2⟩:=Qbj (step:=Jz.step order Qa6) (n:=Qa6.length) (fun i (t:PT × List Yt)=>Jz.S.l1 (i:Int) t.1 t.2) (fun i t=>t=(Qju (Qa6.take i),(Qh4 order Qa6 i).map fI)) (fun r=>r=((Qh4 order Qa6 Qa6.length).map fI,0)) (by
   rintro t rfl
   exact ⟨_,by simp [Jz.step,Jz.l1],rfl⟩) (by
   rintro i t hi rfl
   left
   have Yj:(0:Int)<=(i:Int)/\(i:Int) < (Qa6.length:Int):=by omega
   have hp:=h.fv.prs _ (Qeo (z:=Wn.z) hi)
   have hfl:=Wc7 order Qa6 i
   simp only [Jz.step,Jz.l1,Jz.j1,Yj.2,if_true,Yj,and_self,show (i:Int).toNat=i from rfl,wr1 hi (by omega:Qa6.length<=9223372036854775807)]
   rw [Wjf order (Qa6.take i) (Qa6.getD i Wn.z) (by rw [List.length_take];omega) hp (h.see ho _ _),Option.bind_some,<- take_at hi]
   refine ⟨(Qju (Qa6.take (i+1)),(Qh4 order Qa6 (i+1)).map fI), ?_,rfl⟩
   rw [Qhi]
   show (if wAt order Qa6 i=0 then _ else _)=_
   by_cases hw:wAt order Qa6 i=0
   ·rw [if_pos hw,if_pos hw]
   rw [if_neg hw,if_neg hw,List.length_map,if_pos (by omega)]
   simp only [List.map_append,List.map_cons,List.map_nil]
   rfl) 0 (fun _=>([],0),[]) (Nat.zero_le _) (by simp [past_nil,Qh4])
  subst q2
  exact q1
 intro ho
 unfold Jz
 rw [h1,Option.bind_some,if_neg (fun hr=>ho (h3.1 hr))]
end
end Go.SyP
