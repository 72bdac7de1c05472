/- One step, whole: and what spread makes of it. -/
import Derived.Test.YtdhmflhncidjaaaGreatPthzV
set_option linter.unusedVariables false
set_option linter.unusedSimpArgs false
namespace Go.SyP
open Go Go.Sy Sets
theorem Qva {α:Type} {l:List α} {x z:α}:(l ++ [x]).getD l.length z=x:=by rw [Qnl,if_neg (by omega),if_pos rfl]
theorem Wnw (t:Qn) (k:Qg) (h:t.notes.length<=1000):∃ a:Xg,a.Kind=4/\Qc9 t k=some ⟨t.c,t.x,t.recs,t.notes ++ [a]⟩:=by
 refine ⟨⟨4,t.c.ID,0,k.Client,k.Seq,k.Time,0,false,k.Qa3,⟨0,0,0,[],⟨0,0⟩,0⟩,[],[],[],[],⟨0,0,[]⟩⟩,rfl, ?_⟩
 unfold Qc9 Qag
 rw [if_pos (by simp only;omega)]
 rfl
theorem Wk4 {i:Nat} {L:List Qe} {m:Qp} (h:Qfq i L m) (R:List Wu) (N:List Xg) (r:Wu) (hk:r.Kind=1) (hm:r.M=m) (ht:r.Time=(L.length:Int)+1):
  Qej ⟨C0 L false false,X1,R,N⟩ r=some (0,⟨C1 L m false,X1,R,N⟩):=by
 unfold Qej
 rw [if_neg (by simp [C0]),if_pos hk]
 exact Qa1 (Wnd h R N r hm ht) rfl
theorem Wka {i:Nat} {L:List Qe} {m:Qp} (h:Qfq i L m) (R:List Wu) (N:List Xg) (hR:R.length<=1000) (r:Wu) (hk:r.Kind=1) (hm:r.M=m) (ht:r.Time=(L.length:Int)+1):
  ∃ R':List Wu,R'.length=R.length+1/\Qo ⟨C0 L false false,X1,R,N⟩ r=some (0,⟨C1 L m false,X1,R',N⟩):=by
 have hp:=h.pl
 refine ⟨R ++ [⟨r.Kind,1,r.Client,r.Seq,r.Time,m,r.Core,r.Zu⟩],by simp, ?_⟩
 unfold Qo
 refine Qa1 (Wk4 h R N ⟨r.Kind,1,r.Client,r.Seq,r.Time,r.M,r.Core,r.Zu⟩ hk hm ht) ?_
 try dsimp only
 rw [if_pos rfl,hm]
 refine Qa1 (Qnt (by omega)) ?_
 try dsimp only
 rw [if_pos (by omega),if_neg (by simp [C0,C1]),if_pos (by simp [C0,C1]),Ya]
 simp only [Qo.g2.step,Qo.g2.l1]
 rw [if_neg (by simp)]
 rfl
theorem Wk3 {i:Nat} {L:List Qe} {m:Qp} (h:Qfq i L m) (R:List Wu) (N:List Xg) (r:Wu) (hk:r.Kind=2) (hc:r.Client=m.Client) (hs:r.Seq=m.Seq) (ht:r.Time=(L.length:Int)+1):
  Qej ⟨C1 L m false,X1,R,N⟩ r=some (0,⟨C0 (L ++ [En L m]) false false,X1,R,N⟩):=by
 unfold Qej
 rw [if_neg (by simp [C1]),if_neg (by omega),if_pos hk]
 exact Qa1 (Wjp h R N r hc hs ht) rfl
theorem Wj9 {i:Nat} {L:List Qe} {m:Qp} (h:Qfq i L m) (R:List Wu) (N:List Xg) (hR:R.length<=1000) (hN:N.length<=1000) (r:Wu) (hk:r.Kind=2) (hm:r.M.Pairs.length<=5000) (hc:r.Client=m.Client) (hs:r.Seq=m.Seq) (ht:r.Time=(L.length:Int)+1):
  ∃ (R':List Wu) (a:Xg),a.Kind=4/\Qo ⟨C1 L m false,X1,R,N⟩ r=some (0,⟨C0 (L ++ [En L m]) false false,X1,R',N ++ [a]⟩):=by
 have hp:=h.pl
 obtain ⟨a,a1,a2⟩:=Wnw ⟨C0 (L ++ [En L m]) false false,X1,R ++ [⟨r.Kind,1,r.Client,r.Seq,r.Time,r.M,r.Core,r.Zu⟩],N⟩ (toK (En L m)) hN
 refine ⟨R ++ [⟨r.Kind,1,r.Client,r.Seq,r.Time,r.M,r.Core,r.Zu⟩],a,a1, ?_⟩
 unfold Qo
 refine Qa1 (Wk3 h R N ⟨r.Kind,1,r.Client,r.Seq,r.Time,r.M,r.Core,r.Zu⟩ hk hc hs ht) ?_
 try dsimp only
 rw [if_pos rfl]
 refine Qa1 (Qnt hm) ?_
 try dsimp only
 have e1:(C1 L m false).Log.length=L.length:=rfl
 have e2:(C0 (L ++ [En L m]) false false).Log.length=L.length+1:=by simp [C0]
 rw [if_pos (by omega),if_pos (by rw [e1,e2];omega),if_pos (by omega),Ya]
 simp only [Qo.step,Qo.l1]
 rw [if_pos (by rw [e1,e2];simp),if_pos (by rw [e1,e2];simp)]
 have e3:(C0 (L ++ [En L m]) false false).Log.getD ((0:Int).toNat+((C1 L m false).Log.length:Int).toNat) Qe.z=En L m:=by
  rw [e1]
  show (L ++ [En L m]).getD (0+L.length) Qe.z=_
  rw [Nat.zero_add,Qva]
 rw [e3]
 have a3:Qc9 ⟨C0 (L ++ [En L m]) false false,X1,R ++ [⟨r.Kind,1,r.Client,r.Seq,r.Time,r.M,r.Core,r.Zu⟩],N⟩ ⟨(En L m).M.Client,(En L m).M.Seq,(En L m).Time,(En L m).Qa3⟩=_:=a2
 have a4:∀ f:Qn->Option (Qo.S ⊕ (Int × Qn)),(Qc9 ⟨C0 (L ++ [En L m]) false false,X1,R ++ [⟨r.Kind,1,r.Client,r.Seq,r.Time,r.M,r.Core,r.Zu⟩],N⟩ ⟨(En L m).M.Client,(En L m).M.Seq,(En L m).Time,(En L m).Qa3⟩).bind f=f ⟨C0 (L ++ [En L m]) false false,X1,R ++ [⟨r.Kind,1,r.Client,r.Seq,r.Time,r.M,r.Core,r.Zu⟩],N ++ [a]⟩:=fun f=>by rw [a3];rfl
 refine (congrArg (fun o=>Jq o _) (a4 _)).trans ?_
 simp only [Jq,w01]
 rw [Ya]
 simp only [Qo.step,Qo.l1]
 rw [if_neg (by rw [e1,e2];simp)]
 rfl
theorem Wlg {t:Qn} {w:Qh} (hx:t.x=X1) (hi:t.c.ID=1) (hm:mOk w.M=true) (hp:w.Qg6=[]) (ht:0<=w.Time):Xl t w=some (w.Time,true):=by
 unfold Xl
 refine Qa1 (parts_eq (t:=t) hx hi hm) ?_
 rw [Ya]
 simp only [Xl.step,Xl.l1]
 rw [if_pos (by decide),if_pos (by decide)]
 have:Qjz w (([1]:List Int).getD (0:Int).toNat 0)=some (0,false):=by
  unfold Qjz Zz
  rw [hp,Ya]
  simp [Zz.step,Zz.l1,Jq]
 rw [this,Option.bind_some,if_pos (by rw [hi];rfl)]
 unfold Xl.j1
 rw [if_neg (by decide)]
 simp only [Jq,w01]
 rw [Ya]
 simp only [Xl.step,Xl.l1]
 rw [if_neg (by decide)]
 have:Qb6 w.Time 0=w.Time:=by unfold Qb6;split<;>omega
 rw [this]
 rfl
theorem Wk5 {t:Qn} (h:t.c.Held=[]):Xd t=some (-1,0):=by
 unfold Xd
 rw [Ya]
 simp only [Xd.step,Xd.l1,h]
 rw [if_neg (by simp)]
 rfl
theorem Wk6 {i:Nat} {L:List Qe} {m:Qp} (h:Qfq i L m) (R:List Wu) (N:List Xg):Xd ⟨C1 L m false,X1,R,N⟩=some (0,(L.length:Int)+1):=by
 unfold Xd
 rw [Ya]
 have s1:Xd.step ⟨C1 L m false,X1,R,N⟩ (.l1 (-1) 0 0)=some (.inl (.l1 0 ((L.length:Int)+1) 1)):=by
  simp only [Xd.step,Xd.l1]
  rw [if_pos (by simp [C1]),if_pos (by simp [C1]),if_neg (by simp [C1,W1]),if_neg (by decide)]
  unfold Xd.j1
  rw [if_neg (by decide)]
  refine Qa1 (Wlg (t:=⟨C1 L m false,X1,R,N⟩) (w:=W1 L m false) rfl rfl h.ok rfl (by simp only [W1];omega)) ?_
  try dsimp only
  rw [if_pos rfl]
  unfold Xd.j2
  rw [w01]
  rfl
 rw [s1]
 simp only [Jq]
 rw [Ya]
 simp only [Xd.step,Xd.l1]
 rw [if_neg (by simp [C1])]
 rfl
theorem Wif {i:Nat} {L:List Qe} {m:Qp} (h:Qfq i L m) (R:List Wu) (N:List Xg) (hR:R.length<=1000) (hN:N.length<=1000):
  ∃ (R':List Wu) (a:Xg),a.Kind=4/\Yd ⟨C1 L m false,X1,R,N⟩=some ⟨C0 (L ++ [En L m]) false false,X1,R',N ++ [a]⟩:=by
 obtain ⟨R',a,a1,a2⟩:=Wj9 h R N hR hN ⟨2,0,m.Client,m.Seq,(L.length:Int)+1,⟨0,0,0,[],⟨0,0⟩,0⟩,⟨0,⟨0,0⟩,0,false,false,[],[],[],[]⟩,⟨0,0,[]⟩⟩ rfl (by simp) rfl rfl rfl
 refine ⟨R',a,a1, ?_⟩
 unfold Yd
 rw [Ya]
 simp only [Yd.step]
 have s1:Yd.l1 (C1 L m false).ID (C1 L m false).Keys.Lo (C1 L m false).Keys.Hi (C1 L m false).Clock (C1 L m false).Ws (C1 L m false).Wn (C1 L m false).Base X1.Qbl X1.Next X1.L (C1 L m false).Held (C1 L m false).Log (C1 L m false).Known R N =
   some (.inl (.l1 1 0 4096 ((L ++ [En L m]).length:Int) false false [] 1 2 [⟨1,⟨0,4096⟩,0⟩] [] (L ++ [En L m]) ((L ++ [En L m]).map toK) R' (N ++ [a]))):=by
  unfold Yd.l1
  refine Qa1 (Wk6 h R N) ?_
  try dsimp only
  rw [if_neg (by decide),if_pos (by simp [C1])]
  refine Qa1 a2 ?_
  rfl
 rw [s1]
 simp only [Jq]
 rw [Ya]
 simp only [Yd.step]
 unfold Yd.l1
 refine (congrArg (fun o=>Jq o _) (Qa1 (r:=some (Sum.inr ⟨C0 (L ++ [En L m]) false false,X1,R',N ++ [a]⟩)) (Wk5 (t:=⟨C0 (L ++ [En L m]) false false,X1,R',N ++ [a]⟩) rfl) ?_)).trans ?_
 ·rfl
 rfl
end Go.SyP
namespace Go.SyP
open Go Go.Sy Sets
theorem Wm7 {i:Nat} {L:List Qe} {m:Qp} (h:Qfq i L m):
  ∃ R':List Wu,R'.length=1/\Wp ⟨C0 L false false,X1,[],[]⟩ m (L.length:Int) true=some (0,⟨C1 L m false,X1,R',[]⟩):=by
 have hl:=h.len
 obtain ⟨R',r1,r2⟩:=Wka h [] [] (by simp) ⟨1,0,0,0,IntKind.wrap .i64 ((L.length:Int)+1),m,⟨0,⟨0,0⟩,0,false,false,[],[],[],[]⟩,⟨0,0,[]⟩⟩ rfl rfl (wr (by omega))
 refine ⟨R',r1, ?_⟩
 unfold Wp
 refine Qa1 (parts_eq (t:=⟨C0 L false false,X1,[],[]⟩) rfl rfl h.ok) ?_
 try dsimp only
 rw [if_neg (by simp [C0])]
 unfold Wp.j1
 rw [if_neg (by decide),if_neg (by simp [C0])]
 unfold Wp.j2
 rw [if_neg (by decide),if_neg (by omega)]
 refine Qa1 r2 ?_
 try dsimp only
 rw [if_pos rfl,Ya]
 simp only [Wp.step,Wp.l1]
 rw [if_pos (by decide),if_pos (by decide),if_pos (by rfl)]
 simp only [Jq,w01]
 rw [Ya]
 simp only [Wp.step,Wp.l1]
 rw [if_neg (by decide)]
 rfl
theorem Wmw {i:Nat} {L:List Qe} {m:Qp} (h:Qfq i L m):
  ∃ (R':List Wu) (a:Xg),a.Kind=4/\Zc ⟨C0 L false false,X1,[],[]⟩ ⟨1,0,0,0,0,false,m⟩=some (0,⟨C0 (L ++ [En L m]) false false,X1,R',[a]⟩):=by
 have hl:=h.len
 have hp:=h.pl
 obtain ⟨R1,r1,r2⟩:=Wm7 h
 obtain ⟨R',a,a1,a2⟩:=Wif h R1 [] (by omega) (by simp)
 refine ⟨R',a,a1, ?_⟩
 unfold Zc
 refine Qa1 ((Qge m (by omega)).trans (congrArg some h.ok)) ?_
 try dsimp only
 rw [if_pos rfl]
 unfold Zc.j1
 rw [if_neg (by decide)]
 refine Qa1 (Qo5 (c:=C0 L false false) (cl:=m.Client) (s:=m.Seq) (by simp only [C0,List.length_map];omega) h.Wb6) ?_
 try dsimp only
 rw [if_neg (by simp)]
 refine Qa1 (Qyw (c:=C0 L false false) rfl _ _) ?_
 try dsimp only
 rw [if_neg (by decide)]
 have e:Qb6 ((C0 L false false).Clock) 0=(L.length:Int):=by
  show Qb6 (L.length:Int) 0=_
  unfold Qb6
  split<;>omega
 rw [e]
 refine Qa1 r2 ?_
 try dsimp only
 rw [if_pos rfl]
 exact Qa1 a2 rfl
theorem set_self {α:Type} {l:List α} {i:Nat} {z:α} (h:i < l.length):l.set i (l.getD i z)=l:=by
 apply List.ext_getElem?
 intro j
 rw [List.getElem?_set]
 split
 ·rename_i e
  subst e
  simp [List.getD_eq_getElem?_getD,h]
 rfl
theorem Wh5 {c:Qc} (h:c.Held=[]) (h1:c.Base.length<=5000) (h2:c.Log.length<=5000) (h3:c.Known.length<=5000) (h4:∀ e∈c.Log,e.M.Pairs.length<=5000):Zi c=some c:=by
 unfold Zi
 rw [if_pos (by rw [h];simp),if_pos (by omega),if_pos (by omega),if_pos (by omega),Ya]
 simp only [Zi.step,Zi.l1]
 rw [if_neg (by rw [h];simp)]
 simp only [Jq]
 obtain ⟨r,q1,q2⟩:=Qd7 (step:=Zi.step c) (n:=c.Log.length) (fun i (_:Unit)=>.l2 (i:Int) c.Log) (fun _ _=>True) (fun r=>r=c) (fun _ _=>⟨c,by
   simp only [Zi.step,Zi.l2]
   rw [if_neg (by omega)],rfl⟩)
  (fun i _ hi _=>.inl ⟨(),by
   simp only [Zi.step,Zi.l2]
   rw [if_pos (by omega),if_pos (by omega),show (i:Int).toNat=i from rfl,Qnt (h4 _ (Qgl hi)),Option.bind_some,wr1 hi (by omega:c.Log.length<=9223372036854775807)]
   rw [show (⟨(c.Log.getD i Qe.z).M,(c.Log.getD i Qe.z).Time,(c.Log.getD i Qe.z).Qa3⟩:Qe)=c.Log.getD i Qe.z from rfl,set_self hi],trivial⟩) 0 () (Nat.zero_le _) trivial
 rw [q2] at q1
 exact q1
theorem Wlu {i:Nat} {L:List Qe} {m:Qp} (h:Qfq i L m):
  ∃ (R':List Wu) (a:Xg),a.Kind=4/\Zm (C0 L false false) X1 ⟨1,0,0,0,0,false,m⟩=some ⟨C0 (L ++ [En L m]) false false,R',[a],0⟩:=by
 have hl:=h.len
 obtain ⟨R',a,a1,a2⟩:=Wmw h
 refine ⟨R',a,a1, ?_⟩
 have hc:Zi (C0 L false false)=some (C0 L false false):=Wh5 rfl (by simp [C0]) (by simp only [C0];omega) (by simp only [C0,List.length_map];omega) (fun e he=>by
  have:=(Ql5 (h.mok e he)).len
  omega)
 unfold Zm
 refine Qa1 (Qs5 (We3 h.log (by have:=h.few;omega) false false) rfl (Wlj h.log (by have:=h.few;omega) (by simp))) ?_
 try dsimp only
 rw [if_pos rfl]
 refine Qa1 Qyh ?_
 unfold Zm.j1
 rw [if_neg (by decide)]
 refine Qa1 hc ?_
 refine Qa1 (a:=(0,⟨C0 (L ++ [En L m]) false false,X1,R',[a]⟩)) ?_ ?_
 ·unfold Qd2
  rw [if_pos rfl]
  exact Qa1 a2 rfl
 rfl
theorem Wij {i:Nat} {L:List Qe} {m:Qp} (h:Qfq i L m):Wj [C0 L false false] X1 m=some (true,[C0 (L ++ [En L m]) false false]):=by
 obtain ⟨R',a,a1,a2⟩:=Wlu h
 obtain ⟨T,t1,t2⟩:=Qw0 h.ok
 unfold Wj
 refine Qa1 t1 ?_
 refine Qa1 (Qwp t2) ?_
 try dsimp only
 rw [if_neg (by decide),if_pos (by decide),if_pos (by
  rw [show IntKind.wrap .i64 ((([1]:List Int).getD 0 0) - 1)=0 by decide]
  simp)]
 have e0:(IntKind.wrap .i64 ((([1]:List Int).getD 0 0) - 1)).toNat=0:=by decide
 rw [e0]
 refine Qa1 a2 ?_
 rw [Ya]
 have s1:Wj.step [C0 L false false] [1] ⟨C0 (L ++ [En L m]) false false,R',[a],0⟩ (.l1 0)=some (.inl (.l1 1)):=by
  simp only [Wj.step,Wj.l1]
  rw [if_pos (by simp)]
  unfold Wj.j1
  rw [if_pos (by decide),if_pos (by simp),show ([a]:List Xg).getD (0:Int).toNat Xg.z=a from rfl,a1,if_neg (by decide)]
  unfold Wj.j2
  rw [if_pos (by decide),w01]
 rw [s1]
 simp only [Jq]
 rw [Ya]
 have s2:Wj.step [C0 L false false] [1] ⟨C0 (L ++ [En L m]) false false,R',[a],0⟩ (.l1 1)=some (.inr (true,[C0 (L ++ [En L m]) false false])):=by
  simp only [Wj.step,Wj.l1]
  rw [if_neg (by simp)]
  unfold Wj.j1
  rw [if_neg (by decide),e0]
  rfl
 rw [s2]
 rfl
end Go.SyP
