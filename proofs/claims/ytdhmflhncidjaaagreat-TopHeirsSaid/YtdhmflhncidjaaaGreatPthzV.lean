/- Cores of one shard of all keys: what they know, have, and that they may be. -/
import Derived.Test.YtdhmflhncidjaaaGreatPthzS
set_option linter.unusedVariables false
set_option linter.unusedSimpArgs false
namespace Go.SyP
open Go Go.Sy Sets
theorem Qmc:SOk [⟨0,4096⟩]:=Qn6 (by decide)
theorem Wad {m:Qp} (h:mOk m=true):∃ k,Qig m k=true:=by
 have hm:=Ql5 h
 unfold Qig
 by_cases k2:m.Kind=2
 ·have ho:=hm.Qzv k2
  refine ⟨m.Over.Lo, ?_⟩
  rw [if_pos k2]
  unfold Ok pa at ho
  simp only [Bool.and_eq_true,decide_eq_true_eq]
  simp only at ho
  omega
 have hp:∃ p l,m.Pairs=p :: l:=by
  rcases hm.kind with k | k | k | k | k
  ·unfold mOk at h
   simp only [Bool.and_eq_true,decide_eq_true_eq] at h
   have hk:=h.2
   unfold Qro at hk
   rw [if_neg k2] at hk
   simp only [Bool.and_eq_true,decide_eq_true_eq] at hk
   have hk:=hk.2
   rw [if_neg (by omega)] at hk
   simp only [Bool.and_eq_true,decide_eq_true_eq] at hk
   have hk:=hk.2
   rw [if_pos k] at hk
   simp only [Bool.and_eq_true] at hk
   have:=Qtc hk.1
   cases hP:m.Pairs with
   | nil=>rw [hP] at this;simp at this
   | cons p l=>exact ⟨p,l,rfl⟩
  ·exact absurd k k2
  ·obtain ⟨p,e⟩:=hm.one (.inl k)
   exact ⟨p,[],e⟩
  ·obtain ⟨p,e⟩:=hm.one (.inr k)
   exact ⟨p,[],e⟩
  obtain ⟨p,q,e,_⟩:=hm.two k
  exact ⟨p,[q],e⟩
 obtain ⟨p,l,e⟩:=hp
 refine ⟨p.Key, ?_⟩
 rw [if_neg k2]
 cases hl:look m.Pairs p.Key with
 | some v=>rfl
 | none=>exact absurd rfl (Qsv hl p (by rw [e];simp))
theorem Wab {m:Qp} (h:mOk m=true):Qvr m [⟨0,4096⟩]=true:=by
 obtain ⟨k,hk⟩:=Wad h
 have:=Qwz (Ql5 h) hk
 exact (Wac _ _).2 ⟨k,hk,⟨(0,4096),by simp [pa],by simp;omega⟩⟩
theorem Wdt {K:List Qg} {t:Qg} (f:Qg->Qg->Option Int) (hf:∀ a b,f a b=some (Qp7 a b)) (hn:K.length<=5000) (h:∀ k∈K,KL k t):
  ∀ (m lo:Nat),K.length - lo<=m->lo<=K.length->Yy (Qu.step K t f) (.l1 (lo:Int) (K.length:Int))=some ((K.length:Int),false):=by
 intro m
 induction m with
 | zero=>
  intro lo h1 h2
  obtain rfl:lo=K.length:=by omega
  rw [Ya]
  simp [Qu.step,Qu.l1,Qu.j1,Jq]
 | succ m ih=>
  intro lo h1 h2
  rcases Nat.lt_or_ge lo K.length with hlt | hge
  ·rw [Ya]
   simp only [Qu.step,Qu.l1]
   rw [if_pos (by omega)]
   have Qqp:IntKind.wrap .i64 (Int.fdiv (IntKind.wrap .u64 (IntKind.wrap .i64 ((lo:Int)+(K.length:Int)))) 2)=(((lo+K.length) / 2:Nat):Int):=by
    rw [wr (n:=(lo:Int)+K.length) (by omega)]
    have e1:IntKind.wrap .u64 ((lo:Int)+(K.length:Int))=(lo:Int)+K.length:=by
     simp [IntKind.wrap,IntKind.bits,IntKind.signed];omega
    rw [e1]
    have e2:Int.fdiv ((lo:Int)+(K.length:Int)) 2=(((lo+K.length) / 2:Nat):Int):=by
     rw [Int.fdiv_eq_ediv_of_nonneg _ (by omega)]
     omega
    rw [e2,wr (by omega)]
   rw [Qqp]
   simp only [bnd]
   have hm1:(lo+K.length) / 2 < K.length:=by omega
   rw [if_pos (by omega)]
   simp only [hf,Option.bind_some,show (((lo+K.length) / 2:Nat):Int).toNat=(lo+K.length) / 2 from rfl]
   rw [if_pos ((Qrk _ _).2 (h _ (Qgl hm1))),wr (by omega)]
   exact ih ((lo+K.length) / 2+1) (by omega) (by omega)
  obtain rfl:lo=K.length:=by omega
  rw [Ya]
  simp [Qu.step,Qu.l1,Qu.j1,Jq]
theorem Qo5 {c:Qc} {cl s:Int} (hn:c.Known.length<=5000) (h:∀ k∈c.Known,KL k ⟨cl,s,0,false⟩):Qhk c cl s=some ((c.Known.length:Int),false):=by
 unfold Qhk Qu
 have:=Wdt (K:=c.Known) (t:=⟨cl,s,0,false⟩) _ Qu5 hn h c.Known.length 0 (by omega) (Nat.zero_le _)
 rw [show ((0:Nat):Int)=0 from rfl] at this
 rw [this]
 rfl
noncomputable def Qkk (t:List Qa) (e:Qe):List Qa:=if e.Qa3=true then (apD [⟨0,4096⟩] t e.M).1 else t
noncomputable def Qbr (L:List Qe):List Qa:=L.foldl Qkk []
theorem Win:∀ (L:List Qe) (t:List Qa),(∀ e∈L,mOk e.M=true)->Tb t->t.length+8 * L.length<=1000->Tb (L.foldl Qkk t)/\(L.foldl Qkk t).length<=t.length+8 * L.length
 | [],t,_,ht,_=>⟨ht,by simp⟩
 | e :: L,t,h,ht,hl=>by
  simp only [List.length_cons] at hl
  have hs:Tb (Qkk t e)/\(Qkk t e).length<=t.length+8:=by
   unfold Qkk
   split
   ·have:=Qot (on:=[⟨0,4096⟩]) (by omega:t.length<=1000) (by simp) ht (h e (by simp)) Qmc
    exact ⟨this.tb,this.len⟩
   exact ⟨ht,by omega⟩
  have:=Win L (Qkk t e) (fun x hx=>h x (List.mem_cons_of_mem _ hx)) hs.1 (by omega)
  simp only [List.foldl_cons,List.length_cons]
  exact ⟨this.1,by omega⟩
theorem Wbt {L:List Qe} (h:∀ e∈L,mOk e.M=true) (hl:L.length<=40):Tb (Qbr L)/\(Qbr L).length<=8 * L.length:=by
 have:=Win L [] h Tb.nil (by simp;omega)
 simpa [Qbr] using this
theorem Wov {c:Qc} (hk:c.Keys=⟨0,4096⟩) (hb:c.Base=[]) (h:∀ e∈c.Log,mOk e.M=true) (hl:c.Log.length<=40):Qar c=some (Qbr c.Log):=by
 unfold Qar
 have key:=Qms (step:=Qar.step c) c.Log Qe.z (fun i t=>.l1 t (i:Int)) Qkk (fun i t=>Tb t/\t.length<=8 * i)
  (fun i t hi ht=>by
   have hm:=h _ (Qgl (z:=Qe.z) hi)
   have ap:=Qot (on:=[⟨0,4096⟩]) (by omega:t.length<=1000) (by simp) ht.1 hm Qmc
   simp only [Qar.step,Qar.l1]
   rw [if_pos (by omega),if_pos (by omega)]
   simp only [show (i:Int).toNat=i from rfl]
   unfold Qkk
   by_cases hd:(c.Log.getD i Qe.z).Qa3=true
   ·rw [if_pos hd,if_pos hd]
    unfold Zx
    rw [hk,ap.run,Option.bind_some]
    unfold Qar.j1
    rw [wr1 hi (by omega:c.Log.length<=9223372036854775807)]
    exact ⟨rfl,ap.tb,by have:=ap.len;omega⟩
   rw [if_neg hd,if_neg hd]
   unfold Qar.j1
   rw [wr1 hi (by omega:c.Log.length<=9223372036854775807)]
   exact ⟨rfl,ht.1,by omega⟩) [] ⟨Tb.nil,by simp⟩
 rw [hb]
 refine key.1.trans ?_
 rw [Ya]
 simp [Qar.step,Qar.l1,Jq,Qbr]
theorem Wpr {c:Qc} (hk:c.Keys=⟨0,4096⟩) (hb:c.Base=[]) (h:∀ e∈c.Log,mOk e.M=true) (hl:c.Log.length<=40):Xv c=some (Qbr c.Log):=by
 unfold Xv
 have key:=Qms (step:=Xv.step c) c.Log Qe.z (fun i t=>.l1 t (i:Int)) Qkk (fun i t=>Tb t/\t.length<=8 * i)
  (fun i t hi ht=>by
   have hm:=h _ (Qgl (z:=Qe.z) hi)
   have ap:=Qot (on:=[⟨0,4096⟩]) (by omega:t.length<=1000) (by simp) ht.1 hm Qmc
   simp only [Xv.step,Xv.l1]
   rw [if_pos (by omega),if_pos (by omega)]
   simp only [show (i:Int).toNat=i from rfl]
   unfold Qkk
   by_cases hd:(c.Log.getD i Qe.z).Qa3=true
   ·rw [if_pos hd,if_pos hd]
    unfold Ze
    rw [hk,ap.run,Option.bind_some]
    unfold Xv.j1
    rw [wr1 hi (by omega:c.Log.length<=9223372036854775807)]
    exact ⟨rfl,ap.tb,by have:=ap.len;omega⟩
   rw [if_neg hd,if_neg hd]
   unfold Xv.j1
   rw [wr1 hi (by omega:c.Log.length<=9223372036854775807)]
   exact ⟨rfl,ht.1,by omega⟩) [] ⟨Tb.nil,by simp⟩
 rw [hb]
 refine key.1.trans ?_
 rw [Ya]
 simp [Xv.step,Xv.l1,Jq,Qbr]
theorem Wkx {c:Qc} (h:c.Log=[]):Qar c=some c.Base:=by
 unfold Qar
 rw [Ya]
 simp [Qar.step,Qar.l1,Jq,h]
def toK (e:Qe):Qg:=⟨e.M.Client,e.M.Seq,e.Time,e.Qa3⟩
def C0 (L:List Qe) (f s:Bool):Qc:=⟨1,⟨0,4096⟩,L.length,f,s,[],[],L,L.map toK⟩
structure Qja (i:Nat) (L:List Qe):Prop where
 len:L.length<=i
 ok:∀ e∈L,mOk e.M=true/\e.M.Client=1/\1<=e.M.Seq/\e.M.Seq<=i
 time:∀ j,j < L.length->(L.getD j Qe.z).Time=(j:Int)+1
 seq:∀ j k,j < k->k < L.length->(L.getD j Qe.z).M.Seq < (L.getD k Qe.z).M.Seq
theorem Qja.nil:Qja 0 []:=⟨by simp,by simp,by simp,by simp⟩
theorem Qja.mono {i:Nat} {L:List Qe} (h:Qja i L):Qja (i+1) L:=⟨by have:=h.len;omega,fun e he=>have q:=h.ok e he;⟨q.1,q.2.1,q.2.2.1,by have:=q.2.2.2;omega⟩,h.time,h.seq⟩
theorem Qnl {α:Type} {l:List α} {x z:α} {j:Nat}:(l ++ [x]).getD j z=if j < l.length then l.getD j z else if j=l.length then x else z:=by
 simp only [List.getD_eq_getElem?_getD,List.getElem?_append]
 split
 ·rfl
 split
 ·rename_i h;subst h;simp
 rw [List.getElem?_eq_none (by simp;omega)];rfl
theorem Qja.snoc {i:Nat} {L:List Qe} (h:Qja i L) {m:Qp} (d:Bool) (hm:mOk m=true) (hc:m.Client=1) (hs:m.Seq=(i:Int)+1):Qja (i+1) (L ++ [⟨m,(L.length:Int)+1,d⟩]):=by
 refine ⟨by have:=h.len;simp;omega,fun e he=>?_,fun j hj=>?_,fun j k hjk hk=>?_⟩
 ·rcases List.mem_append.1 he with he | he
  ·have q:=h.ok e he
   exact ⟨q.1,q.2.1,q.2.2.1,by have:=q.2.2.2;omega⟩
  simp at he
  subst he
  exact ⟨hm,hc,by show 1<=m.Seq;omega,by show m.Seq<=_;omega⟩
 ·rw [Qnl]
  simp only [List.length_append,List.length_cons,List.length_nil] at hj
  by_cases h1:j < L.length
  ·rw [if_pos h1];exact h.time j h1
  rw [if_neg h1,if_pos (by omega)]
  show (L.length:Int)+1=_
  omega
 simp only [List.length_append,List.length_cons,List.length_nil] at hk
 rw [Qnl,Qnl,if_pos (by omega:j < L.length)]
 by_cases h1:k < L.length
 ·rw [if_pos h1];exact h.seq j k hjk h1
 rw [if_neg h1,if_pos (by omega)]
 have:=(h.ok _ (Qgl (z:=Qe.z) (by omega:j < L.length))).2.2.2
 show _ < m.Seq
 omega
theorem Wb1 {i:Nat} {L:List Qe} (h:Qja i L) (hi:i<=20) (f s:Bool):Qxw (C0 L f s):=by
 intro j hj
 have hlen:=h.len
 have hj':j < L.length:=by simpa [C0] using hj
 have e1:(C0 L f s).Known.getD j Qg.z=toK (L.getD j Qe.z):=Qzq toK L hj'
 have ho:=h.ok _ (Qgl (z:=Qe.z) hj')
 have ht:=h.time j hj'
 unfold Wns
 rw [e1]
 unfold toK
 refine ⟨by simp only;omega,by simp only;omega,by simp only;omega,fun h0=>?_⟩
 have e2:(C0 L f s).Known.getD (j - 1) Qg.z=toK (L.getD (j - 1) Qe.z):=Qzq toK L (by omega)
 rw [e2]
 have ho2:=h.ok _ (Qgl (z:=Qe.z) (by omega:j - 1 < L.length))
 have:=h.seq (j - 1) j (by omega) hj'
 unfold KL toK
 simp only
 omega
theorem We3 {i:Nat} {L:List Qe} (h:Qja i L) (hi:i<=20) (f s:Bool):Qxs (C0 L f s):=by
 have hl:=h.len
 refine ⟨by simp [C0],by simp only [C0];omega,by simp only [C0,List.length_map];omega,by simp [C0],by simp [C0],fun e he=>?_⟩
 have:=(Ql5 (h.ok e he).1).len
 omega
theorem Wlj {i:Nat} {L:List Qe} (h:Qja i L) (hi:i<=20) {f s:Bool} (hfs:s=true->f=true):Qxr (C0 L f s):=by
 have hl:=h.len
 refine ⟨by simp [C0],(by decide:Ok (0,4096)),by simp only [C0];omega,Tb.nil,by simp [C0],fun hs=>⟨hfs hs,by simp [C0]⟩,Wb1 h hi f s,⟨fun j hj=>?_,by simp [C0]⟩⟩
 have hj':j < L.length:=hj
 have ho:=h.ok _ (Qgl (z:=Qe.z) hj')
 have ht:=h.time j hj'
 refine ⟨ho.1,Wab ho.1, ?_,fun h0=>?_,j, ?_, ?_⟩
 ·show 0<=(L.getD j Qe.z).Time/\(L.getD j Qe.z).Time<=(L.length:Int)
  omega
 ·have ht2:=h.time (j - 1) (by omega)
  refine .inl ?_
  show (L.getD (j - 1) Qe.z).Time < (L.getD j Qe.z).Time
  omega
 ·simpa [C0] using hj'
 have e1:(C0 L f s).Known.getD j Qg.z=toK (L.getD j Qe.z):=Qzq toK L hj'
 rw [e1]
 exact ⟨⟨rfl,rfl⟩,rfl,rfl⟩
theorem Qs5 {c:Qc} (hf:Qxs c) (h0:c.Held=[]) (h:Qxr c):Jg c=some true:=Qw7 hf h0 h
end Go.SyP
namespace Go.SyP
open Go Go.Sy Sets
theorem Qa1 {α β:Type} {o:Option α} {a:α} {f:α->Option β} {r:Option β} (h:o=some a) (k:f a=r):o.bind f=r:=by
 rw [h]
 exact k
def X1:Yi:=⟨1,2,[⟨1,⟨0,4096⟩,0⟩]⟩
theorem w01:IntKind.wrap .i64 ((0:Int)+1)=1:=by decide
theorem Wm1:Qf6=some X1:=by
 unfold Qf6 Yf
 rw [if_neg (by decide),if_neg (by decide),if_neg (by decide)]
 unfold Yf.j1
 rw [if_neg (by decide),Ya]
 simp only [Yf.step,Yf.l1]
 rw [if_pos (by decide),if_pos (by decide),if_pos (by decide),if_pos (by decide)]
 simp only [Jq,w01]
 rw [Ya]
 simp only [Yf.step,Yf.l1]
 rw [if_neg (by decide)]
 simp only [Jq,Option.bind_some]
 rfl
theorem Qyh:Yo X1=some true:=by
 unfold Yo X1
 rw [if_neg (by decide),if_neg (by decide),if_neg (by decide),if_neg (by decide),if_neg (by decide)]
 unfold Yo.j1
 rw [if_neg (by decide),Ya]
 simp only [Yo.step,Yo.l1]
 rw [if_pos (by decide),if_pos (by decide),if_neg (by decide),if_neg (by decide),if_pos (by decide),if_pos (by decide)]
 unfold Yo.j3
 rw [if_neg (by decide)]
 simp only [Jq,w01]
 rw [Ya]
 simp only [Yo.step,Yo.l1]
 rw [if_neg (by decide),if_pos (by decide)]
 have:Qbp [⟨1,⟨0,4096⟩,0⟩]=some true:=by
  unfold Qbp
  rw [Ya]
  simp only [Qbp.step,Qbp.l1]
  rw [if_pos (by decide),if_pos (by decide),if_pos (by decide)]
  have e:Qap ((([⟨1,⟨0,4096⟩,0⟩]:List Qi).drop 0).take ((0:Int).toNat - 0)) (fun z0=>some (Qga z0 (([⟨1,⟨0,4096⟩,0⟩]:List Qi).getD (0:Int).toNat Qi.z)))=some false:=by
   unfold Qap Yj
   rw [Ya]
   simp [Yj.step,Yj.l1,Jq]
  rw [e,Option.bind_some,if_neg (by decide)]
  simp only [Jq,w01]
  rw [Ya]
  simp only [Qbp.step,Qbp.l1]
  rw [if_neg (by decide)]
  rfl
 rw [this]
 rfl
theorem Qwp {T:List Qb} (h:Qc0 [⟨0,4096⟩] T=some true):Zv X1 T=some [1]:=by
 unfold Zv
 rw [Qyh,Option.bind_some,if_pos rfl,Ya]
 simp only [Zv.step,Zv.l1]
 rw [if_pos (by decide),if_pos (by decide),show (([((X1.L.getD (0:Int).toNat Qi.z).Keys)]:List Qb))=[⟨0,4096⟩] from rfl,h,Option.bind_some,if_pos rfl,if_pos (by decide)]
 unfold Zv.j1
 simp only [Jq,w01]
 rw [Ya]
 simp only [Zv.step,Zv.l1]
 rw [if_neg (by decide)]
 rfl
theorem Qw0 {m:Qp} (h:mOk m=true):∃ T,Qaj m=some T/\Qc0 [⟨0,4096⟩] T=some true:=by
 obtain ⟨T,t1,t2,t3⟩:=Qqz h
 have hT:=t2.2
 obtain ⟨v,v1,v2⟩:=Wae [⟨0,4096⟩] T (by simp) (by omega)
 refine ⟨T,t1, ?_⟩
 obtain ⟨k,hk⟩:=Wad h
 have:=Qwz (Ql5 h) hk
 rw [v1,v2.2 ⟨Qmc,t2,k,⟨(0,4096),by simp [pa],by simp;omega⟩,(t3 k).2 hk⟩]
theorem parts_eq {t:Qn} {m:Qp} (hx:t.x=X1) (hi:t.c.ID=1) (h:mOk m=true):Qcv t m=some ([1],true):=by
 obtain ⟨T,t1,t2⟩:=Qw0 h
 unfold Qcv
 rw [t1,Option.bind_some,hx,Qwp t2,Option.bind_some,hi]
 have:Qec [1] 1=some true:=by
  unfold Qec Qbf
  rw [Ya]
  simp [Qbf.step,Qbf.l1,Jq]
 rw [this]
 rfl
theorem Qyw {c:Qc} (h:c.Held=[]) (a b:Int):Qaz c a b=some (-1):=by
 unfold Qaz Zg
 rw [h,Ya]
 simp [Zg.step,Zg.l1,Jq]
theorem Wjw {c:Qc} {w:Qh} (h:c.Held=[w]):Qaz c w.M.Client w.M.Seq=some 0:=by
 unfold Qaz Zg
 rw [h,Ya]
 simp [Zg.step,Zg.l1,Jq,Qd0,Qd0.j1]
theorem Wg1 {c:Qc} (h:c.Held=[]):Xf c=some (-1):=by
 unfold Xf
 rw [Ya]
 simp [Xf.step,Xf.l1,Jq,h]
theorem Wg2 {c:Qc} {w:Qh} (h:c.Held=[w]):Xf c=some 0:=by
 unfold Xf
 rw [Ya]
 simp only [Xf.step,Xf.l1,h]
 rw [if_pos (by simp),if_pos (by simp),if_pos (by decide)]
 unfold Xf.j1 Xf.j2
 rw [if_pos rfl]
 simp only [Jq,w01]
 rw [Ya]
 simp [Xf.step,Xf.l1,h,Jq]
def W1 (L:List Qe) (m:Qp) (f:Bool):Qh:=⟨m,(L.length:Int)+1,f,[]⟩
def C1 (L:List Qe) (m:Qp) (f:Bool):Qc:=⟨1,⟨0,4096⟩,(L.length:Int)+1,false,false,[W1 L m f],[],L,L.map toK⟩
structure Qfq (i:Nat) (L:List Qe) (m:Qp):Prop where
 log:Qja i L
 few:i < 20
 ok:mOk m=true
 cl:m.Client=1
 seq:m.Seq=(i:Int)+1
theorem Qfq.Wb6 {i:Nat} {L:List Qe} {m:Qp} (h:Qfq i L m):∀ k∈L.map toK,KL k ⟨m.Client,m.Seq,0,false⟩:=by
 intro k hk
 obtain ⟨e,he,rfl⟩:=List.mem_map.1 hk
 have q:=h.log.ok e he
 have:=h.cl
 have:=h.seq
 unfold KL toK
 simp only
 omega
theorem Qfq.len {i:Nat} {L:List Qe} {m:Qp} (h:Qfq i L m):L.length < 20:=by
 have:=h.log.len
 have:=h.few
 omega
theorem Qfq.pl {i:Nat} {L:List Qe} {m:Qp} (h:Qfq i L m):m.Pairs.length<=8:=(Ql5 h.ok).len
theorem Qnt {m:Qp} (h:m.Pairs.length<=5000):Qci m=some m:=by
 unfold Qci
 rw [if_pos (by omega)]
theorem Wnd {i:Nat} {L:List Qe} {m:Qp} (h:Qfq i L m) (R:List Wu) (N:List Xg) (r:Wu) (hm:r.M=m) (ht:r.Time=(L.length:Int)+1):
  Zp ⟨C0 L false false,X1,R,N⟩ r=some (0,⟨C1 L m false,X1,R,N⟩):=by
 have hl:=h.len
 have hp:=h.pl
 unfold Zp
 rw [hm]
 refine Qa1 (Qo5 (c:=C0 L false false) (cl:=m.Client) (s:=m.Seq) (by simp only [C0,List.length_map];omega) h.Wb6) ?_
 refine Qa1 ((Qge m (by omega)).trans (congrArg some h.ok)) ?_
 try dsimp only
 rw [if_pos rfl]
 refine Qa1 (show Qb1 _ _=some true from (Qso (c:=C0 L false false) h.ok Qmc).trans (congrArg some (Wab h.ok))) ?_
 try dsimp only
 rw [if_pos rfl,ht,if_neg (by simp only [C0];omega)]
 unfold Zp.j1
 rw [if_neg (by simp only [decide_eq_true_eq];omega),if_neg (by simp),hm]
 refine Qa1 (Qyw (c:=C0 L false false) rfl _ _) ?_
 try dsimp only
 unfold Zp.j2
 rw [if_neg (by decide),if_neg (by simp only [C0,List.length_map,List.length_nil];rw [wr (by omega)];omega),hm]
 refine Qa1 (Qnt (by omega)) ?_
 rw [if_pos (by simp [C0]),ht]
 rfl
noncomputable def En (L:List Qe) (m:Qp):Qe:=⟨m,(L.length:Int)+1,(apD [⟨0,4096⟩] (Qbr L) m).2⟩
theorem Qfq.mok {i:Nat} {L:List Qe} {m:Qp} (h:Qfq i L m):∀ e∈L,mOk e.M=true:=fun e he=>(h.log.ok e he).1
theorem Qfq.ap {i:Nat} {L:List Qe} {m:Qp} (h:Qfq i L m):ApD [⟨0,4096⟩] (Qbr L) m:=by
 have hl:=h.len
 have:=Wbt h.mok (by omega)
 exact Qot (by omega) (by simp) this.1 h.ok Qmc
theorem Wfs {i:Nat} {L:List Qe} {m:Qp} (h:Qfq i L m) (R:List Wu) (N:List Xg):Qj ⟨C1 L m true,X1,R,N⟩=some ⟨C0 (L ++ [En L m]) false false,X1,R,N⟩:=by
 have hl:=h.len
 have hp:=h.pl
 unfold Qj
 rw [Ya]
 have s1:Qj.step ⟨C1 L m true,X1,R,N⟩ (.l1 (C1 L m true).Held (C1 L m true).Log (C1 L m true).Known)=some (.inl (.l1 [] (L ++ [En L m]) ((L ++ [En L m]).map toK))):=by
  simp only [Qj.step]
  unfold Qj.l1
  refine Qa1 (Wg2 (c:=C1 L m true) (w:=W1 L m true) rfl) ?_
  try dsimp only
  rw [if_neg (by decide),if_pos (by simp [C1])]
  unfold Qj.j1
  rw [if_neg (by simp [C1,W1]),if_pos (by simp [C1])]
  refine Qa1 (Wpr (c:=C1 L m true) rfl rfl h.mok (by simp only [C1];omega)) ?_
  refine Qa1 h.ap.run ?_
  try dsimp only
  rw [if_pos (by rw [w01];simp [C1]),if_pos (by simp only [C1];omega)]
  refine Qa1 (Qo5 (c:=⟨1,⟨0,4096⟩,(L.length:Int)+1,false,false,[],[],L ++ [En L m],L.map toK⟩) (cl:=m.Client) (s:=m.Seq) (by simp only [List.length_map];omega) h.Wb6) ?_
  try dsimp only
  rw [if_pos (by simp only [C1,List.length_map];omega)]
  have e1:(L.map toK).take ((L.map toK).length:Int).toNat=L.map toK:=List.take_length
  have e2:(L.map toK).drop ((L.map toK).length:Int).toNat=[]:=List.drop_length
  have e3:(C1 L m true).Known=L.map toK:=rfl
  rw [e3,e1,e2,List.map_append]
  rfl
 rw [s1]
 simp only [Jq]
 rw [Ya]
 have s2:Qj.step ⟨C1 L m true,X1,R,N⟩ (.l1 [] (L ++ [En L m]) ((L ++ [En L m]).map toK))=some (.inr ⟨C0 (L ++ [En L m]) false false,X1,R,N⟩):=by
  simp only [Qj.step]
  unfold Qj.l1
  refine Qa1 (Wg1 (c:=⟨1,⟨0,4096⟩,(L.length:Int)+1,false,false,[],[],L ++ [En L m],(L ++ [En L m]).map toK⟩) rfl) ?_
  rw [if_pos (by decide)]
  unfold Qj.j1
  rw [if_pos rfl]
  simp only [C1,C0,List.length_append,List.length_cons,List.length_nil]
  rfl
 rw [s2]
 rfl
theorem Wjp {i:Nat} {L:List Qe} {m:Qp} (h:Qfq i L m) (R:List Wu) (N:List Xg) (r:Wu) (hc:r.Client=m.Client) (hs:r.Seq=m.Seq) (ht:r.Time=(L.length:Int)+1):
  Yv ⟨C1 L m false,X1,R,N⟩ r=some (0,⟨C0 (L ++ [En L m]) false false,X1,R,N⟩):=by
 have hl:=h.len
 unfold Yv
 rw [hc,hs]
 refine Qa1 (Wjw (c:=C1 L m false) (w:=W1 L m false) rfl) ?_
 rw [if_neg (by decide),if_pos (by simp [C1]),if_neg (by simp [C1,W1]),if_neg (by simp only [C1,W1,ht,show (0:Int).toNat=0 from rfl,List.getD_cons_zero];omega)]
 unfold Yv.j1 bnd
 rw [if_neg (by simp only [ht,decide_eq_true_eq];omega)]
 try dsimp only
 rw [if_pos (by simp [C1])]
 have e:(⟨(⟨1,⟨0,4096⟩,Qb6 ((L.length:Int)+1) r.Time,false,false,[W1 L m true],[],L,L.map toK⟩:Qc),X1,R,N⟩:Qn)=⟨C1 L m true,X1,R,N⟩:=by
  rw [ht]
  have:Qb6 ((L.length:Int)+1) ((L.length:Int)+1)=(L.length:Int)+1:=by unfold Qb6;split<;>rfl
  rw [this]
  rfl
 refine Qa1 (a:=⟨C0 (L ++ [En L m]) false false,X1,R,N⟩) ((congrArg Qj ?_).trans (Wfs h R N)) rfl
 rw [<- e,ht]
 rfl
end Go.SyP
