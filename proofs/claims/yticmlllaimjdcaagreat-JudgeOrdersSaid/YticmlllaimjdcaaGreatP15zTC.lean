/- Sets of keys, of the reference. -/
import Derived.Test.YticmlllaimjdcaaGreatP15zTA
set_option linter.unusedVariables false
set_option linter.unusedSimpArgs false
namespace Go.SyP
open Go Go.Sy Sets
theorem Qsv (f:Nat->Bool) {k:Nat} (h:k < 4096):(Qdq f).getD (k:Int).toNat false=f k:=Wc2 f h
theorem Qtt {i:Nat} (hn:i<=4611686018427387904):IntKind.wrap .i64 ((i:Int)+1)=((i+1:Nat):Int):=by
 rw [wr (by omega)];omega
theorem Wdn (f:Nat->Bool) (k:Nat):(List.range (k+1)).map f=(List.range k).map f ++ [f k]:=by
 rw [List.range_succ,List.map_append];rfl
theorem Wkm (r:List Qi):∀ (m k:Nat),k+m=4096->Xf (Xo.step r) (.l1 (k:Int) ((List.range k).map fun _=>false))=Xf (Xo.step r) (.l2 0 (Qdq fun _=>false)):=by
 intro m
 induction m with
 | zero=>
  intro k hk
  obtain rfl:k=4096:=by omega
  rw [Zc]
  simp only [Xo.step,Xo.l1]
  rw [if_neg (by omega)]
  rfl
 | succ m ih=>
  intro k hk
  rw [Zc]
  simp only [Xo.step,Xo.l1]
  rw [if_pos (by omega),if_pos (by simp;omega),Qtt (by omega)]
  have:=ih (k+1) (by omega)
  rw [Wdn] at this
  exact this
theorem Wkn (r:List Qi) (i:Nat) (hi:i < r.length) (hn:r.length<=5000) (X:Qi) (hX:r.getD (i:Int).toNat Qi.z=X) (ho:Ok (pr X)):∀ (m k:Nat) (f:Nat->Bool),(k:Int)+m=X.Hi ->
  Xf (Xo.step r) (.l3 (i:Int) (k:Int) (Qdq f))=Xf (Xo.step r) (.l2 ((i+1:Nat):Int) (Qdq fun q=>f q || (decide (k<=q) && decide ((q:Int) < X.Hi)))):=by
 have hb:(0:Int)<=(i:Int)/\(i:Int) < (r.length:Int):=by omega
 have ho':=ho
 unfold Ok pr at ho'
 simp only at ho'
 intro m
 induction m with
 | zero=>
  intro k f hk
  rw [Zc]
  simp only [Xo.step,Xo.l3]
  rw [if_pos hb,hX,Qfk,decide_eq_true ho,if_pos rfl]
  unfold Xo.j1
  rw [decide_eq_false (show ¬ (k:Int) < X.Hi by omega),if_neg (by decide),Qtt (by omega)]
  simp only [stk]
  have e:Qdq f=Qdq fun q=>f q || (decide (k<=q) && decide ((q:Int) < X.Hi)):=Qna fun q _=>by
   have:(decide (k<=q) && decide ((q:Int) < X.Hi))=false:=by
    rw [Bool.and_eq_false_iff]
    by_cases h:k<=q
    ·right;exact decide_eq_false (by omega)
    left;exact decide_eq_false h
   rw [this,Bool.or_false]
  rw [<- e]
 | succ m ih=>
  intro k f hk
  have h4:k < 4096:=by omega
  rw [Zc]
  simp only [Xo.step,Xo.l3]
  rw [if_pos hb,hX,Qfk,decide_eq_true ho,if_pos rfl]
  unfold Xo.j1
  rw [decide_eq_true (show (k:Int) < X.Hi by omega),if_pos rfl,if_pos (by rw [Qmk];omega),Qtt (by omega)]
  simp only [stk]
  have e:(Qdq f).set (k:Int).toNat true=Qdq fun q=>f q || q == k:=Wc3 f h4
  rw [e,ih (k+1) _ (by omega)]
  have e2:(Qdq fun q=>(f q || q == k) || (decide (k+1<=q) && decide ((q:Int) < X.Hi)))=Qdq fun q=>f q || (decide (k<=q) && decide ((q:Int) < X.Hi)):=Qna fun q _=>by
   rw [Bool.or_assoc]
   refine congrArg (fun z=>f q || z) ?_
   by_cases hq:q=k
   ·subst hq
    rw [decide_eq_true (show (q:Int) < X.Hi by omega),decide_eq_true (Nat.le_refl q)]
    simp
   have h1:(q == k)=false:=by simpa using hq
   rw [h1,Bool.false_or]
   exact congrArg (fun z=>z && decide ((q:Int) < X.Hi)) (decide_eq_decide.2 (by omega))
  rw [e2]
theorem Wj5 (r:List Qi) (hn:r.length<=5000):Xo r=some (keys (r.map pr)):=by
 unfold Xo
 have h1:=Wkm r 4096 0 (by omega)
 have h1':Xf (Xo.step r) (.l1 0 [])=Xf (Xo.step r) (.l2 0 (Qdq fun _=>false)):=h1
 rw [h1']
 have key:∀ (m i:Nat),i+m=r.length->Xf (Xo.step r) (.l2 (i:Int) (keys ((r.take i).map pr)))=some (keys (r.map pr)):=by
  intro m
  induction m with
  | zero=>
   intro i hi
   obtain rfl:i=r.length:=by omega
   rw [Zc]
   simp only [Xo.step,Xo.l2]
   rw [if_neg (by omega),Qa3 (Nat.le_refl _)]
   rfl
  | succ m ih=>
   intro i hi
   have hil:i < r.length:=by omega
   rw [Zc]
   simp only [Xo.step,Xo.l2]
   rw [if_pos (by omega),if_pos (by omega)]
   simp only [stk]
   have hnext:=ih (i+1) (by omega)
   rw [Qd2 (z:=Qi.z) hil,List.map_append] at hnext
   rw [<- hnext]
   by_cases ho:Ok (pr (r.getD (i:Int).toNat Qi.z))
   ·have ho':=ho
    unfold Ok pr at ho'
    simp only at ho'
    obtain ⟨lo,hlo⟩:∃ lo:Nat,(r.getD (i:Int).toNat Qi.z).Lo=lo:=⟨(r.getD (i:Int).toNat Qi.z).Lo.toNat,by omega⟩
    obtain ⟨m',hm'⟩:∃ m':Nat,(lo:Int)+m'=(r.getD (i:Int).toNat Qi.z).Hi:=⟨((r.getD (i:Int).toNat Qi.z).Hi - lo).toNat,by omega⟩
    rw [hlo]
    unfold keys
    rw [Wkn r i hil hn _ rfl ho m' lo _ hm']
    have e2:(Qdq fun q=>Qtk (((r.take i).map pr).filter fun x=>decide (Ok x)) q || (decide (lo<=q) && decide ((q:Int) < (r.getD (i:Int).toNat Qi.z).Hi)))=Qdq fun q=>Qtk (((r.take i).map pr ++ List.map pr [r.getD (i:Int).toNat Qi.z]).filter fun x=>decide (Ok x)) q:=Qna fun q _=>by
     rw [List.filter_append,Qtk,Qtk,List.any_append]
     congr 1
     rw [List.map_cons,List.map_nil,List.filter_cons,if_pos (decide_eq_true ho)]
     simp only [List.filter_nil,List.any_cons,List.any_nil,Bool.or_false,pr,hlo]
     congr 1
     exact decide_eq_decide.2 (by omega)
    rw [e2]
   rw [Zc]
   simp only [Xo.step,Xo.l3]
   rw [if_pos (by omega),Qfk,decide_eq_false ho,if_neg (by decide)]
   unfold Xo.j1
   rw [if_neg (by decide),Qtt (by omega)]
   simp only [stk]
   unfold keys
   rw [List.filter_append,List.map_cons,List.map_nil,List.filter_cons,if_neg (by rw [decide_eq_false ho];decide),List.filter_nil,List.append_nil]
 have h2:=key r.length 0 (by omega)
 exact h2
def Qpy:Yw.S->Nat
 | .l1 q _=>3 * (4096 - q.toNat)+1
 | .l2 q p _=>3 * (4096 - q.toNat)+(if p < q then 2 else 0)
def Wjg (f:Nat->Bool):Yw.S->Prop
 | .l1 k out=>∃ q:Nat,k=q/\q<=4096/\Canon (out.map pr)/\(∀ x∈out.map pr,x.2<=q/\(x.2=q->q < 4096->f q=false))/\(∀ n:Nat,n < q->(mem (out.map pr) n↔f n=true))/\out.length<=q
 | .l2 k fr out=>∃ p q:Nat,fr=p/\k=q/\p<=q/\q<=4096/\p < 4096/\Canon (out.map pr)/\(∀ x∈out.map pr,x.2<=p/\(x.2=p->f p=false))/\(∀ n:Nat,n < p->(mem (out.map pr) n↔f n=true))/\(∀ n:Nat,p<=n->n < q->f n=true)/\out.length<=p
theorem Wld (f:Nat->Bool):∃ L:List Qi,Canon (L.map pr)/\(∀ n:Nat,n < 4096->(mem (L.map pr) n↔f n=true))/\Yw (Qdq f)=some (if 64 < L.length then ([],2) else (L,0)):=by
 have step:∀ s,Wjg f s->(∃ s',Yw.step (Qdq f) s=some (.inl s')/\Wjg f s'/\Qpy s' < Qpy s)\/∃ r,Yw.step (Qdq f) s=some (.inr r)/\∃ L:List Qi,Canon (L.map pr)/\(∀ n:Nat,n < 4096->(mem (L.map pr) n↔f n=true))/\r=if 64 < L.length then ([],2) else (L,0):=by
  intro s hs
  cases s with
  | l1 k out=>
   obtain ⟨q,rfl,hq,hc,he,hm,hl⟩:=hs
   simp only [Yw.step,Yw.l1,Qmk]
   by_cases hq2:q < 4096
   ·left
    refine ⟨.l2 (q:Int) (q:Int) out,by rw [if_pos (by omega)],⟨q,q,rfl,rfl,Nat.le_refl _,by omega,hq2,hc,fun x hx=>⟨(he x hx).1,fun e=>(he x hx).2 e hq2⟩,hm,fun n h1 h2=>by omega,hl⟩, ?_⟩
    simp [Qpy]
   right
   obtain rfl:q=4096:=by omega
   rw [if_neg (by omega)]
   refine ⟨_, ?_,out,hc,hm,rfl⟩
   by_cases h6:64 < out.length
   ·rw [if_pos (by omega),if_pos h6]
   rw [if_neg (by omega),if_neg h6]
  | l2 k fr out=>
   obtain ⟨p,q,rfl,rfl,hpq,hq,hp,hc,he,hm,hon,hl⟩:=hs
   left
   simp only [Yw.step,Yw.l2,Qmk]
   by_cases hf:q < 4096/\f q=true
   ·refine ⟨.l2 ((q+1:Nat):Int) (p:Int) out, ?_,⟨p,q+1,rfl,rfl,by omega,by omega,hp,hc,he,hm,fun n h1 h2=>?_,hl⟩, ?_⟩
    ·rw [if_pos (by omega),if_pos (by omega),Qsv f hf.1,hf.2]
     unfold Yw.j1
     rw [if_pos rfl,Qtt (by omega)]
    ·by_cases e:n=q
     ·subst e;exact hf.2
     exact hon n h1 (by omega)
    simp only [Qpy]
    split<;>split<;>omega
   have hbr:(if (q:Int) < ((4096:Nat):Int) then if 0<=(q:Int)/\(q:Int) < ((4096:Nat):Int) then Yw.j1 (q:Int) (p:Int) out ((Qdq f).getD (q:Int).toNat false) else none else Yw.j1 (q:Int) (p:Int) out false)=Yw.j1 (q:Int) (p:Int) out false:=by
    by_cases h4:q < 4096
    ·rw [if_pos (by omega),if_pos (by omega),Qsv f h4]
     have:f q=false:=by
      cases h:f q with
      | false=>rfl
      | true=>exact absurd ⟨h4,h⟩ hf
     rw [this]
    rw [if_neg (by omega)]
   rw [hbr]
   unfold Yw.j1
   rw [if_neg (by simp)]
   by_cases hpq2:p < q
   ·rw [if_pos (by omega),if_pos (by omega)]
    refine ⟨_,rfl,⟨q,rfl,hq, ?_, ?_, ?_,by simp;omega⟩,by simp [Qpy,hpq2]⟩
    ·rw [List.map_append]
     refine Qgw.2 ⟨hc,by unfold Ok;simp only [pr];omega,fun y hy=>?_⟩
     have h1:=he y hy
     have h2:=hon p (Nat.le_refl _) hpq2
     simp only [pr]
     rcases Int.lt_or_eq_of_le h1.1 with h | h
     ·exact h
     rw [h1.2 h] at h2;cases h2
    ·intro x hx
     rw [List.map_append] at hx
     rcases List.mem_append.1 hx with hx | hx
     ·have:=(he x hx).1
      exact ⟨by omega,fun e=>by omega⟩
     simp [pr] at hx
     subst hx
     refine ⟨by simp,fun _ h4=>?_⟩
     cases h:f q with
     | false=>rfl
     | true=>exact absurd ⟨h4,h⟩ hf
    intro n hn
    rw [List.map_append,mem_append]
    have e:mem (List.map pr [(⟨(p:Int),(q:Int)⟩:Qi)]) (n:Int)↔p<=n/\n < q:=by
     simp only [List.map_cons,List.map_nil,pr,mem_cons,Qku,or_false]
     omega
    rw [e]
    by_cases h:n < p
    ·rw [hm n h]
     constructor
     ·rintro (h1 | h1)
      ·exact h1
      omega
     exact .inl
    exact ⟨fun _=>hon n (by omega) hn,fun _=>.inr ⟨by omega,hn⟩⟩
   obtain rfl:p=q:=by omega
   have hfq:f p=false:=by
    cases h:f p with
    | false=>rfl
    | true=>exact absurd ⟨hp,h⟩ hf
   rw [if_neg (by omega),Qtt (by omega)]
   refine ⟨_,rfl,⟨p+1,rfl,by omega,hc,fun x hx=>?_,fun n hn=>?_,by omega⟩, ?_⟩
   ·have:=(he x hx).1
    exact ⟨by omega,fun e=>by omega⟩
   ·by_cases e:n=p
    ·subst e
     rw [hfq]
     simp only [Bool.false_eq_true,iff_false]
     rintro ⟨x,hx,h1,h2⟩
     have:=(he x hx).1
     omega
    exact hm n (by omega)
   simp only [Qpy,Int.lt_irrefl,if_false]
   omega
 obtain ⟨r,h1,L,h2,h3,h4⟩:=Wan (Wjg f) Qpy _ step (.l1 0 []) ⟨0,rfl,by omega,Canon.nil,fun x hx=>by simp at hx,fun n hn=>by omega,by simp⟩
 exact ⟨L,h2,h3,by unfold Yw;rw [h1,h4]⟩
def Wa9 (m:Int->Prop) (o:Option (List Qi × Int)):Prop:=∃ L:List Qi,Canon (L.map pr)/\(∀ k,mem (L.map pr) k↔m k)/\o=some (if 64 < L.length then ([],2) else (L,0))
theorem Wkq {l:List Sp} (h:Canon l) {m:Int->Prop} (hm:∀ k,m k->0<=k/\k < 4096) (e:∀ n:Nat,n < 4096->(mem l n↔m n)) (k:Int):mem l k↔m k:=by
 constructor
 ·intro h1
  have hb:=h.bound h1
  obtain ⟨n,rfl⟩:∃ n:Nat,k=n:=⟨k.toNat,by omega⟩
  exact (e n (by omega)).1 h1
 intro h1
 have hb:=hm k h1
 obtain ⟨n,rfl⟩:∃ n:Nat,k=n:=⟨k.toNat,by omega⟩
 exact (e n (by omega)).2 h1
theorem Wkt {f:Nat->Bool} {m:Int->Prop} (hm:∀ k,m k->0<=k/\k < 4096) (e:∀ n:Nat,n < 4096->(f n=true↔m n)):Wa9 m (Yw (Qdq f)):=by
 obtain ⟨L,h1,h2,h3⟩:=Wld f
 exact ⟨L,h1,Wkq h1 hm fun n hn=>(h2 n hn).trans (e n hn),h3⟩
theorem Qz0 (a:List Qb) (ha:a.length<=5000):(¬ Qkf a->Qas (a.map toR)=some ([],1))/\(Qkf a->Wa9 (fun k=>mem (a.map pa) k) (Qas (a.map toR))):=by
 have key:∃ r,Qas (a.map toR)=some r/\((¬ Qkf a->r=([],1))/\(Qkf a->Wa9 (fun k=>mem (a.map pa) k) (some r))):=by
  unfold Qas
  refine Qbi (n:=(a.map toR).length) (fun i (_:Unit)=>Qas.S.l1 (i:Int)) (fun i _=>∀ x∈(a.map toR).take i,Ok (pr x)) _ ?_ ?_ 0 () (Nat.zero_le _) (fun x hx=>by simp at hx)
  ·intro _ h
   rw [Qa3 (Nat.le_refl _)] at h
   have hg:Qkf a:=fun x hx=>h (toR x) (List.mem_map_of_mem hx)
   simp only [Qas.step,Qas.l1]
   rw [if_neg (by omega),Wj5 _ (by simpa using ha),Option.bind_some,Qy8]
   have hr:Wa9 (fun k=>mem (a.map pa) k) (Yw (keys (a.map pa))):=by
    unfold keys
    have hf:(a.map pa).filter (fun x=>decide (Ok x))=a.map pa:=by
     rw [List.filter_eq_self]
     intro x hx
     obtain ⟨y,hy,rfl⟩:=List.mem_map.1 hx
     exact decide_eq_true (hg y hy)
    rw [hf]
    refine Wkt ?_ fun n _=>Wi5
    rintro k ⟨x,hx,h1,h2⟩
    obtain ⟨y,hy,rfl⟩:=List.mem_map.1 hx
    have:=hg y hy
    unfold Sets.Ok at this
    omega
   obtain ⟨L,h1,h2,h3⟩:=hr
   rw [h3,Option.bind_some]
   exact ⟨_,rfl,fun h=>absurd hg h,fun _=>⟨L,h1,h2,rfl⟩⟩
  intro i _ hi h
  have hil:i < a.length:=by simpa using hi
  have ht:=Qd2 (l:=a.map toR) (z:=Qi.z) hi
  simp only [Qas.step,Qas.l1]
  rw [if_pos (by omega),if_pos (by omega),Qfk]
  have hin:(a.map toR).getD (i:Int).toNat Qi.z∈a.map toR:=by
   have:=Qlh (l:=a.map toR) (z:=Qi.z) hi
   exact List.mem_of_mem_drop (i:=i) (by rw [this];exact List.mem_cons_self ..)
  generalize (a.map toR).getD (i:Int).toNat Qi.z=X at ht hin ⊢
  by_cases ho:Ok (pr X)
  ·rw [decide_eq_true ho,if_pos rfl]
   left
   refine ⟨(),by rw [Qtt (by simp at hi;omega)],fun x hx=>?_⟩
   rw [ht] at hx
   rcases List.mem_append.1 hx with hx | hx
   ·exact h x hx
   simp at hx;subst hx;exact ho
  rw [decide_eq_false ho,if_neg (by decide)]
  right
  refine ⟨_,rfl,fun _=>rfl,fun hg=>?_⟩
  obtain ⟨y,hy,rfl⟩:=List.mem_map.1 hin
  exact absurd (hg y hy) ho
 obtain ⟨r,h1,h2,h3⟩:=key
 exact ⟨fun h=>by rw [h1,h2 h],fun h=>by rw [h1];exact h3 h⟩
end Go.SyP
namespace Go.SyP
open Go Go.Sy Sets
theorem Qrb {m:We} (h:mOk m=true):∃ T,Qbd m=some T/\SOk T/\(∀ k,mem (T.map pa) k↔Qh6 m k=true)/\Jg (trM m)=some (T.map toR):=by
 obtain ⟨T,h1,h2,h3⟩:=Qq5 h
 refine ⟨T,h1,h2,h3, ?_⟩
 have hm:=Qxk h
 have hl:=hm.len
 unfold Jg
 rw [Qne m (by omega),Option.bind_some,if_pos h]
 by_cases k2:m.Kind=2
 ·rw [if_pos (show (trM m).Kind=2 from k2)]
  congr 1
  have hT:T=[m.Over]:=by
   refine Wlv (Canon.unique h2.1 (Qix (hm.Qtn k2)).1 fun k=>(h3 k).trans ?_)
   unfold Qh6
   rw [if_pos k2]
   simp only [List.map_cons,List.map_nil,mem_cons,Bool.and_eq_true,decide_eq_true_eq]
   constructor
   ·exact fun h=>.inl h
   rintro (h | h)
   ·exact h
   exact absurd h Qku
  rw [hT]
  rfl
 rw [if_neg (show ¬ (trM m).Kind=2 from k2)]
 let S:List Qb:=m.Pairs.map fun p=>⟨p.Key,p.Key+1⟩
 have hS:Qkf S:=fun x hx=>by
  obtain ⟨p,hp,rfl⟩:=List.mem_map.1 hx
  have:=hm.ok p hp
  exact ⟨this.1,by show p.Key < p.Key+1;omega,by show p.Key+1<=4096;have:=this.2.1;omega⟩
 have Qi3:∀ k,mem (S.map pa) k↔Qh6 m k=true:=fun k=>by
  unfold Qh6
  rw [if_neg k2]
  constructor
  ·rintro ⟨x,hx,h1,h2⟩
   obtain ⟨y,hy,rfl⟩:=List.mem_map.1 hx
   obtain ⟨p,hp,rfl⟩:=List.mem_map.1 hy
   have:p.Key=k:=by simp only [pa] at h1 h2;omega
   subst this
   cases hq:look m.Pairs p.Key with
   | some v=>rfl
   | none=>exact absurd rfl (Qsy hq p hp)
  intro hq
  cases hl:look m.Pairs k with
  | none=>rw [hl] at hq;cases hq
  | some v=>
   have:=Qpo hl
   exact ⟨(k,k+1),List.mem_map.2 ⟨⟨k,k+1⟩,List.mem_map.2 ⟨_,this,rfl⟩,rfl⟩,Int.le_refl _,by show k < k+1;omega⟩
 have hmk:=(Qz0 S (by simp [S];omega)).2 hS
 obtain ⟨L,c1,c2,c3⟩:=hmk
 have hLT:L=T.map toR:=by
  refine Wlw (Canon.unique c1 (by rw [Qy8];exact h2.1) fun k=>?_)
  refine (c2 k).trans ?_
  show mem (S.map pa) k↔_
  rw [Qy8,Qi3,h3]
 have hTl:(T.map toR).length<=64:=by rw [List.length_map];exact h2.2
 rw [hLT,if_neg (by omega)] at c3
 have q4:(trM m).Pairs=m.Pairs.map tr:=rfl
 obtain ⟨r,e1,e2⟩:∃ r,Xf (Jg.step (trM m)) (.l1 0 [])=some r/\r=T.map toR:=by
  refine Qbi (n:=m.Pairs.length) (fun i x=>Jg.S.l1 (i:Int) x) (fun i x=>x=((m.Pairs.take i).map fun p=>(⟨p.Key,p.Key+1⟩:Qi))) _ ?_ ?_ 0 [] (Nat.zero_le _) rfl
  ·rintro x rfl
   rw [Qa3 (Nat.le_refl _)]
   simp only [Jg.step,Jg.l1,q4,List.length_map,Int.lt_irrefl,if_false]
   have e:m.Pairs.map (fun p=>(⟨p.Key,p.Key+1⟩:Qi))=S.map toR:=by
    simp only [S,List.map_map]
    rfl
   rw [e,c3]
   exact ⟨_,rfl,rfl⟩
  rintro i x hi rfl
  left
  have Xu:(0:Int)<=(i:Int)/\(i:Int) < (m.Pairs.length:Int):=by omega
  have Jp:=hm.ok _ (Qyj (z:=Qa.z) hi)
  have hx:=take_at (l:=m.Pairs) (z:=Qa.z) hi
  have ht:=Qn8 m.Pairs hi
  simp only [Jg.step,Jg.l1,q4,List.length_map,Xu.2,if_true,Xu,and_self,wr1 hi (by omega:m.Pairs.length<=9223372036854775807)]
  rw [ht,show (i:Int).toNat=i from rfl] at *
  generalize m.Pairs.getD i Qa.z=X at Jp hx ⊢
  have r1:(tr X).Key=X.Key:=rfl
  rw [r1,if_pos (by rw [List.length_take];omega),wr (by have:=Jp.1;have:=Jp.2.1;omega),hx,List.map_append]
  exact ⟨_,rfl,rfl⟩
 rw [e1,e2]
end Go.SyP
