/- Which entries touch; what entries made of a key. -/
import Derived.Test.YtdndobkfnmommaaGreatP24zS
import Derived.Test.YtdndobkfnmommaaGreatP24zTC
import Derived.Test.YtdndobkfnmommaaGreatG24zBP
set_option linter.unusedVariables false
set_option linter.unusedSimpArgs false
namespace Go.SyP
open Go Go.Sy Sets
open Classical in
noncomputable def Qn5 (m:Qn) (on:List Qb):Bool:=decide (∃ k,Qew m k=true/\mem (on.map pa) k)
theorem Qrz (m:Qn) (on:List Qb):Qn5 m on=true↔∃ k,Qew m k=true/\mem (on.map pa) k:=by
 unfold Qn5
 exact @decide_eq_true_iff _ (Classical.propDecidable _)
theorem Qs3 {e:Qe} {on:List Qb} (hm:mOk e.M=true) (hs:SOk on) (ho:on.length<=5000):Qdv e on=some (Qn5 e.M on):=by
 obtain ⟨T,t1,t2,t3⟩:=Qo8 hm
 have hT:=t2.2
 obtain ⟨v,v1,v2⟩:=Wgn T on (by omega) ho
 have hv:v=Qn5 e.M on:=by
  rw [Bool.eq_iff_iff,v2,Qrz]
  constructor
  ·rintro ⟨_,_,k,h1,h2⟩
   exact ⟨k,(t3 k).1 h1,h2⟩
  rintro ⟨k,h1,h2⟩
  exact ⟨t2,hs,k,(t3 k).2 h1,h2⟩
 unfold Qdv
 rw [t1,Option.bind_some,v1,Option.bind_some,hv]
theorem Wgl (m:Qn) (k:Int):Qn5 m [⟨k,k+1⟩]=Qew m k:=by
 rw [Bool.eq_iff_iff,Qrz]
 constructor
 ·rintro ⟨j,h1,h2⟩
  simp only [List.map_cons,List.map_nil,mem,List.mem_singleton,exists_eq_left,pa] at h2
  obtain rfl:j=k:=by omega
  exact h1
 intro h
 exact ⟨k,h,by simp only [List.map_cons,List.map_nil,mem,List.mem_singleton,exists_eq_left,pa];omega⟩
theorem Qsu {k:Int} (h:0<=k/\k < 4096):SOk [⟨k,k+1⟩]:=Qmo (by unfold Ok pa;simp only;omega)
theorem Wem {k:Int} (h:0<=k/\k < 4096):IntKind.wrap .i64 (k+1)=k+1:=wr (by omega)
theorem Qq9 {e:Qe} {k:Int} (hm:mOk e.M=true) (h:0<=k/\k < 4096):Qdv e [⟨k,k+1⟩]=some (Qew e.M k):=by
 rw [Qs3 hm (Qsu h) (by simp),Wgl]
theorem Wd4 {e:Qe} (h:e.M.Pairs.length<=5000):Qdo e=some e:=by
 unfold Qdo
 rw [if_pos (by omega)]
def clA (o:Option Int):Ze:=⟨o.getD 0,o.isSome⟩
noncomputable def stF (key:Int) (x:List Xe × List Qa) (e:Qe):List Xe × List Qa:=
 if (e.Qai && Qew e.M key)=true then (x.1 ++ [⟨e,clA (look x.2 key),clA (look (apD [⟨key,key+1⟩] x.2 e.M).1 key)⟩],(apD [⟨key,key+1⟩] x.2 e.M).1) else x
noncomputable def Qxi (key:Int) (l:List Qe):List Xe:=(l.foldl (stF key) ([],[])).1
theorem Qsv {l:List Qe} (ho:Ord l) {i:Nat} (hi:i < l.length):mOk (l.getD i Qe.z).M=true:=(ho i hi).1
theorem Qy7 {l:List Qe} (hf:Few l) (ho:Ord l) {key:Int} (hk:0<=key/\key < 4096):Ws l key=some (Qxi key l,0):=by
 have hl:=hf.len
 obtain ⟨r,o1,o2⟩:=Qil l hf
 have h:=Qge (step:=Ws.step l key) l Qe.z (fun i (x:List Xe × List Qa)=>Ws.S.l1 (i:Int) x.2 x.1 ((look x.2 key).getD 0) (look x.2 key).isSome) (stF key)
  (fun i x=>Tb x.2/\x.2.length<=8 * i/\x.1.length<=i) (fun i x hi ⟨hb,h8,hx⟩=>by
  have Yj:(0:Int)<=(i:Int)/\(i:Int) < (l.length:Int):=by omega
  have hm:=Qsv ho hi
  have hpr:=hf.prs _ (Qeo (z:=Qe.z) hi)
  simp only [Ws.step,Ws.l1,Ws.j2,Yj.2,if_true,Yj,and_self,show l.getD (i:Int).toNat Qe.z=l.getD i Qe.z from rfl,wr1 hi (by omega:l.length<=9223372036854775807),Wem hk]
  generalize l.getD i Qe.z=e at hm hpr ⊢
  have a:=Qhr (on:=[⟨key,key+1⟩]) (t:=x.2) (m:=e.M) (by omega) (by simp) hb hm (Qsu hk)
  have ha:=a.len
  unfold stF
  by_cases hd:e.Qai=true
  ·rw [if_pos hd,Qq9 hm hk,Option.bind_some]
   cases ht:Qew e.M key with
   | false=>
    simp only [Bool.not_false,if_true,hd,Bool.and_false,Bool.false_eq_true,if_false]
    exact ⟨trivial,hb,by omega,by omega⟩
   | true=>
    simp only [Bool.not_true,Bool.false_eq_true,if_false,hd,Bool.and_self,if_true]
    rw [Wd4 (by omega:e.M.Pairs.length<=5000),Option.bind_some,a.run,Option.bind_some,Wba _ _ (by omega) a.tb,Option.bind_some,if_pos (by omega)]
    exact ⟨rfl,a.tb,by omega,by simp;omega⟩
  rw [if_neg hd]
  simp only [hd,Bool.false_and,Bool.false_eq_true,if_false]
  exact ⟨trivial,hb,by omega,by omega⟩) ([],[]) ⟨Tb.nil,by simp,by simp⟩
 unfold Ws
 rw [o1,Option.bind_some,o2.2 ho,if_pos rfl,if_neg (by omega),decide_eq_false (by omega)]
 simp only [Ws.j1,Bool.false_eq_true,if_false]
 have e:=h.1
 simp only [Int.natCast_zero,show ((0:Nat):Int)=0 from rfl] at e
 refine (show Xx (Ws.step l key) (Ws.S.l1 0 [] [] 0 false)=_ from e).trans ?_
 rw [Ji]
 simp [Ws.step,Ws.l1,stk,Qxi]
theorem Wbd {l:List Qe} (hf:Few l) {key:Int} (h:¬ (Ord l/\0<=key/\key < 4096)):Ws l key=some ([],1):=by
 obtain ⟨r,o1,o2⟩:=Qil l hf
 unfold Ws
 rw [o1,Option.bind_some]
 simp only [Ws.j1,if_true]
 by_cases ho:r=true
 ·rw [if_pos ho]
  by_cases h1:key < 0
  ·rw [if_pos h1]
  rw [if_neg h1,decide_eq_true (by
   have:=o2.1 ho
   by_cases h2:key < 4096
   ·exact absurd ⟨this,by omega,h2⟩ h
   omega),if_pos rfl]
 rw [if_neg ho]
def trS (s:Xe):Xf:=⟨trE s.E,trC s.Was,trC s.Is⟩
theorem Qvb {l:List Qe} (hf:Few l) {key:Int} (h:¬ (Ord l/\0<=key/\key < 4096)):Qk (l.map trE) key=some ([],1):=by
 obtain ⟨r,o1,o2⟩:=Qgj l hf
 unfold Qk
 rw [o1,Option.bind_some]
 simp only [Qk.j1,if_true]
 by_cases ho:r=true
 ·rw [if_pos ho]
  by_cases h1:key < 0
  ·rw [if_pos h1]
  rw [if_neg h1,decide_eq_true (by
   have:=o2.1 ho
   by_cases h2:key < 4096
   ·exact absurd ⟨this,by omega,h2⟩ h
   omega),if_pos rfl]
 rw [if_neg ho]
theorem Wam {t:List Qa} {m:Qn} {key:Int} (ht:Tb t) (hl:t.length<=1000) (hm:mOk m=true) (hk:0<=key/\key < 4096) (hu:Qew m key=true):
  look (apD [⟨key,key+1⟩] t m).1 key=(Qgx m key (look t key)).getD (look t key):=by
 have a:=Qhr (on:=[⟨key,key+1⟩]) (t:=t) (m:=m) hl (by simp) ht hm (Qsu hk)
 have hh:hasB [⟨key,key+1⟩] key=true:=by
  rw [Qnp (by unfold Ok pa;simp only;omega)]
  simp
  omega
 have hs:∀ j,j≠key->Qd5 t m [⟨key,key+1⟩] j=some (look t j):=fun j hj=>by
  unfold Qd5
  rw [Qnp (by unfold Ok pa;simp only;omega),if_neg]
  simp
  omega
 have h1:Qd5 t m [⟨key,key+1⟩] key=Qgx m key (look t key):=by
  unfold Qd5
  rw [hu,hh]
  rfl
 cases hr:(apD [⟨key,key+1⟩] t m).2 with
 | true=>
  have:=(a.to.done hr).2 key
  rw [h1] at this
  rw [this]
  rfl
 | false=>
  obtain ⟨e,k,hn⟩:=a.to.fail hr
  have hkk:k=key:=by
   by_cases hj:k=key
   ·exact hj
   rw [hs k hj] at hn
   cases hn
  subst hkk
  rw [h1] at hn
  rw [e,hn]
  rfl
theorem Qto {l:List Qe} (hf:Few l) (ho:Ord l) {key:Int} (hk:0<=key/\key < 4096):Qk (l.map trE) key=some ((Qxi key l).map trS,0):=by
 have hl:=hf.len
 obtain ⟨r,o1,o2⟩:=Qgj l hf
 have h:=Qge (step:=Qk.step (l.map trE) key) l Qe.z (fun i (x:List Xe × List Qa)=>Qk.S.l1 (i:Int) (x.1.map trS) ((look x.2 key).getD 0) (look x.2 key).isSome) (stF key)
  (fun i x=>Tb x.2/\x.2.length<=8 * i/\x.1.length<=i) (fun i x hi ⟨hb,h8,hx⟩=>by
  have Yj:(0:Int)<=(i:Int)/\(i:Int) < (l.length:Int):=by omega
  have hm:=Qsv ho hi
  have hpr:=hf.prs _ (Qeo (z:=Qe.z) hi)
  simp only [Qk.step,Qk.l1,Qk.j2,Qk.j3,Qk.j4,List.length_map,Yj.2,if_true,Yj,and_self,show (i:Int).toNat=i from rfl,Qig l hi,wr1 hi (by omega:l.length<=9223372036854775807)]
  generalize l.getD i Qe.z=e at hm hpr ⊢
  have a:=Qhr (on:=[⟨key,key+1⟩]) (t:=x.2) (m:=e.M) (by omega) (by simp) hb hm (Qsu hk)
  have ha:=a.len
  unfold stF
  rw [show (trE e).Qai=e.Qai from rfl,show (trE e).M=trM e.M from rfl]
  by_cases hd:e.Qai=true
  ·rw [if_pos hd,Qn6 _ _ (by omega:e.M.Pairs.length<=5000),Option.bind_some]
   cases ht:Qew e.M key with
   | false=>
    simp only [if_true,hd,Bool.and_false,Bool.false_eq_true,if_false]
    exact ⟨trivial,hb,by omega,by omega⟩
   | true=>
    simp only [if_true,hd,Bool.and_self]
    have hc:-1099511627776<=(look x.2 key).getD 0/\(look x.2 key).getD 0<=1099511627776:=Qkt hb key
    obtain ⟨q,q1,q2⟩:=Qwc e.M (Qnz hm) key (look x.2 key) hc
    rw [show (⟨(look x.2 key).getD 0,(look x.2 key).isSome⟩:Xb)=cellOf (look x.2 key) from rfl,q1,Option.bind_some,Wam hb (by omega) hm hk ht]
    refine ⟨?_,a.tb,by omega,by simp;omega⟩
    rcases q2 with ⟨q2,q3⟩ | ⟨d,q2,q3⟩
    ·rw [q2,q3]
     simp only [Bool.false_eq_true,if_false,Option.getD_none]
     rw [if_pos (by omega)]
     simp [trS,clA,trC,cellOf]
    rw [q2,q3]
    simp only [if_true,Option.getD_some]
    rw [if_pos (by omega)]
    simp [trS,clA,trC,cellOf]
  rw [if_neg hd]
  simp only [hd,Bool.false_and,Bool.false_eq_true,if_false]
  exact ⟨trivial,hb,by omega,by omega⟩) ([],[]) ⟨Tb.nil,by simp,by simp⟩
 unfold Qk
 rw [o1,Option.bind_some,o2.2 ho,if_pos rfl,if_neg (by omega),decide_eq_false (by omega)]
 simp only [Qk.j1,Bool.false_eq_true,if_false]
 have e:=h.1
 simp only [Int.natCast_zero,show ((0:Nat):Int)=0 from rfl] at e
 refine (show Xx (Qk.step (l.map trE) key) (Qk.S.l1 0 [] 0 false)=_ from e).trans ?_
 rw [Ji]
 simp [Qk.step,Qk.l1,stk,Qxi]
theorem Qxk {key:Int}:∀ {l:List Qe} {x:List Xe × List Qa},∀ s∈(l.foldl (stF key) x).1,s∈x.1\/s.E∈l
 | [],x,s,h=>.inl h
 | e :: l,x,s,h=>by
  rw [List.foldl_cons] at h
  rcases Qxk s h with h | h
  ·unfold stF at h
   split at h
   ·simp only [List.mem_append,List.mem_singleton] at h
    rcases h with h | rfl
    ·exact .inl h
    exact .inr (List.mem_cons_self ..)
   exact .inl h
  exact .inr (List.mem_cons_of_mem _ h)
end Go.SyP
namespace Go.SyP
open Go Go.Sy Sets
def Qlj (mark k:Int) (e:Qe):Bool:=Qmj mark e && Qew e.M k
def Wgt (l:List Qe) (mark k:Int):Option Qe:=l.reverse.find? (Qlj mark k)
def Qki (l:List Qe) (mark:Int) (out:List Qe) (p:Qa):List Qe:=
 match Wgt l mark p.Key with
 | none=>out
 | some e=>out ++ [e]
def Qzb (l:List Qe) (mark:Int) (ps:List Qa):List Qe:=ps.foldl (Qki l mark) []
theorem Qra (l:List Qe) (mark:Int) (out:List Qe) (p:Qa):(Qki l mark out p).length<=out.length+1:=by
 unfold Qki
 split<;>simp
theorem Qv9 {l:List Qe} {mark:Int}:∀ {ps:List Qa} {out:List Qe},∀ e∈ps.foldl (Qki l mark) out,e∈out\/e∈l
 | [],out,e,h=>.inl h
 | p :: ps,out,e,h=>by
  rw [List.foldl_cons] at h
  rcases Qv9 e h with h | h
  ·unfold Qki at h
   split at h
   ·exact .inl h
   rename_i x hx
   simp only [List.mem_append,List.mem_singleton] at h
   rcases h with h | rfl
   ·exact .inl h
   exact .inr (List.mem_reverse.1 (List.mem_of_find?_eq_some hx))
  exact .inr h
theorem Qv8 {l:List Qe} {mark:Int}:∀ {ps:List Qa} {out:List Qe},(ps.foldl (Qki l mark) out).length<=out.length+ps.length
 | [],out=>by simp
 | p :: ps,out=>by
  have h1:=Qv8 (l:=l) (mark:=mark) (ps:=ps) (out:=Qki l mark out p)
  have h2:=Qra l mark out p
  simp only [List.foldl_cons,List.length_cons]
  omega
theorem round_eq {e:Qe} {k mark:Int} {out:List Qe} (hm:mOk e.M=true) (hp:e.M.Pairs.length<=5000) (hk:0<=k/\k < 4096) (ho:out.length<=5000):
  Qah e [⟨k,k+1⟩] mark out=some (if Qlj mark k e=true then (false,out ++ [e]) else (true,out)):=by
 have hj:∀ b:Bool,Qah.j1 e out b=some (if b=true then (false,out ++ [e]) else (true,out)):=fun b=>by
  unfold Qah.j1
  cases b with
  | false=>rfl
  | true=>
   rw [if_pos rfl,Wd4 hp,Option.bind_some,if_pos (by omega)]
   rfl
 unfold Qah Qlj Qmj
 rw [Qq9 hm hk,Option.bind_some]
 by_cases hd:e.Qai=true
 ·by_cases ht:e.Time<=mark
  ·rw [if_pos hd,if_pos ht,hj,hd,decide_eq_true ht]
   rfl
  rw [if_pos hd,if_neg ht,hj,hd,decide_eq_false ht]
  rfl
 rw [if_neg hd,hj]
 simp [hd]
theorem back_eq {k mark:Int} {out:List Qe} (hk:0<=k/\k < 4096) (ho:out.length<=5000):∀ {xs:List Qe},(∀ e∈xs,mOk e.M=true/\e.M.Pairs.length<=5000) ->
  Qd6 [⟨k,k+1⟩] mark out xs=some (match xs.find? (Qlj mark k) with | none=>(true,out) | some e=>(false,out ++ [e]))
 | [],_=>rfl
 | e :: xs,h=>by
  have he:=h e (List.mem_cons_self ..)
  unfold Qd6
  rw [round_eq he.1 he.2 hk ho,Option.bind_some,List.find?_cons]
  cases hb:Qlj mark k e with
  | true=>rfl
  | false=>
   simp only [Bool.false_eq_true,if_false,if_true]
   exact back_eq hk ho fun x hx=>h x (List.mem_cons_of_mem _ hx)
theorem Qrj {l:List Qe} {on:List Qb} (mark:Int) (hf:Few l) (ho:on.length<=5000) (hs:SOk on) (h:okE l=true):Tb (foldM on [] (Zi mark l))/\(foldM on [] (Zi mark l)).length<=8 * l.length:=by
 have:=Ql4 l on mark hf ho hs h
 exact this.2
theorem Qy0 {l:List Qe} {on:List Qb} {mark:Int} (hf:Few l) (hO:Ord l) (ho:on.length<=5000) (hs:SOk on):Zm l on mark=some (Qzb l mark (foldM on [] (Zi mark l)),0):=by
 have hl:=hf.len
 have Jh:=hO.ok
 obtain ⟨r,o1,o2⟩:=Qil l hf
 obtain ⟨c,c1,c2⟩:=Qrb on ho
 obtain ⟨hT,hTl⟩:=Qrj mark hf ho hs Jh
 unfold Zm
 rw [o1,Option.bind_some,o2.2 hO,if_pos rfl,c1,Option.bind_some,c2.2 hs]
 simp only [Bool.not_true,Zm.j1,Bool.false_eq_true,if_false]
 rw [Qt1 mark hf ho hs Jh,Option.bind_some]
 generalize foldM on [] (Zi mark l)=L at hT hTl
 have h:=Qge (step:=Zm.step l mark L) L Qa.z (fun i (x:List Qe)=>Zm.S.l1 (i:Int) x) (Qki l mark) (fun i x=>x.length<=i) (fun i x hi hx=>by
  have Yj:(0:Int)<=(i:Int)/\(i:Int) < (L.length:Int):=by omega
  have hp:=hT.ok _ (Qeo (z:=Qa.z) hi)
  have hk:0<=(L.getD i Qa.z).Key/\(L.getD i Qa.z).Key < 4096:=⟨hp.1,hp.2.1⟩
  simp only [Zm.step,Zm.l1,Yj.2,if_true,Yj,and_self,show L.getD (i:Int).toNat Qa.z=L.getD i Qa.z from rfl,wr1 hi (by omega:L.length<=9223372036854775807),Wem hk]
  rw [if_pos (by omega),back_eq hk (by omega) (fun e he=>by
   have he:=List.mem_reverse.1 he
   have:=hf.prs e he
   exact ⟨List.all_eq_true.1 Jh e he,by omega⟩),Option.bind_some]
  have hlen:=Qra l mark x (L.getD i Qa.z)
  refine ⟨?_,by omega⟩
  unfold Qki Wgt
  cases l.reverse.find? (Qlj mark (L.getD i Qa.z).Key)<;>rfl) [] (by simp)
 have e:=h.1
 simp only [Int.natCast_zero,show ((0:Nat):Int)=0 from rfl] at e
 refine (show Xx (Zm.step l mark L) (Zm.S.l1 0 [])=_ from e).trans ?_
 rw [Ji]
 simp [Zm.step,Zm.l1,stk,Qzb]
theorem Wa9 {l:List Qe} {on:List Qb} {mark:Int} (hf:Few l) (ho:on.length<=5000) (h:¬ (Ord l/\SOk on)):Zm l on mark=some ([],1):=by
 obtain ⟨r,o1,o2⟩:=Qil l hf
 obtain ⟨c,c1,c2⟩:=Qrb on ho
 unfold Zm
 rw [o1,Option.bind_some]
 simp only [Zm.j1,if_true]
 by_cases h1:r=true
 ·rw [if_pos h1,c1,Option.bind_some]
  have:c=false:=by
   cases hc:c with
   | false=>rfl
   | true=>exact absurd ⟨o2.1 h1,c2.1 hc⟩ h
  rw [this]
  rfl
 rw [if_neg h1]
theorem Qvv (a:List Qb) (hn:a.length<=5000):Zq a=some (a.map toR):=by
 have h:=Qge (step:=Zq.step a) a Qb.z (fun i (x:List Qf)=>Zq.S.l1 (i:Int) x) (fun x s=>x ++ [toR s]) (fun i x=>x.length<=i) (fun i x hi hx=>by
  have Yj:(0:Int)<=(i:Int)/\(i:Int) < (a.length:Int):=by omega
  simp only [Zq.step,Zq.l1,Yj.2,if_true,Yj,and_self,show a.getD (i:Int).toNat Qb.z=a.getD i Qb.z from rfl,wr1 hi (by omega:a.length<=9223372036854775807)]
  rw [if_pos (by omega)]
  exact ⟨rfl,by simp;omega⟩) [] (by simp)
 have hfold:∀ (l:List Qb) (x:List Qf),l.foldl (fun x s=>x ++ [toR s]) x=x ++ l.map toR:=by
  intro l
  induction l with
  | nil=>intro x;simp
  | cons s l ih=>intro x;simp [ih]
 have e:=h.1
 rw [hfold] at e
 simp only [Int.natCast_zero,show ((0:Nat):Int)=0 from rfl,List.nil_append] at e
 unfold Zq
 refine (show Xx (Zq.step a) (Zq.S.l1 0 [])=_ from e).trans ?_
 rw [Ji]
 simp [Zq.step,Zq.l1,stk]
theorem Qzc (on:List Qb) (hn:on.length<=5000):∃ r,Yu (on.map toR)=some r/\(r=true↔SOk on):=by
 obtain ⟨r,h1,h2⟩:=Qjf (on.map toR) (by simp;omega)
 refine ⟨r,h1,h2.trans ?_⟩
 unfold SOk
 rw [List.map_map,List.length_map]
 exact Iff.rfl
theorem Qtn {l:List Qe} {on:List Qb} {mark:Int} (hf:Few l) (hO:Ord l) (ho:on.length<=5000) (hs:SOk on):
  Qx (l.map trE) (on.map toR) mark=some ((Qzb l mark (foldM on [] (Zi mark l))).map trE,0):=by
 have hl:=hf.len
 have Jh:=hO.ok
 obtain ⟨r,o1,o2⟩:=Qgj l hf
 obtain ⟨c,c1,c2⟩:=Qzc on ho
 obtain ⟨hT,hTl⟩:=Qrj mark hf ho hs Jh
 unfold Qx
 rw [o1,Option.bind_some,o2.2 hO,if_pos rfl,c1,Option.bind_some,c2.2 hs]
 simp only [Bool.not_true,Qx.j1,Bool.false_eq_true,if_false]
 rw [(Qx1 mark hf ho).1 ⟨hs,Jh⟩,Option.bind_some]
 generalize foldM on [] (Zi mark l)=L at hT hTl
 let st:=Qx.step (l.map trE) mark (L.map tr)
 have inner:∀ (i:Nat) (out:List Qe),i < L.length->out.length<=i->Xx st (.l1 (i:Int) (out.map trE))=Xx st (.l1 ((i+1:Nat):Int) ((Qki l mark out (L.getD i Qa.z)).map trE)):=by
  intro i out hi hx
  have Yj:(0:Int)<=(i:Int)/\(i:Int) < (L.length:Int):=by omega
  have h0:st (.l1 (i:Int) (out.map trE))=some (.inl (.l2 (i:Int) (-1) 0 (out.map trE))):=by
   simp only [st,Qx.step,Qx.l1,List.length_map,Yj.2,if_true]
  rw [Ji,h0]
  let q:=Qlj mark (L.getD i Qa.z).Key
  obtain ⟨last,e1,g1,g2,g3⟩:=Wda (step:=st) (n:=l.length) (fun n (last:Int)=>Qx.S.l2 (i:Int) last (n:Int) (out.map trE))
   (fun n last=>-1<=last/\last < (n:Int)/\(l.take n).reverse.find? q=if last < 0 then none else some (l.getD last.toNat Qe.z)) (fun n last hn ⟨g1,g2,g3⟩=>by
    have hs2:(0:Int)<=(n:Int)/\(n:Int) < (l.length:Int):=by omega
    have hpr:=hf.prs _ (Qeo (z:=Qe.z) hn)
    have key:∀ b:Bool,b=q (l.getD n Qe.z)->∃ y,Qx.j3 (i:Int) last (n:Int) (out.map trE) b=some (.inl (.l2 (i:Int) y ((n+1:Nat):Int) (out.map trE))) /\
      -1<=y/\y < ((n+1:Nat):Int)/\(l.take (n+1)).reverse.find? q=if y < 0 then none else some (l.getD y.toNat Qe.z):=by
     intro b hb
     have ht:(l.take (n+1)).reverse=l.getD n Qe.z :: (l.take n).reverse:=by
      rw [List.take_add_one]
      simp [hn]
     rw [ht,List.find?_cons]
     simp only [Qx.j3,Qx.j4,wr1 hn (by omega:l.length<=9223372036854775807)]
     cases b with
     | true=>
      rw [<- hb]
      refine ⟨(n:Int),rfl,by omega,by omega, ?_⟩
      rw [if_neg (by omega)]
      rfl
     | false=>
      rw [<- hb]
      exact ⟨last,rfl,g1,by omega,g3⟩
    simp only [st,Qx.step,Qx.l2,List.length_map,hs2.2,if_true,hs2,and_self,show (n:Int).toNat=n from rfl,Qig l hn,Yj,Qhp L hi]
    rw [show (trE (l.getD n Qe.z)).Qai=(l.getD n Qe.z).Qai from rfl,show (trE (l.getD n Qe.z)).M=trM (l.getD n Qe.z).M from rfl,show (trE (l.getD n Qe.z)).Time=(l.getD n Qe.z).Time from rfl]
    by_cases hd:(l.getD n Qe.z).Qai=true
    ·rw [if_pos hd]
     by_cases ht:(l.getD n Qe.z).Time<=mark
     ·rw [if_pos ht,show (tr (L.getD (i:Int).toNat Qa.z)).Key=(L.getD i Qa.z).Key from rfl,Qn6 _ _ (by omega:(l.getD n Qe.z).M.Pairs.length<=5000),Option.bind_some]
      exact key _ (by simp only [q,Qlj,Qmj,hd,decide_eq_true ht,Bool.and_self,Bool.true_and])
     rw [if_neg ht]
     exact key _ (by simp only [q,Qlj,Qmj,decide_eq_false ht,Bool.and_false,Bool.false_and])
    rw [if_neg hd]
    exact key _ (by simp only [q,Qlj,Qmj,hd,Bool.false_and])) 0 (-1) (Nat.zero_le _) ⟨by omega,by omega,by simp⟩
  refine (show Xx st (Qx.S.l2 (i:Int) (-1) 0 (out.map trE))=_ from e1).trans ?_
  rw [List.take_length] at g3
  rw [Ji]
  simp only [st,Qx.step,Qx.l2,List.length_map,Int.lt_irrefl,if_false,Qx.j2,wr1 hi (by omega:L.length<=9223372036854775807)]
  unfold Qki Wgt
  rw [show l.reverse.find? (Qlj mark (L.getD i Qa.z).Key)=_ from g3]
  by_cases Qvm:last < 0
  ·rw [if_neg (by omega),if_pos Qvm]
   rfl
  rw [if_pos (by omega),if_neg Qvm,if_pos (by omega),if_pos (by omega),Qig l (by omega)]
  simp [stk]
 have all:∀ (m i:Nat) (out:List Qe),i+m=L.length->out.length<=i->Xx st (.l1 (i:Int) (out.map trE))=some (((L.drop i).foldl (Qki l mark) out).map trE,0):=by
  intro m
  induction m with
  | zero=>
   intro i out hi hx
   obtain rfl:i=L.length:=by omega
   rw [Ji]
   simp [st,Qx.step,Qx.l1,stk]
  | succ m ih=>
   intro i out hi hx
   have hi':i < L.length:=by omega
   have:=Qra l mark out (L.getD i Qa.z)
   rw [inner i out hi' hx,ih (i+1) _ (by omega) (by omega),List.drop_eq_getElem_cons hi',List.foldl_cons,show L[i]=L.getD i Qa.z by simp [hi']]
 exact all L.length 0 [] (by omega) (by simp)
theorem Qu8 {l:List Qe} {on:List Qb} {mark:Int} (hf:Few l) (ho:on.length<=5000) (h:¬ (Ord l/\SOk on)):Qx (l.map trE) (on.map toR) mark=some ([],1):=by
 obtain ⟨r,o1,o2⟩:=Qgj l hf
 obtain ⟨c,c1,c2⟩:=Qzc on ho
 unfold Qx
 rw [o1,Option.bind_some]
 simp only [Qx.j1,if_true]
 by_cases h1:r=true
 ·rw [if_pos h1,c1,Option.bind_some]
  have:c=false:=by
   cases hc:c with
   | false=>rfl
   | true=>exact absurd ⟨o2.1 h1,c2.1 hc⟩ h
  rw [this]
  rfl
 rw [if_neg h1]
end Go.SyP
