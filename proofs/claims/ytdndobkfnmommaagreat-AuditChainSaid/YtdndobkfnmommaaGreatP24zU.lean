/- Which entries touch; what entries made of a key. -/
import Derived.Test.YtdndobkfnmommaaGreatP24zS
import Derived.Test.YtdndobkfnmommaaGreatP24zTC
import Derived.Test.YtdndobkfnmommaaGreatG24zBP
set_option linter.unusedVariables false
set_option linter.unusedSimpArgs false
namespace Go.SyP
open Go Go.Sy Sets
open Classical in
noncomputable def Qxj (m:Ql) (on:List Qb):Bool:=decide (∃ k,Qc1 m k=true/\mem (on.map pa) k)
theorem Qxk (m:Ql) (on:List Qb):Qxj m on=true↔∃ k,Qc1 m k=true/\mem (on.map pa) k:=by
 unfold Qxj
 exact @decide_eq_true_iff _ (Classical.propDecidable _)
theorem Wa8 {e:Qd} {on:List Qb} (hm:mOk e.M=true) (hs:SOk on) (ho:on.length<=5000):Qdy e on=some (Qxj e.M on):=by
 obtain ⟨T,t1,t2,t3⟩:=Qw1 hm
 have hT:=t2.2
 obtain ⟨v,v1,v2⟩:=Wgg T on (by omega) ho
 have hv:v=Qxj e.M on:=by
  rw [Bool.eq_iff_iff,v2,Qxk]
  constructor
  ·rintro ⟨_,_,k,h1,h2⟩
   exact ⟨k,(t3 k).1 h1,h2⟩
  rintro ⟨k,h1,h2⟩
  exact ⟨t2,hs,k,(t3 k).2 h1,h2⟩
 unfold Qdy
 rw [t1,Option.bind_some,v1,Option.bind_some,hv]
theorem Wgf (m:Ql) (k:Int):Qxj m [⟨k,k+1⟩]=Qc1 m k:=by
 rw [Bool.eq_iff_iff,Qxk]
 constructor
 ·rintro ⟨j,h1,h2⟩
  simp only [List.map_cons,List.map_nil,mem,List.mem_singleton,exists_eq_left,pa] at h2
  obtain rfl:j=k:=by omega
  exact h1
 intro h
 exact ⟨k,h,by simp only [List.map_cons,List.map_nil,mem,List.mem_singleton,exists_eq_left,pa];omega⟩
theorem Qko {k:Int} (h:0<=k/\k < 4096):SOk [⟨k,k+1⟩]:=Qpx (by unfold Ok pa;simp only;omega)
theorem Qxp {k:Int} (h:0<=k/\k < 4096):IntKind.wrap .i64 (k+1)=k+1:=wr (by omega)
theorem Qrf {e:Qd} {k:Int} (hm:mOk e.M=true) (h:0<=k/\k < 4096):Qdy e [⟨k,k+1⟩]=some (Qc1 e.M k):=by
 rw [Wa8 hm (Qko h) (by simp),Wgf]
theorem Wdz {e:Qd} (h:e.M.Pairs.length<=5000):Qde e=some e:=by
 unfold Qde
 rw [if_pos (by omega)]
def clA (o:Option Int):Yv:=⟨o.getD 0,o.isSome⟩
noncomputable def stF (key:Int) (x:List Wq × List Qa) (e:Qd):List Wq × List Qa:=
 if (e.Jt && Qc1 e.M key)=true then (x.1 ++ [⟨e,clA (look x.2 key),clA (look (apD [⟨key,key+1⟩] x.2 e.M).1 key)⟩],(apD [⟨key,key+1⟩] x.2 e.M).1) else x
noncomputable def Ql0 (key:Int) (l:List Qd):List Wq:=(l.foldl (stF key) ([],[])).1
theorem Wiw {l:List Qd} (ho:Ord l) {i:Nat} (hi:i < l.length):mOk (l.getD i Qd.z).M=true:=(ho i hi).1
theorem Qzd {l:List Qd} (hf:Few l) (ho:Ord l) {key:Int} (hk:0<=key/\key < 4096):Wt l key=some (Ql0 key l,0):=by
 have hl:=hf.len
 obtain ⟨r,o1,o2⟩:=Qne l hf
 have h:=Qhh (step:=Wt.step l key) l Qd.z (fun i (x:List Wq × List Qa)=>Wt.S.l1 (i:Int) x.2 x.1 ((look x.2 key).getD 0) (look x.2 key).isSome) (stF key)
  (fun i x=>Tb x.2/\x.2.length<=8 * i/\x.1.length<=i) (fun i x hi ⟨hb,h8,hx⟩=>by
  have Ye:(0:Int)<=(i:Int)/\(i:Int) < (l.length:Int):=by omega
  have hm:=Wiw ho hi
  have hpr:=hf.prs _ (Qd0 (z:=Qd.z) hi)
  simp only [Wt.step,Wt.l1,Wt.j2,Ye.2,if_true,Ye,and_self,show l.getD (i:Int).toNat Qd.z=l.getD i Qd.z from rfl,wr1 hi (by omega:l.length<=9223372036854775807),Qxp hk]
  generalize l.getD i Qd.z=e at hm hpr ⊢
  have a:=Qf8 (on:=[⟨key,key+1⟩]) (t:=x.2) (m:=e.M) (by omega) (by simp) hb hm (Qko hk)
  have ha:=a.len
  unfold stF
  by_cases hd:e.Jt=true
  ·rw [if_pos hd,Qrf hm hk,Option.bind_some]
   cases ht:Qc1 e.M key with
   | false=>
    simp only [Bool.not_false,if_true,hd,Bool.and_false,Bool.false_eq_true,if_false]
    exact ⟨trivial,hb,by omega,by omega⟩
   | true=>
    simp only [Bool.not_true,Bool.false_eq_true,if_false,hd,Bool.and_self,if_true]
    rw [Wdz (by omega:e.M.Pairs.length<=5000),Option.bind_some,a.run,Option.bind_some,Wba _ _ (by omega) a.tb,Option.bind_some,if_pos (by omega)]
    exact ⟨rfl,a.tb,by omega,by simp;omega⟩
  rw [if_neg hd]
  simp only [hd,Bool.false_and,Bool.false_eq_true,if_false]
  exact ⟨trivial,hb,by omega,by omega⟩) ([],[]) ⟨Tb.nil,by simp,by simp⟩
 unfold Wt
 rw [o1,Option.bind_some,o2.2 ho,if_pos rfl,if_neg (by omega),decide_eq_false (by omega)]
 simp only [Wt.j1,Bool.false_eq_true,if_false]
 have e:=h.1
 simp only [Int.natCast_zero,show ((0:Nat):Int)=0 from rfl] at e
 refine (show Yb (Wt.step l key) (Wt.S.l1 0 [] [] 0 false)=_ from e).trans ?_
 rw [Qau]
 simp [Wt.step,Wt.l1,stk,Ql0]
theorem Qxi {key:Int}:∀ {l:List Qd} {x:List Wq × List Qa},∀ s∈(l.foldl (stF key) x).1,s∈x.1\/s.E∈l
 | [],x,s,h=>.inl h
 | e :: l,x,s,h=>by
  rw [List.foldl_cons] at h
  rcases Qxi s h with h | h
  ·unfold stF at h
   split at h
   ·simp only [List.mem_append,List.mem_singleton] at h
    rcases h with h | rfl
    ·exact .inl h
    exact .inr (List.mem_cons_self ..)
   exact .inl h
  exact .inr (List.mem_cons_of_mem _ h)
end Go.SyP
namespace Go.SyP
open Go Go.Sy Sets
def Qo5 (mark k:Int) (e:Qd):Bool:=Qn0 mark e && Qc1 e.M k
def Qxn (l:List Qd) (mark k:Int):Option Qd:=l.reverse.find? (Qo5 mark k)
def Qrh (l:List Qd) (mark:Int) (out:List Qd) (p:Qa):List Qd:=
 match Qxn l mark p.Key with
 | none=>out
 | some e=>out ++ [e]
def Qv9 (l:List Qd) (mark:Int) (ps:List Qa):List Qd:=ps.foldl (Qrh l mark) []
theorem We5 (l:List Qd) (mark:Int) (out:List Qd) (p:Qa):(Qrh l mark out p).length<=out.length+1:=by
 unfold Qrh
 split<;>simp
theorem round_eq {e:Qd} {k mark:Int} {out:List Qd} (hm:mOk e.M=true) (hp:e.M.Pairs.length<=5000) (hk:0<=k/\k < 4096) (ho:out.length<=5000):
  Qag e [⟨k,k+1⟩] mark out=some (if Qo5 mark k e=true then (false,out ++ [e]) else (true,out)):=by
 have hj:∀ b:Bool,Qag.j1 e out b=some (if b=true then (false,out ++ [e]) else (true,out)):=fun b=>by
  unfold Qag.j1
  cases b with
  | false=>rfl
  | true=>
   rw [if_pos rfl,Wdz hp,Option.bind_some,if_pos (by omega)]
   rfl
 unfold Qag Qo5 Qn0
 rw [Qrf hm hk,Option.bind_some]
 by_cases hd:e.Jt=true
 ·by_cases ht:e.Time<=mark
  ·rw [if_pos hd,if_pos ht,hj,hd,decide_eq_true ht]
   rfl
  rw [if_pos hd,if_neg ht,hj,hd,decide_eq_false ht]
  rfl
 rw [if_neg hd,hj]
 simp [hd]
theorem back_eq {k mark:Int} {out:List Qd} (hk:0<=k/\k < 4096) (ho:out.length<=5000):∀ {xs:List Qd},(∀ e∈xs,mOk e.M=true/\e.M.Pairs.length<=5000) ->
  Qdu [⟨k,k+1⟩] mark out xs=some (match xs.find? (Qo5 mark k) with | none=>(true,out) | some e=>(false,out ++ [e]))
 | [],_=>rfl
 | e :: xs,h=>by
  have he:=h e (List.mem_cons_self ..)
  unfold Qdu
  rw [round_eq he.1 he.2 hk ho,Option.bind_some,List.find?_cons]
  cases hb:Qo5 mark k e with
  | true=>rfl
  | false=>
   simp only [Bool.false_eq_true,if_false,if_true]
   exact back_eq hk ho fun x hx=>h x (List.mem_cons_of_mem _ hx)
theorem Wff {l:List Qd} {on:List Qb} (mark:Int) (hf:Few l) (ho:on.length<=5000) (hs:SOk on) (h:okE l=true):Tb (foldM on [] (Yx mark l))/\(foldM on [] (Yx mark l)).length<=8 * l.length:=by
 have:=Qme l on mark hf ho hs h
 exact this.2
theorem Qy8 {l:List Qd} {on:List Qb} {mark:Int} (hf:Few l) (hO:Ord l) (ho:on.length<=5000) (hs:SOk on):Zj l on mark=some (Qv9 l mark (foldM on [] (Yx mark l)),0):=by
 have hl:=hf.len
 have Jg:=hO.ok
 obtain ⟨r,o1,o2⟩:=Qne l hf
 obtain ⟨c,c1,c2⟩:=Qzg on ho
 obtain ⟨hT,hTl⟩:=Wff mark hf ho hs Jg
 unfold Zj
 rw [o1,Option.bind_some,o2.2 hO,if_pos rfl,c1,Option.bind_some,c2.2 hs]
 simp only [Bool.not_true,Zj.j1,Bool.false_eq_true,if_false]
 rw [Qtz mark hf ho hs Jg,Option.bind_some]
 generalize foldM on [] (Yx mark l)=L at hT hTl
 have h:=Qhh (step:=Zj.step l mark L) L Qa.z (fun i (x:List Qd)=>Zj.S.l1 (i:Int) x) (Qrh l mark) (fun i x=>x.length<=i) (fun i x hi hx=>by
  have Ye:(0:Int)<=(i:Int)/\(i:Int) < (L.length:Int):=by omega
  have hp:=hT.ok _ (Qd0 (z:=Qa.z) hi)
  have hk:0<=(L.getD i Qa.z).Key/\(L.getD i Qa.z).Key < 4096:=⟨hp.1,hp.2.1⟩
  simp only [Zj.step,Zj.l1,Ye.2,if_true,Ye,and_self,show L.getD (i:Int).toNat Qa.z=L.getD i Qa.z from rfl,wr1 hi (by omega:L.length<=9223372036854775807),Qxp hk]
  rw [if_pos (by omega),back_eq hk (by omega) (fun e he=>by
   have he:=List.mem_reverse.1 he
   have:=hf.prs e he
   exact ⟨List.all_eq_true.1 Jg e he,by omega⟩),Option.bind_some]
  have hlen:=We5 l mark x (L.getD i Qa.z)
  refine ⟨?_,by omega⟩
  unfold Qrh Qxn
  cases l.reverse.find? (Qo5 mark (L.getD i Qa.z).Key)<;>rfl) [] (by simp)
 have e:=h.1
 simp only [Int.natCast_zero,show ((0:Nat):Int)=0 from rfl] at e
 refine (show Yb (Zj.step l mark L) (Zj.S.l1 0 [])=_ from e).trans ?_
 rw [Qau]
 simp [Zj.step,Zj.l1,stk,Qv9]
end Go.SyP
