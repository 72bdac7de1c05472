/- A story of what must be seen has no finding; one read that is turned has one. -/
import Derived.Test.YtdndobkfnmommaaP24S
set_option linter.unusedVariables false
set_option linter.unusedSimpArgs false
namespace Go.SyP
open Go Go.Sy Sets

theorem place (a n:Int) (h0:0 < n) (h1:n≤1000000):0≤Int.tmod (IntKind.wrap .i64 (Int.tmod a n+n)) n∧Int.tmod (IntKind.wrap .i64 (Int.tmod a n+n)) n < n:=by
 have h2:=Int.tmod_lt_of_pos a h0
 have h3:=Int.lt_tmod_of_pos a h0
 rw [wr (by omega)]
 exact ⟨Int.tmod_nonneg _ (by omega),Int.tmod_lt_of_pos _ h0⟩

theorem wAt_append (order:List api_Entry) (R:List api_Event) (e:api_Event) {j:Nat} (hj:j < R.length):wAt order (R ++ [e]) j=wAt order R j:=by
 unfold wAt
 have h1:(R ++ [e]).getD j api_Event.z=R.getD j api_Event.z:=by simp [List.getD_eq_getElem?_getD,List.getElem?_append_left hj]
 have h2:(R ++ [e]).take j=R.take j:=by rw [List.take_append_of_le_length (by omega)]
 rw [h1,h2]
theorem wAt_last (order:List api_Entry) (R:List api_Event) (e:api_Event):wAt order (R ++ [e]) R.length=whyV order (issL e.Client R) (marL e.Client R) e:=by
 unfold wAt
 have h1:(R ++ [e]).getD R.length api_Event.z=e:=by simp [List.getD_eq_getElem?_getD]
 have h2:(R ++ [e]).take R.length=R:=by simp
 rw [h1,h2]
theorem findL_nil {order:List api_Entry} {R:List api_Event} (h:∀ j,j < R.length→wAt order R j=0):∀ n,n≤R.length→findL order R n=[]
 | 0,_=>rfl
 | n+1,hn=>by rw [findL_succ,if_pos (h n (by omega)),findL_nil h n (by omega)]
theorem findL_one {order:List api_Entry} {R:List api_Event} {k:Nat} {w:Int} (hw:w≠0) (hk:wAt order R k=w) (h:∀ j,j < R.length→j≠k→wAt order R j=0):∀ n,n≤R.length→findL order R n=if k < n then [((k:Int),w)] else []
 | 0,_=>by simp [findL]
 | n+1,hn=>by
  rw [findL_succ,findL_one hw hk h n (by omega)]
  by_cases hnk:n=k
  ·subst hnk
   rw [hk,if_neg hw,if_neg (by omega),if_pos (by omega),List.nil_append]
  ·rw [if_pos (h n (by omega) hnk)]
   by_cases hl:k < n
   ·rw [if_pos hl,if_pos (by omega)]
   ·rw [if_neg hl,if_neg (by omega)]

structure RInv (order:List api_Entry) (i:Nat) (R:List api_Event) (reads:List Int) (m s:Int→Int):Prop where
 len:R.length≤i
 rl:reads.length≤i
 prs:∀ e∈R,e.M.Pairs.length≤10
 z:∀ j,j < R.length→wAt order R j=0
 sq:∀ c,s c=((issL (c+1) R).length:Int)
 mrk:∀ c,m c=marL (c+1) R
 rd:∀ r∈reads,∃ k:Nat,r=(k:Int)∧k < R.length∧(R.getD k api_Event.z).Kind=2
theorem RInv.nil (order:List api_Entry):RInv order 0 [] [] (fun _=>0) (fun _=>0):=⟨by simp,by simp,by simp,fun j hj=>by simp at hj,fun _=>rfl,fun _=>rfl,by simp⟩
theorem RInv.up {order:List api_Entry} {i:Nat} {R:List api_Event} {reads:List Int} {m s:Int→Int} (h:RInv order i R reads m s):RInv order (i+1) R reads m s:=
 ⟨by have:=h.len;omega,by have:=h.rl;omega,h.prs,h.z,h.sq,h.mrk,h.rd⟩
def updI (f:Int→Int) (c v:Int):Int→Int:=fun d=>if d=c then v else f d
theorem getD_snoc {R:List api_Event} {e:api_Event} {k:Nat} (hk:k < R.length):(R ++ [e]).getD k api_Event.z=R.getD k api_Event.z:=by simp [List.getD_eq_getElem?_getD,List.getElem?_append_left hk]
theorem marL_nonneg (c:Int) (l:List api_Event):0≤marL c l:=by
 have key:∀ (l:List api_Event) (mk:Int),0≤mk→0≤l.foldl (marS c) mk:=by
  intro l
  induction l with
  | nil=>intro mk h;exact h
  | cons e l ih=>
   intro mk h
   rw [List.foldl_cons]
   refine ih _ ?_
   unfold marS
   split<;>omega
 exact key l 0 (by omega)

theorem RInv.issue {order:List api_Entry} {i:Nat} {R:List api_Event} {reads:List Int} {m s:Int→Int} (h:RInv order i R reads m s) {c:Int} {mu:api_Mut} (hp:mu.Pairs.length≤10) (hc:mu.Client=c+1) (hs:mu.Seq=s c+1) (hm:mOk mu=true):
  RInv order (i+1) (R ++ [⟨1,c+1,mu,0,⟨0,false⟩,0⟩]) reads m (updI s c (s c+1)):=by
 generalize he:(⟨1,c+1,mu,0,⟨0,false⟩,0⟩:api_Event)=e
 have hk:e.Kind=1:=by rw [← he]
 have hcl:e.Client=c+1:=by rw [← he]
 have hM:e.M=mu:=by rw [← he]
 have hfo:formB e=true:=by rw [← he];simp [formB,hm,hc]
 have hmar:∀ d,marL d (R ++ [e])=marL d R:=fun d=>by rw [marL_snoc];simp [marS,hk]
 refine ⟨by have:=h.len;simp;omega,by have:=h.rl;omega,fun x hx=>?_,fun j hj=>?_,fun d=>?_,fun d=>by rw [hmar];exact h.mrk d,fun r hr=>?_⟩
 ·rcases List.mem_append.1 hx with hx | hx
  ·exact h.prs x hx
  ·simp at hx;subst hx;rw [hM];exact hp
 ·rw [List.length_append,List.length_singleton] at hj
  rcases Nat.lt_or_ge j R.length with h1 | h1
  ·rw [wAt_append order R e h1];exact h.z j h1
  ·obtain rfl:j=R.length:=by omega
   rw [wAt_last]
   unfold whyV
   rw [if_pos hfo,if_pos hk,if_pos (by rw [hM,hcl,hs,h.sq])]
 ·rw [issL_snoc]
  unfold issS updI
  by_cases hd:d=c
  ·subst hd
   rw [if_pos rfl,if_pos (by simp [issC,hk,hcl,hfo,hM,hs,h.sq]),h.sq]
   simp
  ·rw [if_neg hd,if_neg (by simp [issC,hcl];intro _ h1;exact absurd (by omega) hd)]
   exact h.sq d
 ·obtain ⟨k,h1,h2,h3⟩:=h.rd r hr
  exact ⟨k,h1,by simp;omega,by rw [getD_snoc h2];exact h3⟩

theorem RInv.read {order:List api_Entry} {i:Nat} {R:List api_Event} {reads:List Int} {m s:Int→Int} (h:RInv order i R reads m s) (st:∀ c,SeeOk order (issL c R)) {c key x:Int} (hc:0≤c∧c < 4) (hk:0≤key∧key < 4096):
  RInv order (i+1) (R ++ [⟨2,c+1,⟨0,0,0,[],⟨0,0⟩,0⟩,key,seeC order (issL (c+1) R) key (max (m c) x),max (m c) x⟩]) (reads ++ [(R.length:Int)]) (updI m c (max (m c) x)) s:=by
 have hm0:=marL_nonneg (c+1) R
 have hmk:=h.mrk c
 generalize hM:max (m c) x=M
 have hMge:marL (c+1) R≤M∧0≤M:=by omega
 have ha:=(st (c+1)).all M
 generalize hC:seeC order (issL (c+1) R) key M=C
 have hcell:cellB C=true:=by
  rw [← hC]
  unfold cellB seeC
  simp only
  cases hl:look (seeT order (issL (c+1) R) M) key with
  | none=>simp
  | some v=>
   have:=look_ok ha.1 hl
   simp only [Option.isSome_some,if_true,Option.getD_some]
   simp
   omega
 generalize he:(⟨2,c+1,⟨0,0,0,[],⟨0,0⟩,0⟩,key,C,M⟩:api_Event)=e
 have hkd:e.Kind=2:=by rw [← he]
 have hcl:e.Client=c+1:=by rw [← he]
 have hmark:e.Mark=M:=by rw [← he]
 have hfo:formB e=true:=by
  rw [← he]
  unfold formB
  rw [if_neg (show ¬ (2:Int)=1 by decide),if_pos rfl]
  simp [hcell]
  omega
 have hiss:∀ d,issL d (R ++ [e])=issL d R:=fun d=>by
  rw [issL_snoc]
  unfold issS
  rw [if_neg (by simp [issC,hkd])]
 refine ⟨by have:=h.len;simp;omega,by have:=h.rl;simp;omega,fun y hy=>?_,fun j hj=>?_,fun d=>by rw [hiss];exact h.sq d,fun d=>?_,fun r hr=>?_⟩
 ·rcases List.mem_append.1 hy with hy | hy
  ·exact h.prs y hy
  ·simp at hy;subst hy;rw [← he];simp
 ·rw [List.length_append,List.length_singleton] at hj
  rcases Nat.lt_or_ge j R.length with h1 | h1
  ·rw [wAt_append order R e h1];exact h.z j h1
  ·obtain rfl:j=R.length:=by omega
   rw [wAt_last]
   unfold whyV
   rw [if_pos hfo,if_neg (by rw [hkd];decide),hcl,hmark,if_neg (by omega)]
   have hkey:e.Key=key:=by rw [← he]
   have hcc:e.Cell=C:=by rw [← he]
   rw [hkey,hcc,hC,if_pos ⟨rfl,rfl⟩]
 ·rw [marL_snoc]
  unfold marS updI
  by_cases hd:d=c
  ·subst hd
   rw [if_pos rfl,if_pos (by simp [hkd,hcl,hfo]),hmark]
   omega
  ·rw [if_neg hd,if_neg (by simp [hcl];intro _ h1;exact absurd (by omega) hd)]
   exact h.mrk d
 ·rcases List.mem_append.1 hr with hr | hr
  ·obtain ⟨k,h1,h2,h3⟩:=h.rd r hr
   exact ⟨k,h1,by simp;omega,by rw [getD_snoc h2];exact h3⟩
  ·simp at hr
   subst hr
   exact ⟨R.length,rfl,by simp,by simp [List.getD_eq_getElem?_getD,hkd]⟩

theorem foldl_swap {α β:Type} (f:β→α→β) (e e':α) (h:∀ x,f x e=f x e') (A B:List α) (x:β):(A ++ e :: B).foldl f x=(A ++ e' :: B).foldl f x:=by
 rw [List.foldl_append,List.foldl_append,List.foldl_cons,List.foldl_cons,h]
theorem turned {order:List api_Entry} {R:List api_Event} (hz:∀ j,j < R.length→wAt order R j=0) {k:Nat} (hk:k < R.length) (hkd:(R.getD k api_Event.z).Kind=2) (C:api_Cell) (hC:cellB C=true) (hne:C.Some≠(R.getD k api_Event.z).Cell.Some):
  findL order (R.set k ⟨(R.getD k api_Event.z).Kind,(R.getD k api_Event.z).Client,(R.getD k api_Event.z).M,(R.getD k api_Event.z).Key,C,(R.getD k api_Event.z).Mark⟩) R.length=[((k:Int),4)]:=by
 obtain ⟨A,e,B,rfl,hA⟩:∃ A e B,R=A ++ e :: B∧A.length=k:=⟨R.take k,R[k],R.drop (k+1),by rw [← List.drop_eq_getElem_cons hk,List.take_append_drop],by rw [List.length_take];omega⟩
 have hek:(A ++ e :: B).getD k api_Event.z=e:=by subst hA;simp [List.getD_eq_getElem?_getD]
 rw [hek] at hkd hne ⊢
 generalize he':(⟨e.Kind,e.Client,e.M,e.Key,C,e.Mark⟩:api_Event)=e'
 have hset:(A ++ e :: B).set k e'=A ++ e' :: B:=by subst hA;simp
 rw [hset]
 have q1:e'.Kind=e.Kind:=by rw [← he']
 have q2:e'.Client=e.Client:=by rw [← he']
 have q3:e'.Mark=e.Mark:=by rw [← he']
 have q4:e'.Key=e.Key:=by rw [← he']
 have q5:e'.Cell=C:=by rw [← he']
 have q6:e'.M=e.M:=by rw [← he']
 have hwk:=hz k hk
 have hwk2:whyV order (issL e.Client A) (marL e.Client A) e=0:=by
  unfold wAt at hwk
  rw [hek] at hwk
  have:(A ++ e :: B).take k=A:=by subst hA;simp
  rw [this] at hwk
  exact hwk
 have hk1:¬ e.Kind=1:=by omega
 have hfo:formB e=true:=by
  cases hf:formB e with
  | true=>rfl
  | false=>unfold whyV at hwk2;rw [hf] at hwk2;simp at hwk2
 have hfo':formB e'=true:=by
  unfold formB at hfo ⊢
  rw [q1,q2,q3,q4,q5,q6]
  rw [if_neg hk1,if_pos hkd] at hfo ⊢
  simp only [Bool.and_eq_true] at hfo ⊢
  exact ⟨hfo.1,hfo.2.1,hC⟩
 have hiss:∀ c A' B',issL c (A' ++ e' :: B')=issL c (A' ++ e :: B'):=fun c A' B'=>foldl_swap (issS c) e' e (fun x=>by
  unfold issS
  rw [if_neg (by simp [issC,q1,hk1]),if_neg (by simp [issC,hk1])]) A' B' []
 have hmar:∀ c A' B',marL c (A' ++ e' :: B')=marL c (A' ++ e :: B'):=fun c A' B'=>foldl_swap (marS c) e' e (fun x=>by
  unfold marS
  rw [q1,q2,q3,hfo,hfo']) A' B' 0
 have hlen:(A ++ e' :: B).length=(A ++ e :: B).length:=by simp
 have hwk3:wAt order (A ++ e' :: B) k=4:=by
  unfold wAt
  have g1:(A ++ e' :: B).getD k api_Event.z=e':=by subst hA;simp [List.getD_eq_getElem?_getD]
  have g2:(A ++ e' :: B).take k=A:=by subst hA;simp
  rw [g1,g2,q2]
  unfold whyV at hwk2 ⊢
  rw [hfo,if_pos rfl,if_neg hk1] at hwk2
  rw [hfo',if_pos rfl,q1,if_neg hk1,q3,q4,q5]
  by_cases hm:e.Mark < marL e.Client A
  ·rw [if_pos hm] at hwk2;cases hwk2
  ·rw [if_neg hm] at hwk2 ⊢
   by_cases hcell:(seeC order (issL e.Client A) e.Key e.Mark).Val=e.Cell.Val∧(seeC order (issL e.Client A) e.Key e.Mark).Some=e.Cell.Some
   ·rw [if_neg (fun hh=>hne (hh.2.symm.trans hcell.2))]
   ·rw [if_neg hcell] at hwk2;cases hwk2
 have hrest:∀ j,j < (A ++ e' :: B).length→j≠k→wAt order (A ++ e' :: B) j=0:=by
  intro j hj hjk
  have hj':j < (A ++ e :: B).length:=by rw [← hlen];exact hj
  have hw:=hz j hj'
  unfold wAt at hw ⊢
  have g1:(A ++ e' :: B).getD j api_Event.z=(A ++ e :: B).getD j api_Event.z:=by
   rw [← hset]
   simp only [List.getD_eq_getElem?_getD]
   rw [List.getElem?_set_ne (Ne.symm hjk)]
  rw [g1]
  rcases Nat.lt_or_ge j A.length with h1 | h1
  ·have g2:(A ++ e' :: B).take j=(A ++ e :: B).take j:=by rw [List.take_append_of_le_length (by omega),List.take_append_of_le_length (by omega)]
   rw [g2];exact hw
  ·obtain ⟨d,hd⟩:∃ d,j=A.length+(d+1):=⟨j - A.length - 1,by omega⟩
   have g2:∀ y,(A ++ y :: B).take j=A ++ y :: B.take d:=fun y=>by
    rw [hd,List.take_length_add_append,List.take_succ_cons]
   rw [g2] at hw ⊢
   rw [hiss,hmar];exact hw
 rw [← hlen,findL_one (by decide) hwk3 hrest _ (Nat.le_refl _),if_pos (by rw [hlen];exact hk)]
end Go.SyP
set_option linter.unusedVariables false
set_option linter.unusedSimpArgs false
namespace Go.SyP
open Go Go.Sy Sets

def RS (i:Nat) (R:List api_Event) (reads:List Int) (m s:Int→Int):splicelaw24_AuditRight.S:=.l1 (i:Int) R reads (m 0) (m 1) (m 2) (m 3) (s 0) (s 1) (s 2) (s 3)
theorem four {c:Int} (h0:0≤c) (h1:c < 4):c=0∨c=1∨c=2∨c=3:=by omega
theorem place4 (a:Int):0≤Int.tmod (IntKind.wrap .i64 (Int.tmod a 4+4)) 4∧Int.tmod (IntKind.wrap .i64 (Int.tmod a 4+4)) 4 < 4:=place a 4 (by decide) (by decide)
theorem iMax_max (a b:Int):iMax a b=max a b:=by
 unfold iMax
 split<;>omega

theorem RInv.fewv {order:List api_Entry} {i:Nat} {R:List api_Event} {reads:List Int} {m s:Int→Int} (h:RInv order i R reads m s) (hi:i≤30):FewV R:=⟨by have:=h.len;omega,h.prs⟩

theorem right_issue {order:List api_Entry} {story:List api_Event} (st:StOk order story) {i:Nat} (hi:i < story.length) {R:List api_Event} {reads:List Int} {m s:Int→Int} (h:RInv order i R reads m s) {c:Int} (hc:0≤c∧c < 4):
  ∃ R' s',splicelaw24_AuditRight.j5 story (i:Int) R reads (m 0) (m 1) (m 2) (m 3) (s 0) (s 1) (s 2) (s 3) c (IntKind.wrap .i64 (s c+1))=some (.inl (RS (i+1) R' reads m s'))∧RInv order (i+1) R' reads m s':=by
 have hl:=st.fv.len
 have hlen:=h.len
 have hp:=st.fv.prs _ (getD_in (z:=api_Event.z) hi)
 have hsc:=h.sq c
 have hil:=issL_len (c+1) R
 unfold splicelaw24_AuditRight.j5
 rw [show (i:Int).toNat=i from rfl,wr (n:=s c+1) (by omega),wr (n:=c+1) (by omega)]
 generalize hm:(⟨c+1,s c+1,((story.getD i api_Event.z).M).Kind,((story.getD i api_Event.z).M).Pairs,(((story.getD i api_Event.z).M).Over),((story.getD i api_Event.z).M).Old⟩:api_Mut)=mu
 have hmp:mu.Pairs.length≤10:=by rw [← hm];exact hp
 rw [RefM_eq mu (by omega),Option.bind_some,ref_Check_eq mu (by omega),Option.bind_some]
 by_cases hok:mOk mu=true
 ·have hinv:=h.issue (c:=c) (mu:=mu) hmp (by rw [← hm]) (by rw [← hm]) hok
  refine ⟨_,_, ?_,hinv⟩
  rw [if_pos hok]
  have hw:∀ v:Int,v≤100→0≤v→IntKind.wrap .i64 (v+1)=v+1:=fun v h1 h2=>wr (by omega)
  have j6:∀ a b d e,splicelaw24_AuditRight.j6 story (i:Int) R reads (m 0) (m 1) (m 2) (m 3) c (s c+1) a b d e=some (.inl (.l1 ((i+1:Nat):Int) (R ++ [⟨1,c+1,mu,0,⟨0,false⟩,0⟩]) reads (m 0) (m 1) (m 2) (m 3) a b d e)):=by
   intro a b d e
   unfold splicelaw24_AuditRight.j6
   rw [if_pos (by omega),show (i:Int).toNat=i from rfl,wr (n:=c+1) (by omega),hm,wr1 hi (by omega:story.length≤9223372036854775807)]
  unfold RS updI
  rcases four hc.1 hc.2 with rfl | rfl | rfl | rfl
  ·rw [if_pos rfl,j6,hw _ (by omega) (by omega)];rfl
  ·rw [if_neg (by decide),if_pos rfl,j6,hw _ (by omega) (by omega)];rfl
  ·rw [if_neg (by decide),if_neg (by decide),if_pos rfl,j6,hw _ (by omega) (by omega)];rfl
  ·rw [if_neg (by decide),if_neg (by decide),if_neg (by decide),if_pos rfl,j6,hw _ (by omega) (by omega)];rfl
 ·rw [if_neg hok,wr1 hi (by omega:story.length≤9223372036854775807)]
  exact ⟨R,s,rfl,h.up⟩

theorem right_read {order:List api_Entry} {story:List api_Event} (st:StOk order story) (ho:Ord order) {i:Nat} (hi:i < story.length) {R:List api_Event} {reads:List Int} {m s:Int→Int} (h:RInv order i R reads m s) {c:Int} (hc:0≤c∧c < 4) (m':Int→Int) (hm':m'=updI m c (max (m c) (story.getD i api_Event.z).Mark)):
  ∃ R' reads',splicelaw24_AuditRight.j7 story (order.map trE) (i:Int) R reads (s 0) (s 1) (s 2) (s 3) c (m' 0) (m' 1) (m' 2) (m' 3)=some (.inl (RS (i+1) R' reads' m' s))∧RInv order (i+1) R' reads' m' s:=by
 have hl:=st.fv.len
 have hlen:=h.len
 have hrl:=h.rl
 have hfv:=h.fewv (by omega)
 have hkey:=place (story.getD i api_Event.z).Key 4096 (by decide) (by decide)
 have stR:StOk order R:=⟨st.few,st.len,hfv⟩
 have see:∀ d,SeeOk order (issL d R):=fun d=>by
  have:=stR.see ho d R.length
  rwa [take_all (Nat.le_refl _)] at this
 have hmc:m' c=max (m c) (story.getD i api_Event.z).Mark:=by rw [hm'];simp [updI]
 have hinv:=h.read see (c:=c) (x:=(story.getD i api_Event.z).Mark) hc hkey
 rw [← hm',← hmc] at hinv
 refine ⟨_,_, ?_,hinv⟩
 unfold splicelaw24_AuditRight.j7 bnd
 rw [show (i:Int).toNat=i from rfl]
 simp only []
 rw [events_eq R hfv,Option.bind_some,wr (n:=c+1) (by omega)]
 generalize Int.tmod (IntKind.wrap .i64 (Int.tmod ((story.getD i api_Event.z).Key) 4096+4096)) 4096=key at hkey ⊢
 have hsees:∀ mk,spliceref24_Sees (order.map trE) (R.map trV) (R.length:Int) (c+1) key mk=some ⟨(seeC order (issL (c+1) R) key mk).Val,(seeC order (issL (c+1) R) key mk).Some⟩:=fun mk=>by
  have hs:=see (c+1)
  have e:R.take ((R.length:Int)).toNat=R:=take_all (by omega)
  have:=ref_Sees_eq hfv (R.length:Int) (c+1) key mk ho (by rw [e];exact hs)
  rw [e] at this
  exact this
 have j9:∀ R2,splicelaw24_AuditRight.j9 (i:Int) R reads (s 0) (s 1) (s 2) (s 3) (m' 0) (m' 1) (m' 2) (m' 3) R2=some (.inl (RS (i+1) R2 (reads ++ [(R.length:Int)]) m' s)):=fun R2=>by
  unfold splicelaw24_AuditRight.j9
  rw [wr1 hi (by omega:story.length≤9223372036854775807)]
  rfl
 unfold splicelaw24_AuditRight.j8
 have b1:(reads.length+1) * 8≤140737488355328:=by omega
 have b2:(R.length+1) * 120≤140737488355328:=by omega
 simp only [hsees,Option.bind_some,wr (n:=c+1) (by omega),b1,b2,if_true,j9]
 rcases four hc.1 hc.2 with rfl | rfl | rfl | rfl
 ·rw [if_pos rfl,if_pos rfl]
 ·rw [if_neg (by decide),if_pos rfl,if_neg (by decide),if_pos rfl]
 ·rw [if_neg (by decide),if_neg (by decide),if_pos rfl,if_neg (by decide),if_neg (by decide),if_pos rfl]
 ·rw [if_neg (by decide),if_neg (by decide),if_neg (by decide),if_pos rfl,if_neg (by decide),if_neg (by decide),if_neg (by decide),if_pos rfl]

theorem right_end {order:List api_Entry} (hf:Few order) (ho:Ord order) (hol:order.length≤30) (a2:Int) {R:List api_Event} {reads:List Int} {m s:Int→Int} (h:RInv order 30 R reads m s):splicelaw24_AuditRight.j2 order a2 R reads false=some (.inr true):=by
 unfold splicelaw24_AuditRight.j2
 rw [if_neg (by decide)]
 have hrl:=h.rl
 have hlen:=h.len
 by_cases hr:(reads.length:Int)=0
 ·rw [if_pos hr,awake24];rfl
 ·rw [if_neg hr,if_pos hr]
  have hpl:=place a2 (reads.length:Int) (by omega) (by omega)
  rw [if_pos hpl]
  generalize Int.tmod (IntKind.wrap .i64 (Int.tmod a2 (reads.length:Int)+(reads.length:Int))) (reads.length:Int)=p at hpl ⊢
  have hmem:reads.getD p.toNat 0∈reads:=getD_in (by omega)
  obtain ⟨k,hk1,hk2,hk3⟩:=h.rd _ hmem
  unfold bnd
  rw [hk1]
  simp only []
  rw [if_pos (by omega),show ((k:Nat):Int).toNat=k from rfl]
  have j3:∀ C:api_Cell,cellB C=true→C.Some≠(R.getD k api_Event.z).Cell.Some→splicelaw24_AuditRight.j3 order (k:Int) (R.set k ⟨(R.getD k api_Event.z).Kind,(R.getD k api_Event.z).Client,(R.getD k api_Event.z).M,(R.getD k api_Event.z).Key,C,(R.getD k api_Event.z).Mark⟩)=some (.inr true):=by
   intro C h1 h2
   have ht:=turned h.z hk2 hk3 C h1 h2
   have hfv:FewV (R.set k ⟨(R.getD k api_Event.z).Kind,(R.getD k api_Event.z).Client,(R.getD k api_Event.z).M,(R.getD k api_Event.z).Key,C,(R.getD k api_Event.z).Mark⟩):=⟨by rw [List.length_set];omega,fun e he=>by
    rcases List.mem_or_eq_of_mem_set he with he | rfl
    ·exact h.prs e he
    ·exact h.prs (R.getD k api_Event.z) (getD_in hk2)⟩
   unfold splicelaw24_AuditRight.j3
   rw [(Check_eq ⟨hf,hol,hfv⟩).1 ho,List.length_set,ht,Option.bind_some,awake24,Option.bind_some,if_pos rfl,if_pos rfl]
   simp [fI,splicelaw24_AuditRight.j4]
  by_cases hs:(R.getD k api_Event.z).Cell.Some=true
  ·rw [if_pos hs]
   exact j3 ⟨0,false⟩ (by decide) (by rw [hs];decide)
  ·rw [if_neg hs]
   exact j3 ⟨1,true⟩ (by decide) (by simpa using hs)

theorem splicelaw24_AuditRight_true (order:List api_Entry) (story:List api_Event) (which:Int):splicelaw24_AuditRight order story which=some true:=by
 obtain ⟨r,f1,f2⟩:=few24 order story
 have stop:splicelaw24_AuditRight.j1 order story which true=some true:=by
  unfold splicelaw24_AuditRight.j1
  rw [if_pos rfl]
  exact out24
 unfold splicelaw24_AuditRight
 rw [f1,Option.bind_some]
 by_cases hr:r=true
 ·have st:=f2 hr
  have hl:=st.fv.len
  obtain ⟨s,o1,_,o3⟩:=Order_same order st.few
  rw [if_pos hr,o1,Option.bind_some]
  by_cases hs:s=true
  ·have ho:=o3.1 hs
   rw [hs]
   show splicelaw24_AuditRight.j1 order story which false=some true
   unfold splicelaw24_AuditRight.j1
   rw [if_neg (by decide),Entries_eq order (by have:=st.len;omega) (fun e he=>by have:=st.few.prs e he;omega),Option.bind_some]
   obtain ⟨w,q1,q2⟩:=for_post (step:=splicelaw24_AuditRight.step order story which (order.map trE)) (n:=story.length) (fun i (x:(List api_Event × List Int) × (Int→Int) × (Int→Int))=>RS i x.1.1 x.1.2 x.2.1 x.2.2) (fun i x=>RInv order i x.1.1 x.1.2 x.2.1 x.2.2) (fun r=>r=true) (by
    rintro ⟨⟨R,reads⟩,m,s⟩ h
    simp only at h
    have h30:RInv order 30 R reads m s:=⟨by have:=h.len;omega,by have:=h.rl;omega,h.prs,h.z,h.sq,h.mrk,h.rd⟩
    have hfv:=h30.fewv (Nat.le_refl _)
    refine ⟨true, ?_,rfl⟩
    simp only [RS,splicelaw24_AuditRight.step,splicelaw24_AuditRight.l1,Int.lt_irrefl,if_false]
    rw [(Check_eq ⟨st.few,st.len,hfv⟩).1 ho,Option.bind_some,findL_nil h.z _ (Nat.le_refl _),if_pos rfl]
    exact right_end st.few ho st.len which h30) (by
    rintro i ⟨⟨R,reads⟩,m,s⟩ hi h
    simp only at h
    left
    have hstep:(0:Int)≤(i:Int)∧(i:Int) < (story.length:Int):=by omega
    have hc:=place4 (story.getD i api_Event.z).Client
    simp only [RS,splicelaw24_AuditRight.step,splicelaw24_AuditRight.l1,hstep.2,if_true,hstep,and_self,show (i:Int).toNat=i from rfl,bnd]
    generalize Int.tmod (IntKind.wrap .i64 (Int.tmod ((story.getD i api_Event.z).Client) 4+4)) 4=c at hc ⊢
    by_cases k1:(story.getD i api_Event.z).Kind=1
    ·obtain ⟨R',s',e1,e2⟩:=right_issue st hi h hc
     refine ⟨((R',reads),m,s'), ?_,e2⟩
     rw [if_pos k1]
     rcases four hc.1 hc.2 with rfl | rfl | rfl | rfl
     ·rw [if_pos rfl];exact e1
     ·rw [if_neg (by decide),if_pos rfl];exact e1
     ·rw [if_neg (by decide),if_neg (by decide),if_pos rfl];exact e1
     ·rw [if_neg (by decide),if_neg (by decide),if_neg (by decide),if_pos rfl];exact e1
    ·obtain ⟨R',reads',e1,e2⟩:=right_read st ho hi h hc _ rfl
     refine ⟨((R',reads'),_,s), ?_,e2⟩
     rw [if_neg k1]
     simp only [iMax_max]
     rcases four hc.1 hc.2 with rfl | rfl | rfl | rfl
     ·rw [if_pos rfl];exact e1
     ·rw [if_neg (by decide),if_pos rfl];exact e1
     ·rw [if_neg (by decide),if_neg (by decide),if_pos rfl];exact e1
     ·rw [if_neg (by decide),if_neg (by decide),if_neg (by decide),if_pos rfl];exact e1) 0 (([],[]),(fun _=>0),(fun _=>0)) (Nat.zero_le _) (RInv.nil order)
   subst q2
   exact q1
  ·have:s=false:=by simpa using hs
   rw [this]
   exact stop
 ·rw [if_neg hr]
  exact stop
end Go.SyP
