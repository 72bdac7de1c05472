/- What audit.Blame says: its inner loop ranges over slices.Backward and is left by a break. Printed by blame.py. -/
import Derived.Test.YtdndobkfnmommaaGreatG24zCp2
import Derived.Test.YtdndobkfnmommaaGreatSyPast
import Derived.Test.YtdndobkfnmommaaGreatSyArr
import Derived.Test.YtdndobkfnmommaaGreatG24zBP
set_option linter.unusedVariables false
set_option linter.unusedSimpArgs false
namespace Go.SyP
open Go Go.Sy Go.Proofs
noncomputable section
def Qe9:Code:=Wi9 (Xh (Tryz.f9.body.getD .skip) [1,1,1,0,1,0,0,1,1,0,0,1,1,1,0] [])
def Qd1:Code:=Wg5 (Xh (Tryz.f9.body.getD .skip) [1,1,1,0,1,0,0,1,1,0,0,1,1,1,0] [])
abbrev KBl (n i:Nat):List Item:=Xh Qd1 (dgs 40 n [] ++ [i]) []
abbrev RB (l:Nat) (mark:Int) (out:List Qe) (one:List Qb):List Row:=
 [.loop l .ready 9 62 [5,8,11] [.ptr 1 0 0 0,.ptr 2 0 0 0,.ptr 4 0 0 0] #[40,41] Qe9 Qd1,.box 3 [.i mark],.box 22 [.own 3 9 0 out.length],.flat false 9 41 out.length (vec Qe.e Qe.z out),.box 34 [.d (.sl true one.length (vec Qb.e Qb.z one))]]
abbrev RF (l:Nat) (go:Bool) (mark:Int) (out:List Qe) (one:List Qb):List Row:=
 [bif go then .loop l .ready 9 62 [5,8,11] [.ptr 1 0 0 0,.ptr 2 0 0 0,.ptr 4 0 0 0] #[40,41] Qe9 Qd1 else .obj (Qpw l (.exit 2)),.box 3 [.i mark],.box 22 [.own 5 9 0 out.length],.gone,.box 34 [.d (.sl true one.length (vec Qb.e Qb.z one))],.flat false 9 41 out.length (vec Qe.e Qe.z out)]
theorem Wjm (l:Nat) (mark:Int) (out:List Qe) (one:List Qb):∀ r∈RB l mark out one,NR r:=fun r hr=>by
 simp only [RB,List.mem_cons,List.not_mem_nil,or_false] at hr
 rcases hr with rfl | rfl | rfl | rfl | rfl
 ·exact .loop (.cons (.ptr _ _ _ _) (.cons (.ptr _ _ _ _) (.cons (.ptr _ _ _ _) .nil)))
 ·exact .box (.cons (.d (.v _)) .nil)
 ·exact .box (.cons (.own _ _ _ _) .nil)
 ·exact Qat Qe.nl
 exact .box (.cons (.d (.sl fun _ _=>Qb.nl _)) .nil)
theorem Wap (l:Nat) (g:Bool) (mark:Int) (out:List Qe) (one:List Qb):∀ r∈RF l g mark out one,NR r:=fun r hr=>by
 simp only [RF,List.mem_cons,List.not_mem_nil,or_false] at hr
 rcases hr with rfl | rfl | rfl | rfl | rfl | rfl
 ·cases g
  ·exact .obj _
  exact .loop (.cons (.ptr _ _ _ _) (.cons (.ptr _ _ _ _) (.cons (.ptr _ _ _ _) .nil)))
 ·exact .box (.cons (.d (.v _)) .nil)
 ·exact .box (.cons (.own _ _ _ _) .nil)
 ·exact .gone
 ·exact .box (.cons (.d (.sl fun _ _=>Qb.nl _)) .nil)
 exact Qat Qe.nl
abbrev Qah.p0:List (Nat × AV):=[(8,.ptr 2 0 0 0),(13,.ptr 5 0 0 0)]
theorem Qah.Wv (l:Nat) (i:Int) (a0:Qe) (a1:List Qb) (a2:Int) (a3:List Qe) {r:Bool × List Qe} (H:Qah a0 a1 a2 a3=some r):
  Qna Tryz.prog l (RB l a2 a3 a1) (.i i) (.d (.agg (Qe.e a0))) (bif r.1 then RB l a2 r.2 a1 else RF l false a2 r.2 a1) r.1:=by
 refine Qx5 (by decide) (by decide) (by decide) fun X hP h0 hX=>?_
 have hT:Xo X.P T:=hP▸tok
 refine Qh hT 4 (.beginRound :: .code Qd1 :: []) ⟨62,[(5,.ptr 1 0 0 0),(8,.ptr 2 0 0 0),(11,.ptr 4 0 0 0),(13,.ptr 5 0 0 0)],[(.loop l .ready 9 62 [5,8,11] [.ptr 1 0 0 0,.ptr 2 0 0 0,.ptr 4 0 0 0] #[40,41] Qe9 Qd1),.box 3 [.i a2],.box 22 [.own 3 9 0 a3.length],Qb6 a3,.box 34 [.d (Wu true a1)],.box 41 (Qb2 a0)]⟩ ?_
 refine Qvy (st':=⟨62,[(5,.ptr 1 0 0 0),(8,.ptr 2 0 0 0),(11,.ptr 4 0 0 0),(13,.ptr 5 0 0 0)],[(.loop l .busy 9 62 [5,8,11] [.ptr 1 0 0 0,.ptr 2 0 0 0,.ptr 4 0 0 0] #[40,41] Qe9 Qd1),.box 3 [.i a2],.box 22 [.own 3 9 0 a3.length],Qb6 a3,.box 34 [.d (Wu true a1)],.box 41 (Qb2 a0)]⟩) 0 hX rfl rfl ?_
 have Yv:∀ (Qqn:Bool),(Qah.j1 a0 a3 Qqn)=some r->AK X 9 ((KBl 10 1)) (Qlw X (bif r.1 then RB l a2 r.2 a1 else RF l false a2 r.2 a1) r.1) ⟨62,(Qah.p0++[(54,.b Qqn)]),[(.loop l .busy 9 62 [5,8,11] [.ptr 1 0 0 0,.ptr 2 0 0 0,.ptr 4 0 0 0] #[40,41] Qe9 Qd1),.box 3 [.i a2],.box 22 [.own 3 9 0 a3.length],Qb6 a3,.box 34 [.d (Wu true a1)],.box 41 (Qb2 a0)]⟩:=by
  intro Qqn H
  by_cases c4:Qqn=true
  ·replace H:=iT c4 H
   rw [c4]
   refine Qh hT 2 (KBl 1010 0) ⟨62,(Qah.p0),[(.loop l .busy 9 62 [5,8,11] [.ptr 1 0 0 0,.ptr 2 0 0 0,.ptr 4 0 0 0] #[40,41] Qe9 Qd1),.box 3 [.i a2],.box 22 [.own 3 9 0 a3.length],Qb6 a3,.box 34 [.d (Wu true a1)],.box 41 (Qb2 a0)]⟩ ?_
   obtain ⟨v2,h5,H⟩:=ibC H
   refine Qcb (nt:=62) (hP▸mixed) 4 [3] [8,13] [(8,.ptr 2 0 0 0),(13,.ptr 5 0 0 0)] (sm [.own 3 9 0 a3.length,.d (Qdr a0),.d (Qdr v2),.own 6 9 0 1]) [[(.loop l .busy 9 62 [5,8,11] [.ptr 1 0 0 0,.ptr 2 0 0 0,.ptr 4 0 0 0] #[40,41] Qe9 Qd1),.box 3 [.i a2],.box 22 [.own 3 9 0 a3.length],Qb6 a3,.box 34 [.d (Wu true a1)],.box 41 (Qb2 a0)],[(.loop l .busy 9 62 [5,8,11] [.ptr 1 0 0 0,.ptr 2 0 0 0,.ptr 4 0 0 0] #[40,41] Qe9 Qd1),.box 3 [.i a2],.box 22 [.own 3 9 0 a3.length],Qb6 a3,.box 34 [.d (Wu true a1)],.box 41 (Qb2 a0),.flat false 9 41 1 (fun j=>[Qe.e v2].getD j [])]] (by kernel_rfl) (by kernel_rfl) (by kernel_rfl) (by kernel_rfl) ⟨(Qdt (Zu (We (We Qf2 hT) hT) (fun R rest h=>Zw (Yh:=[.d (Qdr a0)]) (dst:=some 57) hP Qoq (Qdo.Wv a0 h5) (by kernel_rfl) (.cons (Qp _) .nil) (by kernel_rfl) h))),(Qdg hT),(Qdt (Zu (We (We Qf2 hT) hT) (fun R rest h=>Zw (Yh:=[.d (Qdr a0)]) (dst:=some 57) hP Qoq (Qdo.Wv a0 h5) (by kernel_rfl) (.cons (Qp _) .nil) (by kernel_rfl) h)))⟩ ?_
   refine Qh hT 0 (KBl 10100 4) ⟨62,[(8,.ptr 2 0 0 0),(55,.own 3 9 0 a3.length),(58,.own 6 9 0 1)],[(.loop l .busy 9 62 [5,8,11] [.ptr 1 0 0 0,.ptr 2 0 0 0,.ptr 4 0 0 0] #[40,41] Qe9 Qd1),.box 3 [.i a2],.box 22 [.own 3 9 0 a3.length],Qb6 a3,.box 34 [.d (Wu true a1)],.box 41 (Qb2 a0),.flat false 9 41 1 (fun j=>[Qe.e v2].getD j [])]⟩ ?_
   obtain ⟨h6,H⟩:=iC H
   refine Qca (id:=3) (kk:=9) (by':=88) (t:=22) (e:=41) (z:=[.int .i64 0,.int .i64 0,.int .i64 0,.slice none 0 0,.int .i64 0,.int .i64 0,.int .i64 0,.int .i64 0,.bool false]) (dst:=some 59) (id2:=6) (e2:=41) (fz:=false) (k':=(KBl 10100 5)) hT Qe.e Qe.z a3 v2 [8,59] (by kernel_rfl) (by kernel_rfl) (by kernel_rfl) (by kernel_rfl) (by kernel_rfl) (by kernel_rfl) (by kernel_rfl) h6 (by omega) (st':=⟨62,[(8,.ptr 2 0 0 0),(59,.own 7 9 0 ((a3 ++ [v2]).length))],[(.loop l .busy 9 62 [5,8,11] [.ptr 1 0 0 0,.ptr 2 0 0 0,.ptr 4 0 0 0] #[40,41] Qe9 Qd1),.box 3 [.i a2],.box 22 [.own 3 9 0 a3.length],.gone,.box 34 [.d (Wu true a1)],.box 41 (Qb2 a0),.flat false 9 41 1 (fun j=>[Qe.e v2].getD j []),Qb6 (a3 ++ [v2])]⟩) (by kernel_rfl) ?_
   refine Qh hT 2 (KBl 1010 1) ⟨62,[],[(.loop l .busy 9 62 [5,8,11] [.ptr 1 0 0 0,.ptr 2 0 0 0,.ptr 4 0 0 0] #[40,41] Qe9 Qd1),.box 3 [.i a2],.box 22 [.own 7 9 0 ((a3 ++ [v2]).length)],.gone,.box 34 [.d (Wu true a1)],.box 41 (Qb2 a0),.flat false 9 41 1 (fun j=>[Qe.e v2].getD j []),Qb6 (a3 ++ [v2])]⟩ ?_
   obtain rfl:=Yi H
   refine Qmq [] [0,1,2,3,4,7] (st':=⟨62,[],[.loop l .busy 9 62 [5,8,11] [.ptr 1 0 0 0,.ptr 2 0 0 0,.ptr 4 0 0 0] #[40,41] Qe9 Qd1,.box 3 [.i a2],.box 22 [.own 5 9 0 (a3 ++ [v2]).length],.gone,.box 34 [.d (.sl true a1.length (vec Qb.e Qb.z a1))],.flat false 9 41 (a3 ++ [v2]).length (vec Qe.e Qe.z (a3 ++ [v2]))]⟩) (by kernel_rfl) (by kernel_rfl) rfl (by decide) (by rw [h0];rfl) ?_
   exact Qv3 0 hX (by kernel_rfl) rfl rfl (Wap _ _ _ _ _)
  replace H:=iF c4 H
  rw [Jk c4]
  refine Qh hT 3 [] ⟨62,[],[(.loop l .busy 9 62 [5,8,11] [.ptr 1 0 0 0,.ptr 2 0 0 0,.ptr 4 0 0 0] #[40,41] Qe9 Qd1),.box 3 [.i a2],.box 22 [.own 3 9 0 a3.length],Qb6 a3,.box 34 [.d (Wu true a1)],.box 41 (Qb2 a0)]⟩ ?_
  obtain rfl:=Yi H
  refine Qmq [] [0,1,2,3,4] (st':=⟨62,[],[.loop l .busy 9 62 [5,8,11] [.ptr 1 0 0 0,.ptr 2 0 0 0,.ptr 4 0 0 0] #[40,41] Qe9 Qd1,.box 3 [.i a2],.box 22 [.own 3 9 0 (a3).length],.flat false 9 41 (a3).length (vec Qe.e Qe.z (a3)),.box 34 [.d (.sl true a1.length (vec Qb.e Qb.z a1))]]⟩) (by kernel_rfl) (by kernel_rfl) rfl (by decide) (by rw [h0];rfl) ?_
  exact Qv2 0 hX rfl rfl (Wjm _ _ _ _)
 refine Qh hT 6 (KBl 100 3) ⟨62,[(5,.ptr 1 0 0 0),(8,.ptr 2 0 0 0),(11,.ptr 4 0 0 0),(13,.ptr 5 0 0 0),(44,.b a0.Qai)],[(.loop l .busy 9 62 [5,8,11] [.ptr 1 0 0 0,.ptr 2 0 0 0,.ptr 4 0 0 0] #[40,41] Qe9 Qd1),.box 3 [.i a2],.box 22 [.own 3 9 0 a3.length],Qb6 a3,.box 34 [.d (Wu true a1)],.box 41 (Qb2 a0)]⟩ ?_
 by_cases c1:a0.Qai=true
 ·replace H:=iT c1 H
  rw [c1]
  refine Qh hT 6 (KBl 100 9) ⟨62,[(8,.ptr 2 0 0 0),(11,.ptr 4 0 0 0),(13,.ptr 5 0 0 0),(50,.b (decide (a0.Time<=a2)))],[(.loop l .busy 9 62 [5,8,11] [.ptr 1 0 0 0,.ptr 2 0 0 0,.ptr 4 0 0 0] #[40,41] Qe9 Qd1),.box 3 [.i a2],.box 22 [.own 3 9 0 a3.length],Qb6 a3,.box 34 [.d (Wu true a1)],.box 41 (Qb2 a0)]⟩ ?_
  by_cases c2:a0.Time<=a2
  ·replace H:=iT c2 H
   rw [decide_eq_true c2]
   refine Qh hT 2 (KBl 100 11) ⟨62,(Qah.p0++[(50,.b true),(51,.d (Qdr a0)),(52,.d (Wu true a1))]),[(.loop l .busy 9 62 [5,8,11] [.ptr 1 0 0 0,.ptr 2 0 0 0,.ptr 4 0 0 0] #[40,41] Qe9 Qd1),.box 3 [.i a2],.box 22 [.own 3 9 0 a3.length],Qb6 a3,.box 34 [.d (Wu true a1)],.box 41 (Qb2 a0)]⟩ ?_
   obtain ⟨v1,h3,H⟩:=ibC H
   refine Wx (Yh:=[.d (Qdr a0),.d (Wu true a1)]) (dst:=some 53) (k':=(KBl 100 12)) [8,13,50,53] [] hP Qop (Qdv.Wv (t1:=true) a0 a1 h3) (by kernel_rfl) (Wh _) (.cons (Qp _) (.cons (Qp _) .nil)) (st':=⟨62,(Qah.p0++[(50,.b true),(53,.b v1)]),[(.loop l .busy 9 62 [5,8,11] [.ptr 1 0 0 0,.ptr 2 0 0 0,.ptr 4 0 0 0] #[40,41] Qe9 Qd1),.box 3 [.i a2],.box 22 [.own 3 9 0 a3.length],Qb6 a3,.box 34 [.d (Wu true a1)],.box 41 (Qb2 a0)]⟩) (by kernel_rfl) ?_
   refine Qh hT 2 (KBl 10 1) ⟨62,(Qah.p0++[(54,.b v1)]),[(.loop l .busy 9 62 [5,8,11] [.ptr 1 0 0 0,.ptr 2 0 0 0,.ptr 4 0 0 0] #[40,41] Qe9 Qd1),.box 3 [.i a2],.box 22 [.own 3 9 0 a3.length],Qb6 a3,.box 34 [.d (Wu true a1)],.box 41 (Qb2 a0)]⟩ ?_
   exact Yv v1 H
  replace H:=iF c2 H
  rw [decide_eq_false c2]
  refine Qh hT 5 (KBl 10 1) ⟨62,(Qah.p0++[(54,.b false)]),[(.loop l .busy 9 62 [5,8,11] [.ptr 1 0 0 0,.ptr 2 0 0 0,.ptr 4 0 0 0] #[40,41] Qe9 Qd1),.box 3 [.i a2],.box 22 [.own 3 9 0 a3.length],Qb6 a3,.box 34 [.d (Wu true a1)],.box 41 (Qb2 a0)]⟩ ?_
  exact Yv false H
 replace H:=iF c1 H
 rw [Jk c1]
 refine Qh hT 11 (KBl 10 1) ⟨62,(Qah.p0++[(54,.b false)]),[(.loop l .busy 9 62 [5,8,11] [.ptr 1 0 0 0,.ptr 2 0 0 0,.ptr 4 0 0 0] #[40,41] Qe9 Qd1),.box 3 [.i a2],.box 22 [.own 3 9 0 a3.length],Qb6 a3,.box 34 [.d (Wu true a1)],.box 41 (Qb2 a0)]⟩ ?_
 exact Yv false H
theorem Qwm (l:Nat) (mark:Int) (out:List Qe) (one:List Qb):Qby (RB l mark out one) [0,1,2,3,4] (RB l mark out one):=Qsm rfl rfl rfl rfl rfl (by decide) rfl rfl rfl rfl rfl
abbrev bA (xs:List Qe):DV:=.rop false 1 (fun _=>[.sl true xs.length (vec Qe.e Qe.z xs)]) 0 0
abbrev K62 (p:List Nat):List Item:=Xh (Tryz.f62.body.getD .skip) p []
theorem Wip (l:Nat) (xs:List Qe) (one:List Qb) (mark:Int) (Wgb:List Qe) {r:Bool × List Qe} (hx:xs.length * 88<=140737488355328) (H0:Qd6 one mark Wgb xs.reverse=some r):
  Zd Tryz.prog 62 (RB l mark Wgb one) [.d (.v (.func (.yield l) #[] #[])),.d (bA xs)] (RF l r.1 mark r.2 one) (.Qo []):=by
 refine Ye Tryz.func62 rfl (nt:=19) rfl (lb rfl) fun X hP h0 hX=>?_
 have hT:Xo X.P T:=hP▸tok
 have hf:X.P.funcs[62]? = some Tryz.f62:=hP▸Tryz.func62
 have L:∀ (m:Nat) (i:Int) (out:List Qe),i=(m:Int) - 1->m<=xs.length->Qd6 one mark out (xs.take m).reverse=some r ->
   AK X 62 (K62 [1,0,0]) (Yq X (RF l r.1 mark r.2 one) (.Qo [])) ⟨19,[(0,.d (.v (.func (.yield l) #[] #[]))),(1,.d (bA xs)),(3,.i i)],RB l mark out one⟩:=by
  intro m
  induction m with
  | zero=>
   intro i out hi hm H
   simp only [List.take_zero,List.reverse_nil,Qd6,Option.some.injEq] at H
   subst H
   refine Qh hT 6 (K62 [1,0,0,0,1]) ⟨19,[(0,.d (.v (.func (.yield l) #[] #[]))),(1,.d (bA xs)),(3,.i i),(8,.b (decide (i>=0)))],RB l mark out one⟩ ?_
   rw [decide_eq_false (show ¬ i>=0 by omega)]
   refine Qh hT 2 [] ⟨19,[],RB l mark out one⟩ ?_
   refine Qlb 3 (r:=.flat false 9 41 out.length (vec Qe.e Qe.z out)) rfl rfl (st':=⟨19,[],RF l true mark out one⟩) (by kernel_rfl) (by kernel_rfl) rfl ?_
   exact Wbi hf hX (av:=.Qo []) (by kernel_rfl) [0,1,2,3,4,5] (Jq (by kernel_rfl)) (by decide) (by rw [h0];rfl) (by kernel_rfl) (Wap _ _ _ _ _) (.Qo .nil)
  | succ m ih=>
   intro i out hi hm H
   have hlt:m < xs.length:=hm
   have ht:(xs.take (m+1)).reverse=xs.getD m Qe.z :: (xs.take m).reverse:=by
    rw [List.take_add_one]
    simp [hlt]
   rw [ht] at H
   simp only [Qd6] at H
   obtain ⟨v,hv,H⟩:=Option.bind_eq_some_iff.1 H
   have hi2:i=(m:Int):=by omega
   subst hi2
   refine Qh hT 6 (K62 [1,0,0,0,1]) ⟨19,[(0,.d (.v (.func (.yield l) #[] #[]))),(1,.d (bA xs)),(3,.i (m:Int)),(8,.b (decide ((m:Int)>=0)))],RB l mark out one⟩ ?_
   rw [decide_eq_true (show (m:Int)>=0 by omega)]
   refine Qh hT 10 (K62 [1,0,0,1,0,0,0,4]) ⟨19,[(0,.d (.v (.func (.yield l) #[] #[]))),(1,.d (bA xs)),(3,.i (m:Int)),(11,.d (.v (.func (.yield l) #[] #[]))),(12,.i (m:Int)),(13,.d (.sl true xs.length (vec Qe.e Qe.z xs))),(14,.i (m:Int))],RB l mark out one⟩ ?_
   refine Zv hT [0,1,3,11,12,15] (i:=(m:Int)) (n:=(xs.length:Int)) (by omega) (by omega) (k':=K62 [1,0,0,1,0,0,0,5]) (st':=⟨19,[(0,.d (.v (.func (.yield l) #[] #[]))),(1,.d (bA xs)),(3,.i (m:Int)),(11,.d (.v (.func (.yield l) #[] #[]))),(12,.i (m:Int)),(15,.d (.rop true xs.length (vec Qe.e Qe.z xs) (m:Int).toNat 0))],RB l mark out one⟩) (by kernel_rfl) ?_
   refine Qh hT 1 (K62 [1,0,0,1,0,0,0,6]) ⟨19,[(0,.d (.v (.func (.yield l) #[] #[]))),(1,.d (bA xs)),(3,.i (m:Int)),(11,.d (.v (.func (.yield l) #[] #[]))),(12,.i (m:Int)),(16,.d (.agg (Qe.e (xs.getD (m:Int).toNat Qe.z))))],RB l mark out one⟩ ?_
   have Qmz:=Qah.Wv l (m:Int) (xs.getD m Qe.z) one mark out hv
   obtain ⟨v1,v2⟩:=v
   cases v1 with
   | false=>
    simp only [Bool.false_eq_true,if_false,Option.some.injEq] at H
    subst H
    refine Qt4 (av:=.i (m:Int)) (bv:=.d (.agg (Qe.e (xs.getD (m:Int).toNat Qe.z)))) (go:=false) (dst:=some 17) (k':=K62 [1,0,0,1,0,0,0,7]) [0,1,3,17] [0,1,2,3,4] hP Qmz (by kernel_rfl) (Qwm l mark out one) (.cons (Qp _) (.cons (Qp _) .nil))
     (st':=⟨19,[(0,.d (.v (.func (.yield l) #[] #[]))),(1,.d (bA xs)),(3,.i (m:Int)),(17,.b false)],RF l false mark v2 one⟩) (by kernel_rfl) ?_
    refine Qh hT 3 (K62 [1,0,0,1,0,0,1,0]) ⟨19,[],RF l false mark v2 one⟩ ?_
    exact Qeq hf hX (av:=.Qo []) (by kernel_rfl) [0,1,2,3,4,5] (Jq (by kernel_rfl)) (by decide) (by rw [h0];rfl) (by kernel_rfl) (Wap _ _ _ _ _) (.Qo .nil)
   | true=>
    simp only [if_true] at H
    refine Qt4 (av:=.i (m:Int)) (bv:=.d (.agg (Qe.e (xs.getD (m:Int).toNat Qe.z)))) (go:=true) (dst:=some 17) (k':=K62 [1,0,0,1,0,0,0,7]) [0,1,3,17] [0,1,2,3,4] hP Qmz (by kernel_rfl) (Qwm l mark out one) (.cons (Qp _) (.cons (Qp _) .nil))
     (st':=⟨19,[(0,.d (.v (.func (.yield l) #[] #[]))),(1,.d (bA xs)),(3,.i (m:Int)),(17,.b true)],RB l mark v2 one⟩) (by kernel_rfl) ?_
    refine Qh hT 11 (K62 [1,0,0]) ⟨19,[(0,.d (.v (.func (.yield l) #[] #[]))),(1,.d (bA xs)),(3,.i (IntKind.wrap .i64 ((m:Int) - 1)))],RB l mark v2 one⟩ ?_
    have hw:IntKind.wrap .i64 ((m:Int) - 1)=(m:Int) - 1:=by simp [IntKind.wrap,IntKind.bits,IntKind.signed];omega
    exact ih _ _ hw (by omega) H
 refine Qh hT 9 (K62 [1,0,0]) ⟨19,[(0,.d (.v (.func (.yield l) #[] #[]))),(1,.d (bA xs)),(3,.i (IntKind.wrap .i64 ((xs.length:Int) - 1)))],RB l mark Wgb one⟩ ?_
 have hw:IntKind.wrap .i64 ((xs.length:Int) - 1)=(xs.length:Int) - 1:=by simp [IntKind.wrap,IntKind.bits,IntKind.signed];omega
 exact L xs.length _ _ hw (Nat.le_refl _) (by rw [List.take_length];exact H0)
abbrev Zm.p0 (a0:List Qe):List (Nat × AV):=[(0,.d (Xj true a0)),(5,.ptr 1 0 0 0),(8,.ptr 2 0 0 0)]
theorem Zm.Wv (a0:List Qe) (a1:List Qb) (a2:Int) {r:(List Qe) × Int} (H:Zm a0 a1 a2=some r):Zd Tryz.prog 9 [] [.d (Xj true a0),.d (Wu true a1),.i a2] [Qb6 r.1] (.Qo [.own 0 9 0 r.1.length,.i r.2]):=by
 refine Ye Tryz.func9 rfl (nt:=62) rfl (lb rfl) fun X hP h0 hX=>?_
 have hT:Xo X.P T:=hP▸tok
 have hf:X.P.funcs[9]? = some Tryz.f9:=hP▸Tryz.func9
 refine Qh hT 10 (K9 1100 1) ⟨62,[(0,.d (Xj true a0)),(1,.d (Wu true a1)),(5,.ptr 0 0 0 0),(14,.d (Xj true a0))],[.box 3 [.i a2]]⟩ ?_
 obtain ⟨v1,h1,H⟩:=ibC H
 have Yv:∀ (Qc9:Bool),(Zm.j1 a0 a1 a2 Qc9)=some r->AK X 9 ((K9 110 1)) (Yq X [Qb6 r.1] (.Qo [.own 0 9 0 r.1.length,.i r.2])) ⟨62,[(0,.d (Xj true a0)),(1,.d (Wu true a1)),(5,.ptr 0 0 0 0),(21,.b Qc9)],[.box 3 [.i a2]]⟩:=by
  intro Qc9 H
  by_cases c4:Qc9=true
  ·replace H:=iT c4 H
   rw [c4]
   refine Qh hT 6 (K9 11010 1) ⟨62,[(6,.ns),(7,.i 1)],[.box 3 [.i a2]]⟩ ?_
   refine Qb8 [6,7] 6 9 41 (vec Qe.e Qe.z []) (st':=⟨62,[(6,.own 1 9 0 0),(7,.i 1)],[.box 3 [.i a2],Qb6 ([]:List Qe)]⟩) (by kernel_rfl) (by kernel_rfl) ?_
   obtain rfl:=Yi H
   exact Ym hf hX h0 (.Qo [.own 1 9 0 0,.i 1]) [1] (ac (Qat Qe.nl) an) (.Qo (.cons (.own _ _ _ _) (.cons (.d (.v _)) .nil)))
  replace H:=iF c4 H
  rw [Jk c4]
  refine Qh hT 2 (K9 11 1) ⟨62,[(0,.d (Xj true a0)),(1,.d (Wu true a1)),(5,.ptr 0 0 0 0)],[.box 3 [.i a2]]⟩ ?_
  refine Qh hT 2 (K9 1110 0) ⟨62,[(0,.d (Xj true a0)),(1,.d (Wu true a1)),(5,.ptr 0 0 0 0)],[.box 3 [.i a2]]⟩ ?_
  obtain ⟨gD,hgD⟩:∃ x,x=([]:List Nat):=⟨_,rfl⟩
  refine Whb ?_
  refine Qxv hX hgD ?_
  refine Qmr [0,1,5] (st':=⟨62,[(0,.d (Xj true a0)),(1,.d (Wu true a1)),(5,.ptr 0 0 0 0)],[.box 3 [.i a2],.obj (Qcc gD gD)]⟩) (by rw [hgD];kernel_rfl) ?_
  have hT:Xo (X.marks gD).P T:=hT
  have hP:(X.marks gD).P=Tryz.prog:=hP
  have h0:(X.marks gD).μ0.length=0:=h0
  refine Qh hT 8 (K9 111100 3) ⟨62,[(0,.d (Xj true a0)),(5,.ptr 0 0 0 0),(8,.ptr 2 0 0 0),(22,.d (Xj true a0)),(23,.d (Wu true a1)),(24,.i a2)],[.box 3 [.i a2],.obj (Qcc gD gD),.box 22 [.ns]]⟩ ?_
  obtain ⟨v3,h5,H⟩:=ibC H
  refine Wx (Yh:=[.d (Xj true a0),.d (Wu true a1),.i a2]) (dst:=some 25) (k':=(K9 111100 4)) [0,5,8,25] [] hP Quc (Yy.Wv (t0:=true) a0 a1 a2 h5) (by kernel_rfl) (Wh _) (.cons (Qp _) (.cons (Qp _) (.cons (Qp _) .nil))) (st':=⟨62,[(0,.d (Xj true a0)),(5,.ptr 0 0 0 0),(8,.ptr 2 0 0 0),(25,.own 3 2 0 v3.length)],[.box 3 [.i a2],.obj (Qcc gD gD),.box 22 [.ns],Xk v3]⟩) (by kernel_rfl) ?_
  refine Qh hT 5 (K9 1111010 0) ⟨62,[(0,.d (Xj true a0)),(5,.ptr 0 0 0 0),(8,.ptr 2 0 0 0),(25,.own 3 2 0 v3.length),(26,.i (v3.length:Int)),(27,.i 0)],[.box 3 [.i a2],.obj (Qcc gD gD),.box 22 [.ns],Xk v3]⟩ ?_
  refine Qom (tb:=22) (cs:=[.ns]) 2 0 9 41 (vec Qe.e Qe.z []) (st':=⟨62,[(0,.d (Xj true a0)),(5,.ptr 0 0 0 0),(8,.ptr 2 0 0 0),(25,.own 3 2 0 v3.length),(26,.i (v3.length:Int)),(27,.i 0)],[.box 3 [.i a2],.obj (Qcc gD gD),.box 22 [.own 4 9 0 0],Xk v3,Qb6 ([]:List Qe)]⟩) (by kernel_rfl) (by kernel_rfl) ?_
  have L:∀ n,(∀ (Jp:Int) (Yr:List Qe) (gD:List Nat),iter (Zm.step a0 a2 v3) n (.l1 Jp Yr)=some r->AK (X.marks gD) 9 ((K9 1111010 0)) (Yq X [Qb6 r.1] (.Qo [.own 0 9 0 r.1.length,.i r.2])) ⟨62,(Zm.p0 a0++[(25,.own 4 2 0 v3.length),(26,.i (v3.length:Int)),(27,.i Jp)]),[.obj (Qcc gD gD),.box 3 [.i a2],.box 22 [.own 3 9 0 Yr.length],Qb6 Yr,Xk v3]⟩):=by
   intro n
   induction n with
   | zero=>exact fun _ _ _ H=>Qay H
   | succ n ih=>
    ·intro Jp Yr gD H
     have hT:Xo (X.marks gD).P T:=hT
     have hP:(X.marks gD).P=Tryz.prog:=hP
     have h0:(X.marks gD).μ0.length=0:=h0
     refine Qh hT 5 (K9 111101001 0) ⟨62,(Zm.p0 a0++[(25,.own 4 2 0 v3.length),(26,.i (v3.length:Int)),(27,.i Jp),(28,.b (decide (Jp < (v3.length:Int))))]),[.obj (Qcc gD gD),.box 3 [.i a2],.box 22 [.own 3 9 0 Yr.length],Qb6 Yr,Xk v3]⟩ ?_
     by_cases c6:Jp < (v3.length:Int)
     ·replace H:=sT c6 H
      rw [decide_eq_true c6]
      refine Qh hT 2 (K9 111101001 1) ⟨62,(Zm.p0 a0++[(25,.own 4 2 0 v3.length),(26,.i (v3.length:Int)),(27,.i Jp)]),[.obj (Qcc gD gD),.box 3 [.i a2],.box 22 [.own 3 9 0 Yr.length],Qb6 Yr,Xk v3]⟩ ?_
      refine Qh hT 4 (K9 1111010011000 0) ⟨62,(Zm.p0 a0++[(25,.own 4 2 0 v3.length),(26,.i (v3.length:Int)),(27,.i Jp)]),[.obj (Qcc gD gD),.box 3 [.i a2],.box 22 [.own 3 9 0 Yr.length],Qb6 Yr,Xk v3]⟩ ?_
      obtain ⟨h7,H⟩:=sC H
      refine Zv hT [0,5,8,25,26,27,29] (i:=Jp) (n:=(v3.length:Int)) h7.1 h7.2 (k':=(K9 1111010011000 1)) (st':=⟨62,(Zm.p0 a0++[(25,.own 4 2 0 v3.length),(26,.i (v3.length:Int)),(27,.i Jp),(29,.ptr 4 2 Jp.toNat 0)]),[.obj (Qcc gD gD),.box 3 [.i a2],.box 22 [.own 3 9 0 Yr.length],Qb6 Yr,Xk v3]⟩) (by kernel_rfl) ?_
      refine Qr7 hT [0,5,8,25,26,27,30] (i:=Jp.toNat) (n:=v3.length) (ltN h7.1 h7.2) (k':=(K9 1111010011000 2)) (st':=⟨62,(Zm.p0 a0++[(25,.own 4 2 0 v3.length),(26,.i (v3.length:Int)),(27,.i Jp),(30,.d (Qf0 (v3.getD Jp.toNat Qa.z)))]),[.obj (Qcc gD gD),.box 3 [.i a2],.box 22 [.own 3 9 0 Yr.length],Qb6 Yr,Xk v3]⟩) (by kernel_rfl) ?_
      refine Qh hT 18 (K9 111101001100110 1) ⟨62,(Zm.p0 a0++[(11,.ptr 7 0 0 0),(25,.own 4 2 0 v3.length),(26,.i (v3.length:Int)),(27,.i Jp),(38,.d (Xj true a0))]),[.obj (Qcc gD gD),.box 3 [.i a2],.box 22 [.own 3 9 0 Yr.length],Qb6 Yr,Xk v3,.box 81 (Qcd (v3.getD Jp.toNat Qa.z)),.flat false 2 33 1 (fun j=>[[.i ((v3.getD Jp.toNat Qa.z).Key),.i (IntKind.wrap .i64 (((v3.getD Jp.toNat Qa.z).Key)+1))]].getD j []),.box 34 [.own 6 2 0 1]]⟩ ?_
      refine Wx (Yh:=[.d (Xj true a0)]) (dst:=some 39) (k':=(K9 111101001100110 2)) [0,5,8,11,25,26,27,39] [] hP Wb1 (Wgo a0) (by kernel_rfl) (Wh _) (.cons (Qp _) .nil) (st':=⟨62,(Zm.p0 a0++[(11,.ptr 7 0 0 0),(25,.own 4 2 0 v3.length),(26,.i (v3.length:Int)),(27,.i Jp),(39,.fn 62 [.ptr 8 0 0 0])]),[.obj (Qcc gD gD),.box 3 [.i a2],.box 22 [.own 3 9 0 Yr.length],Qb6 Yr,Xk v3,.box 81 (Qcd (v3.getD Jp.toNat Qa.z)),.flat false 2 33 1 (fun j=>[[.i ((v3.getD Jp.toNat Qa.z).Key),.i (IntKind.wrap .i64 (((v3.getD Jp.toNat Qa.z).Key)+1))]].getD j []),.box 34 [.own 6 2 0 1],.box 22 [.d (Xj true a0)]]⟩) (by kernel_rfl) ?_
      refine Qfd 6 (kk:=2) (fz:=false) (ty:=33) (n:=([(⟨(v3.getD Jp.toNat Qa.z).Key,IntKind.wrap .i64 (((v3.getD Jp.toNat Qa.z).Key)+1)⟩:Qb)]:List Qb).length) (vec Qb.e Qb.z ([(⟨(v3.getD Jp.toNat Qa.z).Key,IntKind.wrap .i64 (((v3.getD Jp.toNat Qa.z).Key)+1)⟩:Qb)]:List Qb)) (by kernel_rfl) Qep (st':=⟨62,(Zm.p0 a0++[(11,.ptr 7 0 0 0),(25,.own 4 2 0 v3.length),(26,.i (v3.length:Int)),(27,.i Jp),(39,.fn 62 [.ptr 8 0 0 0])]),[.obj (Qcc gD gD),.box 3 [.i a2],.box 22 [.own 3 9 0 Yr.length],Qb6 Yr,Xk v3,.box 81 (Qcd (v3.getD Jp.toNat Qa.z)),Qav ([(⟨(v3.getD Jp.toNat Qa.z).Key,IntKind.wrap .i64 (((v3.getD Jp.toNat Qa.z).Key)+1)⟩:Qb)]:List Qb),.box 34 [.own 6 2 0 1],.box 22 [.d (Xj true a0)]]⟩) (by kernel_rfl) ?_
      refine Qcf 6 (kk:=2) (n:=([(⟨(v3.getD Jp.toNat Qa.z).Key,IntKind.wrap .i64 (((v3.getD Jp.toNat Qa.z).Key)+1)⟩:Qb)]:List Qb).length) (ty:=33) (g:=vec Qb.e Qb.z ([(⟨(v3.getD Jp.toNat Qa.z).Key,IntKind.wrap .i64 (((v3.getD Jp.toNat Qa.z).Key)+1)⟩:Qb)]:List Qb)) (by kernel_rfl) (st':=⟨62,(Zm.p0 a0++[(11,.ptr 7 0 0 0),(25,.own 4 2 0 v3.length),(26,.i (v3.length:Int)),(27,.i Jp),(39,.fn 62 [.ptr 8 0 0 0])]),[.obj (Qcc gD gD),.box 3 [.i a2],.box 22 [.own 3 9 0 Yr.length],Qb6 Yr,Xk v3,.box 81 (Qcd (v3.getD Jp.toNat Qa.z)),Qb9 ([(⟨(v3.getD Jp.toNat Qa.z).Key,IntKind.wrap .i64 (((v3.getD Jp.toNat Qa.z).Key)+1)⟩:Qb)]:List Qb),.box 34 [.own 6 2 0 1],.box 22 [.d (Xj true a0)]]⟩) (by kernel_rfl) ?_
      refine Qr9 7 (ty:=34) (xs:=[.own 6 2 0 1]) (ys:=[Wu true ([(⟨(v3.getD Jp.toNat Qa.z).Key,IntKind.wrap .i64 (((v3.getD Jp.toNat Qa.z).Key)+1)⟩:Qb)]:List Qb)]) (by kernel_rfl) (.cons (.own (ty:=33) (k:=2) (by kernel_rfl)) .nil) (st':=⟨62,(Zm.p0 a0++[(11,.ptr 7 0 0 0),(25,.own 4 2 0 v3.length),(26,.i (v3.length:Int)),(27,.i Jp),(39,.fn 62 [.ptr 8 0 0 0])]),[.obj (Qcc gD gD),.box 3 [.i a2],.box 22 [.own 3 9 0 Yr.length],Qb6 Yr,Xk v3,.box 81 (Qcd (v3.getD Jp.toNat Qa.z)),Qb9 ([(⟨(v3.getD Jp.toNat Qa.z).Key,IntKind.wrap .i64 (((v3.getD Jp.toNat Qa.z).Key)+1)⟩:Qb)]:List Qb),.box 34 [.d (Wu true ([(⟨(v3.getD Jp.toNat Qa.z).Key,IntKind.wrap .i64 (((v3.getD Jp.toNat Qa.z).Key)+1)⟩:Qb)]:List Qb))],.box 22 [.d (Xj true a0)]]⟩) (by kernel_rfl) ?_
      refine Qh hT 2 (K9 111101001100111 0) ⟨62,(Zm.p0 a0++[(11,.ptr 7 0 0 0),(25,.own 4 2 0 v3.length),(26,.i (v3.length:Int)),(27,.i Jp),(39,.fn 62 [.ptr 8 0 0 0])]),[.obj (Qcc gD gD),.box 3 [.i a2],.box 22 [.own 3 9 0 Yr.length],Qb6 Yr,Xk v3,.box 81 (Qcd (v3.getD Jp.toNat Qa.z)),Qb9 ([(⟨(v3.getD Jp.toNat Qa.z).Key,IntKind.wrap .i64 (((v3.getD Jp.toNat Qa.z).Key)+1)⟩:Qb)]:List Qb),.box 34 [.d (Wu true ([(⟨(v3.getD Jp.toNat Qa.z).Key,IntKind.wrap .i64 (((v3.getD Jp.toNat Qa.z).Key)+1)⟩:Qb)]:List Qb))],.box 22 [.d (Xj true a0)]]⟩ ?_
      obtain ⟨h8,H⟩:=sC H
      obtain ⟨v4,h9,H⟩:=sbC H
      refine Qu2 (X:=X) (P:=Tryz.prog) (f:=9) (g:=62) (fop:=.tmp 39) (p:=40) (q:=41) (asg:=Qe9) (body:=Qd1) (k:=(.inBlock 1 :: (K9 1111010011 1))) (caps:=[.ptr 8 0 0 0]) (ret:=.Qo []) (jd:=2) v4.1 gD [5,8,11] [.ptr 1 0 0 0,.ptr 2 0 0 0,.ptr 7 0 0 0] [.ptr 1 0 0 0,.ptr 2 0 0 0,.ptr 7 0 0 0] [10,1,2,3,7] (fun l=>RB l a2 Yr ([(⟨(v3.getD Jp.toNat Qa.z).Key,IntKind.wrap .i64 (((v3.getD Jp.toNat Qa.z).Key)+1)⟩:Qb)]:List Qb)) (fun l=>RF l v4.1 a2 v4.2 ([(⟨(v3.getD Jp.toNat Qa.z).Key,IntKind.wrap .i64 (((v3.getD Jp.toNat Qa.z).Key)+1)⟩:Qb)]:List Qb)) (fun l=>[.d (.v (.func (.yield l) #[] #[])),.d (bA a0)]) hP hX (by kernel_rfl) Wch (by kernel_rfl) (fun l=>Wip l a0 ([(⟨(v3.getD Jp.toNat Qa.z).Key,IntKind.wrap .i64 (((v3.getD Jp.toNat Qa.z).Key)+1)⟩:Qb)]:List Qb) a2 Yr h8 h9) (by kernel_rfl) (fun D=>Qsm rfl rfl rfl rfl rfl (by decide) rfl rfl rfl rfl rfl) (fun D=>.cons (Qp _) (.cons (.look (ty:=22) (cs:=[.sl true a0.length (vec Qe.e Qe.z a0)]) (by kernel_rfl) rfl) .nil)) (fun e D=>by rw [e];kernel_rfl) (fun e D=>by rw [e];kernel_rfl) fun d3=>?_
      refine Wim 0 9 (D:=d3) (A:=gD) (O:=gD) (by kernel_rfl) (by kernel_rfl) (st':=⟨62,(Zm.p0 a0++[(11,.ptr 7 0 0 0),(25,.own 4 2 0 v3.length),(26,.i (v3.length:Int)),(27,.i Jp),(39,.fn 62 [.ptr 8 0 0 0])]),[.obj (Qcc (d3 :: gD) (d3 :: gD)),.box 3 [.i a2],.box 22 [.own 11 9 0 v4.2.length],.gone,Xk v3,.box 81 (Qcd (v3.getD Jp.toNat Qa.z)),Qb9 ([(⟨(v3.getD Jp.toNat Qa.z).Key,IntKind.wrap .i64 (((v3.getD Jp.toNat Qa.z).Key)+1)⟩:Qb)]:List Qb),.box 34 [.d (Wu true ([(⟨(v3.getD Jp.toNat Qa.z).Key,IntKind.wrap .i64 (((v3.getD Jp.toNat Qa.z).Key)+1)⟩:Qb)]:List Qb))],.box 22 [.d (Xj true a0)],.gone,.gone,Qb6 v4.2]⟩) (by kernel_rfl) ?_
      refine Qmr [0,5,8,25,26,27] (st':=⟨62,(Zm.p0 a0++[(25,.own 4 2 0 v3.length),(26,.i (v3.length:Int)),(27,.i Jp)]),[.obj (Qcc (d3 :: gD) (d3 :: gD)),.box 3 [.i a2],.box 22 [.own 11 9 0 v4.2.length],.gone,Xk v3,.box 81 (Qcd (v3.getD Jp.toNat Qa.z)),Qb9 ([(⟨(v3.getD Jp.toNat Qa.z).Key,IntKind.wrap .i64 (((v3.getD Jp.toNat Qa.z).Key)+1)⟩:Qb)]:List Qb),.box 34 [.d (Wu true ([(⟨(v3.getD Jp.toNat Qa.z).Key,IntKind.wrap .i64 (((v3.getD Jp.toNat Qa.z).Key)+1)⟩:Qb)]:List Qb))],.box 22 [.d (Xj true a0)],.gone,.gone,Qb6 v4.2]⟩) (by kernel_rfl) ?_
      refine Xq hT 6 (K9 1111010 0) [0,1,2,11,4] ⟨62,(Zm.p0 a0++[(25,.own 4 2 0 v3.length),(26,.i (v3.length:Int)),(27,.i (IntKind.wrap .i64 (Jp+1)))]),[.obj (Qcc (d3 :: gD) (d3 :: gD)),.box 3 [.i a2],.box 22 [.own 3 9 0 v4.2.length],Qb6 v4.2,Xk v3]⟩ h0 ?_
      exact ih (IntKind.wrap .i64 (Jp+1)) v4.2 (d3 :: gD) H
     replace H:=sF c6 H
     rw [decide_eq_false c6]
     refine Qh hT 8 (K9 11111 1) ⟨62,[(6,.own 3 9 0 Yr.length),(7,.i 0)],[.obj (Qcc gD gD),.box 3 [.i a2],.box 22 [.own 3 9 0 Yr.length],Qb6 Yr,Xk v3]⟩ ?_
     obtain rfl:=Yi H
     exact Wjo 0 hf hX h0 (.Qo [.own 3 9 0 Yr.length,.i 0]) [3] (ac (Qat Qe.nl) an) (.Qo (.cons (.own _ _ _ _) (.cons (.d (.v _)) .nil)))
  refine Qgo [1,0,2,4,3] ⟨62,(Zm.p0 a0++[(25,.own 4 2 0 v3.length),(26,.i (v3.length:Int)),(27,.i 0)]),[.obj (Qcc gD gD),.box 3 [.i a2],.box 22 [.own 3 9 0 ([]:List Qe).length],Qb6 ([]:List Qe),Xk v3]⟩ h0 ?_
  obtain ⟨n,H⟩:=Qbu H
  exact (L n) 0 ([]:List Qe) gD H
 refine Wx (Yh:=[.d (Xj true a0)]) (dst:=some 15) (k':=(K9 1100 2)) [0,1,5,15] [] hP Qnl (Zn.Wv (t0:=true) a0 h1) (by kernel_rfl) (Wh _) (.cons (Qp _) .nil) (st':=⟨62,[(0,.d (Xj true a0)),(1,.d (Wu true a1)),(5,.ptr 0 0 0 0),(15,.b v1)],[.box 3 [.i a2]]⟩) (by kernel_rfl) ?_
 refine Qh hT 2 (K9 1100 4) ⟨62,[(0,.d (Xj true a0)),(1,.d (Wu true a1)),(5,.ptr 0 0 0 0),(17,.b (!v1))],[.box 3 [.i a2]]⟩ ?_
 by_cases c2:v1=true
 ·replace H:=iT c2 H
  rw [c2]
  refine Qh hT 1 (K9 1100 5) ⟨62,[(0,.d (Xj true a0)),(1,.d (Wu true a1)),(5,.ptr 0 0 0 0),(17,.b false),(18,.d (Wu true a1))],[.box 3 [.i a2]]⟩ ?_
  obtain ⟨v2,h3,H⟩:=ibC H
  refine Wx (Yh:=[.d (Wu true a1)]) (dst:=some 19) (k':=(K9 1100 6)) [0,1,5,17,19] [] hP Qhu (Zb.Wv (t0:=true) a1 h3) (by kernel_rfl) (Wh _) (.cons (Qp _) .nil) (st':=⟨62,[(0,.d (Xj true a0)),(1,.d (Wu true a1)),(5,.ptr 0 0 0 0),(17,.b false),(19,.b v2)],[.box 3 [.i a2]]⟩) (by kernel_rfl) ?_
  refine Qh hT 3 (K9 110 1) ⟨62,[(0,.d (Xj true a0)),(1,.d (Wu true a1)),(5,.ptr 0 0 0 0),(21,.b (!v2))],[.box 3 [.i a2]]⟩ ?_
  exact Yv (!v2) H
 replace H:=iF c2 H
 rw [Jk c2]
 refine Qh hT 5 (K9 110 1) ⟨62,[(0,.d (Xj true a0)),(1,.d (Wu true a1)),(5,.ptr 0 0 0 0),(21,.b true)],[.box 3 [.i a2]]⟩ ?_
 exact Yv true H
end
end Go.SyP
