/- What audit.Blame says: its inner loop ranges over slices.Backward and is left by a break. Printed by blame.py. -/
import Derived.Test.YtdndobkfnmommaaGreatG24zCp1
import Derived.Test.YtdndobkfnmommaaGreatSyPast
import Derived.Test.YtdndobkfnmommaaGreatSyArr
import Derived.Test.YtdndobkfnmommaaGreatG24zBP
set_option linter.unusedVariables false
set_option linter.unusedSimpArgs false
namespace Go.SyP
open Go Go.Sy Go.Proofs
noncomputable section
def Qe0:Code:=Wix (Xe (Tryz.f9.body.getD .skip) [1,1,1,0,1,0,0,1,1,0,0,1,1,1,0] [])
def Qdq:Code:=Wg0 (Xe (Tryz.f9.body.getD .skip) [1,1,1,0,1,0,0,1,1,0,0,1,1,1,0] [])
abbrev KBl (n i:Nat):List Item:=Xe Qdq (dgs 40 n [] ++ [i]) []
abbrev RB (l:Nat) (mark:Int) (out:List Qd) (one:List Qb):List Row:=
 [.loop l .ready 9 62 [5,8,11] [.ptr 1 0 0 0,.ptr 2 0 0 0,.ptr 4 0 0 0] #[40,41] Qe0 Qdq,.box 3 [.i mark],.box 22 [.own 3 9 0 out.length],.flat false 9 41 out.length (vec Qd.e Qd.z out),.box 34 [.d (.sl true one.length (vec Qb.e Qb.z one))]]
abbrev RF (l:Nat) (go:Bool) (mark:Int) (out:List Qd) (one:List Qb):List Row:=
 [bif go then .loop l .ready 9 62 [5,8,11] [.ptr 1 0 0 0,.ptr 2 0 0 0,.ptr 4 0 0 0] #[40,41] Qe0 Qdq else .obj (Qp3 l (.exit 2)),.box 3 [.i mark],.box 22 [.own 5 9 0 out.length],.gone,.box 34 [.d (.sl true one.length (vec Qb.e Qb.z one))],.flat false 9 41 out.length (vec Qd.e Qd.z out)]
theorem Wja (l:Nat) (mark:Int) (out:List Qd) (one:List Qb):∀ r∈RB l mark out one,NR r:=fun r hr=>by
 simp only [RB,List.mem_cons,List.not_mem_nil,or_false] at hr
 rcases hr with rfl | rfl | rfl | rfl | rfl
 ·exact .loop (.cons (.ptr _ _ _ _) (.cons (.ptr _ _ _ _) (.cons (.ptr _ _ _ _) .nil)))
 ·exact .box (.cons (.d (.v _)) .nil)
 ·exact .box (.cons (.own _ _ _ _) .nil)
 ·exact Qa1 Qd.nl
 exact .box (.cons (.d (.sl fun _ _=>Qb.nl _)) .nil)
theorem Wat (l:Nat) (g:Bool) (mark:Int) (out:List Qd) (one:List Qb):∀ r∈RF l g mark out one,NR r:=fun r hr=>by
 simp only [RF,List.mem_cons,List.not_mem_nil,or_false] at hr
 rcases hr with rfl | rfl | rfl | rfl | rfl | rfl
 ·cases g
  ·exact .obj _
  exact .loop (.cons (.ptr _ _ _ _) (.cons (.ptr _ _ _ _) (.cons (.ptr _ _ _ _) .nil)))
 ·exact .box (.cons (.d (.v _)) .nil)
 ·exact .box (.cons (.own _ _ _ _) .nil)
 ·exact .gone
 ·exact .box (.cons (.d (.sl fun _ _=>Qb.nl _)) .nil)
 exact Qa1 Qd.nl
abbrev Qag.p0:List (Nat × AV):=[(8,.ptr 2 0 0 0),(13,.ptr 5 0 0 0)]
theorem Qag.Wv (l:Nat) (i:Int) (a0:Qd) (a1:List Qb) (a2:Int) (a3:List Qd) {r:Bool × List Qd} (H:Qag a0 a1 a2 a3=some r):
  Qng Tryz.prog l (RB l a2 a3 a1) (.i i) (.d (.agg (Qd.e a0))) (bif r.1 then RB l a2 r.2 a1 else RF l false a2 r.2 a1) r.1:=by
 refine Qx6 (by decide) (by decide) (by decide) fun X hP h0 hX=>?_
 have hT:Xo X.P T:=hP▸tok
 refine Qh hT 4 (.beginRound :: .code Qdq :: []) ⟨62,[(5,.ptr 1 0 0 0),(8,.ptr 2 0 0 0),(11,.ptr 4 0 0 0),(13,.ptr 5 0 0 0)],[(.loop l .ready 9 62 [5,8,11] [.ptr 1 0 0 0,.ptr 2 0 0 0,.ptr 4 0 0 0] #[40,41] Qe0 Qdq),.box 3 [.i a2],.box 22 [.own 3 9 0 a3.length],Jp a3,.box 34 [.d (Xd true a1)],.box 41 (Qb0 a0)]⟩ ?_
 refine Qvz (st':=⟨62,[(5,.ptr 1 0 0 0),(8,.ptr 2 0 0 0),(11,.ptr 4 0 0 0),(13,.ptr 5 0 0 0)],[(.loop l .busy 9 62 [5,8,11] [.ptr 1 0 0 0,.ptr 2 0 0 0,.ptr 4 0 0 0] #[40,41] Qe0 Qdq),.box 3 [.i a2],.box 22 [.own 3 9 0 a3.length],Jp a3,.box 34 [.d (Xd true a1)],.box 41 (Qb0 a0)]⟩) 0 hX rfl rfl ?_
 have Yn:∀ (Qqw:Bool),(Qag.j1 a0 a3 Qqw)=some r->AK X 9 ((KBl 10 1)) (Ql7 X (bif r.1 then RB l a2 r.2 a1 else RF l false a2 r.2 a1) r.1) ⟨62,(Qag.p0++[(54,.b Qqw)]),[(.loop l .busy 9 62 [5,8,11] [.ptr 1 0 0 0,.ptr 2 0 0 0,.ptr 4 0 0 0] #[40,41] Qe0 Qdq),.box 3 [.i a2],.box 22 [.own 3 9 0 a3.length],Jp a3,.box 34 [.d (Xd true a1)],.box 41 (Qb0 a0)]⟩:=by
  intro Qqw H
  by_cases c4:Qqw=true
  ·replace H:=iT c4 H
   rw [c4]
   refine Qh hT 2 (KBl 1010 0) ⟨62,(Qag.p0),[(.loop l .busy 9 62 [5,8,11] [.ptr 1 0 0 0,.ptr 2 0 0 0,.ptr 4 0 0 0] #[40,41] Qe0 Qdq),.box 3 [.i a2],.box 22 [.own 3 9 0 a3.length],Jp a3,.box 34 [.d (Xd true a1)],.box 41 (Qb0 a0)]⟩ ?_
   obtain ⟨v2,h5,H⟩:=ibC H
   refine Qgq (nt:=62) (hP▸mixed) 4 [3] [8,13] [(8,.ptr 2 0 0 0),(13,.ptr 5 0 0 0)] (sm [.own 3 9 0 a3.length,.d (Qes a0),.d (Qes v2),.own 6 9 0 1]) [[(.loop l .busy 9 62 [5,8,11] [.ptr 1 0 0 0,.ptr 2 0 0 0,.ptr 4 0 0 0] #[40,41] Qe0 Qdq),.box 3 [.i a2],.box 22 [.own 3 9 0 a3.length],Jp a3,.box 34 [.d (Xd true a1)],.box 41 (Qb0 a0)],[(.loop l .busy 9 62 [5,8,11] [.ptr 1 0 0 0,.ptr 2 0 0 0,.ptr 4 0 0 0] #[40,41] Qe0 Qdq),.box 3 [.i a2],.box 22 [.own 3 9 0 a3.length],Jp a3,.box 34 [.d (Xd true a1)],.box 41 (Qb0 a0),.flat false 9 41 1 (fun j=>[Qd.e v2].getD j [])]] (by kernel_rfl) (by kernel_rfl) (by kernel_rfl) (by kernel_rfl) ⟨(Qit (Qgd (Qat (Qat Qlw hT) hT) (fun R rest h=>Ju (Yk:=[.d (Qes a0)]) (dst:=some 57) hP Qox (Qde.Wv a0 h5) (by kernel_rfl) (.cons (Qp _) .nil) (by kernel_rfl) h))),(Qg7 hT),(Qit (Qgd (Qat (Qat Qlw hT) hT) (fun R rest h=>Ju (Yk:=[.d (Qes a0)]) (dst:=some 57) hP Qox (Qde.Wv a0 h5) (by kernel_rfl) (.cons (Qp _) .nil) (by kernel_rfl) h)))⟩ ?_
   refine Qh hT 0 (KBl 10100 4) ⟨62,[(8,.ptr 2 0 0 0),(55,.own 3 9 0 a3.length),(58,.own 6 9 0 1)],[(.loop l .busy 9 62 [5,8,11] [.ptr 1 0 0 0,.ptr 2 0 0 0,.ptr 4 0 0 0] #[40,41] Qe0 Qdq),.box 3 [.i a2],.box 22 [.own 3 9 0 a3.length],Jp a3,.box 34 [.d (Xd true a1)],.box 41 (Qb0 a0),.flat false 9 41 1 (fun j=>[Qd.e v2].getD j [])]⟩ ?_
   obtain ⟨h6,H⟩:=iC H
   refine Qcw (id:=3) (kk:=9) (by':=88) (t:=22) (e:=41) (z:=[.int .i64 0,.int .i64 0,.int .i64 0,.slice none 0 0,.int .i64 0,.int .i64 0,.int .i64 0,.int .i64 0,.bool false]) (dst:=some 59) (id2:=6) (e2:=41) (fz:=false) (k':=(KBl 10100 5)) hT Qd.e Qd.z a3 v2 [8,59] (by kernel_rfl) (by kernel_rfl) (by kernel_rfl) (by kernel_rfl) (by kernel_rfl) (by kernel_rfl) (by kernel_rfl) h6 (by omega) (st':=⟨62,[(8,.ptr 2 0 0 0),(59,.own 7 9 0 ((a3 ++ [v2]).length))],[(.loop l .busy 9 62 [5,8,11] [.ptr 1 0 0 0,.ptr 2 0 0 0,.ptr 4 0 0 0] #[40,41] Qe0 Qdq),.box 3 [.i a2],.box 22 [.own 3 9 0 a3.length],.gone,.box 34 [.d (Xd true a1)],.box 41 (Qb0 a0),.flat false 9 41 1 (fun j=>[Qd.e v2].getD j []),Jp (a3 ++ [v2])]⟩) (by kernel_rfl) ?_
   refine Qh hT 2 (KBl 1010 1) ⟨62,[],[(.loop l .busy 9 62 [5,8,11] [.ptr 1 0 0 0,.ptr 2 0 0 0,.ptr 4 0 0 0] #[40,41] Qe0 Qdq),.box 3 [.i a2],.box 22 [.own 7 9 0 ((a3 ++ [v2]).length)],.gone,.box 34 [.d (Xd true a1)],.box 41 (Qb0 a0),.flat false 9 41 1 (fun j=>[Qd.e v2].getD j []),Jp (a3 ++ [v2])]⟩ ?_
   obtain rfl:=Yg H
   refine Qmz [] [0,1,2,3,4,7] (st':=⟨62,[],[.loop l .busy 9 62 [5,8,11] [.ptr 1 0 0 0,.ptr 2 0 0 0,.ptr 4 0 0 0] #[40,41] Qe0 Qdq,.box 3 [.i a2],.box 22 [.own 5 9 0 (a3 ++ [v2]).length],.gone,.box 34 [.d (.sl true a1.length (vec Qb.e Qb.z a1))],.flat false 9 41 (a3 ++ [v2]).length (vec Qd.e Qd.z (a3 ++ [v2]))]⟩) (by kernel_rfl) (by kernel_rfl) rfl (by decide) (by rw [h0];rfl) ?_
   exact Qv4 0 hX (by kernel_rfl) rfl rfl (Wat _ _ _ _ _)
  replace H:=iF c4 H
  rw [Zz c4]
  refine Qh hT 3 [] ⟨62,[],[(.loop l .busy 9 62 [5,8,11] [.ptr 1 0 0 0,.ptr 2 0 0 0,.ptr 4 0 0 0] #[40,41] Qe0 Qdq),.box 3 [.i a2],.box 22 [.own 3 9 0 a3.length],Jp a3,.box 34 [.d (Xd true a1)],.box 41 (Qb0 a0)]⟩ ?_
  obtain rfl:=Yg H
  refine Qmz [] [0,1,2,3,4] (st':=⟨62,[],[.loop l .busy 9 62 [5,8,11] [.ptr 1 0 0 0,.ptr 2 0 0 0,.ptr 4 0 0 0] #[40,41] Qe0 Qdq,.box 3 [.i a2],.box 22 [.own 3 9 0 (a3).length],.flat false 9 41 (a3).length (vec Qd.e Qd.z (a3)),.box 34 [.d (.sl true a1.length (vec Qb.e Qb.z a1))]]⟩) (by kernel_rfl) (by kernel_rfl) rfl (by decide) (by rw [h0];rfl) ?_
  exact Qv3 0 hX rfl rfl (Wja _ _ _ _)
 refine Qh hT 6 (KBl 100 3) ⟨62,[(5,.ptr 1 0 0 0),(8,.ptr 2 0 0 0),(11,.ptr 4 0 0 0),(13,.ptr 5 0 0 0),(44,.b a0.Jt)],[(.loop l .busy 9 62 [5,8,11] [.ptr 1 0 0 0,.ptr 2 0 0 0,.ptr 4 0 0 0] #[40,41] Qe0 Qdq),.box 3 [.i a2],.box 22 [.own 3 9 0 a3.length],Jp a3,.box 34 [.d (Xd true a1)],.box 41 (Qb0 a0)]⟩ ?_
 by_cases c1:a0.Jt=true
 ·replace H:=iT c1 H
  rw [c1]
  refine Qh hT 6 (KBl 100 9) ⟨62,[(8,.ptr 2 0 0 0),(11,.ptr 4 0 0 0),(13,.ptr 5 0 0 0),(50,.b (decide (a0.Time<=a2)))],[(.loop l .busy 9 62 [5,8,11] [.ptr 1 0 0 0,.ptr 2 0 0 0,.ptr 4 0 0 0] #[40,41] Qe0 Qdq),.box 3 [.i a2],.box 22 [.own 3 9 0 a3.length],Jp a3,.box 34 [.d (Xd true a1)],.box 41 (Qb0 a0)]⟩ ?_
  by_cases c2:a0.Time<=a2
  ·replace H:=iT c2 H
   rw [decide_eq_true c2]
   refine Qh hT 2 (KBl 100 11) ⟨62,(Qag.p0++[(50,.b true),(51,.d (Qes a0)),(52,.d (Xd true a1))]),[(.loop l .busy 9 62 [5,8,11] [.ptr 1 0 0 0,.ptr 2 0 0 0,.ptr 4 0 0 0] #[40,41] Qe0 Qdq),.box 3 [.i a2],.box 22 [.own 3 9 0 a3.length],Jp a3,.box 34 [.d (Xd true a1)],.box 41 (Qb0 a0)]⟩ ?_
   obtain ⟨v1,h3,H⟩:=ibC H
   refine Ws (Yk:=[.d (Qes a0),.d (Xd true a1)]) (dst:=some 53) (k':=(KBl 100 12)) [8,13,50,53] [] hP Qt8 (Qdy.Wv (t1:=true) a0 a1 h3) (by kernel_rfl) (Qz _) (.cons (Qp _) (.cons (Qp _) .nil)) (st':=⟨62,(Qag.p0++[(50,.b true),(53,.b v1)]),[(.loop l .busy 9 62 [5,8,11] [.ptr 1 0 0 0,.ptr 2 0 0 0,.ptr 4 0 0 0] #[40,41] Qe0 Qdq),.box 3 [.i a2],.box 22 [.own 3 9 0 a3.length],Jp a3,.box 34 [.d (Xd true a1)],.box 41 (Qb0 a0)]⟩) (by kernel_rfl) ?_
   refine Qh hT 2 (KBl 10 1) ⟨62,(Qag.p0++[(54,.b v1)]),[(.loop l .busy 9 62 [5,8,11] [.ptr 1 0 0 0,.ptr 2 0 0 0,.ptr 4 0 0 0] #[40,41] Qe0 Qdq),.box 3 [.i a2],.box 22 [.own 3 9 0 a3.length],Jp a3,.box 34 [.d (Xd true a1)],.box 41 (Qb0 a0)]⟩ ?_
   exact Yn v1 H
  replace H:=iF c2 H
  rw [decide_eq_false c2]
  refine Qh hT 5 (KBl 10 1) ⟨62,(Qag.p0++[(54,.b false)]),[(.loop l .busy 9 62 [5,8,11] [.ptr 1 0 0 0,.ptr 2 0 0 0,.ptr 4 0 0 0] #[40,41] Qe0 Qdq),.box 3 [.i a2],.box 22 [.own 3 9 0 a3.length],Jp a3,.box 34 [.d (Xd true a1)],.box 41 (Qb0 a0)]⟩ ?_
  exact Yn false H
 replace H:=iF c1 H
 rw [Zz c1]
 refine Qh hT 11 (KBl 10 1) ⟨62,(Qag.p0++[(54,.b false)]),[(.loop l .busy 9 62 [5,8,11] [.ptr 1 0 0 0,.ptr 2 0 0 0,.ptr 4 0 0 0] #[40,41] Qe0 Qdq),.box 3 [.i a2],.box 22 [.own 3 9 0 a3.length],Jp a3,.box 34 [.d (Xd true a1)],.box 41 (Qb0 a0)]⟩ ?_
 exact Yn false H
theorem Qwj (l:Nat) (mark:Int) (out:List Qd) (one:List Qb):Qbo (RB l mark out one) [0,1,2,3,4] (RB l mark out one):=Qso rfl rfl rfl rfl rfl (by decide) rfl rfl rfl rfl rfl
abbrev bA (xs:List Qd):DV:=.rop false 1 (fun _=>[.sl true xs.length (vec Qd.e Qd.z xs)]) 0 0
abbrev K62 (p:List Nat):List Item:=Xe (Tryz.f62.body.getD .skip) p []
theorem Wic (l:Nat) (xs:List Qd) (one:List Qb) (mark:Int) (Wf6:List Qd) {r:Bool × List Qd} (hx:xs.length * 88<=140737488355328) (H0:Qdu one mark Wf6 xs.reverse=some r):
  Yy Tryz.prog 62 (RB l mark Wf6 one) [.d (.v (.func (.yield l) #[] #[])),.d (bA xs)] (RF l r.1 mark r.2 one) (.Qn []):=by
 refine Yc Tryz.func62 rfl (nt:=19) rfl (lb rfl) fun X hP h0 hX=>?_
 have hT:Xo X.P T:=hP▸tok
 have hf:X.P.funcs[62]? = some Tryz.f62:=hP▸Tryz.func62
 have L:∀ (m:Nat) (i:Int) (out:List Qd),i=(m:Int) - 1->m<=xs.length->Qdu one mark out (xs.take m).reverse=some r ->
   AK X 62 (K62 [1,0,0]) (Yt X (RF l r.1 mark r.2 one) (.Qn [])) ⟨19,[(0,.d (.v (.func (.yield l) #[] #[]))),(1,.d (bA xs)),(3,.i i)],RB l mark out one⟩:=by
  intro m
  induction m with
  | zero=>
   intro i out hi hm H
   simp only [List.take_zero,List.reverse_nil,Qdu,Option.some.injEq] at H
   subst H
   refine Qh hT 6 (K62 [1,0,0,0,1]) ⟨19,[(0,.d (.v (.func (.yield l) #[] #[]))),(1,.d (bA xs)),(3,.i i),(8,.b (decide (i>=0)))],RB l mark out one⟩ ?_
   rw [decide_eq_false (show ¬ i>=0 by omega)]
   refine Qh hT 2 [] ⟨19,[],RB l mark out one⟩ ?_
   refine Qlj 3 (r:=.flat false 9 41 out.length (vec Qd.e Qd.z out)) rfl rfl (st':=⟨19,[],RF l true mark out one⟩) (by kernel_rfl) (by kernel_rfl) rfl ?_
   exact Wbh hf hX (av:=.Qn []) (by kernel_rfl) [0,1,2,3,4,5] (Jh (by kernel_rfl)) (by decide) (by rw [h0];rfl) (by kernel_rfl) (Wat _ _ _ _ _) (.Qn .nil)
  | succ m ih=>
   intro i out hi hm H
   have hlt:m < xs.length:=hm
   have ht:(xs.take (m+1)).reverse=xs.getD m Qd.z :: (xs.take m).reverse:=by
    rw [List.take_add_one]
    simp [hlt]
   rw [ht] at H
   simp only [Qdu] at H
   obtain ⟨v,hv,H⟩:=Option.bind_eq_some_iff.1 H
   have hi2:i=(m:Int):=by omega
   subst hi2
   refine Qh hT 6 (K62 [1,0,0,0,1]) ⟨19,[(0,.d (.v (.func (.yield l) #[] #[]))),(1,.d (bA xs)),(3,.i (m:Int)),(8,.b (decide ((m:Int)>=0)))],RB l mark out one⟩ ?_
   rw [decide_eq_true (show (m:Int)>=0 by omega)]
   refine Qh hT 10 (K62 [1,0,0,1,0,0,0,4]) ⟨19,[(0,.d (.v (.func (.yield l) #[] #[]))),(1,.d (bA xs)),(3,.i (m:Int)),(11,.d (.v (.func (.yield l) #[] #[]))),(12,.i (m:Int)),(13,.d (.sl true xs.length (vec Qd.e Qd.z xs))),(14,.i (m:Int))],RB l mark out one⟩ ?_
   refine Jf hT [0,1,3,11,12,15] (i:=(m:Int)) (n:=(xs.length:Int)) (by omega) (by omega) (k':=K62 [1,0,0,1,0,0,0,5]) (st':=⟨19,[(0,.d (.v (.func (.yield l) #[] #[]))),(1,.d (bA xs)),(3,.i (m:Int)),(11,.d (.v (.func (.yield l) #[] #[]))),(12,.i (m:Int)),(15,.d (.rop true xs.length (vec Qd.e Qd.z xs) (m:Int).toNat 0))],RB l mark out one⟩) (by kernel_rfl) ?_
   refine Qh hT 1 (K62 [1,0,0,1,0,0,0,6]) ⟨19,[(0,.d (.v (.func (.yield l) #[] #[]))),(1,.d (bA xs)),(3,.i (m:Int)),(11,.d (.v (.func (.yield l) #[] #[]))),(12,.i (m:Int)),(16,.d (.agg (Qd.e (xs.getD (m:Int).toNat Qd.z))))],RB l mark out one⟩ ?_
   have Qm7:=Qag.Wv l (m:Int) (xs.getD m Qd.z) one mark out hv
   obtain ⟨v1,v2⟩:=v
   cases v1 with
   | false=>
    simp only [Bool.false_eq_true,if_false,Option.some.injEq] at H
    subst H
    refine Qt2 (av:=.i (m:Int)) (bv:=.d (.agg (Qd.e (xs.getD (m:Int).toNat Qd.z)))) (go:=false) (dst:=some 17) (k':=K62 [1,0,0,1,0,0,0,7]) [0,1,3,17] [0,1,2,3,4] hP Qm7 (by kernel_rfl) (Qwj l mark out one) (.cons (Qp _) (.cons (Qp _) .nil))
     (st':=⟨19,[(0,.d (.v (.func (.yield l) #[] #[]))),(1,.d (bA xs)),(3,.i (m:Int)),(17,.b false)],RF l false mark v2 one⟩) (by kernel_rfl) ?_
    refine Qh hT 3 (K62 [1,0,0,1,0,0,1,0]) ⟨19,[],RF l false mark v2 one⟩ ?_
    exact Qee hf hX (av:=.Qn []) (by kernel_rfl) [0,1,2,3,4,5] (Jh (by kernel_rfl)) (by decide) (by rw [h0];rfl) (by kernel_rfl) (Wat _ _ _ _ _) (.Qn .nil)
   | true=>
    simp only [if_true] at H
    refine Qt2 (av:=.i (m:Int)) (bv:=.d (.agg (Qd.e (xs.getD (m:Int).toNat Qd.z)))) (go:=true) (dst:=some 17) (k':=K62 [1,0,0,1,0,0,0,7]) [0,1,3,17] [0,1,2,3,4] hP Qm7 (by kernel_rfl) (Qwj l mark out one) (.cons (Qp _) (.cons (Qp _) .nil))
     (st':=⟨19,[(0,.d (.v (.func (.yield l) #[] #[]))),(1,.d (bA xs)),(3,.i (m:Int)),(17,.b true)],RB l mark v2 one⟩) (by kernel_rfl) ?_
    refine Qh hT 11 (K62 [1,0,0]) ⟨19,[(0,.d (.v (.func (.yield l) #[] #[]))),(1,.d (bA xs)),(3,.i (IntKind.wrap .i64 ((m:Int) - 1)))],RB l mark v2 one⟩ ?_
    have hw:IntKind.wrap .i64 ((m:Int) - 1)=(m:Int) - 1:=by simp [IntKind.wrap,IntKind.bits,IntKind.signed];omega
    exact ih _ _ hw (by omega) H
 refine Qh hT 9 (K62 [1,0,0]) ⟨19,[(0,.d (.v (.func (.yield l) #[] #[]))),(1,.d (bA xs)),(3,.i (IntKind.wrap .i64 ((xs.length:Int) - 1)))],RB l mark Wf6 one⟩ ?_
 have hw:IntKind.wrap .i64 ((xs.length:Int) - 1)=(xs.length:Int) - 1:=by simp [IntKind.wrap,IntKind.bits,IntKind.signed];omega
 exact L xs.length _ _ hw (Nat.le_refl _) (by rw [List.take_length];exact H0)
abbrev Zj.p0 (a0:List Qd):List (Nat × AV):=[(0,.d (Xq true a0)),(5,.ptr 1 0 0 0),(8,.ptr 2 0 0 0)]
theorem Zj.Wv (a0:List Qd) (a1:List Qb) (a2:Int) {r:(List Qd) × Int} (H:Zj a0 a1 a2=some r):Yy Tryz.prog 9 [] [.d (Xq true a0),.d (Xd true a1),.i a2] [Jp r.1] (.Qn [.own 0 9 0 r.1.length,.i r.2]):=by
 refine Yc Tryz.func9 rfl (nt:=62) rfl (lb rfl) fun X hP h0 hX=>?_
 have hT:Xo X.P T:=hP▸tok
 have hf:X.P.funcs[9]? = some Tryz.f9:=hP▸Tryz.func9
 refine Qh hT 10 (K9 1100 1) ⟨62,[(0,.d (Xq true a0)),(1,.d (Xd true a1)),(5,.ptr 0 0 0 0),(14,.d (Xq true a0))],[.box 3 [.i a2]]⟩ ?_
 obtain ⟨v1,h1,H⟩:=ibC H
 have Yn:∀ (Qep:Bool),(Zj.j1 a0 a1 a2 Qep)=some r->AK X 9 ((K9 110 1)) (Yt X [Jp r.1] (.Qn [.own 0 9 0 r.1.length,.i r.2])) ⟨62,[(0,.d (Xq true a0)),(1,.d (Xd true a1)),(5,.ptr 0 0 0 0),(21,.b Qep)],[.box 3 [.i a2]]⟩:=by
  intro Qep H
  by_cases c4:Qep=true
  ·replace H:=iT c4 H
   rw [c4]
   refine Qh hT 6 (K9 11010 1) ⟨62,[(6,.ns),(7,.i 1)],[.box 3 [.i a2]]⟩ ?_
   refine Qc6 [6,7] 6 9 41 (vec Qd.e Qd.z []) (st':=⟨62,[(6,.own 1 9 0 0),(7,.i 1)],[.box 3 [.i a2],Jp ([]:List Qd)]⟩) (by kernel_rfl) (by kernel_rfl) ?_
   obtain rfl:=Yg H
   exact Yi hf hX h0 (.Qn [.own 1 9 0 0,.i 1]) [1] (ac (Qa1 Qd.nl) an) (.Qn (.cons (.own _ _ _ _) (.cons (.d (.v _)) .nil)))
  replace H:=iF c4 H
  rw [Zz c4]
  refine Qh hT 2 (K9 11 1) ⟨62,[(0,.d (Xq true a0)),(1,.d (Xd true a1)),(5,.ptr 0 0 0 0)],[.box 3 [.i a2]]⟩ ?_
  refine Qh hT 2 (K9 1110 0) ⟨62,[(0,.d (Xq true a0)),(1,.d (Xd true a1)),(5,.ptr 0 0 0 0)],[.box 3 [.i a2]]⟩ ?_
  obtain ⟨gD,hgD⟩:∃ x,x=([]:List Nat):=⟨_,rfl⟩
  refine Wg3 ?_
  refine Qxz hX hgD ?_
  refine Qm0 [0,1,5] (st':=⟨62,[(0,.d (Xq true a0)),(1,.d (Xd true a1)),(5,.ptr 0 0 0 0)],[.box 3 [.i a2],.obj (Qb1 gD gD)]⟩) (by rw [hgD];kernel_rfl) ?_
  have hT:Xo (X.marks gD).P T:=hT
  have hP:(X.marks gD).P=Tryz.prog:=hP
  have h0:(X.marks gD).μ0.length=0:=h0
  refine Qh hT 8 (K9 111100 3) ⟨62,[(0,.d (Xq true a0)),(5,.ptr 0 0 0 0),(8,.ptr 2 0 0 0),(22,.d (Xq true a0)),(23,.d (Xd true a1)),(24,.i a2)],[.box 3 [.i a2],.obj (Qb1 gD gD),.box 22 [.ns]]⟩ ?_
  obtain ⟨v3,h5,H⟩:=ibC H
  refine Ws (Yk:=[.d (Xq true a0),.d (Xd true a1),.i a2]) (dst:=some 25) (k':=(K9 111100 4)) [0,5,8,25] [] hP Qua (Yp.Wv (t0:=true) a0 a1 a2 h5) (by kernel_rfl) (Qz _) (.cons (Qp _) (.cons (Qp _) (.cons (Qp _) .nil))) (st':=⟨62,[(0,.d (Xq true a0)),(5,.ptr 0 0 0 0),(8,.ptr 2 0 0 0),(25,.own 3 2 0 v3.length)],[.box 3 [.i a2],.obj (Qb1 gD gD),.box 22 [.ns],Xj v3]⟩) (by kernel_rfl) ?_
  refine Qh hT 5 (K9 1111010 0) ⟨62,[(0,.d (Xq true a0)),(5,.ptr 0 0 0 0),(8,.ptr 2 0 0 0),(25,.own 3 2 0 v3.length),(26,.i (v3.length:Int)),(27,.i 0)],[.box 3 [.i a2],.obj (Qb1 gD gD),.box 22 [.ns],Xj v3]⟩ ?_
  refine Qos (tb:=22) (cs:=[.ns]) 2 0 9 41 (vec Qd.e Qd.z []) (st':=⟨62,[(0,.d (Xq true a0)),(5,.ptr 0 0 0 0),(8,.ptr 2 0 0 0),(25,.own 3 2 0 v3.length),(26,.i (v3.length:Int)),(27,.i 0)],[.box 3 [.i a2],.obj (Qb1 gD gD),.box 22 [.own 4 9 0 0],Xj v3,Jp ([]:List Qd)]⟩) (by kernel_rfl) (by kernel_rfl) ?_
  have L:∀ n,(∀ (Jl:Int) (Yl:List Qd) (gD:List Nat),iter (Zj.step a0 a2 v3) n (.l1 Jl Yl)=some r->AK (X.marks gD) 9 ((K9 1111010 0)) (Yt X [Jp r.1] (.Qn [.own 0 9 0 r.1.length,.i r.2])) ⟨62,(Zj.p0 a0++[(25,.own 4 2 0 v3.length),(26,.i (v3.length:Int)),(27,.i Jl)]),[.obj (Qb1 gD gD),.box 3 [.i a2],.box 22 [.own 3 9 0 Yl.length],Jp Yl,Xj v3]⟩):=by
   intro n
   induction n with
   | zero=>exact fun _ _ _ H=>Qbd H
   | succ n ih=>
    ·intro Jl Yl gD H
     have hT:Xo (X.marks gD).P T:=hT
     have hP:(X.marks gD).P=Tryz.prog:=hP
     have h0:(X.marks gD).μ0.length=0:=h0
     refine Qh hT 5 (K9 111101001 0) ⟨62,(Zj.p0 a0++[(25,.own 4 2 0 v3.length),(26,.i (v3.length:Int)),(27,.i Jl),(28,.b (decide (Jl < (v3.length:Int))))]),[.obj (Qb1 gD gD),.box 3 [.i a2],.box 22 [.own 3 9 0 Yl.length],Jp Yl,Xj v3]⟩ ?_
     by_cases c6:Jl < (v3.length:Int)
     ·replace H:=sT c6 H
      rw [decide_eq_true c6]
      refine Qh hT 2 (K9 111101001 1) ⟨62,(Zj.p0 a0++[(25,.own 4 2 0 v3.length),(26,.i (v3.length:Int)),(27,.i Jl)]),[.obj (Qb1 gD gD),.box 3 [.i a2],.box 22 [.own 3 9 0 Yl.length],Jp Yl,Xj v3]⟩ ?_
      refine Qh hT 4 (K9 1111010011000 0) ⟨62,(Zj.p0 a0++[(25,.own 4 2 0 v3.length),(26,.i (v3.length:Int)),(27,.i Jl)]),[.obj (Qb1 gD gD),.box 3 [.i a2],.box 22 [.own 3 9 0 Yl.length],Jp Yl,Xj v3]⟩ ?_
      obtain ⟨h7,H⟩:=sC H
      refine Jf hT [0,5,8,25,26,27,29] (i:=Jl) (n:=(v3.length:Int)) h7.1 h7.2 (k':=(K9 1111010011000 1)) (st':=⟨62,(Zj.p0 a0++[(25,.own 4 2 0 v3.length),(26,.i (v3.length:Int)),(27,.i Jl),(29,.ptr 4 2 Jl.toNat 0)]),[.obj (Qb1 gD gD),.box 3 [.i a2],.box 22 [.own 3 9 0 Yl.length],Jp Yl,Xj v3]⟩) (by kernel_rfl) ?_
      refine Qni hT [0,5,8,25,26,27,30] (i:=Jl.toNat) (n:=v3.length) (ltN h7.1 h7.2) (k':=(K9 1111010011000 2)) (st':=⟨62,(Zj.p0 a0++[(25,.own 4 2 0 v3.length),(26,.i (v3.length:Int)),(27,.i Jl),(30,.d (Qfr (v3.getD Jl.toNat Qa.z)))]),[.obj (Qb1 gD gD),.box 3 [.i a2],.box 22 [.own 3 9 0 Yl.length],Jp Yl,Xj v3]⟩) (by kernel_rfl) ?_
      refine Qh hT 18 (K9 111101001100110 1) ⟨62,(Zj.p0 a0++[(11,.ptr 7 0 0 0),(25,.own 4 2 0 v3.length),(26,.i (v3.length:Int)),(27,.i Jl),(38,.d (Xq true a0))]),[.obj (Qb1 gD gD),.box 3 [.i a2],.box 22 [.own 3 9 0 Yl.length],Jp Yl,Xj v3,.box 81 (Qb2 (v3.getD Jl.toNat Qa.z)),.flat false 2 33 1 (fun j=>[[.i ((v3.getD Jl.toNat Qa.z).Key),.i (IntKind.wrap .i64 (((v3.getD Jl.toNat Qa.z).Key)+1))]].getD j []),.box 34 [.own 6 2 0 1]]⟩ ?_
      refine Ws (Yk:=[.d (Xq true a0)]) (dst:=some 39) (k':=(K9 111101001100110 2)) [0,5,8,11,25,26,27,39] [] hP Wby (Wgi a0) (by kernel_rfl) (Qz _) (.cons (Qp _) .nil) (st':=⟨62,(Zj.p0 a0++[(11,.ptr 7 0 0 0),(25,.own 4 2 0 v3.length),(26,.i (v3.length:Int)),(27,.i Jl),(39,.fn 62 [.ptr 8 0 0 0])]),[.obj (Qb1 gD gD),.box 3 [.i a2],.box 22 [.own 3 9 0 Yl.length],Jp Yl,Xj v3,.box 81 (Qb2 (v3.getD Jl.toNat Qa.z)),.flat false 2 33 1 (fun j=>[[.i ((v3.getD Jl.toNat Qa.z).Key),.i (IntKind.wrap .i64 (((v3.getD Jl.toNat Qa.z).Key)+1))]].getD j []),.box 34 [.own 6 2 0 1],.box 22 [.d (Xq true a0)]]⟩) (by kernel_rfl) ?_
      refine Qhq 6 (kk:=2) (fz:=false) (ty:=33) (n:=([(⟨(v3.getD Jl.toNat Qa.z).Key,IntKind.wrap .i64 (((v3.getD Jl.toNat Qa.z).Key)+1)⟩:Qb)]:List Qb).length) (vec Qb.e Qb.z ([(⟨(v3.getD Jl.toNat Qa.z).Key,IntKind.wrap .i64 (((v3.getD Jl.toNat Qa.z).Key)+1)⟩:Qb)]:List Qb)) (by kernel_rfl) Qha (st':=⟨62,(Zj.p0 a0++[(11,.ptr 7 0 0 0),(25,.own 4 2 0 v3.length),(26,.i (v3.length:Int)),(27,.i Jl),(39,.fn 62 [.ptr 8 0 0 0])]),[.obj (Qb1 gD gD),.box 3 [.i a2],.box 22 [.own 3 9 0 Yl.length],Jp Yl,Xj v3,.box 81 (Qb2 (v3.getD Jl.toNat Qa.z)),Qap ([(⟨(v3.getD Jl.toNat Qa.z).Key,IntKind.wrap .i64 (((v3.getD Jl.toNat Qa.z).Key)+1)⟩:Qb)]:List Qb),.box 34 [.own 6 2 0 1],.box 22 [.d (Xq true a0)]]⟩) (by kernel_rfl) ?_
      refine Qdp 6 (kk:=2) (n:=([(⟨(v3.getD Jl.toNat Qa.z).Key,IntKind.wrap .i64 (((v3.getD Jl.toNat Qa.z).Key)+1)⟩:Qb)]:List Qb).length) (ty:=33) (g:=vec Qb.e Qb.z ([(⟨(v3.getD Jl.toNat Qa.z).Key,IntKind.wrap .i64 (((v3.getD Jl.toNat Qa.z).Key)+1)⟩:Qb)]:List Qb)) (by kernel_rfl) (st':=⟨62,(Zj.p0 a0++[(11,.ptr 7 0 0 0),(25,.own 4 2 0 v3.length),(26,.i (v3.length:Int)),(27,.i Jl),(39,.fn 62 [.ptr 8 0 0 0])]),[.obj (Qb1 gD gD),.box 3 [.i a2],.box 22 [.own 3 9 0 Yl.length],Jp Yl,Xj v3,.box 81 (Qb2 (v3.getD Jl.toNat Qa.z)),Qbt ([(⟨(v3.getD Jl.toNat Qa.z).Key,IntKind.wrap .i64 (((v3.getD Jl.toNat Qa.z).Key)+1)⟩:Qb)]:List Qb),.box 34 [.own 6 2 0 1],.box 22 [.d (Xq true a0)]]⟩) (by kernel_rfl) ?_
      refine Qsb 7 (ty:=34) (xs:=[.own 6 2 0 1]) (ys:=[Xd true ([(⟨(v3.getD Jl.toNat Qa.z).Key,IntKind.wrap .i64 (((v3.getD Jl.toNat Qa.z).Key)+1)⟩:Qb)]:List Qb)]) (by kernel_rfl) (.cons (.own (ty:=33) (k:=2) (by kernel_rfl)) .nil) (st':=⟨62,(Zj.p0 a0++[(11,.ptr 7 0 0 0),(25,.own 4 2 0 v3.length),(26,.i (v3.length:Int)),(27,.i Jl),(39,.fn 62 [.ptr 8 0 0 0])]),[.obj (Qb1 gD gD),.box 3 [.i a2],.box 22 [.own 3 9 0 Yl.length],Jp Yl,Xj v3,.box 81 (Qb2 (v3.getD Jl.toNat Qa.z)),Qbt ([(⟨(v3.getD Jl.toNat Qa.z).Key,IntKind.wrap .i64 (((v3.getD Jl.toNat Qa.z).Key)+1)⟩:Qb)]:List Qb),.box 34 [.d (Xd true ([(⟨(v3.getD Jl.toNat Qa.z).Key,IntKind.wrap .i64 (((v3.getD Jl.toNat Qa.z).Key)+1)⟩:Qb)]:List Qb))],.box 22 [.d (Xq true a0)]]⟩) (by kernel_rfl) ?_
      refine Qh hT 2 (K9 111101001100111 0) ⟨62,(Zj.p0 a0++[(11,.ptr 7 0 0 0),(25,.own 4 2 0 v3.length),(26,.i (v3.length:Int)),(27,.i Jl),(39,.fn 62 [.ptr 8 0 0 0])]),[.obj (Qb1 gD gD),.box 3 [.i a2],.box 22 [.own 3 9 0 Yl.length],Jp Yl,Xj v3,.box 81 (Qb2 (v3.getD Jl.toNat Qa.z)),Qbt ([(⟨(v3.getD Jl.toNat Qa.z).Key,IntKind.wrap .i64 (((v3.getD Jl.toNat Qa.z).Key)+1)⟩:Qb)]:List Qb),.box 34 [.d (Xd true ([(⟨(v3.getD Jl.toNat Qa.z).Key,IntKind.wrap .i64 (((v3.getD Jl.toNat Qa.z).Key)+1)⟩:Qb)]:List Qb))],.box 22 [.d (Xq true a0)]]⟩ ?_
      obtain ⟨h8,H⟩:=sC H
      obtain ⟨v4,h9,H⟩:=sbC H
      refine Qu4 (X:=X) (P:=Tryz.prog) (f:=9) (g:=62) (fop:=.tmp 39) (p:=40) (q:=41) (asg:=Qe0) (body:=Qdq) (k:=(.inBlock 1 :: (K9 1111010011 1))) (caps:=[.ptr 8 0 0 0]) (ret:=.Qn []) (jd:=2) v4.1 gD [5,8,11] [.ptr 1 0 0 0,.ptr 2 0 0 0,.ptr 7 0 0 0] [.ptr 1 0 0 0,.ptr 2 0 0 0,.ptr 7 0 0 0] [10,1,2,3,7] (fun l=>RB l a2 Yl ([(⟨(v3.getD Jl.toNat Qa.z).Key,IntKind.wrap .i64 (((v3.getD Jl.toNat Qa.z).Key)+1)⟩:Qb)]:List Qb)) (fun l=>RF l v4.1 a2 v4.2 ([(⟨(v3.getD Jl.toNat Qa.z).Key,IntKind.wrap .i64 (((v3.getD Jl.toNat Qa.z).Key)+1)⟩:Qb)]:List Qb)) (fun l=>[.d (.v (.func (.yield l) #[] #[])),.d (bA a0)]) hP hX (by kernel_rfl) Wcf (by kernel_rfl) (fun l=>Wic l a0 ([(⟨(v3.getD Jl.toNat Qa.z).Key,IntKind.wrap .i64 (((v3.getD Jl.toNat Qa.z).Key)+1)⟩:Qb)]:List Qb) a2 Yl h8 h9) (by kernel_rfl) (fun D=>Qso rfl rfl rfl rfl rfl (by decide) rfl rfl rfl rfl rfl) (fun D=>.cons (Qp _) (.cons (.look (ty:=22) (cs:=[.sl true a0.length (vec Qd.e Qd.z a0)]) (by kernel_rfl) rfl) .nil)) (fun e D=>by rw [e];kernel_rfl) (fun e D=>by rw [e];kernel_rfl) fun d3=>?_
      refine Wh9 0 9 (D:=d3) (A:=gD) (O:=gD) (by kernel_rfl) (by kernel_rfl) (st':=⟨62,(Zj.p0 a0++[(11,.ptr 7 0 0 0),(25,.own 4 2 0 v3.length),(26,.i (v3.length:Int)),(27,.i Jl),(39,.fn 62 [.ptr 8 0 0 0])]),[.obj (Qb1 (d3 :: gD) (d3 :: gD)),.box 3 [.i a2],.box 22 [.own 11 9 0 v4.2.length],.gone,Xj v3,.box 81 (Qb2 (v3.getD Jl.toNat Qa.z)),Qbt ([(⟨(v3.getD Jl.toNat Qa.z).Key,IntKind.wrap .i64 (((v3.getD Jl.toNat Qa.z).Key)+1)⟩:Qb)]:List Qb),.box 34 [.d (Xd true ([(⟨(v3.getD Jl.toNat Qa.z).Key,IntKind.wrap .i64 (((v3.getD Jl.toNat Qa.z).Key)+1)⟩:Qb)]:List Qb))],.box 22 [.d (Xq true a0)],.gone,.gone,Jp v4.2]⟩) (by kernel_rfl) ?_
      refine Qm0 [0,5,8,25,26,27] (st':=⟨62,(Zj.p0 a0++[(25,.own 4 2 0 v3.length),(26,.i (v3.length:Int)),(27,.i Jl)]),[.obj (Qb1 (d3 :: gD) (d3 :: gD)),.box 3 [.i a2],.box 22 [.own 11 9 0 v4.2.length],.gone,Xj v3,.box 81 (Qb2 (v3.getD Jl.toNat Qa.z)),Qbt ([(⟨(v3.getD Jl.toNat Qa.z).Key,IntKind.wrap .i64 (((v3.getD Jl.toNat Qa.z).Key)+1)⟩:Qb)]:List Qb),.box 34 [.d (Xd true ([(⟨(v3.getD Jl.toNat Qa.z).Key,IntKind.wrap .i64 (((v3.getD Jl.toNat Qa.z).Key)+1)⟩:Qb)]:List Qb))],.box 22 [.d (Xq true a0)],.gone,.gone,Jp v4.2]⟩) (by kernel_rfl) ?_
      refine Xn hT 6 (K9 1111010 0) [0,1,2,11,4] ⟨62,(Zj.p0 a0++[(25,.own 4 2 0 v3.length),(26,.i (v3.length:Int)),(27,.i (IntKind.wrap .i64 (Jl+1)))]),[.obj (Qb1 (d3 :: gD) (d3 :: gD)),.box 3 [.i a2],.box 22 [.own 3 9 0 v4.2.length],Jp v4.2,Xj v3]⟩ h0 ?_
      exact ih (IntKind.wrap .i64 (Jl+1)) v4.2 (d3 :: gD) H
     replace H:=sF c6 H
     rw [decide_eq_false c6]
     refine Qh hT 8 (K9 11111 1) ⟨62,[(6,.own 3 9 0 Yl.length),(7,.i 0)],[.obj (Qb1 gD gD),.box 3 [.i a2],.box 22 [.own 3 9 0 Yl.length],Jp Yl,Xj v3]⟩ ?_
     obtain rfl:=Yg H
     exact Wjc 0 hf hX h0 (.Qn [.own 3 9 0 Yl.length,.i 0]) [3] (ac (Qa1 Qd.nl) an) (.Qn (.cons (.own _ _ _ _) (.cons (.d (.v _)) .nil)))
  refine Qhm [1,0,2,4,3] ⟨62,(Zj.p0 a0++[(25,.own 4 2 0 v3.length),(26,.i (v3.length:Int)),(27,.i 0)]),[.obj (Qb1 gD gD),.box 3 [.i a2],.box 22 [.own 3 9 0 ([]:List Qd).length],Jp ([]:List Qd),Xj v3]⟩ h0 ?_
  obtain ⟨n,H⟩:=Qbz H
  exact (L n) 0 ([]:List Qd) gD H
 refine Ws (Yk:=[.d (Xq true a0)]) (dst:=some 15) (k':=(K9 1100 2)) [0,1,5,15] [] hP Qnr (Zb.Wv (t0:=true) a0 h1) (by kernel_rfl) (Qz _) (.cons (Qp _) .nil) (st':=⟨62,[(0,.d (Xq true a0)),(1,.d (Xd true a1)),(5,.ptr 0 0 0 0),(15,.b v1)],[.box 3 [.i a2]]⟩) (by kernel_rfl) ?_
 refine Qh hT 2 (K9 1100 4) ⟨62,[(0,.d (Xq true a0)),(1,.d (Xd true a1)),(5,.ptr 0 0 0 0),(17,.b (!v1))],[.box 3 [.i a2]]⟩ ?_
 by_cases c2:v1=true
 ·replace H:=iT c2 H
  rw [c2]
  refine Qh hT 1 (K9 1100 5) ⟨62,[(0,.d (Xq true a0)),(1,.d (Xd true a1)),(5,.ptr 0 0 0 0),(17,.b false),(18,.d (Xd true a1))],[.box 3 [.i a2]]⟩ ?_
  obtain ⟨v2,h3,H⟩:=ibC H
  refine Ws (Yk:=[.d (Xd true a1)]) (dst:=some 19) (k':=(K9 1100 6)) [0,1,5,17,19] [] hP Qiz (Yw.Wv (t0:=true) a1 h3) (by kernel_rfl) (Qz _) (.cons (Qp _) .nil) (st':=⟨62,[(0,.d (Xq true a0)),(1,.d (Xd true a1)),(5,.ptr 0 0 0 0),(17,.b false),(19,.b v2)],[.box 3 [.i a2]]⟩) (by kernel_rfl) ?_
  refine Qh hT 3 (K9 110 1) ⟨62,[(0,.d (Xq true a0)),(1,.d (Xd true a1)),(5,.ptr 0 0 0 0),(21,.b (!v2))],[.box 3 [.i a2]]⟩ ?_
  exact Yn (!v2) H
 replace H:=iF c2 H
 rw [Zz c2]
 refine Qh hT 5 (K9 110 1) ⟨62,[(0,.d (Xq true a0)),(1,.d (Xd true a1)),(5,.ptr 0 0 0 0),(21,.b true)],[.box 3 [.i a2]]⟩ ?_
 exact Yn true H
end
end Go.SyP
