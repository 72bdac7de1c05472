/- Certificates, printed by gen24.py. -/
import Derived.Test.YtdndobkfnmommaaGreatG24zWC
import Derived.Test.YtdndobkfnmommaaGreatG24zB
import Derived.Test.YtdndobkfnmommaaGreatG24zBP
set_option linter.unusedVariables false
set_option linter.unusedSimpArgs false
namespace Go.SyP
open Go Go.Sy Go.Proofs
noncomputable section
abbrev Ql.q1:=([(⟨1,1,(⟨1,1,1,([(⟨5,7⟩:Qa)]:List Qa),(⟨0,0⟩:Qb),0⟩:Qn),0,(⟨0,false⟩:Ze),0⟩:Wn),(⟨2,1,(⟨0,0,0,([]:List Qa),(⟨0,0⟩:Qb),0⟩:Qn),5,(⟨7,true⟩:Ze),0⟩:Wn),(⟨2,1,(⟨0,0,0,([]:List Qa),(⟨0,0⟩:Qb),0⟩:Qn),5,(⟨7,true⟩:Ze),4⟩:Wn)]:List Wn)
abbrev Ql.q2:=((Ql.q1).set 2 (⟨((Ql.q1).getD 2 Wn.z).Kind,((Ql.q1).getD 2 Wn.z).Client,(((Ql.q1).getD 2 Wn.z).M),((Ql.q1).getD 2 Wn.z).Key,(⟨8,(((Ql.q1).getD 2 Wn.z).Cell).Some⟩:Ze),((Ql.q1).getD 2 Wn.z).Mark⟩:Wn))
abbrev Ql.q3:=([(⟨(⟨1,1,1,([(⟨5,7⟩:Qa)]:List Qa),(⟨0,0⟩:Qb),0⟩:Qn),3,true⟩:Qe)]:List Qe)
abbrev Ql.q4 (v1:(List Yt) × Int) (v2:(List Yt) × Int):List Row:=[Qe0 ([(⟨5,7⟩:Qa)]:List Qa),.box 39 [.i 1,.i 1,.i 1,.own 0 2 0 1,.i 0,.i 0,.i 0],Qb6 (Ql.q3),.box 36 [.i 7,.b true],Qzh (Ql.q2),Qf1 v1.1,Qf1 v2.1]
abbrev Ql.q5:=([(⟨5,7⟩:Qa)]:List Qa)
abbrev Ql.q6:List AV:=[.i 1,.i 1,.i 1,.own 0 2 0 1,.i 0,.i 0,.i 0]
abbrev Ql.q7 (v1:(List Yt) × Int):List Row:=[Qe0 (Ql.q5),.box 39 (Ql.q6),Qb6 (Ql.q3),.box 36 [.i 7,.b true],Qzh (Ql.q1),Qf1 v1.1]
abbrev Ql.p0:List (Nat × AV):=[(2,.own 2 9 0 ((Ql.q3).length)),(4,.own 4 13 0 ((Ql.q1).length))]
theorem Ql.Wv {r:Bool} (H:Ql=some r):Zd Tryz.prog 7 [] [] [] (.b r):=by
 refine Ye Tryz.func7 rfl (nt:=62) rfl (lb rfl) fun X hP h0 hX=>?_
 have hT:Xo X.P T:=hP▸tok
 have hf:X.P.funcs[7]? = some Tryz.f7:=hP▸Tryz.func7
 refine Qh hT 16 (K7 1110 2) ⟨62,[(1,.ptr 1 0 0 0),(13,.agg [.i 1,.i 1,.i 1,.own 0 2 0 1,.i 0,.i 0,.i 0,.i 3,.b true])],[.flat false 2 81 1 (fun j=>[[.i 5,.i 7]].getD j []),.box 39 (Ql.q6)]⟩ ?_
 refine Qfd 0 (kk:=2) (fz:=false) (ty:=81) (n:=(Ql.q5).length) (vec Qa.e Qa.z (Ql.q5)) (by kernel_rfl) Qep (st':=⟨62,[(1,.ptr 1 0 0 0),(13,.agg [.i 1,.i 1,.i 1,.own 0 2 0 1,.i 0,.i 0,.i 0,.i 3,.b true])],[Xk (Ql.q5),.box 39 (Ql.q6)]⟩) (by kernel_rfl) ?_
 refine Qcf 0 (kk:=2) (n:=(Ql.q5).length) (ty:=81) (g:=vec Qa.e Qa.z (Ql.q5)) (by kernel_rfl) (st':=⟨62,[(1,.ptr 1 0 0 0),(13,.agg [.i 1,.i 1,.i 1,.own 0 2 0 1,.i 0,.i 0,.i 0,.i 3,.b true])],[Qe0 (Ql.q5),.box 39 (Ql.q6)]⟩) (by kernel_rfl) ?_
 refine Qeu (av:=.agg [.i 1,.i 1,.i 1,.own 0 2 0 1,.i 0,.i 0,.i 0,.i 3,.b true]) (y:=.agg [.i 1,.i 1,.i 1,Yb true (Ql.q5),.i 0,.i 0,.i 0,.i 3,.b true]) [1,13] 13 (st':=⟨62,[(1,.ptr 1 0 0 0),(13,.d (.agg [.i 1,.i 1,.i 1,Yb true (Ql.q5),.i 0,.i 0,.i 0,.i 3,.b true]))],[Qe0 (Ql.q5),.box 39 (Ql.q6)]⟩) (by kernel_rfl) (.agg (.cons (.d _) (.cons (.d _) (.cons (.d _) (.cons (.own (ty:=81) (k:=2) (by kernel_rfl)) (.cons (.d _) (.cons (.d _) (.cons (.d _) (.cons (.d _) (.cons (.d _) .nil)))))))))) (by kernel_rfl) ?_
 refine Qh hT 17 (K7 111110 6) ⟨62,[(2,.own 2 9 0 1),(17,.agg [.i 1,.i 1,.i 1,.i 1,.i 1,.own 0 2 0 1,.i 0,.i 0,.i 0,.i 0,.i 0,.b false,.i 0]),(19,.d (.agg [.i 2,.i 1,.i 0,.i 0,.i 0,.ns,.i 0,.i 0,.i 0,.i 5,.i 7,.b true,.i 0])),(21,.d (.agg [.i 2,.i 1,.i 0,.i 0,.i 0,.ns,.i 0,.i 0,.i 0,.i 5,.i 7,.b true,.i 4]))],[Qe0 (Ql.q5),.box 39 (Ql.q6),.flat false 9 41 1 (fun j=>[[.i 1,.i 1,.i 1,Yb true (Ql.q5),.i 0,.i 0,.i 0,.i 3,.b true]].getD j []),.box 36 [.i 7,.b true]]⟩ ?_
 refine Qeu (av:=.agg [.i 1,.i 1,.i 1,.i 1,.i 1,.own 0 2 0 1,.i 0,.i 0,.i 0,.i 0,.i 0,.b false,.i 0]) (y:=.agg [.i 1,.i 1,.i 1,.i 1,.i 1,Yb true (Ql.q5),.i 0,.i 0,.i 0,.i 0,.i 0,.b false,.i 0]) [2,17,19,21] 17 (st':=⟨62,[(2,.own 2 9 0 1),(17,.d (.agg [.i 1,.i 1,.i 1,.i 1,.i 1,Yb true (Ql.q5),.i 0,.i 0,.i 0,.i 0,.i 0,.b false,.i 0])),(19,.d (.agg [.i 2,.i 1,.i 0,.i 0,.i 0,.ns,.i 0,.i 0,.i 0,.i 5,.i 7,.b true,.i 0])),(21,.d (.agg [.i 2,.i 1,.i 0,.i 0,.i 0,.ns,.i 0,.i 0,.i 0,.i 5,.i 7,.b true,.i 4]))],[Qe0 (Ql.q5),.box 39 (Ql.q6),.flat false 9 41 1 (fun j=>[[.i 1,.i 1,.i 1,Yb true (Ql.q5),.i 0,.i 0,.i 0,.i 3,.b true]].getD j []),.box 36 [.i 7,.b true]]⟩) (by kernel_rfl) (.agg (.cons (.d _) (.cons (.d _) (.cons (.d _) (.cons (.d _) (.cons (.d _) (.cons (.own (ty:=81) (k:=2) (by kernel_rfl)) (.cons (.d _) (.cons (.d _) (.cons (.d _) (.cons (.d _) (.cons (.d _) (.cons (.d _) (.cons (.d _) .nil)))))))))))))) (by kernel_rfl) ?_
 refine Qeu (av:=.d (.agg [.i 2,.i 1,.i 0,.i 0,.i 0,.ns,.i 0,.i 0,.i 0,.i 5,.i 7,.b true,.i 0])) (y:=.agg [.i 2,.i 1,.i 0,.i 0,.i 0,Yb true ([]:List Qa),.i 0,.i 0,.i 0,.i 5,.i 7,.b true,.i 0]) [2,17,19,21] 19 (st':=⟨62,[(2,.own 2 9 0 1),(17,.d (.agg [.i 1,.i 1,.i 1,.i 1,.i 1,Yb true (Ql.q5),.i 0,.i 0,.i 0,.i 0,.i 0,.b false,.i 0])),(19,.d (.agg [.i 2,.i 1,.i 0,.i 0,.i 0,Yb true ([]:List Qa),.i 0,.i 0,.i 0,.i 5,.i 7,.b true,.i 0])),(21,.d (.agg [.i 2,.i 1,.i 0,.i 0,.i 0,.ns,.i 0,.i 0,.i 0,.i 5,.i 7,.b true,.i 4]))],[Qe0 (Ql.q5),.box 39 (Ql.q6),.flat false 9 41 1 (fun j=>[[.i 1,.i 1,.i 1,Yb true (Ql.q5),.i 0,.i 0,.i 0,.i 3,.b true]].getD j []),.box 36 [.i 7,.b true]]⟩) (by kernel_rfl) (.Qs9 (.cons (.d _) (.cons (.d _) (.cons (.d _) (.cons (.d _) (.cons (.d _) (.cons (.nil _) (.cons (.d _) (.cons (.d _) (.cons (.d _) (.cons (.d _) (.cons (.d _) (.cons (.d _) (.cons (.d _) .nil)))))))))))))) (by kernel_rfl) ?_
 refine Qeu (av:=.d (.agg [.i 2,.i 1,.i 0,.i 0,.i 0,.ns,.i 0,.i 0,.i 0,.i 5,.i 7,.b true,.i 4])) (y:=.agg [.i 2,.i 1,.i 0,.i 0,.i 0,Yb true ([]:List Qa),.i 0,.i 0,.i 0,.i 5,.i 7,.b true,.i 4]) [2,17,19,21] 21 (st':=⟨62,[(2,.own 2 9 0 1),(17,.d (.agg [.i 1,.i 1,.i 1,.i 1,.i 1,Yb true (Ql.q5),.i 0,.i 0,.i 0,.i 0,.i 0,.b false,.i 0])),(19,.d (.agg [.i 2,.i 1,.i 0,.i 0,.i 0,Yb true ([]:List Qa),.i 0,.i 0,.i 0,.i 5,.i 7,.b true,.i 0])),(21,.d (.agg [.i 2,.i 1,.i 0,.i 0,.i 0,Yb true ([]:List Qa),.i 0,.i 0,.i 0,.i 5,.i 7,.b true,.i 4]))],[Qe0 (Ql.q5),.box 39 (Ql.q6),.flat false 9 41 1 (fun j=>[[.i 1,.i 1,.i 1,Yb true (Ql.q5),.i 0,.i 0,.i 0,.i 3,.b true]].getD j []),.box 36 [.i 7,.b true]]⟩) (by kernel_rfl) (.Qs9 (.cons (.d _) (.cons (.d _) (.cons (.d _) (.cons (.d _) (.cons (.d _) (.cons (.nil _) (.cons (.d _) (.cons (.d _) (.cons (.d _) (.cons (.d _) (.cons (.d _) (.cons (.d _) (.cons (.d _) .nil)))))))))))))) (by kernel_rfl) ?_
 refine Qh hT 7 (K7 1111110 2) ⟨62,[(2,.own 2 9 0 1),(4,.own 4 13 0 3),(24,.own 2 9 0 1),(25,.own 4 13 0 3)],[Qe0 (Ql.q5),.box 39 (Ql.q6),.flat false 9 41 1 (fun j=>[[.i 1,.i 1,.i 1,Yb true (Ql.q5),.i 0,.i 0,.i 0,.i 3,.b true]].getD j []),.box 36 [.i 7,.b true],.flat false 13 74 3 (fun j=>[[.i 1,.i 1,.i 1,.i 1,.i 1,Yb true (Ql.q5),.i 0,.i 0,.i 0,.i 0,.i 0,.b false,.i 0],[.i 2,.i 1,.i 0,.i 0,.i 0,Yb true ([]:List Qa),.i 0,.i 0,.i 0,.i 5,.i 7,.b true,.i 0],[.i 2,.i 1,.i 0,.i 0,.i 0,Yb true ([]:List Qa),.i 0,.i 0,.i 0,.i 5,.i 7,.b true,.i 4]].getD j [])]⟩ ?_
 refine Qfd 2 (kk:=9) (fz:=false) (ty:=41) (n:=(Ql.q3).length) (vec Qe.e Qe.z (Ql.q3)) (by kernel_rfl) Qep (st':=⟨62,[(2,.own 2 9 0 ((Ql.q3).length)),(4,.own 4 13 0 3),(24,.own 2 9 0 ((Ql.q3).length)),(25,.own 4 13 0 3)],[Qe0 (Ql.q5),.box 39 (Ql.q6),Qb6 (Ql.q3),.box 36 [.i 7,.b true],.flat false 13 74 3 (fun j=>[[.i 1,.i 1,.i 1,.i 1,.i 1,Yb true (Ql.q5),.i 0,.i 0,.i 0,.i 0,.i 0,.b false,.i 0],[.i 2,.i 1,.i 0,.i 0,.i 0,Yb true ([]:List Qa),.i 0,.i 0,.i 0,.i 5,.i 7,.b true,.i 0],[.i 2,.i 1,.i 0,.i 0,.i 0,Yb true ([]:List Qa),.i 0,.i 0,.i 0,.i 5,.i 7,.b true,.i 4]].getD j [])]⟩) (by kernel_rfl) ?_
 refine Qfd 4 (kk:=13) (fz:=false) (ty:=74) (n:=(Ql.q1).length) (vec Wn.e Wn.z (Ql.q1)) (by kernel_rfl) Qep (st':=⟨62,(Ql.p0++[(24,.own 2 9 0 ((Ql.q3).length)),(25,.own 4 13 0 ((Ql.q1).length))]),[Qe0 (Ql.q5),.box 39 (Ql.q6),Qb6 (Ql.q3),.box 36 [.i 7,.b true],Qzh (Ql.q1)]⟩) (by kernel_rfl) ?_
 obtain ⟨v1,h1,H⟩:=ibC H
 refine Wx (Yh:=[.own 2 9 0 ((Ql.q3).length),.own 4 13 0 ((Ql.q1).length)]) (dst:=some 26) (k':=(K7 1111110 3)) [2,4,26] [] hP Qua (Jz.Wv (t0:=false) (t1:=false) (Ql.q3) (Ql.q1) h1) (by kernel_rfl) (Wh _) (.cons (.Qds (ty:=41) (by kernel_rfl) rfl) (.cons (.Qds (ty:=74) (by kernel_rfl) rfl) .nil)) (st':=⟨62,(Ql.p0++[(26,.Qo [.own 5 2 0 v1.1.length,.i v1.2])]),(Ql.q7 v1)⟩) (by kernel_rfl) ?_
 refine Qh hT 9 (K7 11111110 1) ⟨62,(Ql.p0++[(5,.own 5 2 0 v1.1.length),(6,.i v1.2),(29,.own 4 13 0 ((Ql.q1).length))]),(Ql.q7 v1)⟩ ?_
 obtain ⟨h2,H⟩:=iC H
 refine Zv hT [2,4,5,6,30] (i:=2) (n:=((Ql.q1).length:Int)) h2.1 h2.2 (k':=(K7 11111110 2)) (st':=⟨62,(Ql.p0++[(5,.own 5 2 0 v1.1.length),(6,.i v1.2),(30,.ptr 4 13 2 0)]),(Ql.q7 v1)⟩) (by kernel_rfl) ?_
 refine Qh hT 2 (K7 11111110 4) ⟨62,(Ql.p0++[(5,.own 5 2 0 v1.1.length),(6,.i v1.2),(32,.ptr 4 13 2 10)]),(Ql.q7 v1)⟩ ?_
 refine Qsa (id:=4) (kk:=13) (i:=2) (off:=10) (s:=1) (n:=(Ql.q1).length) (ty:=74) (ds:=[.i 8]) (g:=vec Wn.e Wn.z (Ql.q1)) (k':=(K7 11111110 5)) hT [2,4,5,6] (vec Wn.e Wn.z (Ql.q2)) (by kernel_rfl) (by kernel_rfl) (by first | omega | decide) ((Qm2 (by first | omega | decide)).trans (by kernel_rfl)) Qjh (st':=⟨62,(Ql.p0++[(5,.own 5 2 0 v1.1.length),(6,.i v1.2)]),[.flat true 2 81 (Ql.q5).length (vec Qa.e Qa.z (Ql.q5)),.box 39 (Ql.q6),.flat false 9 41 (Ql.q3).length (vec Qe.e Qe.z (Ql.q3)),.box 36 [.i 7,.b true],.flat false 13 74 (Ql.q1).length (vec Wn.e Wn.z (Ql.q2)),.flat false 2 86 v1.1.length (vec Yt.e Yt.z v1.1)]⟩) (by kernel_rfl) ?_
 refine Qpt (show (Ql.q1).length=(Ql.q2).length from (List.length_set ..).symm) (fun nn=>⟨62,[(2,.own 2 9 0 ((Ql.q3).length)),(4,.own 4 13 0 (nn)),(5,.own 5 2 0 v1.1.length),(6,.i v1.2)],[.flat true 2 81 (Ql.q5).length (vec Qa.e Qa.z (Ql.q5)),.box 39 (Ql.q6),.flat false 9 41 (Ql.q3).length (vec Qe.e Qe.z (Ql.q3)),.box 36 [.i 7,.b true],.flat false 13 74 nn (vec Wn.e Wn.z (Ql.q2)),.flat false 2 86 v1.1.length (vec Yt.e Yt.z v1.1)]⟩) ?_
 refine Qh hT 5 (K7 111111110 2) ⟨62,[(5,.own 5 2 0 v1.1.length),(6,.i v1.2),(34,.own 2 9 0 ((Ql.q3).length)),(35,.own 4 13 0 ((Ql.q2).length))],[Qe0 (Ql.q5),.box 39 (Ql.q6),Qb6 (Ql.q3),.box 36 [.i 7,.b true],Qzh (Ql.q2),Qf1 v1.1]⟩ ?_
 obtain ⟨v2,h3,H⟩:=ibC H
 have Yv:∀ (Qtu:Bool),(Ql.j1 Qtu)=some r->AK X 7 ((K7 111111111 1)) (Yq X [] (.b r)) ⟨62,[(0,.b Qtu)],[]⟩:=by
  intro Qtu H
  obtain rfl:=Yi H
  exact Ym hf hX h0 (.b Qtu) [] an (.d (.v _))
 refine Wx (Yh:=[.own 2 9 0 ((Ql.q3).length),.own 4 13 0 ((Ql.q2).length)]) (dst:=some 36) (k':=(K7 111111110 3)) [5,6,36] [] hP Qua (Jz.Wv (t0:=false) (t1:=false) (Ql.q3) (Ql.q2) h3) (by kernel_rfl) (Wh _) (.cons (.Qds (ty:=41) (by kernel_rfl) rfl) (.cons (.Qds (ty:=74) (by kernel_rfl) rfl) .nil)) (st':=⟨62,[(5,.own 5 2 0 v1.1.length),(6,.i v1.2),(36,.Qo [.own 6 2 0 v2.1.length,.i v2.2])],(Ql.q4 v1 v2)⟩) (by kernel_rfl) ?_
 refine Qh hT 11 (K7 1111111110 3) ⟨62,[(5,.own 5 2 0 v1.1.length),(7,.own 6 2 0 v2.1.length),(8,.i v2.2),(41,.b (v1.2 == 0))],(Ql.q4 v1 v2)⟩ ?_
 by_cases c4:v1.2=0
 ·replace H:=iT c4 H
  rw [eqT c4]
  refine Qh hT 5 (K7 1111111110 8) ⟨62,[(7,.own 6 2 0 v2.1.length),(8,.i v2.2),(46,.b ((v1.1.length:Int) == 0))],(Ql.q4 v1 v2)⟩ ?_
  by_cases c5:(v1.1.length:Int)=0
  ·replace H:=iT c5 H
   rw [eqT c5]
   refine Qh hT 4 (K7 1111111110 12) ⟨62,[(7,.own 6 2 0 v2.1.length),(50,.b (v2.2 == 0))],(Ql.q4 v1 v2)⟩ ?_
   by_cases c6:v2.2=0
   ·replace H:=iT c6 H
    rw [eqT c6]
    refine Qh hT 5 (K7 1111111110 17) ⟨62,[(7,.own 6 2 0 v2.1.length),(55,.b ((v2.1.length:Int) == 1))],(Ql.q4 v1 v2)⟩ ?_
    by_cases c7:(v2.1.length:Int)=1
    ·replace H:=iT c7 H
     rw [eqT c7]
     refine Qh hT 1 (K7 1111111110 18) ⟨62,[(55,.b true),(56,.own 6 2 0 v2.1.length)],(Ql.q4 v1 v2)⟩ ?_
     obtain ⟨h8,H⟩:=iC H
     refine Zv hT [55,57] (i:=0) (n:=(v2.1.length:Int)) h8.1 h8.2 (k':=(K7 1111111110 19)) (st':=⟨62,[(55,.b true),(57,.ptr 6 2 0 0)],(Ql.q4 v1 v2)⟩) (by kernel_rfl) ?_
     refine Qr7 hT [55,58] (i:=0) (n:=v2.1.length) (by first | omega | decide) (k':=(K7 1111111110 20)) (st':=⟨62,[(55,.b true),(58,.d (Wju (v2.1.getD 0 Yt.z)))],(Ql.q4 v1 v2)⟩) (by kernel_rfl) ?_
     refine Xq hT 5 (K7 111111111 1) [] ⟨62,[(0,.b ((((v2.1.getD 0 Yt.z).At) == 2) && (((v2.1.getD 0 Yt.z).Why) == 4)))],[]⟩ h0 ?_
     exact Yv ((((v2.1.getD 0 Yt.z).At) == 2) && (((v2.1.getD 0 Yt.z).Why) == 4)) H
    replace H:=iF c7 H
    rw [eqF c7]
    refine Xq hT 8 (K7 111111111 1) [] ⟨62,[(0,.b false)],[]⟩ h0 ?_
    exact Yv false H
   replace H:=iF c6 H
   rw [eqF c6]
   refine Xq hT 13 (K7 111111111 1) [] ⟨62,[(0,.b false)],[]⟩ h0 ?_
   exact Yv false H
  replace H:=iF c5 H
  rw [eqF c5]
  refine Xq hT 17 (K7 111111111 1) [] ⟨62,[(0,.b false)],[]⟩ h0 ?_
  exact Yv false H
 replace H:=iF c4 H
 rw [eqF c4]
 refine Xq hT 22 (K7 111111111 1) [] ⟨62,[(0,.b false)],[]⟩ h0 ?_
 exact Yv false H
abbrev Xc.p0 (t0:Bool) (a0:List Qd):List (Nat × AV):=[(0,.d (Yl t0 a0))]
theorem Xc.Wv {t0:Bool} (a0:List Qd) {r:Bool} (H:Xc a0=some r):Zd Tryz.prog 63 [] [.d (Yl t0 a0)] [] (.b r):=by
 refine Ye Tryz.func63 rfl (nt:=56) rfl (lb rfl) fun X hP h0 hX=>?_
 have hT:Xo X.P T:=hP▸tok
 have hf:X.P.funcs[63]? = some Tryz.f63:=hP▸Tryz.func63
 refine Qh hT 11 (K63 11010 0) ⟨56,(Xc.p0 t0 a0++[(3,.i 0)]),[]⟩ ?_
 have L:∀ n,(∀ (Wi:Int),iter (Xc.step a0) n (.l1 Wi)=some r->AK X 63 ((K63 11010 0)) (Yq X [] (.b r)) ⟨56,(Xc.p0 t0 a0++[(3,.i Wi)]),[]⟩):=by
  intro n
  induction n with
  | zero=>exact fun _ H=>Qay H
  | succ n ih=>
   ·intro Wi H
    refine Qh hT 8 (K63 1101000 1) ⟨56,(Xc.p0 t0 a0++[(3,.i Wi),(7,.b (decide (Wi < (a0.length:Int))))]),[]⟩ ?_
    by_cases c1:Wi < (a0.length:Int)
    ·replace H:=sT c1 H
     rw [decide_eq_true c1]
     refine Qh hT 2 (K63 110100 1) ⟨56,(Xc.p0 t0 a0++[(3,.i Wi)]),[]⟩ ?_
     refine Qh hT 7 (K63 11010010000 2) ⟨56,(Xc.p0 t0 a0++[(3,.i Wi),(10,.d (Yl t0 a0)),(11,.i Wi)]),[]⟩ ?_
     obtain ⟨h2,H⟩:=sC H
     have Yv:∀ (Qqk:Bool),stk (Xc.j1 a0 Wi Qqk) (iter (Xc.step a0) n)=some r->AK X 63 ((K63 1101001000 1)) (Yq X [] (.b r)) ⟨56,(Xc.p0 t0 a0++[(3,.i Wi),(39,.b Qqk)]),[]⟩:=by
      intro Qqk H
      by_cases c6:Qqk=true
      ·replace H:=sT c6 H
       rw [c6]
       refine Qh hT 5 (K63 110100100010 1) ⟨56,[(2,.b false)],[]⟩ ?_
       obtain rfl:=Yi H
       exact Ym hf hX h0 (.b false) [] an (.d (.v _))
      replace H:=sF c6 H
      have Jj2:∀ (Qfy:Bool),stk (Xc.j2 Wi Qfy) (iter (Xc.step a0) n)=some r->AK X 63 ((K63 1101001001 1)) (Yq X [] (.b r)) ⟨56,(Xc.p0 t0 a0++[(3,.i Wi),(55,.b Qfy)]),[]⟩:=by
       intro Qfy H
       by_cases c9:Qfy=true
       ·replace H:=sT c9 H
        rw [c9]
        refine Qh hT 5 (K63 110100100110 1) ⟨56,[(2,.b false)],[]⟩ ?_
        obtain rfl:=Yi H
        exact Ym hf hX h0 (.b false) [] an (.d (.v _))
       replace H:=sF c9 H
       rw [Jk c9]
       refine Qh hT 3 (K63 1101001 1) ⟨56,(Xc.p0 t0 a0++[(3,.i Wi)]),[]⟩ ?_
       refine Qh hT 6 (K63 11010 0) ⟨56,(Xc.p0 t0 a0++[(3,.i (IntKind.wrap .i64 (Wi+1)))]),[]⟩ ?_
       exact ih (IntKind.wrap .i64 (Wi+1)) H
      rw [Jk c6]
      refine Qh hT 2 (K63 110100100 1) ⟨56,(Xc.p0 t0 a0++[(3,.i Wi)]),[]⟩ ?_
      refine Qh hT 1 (K63 1101001001 0) ⟨56,(Xc.p0 t0 a0++[(3,.i Wi)]),[]⟩ ?_
      by_cases c7:Wi > 0
      ·replace H:=sT c7 H
       obtain ⟨h8,H⟩:=sC H
       refine Qbp (hP▸mixed) 16 [0,3] (sm [.i Wi,.b true,.b true,.d (Yl t0 a0),.i Wi,.d (Qcn t0 a0 Wi.toNat 0),.d (Qcn t0 a0 Wi.toNat 0),.i ((a0.getD Wi.toNat Qd.z).Key),.d (Yl t0 a0),.i Wi,.i (IntKind.wrap .i64 (Wi - 1)),.d (Qcn t0 a0 ((IntKind.wrap .i64 (Wi - 1)).toNat) 0),.d (Qcn t0 a0 ((IntKind.wrap .i64 (Wi - 1)).toNat) 0),.i ((a0.getD ((IntKind.wrap .i64 (Wi - 1)).toNat) Qd.z).Key),.b (decide (((a0.getD Wi.toNat Qd.z).Key)<=((a0.getD ((IntKind.wrap .i64 (Wi - 1)).toNat) Qd.z).Key))),.b (decide (((a0.getD Wi.toNat Qd.z).Key)<=((a0.getD ((IntKind.wrap .i64 (Wi - 1)).toNat) Qd.z).Key)))]) (Qj (Qj (Qj (Qj (opS (Qj (Qj (Qj (Qj (Qj (opS (Qj (Qj (Qj (opV (Qj op0 hT) hT 41 (.b (decide (Wi > 0))) (.b true) (by rw [decide_eq_true c7]<;>rfl)) hT) hT) hT) (fun R rest h=>Xw hT (i:=Wi) (n:=(a0.length:Int)) h2.1 h2.2 (by kernel_rfl) h)) hT) hT) hT) hT) hT) (fun R rest h=>Xw hT (i:=IntKind.wrap .i64 (Wi - 1)) (n:=(a0.length:Int)) h8.1 h8.2 (by kernel_rfl) h)) hT) hT) hT) hT) ?_
       refine Qh hT 1 (K63 1101001001 1) ⟨56,(Xc.p0 t0 a0++[(3,.i Wi),(55,.b (decide (((a0.getD Wi.toNat Qd.z).Key)<=((a0.getD ((IntKind.wrap .i64 (Wi - 1)).toNat) Qd.z).Key))))]),[]⟩ ?_
       exact Jj2 (decide (((a0.getD Wi.toNat Qd.z).Key)<=((a0.getD ((IntKind.wrap .i64 (Wi - 1)).toNat) Qd.z).Key))) H
      replace H:=sF c7 H
      refine Qbp (hP▸mixed) 16 [0,3] (sm [.i Wi,.b false,.b false,.Qo [],.Qo [],.Qo [],.Qo [],.Qo [],.Qo [],.Qo [],.Qo [],.Qo [],.Qo [],.Qo [],.Qo [],.b false]) (Qj (Qj (Qj (Qj (Qj (Qj (Qj (Qj (Qj (Qj (Qj (Qj (Qj (Qj (opV (Qj op0 hT) hT 41 (.b (decide (Wi > 0))) (.b false) (by rw [decide_eq_false c7]<;>rfl)) hT) hT) hT) hT) hT) hT) hT) hT) hT) hT) hT) hT) hT) hT) ?_
      refine Qh hT 1 (K63 1101001001 1) ⟨56,(Xc.p0 t0 a0++[(3,.i Wi),(55,.b false)]),[]⟩ ?_
      exact Jj2 false H
     refine Zv hT [0,3,12] (i:=Wi) (n:=(a0.length:Int)) h2.1 h2.2 (k':=(K63 11010010000 3)) (st':=⟨56,(Xc.p0 t0 a0++[(3,.i Wi),(12,.d (Qcn t0 a0 Wi.toNat 0))]),[]⟩) (by kernel_rfl) ?_
     refine Qh hT 4 (K63 11010010000 7) ⟨56,(Xc.p0 t0 a0++[(3,.i Wi),(16,.b (decide (((a0.getD Wi.toNat Qd.z).Key) < 0)))]),[]⟩ ?_
     by_cases c3:((a0.getD Wi.toNat Qd.z).Key) < 0
     ·replace H:=sT c3 H
      rw [decide_eq_true c3]
      refine Qh hT 24 (K63 1101001000 1) ⟨56,(Xc.p0 t0 a0++[(3,.i Wi),(39,.b true)]),[]⟩ ?_
      exact Yv true H
     replace H:=sF c3 H
     rw [decide_eq_false c3]
     refine Qh hT 2 (K63 11010010000 9) ⟨56,(Xc.p0 t0 a0++[(3,.i Wi),(16,.b false),(17,.d (Yl t0 a0)),(18,.i Wi)]),[]⟩ ?_
     refine Zv hT [0,3,16,19] (i:=Wi) (n:=(a0.length:Int)) h2.1 h2.2 (k':=(K63 11010010000 10)) (st':=⟨56,(Xc.p0 t0 a0++[(3,.i Wi),(16,.b false),(19,.d (Qcn t0 a0 Wi.toNat 0))]),[]⟩) (by kernel_rfl) ?_
     refine Qh hT 5 (K63 11010010000 15) ⟨56,(Xc.p0 t0 a0++[(3,.i Wi),(24,.b (decide (((a0.getD Wi.toNat Qd.z).Key) > 4095)))]),[]⟩ ?_
     by_cases c4:((a0.getD Wi.toNat Qd.z).Key) > 4095
     ·replace H:=sT c4 H
      rw [decide_eq_true c4]
      refine Qh hT 16 (K63 1101001000 1) ⟨56,(Xc.p0 t0 a0++[(3,.i Wi),(39,.b true)]),[]⟩ ?_
      exact Yv true H
     replace H:=sF c4 H
     rw [decide_eq_false c4]
     refine Qh hT 2 (K63 11010010000 17) ⟨56,(Xc.p0 t0 a0++[(3,.i Wi),(24,.b false),(25,.d (Yl t0 a0)),(26,.i Wi)]),[]⟩ ?_
     refine Zv hT [0,3,24,27] (i:=Wi) (n:=(a0.length:Int)) h2.1 h2.2 (k':=(K63 11010010000 18)) (st':=⟨56,(Xc.p0 t0 a0++[(3,.i Wi),(24,.b false),(27,.d (Qcn t0 a0 Wi.toNat 0))]),[]⟩) (by kernel_rfl) ?_
     refine Qh hT 5 (K63 11010010000 23) ⟨56,(Xc.p0 t0 a0++[(3,.i Wi),(32,.b (decide (((a0.getD Wi.toNat Qd.z).Val) < (-1099511627776))))]),[]⟩ ?_
     by_cases c5:((a0.getD Wi.toNat Qd.z).Val) < (-1099511627776)
     ·replace H:=sT c5 H
      rw [decide_eq_true c5]
      refine Qh hT 8 (K63 1101001000 1) ⟨56,(Xc.p0 t0 a0++[(3,.i Wi),(39,.b true)]),[]⟩ ?_
      exact Yv true H
     replace H:=sF c5 H
     rw [decide_eq_false c5]
     refine Qh hT 2 (K63 11010010000 25) ⟨56,(Xc.p0 t0 a0++[(3,.i Wi),(32,.b false),(33,.d (Yl t0 a0)),(34,.i Wi)]),[]⟩ ?_
     refine Zv hT [0,3,32,35] (i:=Wi) (n:=(a0.length:Int)) h2.1 h2.2 (k':=(K63 11010010000 26)) (st':=⟨56,(Xc.p0 t0 a0++[(3,.i Wi),(32,.b false),(35,.d (Qcn t0 a0 Wi.toNat 0))]),[]⟩) (by kernel_rfl) ?_
     refine Qh hT 5 (K63 1101001000 1) ⟨56,(Xc.p0 t0 a0++[(3,.i Wi),(39,.b (decide (((a0.getD Wi.toNat Qd.z).Val) > 1099511627776)))]),[]⟩ ?_
     exact Yv (decide (((a0.getD Wi.toNat Qd.z).Val) > 1099511627776)) H
    replace H:=sF c1 H
    rw [decide_eq_false c1]
    refine Qh hT 6 (K63 111 1) ⟨56,[(2,.b true)],[]⟩ ?_
    obtain rfl:=Yi H
    exact Ym hf hX h0 (.b true) [] an (.d (.v _))
 obtain ⟨n,H⟩:=Qbu H
 exact (L n) 0 H
abbrev Wq.p0 (t0:Bool) (a0:List Int) (a1:Int):List (Nat × AV):=[(0,.d (eL3 t0 a0)),(1,.i a1)]
theorem Wq.Wv {t0:Bool} (a0:List Int) (a1:Int) {r:List Int} (H:Wq a0 a1=some r):Zd Tryz.prog 114 [] [.d (eL3 t0 a0),.i a1] [eR3 r] (.own 0 1 0 r.length):=by
 refine Ye Tryz.func114 rfl (nt:=48) rfl (lb rfl) fun X hP h0 hX=>?_
 have hT:Xo X.P T:=hP▸tok
 have hf:X.P.funcs[114]? = some Tryz.f114:=hP▸Tryz.func114
 refine Qh hT 19 (Qee 1111010 0) ⟨48,(Wq.p0 t0 a0 a1++[(5,.ns),(6,.b false),(7,.i 0)]),[]⟩ ?_
 refine Qb8 [0,1,5,6,7] 5 1 3 (vec (eI .i64) 0 []) (st':=⟨48,(Wq.p0 t0 a0 a1++[(5,.own 0 1 0 0),(6,.b false),(7,.i 0)]),[eR3 ([]:List Int)]⟩) (by kernel_rfl) (by kernel_rfl) ?_
 have L:∀ n,(∀ (Jg:Bool) (Qr:Int) (Qi:List Int),iter (Wq.step a0 a1) n (.l1 Jg Qr Qi)=some r->AK X 114 ((Qee 1111010 0)) (Yq X [eR3 r] (.own 0 1 0 r.length)) ⟨48,(Wq.p0 t0 a0 a1++[(5,.own 0 1 0 Qi.length),(6,.b Jg),(7,.i Qr)]),[eR3 Qi]⟩):=by
  intro n
  induction n with
  | zero=>exact fun _ _ _ H=>Qay H
  | succ n ih=>
   ·intro Jg Qr Qi H
    refine Qh hT 8 (Qee 111101000 1) ⟨48,(Wq.p0 t0 a0 a1++[(5,.own 0 1 0 Qi.length),(6,.b Jg),(7,.i Qr),(11,.b (decide (Qr < (a0.length:Int))))]),[eR3 Qi]⟩ ?_
    by_cases c1:Qr < (a0.length:Int)
    ·replace H:=sT c1 H
     rw [decide_eq_true c1]
     refine Qh hT 2 (Qee 11110100 1) ⟨48,(Wq.p0 t0 a0 a1++[(5,.own 0 1 0 Qi.length),(6,.b Jg),(7,.i Qr)]),[eR3 Qi]⟩ ?_
     refine Qh hT 7 (Qee 1111010010000 2) ⟨48,(Wq.p0 t0 a0 a1++[(5,.own 0 1 0 Qi.length),(6,.b Jg),(7,.i Qr),(14,.d (eL3 t0 a0)),(15,.i Qr)]),[eR3 Qi]⟩ ?_
     obtain ⟨h4,H⟩:=sC H
     have Jj2:∀ (Qpn:Bool),stk (Wq.j2 a0 a1 Qr Qi Qpn) (iter (Wq.step a0 a1) n)=some r->AK X 114 ((Qee 11110100100 1)) (Yq X [eR3 r] (.own 0 1 0 r.length)) ⟨48,(Wq.p0 t0 a0 a1++[(5,.own 0 1 0 Qi.length),(6,.b Qpn),(7,.i Qr)]),[eR3 Qi]⟩:=by
      intro Qpn H
      have Jj3:∀ (Qr5:Bool) (Qqx:Bool),stk (Wq.j3 a0 a1 Qr Qi Qr5 Qqx) (iter (Wq.step a0 a1) n)=some r->AK X 114 ((Qee 1111010010010 1)) (Yq X [eR3 r] (.own 0 1 0 r.length)) ⟨48,(Wq.p0 t0 a0 a1++[(5,.own 0 1 0 Qi.length),(6,.b Qr5),(7,.i Qr),(29,.b Qqx)]),[eR3 Qi]⟩:=by
       intro Qr5 Qqx H
       have Jj4:∀ (Qlt:Bool) (Qd4:List Int),stk (Wq.j4 a0 Qr Qlt Qd4) (iter (Wq.step a0 a1) n)=some r->AK X 114 ((Qee 111101001001 1)) (Yq X [eR3 r] (.own 0 1 0 r.length)) ⟨48,(Wq.p0 t0 a0 a1++[(5,.own 0 1 0 Qd4.length),(6,.b Qlt),(7,.i Qr)]),[eR3 Qd4]⟩:=by
        intro Qlt Qd4 H
        refine Qh hT 4 (Qee 1111010010011 3) ⟨48,(Wq.p0 t0 a0 a1++[(6,.b Qlt),(7,.i Qr),(34,.own 0 1 0 Qd4.length),(35,.d (eL3 t0 a0)),(36,.i Qr)]),[eR3 Qd4]⟩ ?_
        refine Zv hT [0,1,6,7,34,37] (i:=Qr) (n:=(a0.length:Int)) h4.1 h4.2 (k':=(Qee 1111010010011 4)) (st':=⟨48,(Wq.p0 t0 a0 a1++[(6,.b Qlt),(7,.i Qr),(34,.own 0 1 0 Qd4.length),(37,.d (eP3 t0 a0 Qr.toNat 0))]),[eR3 Qd4]⟩) (by kernel_rfl) ?_
        refine Qh hT 2 (Qee 1111010010011 6) ⟨48,(Wq.p0 t0 a0 a1++[(6,.b Qlt),(7,.i Qr),(34,.own 0 1 0 Qd4.length),(39,.own 1 1 0 1)]),[eR3 Qd4,.flat false 1 3 1 (fun j=>[[.i (a0.getD Qr.toNat 0)]].getD j [])]⟩ ?_
        obtain ⟨h9,H⟩:=sC H
        refine Qca (id:=0) (kk:=1) (by':=8) (t:=165) (e:=3) (z:=[.int .i64 0]) (dst:=some 40) (id2:=1) (e2:=3) (fz:=false) (k':=(Qee 1111010010011 7)) hT (eI .i64) 0 Qd4 (a0.getD Qr.toNat 0) [0,1,6,7,40] (by kernel_rfl) (by kernel_rfl) (by kernel_rfl) (by kernel_rfl) (by kernel_rfl) (by kernel_rfl) (by kernel_rfl) h9 (by omega) (st':=⟨48,(Wq.p0 t0 a0 a1++[(6,.b Qlt),(7,.i Qr),(40,.own 2 1 0 ((Qd4 ++ [a0.getD Qr.toNat 0]).length))]),[.gone,.flat false 1 3 1 (fun j=>[[.i (a0.getD Qr.toNat 0)]].getD j []),eR3 (Qd4 ++ [a0.getD Qr.toNat 0])]⟩) (by kernel_rfl) ?_
        refine Xq hT 9 (Qee 1111010 0) [2] ⟨48,(Wq.p0 t0 a0 a1++[(5,.own 0 1 0 (Qd4 ++ [a0.getD Qr.toNat 0]).length),(6,.b Qlt),(7,.i (IntKind.wrap .i64 (Qr+1)))]),[eR3 (Qd4 ++ [a0.getD Qr.toNat 0])]⟩ h0 ?_
        exact ih Qlt (IntKind.wrap .i64 (Qr+1)) (Qd4 ++ [a0.getD Qr.toNat 0]) H
       by_cases c7:Qqx=true
       ·replace H:=sT c7 H
        rw [c7]
        refine Qh hT 6 (Qee 1111010010010100 3) ⟨48,(Wq.p0 t0 a0 a1++[(7,.i Qr),(30,.own 0 1 0 Qi.length),(32,.own 1 1 0 1)]),[eR3 Qi,.flat false 1 3 1 (fun j=>[[.i a1]].getD j [])]⟩ ?_
        obtain ⟨h8,H⟩:=sC H
        refine Qca (id:=0) (kk:=1) (by':=8) (t:=165) (e:=3) (z:=[.int .i64 0]) (dst:=some 33) (id2:=1) (e2:=3) (fz:=false) (k':=(Qee 1111010010010100 4)) hT (eI .i64) 0 Qi a1 [0,1,7,33] (by kernel_rfl) (by kernel_rfl) (by kernel_rfl) (by kernel_rfl) (by kernel_rfl) (by kernel_rfl) (by kernel_rfl) h8 (by omega) (st':=⟨48,(Wq.p0 t0 a0 a1++[(7,.i Qr),(33,.own 2 1 0 ((Qi ++ [a1]).length))]),[.gone,.flat false 1 3 1 (fun j=>[[.i a1]].getD j []),eR3 (Qi ++ [a1])]⟩) (by kernel_rfl) ?_
        refine Xq hT 5 (Qee 111101001001 1) [2] ⟨48,(Wq.p0 t0 a0 a1++[(5,.own 0 1 0 (Qi ++ [a1]).length),(6,.b true),(7,.i Qr)]),[eR3 (Qi ++ [a1])]⟩ h0 ?_
        exact Jj4 true (Qi ++ [a1]) H
       replace H:=sF c7 H
       rw [Jk c7]
       refine Qh hT 2 (Qee 111101001001 1) ⟨48,(Wq.p0 t0 a0 a1++[(5,.own 0 1 0 Qi.length),(6,.b Qr5),(7,.i Qr)]),[eR3 Qi]⟩ ?_
       exact Jj4 Qr5 Qi H
      refine Qh hT 6 (Qee 11110100100100 3) ⟨48,(Wq.p0 t0 a0 a1++[(5,.own 0 1 0 Qi.length),(6,.b Qpn),(7,.i Qr),(22,.b (!Qpn))]),[eR3 Qi]⟩ ?_
      by_cases c6:Qpn=true
      ·replace H:=sT c6 H
       rw [c6]
       refine Qh hT 8 (Qee 1111010010010 1) ⟨48,(Wq.p0 t0 a0 a1++[(5,.own 0 1 0 Qi.length),(6,.b true),(7,.i Qr),(29,.b false)]),[eR3 Qi]⟩ ?_
       exact Jj3 true false H
      replace H:=sF c6 H
      rw [Jk c6]
      refine Qh hT 2 (Qee 11110100100100 5) ⟨48,(Wq.p0 t0 a0 a1++[(5,.own 0 1 0 Qi.length),(6,.b false),(7,.i Qr),(22,.b true),(23,.d (eL3 t0 a0)),(24,.i Qr)]),[eR3 Qi]⟩ ?_
      refine Zv hT [0,1,5,6,7,22,25] (i:=Qr) (n:=(a0.length:Int)) h4.1 h4.2 (k':=(Qee 11110100100100 6)) (st':=⟨48,(Wq.p0 t0 a0 a1++[(5,.own 0 1 0 Qi.length),(6,.b false),(7,.i Qr),(22,.b true),(25,.d (eP3 t0 a0 Qr.toNat 0))]),[eR3 Qi]⟩) (by kernel_rfl) ?_
      refine Qh hT 5 (Qee 1111010010010 1) ⟨48,(Wq.p0 t0 a0 a1++[(5,.own 0 1 0 Qi.length),(6,.b false),(7,.i Qr),(29,.b (decide ((a0.getD Qr.toNat 0) > a1)))]),[eR3 Qi]⟩ ?_
      exact Jj3 false (decide ((a0.getD Qr.toNat 0) > a1)) H
     refine Zv hT [0,1,5,6,7,16] (i:=Qr) (n:=(a0.length:Int)) h4.1 h4.2 (k':=(Qee 1111010010000 3)) (st':=⟨48,(Wq.p0 t0 a0 a1++[(5,.own 0 1 0 Qi.length),(6,.b Jg),(7,.i Qr),(16,.d (eP3 t0 a0 Qr.toNat 0))]),[eR3 Qi]⟩) (by kernel_rfl) ?_
     refine Qh hT 4 (Qee 111101001000 1) ⟨48,(Wq.p0 t0 a0 a1++[(5,.own 0 1 0 Qi.length),(6,.b Jg),(7,.i Qr),(19,.b ((a0.getD Qr.toNat 0) == a1))]),[eR3 Qi]⟩ ?_
     by_cases c5:(a0.getD Qr.toNat 0)=a1
     ·replace H:=sT c5 H
      rw [eqT c5]
      refine Qh hT 4 (Qee 11110100100 1) ⟨48,(Wq.p0 t0 a0 a1++[(5,.own 0 1 0 Qi.length),(6,.b true),(7,.i Qr)]),[eR3 Qi]⟩ ?_
      exact Jj2 true H
     replace H:=sF c5 H
     rw [eqF c5]
     refine Qh hT 2 (Qee 11110100100 1) ⟨48,(Wq.p0 t0 a0 a1++[(5,.own 0 1 0 Qi.length),(6,.b Jg),(7,.i Qr)]),[eR3 Qi]⟩ ?_
     exact Jj2 Jg H
    replace H:=sF c1 H
    have Yv:∀ (Qd3:List Int),stk (Wq.j1 Qd3) (iter (Wq.step a0 a1) n)=some r->AK X 114 ((Qee 11111 1)) (Yq X [eR3 r] (.own 0 1 0 r.length)) ⟨48,[(5,.own 0 1 0 Qd3.length)],[eR3 Qd3]⟩:=by
     intro Qd3 H
     refine Qh hT 5 (Qee 111111 1) ⟨48,[(4,.own 0 1 0 Qd3.length)],[eR3 Qd3]⟩ ?_
     obtain rfl:=Yi H
     exact Ym hf hX h0 (.own 0 1 0 Qd3.length) [0] (ac (Qat (nlI .i64)) an) (.own _ _ _ _)
    rw [decide_eq_false c1]
    refine Qh hT 8 (Qee 111110 1) ⟨48,[(1,.i a1),(5,.own 0 1 0 Qi.length),(42,.b (!Jg))],[eR3 Qi]⟩ ?_
    by_cases c2:Jg=true
    ·replace H:=sT c2 H
     rw [c2]
     refine Qh hT 2 (Qee 11111 1) ⟨48,[(5,.own 0 1 0 Qi.length)],[eR3 Qi]⟩ ?_
     exact Yv Qi H
    replace H:=sF c2 H
    rw [Jk c2]
    refine Qh hT 5 (Qee 11111010 3) ⟨48,[(43,.own 0 1 0 Qi.length),(45,.own 1 1 0 1)],[eR3 Qi,.flat false 1 3 1 (fun j=>[[.i a1]].getD j [])]⟩ ?_
    obtain ⟨h3,H⟩:=sC H
    refine Qca (id:=0) (kk:=1) (by':=8) (t:=165) (e:=3) (z:=[.int .i64 0]) (dst:=some 46) (id2:=1) (e2:=3) (fz:=false) (k':=(Qee 11111010 4)) hT (eI .i64) 0 Qi a1 [46] (by kernel_rfl) (by kernel_rfl) (by kernel_rfl) (by kernel_rfl) (by kernel_rfl) (by kernel_rfl) (by kernel_rfl) h3 (by omega) (st':=⟨48,[(46,.own 2 1 0 ((Qi ++ [a1]).length))],[.gone,.flat false 1 3 1 (fun j=>[[.i a1]].getD j []),eR3 (Qi ++ [a1])]⟩) (by kernel_rfl) ?_
    refine Xq hT 2 (Qee 11111 1) [2] ⟨48,[(5,.own 0 1 0 (Qi ++ [a1]).length)],[eR3 (Qi ++ [a1])]⟩ h0 ?_
    exact Yv (Qi ++ [a1]) H
 refine Qgo [0] ⟨48,(Wq.p0 t0 a0 a1++[(5,.own 0 1 0 ([]:List Int).length),(6,.b false),(7,.i 0)]),[eR3 ([]:List Int)]⟩ h0 ?_
 obtain ⟨n,H⟩:=Qbu H
 exact (L n) false 0 ([]:List Int) H
abbrev Yo.p0 (t0:Bool) (a0:List Qd):List (Nat × AV):=[(0,.d (Yl t0 a0)),(3,.ptr 0 0 0 0)]
theorem Yo.Wv {t0:Bool} (a0:List Qd) (a1:Xd) {r:List Int} (H:Yo a0 a1=some r):Zd Tryz.prog 90 [] [.d (Yl t0 a0),.d (Qc4 a1)] [eR3 r] (.own 0 1 0 r.length):=by
 refine Ye Tryz.func90 rfl (nt:=37) rfl (lb rfl) fun X hP h0 hX=>?_
 have hT:Xo X.P T:=hP▸tok
 have hf:X.P.funcs[90]? = some Tryz.f90:=hP▸Tryz.func90
 refine Qh hT 16 (K90 111010 0) ⟨37,(Yo.p0 t0 a0++[(5,.ns),(6,.i 0)]),[.box 48 (Xr a1)]⟩ ?_
 refine Qb8 [0,3,5,6] 5 1 3 (vec (eI .i64) 0 []) (st':=⟨37,(Yo.p0 t0 a0++[(5,.own 1 1 0 0),(6,.i 0)]),[.box 48 (Xr a1),eR3 ([]:List Int)]⟩) (by kernel_rfl) (by kernel_rfl) ?_
 have L:∀ n,(∀ (Jg:Int) (Wm:List Int),iter (Yo.step a0 a1) n (.l1 Jg Wm)=some r->AK X 90 ((K90 111010 0)) (Yq X [eR3 r] (.own 0 1 0 r.length)) ⟨37,(Yo.p0 t0 a0++[(5,.own 1 1 0 Wm.length),(6,.i Jg)]),[.box 48 (Xr a1),eR3 Wm]⟩)/\(∀ (Yp:Int) (Qel:List Int),iter (Yo.step a0 a1) n (.l2 Yp Qel)=some r->AK X 90 ((K90 1111010 0)) (Yq X [eR3 r] (.own 0 1 0 r.length)) ⟨37,[(3,.ptr 0 0 0 0),(5,.own 1 1 0 Qel.length),(7,.i Yp)],[.box 48 (Xr a1),eR3 Qel]⟩):=by
  intro n
  induction n with
  | zero=>exact ⟨fun _ _ H=>Qay H,fun _ _ H=>Qay H⟩
  | succ n ih=>
   refine ⟨?_, ?_⟩
   ·intro Jg Wm H
    refine Qh hT 8 (K90 11101000 1) ⟨37,(Yo.p0 t0 a0++[(5,.own 1 1 0 Wm.length),(6,.i Jg),(11,.b (decide (Jg < (a0.length:Int))))]),[.box 48 (Xr a1),eR3 Wm]⟩ ?_
    by_cases c1:Jg < (a0.length:Int)
    ·replace H:=sT c1 H
     rw [decide_eq_true c1]
     refine Qh hT 2 (K90 1110100 1) ⟨37,(Yo.p0 t0 a0++[(5,.own 1 1 0 Wm.length),(6,.i Jg)]),[.box 48 (Xr a1),eR3 Wm]⟩ ?_
     refine Qh hT 6 (K90 1110100100 3) ⟨37,(Yo.p0 t0 a0++[(6,.i Jg),(14,.own 1 1 0 Wm.length),(15,.d (Yl t0 a0)),(16,.i Jg)]),[.box 48 (Xr a1),eR3 Wm]⟩ ?_
     obtain ⟨h2,H⟩:=sC H
     refine Zv hT [0,3,6,14,17] (i:=Jg) (n:=(a0.length:Int)) h2.1 h2.2 (k':=(K90 1110100100 4)) (st':=⟨37,(Yo.p0 t0 a0++[(6,.i Jg),(14,.own 1 1 0 Wm.length),(17,.d (Qcn t0 a0 Jg.toNat 0))]),[.box 48 (Xr a1),eR3 Wm]⟩) (by kernel_rfl) ?_
     refine Qh hT 2 (K90 1110100100 6) ⟨37,(Yo.p0 t0 a0++[(6,.i Jg),(14,.own 1 1 0 Wm.length),(19,.i ((a0.getD Jg.toNat Qd.z).Key))]),[.box 48 (Xr a1),eR3 Wm]⟩ ?_
     obtain ⟨v1,h3,H⟩:=sbC H
     refine Wx (Yh:=[.own 1 1 0 Wm.length,.i ((a0.getD Jg.toNat Qd.z).Key)]) (dst:=some 20) (k':=(K90 1110100100 7)) [0,3,6,20] [] hP Qsj (Wq.Wv (t0:=false) Wm ((a0.getD Jg.toNat Qd.z).Key) h3) (by kernel_rfl) (Wh _) (.cons (.Qds (ty:=3) (by kernel_rfl) rfl) (.cons (Qp _) .nil)) (st':=⟨37,(Yo.p0 t0 a0++[(6,.i Jg),(20,.own 2 1 0 v1.length)]),[.box 48 (Xr a1),eR3 Wm,eR3 v1]⟩) (by kernel_rfl) ?_
     refine Xq hT 9 (K90 111010 0) [0,2] ⟨37,(Yo.p0 t0 a0++[(5,.own 1 1 0 v1.length),(6,.i (IntKind.wrap .i64 (Jg+1)))]),[.box 48 (Xr a1),eR3 v1]⟩ h0 ?_
     exact ih.1 (IntKind.wrap .i64 (Jg+1)) v1 H
    replace H:=sF c1 H
    rw [decide_eq_false c1]
    refine Qh hT 9 (K90 1111010 0) ⟨37,[(3,.ptr 0 0 0 0),(5,.own 1 1 0 Wm.length),(7,.i 0)],[.box 48 (Xr a1),eR3 Wm]⟩ ?_
    exact ih.2 0 Wm H
   intro Yp Qel H
   refine Qh hT 9 (K90 111101000 1) ⟨37,[(3,.ptr 0 0 0 0),(5,.own 1 1 0 Qel.length),(7,.i Yp),(25,.b (decide (Yp < (a1.Pairs.length:Int))))],[.box 48 (Xr a1),eR3 Qel]⟩ ?_
   by_cases c4:Yp < (a1.Pairs.length:Int)
   ·replace H:=sT c4 H
    rw [decide_eq_true c4]
    refine Qh hT 2 (K90 11110100 1) ⟨37,[(3,.ptr 0 0 0 0),(5,.own 1 1 0 Qel.length),(7,.i Yp)],[.box 48 (Xr a1),eR3 Qel]⟩ ?_
    refine Qh hT 7 (K90 11110100100 4) ⟨37,[(3,.ptr 0 0 0 0),(7,.i Yp),(28,.own 1 1 0 Qel.length),(30,.d (Yl true a1.Pairs)),(31,.i Yp)],[.box 48 (Xr a1),eR3 Qel]⟩ ?_
    obtain ⟨h5,H⟩:=sC H
    refine Zv hT [3,7,28,32] (i:=Yp) (n:=(a1.Pairs.length:Int)) h5.1 h5.2 (k':=(K90 11110100100 5)) (st':=⟨37,[(3,.ptr 0 0 0 0),(7,.i Yp),(28,.own 1 1 0 Qel.length),(32,.d (Qcn true a1.Pairs Yp.toNat 0))],[.box 48 (Xr a1),eR3 Qel]⟩) (by kernel_rfl) ?_
    refine Qh hT 2 (K90 11110100100 7) ⟨37,[(3,.ptr 0 0 0 0),(7,.i Yp),(28,.own 1 1 0 Qel.length),(34,.i ((a1.Pairs.getD Yp.toNat Qd.z).Key))],[.box 48 (Xr a1),eR3 Qel]⟩ ?_
    obtain ⟨v2,h6,H⟩:=sbC H
    refine Wx (Yh:=[.own 1 1 0 Qel.length,.i ((a1.Pairs.getD Yp.toNat Qd.z).Key)]) (dst:=some 35) (k':=(K90 11110100100 8)) [3,7,35] [] hP Qsj (Wq.Wv (t0:=false) Qel ((a1.Pairs.getD Yp.toNat Qd.z).Key) h6) (by kernel_rfl) (Wh _) (.cons (.Qds (ty:=3) (by kernel_rfl) rfl) (.cons (Qp _) .nil)) (st':=⟨37,[(3,.ptr 0 0 0 0),(7,.i Yp),(35,.own 2 1 0 v2.length)],[.box 48 (Xr a1),eR3 Qel,eR3 v2]⟩) (by kernel_rfl) ?_
    refine Xq hT 9 (K90 1111010 0) [0,2] ⟨37,[(3,.ptr 0 0 0 0),(5,.own 1 1 0 v2.length),(7,.i (IntKind.wrap .i64 (Yp+1)))],[.box 48 (Xr a1),eR3 v2]⟩ h0 ?_
    exact ih.2 (IntKind.wrap .i64 (Yp+1)) v2 H
   replace H:=sF c4 H
   rw [decide_eq_false c4]
   refine Qh hT 7 (K90 11111 1) ⟨37,[(4,.own 1 1 0 Qel.length)],[.box 48 (Xr a1),eR3 Qel]⟩ ?_
   obtain rfl:=Yi H
   exact Ym hf hX h0 (.own 1 1 0 Qel.length) [1] (ac (Qat (nlI .i64)) an) (.own _ _ _ _)
 refine Qgo [0,1] ⟨37,(Yo.p0 t0 a0++[(5,.own 1 1 0 ([]:List Int).length),(6,.i 0)]),[.box 48 (Xr a1),eR3 ([]:List Int)]⟩ h0 ?_
 obtain ⟨n,H⟩:=Qbu H
 exact (L n).1 0 ([]:List Int) H
abbrev Zy.p0 (t0:Bool) (a0:List Qd) (a1:Int):List (Nat × AV):=[(0,.d (Yl t0 a0)),(1,.i a1),(4,.ptr 0 0 0 0)]
theorem Zy.Wv {t0:Bool} (a0:List Qd) (a1:Int) {r:Xb} (H:Zy a0 a1=some r):Zd Tryz.prog 36 [] [.d (Yl t0 a0),.i a1] [] (.d (Qe1 r)):=by
 refine Ye Tryz.func36 rfl (nt:=26) rfl (lb rfl) fun X hP h0 hX=>?_
 have hT:Xo X.P T:=hP▸tok
 have hf:X.P.funcs[36]? = some Tryz.f36:=hP▸Tryz.func36
 refine Qh hT 11 (K36 11010 0) ⟨26,(Zy.p0 t0 a0 a1++[(5,.i 0)]),[.box 50 [.i 0,.b false]]⟩ ?_
 have L:∀ n,(∀ (Wz:Int),iter (Zy.step a0 a1) n (.l1 Wz)=some r->AK X 36 ((K36 11010 0)) (Yq X [] (.d (Qe1 r))) ⟨26,(Zy.p0 t0 a0 a1++[(5,.i Wz)]),[.box 50 [.i 0,.b false]]⟩):=by
  intro n
  induction n with
  | zero=>exact fun _ H=>Qay H
  | succ n ih=>
   ·intro Wz H
    refine Qh hT 8 (K36 1101000 1) ⟨26,(Zy.p0 t0 a0 a1++[(5,.i Wz),(9,.b (decide (Wz < (a0.length:Int))))]),[.box 50 [.i 0,.b false]]⟩ ?_
    by_cases c1:Wz < (a0.length:Int)
    ·replace H:=sT c1 H
     rw [decide_eq_true c1]
     refine Qh hT 2 (K36 110100 1) ⟨26,(Zy.p0 t0 a0 a1++[(5,.i Wz)]),[.box 50 [.i 0,.b false]]⟩ ?_
     refine Qh hT 6 (K36 1101001000 2) ⟨26,(Zy.p0 t0 a0 a1++[(5,.i Wz),(12,.d (Yl t0 a0)),(13,.i Wz)]),[.box 50 [.i 0,.b false]]⟩ ?_
     obtain ⟨h2,H⟩:=sC H
     refine Zv hT [0,1,4,5,14] (i:=Wz) (n:=(a0.length:Int)) h2.1 h2.2 (k':=(K36 1101001000 3)) (st':=⟨26,(Zy.p0 t0 a0 a1++[(5,.i Wz),(14,.d (Qcn t0 a0 Wz.toNat 0))]),[.box 50 [.i 0,.b false]]⟩) (by kernel_rfl) ?_
     refine Qh hT 5 (K36 110100100 1) ⟨26,(Zy.p0 t0 a0 a1++[(5,.i Wz),(18,.b (((a0.getD Wz.toNat Qd.z).Key) == a1))]),[.box 50 [.i 0,.b false]]⟩ ?_
     by_cases c3:((a0.getD Wz.toNat Qd.z).Key)=a1
     ·replace H:=sT c3 H
      rw [eqT c3]
      refine Qh hT 5 (K36 110100100100 2) ⟨26,[(4,.ptr 0 0 0 0),(19,.d (Yl t0 a0)),(20,.i Wz)],[.box 50 [.i 0,.b false]]⟩ ?_
      refine Zv hT [4,21] (i:=Wz) (n:=(a0.length:Int)) h2.1 h2.2 (k':=(K36 110100100100 3)) (st':=⟨26,[(4,.ptr 0 0 0 0),(21,.d (Qcn t0 a0 Wz.toNat 0))],[.box 50 [.i 0,.b false]]⟩) (by kernel_rfl) ?_
      refine Qh hT 5 (K36 11010010010 1) ⟨26,[(4,.ptr 0 0 0 0)],[.box 50 [.i ((a0.getD Wz.toNat Qd.z).Val),.b true]]⟩ ?_
      obtain rfl:=Yi H
      exact Qen hT hf hX (av:=.d (.agg [.i ((a0.getD Wz.toNat Qd.z).Val),.b true])) (by kernel_rfl) [] (Jq (by kernel_rfl)) (by decide) (by rw [h0];rfl) (by kernel_rfl) an (.d (.agg (Xb.nl _)))
     replace H:=sF c3 H
     rw [eqF c3]
     refine Qh hT 3 (K36 1101001 1) ⟨26,(Zy.p0 t0 a0 a1++[(5,.i Wz)]),[.box 50 [.i 0,.b false]]⟩ ?_
     refine Qh hT 6 (K36 11010 0) ⟨26,(Zy.p0 t0 a0 a1++[(5,.i (IntKind.wrap .i64 (Wz+1)))]),[.box 50 [.i 0,.b false]]⟩ ?_
     exact ih (IntKind.wrap .i64 (Wz+1)) H
    replace H:=sF c1 H
    rw [decide_eq_false c1]
    refine Qh hT 7 (K36 111 1) ⟨26,[(4,.ptr 0 0 0 0)],[.box 50 [.i 0,.b false]]⟩ ?_
    obtain rfl:=Yi H
    exact Qen hT hf hX (av:=.d (.agg [.i 0,.b false])) (by kernel_rfl) [] (Jq (by kernel_rfl)) (by decide) (by rw [h0];rfl) (by kernel_rfl) an (.d (.agg (Xb.nl _)))
 obtain ⟨n,H⟩:=Qbu H
 exact (L n) 0 H
abbrev Ya.p0 (t0:Bool) (a0:List Qf) (a1:Int):List (Nat × AV):=[(0,.d (Qa0 t0 a0)),(1,.i a1)]
theorem Ya.Wv {t0:Bool} (a0:List Qf) (a1:Int) {r:Bool} (H:Ya a0 a1=some r):Zd Tryz.prog 91 [] [.d (Qa0 t0 a0),.i a1] [] (.b r):=by
 refine Ye Tryz.func91 rfl (nt:=35) rfl (lb rfl) fun X hP h0 hX=>?_
 have hT:Xo X.P T:=hP▸tok
 have hf:X.P.funcs[91]? = some Tryz.f91:=hP▸Tryz.func91
 refine Qh hT 11 (K91 11010 0) ⟨35,(Ya.p0 t0 a0 a1++[(5,.i 0)]),[]⟩ ?_
 have L:∀ n,(∀ (Wz:Int),iter (Ya.step a0 a1) n (.l1 Wz)=some r->AK X 91 ((K91 11010 0)) (Yq X [] (.b r)) ⟨35,(Ya.p0 t0 a0 a1++[(5,.i Wz)]),[]⟩):=by
  intro n
  induction n with
  | zero=>exact fun _ H=>Qay H
  | succ n ih=>
   ·intro Wz H
    refine Qh hT 8 (K91 1101000 1) ⟨35,(Ya.p0 t0 a0 a1++[(5,.i Wz),(9,.b (decide (Wz < (a0.length:Int))))]),[]⟩ ?_
    by_cases c1:Wz < (a0.length:Int)
    ·replace H:=sT c1 H
     rw [decide_eq_true c1]
     refine Qh hT 2 (K91 110100 1) ⟨35,(Ya.p0 t0 a0 a1++[(5,.i Wz)]),[]⟩ ?_
     refine Qh hT 6 (K91 1101001000 2) ⟨35,(Ya.p0 t0 a0 a1++[(5,.i Wz),(12,.d (Qa0 t0 a0)),(13,.i Wz)]),[]⟩ ?_
     obtain ⟨h2,H⟩:=sC H
     have Yv:∀ (Qfx:Bool),stk (Ya.j1 Wz Qfx) (iter (Ya.step a0 a1) n)=some r->AK X 91 ((K91 110100100 1)) (Yq X [] (.b r)) ⟨35,(Ya.p0 t0 a0 a1++[(5,.i Wz),(34,.b Qfx)]),[]⟩:=by
      intro Qfx H
      by_cases c5:Qfx=true
      ·replace H:=sT c5 H
       rw [c5]
       refine Qh hT 5 (K91 11010010010 1) ⟨35,[(4,.b true)],[]⟩ ?_
       obtain rfl:=Yi H
       exact Ym hf hX h0 (.b true) [] an (.d (.v _))
      replace H:=sF c5 H
      rw [Jk c5]
      refine Qh hT 3 (K91 1101001 1) ⟨35,(Ya.p0 t0 a0 a1++[(5,.i Wz)]),[]⟩ ?_
      refine Qh hT 6 (K91 11010 0) ⟨35,(Ya.p0 t0 a0 a1++[(5,.i (IntKind.wrap .i64 (Wz+1)))]),[]⟩ ?_
      exact ih (IntKind.wrap .i64 (Wz+1)) H
     refine Zv hT [0,1,5,14] (i:=Wz) (n:=(a0.length:Int)) h2.1 h2.2 (k':=(K91 1101001000 3)) (st':=⟨35,(Ya.p0 t0 a0 a1++[(5,.i Wz),(14,.d (Qha t0 a0 Wz.toNat 0))]),[]⟩) (by kernel_rfl) ?_
     refine Qh hT 1 (K91 1101001000 4) ⟨35,(Ya.p0 t0 a0 a1++[(5,.i Wz),(15,.d (Qio (a0.getD Wz.toNat Qf.z)))]),[]⟩ ?_
     refine Wx (Yh:=[.d (Qio (a0.getD Wz.toNat Qf.z))]) (dst:=some 16) (k':=(K91 1101001000 5)) [0,1,5,16] [] hP Qhv (Zk.Wv (a0.getD Wz.toNat Qf.z)) (by kernel_rfl) (Wh _) (.cons (Qp _) .nil) (st':=⟨35,(Ya.p0 t0 a0 a1++[(5,.i Wz),(16,.b (Zk (a0.getD Wz.toNat Qf.z)))]),[]⟩) (by kernel_rfl) ?_
     refine Qh hT 1 (K91 1101001000 6) ⟨35,(Ya.p0 t0 a0 a1++[(5,.i Wz),(17,.b (Zk (a0.getD Wz.toNat Qf.z)))]),[]⟩ ?_
     by_cases c3:(Zk (a0.getD Wz.toNat Qf.z))=true
     ·replace H:=sT c3 H
      rw [c3]
      refine Qh hT 3 (K91 1101001000 9) ⟨35,(Ya.p0 t0 a0 a1++[(5,.i Wz),(17,.b true),(18,.i a1),(19,.d (Qa0 t0 a0)),(20,.i Wz)]),[]⟩ ?_
      refine Zv hT [0,1,5,17,18,21] (i:=Wz) (n:=(a0.length:Int)) h2.1 h2.2 (k':=(K91 1101001000 10)) (st':=⟨35,(Ya.p0 t0 a0 a1++[(5,.i Wz),(17,.b true),(18,.i a1),(21,.d (Qha t0 a0 Wz.toNat 0))]),[]⟩) (by kernel_rfl) ?_
      refine Qh hT 5 (K91 1101001000 15) ⟨35,(Ya.p0 t0 a0 a1++[(5,.i Wz),(26,.b (decide (a1>=((a0.getD Wz.toNat Qf.z).Lo))))]),[]⟩ ?_
      by_cases c4:a1>=((a0.getD Wz.toNat Qf.z).Lo)
      ·replace H:=sT c4 H
       rw [decide_eq_true c4]
       refine Qh hT 3 (K91 1101001000 18) ⟨35,(Ya.p0 t0 a0 a1++[(5,.i Wz),(26,.b true),(27,.i a1),(28,.d (Qa0 t0 a0)),(29,.i Wz)]),[]⟩ ?_
       refine Zv hT [0,1,5,26,27,30] (i:=Wz) (n:=(a0.length:Int)) h2.1 h2.2 (k':=(K91 1101001000 19)) (st':=⟨35,(Ya.p0 t0 a0 a1++[(5,.i Wz),(26,.b true),(27,.i a1),(30,.d (Qha t0 a0 Wz.toNat 0))]),[]⟩) (by kernel_rfl) ?_
       refine Qh hT 5 (K91 110100100 1) ⟨35,(Ya.p0 t0 a0 a1++[(5,.i Wz),(34,.b (decide (a1 < ((a0.getD Wz.toNat Qf.z).Hi))))]),[]⟩ ?_
       exact Yv (decide (a1 < ((a0.getD Wz.toNat Qf.z).Hi))) H
      replace H:=sF c4 H
      rw [decide_eq_false c4]
      refine Qh hT 9 (K91 110100100 1) ⟨35,(Ya.p0 t0 a0 a1++[(5,.i Wz),(34,.b false)]),[]⟩ ?_
      exact Yv false H
     replace H:=sF c3 H
     rw [Jk c3]
     refine Qh hT 18 (K91 110100100 1) ⟨35,(Ya.p0 t0 a0 a1++[(5,.i Wz),(34,.b false)]),[]⟩ ?_
     exact Yv false H
    replace H:=sF c1 H
    rw [decide_eq_false c1]
    refine Qh hT 6 (K91 111 1) ⟨35,[(4,.b false)],[]⟩ ?_
    obtain rfl:=Yi H
    exact Ym hf hX h0 (.b false) [] an (.d (.v _))
 obtain ⟨n,H⟩:=Qbu H
 exact (L n) 0 H
abbrev Qu.p0 (a0:List Qd) (t2:Bool) (a2:List Qf):List (Nat × AV):=[(0,.d (Yl true a0)),(2,.d (Qa0 t2 a2)),(4,.ptr 0 0 0 0)]
theorem Qu.Wv {t2:Bool} (a0:List Qd) (a1:Xd) (a2:List Qf) {r:(List Qd) × Bool} (H:Qu a0 a1 a2=some r):Zd Tryz.prog 65 [] [.d (Yl true a0),.d (Qc4 a1),.d (Qa0 t2 a2)] [] (.Qo [.d (Yl true r.1),.b r.2]):=by
 refine Ye Tryz.func65 rfl (nt:=83) rfl (lb rfl) fun X hP h0 hX=>?_
 have hT:Xo X.P T:=hP▸tok
 have hf:X.P.funcs[65]? = some Tryz.f65:=hP▸Tryz.func65
 refine Qh hT 10 (K65 1100 1) ⟨83,(Qu.p0 a0 t2 a2++[(14,.d (Yl true a0))]),[.box 48 (Xr a1)]⟩ ?_
 obtain ⟨v1,h1,H⟩:=ibC H
 have Yv:∀ (Qia:Bool),(Qu.j1 a0 a1 a2 Qia)=some r->AK X 65 ((K65 110 1)) (Yq X [] (.Qo [.d (Yl true r.1),.b r.2])) ⟨83,(Qu.p0 a0 t2 a2++[(26,.b Qia)]),[.box 48 (Xr a1)]⟩:=by
  intro Qia H
  by_cases c6:Qia=true
  ·replace H:=iT c6 H
   rw [c6]
   refine Qh hT 6 (K65 11010 1) ⟨83,[(6,.ns),(7,.b false)],[.box 48 (Xr a1)]⟩ ?_
   refine Qeu (av:=.d (.v (.slice none 0 0))) (y:=Yl true ([]:List Qd)) [6,7] 6 (st':=⟨83,[(6,.d (Yl true ([]:List Qd))),(7,.b false)],[.box 48 (Xr a1)]⟩) (by kernel_rfl) (.nil _) (by kernel_rfl) ?_
   obtain rfl:=Yi H
   exact Ym hf hX h0 (.Qo [.d (Yl true ([]:List Qd)),.b false]) [] an (.Qo (.cons (.d (.sl fun _ _=>Qd.nl _)) (.cons (.d (.v _)) .nil)))
  replace H:=iF c6 H
  rw [Jk c6]
  refine Qh hT 2 (K65 11 1) ⟨83,(Qu.p0 a0 t2 a2),[.box 48 (Xr a1)]⟩ ?_
  refine Qh hT 4 (K65 1110 2) ⟨83,(Qu.p0 a0 t2 a2++[(27,.d (Yl true a0)),(28,.d (Qc4 a1))]),[.box 48 (Xr a1)]⟩ ?_
  obtain ⟨v4,h7,H⟩:=ibC H
  refine Wx (Yh:=[.d (Yl true a0),.d (Qc4 a1)]) (dst:=some 29) (k':=(K65 1110 3)) [0,2,4,29] [] hP Wcy (Yo.Wv (t0:=true) a0 a1 h7) (by kernel_rfl) (Wh _) (.cons (Qp _) (.cons (Qp _) .nil)) (st':=⟨83,(Qu.p0 a0 t2 a2++[(29,.own 1 1 0 v4.length)]),[.box 48 (Xr a1),eR3 v4]⟩) (by kernel_rfl) ?_
  refine Qh hT 13 (K65 11111010 0) ⟨83,(Qu.p0 a0 t2 a2++[(8,.own 1 1 0 v4.length),(9,.ns),(10,.i 0)]),[.box 48 (Xr a1),eR3 v4]⟩ ?_
  refine Qb8 [0,2,4,8,9,10] 9 2 98 (vec Qd.e Qd.z []) (st':=⟨83,(Qu.p0 a0 t2 a2++[(8,.own 1 1 0 v4.length),(9,.own 2 2 0 0),(10,.i 0)]),[.box 48 (Xr a1),eR3 v4,Qb3 ([]:List Qd)]⟩) (by kernel_rfl) (by kernel_rfl) ?_
  have L:∀ n,(∀ (Yk:Int) (Yf:List Qd),iter (Qu.step a0 a1 a2 v4) n (.l1 Yk Yf)=some r->AK X 65 ((K65 11111010 0)) (Yq X [] (.Qo [.d (Yl true r.1),.b r.2])) ⟨83,(Qu.p0 a0 t2 a2++[(8,.own 1 1 0 v4.length),(9,.own 2 2 0 Yf.length),(10,.i Yk)]),[.box 48 (Xr a1),eR3 v4,Qb3 Yf]⟩):=by
   intro n
   induction n with
   | zero=>exact fun _ _ H=>Qay H
   | succ n ih=>
    ·intro Yk Yf H
     refine Qh hT 8 (K65 1111101000 1) ⟨83,(Qu.p0 a0 t2 a2++[(8,.own 1 1 0 v4.length),(9,.own 2 2 0 Yf.length),(10,.i Yk),(33,.b (decide (Yk < (v4.length:Int))))]),[.box 48 (Xr a1),eR3 v4,Qb3 Yf]⟩ ?_
     by_cases c8:Yk < (v4.length:Int)
     ·replace H:=sT c8 H
      rw [decide_eq_true c8]
      refine Qh hT 2 (K65 111110100 1) ⟨83,(Qu.p0 a0 t2 a2++[(8,.own 1 1 0 v4.length),(9,.own 2 2 0 Yf.length),(10,.i Yk)]),[.box 48 (Xr a1),eR3 v4,Qb3 Yf]⟩ ?_
      refine Qh hT 7 (K65 1111101001000 3) ⟨83,(Qu.p0 a0 t2 a2++[(8,.own 1 1 0 v4.length),(9,.own 2 2 0 Yf.length),(10,.i Yk),(36,.d (Yl true a0)),(37,.own 1 1 0 v4.length),(38,.i Yk)]),[.box 48 (Xr a1),eR3 v4,Qb3 Yf]⟩ ?_
      obtain ⟨h9,H⟩:=sC H
      refine Zv hT [0,2,4,8,9,10,36,39] (i:=Yk) (n:=(v4.length:Int)) h9.1 h9.2 (k':=(K65 1111101001000 4)) (st':=⟨83,(Qu.p0 a0 t2 a2++[(8,.own 1 1 0 v4.length),(9,.own 2 2 0 Yf.length),(10,.i Yk),(36,.d (Yl true a0)),(39,.ptr 1 1 Yk.toNat 0)]),[.box 48 (Xr a1),eR3 v4,Qb3 Yf]⟩) (by kernel_rfl) ?_
      refine Qr7 hT [0,2,4,8,9,10,36,40] (i:=Yk.toNat) (n:=v4.length) (ltN h9.1 h9.2) (k':=(K65 1111101001000 5)) (st':=⟨83,(Qu.p0 a0 t2 a2++[(8,.own 1 1 0 v4.length),(9,.own 2 2 0 Yf.length),(10,.i Yk),(36,.d (Yl true a0)),(40,.i (v4.getD Yk.toNat 0))]),[.box 48 (Xr a1),eR3 v4,Qb3 Yf]⟩) (by kernel_rfl) ?_
      obtain ⟨v5,h10,H⟩:=sbC H
      refine Wx (Yh:=[.d (Yl true a0),.i (v4.getD Yk.toNat 0)]) (dst:=some 41) (k':=(K65 1111101001000 6)) [0,2,4,8,9,10,41] [] hP Wb3 (Zy.Wv (t0:=true) a0 (v4.getD Yk.toNat 0) h10) (by kernel_rfl) (Wh _) (.cons (Qp _) (.cons (Qp _) .nil)) (st':=⟨83,(Qu.p0 a0 t2 a2++[(8,.own 1 1 0 v4.length),(9,.own 2 2 0 Yf.length),(10,.i Yk),(41,.d (Qe1 v5))]),[.box 48 (Xr a1),eR3 v4,Qb3 Yf]⟩) (by kernel_rfl) ?_
      refine Qh hT 5 (K65 11111010010010 0) ⟨83,(Qu.p0 a0 t2 a2++[(8,.own 1 1 0 v4.length),(9,.own 2 2 0 Yf.length),(10,.i Yk),(11,.ptr 3 0 0 0)]),[.box 48 (Xr a1),eR3 v4,Qb3 Yf,.box 50 (Qef v5)]⟩ ?_
      obtain ⟨v6,h11,H⟩:=sbC H
      have Jj2:∀ (Qfy:Bool),stk (Qu.j2 a0 a1 v4 Yk Yf v5 Qfy) (iter (Qu.step a0 a1 a2 v4) n)=some r->AK X 65 ((K65 11111010010010 1)) (Yq X [] (.Qo [.d (Yl true r.1),.b r.2])) ⟨83,(Qu.p0 a0 t2 a2++[(8,.own 1 1 0 v4.length),(9,.own 2 2 0 Yf.length),(10,.i Yk),(11,.ptr 3 0 0 0),(55,.b Qfy)]),[.box 48 (Xr a1),eR3 v4,Qb3 Yf,.box 50 (Qef v5)]⟩:=by
       intro Qfy H
       have Jj3:∀ (Qdp:Int) (Qi1:Bool),stk (Qu.j3 v4 Yk Yf Qdp Qi1) (iter (Qu.step a0 a1 a2 v4) n)=some r->AK X 65 ((K65 1111101001001 1)) (Yq X [] (.Qo [.d (Yl true r.1),.b r.2])) ⟨83,(Qu.p0 a0 t2 a2++[(8,.own 1 1 0 v4.length),(9,.own 2 2 0 Yf.length),(10,.i Yk),(11,.ptr 3 0 0 0)]),[.box 48 (Xr a1),eR3 v4,Qb3 Yf,.box 50 [.i Qdp,.b Qi1]]⟩:=by
        intro Qdp Qi1 H
        have Jj4:∀ (Qk4:List Qd),stk (Qu.j4 Yk Qk4) (iter (Qu.step a0 a1 a2 v4) n)=some r->AK X 65 ((K65 1111101001 1)) (Yq X [] (.Qo [.d (Yl true r.1),.b r.2])) ⟨83,(Qu.p0 a0 t2 a2++[(8,.own 1 1 0 v4.length),(9,.own 2 2 0 Qk4.length),(10,.i Yk)]),[.box 48 (Xr a1),eR3 v4,Qb3 Qk4]⟩:=by
         intro Qk4 H
         refine Qh hT 6 (K65 11111010 0) ⟨83,(Qu.p0 a0 t2 a2++[(8,.own 1 1 0 v4.length),(9,.own 2 2 0 Qk4.length),(10,.i (IntKind.wrap .i64 (Yk+1)))]),[.box 48 (Xr a1),eR3 v4,Qb3 Qk4]⟩ ?_
         exact ih (IntKind.wrap .i64 (Yk+1)) Qk4 H
        refine Qh hT 5 (K65 11111010010011 1) ⟨83,(Qu.p0 a0 t2 a2++[(8,.own 1 1 0 v4.length),(9,.own 2 2 0 Yf.length),(10,.i Yk),(11,.ptr 3 0 0 0),(71,.b Qi1)]),[.box 48 (Xr a1),eR3 v4,Qb3 Yf,.box 50 [.i Qdp,.b Qi1]]⟩ ?_
        by_cases c17:Qi1=true
        ·replace H:=sT c17 H
         rw [c17]
         refine Qh hT 1 (K65 111110100100111 0) ⟨83,(Qu.p0 a0 t2 a2++[(8,.own 1 1 0 v4.length),(9,.own 2 2 0 Yf.length),(10,.i Yk),(11,.ptr 3 0 0 0)]),[.box 48 (Xr a1),eR3 v4,Qb3 Yf,.box 50 [.i Qdp,.b true]]⟩ ?_
         refine Qcb (nt:=83) (hP▸mixed) 9 [8] [0,2,4,8,9,10,11] [(0,.d (Yl true a0)),(2,.d (Qa0 t2 a2)),(4,.ptr 0 0 0 0),(8,.own 1 1 0 v4.length),(9,.own 2 2 0 Yf.length),(10,.i Yk),(11,.ptr 3 0 0 0)] (sm [.own 2 2 0 Yf.length,.own 1 1 0 v4.length,.i Yk,.ptr 1 1 Yk.toNat 0,.i (v4.getD Yk.toNat 0),.ptr 3 0 0 0,.i Qdp,.d (.agg [.i (v4.getD Yk.toNat 0),.i Qdp]),.own 4 2 0 1]) [[.box 48 (Xr a1),eR3 v4,Qb3 Yf,.box 50 [.i Qdp,.b true]],[.box 48 (Xr a1),eR3 v4,Qb3 Yf,.box 50 [.i Qdp,.b true],.flat false 2 98 1 (fun j=>[[.i (v4.getD Yk.toNat 0),.i Qdp]].getD j [])]] (by kernel_rfl) (by kernel_rfl) (by kernel_rfl) (by kernel_rfl) ⟨?_,(Qdg hT),?_⟩ ?_
         iterate 2 exact (Qdt (We (We (We (Zu (Zu (We (We (We Qf2 hT) hT) hT) (fun R rest h=>Xw hT (i:=Yk) (n:=(v4.length:Int)) h9.1 h9.2 (by kernel_rfl) h)) (fun R rest h=>Qa1 hT (i:=Yk.toNat) (n:=v4.length) (ltN h9.1 h9.2) (by kernel_rfl) h)) hT) hT) hT))
         refine Qh hT 0 (K65 1111101001001110 9) ⟨83,(Qu.p0 a0 t2 a2++[(8,.own 1 1 0 v4.length),(10,.i Yk),(72,.own 2 2 0 Yf.length),(80,.own 4 2 0 1)]),[.box 48 (Xr a1),eR3 v4,Qb3 Yf,.box 50 [.i Qdp,.b true],.flat false 2 98 1 (fun j=>[[.i (v4.getD Yk.toNat 0),.i Qdp]].getD j [])]⟩ ?_
         obtain ⟨h18,H⟩:=sC H
         refine Qca (id:=2) (kk:=2) (by':=16) (t:=45) (e:=98) (z:=[.int .i64 0,.int .i64 0]) (dst:=some 81) (id2:=4) (e2:=98) (fz:=false) (k':=(K65 1111101001001110 10)) hT Qd.e Qd.z Yf (⟨v4.getD Yk.toNat 0,Qdp⟩:Qd) [0,2,4,8,10,81] (by kernel_rfl) (by kernel_rfl) (by kernel_rfl) (by kernel_rfl) (by kernel_rfl) (by kernel_rfl) (by kernel_rfl) h18 (by omega) (st':=⟨83,(Qu.p0 a0 t2 a2++[(8,.own 1 1 0 v4.length),(10,.i Yk),(81,.own 5 2 0 ((Yf ++ [(⟨v4.getD Yk.toNat 0,Qdp⟩:Qd)]).length))]),[.box 48 (Xr a1),eR3 v4,.gone,.box 50 [.i Qdp,.b true],.flat false 2 98 1 (fun j=>[[.i (v4.getD Yk.toNat 0),.i Qdp]].getD j []),Qb3 (Yf ++ [(⟨v4.getD Yk.toNat 0,Qdp⟩:Qd)])]⟩) (by kernel_rfl) ?_
         refine Xq hT 3 (K65 1111101001 1) [0,1,5] ⟨83,(Qu.p0 a0 t2 a2++[(8,.own 1 1 0 v4.length),(9,.own 2 2 0 (Yf ++ [(⟨v4.getD Yk.toNat 0,Qdp⟩:Qd)]).length),(10,.i Yk)]),[.box 48 (Xr a1),eR3 v4,Qb3 (Yf ++ [(⟨v4.getD Yk.toNat 0,Qdp⟩:Qd)])]⟩ h0 ?_
         exact Jj4 (Yf ++ [(⟨v4.getD Yk.toNat 0,Qdp⟩:Qd)]) H
        replace H:=sF c17 H
        rw [Jk c17]
        refine Xq hT 3 (K65 1111101001 1) [0,1,2] ⟨83,(Qu.p0 a0 t2 a2++[(8,.own 1 1 0 v4.length),(9,.own 2 2 0 Yf.length),(10,.i Yk)]),[.box 48 (Xr a1),eR3 v4,Qb3 Yf]⟩ h0 ?_
        exact Jj4 Yf H
       by_cases c14:Qfy=true
       ·replace H:=sT c14 H
        rw [c14]
        refine Qh hT 2 (K65 1111101001001010 0) ⟨83,(Qu.p0 a0 t2 a2++[(8,.own 1 1 0 v4.length),(9,.own 2 2 0 Yf.length),(10,.i Yk),(11,.ptr 3 0 0 0)]),[.box 48 (Xr a1),eR3 v4,Qb3 Yf,.box 50 (Qef v5)]⟩ ?_
        obtain ⟨v8,h15,H⟩:=sbC H
        refine Qcb (nt:=83) (hP▸mixed) 12 [10,11] [0,2,4,8,9,10,11] [(0,.d (Yl true a0)),(2,.d (Qa0 t2 a2)),(4,.ptr 0 0 0 0),(8,.own 1 1 0 v4.length),(9,.own 2 2 0 Yf.length),(10,.i Yk),(11,.ptr 3 0 0 0)] [some (.d (Qe1 v5)),some (.d (Qc4 a1)),some (.own 1 1 0 v4.length),some (.i Yk),some (.ptr 1 1 Yk.toNat 0),some (.i (v4.getD Yk.toNat 0)),some (.Qo [.d (Qe1 v8.1),.b v8.2]),some (.Qo [.d (Qe1 v8.1),.b v8.2]),some (.d (Qe1 v8.1)),some (.b v8.2),some (.ptr 4 0 0 0),none] [[.box 48 (Xr a1),eR3 v4,Qb3 Yf,.box 50 (Qef v5)],[.box 48 (Xr a1),eR3 v4,Qb3 Yf,.box 50 (Qef v5),.box 50 [.i 0,.b false]],[.box 48 (Xr a1),eR3 v4,Qb3 Yf,.box 50 (Qef v5),.box 50 (Qef v8.1)]] (by kernel_rfl) (by kernel_rfl) (by kernel_rfl) (by kernel_rfl) ⟨?_,(Qdg hT),⟨?_,(Qdg hT),?_⟩⟩ ?_
        iterate 3 exact (Qdt (Qdt (We (We (We (Zu (Zu (Zu (We (We (We (We Qf2 hT) hT) hT) hT) (fun R rest h=>Xw hT (i:=Yk) (n:=(v4.length:Int)) h9.1 h9.2 (by kernel_rfl) h)) (fun R rest h=>Qa1 hT (i:=Yk.toNat) (n:=v4.length) (ltN h9.1 h9.2) (by kernel_rfl) h)) (fun R rest h=>Zw (Yh:=[.d (Qe1 v5),.d (Qc4 a1),.i (v4.getD Yk.toNat 0)]) (dst:=some 63) hP Qud (Qv.Wv v5 a1 (v4.getD Yk.toNat 0) h15) (by kernel_rfl) (.cons (Qp _) (.cons (Qp _) (.cons (Qp _) .nil))) (by kernel_rfl) h)) hT) hT) hT)))
        refine Qh hT 8 (K65 111110100100101010 1) ⟨83,(Qu.p0 a0 t2 a2++[(8,.own 1 1 0 v4.length),(9,.own 2 2 0 Yf.length),(10,.i Yk),(11,.ptr 3 0 0 0),(12,.ptr 4 0 0 0),(67,.b (!v8.2))]),[.box 48 (Xr a1),eR3 v4,Qb3 Yf,.box 50 (Qef v5),.box 50 (Qef v8.1)]⟩ ?_
        by_cases c16:v8.2=true
        ·replace H:=sT c16 H
         rw [c16]
         refine Qh hT 2 (K65 11111010010010101 1) ⟨83,(Qu.p0 a0 t2 a2++[(8,.own 1 1 0 v4.length),(9,.own 2 2 0 Yf.length),(10,.i Yk),(11,.ptr 3 0 0 0),(12,.ptr 4 0 0 0)]),[.box 48 (Xr a1),eR3 v4,Qb3 Yf,.box 50 (Qef v5),.box 50 (Qef v8.1)]⟩ ?_
         refine Xq hT 4 (K65 1111101001001 1) [0,1,2,3] ⟨83,(Qu.p0 a0 t2 a2++[(8,.own 1 1 0 v4.length),(9,.own 2 2 0 Yf.length),(10,.i Yk),(11,.ptr 3 0 0 0)]),[.box 48 (Xr a1),eR3 v4,Qb3 Yf,.box 50 [.i v8.1.Val,.b v8.1.Some]]⟩ h0 ?_
         exact Jj3 v8.1.Val v8.1.Some H
        replace H:=sF c16 H
        rw [Jk c16]
        refine Qh hT 7 (K65 11111010010010101010 1) ⟨83,[(6,.d (Yl true a0)),(7,.b false)],[.box 48 (Xr a1),eR3 v4,Qb3 Yf,.box 50 (Qef v5),.box 50 (Qef v8.1)]⟩ ?_
        obtain rfl:=Yi H
        exact Ym hf hX h0 (.Qo [.d (Yl true a0),.b false]) [] an (.Qo (.cons (.d (.sl fun _ _=>Qd.nl _)) (.cons (.d (.v _)) .nil)))
       replace H:=sF c14 H
       rw [Jk c14]
       refine Xq hT 2 (K65 1111101001001 1) [0,1,2,3] ⟨83,(Qu.p0 a0 t2 a2++[(8,.own 1 1 0 v4.length),(9,.own 2 2 0 Yf.length),(10,.i Yk),(11,.ptr 3 0 0 0)]),[.box 48 (Xr a1),eR3 v4,Qb3 Yf,.box 50 [.i v5.Val,.b v5.Some]]⟩ h0 ?_
       exact Jj3 v5.Val v5.Some H
      by_cases c12:v6=true
      ·replace H:=sT c12 H
       obtain ⟨v7,h13,H⟩:=sbC H
       refine Qbp (hP▸mixed) 14 [0,2,4,8,9,10,11] (sm [.d (Qc4 a1),.own 1 1 0 v4.length,.i Yk,.ptr 1 1 Yk.toNat 0,.i (v4.getD Yk.toNat 0),.b true,.b true,.d (Qa0 t2 a2),.own 1 1 0 v4.length,.i Yk,.ptr 1 1 Yk.toNat 0,.i (v4.getD Yk.toNat 0),.b v7,.b v7]) (Qj (opS (opS (opS (Qj (Qj (Qj (Qj (opS (opS (opS (Qj (Qj (Qj op0 hT) hT) hT) (fun R rest h=>Xw hT (i:=Yk) (n:=(v4.length:Int)) h9.1 h9.2 (by kernel_rfl) h)) (fun R rest h=>Qa1 hT (i:=Yk.toNat) (n:=v4.length) (ltN h9.1 h9.2) (by kernel_rfl) h)) (fun R rest h=>Zw (Yh:=[.d (Qc4 a1),.i (v4.getD Yk.toNat 0)]) (dst:=some 47) hP Qlz (by have q:=Xu.Wv a1 (v4.getD Yk.toNat 0) h11;rw [c12] at q;exact q) (by kernel_rfl) (.cons (Qp _) (.cons (Qp _) .nil)) (by kernel_rfl) h)) hT) hT) hT) hT) (fun R rest h=>Xw hT (i:=Yk) (n:=(v4.length:Int)) h9.1 h9.2 (by kernel_rfl) h)) (fun R rest h=>Qa1 hT (i:=Yk.toNat) (n:=v4.length) (ltN h9.1 h9.2) (by kernel_rfl) h)) (fun R rest h=>Zw (Yh:=[.d (Qa0 t2 a2),.i (v4.getD Yk.toNat 0)]) (dst:=some 54) hP Wcz (Ya.Wv (t0:=t2) a2 (v4.getD Yk.toNat 0) h13) (by kernel_rfl) (.cons (Qp _) (.cons (Qp _) .nil)) (by kernel_rfl) h)) hT) ?_
       refine Qh hT 1 (K65 11111010010010 1) ⟨83,(Qu.p0 a0 t2 a2++[(8,.own 1 1 0 v4.length),(9,.own 2 2 0 Yf.length),(10,.i Yk),(11,.ptr 3 0 0 0),(55,.b v7)]),[.box 48 (Xr a1),eR3 v4,Qb3 Yf,.box 50 (Qef v5)]⟩ ?_
       exact Jj2 v7 H
      replace H:=sF c12 H
      refine Qbp (hP▸mixed) 14 [0,2,4,8,9,10,11] (sm [.d (Qc4 a1),.own 1 1 0 v4.length,.i Yk,.ptr 1 1 Yk.toNat 0,.i (v4.getD Yk.toNat 0),.b false,.b false,.Qo [],.Qo [],.Qo [],.Qo [],.Qo [],.Qo [],.b false]) (Qj (Qj (Qj (Qj (Qj (Qj (Qj (Qj (opS (opS (opS (Qj (Qj (Qj op0 hT) hT) hT) (fun R rest h=>Xw hT (i:=Yk) (n:=(v4.length:Int)) h9.1 h9.2 (by kernel_rfl) h)) (fun R rest h=>Qa1 hT (i:=Yk.toNat) (n:=v4.length) (ltN h9.1 h9.2) (by kernel_rfl) h)) (fun R rest h=>Zw (Yh:=[.d (Qc4 a1),.i (v4.getD Yk.toNat 0)]) (dst:=some 47) hP Qlz (by have q:=Xu.Wv a1 (v4.getD Yk.toNat 0) h11;rw [Jk c12] at q;exact q) (by kernel_rfl) (.cons (Qp _) (.cons (Qp _) .nil)) (by kernel_rfl) h)) hT) hT) hT) hT) hT) hT) hT) hT) ?_
      refine Qh hT 1 (K65 11111010010010 1) ⟨83,(Qu.p0 a0 t2 a2++[(8,.own 1 1 0 v4.length),(9,.own 2 2 0 Yf.length),(10,.i Yk),(11,.ptr 3 0 0 0),(55,.b false)]),[.box 48 (Xr a1),eR3 v4,Qb3 Yf,.box 50 (Qef v5)]⟩ ?_
      exact Jj2 false H
     replace H:=sF c8 H
     rw [decide_eq_false c8]
     refine Qh hT 8 (K65 111111 1) ⟨83,[(6,.own 2 2 0 Yf.length),(7,.b true)],[.box 48 (Xr a1),eR3 v4,Qb3 Yf]⟩ ?_
     refine Qcf 2 (kk:=2) (n:=Yf.length) (ty:=98) (g:=vec Qd.e Qd.z Yf) (by kernel_rfl) (st':=⟨83,[(6,.own 2 2 0 Yf.length),(7,.b true)],[.box 48 (Xr a1),eR3 v4,Qwh Yf]⟩) (by kernel_rfl) ?_
     refine Qeu (av:=.own 2 2 0 Yf.length) (y:=Yl true Yf) [6,7] 6 (st':=⟨83,[(6,.d (Yl true Yf)),(7,.b true)],[.box 48 (Xr a1),eR3 v4,Qwh Yf]⟩) (by kernel_rfl) (.own (ty:=98) (k:=2) (by kernel_rfl)) (by kernel_rfl) ?_
     obtain rfl:=Yi H
     exact Ym hf hX h0 (.Qo [.d (Yl true Yf),.b true]) [] an (.Qo (.cons (.d (.sl fun _ _=>Qd.nl _)) (.cons (.d (.v _)) .nil)))
  refine Qgo [0,1,2] ⟨83,(Qu.p0 a0 t2 a2++[(8,.own 1 1 0 v4.length),(9,.own 2 2 0 ([]:List Qd).length),(10,.i 0)]),[.box 48 (Xr a1),eR3 v4,Qb3 ([]:List Qd)]⟩ h0 ?_
  obtain ⟨n,H⟩:=Qbu H
  exact (L n) 0 ([]:List Qd) H
 refine Wx (Yh:=[.d (Yl true a0)]) (dst:=some 15) (k':=(K65 1100 2)) [0,2,4,15] [] hP Wci (Xc.Wv (t0:=true) a0 h1) (by kernel_rfl) (Wh _) (.cons (Qp _) .nil) (st':=⟨83,(Qu.p0 a0 t2 a2++[(15,.b v1)]),[.box 48 (Xr a1)]⟩) (by kernel_rfl) ?_
 refine Qh hT 2 (K65 1100 4) ⟨83,(Qu.p0 a0 t2 a2++[(17,.b (!v1))]),[.box 48 (Xr a1)]⟩ ?_
 by_cases c2:v1=true
 ·replace H:=iT c2 H
  rw [c2]
  refine Qh hT 1 (K65 1100 5) ⟨83,(Qu.p0 a0 t2 a2++[(17,.b false),(18,.d (Qc4 a1))]),[.box 48 (Xr a1)]⟩ ?_
  obtain ⟨v2,h3,H⟩:=ibC H
  refine Wx (Yh:=[.d (Qc4 a1)]) (dst:=some 19) (k':=(K65 1100 6)) [0,2,4,17,19] [] hP Qit (Qq.Wv a1 h3) (by kernel_rfl) (Wh _) (.cons (Qp _) .nil) (st':=⟨83,(Qu.p0 a0 t2 a2++[(17,.b false),(19,.b v2)]),[.box 48 (Xr a1)]⟩) (by kernel_rfl) ?_
  refine Qh hT 3 (K65 1100 9) ⟨83,(Qu.p0 a0 t2 a2++[(22,.b (!v2))]),[.box 48 (Xr a1)]⟩ ?_
  by_cases c4:v2=true
  ·replace H:=iT c4 H
   rw [c4]
   refine Qh hT 1 (K65 1100 10) ⟨83,(Qu.p0 a0 t2 a2++[(22,.b false),(23,.d (Qa0 t2 a2))]),[.box 48 (Xr a1)]⟩ ?_
   obtain ⟨v3,h5,H⟩:=ibC H
   refine Wx (Yh:=[.d (Qa0 t2 a2)]) (dst:=some 24) (k':=(K65 1100 11)) [0,2,4,22,24] [] hP Ql0 (Yu.Wv (t0:=t2) a2 h5) (by kernel_rfl) (Wh _) (.cons (Qp _) .nil) (st':=⟨83,(Qu.p0 a0 t2 a2++[(22,.b false),(24,.b v3)]),[.box 48 (Xr a1)]⟩) (by kernel_rfl) ?_
   refine Qh hT 3 (K65 110 1) ⟨83,(Qu.p0 a0 t2 a2++[(26,.b (!v3))]),[.box 48 (Xr a1)]⟩ ?_
   exact Yv (!v3) H
  replace H:=iF c4 H
  rw [Jk c4]
  refine Qh hT 5 (K65 110 1) ⟨83,(Qu.p0 a0 t2 a2++[(26,.b true)]),[.box 48 (Xr a1)]⟩ ?_
  exact Yv true H
 replace H:=iF c2 H
 rw [Jk c2]
 refine Qh hT 10 (K65 110 1) ⟨83,(Qu.p0 a0 t2 a2++[(26,.b true)]),[.box 48 (Xr a1)]⟩ ?_
 exact Yv true H
abbrev Qw.p0 (t0:Bool) (a0:List Qg) (t1:Bool) (a1:List Qf) (a2:Int):List (Nat × AV):=[(0,.d (Yw t0 a0)),(1,.d (Qa0 t1 a1)),(2,.i a2)]
theorem Qw.Wv {t0:Bool} {t1:Bool} (a0:List Qg) (a1:List Qf) (a2:Int) {r:List Qd} (H:Qw a0 a1 a2=some r):Zd Tryz.prog 33 [] [.d (Yw t0 a0),.d (Qa0 t1 a1),.i a2] [] (.d (Yl true r)):=by
 refine Ye Tryz.func33 rfl (nt:=62) rfl (lb rfl) fun X hP h0 hX=>?_
 have hT:Xo X.P T:=hP▸tok
 have hf:X.P.funcs[33]? = some Tryz.f33:=hP▸Tryz.func33
 refine Qh hT 15 (K33 111010 0) ⟨62,(Qw.p0 t0 a0 t1 a1 a2++[(7,.ns),(8,.i 0)]),[]⟩ ?_
 have L:∀ n,(∀ (Qy:Int),iter (Qw.step a0 a1 a2) n (.l1 Qy)=some r->AK X 33 ((K33 111010 0)) (Yq X [] (.d (Yl true r))) ⟨62,(Qw.p0 t0 a0 t1 a1 a2++[(7,.ns),(8,.i Qy)]),[]⟩)/\(∀ (Yp:List Qd) (Qbh:Int),iter (Qw.step a0 a1 a2) n (.l2 Yp Qbh)=some r->AK X 33 ((K33 1111010 0)) (Yq X [] (.d (Yl true r))) ⟨62,(Qw.p0 t0 a0 t1 a1 a2++[(7,.d (Yl true Yp)),(9,.i Qbh)]),[]⟩):=by
  intro n
  induction n with
  | zero=>exact ⟨fun _ H=>Qay H,fun _ _ H=>Qay H⟩
  | succ n ih=>
   refine ⟨?_, ?_⟩
   ·intro Qy H
    refine Qh hT 8 (K33 11101000 1) ⟨62,(Qw.p0 t0 a0 t1 a1 a2++[(7,.ns),(8,.i Qy),(15,.b (decide (Qy < (a0.length:Int))))]),[]⟩ ?_
    by_cases c1:Qy < (a0.length:Int)
    ·replace H:=sT c1 H
     rw [decide_eq_true c1]
     refine Qh hT 2 (K33 1110100 1) ⟨62,(Qw.p0 t0 a0 t1 a1 a2++[(7,.ns),(8,.i Qy)]),[]⟩ ?_
     refine Qh hT 6 (K33 11101001000 2) ⟨62,(Qw.p0 t0 a0 t1 a1 a2++[(7,.ns),(8,.i Qy),(18,.d (Yw t0 a0)),(19,.i Qy)]),[]⟩ ?_
     obtain ⟨h2,H⟩:=sC H
     refine Zv hT [0,1,2,7,8,20] (i:=Qy) (n:=(a0.length:Int)) h2.1 h2.2 (k':=(K33 11101001000 3)) (st':=⟨62,(Qw.p0 t0 a0 t1 a1 a2++[(7,.ns),(8,.i Qy),(20,.d (Qdc t0 a0 Qy.toNat 0))]),[]⟩) (by kernel_rfl) ?_
     refine Qh hT 2 (K33 11101001000 5) ⟨62,(Qw.p0 t0 a0 t1 a1 a2++[(7,.ns),(8,.i Qy),(22,.d (Qc4 ((a0.getD Qy.toNat Qg.z).M)))]),[]⟩ ?_
     obtain ⟨v1,h3,H⟩:=sbC H
     refine Wx (Yh:=[.d (Qc4 ((a0.getD Qy.toNat Qg.z).M))]) (dst:=some 23) (k':=(K33 11101001000 6)) [0,1,2,7,8,23] [] hP Qit (Qq.Wv ((a0.getD Qy.toNat Qg.z).M) h3) (by kernel_rfl) (Wh _) (.cons (Qp _) .nil) (st':=⟨62,(Qw.p0 t0 a0 t1 a1 a2++[(7,.ns),(8,.i Qy),(23,.b v1)]),[]⟩) (by kernel_rfl) ?_
     refine Qh hT 2 (K33 1110100100 1) ⟨62,(Qw.p0 t0 a0 t1 a1 a2++[(7,.ns),(8,.i Qy),(24,.b (!v1))]),[]⟩ ?_
     by_cases c4:v1=true
     ·replace H:=sT c4 H
      rw [c4]
      refine Qh hT 3 (K33 11101001 1) ⟨62,(Qw.p0 t0 a0 t1 a1 a2++[(7,.ns),(8,.i Qy)]),[]⟩ ?_
      refine Qh hT 6 (K33 111010 0) ⟨62,(Qw.p0 t0 a0 t1 a1 a2++[(7,.ns),(8,.i (IntKind.wrap .i64 (Qy+1)))]),[]⟩ ?_
      exact ih.1 (IntKind.wrap .i64 (Qy+1)) H
     replace H:=sF c4 H
     rw [Jk c4]
     refine Qh hT 5 (K33 111010010010 1) ⟨62,[(6,.ns)],[]⟩ ?_
     refine Qeu (av:=.d (.v (.slice none 0 0))) (y:=Yl true ([]:List Qd)) [6] 6 (st':=⟨62,[(6,.d (Yl true ([]:List Qd)))],[]⟩) (by kernel_rfl) (.nil _) (by kernel_rfl) ?_
     obtain rfl:=Yi H
     exact Ym hf hX h0 (.d (Yl true ([]:List Qd))) [] an (.d (.sl fun _ _=>Qd.nl _))
    replace H:=sF c1 H
    rw [decide_eq_false c1]
    refine Qh hT 9 (K33 1111010 0) ⟨62,(Qw.p0 t0 a0 t1 a1 a2++[(7,.ns),(9,.i 0)]),[]⟩ ?_
    refine Qeu (av:=.d (.v (.slice none 0 0))) (y:=Yl true ([]:List Qd)) [0,1,2,7,9] 7 (st':=⟨62,(Qw.p0 t0 a0 t1 a1 a2++[(7,.d (Yl true ([]:List Qd))),(9,.i 0)]),[]⟩) (by kernel_rfl) (.nil _) (by kernel_rfl) ?_
    exact ih.2 ([]:List Qd) 0 H
   intro Yp Qbh H
   have Yv:∀ (Qqg:Bool),stk (Qw.j1 a0 a1 a2 Yp Qbh Qqg) (iter (Qw.step a0 a1 a2) n)=some r->AK X 33 ((K33 111101000 1)) (Yq X [] (.d (Yl true r))) ⟨62,(Qw.p0 t0 a0 t1 a1 a2++[(7,.d (Yl true Yp)),(9,.i Qbh),(32,.b Qqg)]),[]⟩:=by
    intro Qqg H
    by_cases c7:Qqg=true
    ·replace H:=sT c7 H
     rw [c7]
     refine Qh hT 2 (K33 11110100 1) ⟨62,(Qw.p0 t0 a0 t1 a1 a2++[(7,.d (Yl true Yp)),(9,.i Qbh)]),[]⟩ ?_
     refine Qh hT 6 (K33 111101001000 2) ⟨62,(Qw.p0 t0 a0 t1 a1 a2++[(7,.d (Yl true Yp)),(9,.i Qbh),(35,.d (Yw t0 a0)),(36,.i Qbh)]),[]⟩ ?_
     obtain ⟨h8,H⟩:=sC H
     have Jj2:∀ (Qqu:Bool),stk (Qw.j2 a0 a1 Yp Qbh Qqu) (iter (Qw.step a0 a1 a2) n)=some r->AK X 33 ((K33 11110100100 1)) (Yq X [] (.d (Yl true r))) ⟨62,(Qw.p0 t0 a0 t1 a1 a2++[(7,.d (Yl true Yp)),(9,.i Qbh),(48,.b Qqu)]),[]⟩:=by
      intro Qqu H
      have Jj3:∀ (Qgl:List Qd),stk (Qw.j3 Qbh Qgl) (iter (Qw.step a0 a1 a2) n)=some r->AK X 33 ((K33 111101001 1)) (Yq X [] (.d (Yl true r))) ⟨62,(Qw.p0 t0 a0 t1 a1 a2++[(7,.d (Yl true Qgl)),(9,.i Qbh)]),[]⟩:=by
       intro Qgl H
       refine Qh hT 6 (K33 1111010 0) ⟨62,(Qw.p0 t0 a0 t1 a1 a2++[(7,.d (Yl true Qgl)),(9,.i (IntKind.wrap .i64 (Qbh+1)))]),[]⟩ ?_
       exact ih.2 Qgl (IntKind.wrap .i64 (Qbh+1)) H
      by_cases c10:Qqu=true
      ·replace H:=sT c10 H
       rw [c10]
       refine Qh hT 6 (K33 11110100100100 3) ⟨62,(Qw.p0 t0 a0 t1 a1 a2++[(9,.i Qbh),(50,.d (Yl true Yp)),(51,.d (Yw t0 a0)),(52,.i Qbh)]),[]⟩ ?_
       refine Zv hT [0,1,2,9,50,53] (i:=Qbh) (n:=(a0.length:Int)) h8.1 h8.2 (k':=(K33 11110100100100 4)) (st':=⟨62,(Qw.p0 t0 a0 t1 a1 a2++[(9,.i Qbh),(50,.d (Yl true Yp)),(53,.d (Qdc t0 a0 Qbh.toNat 0))]),[]⟩) (by kernel_rfl) ?_
       refine Qh hT 3 (K33 11110100100100 7) ⟨62,(Qw.p0 t0 a0 t1 a1 a2++[(9,.i Qbh),(50,.d (Yl true Yp)),(55,.d (Qc4 ((a0.getD Qbh.toNat Qg.z).M))),(56,.d (Qa0 t1 a1))]),[]⟩ ?_
       obtain ⟨v3,h11,H⟩:=sbC H
       refine Wx (Yh:=[.d (Yl true Yp),.d (Qc4 ((a0.getD Qbh.toNat Qg.z).M)),.d (Qa0 t1 a1)]) (dst:=some 57) (k':=(K33 11110100100100 8)) [0,1,2,9,57] [] hP Wcj (Qu.Wv (t2:=t1) Yp ((a0.getD Qbh.toNat Qg.z).M) a1 h11) (by kernel_rfl) (Wh _) (.cons (Qp _) (.cons (Qp _) (.cons (Qp _) .nil))) (st':=⟨62,(Qw.p0 t0 a0 t1 a1 a2++[(9,.i Qbh),(57,.Qo [.d (Yl true v3.1),.b v3.2])]),[]⟩) (by kernel_rfl) ?_
       refine Qh hT 11 (K33 111101001 1) ⟨62,(Qw.p0 t0 a0 t1 a1 a2++[(7,.d (Yl true v3.1)),(9,.i Qbh)]),[]⟩ ?_
       exact Jj3 v3.1 H
      replace H:=sF c10 H
      rw [Jk c10]
      refine Qh hT 3 (K33 111101001 1) ⟨62,(Qw.p0 t0 a0 t1 a1 a2++[(7,.d (Yl true Yp)),(9,.i Qbh)]),[]⟩ ?_
      exact Jj3 Yp H
     refine Zv hT [0,1,2,7,9,37] (i:=Qbh) (n:=(a0.length:Int)) h8.1 h8.2 (k':=(K33 111101001000 3)) (st':=⟨62,(Qw.p0 t0 a0 t1 a1 a2++[(7,.d (Yl true Yp)),(9,.i Qbh),(37,.d (Qdc t0 a0 Qbh.toNat 0))]),[]⟩) (by kernel_rfl) ?_
     refine Qh hT 3 (K33 111101001000 6) ⟨62,(Qw.p0 t0 a0 t1 a1 a2++[(7,.d (Yl true Yp)),(9,.i Qbh),(40,.b ((a0.getD Qbh.toNat Qg.z).Qai))]),[]⟩ ?_
     by_cases c9:((a0.getD Qbh.toNat Qg.z).Qai)=true
     ·replace H:=sT c9 H
      rw [c9]
      refine Qh hT 2 (K33 111101001000 8) ⟨62,(Qw.p0 t0 a0 t1 a1 a2++[(7,.d (Yl true Yp)),(9,.i Qbh),(40,.b true),(41,.d (Yw t0 a0)),(42,.i Qbh)]),[]⟩ ?_
      refine Zv hT [0,1,2,7,9,40,43] (i:=Qbh) (n:=(a0.length:Int)) h8.1 h8.2 (k':=(K33 111101001000 9)) (st':=⟨62,(Qw.p0 t0 a0 t1 a1 a2++[(7,.d (Yl true Yp)),(9,.i Qbh),(40,.b true),(43,.d (Qdc t0 a0 Qbh.toNat 0))]),[]⟩) (by kernel_rfl) ?_
      refine Qh hT 6 (K33 11110100100 1) ⟨62,(Qw.p0 t0 a0 t1 a1 a2++[(7,.d (Yl true Yp)),(9,.i Qbh),(48,.b (decide (((a0.getD Qbh.toNat Qg.z).Time)<=a2)))]),[]⟩ ?_
      exact Jj2 (decide (((a0.getD Qbh.toNat Qg.z).Time)<=a2)) H
     replace H:=sF c9 H
     rw [Jk c9]
     refine Qh hT 9 (K33 11110100100 1) ⟨62,(Qw.p0 t0 a0 t1 a1 a2++[(7,.d (Yl true Yp)),(9,.i Qbh),(48,.b false)]),[]⟩ ?_
     exact Jj2 false H
    replace H:=sF c7 H
    rw [Jk c7]
    refine Qh hT 7 (K33 11111 1) ⟨62,[(6,.d (Yl true Yp))],[]⟩ ?_
    obtain rfl:=Yi H
    exact Ym hf hX h0 (.d (Yl true Yp)) [] an (.d (.sl fun _ _=>Qd.nl _))
   refine Qh hT 8 (K33 1111010000 5) ⟨62,(Qw.p0 t0 a0 t1 a1 a2++[(7,.d (Yl true Yp)),(9,.i Qbh),(29,.b (decide (Qbh < (a0.length:Int))))]),[]⟩ ?_
   by_cases c5:Qbh < (a0.length:Int)
   ·replace H:=sT c5 H
    rw [decide_eq_true c5]
    refine Qh hT 1 (K33 1111010000 6) ⟨62,(Qw.p0 t0 a0 t1 a1 a2++[(7,.d (Yl true Yp)),(9,.i Qbh),(29,.b true),(30,.d (Qa0 t1 a1))]),[]⟩ ?_
    obtain ⟨v2,h6,H⟩:=sbC H
    refine Wx (Yh:=[.d (Qa0 t1 a1)]) (dst:=some 31) (k':=(K33 1111010000 7)) [0,1,2,7,9,29,31] [] hP Ql0 (Yu.Wv (t0:=t1) a1 h6) (by kernel_rfl) (Wh _) (.cons (Qp _) .nil) (st':=⟨62,(Qw.p0 t0 a0 t1 a1 a2++[(7,.d (Yl true Yp)),(9,.i Qbh),(29,.b true),(31,.b v2)]),[]⟩) (by kernel_rfl) ?_
    refine Qh hT 2 (K33 111101000 1) ⟨62,(Qw.p0 t0 a0 t1 a1 a2++[(7,.d (Yl true Yp)),(9,.i Qbh),(32,.b v2)]),[]⟩ ?_
    exact Yv v2 H
   replace H:=sF c5 H
   rw [decide_eq_false c5]
   refine Qh hT 4 (K33 111101000 1) ⟨62,(Qw.p0 t0 a0 t1 a1 a2++[(7,.d (Yl true Yp)),(9,.i Qbh),(32,.b false)]),[]⟩ ?_
   exact Yv false H
 obtain ⟨n,H⟩:=Qbu H
 exact (L n).1 0 H
abbrev Qx.p0 (t0:Bool) (a0:List Qg) (a2:Int):List (Nat × AV):=[(0,.d (Yw t0 a0)),(2,.i a2)]
theorem Qx.Wv {t0:Bool} {t1:Bool} (a0:List Qg) (a1:List Qf) (a2:Int) {r:(List Qg) × Int} (H:Qx a0 a1 a2=some r):Zd Tryz.prog 17 [] [.d (Yw t0 a0),.d (Qa0 t1 a1),.i a2] [Qbg r.1] (.Qo [.own 0 9 0 r.1.length,.i r.2]):=by
 refine Ye Tryz.func17 rfl (nt:=75) rfl (lb rfl) fun X hP h0 hX=>?_
 have hT:Xo X.P T:=hP▸tok
 have hf:X.P.funcs[17]? = some Tryz.f17:=hP▸Tryz.func17
 refine Qh hT 9 (K17 1100 1) ⟨75,[(0,.d (Yw t0 a0)),(1,.d (Qa0 t1 a1)),(2,.i a2),(13,.d (Yw t0 a0))],[]⟩ ?_
 obtain ⟨v1,h1,H⟩:=ibC H
 have Yv:∀ (Qp9:Bool),(Qx.j1 a0 a1 a2 Qp9)=some r->AK X 17 ((K17 110 1)) (Yq X [Qbg r.1] (.Qo [.own 0 9 0 r.1.length,.i r.2])) ⟨75,[(0,.d (Yw t0 a0)),(1,.d (Qa0 t1 a1)),(2,.i a2),(20,.b Qp9)],[]⟩:=by
  intro Qp9 H
  by_cases c4:Qp9=true
  ·replace H:=iT c4 H
   rw [c4]
   refine Qh hT 6 (K17 11010 1) ⟨75,[(6,.ns),(7,.i 1)],[]⟩ ?_
   refine Qb8 [6,7] 6 9 56 (vec Qg.e Qg.z []) (st':=⟨75,[(6,.own 0 9 0 0),(7,.i 1)],[Qbg ([]:List Qg)]⟩) (by kernel_rfl) (by kernel_rfl) ?_
   obtain rfl:=Yi H
   exact Ym hf hX h0 (.Qo [.own 0 9 0 0,.i 1]) [0] (ac (Qat Qg.nl) an) (.Qo (.cons (.own _ _ _ _) (.cons (.d (.v _)) .nil)))
  replace H:=iF c4 H
  rw [Jk c4]
  refine Qh hT 2 (K17 11 1) ⟨75,[(0,.d (Yw t0 a0)),(1,.d (Qa0 t1 a1)),(2,.i a2)],[]⟩ ?_
  refine Qh hT 5 (K17 1110 3) ⟨75,(Qx.p0 t0 a0 a2++[(21,.d (Yw t0 a0)),(22,.d (Qa0 t1 a1)),(23,.i a2)]),[]⟩ ?_
  obtain ⟨v3,h5,H⟩:=ibC H
  refine Wx (Yh:=[.d (Yw t0 a0),.d (Qa0 t1 a1),.i a2]) (dst:=some 24) (k':=(K17 1110 4)) [0,2,24] [] hP Wb2 (Qw.Wv (t0:=t0) (t1:=t1) a0 a1 a2 h5) (by kernel_rfl) (Wh _) (.cons (Qp _) (.cons (Qp _) (.cons (Qp _) .nil))) (st':=⟨75,(Qx.p0 t0 a0 a2++[(24,.d (Yl true v3))]),[]⟩) (by kernel_rfl) ?_
  refine Qh hT 13 (K17 11111010 0) ⟨75,(Qx.p0 t0 a0 a2++[(8,.d (Yl true v3)),(9,.ns),(10,.i 0)]),[]⟩ ?_
  refine Qb8 [0,2,8,9,10] 9 9 56 (vec Qg.e Qg.z []) (st':=⟨75,(Qx.p0 t0 a0 a2++[(8,.d (Yl true v3)),(9,.own 0 9 0 0),(10,.i 0)]),[Qbg ([]:List Qg)]⟩) (by kernel_rfl) (by kernel_rfl) ?_
  have L:∀ n,(∀ (Yk:Int) (Qi:List Qg),iter (Qx.step a0 a2 v3) n (.l1 Yk Qi)=some r->AK X 17 ((K17 11111010 0)) (Yq X [Qbg r.1] (.Qo [.own 0 9 0 r.1.length,.i r.2])) ⟨75,(Qx.p0 t0 a0 a2++[(8,.d (Yl true v3)),(9,.own 0 9 0 Qi.length),(10,.i Yk)]),[Qbg Qi]⟩)/\(∀ (Qap:Int) (Qba:Int) (Qad:Int) (Xv:List Qg),iter (Qx.step a0 a2 v3) n (.l2 Qap Qba Qad Xv)=some r->AK X 17 ((K17 1111101001001010 0)) (Yq X [Qbg r.1] (.Qo [.own 0 9 0 r.1.length,.i r.2])) ⟨75,(Qx.p0 t0 a0 a2++[(8,.d (Yl true v3)),(9,.own 0 9 0 Xv.length),(10,.i Qap),(11,.i Qba),(12,.i Qad)]),[Qbg Xv]⟩):=by
   intro n
   induction n with
   | zero=>exact ⟨fun _ _ H=>Qay H,fun _ _ _ _ H=>Qay H⟩
   | succ n ih=>
    refine ⟨?_, ?_⟩
    ·intro Yk Qi H
     refine Qh hT 8 (K17 1111101000 1) ⟨75,(Qx.p0 t0 a0 a2++[(8,.d (Yl true v3)),(9,.own 0 9 0 Qi.length),(10,.i Yk),(28,.b (decide (Yk < (v3.length:Int))))]),[Qbg Qi]⟩ ?_
     by_cases c6:Yk < (v3.length:Int)
     ·replace H:=sT c6 H
      rw [decide_eq_true c6]
      refine Qh hT 2 (K17 111110100 1) ⟨75,(Qx.p0 t0 a0 a2++[(8,.d (Yl true v3)),(9,.own 0 9 0 Qi.length),(10,.i Yk)]),[Qbg Qi]⟩ ?_
      refine Qh hT 13 (K17 1111101001001010 0) ⟨75,(Qx.p0 t0 a0 a2++[(8,.d (Yl true v3)),(9,.own 0 9 0 Qi.length),(10,.i Yk),(11,.i (-1)),(12,.i 0)]),[Qbg Qi]⟩ ?_
      exact ih.2 Yk (-1) 0 Qi H
     replace H:=sF c6 H
     rw [decide_eq_false c6]
     refine Qh hT 8 (K17 111111 1) ⟨75,[(6,.own 0 9 0 Qi.length),(7,.i 0)],[Qbg Qi]⟩ ?_
     obtain rfl:=Yi H
     exact Ym hf hX h0 (.Qo [.own 0 9 0 Qi.length,.i 0]) [0] (ac (Qat Qg.nl) an) (.Qo (.cons (.own _ _ _ _) (.cons (.d (.v _)) .nil)))
    intro Qap Qba Qad Xv H
    refine Qh hT 8 (K17 111110100100101000 1) ⟨75,(Qx.p0 t0 a0 a2++[(8,.d (Yl true v3)),(9,.own 0 9 0 Xv.length),(10,.i Qap),(11,.i Qba),(12,.i Qad),(34,.b (decide (Qad < (a0.length:Int))))]),[Qbg Xv]⟩ ?_
    by_cases c7:Qad < (a0.length:Int)
    ·replace H:=sT c7 H
     rw [decide_eq_true c7]
     refine Qh hT 2 (K17 11111010010010100 1) ⟨75,(Qx.p0 t0 a0 a2++[(8,.d (Yl true v3)),(9,.own 0 9 0 Xv.length),(10,.i Qap),(11,.i Qba),(12,.i Qad)]),[Qbg Xv]⟩ ?_
     refine Qh hT 3 (K17 11111010010010100100 0) ⟨75,(Qx.p0 t0 a0 a2++[(8,.d (Yl true v3)),(9,.own 0 9 0 Xv.length),(10,.i Qap),(11,.i Qba),(12,.i Qad)]),[Qbg Xv]⟩ ?_
     obtain ⟨h11,H⟩:=sC H
     have Jj3:∀ (Qqz:Bool),stk (Qx.j3 Qap Qba Qad Xv Qqz) (iter (Qx.step a0 a2 v3) n)=some r->AK X 17 ((K17 11111010010010100100 1)) (Yq X [Qbg r.1] (.Qo [.own 0 9 0 r.1.length,.i r.2])) ⟨75,(Qx.p0 t0 a0 a2++[(8,.d (Yl true v3)),(9,.own 0 9 0 Xv.length),(10,.i Qap),(11,.i Qba),(12,.i Qad),(63,.b Qqz)]),[Qbg Xv]⟩:=by
      intro Qqz H
      have Jj4:∀ (Qn9:Int),stk (Qx.j4 Qap Qad Xv Qn9) (iter (Qx.step a0 a2 v3) n)=some r->AK X 17 ((K17 111110100100101001 1)) (Yq X [Qbg r.1] (.Qo [.own 0 9 0 r.1.length,.i r.2])) ⟨75,(Qx.p0 t0 a0 a2++[(8,.d (Yl true v3)),(9,.own 0 9 0 Xv.length),(10,.i Qap),(11,.i Qn9),(12,.i Qad)]),[Qbg Xv]⟩:=by
       intro Qn9 H
       refine Qh hT 6 (K17 1111101001001010 0) ⟨75,(Qx.p0 t0 a0 a2++[(8,.d (Yl true v3)),(9,.own 0 9 0 Xv.length),(10,.i Qap),(11,.i Qn9),(12,.i (IntKind.wrap .i64 (Qad+1)))]),[Qbg Xv]⟩ ?_
       exact ih.2 Qap Qn9 (IntKind.wrap .i64 (Qad+1)) Xv H
      by_cases c16:Qqz=true
      ·replace H:=sT c16 H
       rw [c16]
       refine Qh hT 6 (K17 111110100100101001 1) ⟨75,(Qx.p0 t0 a0 a2++[(8,.d (Yl true v3)),(9,.own 0 9 0 Xv.length),(10,.i Qap),(11,.i Qad),(12,.i Qad)]),[Qbg Xv]⟩ ?_
       exact Jj4 Qad H
      replace H:=sF c16 H
      rw [Jk c16]
      refine Qh hT 3 (K17 111110100100101001 1) ⟨75,(Qx.p0 t0 a0 a2++[(8,.d (Yl true v3)),(9,.own 0 9 0 Xv.length),(10,.i Qap),(11,.i Qba),(12,.i Qad)]),[Qbg Xv]⟩ ?_
      exact Jj4 Qba H
     by_cases c12:((a0.getD Qad.toNat Qg.z).Qai)=true
     ·replace H:=sT c12 H
      by_cases c13:((a0.getD Qad.toNat Qg.z).Time)<=a2
      ·replace H:=sT c13 H
       obtain ⟨h14,H⟩:=sC H
       obtain ⟨v4,h15,H⟩:=sbC H
       refine Qbp (hP▸mixed) 27 [0,2,8,9,10,11,12] (sm [.d (Yw t0 a0),.i Qad,.d (Qdc t0 a0 Qad.toNat 0),.d (Qdc t0 a0 Qad.toNat 8),.b true,.b true,.d (Yw t0 a0),.i Qad,.d (Qdc t0 a0 Qad.toNat 0),.d (Qdc t0 a0 Qad.toNat 7),.i ((a0.getD Qad.toNat Qg.z).Time),.i a2,.b true,.b true,.b true,.d (Yw t0 a0),.i Qad,.d (Qdc t0 a0 Qad.toNat 0),.d (Qdc t0 a0 Qad.toNat 0),.d (Qc4 ((a0.getD Qad.toNat Qg.z).M)),.d (Yl true v3),.i Qap,.d (Qcn true v3 Qap.toNat 0),.d (Qcn true v3 Qap.toNat 0),.i ((v3.getD Qap.toNat Qd.z).Key),.b v4,.b v4]) (Qj (opS (Qj (Qj (opS (Qj (Qj (Qj (Qj (opS (Qj (Qj (Qj (Qj (opV (Qj (Qj (Qj (opS (Qj (Qj (Qj (opV (Qj (opS (Qj (Qj op0 hT) hT) (fun R rest h=>Xw hT (i:=Qad) (n:=(a0.length:Int)) h11.1 h11.2 (by kernel_rfl) h)) hT) hT 41 (.b ((a0.getD Qad.toNat Qg.z).Qai)) (.b true) (by rw [c12]<;>rfl)) hT) hT) hT) (fun R rest h=>Xw hT (i:=Qad) (n:=(a0.length:Int)) h11.1 h11.2 (by kernel_rfl) h)) hT) hT) hT) hT 49 (.b (decide (((a0.getD Qad.toNat Qg.z).Time)<=a2))) (.b true) (by rw [decide_eq_true c13]<;>rfl)) hT) hT) hT) hT) (fun R rest h=>Xw hT (i:=Qad) (n:=(a0.length:Int)) h11.1 h11.2 (by kernel_rfl) h)) hT) hT) hT) hT) (fun R rest h=>Xw hT (i:=Qap) (n:=(v3.length:Int)) h14.1 h14.2 (by kernel_rfl) h)) hT) hT) (fun R rest h=>Zw (Yh:=[.d (Qc4 ((a0.getD Qad.toNat Qg.z).M)),.i ((v3.getD Qap.toNat Qd.z).Key)]) (dst:=some 62) hP Qlz (Xu.Wv ((a0.getD Qad.toNat Qg.z).M) ((v3.getD Qap.toNat Qd.z).Key) h15) (by kernel_rfl) (.cons (Qp _) (.cons (Qp _) .nil)) (by kernel_rfl) h)) hT) ?_
       refine Qh hT 1 (K17 11111010010010100100 1) ⟨75,(Qx.p0 t0 a0 a2++[(8,.d (Yl true v3)),(9,.own 0 9 0 Xv.length),(10,.i Qap),(11,.i Qba),(12,.i Qad),(63,.b v4)]),[Qbg Xv]⟩ ?_
       exact Jj3 v4 H
      replace H:=sF c13 H
      refine Qbp (hP▸mixed) 27 [0,2,8,9,10,11,12] (sm [.d (Yw t0 a0),.i Qad,.d (Qdc t0 a0 Qad.toNat 0),.d (Qdc t0 a0 Qad.toNat 8),.b true,.b true,.d (Yw t0 a0),.i Qad,.d (Qdc t0 a0 Qad.toNat 0),.d (Qdc t0 a0 Qad.toNat 7),.i ((a0.getD Qad.toNat Qg.z).Time),.i a2,.b false,.b false,.b false,.Qo [],.Qo [],.Qo [],.Qo [],.Qo [],.Qo [],.Qo [],.Qo [],.Qo [],.Qo [],.Qo [],.b false]) (Qj (Qj (Qj (Qj (Qj (Qj (Qj (Qj (Qj (Qj (Qj (Qj (Qj (Qj (opV (Qj (Qj (Qj (opS (Qj (Qj (Qj (opV (Qj (opS (Qj (Qj op0 hT) hT) (fun R rest h=>Xw hT (i:=Qad) (n:=(a0.length:Int)) h11.1 h11.2 (by kernel_rfl) h)) hT) hT 41 (.b ((a0.getD Qad.toNat Qg.z).Qai)) (.b true) (by rw [c12]<;>rfl)) hT) hT) hT) (fun R rest h=>Xw hT (i:=Qad) (n:=(a0.length:Int)) h11.1 h11.2 (by kernel_rfl) h)) hT) hT) hT) hT 49 (.b (decide (((a0.getD Qad.toNat Qg.z).Time)<=a2))) (.b false) (by rw [decide_eq_false c13]<;>rfl)) hT) hT) hT) hT) hT) hT) hT) hT) hT) hT) hT) hT) hT) hT) ?_
      refine Qh hT 1 (K17 11111010010010100100 1) ⟨75,(Qx.p0 t0 a0 a2++[(8,.d (Yl true v3)),(9,.own 0 9 0 Xv.length),(10,.i Qap),(11,.i Qba),(12,.i Qad),(63,.b false)]),[Qbg Xv]⟩ ?_
      exact Jj3 false H
     replace H:=sF c12 H
     refine Qbp (hP▸mixed) 27 [0,2,8,9,10,11,12] (sm [.d (Yw t0 a0),.i Qad,.d (Qdc t0 a0 Qad.toNat 0),.d (Qdc t0 a0 Qad.toNat 8),.b false,.b false,.Qo [],.Qo [],.Qo [],.Qo [],.Qo [],.Qo [],.Qo [],.b false,.b false,.Qo [],.Qo [],.Qo [],.Qo [],.Qo [],.Qo [],.Qo [],.Qo [],.Qo [],.Qo [],.Qo [],.b false]) (Qj (Qj (Qj (Qj (Qj (Qj (Qj (Qj (Qj (Qj (Qj (Qj (Qj (Qj (Qj (Qj (Qj (Qj (Qj (Qj (Qj (Qj (opV (Qj (opS (Qj (Qj op0 hT) hT) (fun R rest h=>Xw hT (i:=Qad) (n:=(a0.length:Int)) h11.1 h11.2 (by kernel_rfl) h)) hT) hT 41 (.b ((a0.getD Qad.toNat Qg.z).Qai)) (.b false) (by rw [Jk c12]<;>rfl)) hT) hT) hT) hT) hT) hT) hT) hT) hT) hT) hT) hT) hT) hT) hT) hT) hT) hT) hT) hT) hT) hT) ?_
     refine Qh hT 1 (K17 11111010010010100100 1) ⟨75,(Qx.p0 t0 a0 a2++[(8,.d (Yl true v3)),(9,.own 0 9 0 Xv.length),(10,.i Qap),(11,.i Qba),(12,.i Qad),(63,.b false)]),[Qbg Xv]⟩ ?_
     exact Jj3 false H
    replace H:=sF c7 H
    have Jj2:∀ (Qk1:List Qg),stk (Qx.j2 Qap Qk1) (iter (Qx.step a0 a2 v3) n)=some r->AK X 17 ((K17 1111101001 1)) (Yq X [Qbg r.1] (.Qo [.own 0 9 0 r.1.length,.i r.2])) ⟨75,(Qx.p0 t0 a0 a2++[(8,.d (Yl true v3)),(9,.own 0 9 0 Qk1.length),(10,.i Qap)]),[Qbg Qk1]⟩:=by
     intro Qk1 H
     refine Qh hT 6 (K17 11111010 0) ⟨75,(Qx.p0 t0 a0 a2++[(8,.d (Yl true v3)),(9,.own 0 9 0 Qk1.length),(10,.i (IntKind.wrap .i64 (Qap+1)))]),[Qbg Qk1]⟩ ?_
     exact ih.1 (IntKind.wrap .i64 (Qap+1)) Qk1 H
    rw [decide_eq_false c7]
    refine Qh hT 7 (K17 11111010010011 1) ⟨75,(Qx.p0 t0 a0 a2++[(8,.d (Yl true v3)),(9,.own 0 9 0 Xv.length),(10,.i Qap),(11,.i Qba),(66,.b (decide (Qba>=0)))]),[Qbg Xv]⟩ ?_
    by_cases c8:Qba>=0
    ·replace H:=sT c8 H
     rw [decide_eq_true c8]
     refine Qh hT 5 (K17 1111101001001110 3) ⟨75,(Qx.p0 t0 a0 a2++[(8,.d (Yl true v3)),(10,.i Qap),(67,.own 0 9 0 Xv.length),(68,.d (Yw t0 a0)),(69,.i Qba)]),[Qbg Xv]⟩ ?_
     obtain ⟨h9,H⟩:=sC H
     refine Zv hT [0,2,8,10,67,70] (i:=Qba) (n:=(a0.length:Int)) h9.1 h9.2 (k':=(K17 1111101001001110 4)) (st':=⟨75,(Qx.p0 t0 a0 a2++[(8,.d (Yl true v3)),(10,.i Qap),(67,.own 0 9 0 Xv.length),(70,.d (Qdc t0 a0 Qba.toNat 0))]),[Qbg Xv]⟩) (by kernel_rfl) ?_
     refine Qh hT 2 (K17 1111101001001110 6) ⟨75,(Qx.p0 t0 a0 a2++[(8,.d (Yl true v3)),(10,.i Qap),(67,.own 0 9 0 Xv.length),(72,.own 1 9 0 1)]),[Qbg Xv,.flat false 9 56 1 (fun j=>[Qg.e (a0.getD Qba.toNat Qg.z)].getD j [])]⟩ ?_
     obtain ⟨h10,H⟩:=sC H
     refine Qca (id:=0) (kk:=9) (by':=88) (t:=52) (e:=56) (z:=[.int .i64 0,.int .i64 0,.int .i64 0,.slice none 0 0,.int .i64 0,.int .i64 0,.int .i64 0,.int .i64 0,.bool false]) (dst:=some 73) (id2:=1) (e2:=56) (fz:=false) (k':=(K17 1111101001001110 7)) hT Qg.e Qg.z Xv (a0.getD Qba.toNat Qg.z) [0,2,8,10,73] (by kernel_rfl) (by kernel_rfl) (by kernel_rfl) (by kernel_rfl) (by kernel_rfl) (by kernel_rfl) (by kernel_rfl) h10 (by omega) (st':=⟨75,(Qx.p0 t0 a0 a2++[(8,.d (Yl true v3)),(10,.i Qap),(73,.own 2 9 0 ((Xv ++ [a0.getD Qba.toNat Qg.z]).length))]),[.gone,.flat false 9 56 1 (fun j=>[Qg.e (a0.getD Qba.toNat Qg.z)].getD j []),Qbg (Xv ++ [a0.getD Qba.toNat Qg.z])]⟩) (by kernel_rfl) ?_
     refine Xq hT 3 (K17 1111101001 1) [2] ⟨75,(Qx.p0 t0 a0 a2++[(8,.d (Yl true v3)),(9,.own 0 9 0 (Xv ++ [a0.getD Qba.toNat Qg.z]).length),(10,.i Qap)]),[Qbg (Xv ++ [a0.getD Qba.toNat Qg.z])]⟩ h0 ?_
     exact Jj2 (Xv ++ [a0.getD Qba.toNat Qg.z]) H
    replace H:=sF c8 H
    rw [decide_eq_false c8]
    refine Qh hT 3 (K17 1111101001 1) ⟨75,(Qx.p0 t0 a0 a2++[(8,.d (Yl true v3)),(9,.own 0 9 0 Xv.length),(10,.i Qap)]),[Qbg Xv]⟩ ?_
    exact Jj2 Xv H
  refine Qgo [0] ⟨75,(Qx.p0 t0 a0 a2++[(8,.d (Yl true v3)),(9,.own 0 9 0 ([]:List Qg).length),(10,.i 0)]),[Qbg ([]:List Qg)]⟩ h0 ?_
  obtain ⟨n,H⟩:=Qbu H
  exact (L n).1 0 ([]:List Qg) H
 refine Wx (Yh:=[.d (Yw t0 a0)]) (dst:=some 14) (k':=(K17 1100 2)) [0,1,2,14] [] hP Qos (Yn.Wv (t0:=t0) a0 h1) (by kernel_rfl) (Wh _) (.cons (Qp _) .nil) (st':=⟨75,[(0,.d (Yw t0 a0)),(1,.d (Qa0 t1 a1)),(2,.i a2),(14,.b v1)],[]⟩) (by kernel_rfl) ?_
 refine Qh hT 2 (K17 1100 4) ⟨75,[(0,.d (Yw t0 a0)),(1,.d (Qa0 t1 a1)),(2,.i a2),(16,.b (!v1))],[]⟩ ?_
 by_cases c2:v1=true
 ·replace H:=iT c2 H
  rw [c2]
  refine Qh hT 1 (K17 1100 5) ⟨75,[(0,.d (Yw t0 a0)),(1,.d (Qa0 t1 a1)),(2,.i a2),(16,.b false),(17,.d (Qa0 t1 a1))],[]⟩ ?_
  obtain ⟨v2,h3,H⟩:=ibC H
  refine Wx (Yh:=[.d (Qa0 t1 a1)]) (dst:=some 18) (k':=(K17 1100 6)) [0,1,2,16,18] [] hP Ql0 (Yu.Wv (t0:=t1) a1 h3) (by kernel_rfl) (Wh _) (.cons (Qp _) .nil) (st':=⟨75,[(0,.d (Yw t0 a0)),(1,.d (Qa0 t1 a1)),(2,.i a2),(16,.b false),(18,.b v2)],[]⟩) (by kernel_rfl) ?_
  refine Qh hT 3 (K17 110 1) ⟨75,[(0,.d (Yw t0 a0)),(1,.d (Qa0 t1 a1)),(2,.i a2),(20,.b (!v2))],[]⟩ ?_
  exact Yv (!v2) H
 replace H:=iF c2 H
 rw [Jk c2]
 refine Qh hT 5 (K17 110 1) ⟨75,[(0,.d (Yw t0 a0)),(1,.d (Qa0 t1 a1)),(2,.i a2),(20,.b true)],[]⟩ ?_
 exact Yv true H
abbrev Qc.q1 (v4:(List Xe) × Int) (Qm:Int):=([(v4.1.getD Qm.toNat Xe.z).E]:List Qe)
abbrev Qc.q2 (v5:(List Xf) × Int) (Qm:Int):=(v5.1.getD Qm.toNat Xf.z)
abbrev Qc.q3 (v5:(List Xf) × Int) (Qm:Int):=((Qc.q2 v5 Qm).Was)
abbrev Qc.p0 (a0:List Qe) (a1:List Qb):List (Nat × AV):=[(0,.d (Xj true a0)),(1,.d (Wu true a1)),(5,.ptr 0 0 0 0)]
theorem Qc.Wv (a0:List Qe) (a1:List Qb) (a2:Qcy) {r:Bool} (H:Qc a0 a1 a2=some r):Zd Tryz.prog 4 [] [.d (Xj true a0),.d (Wu true a1),.d (Wjt a2)] [] (.b r):=by
 refine Ye Tryz.func4 rfl (nt:=162) rfl (lb rfl) fun X hP h0 hX=>?_
 have hT:Xo X.P T:=hP▸tok
 have hf:X.P.funcs[4]? = some Tryz.f4:=hP▸Tryz.func4
 refine Qh hT 9 (K4 1100 1) ⟨162,(Qc.p0 a0 a1++[(19,.d (Xj true a0))]),[.box 59 (Jr a2)]⟩ ?_
 obtain ⟨v1,h1,H⟩:=ibC H
 have Yv:∀ (Qia:Bool),(Qc.j1 a0 a1 a2 Qia)=some r->AK X 4 ((K4 110 1)) (Yq X [] (.b r)) ⟨162,(Qc.p0 a0 a1++[(26,.b Qia)]),[.box 59 (Jr a2)]⟩:=by
  intro Qia H
  by_cases c3:Qia=true
  ·replace H:=iT c3 H
   rw [c3]
   refine Qh hT 3 (K4 110100 0) ⟨162,[],[.box 59 (Jr a2)]⟩ ?_
   obtain ⟨v2,h4,H⟩:=ibC H
   refine Wx (Yh:=[]) (dst:=some 27) (k':=(K4 110100 1)) [27] [] hP Qrf (Ql.Wv h4) (by kernel_rfl) (Wh _) .nil (st':=⟨162,[(27,.b v2)],[.box 59 (Jr a2)]⟩) (by kernel_rfl) ?_
   refine Qh hT 2 (K4 11010 1) ⟨162,[(6,.b v2)],[.box 59 (Jr a2)]⟩ ?_
   obtain rfl:=Yi H
   exact Ym hf hX h0 (.b v2) [] an (.d (.v _))
  replace H:=iF c3 H
  rw [Jk c3]
  refine Qh hT 2 (K4 11 1) ⟨162,(Qc.p0 a0 a1),[.box 59 (Jr a2)]⟩ ?_
  refine Qh hT 3 (K4 1110 1) ⟨162,(Qc.p0 a0 a1++[(28,.d (Xj true a0))]),[.box 59 (Jr a2)]⟩ ?_
  obtain ⟨v3,h5,H⟩:=ibC H
  refine Wx (Yh:=[.d (Xj true a0)]) (dst:=some 29) (k':=(K4 1110 2)) [0,1,5,29] [] hP Qfp (Qan.Wv a0 h5) (by kernel_rfl) (Wh _) (.cons (Qp _) .nil) (st':=⟨162,(Qc.p0 a0 a1++[(29,.d (Yw true v3))]),[.box 59 (Jr a2)]⟩) (by kernel_rfl) ?_
  refine Qh hT 5 (K4 11110 1) ⟨162,(Qc.p0 a0 a1++[(7,.d (Yw true v3)),(31,.d (Xj true a0))]),[.box 59 (Jr a2)]⟩ ?_
  refine Zv hT [0,1,5,7,31,32] (i:=0) (n:=2) (by decide) (by decide) (k':=(K4 11110 2)) (st':=⟨162,(Qc.p0 a0 a1++[(7,.d (Yw true v3)),(31,.d (Xj true a0)),(32,.ptr 0 0 0 0)]),[.box 59 (Jr a2)]⟩) (by kernel_rfl) ?_
  refine Qh hT 1 (K4 11110 3) ⟨162,(Qc.p0 a0 a1++[(7,.d (Yw true v3)),(31,.d (Xj true a0)),(33,.i a2.i0)]),[.box 59 (Jr a2)]⟩ ?_
  obtain ⟨v4,h6,H⟩:=ibC H
  refine Wx (Yh:=[.d (Xj true a0),.i a2.i0]) (dst:=some 34) (k':=(K4 11110 4)) [0,1,5,7,34] [] hP Wff (Ws.Wv (t0:=true) a0 a2.i0 h6) (by kernel_rfl) (Wh _) (.cons (Qp _) (.cons (Qp _) .nil)) (st':=⟨162,(Qc.p0 a0 a1++[(7,.d (Yw true v3)),(34,.Qo [.own 1 13 0 v4.1.length,.i v4.2])]),[.box 59 (Jr a2),Qae v4.1]⟩) (by kernel_rfl) ?_
  refine Qh hT 9 (K4 111110 1) ⟨162,(Qc.p0 a0 a1++[(7,.d (Yw true v3)),(8,.own 1 13 0 v4.1.length),(9,.i v4.2),(38,.d (Yw true v3))]),[.box 59 (Jr a2),Qae v4.1]⟩ ?_
  refine Zv hT [0,1,5,7,8,9,38,39] (i:=0) (n:=2) (by decide) (by decide) (k':=(K4 111110 2)) (st':=⟨162,(Qc.p0 a0 a1++[(7,.d (Yw true v3)),(8,.own 1 13 0 v4.1.length),(9,.i v4.2),(38,.d (Yw true v3)),(39,.ptr 0 0 0 0)]),[.box 59 (Jr a2),Qae v4.1]⟩) (by kernel_rfl) ?_
  refine Qh hT 1 (K4 111110 3) ⟨162,(Qc.p0 a0 a1++[(7,.d (Yw true v3)),(8,.own 1 13 0 v4.1.length),(9,.i v4.2),(38,.d (Yw true v3)),(40,.i a2.i0)]),[.box 59 (Jr a2),Qae v4.1]⟩ ?_
  obtain ⟨v5,h7,H⟩:=ibC H
  have Jj2:∀ (Qqv:Bool),(Qc.j2 a0 a1 a2 v3 v4 v5 Qqv)=some r->AK X 4 ((K4 1111110 1)) (Yq X [] (.b r)) ⟨162,(Qc.p0 a0 a1++[(7,.d (Yw true v3)),(8,.own 1 13 0 v4.1.length),(10,.own 2 13 0 v5.1.length),(53,.b Qqv)]),[.box 59 (Jr a2),Qae v4.1,Jt v5.1]⟩:=by
   intro Qqv H
   by_cases c9:Qqv=true
   ·replace H:=iT c9 H
    rw [c9]
    refine Qh hT 5 (K4 111111010 1) ⟨162,[(6,.b false)],[.box 59 (Jr a2),Qae v4.1,Jt v5.1]⟩ ?_
    obtain rfl:=Yi H
    exact Ym hf hX h0 (.b false) [] an (.d (.v _))
   replace H:=iF c9 H
   rw [Jk c9]
   refine Qh hT 2 (K4 111111 1) ⟨162,(Qc.p0 a0 a1++[(7,.d (Yw true v3)),(8,.own 1 13 0 v4.1.length),(10,.own 2 13 0 v5.1.length)]),[.box 59 (Jr a2),Qae v4.1,Jt v5.1]⟩ ?_
   refine Qh hT 7 (K4 1111111010 0) ⟨162,(Qc.p0 a0 a1++[(7,.d (Yw true v3)),(8,.own 1 13 0 v4.1.length),(10,.own 2 13 0 v5.1.length),(12,.i 0)]),[.box 59 (Jr a2),Qae v4.1,Jt v5.1]⟩ ?_
   have L:∀ n,(∀ (Qm:Int),iter (Qc.step a0 a1 a2 v3 v4 v5) n (.l1 Qm)=some r->AK X 4 ((K4 1111111010 0)) (Yq X [] (.b r)) ⟨162,(Qc.p0 a0 a1++[(7,.d (Yw true v3)),(8,.own 1 13 0 v4.1.length),(10,.own 2 13 0 v5.1.length),(12,.i Qm)]),[.box 59 (Jr a2),Qae v4.1,Jt v5.1]⟩)/\(∀ (v8:(List Qg) × Int) (v9:List Qg) (Qc1:Int),iter (Qc.step a0 a1 a2 v3 v4 v5) n (.l2 v8 v9 Qc1)=some r->AK X 4 ((K4 111111111111010 0)) (Yq X [] (.b r)) ⟨162,(Qc.p0 a0 a1++[(7,.d (Yw true v3)),(15,.own 1 9 0 v8.1.length),(17,.d (Yw true v9)),(18,.i Qc1)]),[.box 59 (Jr a2),Qbg v8.1]⟩):=by
    intro n
    induction n with
    | zero=>exact ⟨fun _ H=>Qay H,fun _ _ _ H=>Qay H⟩
    | succ n ih=>
     refine ⟨?_, ?_⟩
     ·intro Qm H
      refine Qh hT 8 (K4 111111101000 1) ⟨162,(Qc.p0 a0 a1++[(7,.d (Yw true v3)),(8,.own 1 13 0 v4.1.length),(10,.own 2 13 0 v5.1.length),(12,.i Qm),(57,.b (decide (Qm < (v4.1.length:Int))))]),[.box 59 (Jr a2),Qae v4.1,Jt v5.1]⟩ ?_
      by_cases c10:Qm < (v4.1.length:Int)
      ·replace H:=sT c10 H
       rw [decide_eq_true c10]
       refine Qh hT 2 (K4 11111110100 1) ⟨162,(Qc.p0 a0 a1++[(7,.d (Yw true v3)),(8,.own 1 13 0 v4.1.length),(10,.own 2 13 0 v5.1.length),(12,.i Qm)]),[.box 59 (Jr a2),Qae v4.1,Jt v5.1]⟩ ?_
       refine Qh hT 3 (K4 11111110100100 0) ⟨162,(Qc.p0 a0 a1++[(7,.d (Yw true v3)),(8,.own 1 13 0 v4.1.length),(10,.own 2 13 0 v5.1.length),(12,.i Qm)]),[.box 59 (Jr a2),Qae v4.1,Jt v5.1]⟩ ?_
       obtain ⟨h17,H⟩:=sC H
       obtain ⟨v10,h18,H⟩:=sbC H
       obtain ⟨h19,H⟩:=sC H
       obtain ⟨h20,H⟩:=sC H
       obtain ⟨v11,h21,H⟩:=sbC H
       have Jj4:∀ (Qm6:Bool),stk (Qc.j4 Qm Qm6) (iter (Qc.step a0 a1 a2 v3 v4 v5) n)=some r->AK X 4 ((K4 11111110100100 1)) (Yq X [] (.b r)) ⟨162,(Qc.p0 a0 a1++[(7,.d (Yw true v3)),(8,.own 1 13 0 v4.1.length),(10,.own 2 13 0 v5.1.length),(12,.i Qm),(101,.b Qm6)]),[.box 59 (Jr a2),Qae v4.1,Jt v5.1]⟩:=by
        intro Qm6 H
        by_cases c30:Qm6=true
        ·replace H:=sT c30 H
         rw [c30]
         refine Qh hT 5 (K4 1111111010010010 1) ⟨162,[(6,.b false)],[.box 59 (Jr a2),Qae v4.1,Jt v5.1]⟩ ?_
         obtain rfl:=Yi H
         exact Ym hf hX h0 (.b false) [] an (.d (.v _))
        replace H:=sF c30 H
        rw [Jk c30]
        refine Qh hT 3 (K4 111111101001 1) ⟨162,(Qc.p0 a0 a1++[(7,.d (Yw true v3)),(8,.own 1 13 0 v4.1.length),(10,.own 2 13 0 v5.1.length),(12,.i Qm)]),[.box 59 (Jr a2),Qae v4.1,Jt v5.1]⟩ ?_
        refine Qh hT 6 (K4 1111111010 0) ⟨162,(Qc.p0 a0 a1++[(7,.d (Yw true v3)),(8,.own 1 13 0 v4.1.length),(10,.own 2 13 0 v5.1.length),(12,.i (IntKind.wrap .i64 (Qm+1)))]),[.box 59 (Jr a2),Qae v4.1,Jt v5.1]⟩ ?_
        exact ih.1 (IntKind.wrap .i64 (Qm+1)) H
       by_cases c22:v11=true
       ·replace H:=sT c22 H
        by_cases c23:(((v4.1.getD Qm.toNat Xe.z).Was).Val)=((Qc.q3 v5 Qm).Val)
        ·replace H:=sT c23 H
         by_cases c24:(((v4.1.getD Qm.toNat Xe.z).Was).Some)=true
         ·replace H:=sT c24 H
          by_cases c25:((Qc.q3 v5 Qm).Some)=true
          ·replace H:=sT c25 H
           refine Qcb (nt:=162) (hP▸mixed) 42 [5,6] [0,1,5,7,8,10,12] [(0,.d (Xj true a0)),(1,.d (Wu true a1)),(5,.ptr 0 0 0 0),(7,.d (Yw true v3)),(8,.own 1 13 0 v4.1.length),(10,.own 2 13 0 v5.1.length),(12,.i Qm)] (sm [.own 1 13 0 v4.1.length,.i Qm,.ptr 1 13 Qm.toNat 0,.ptr 1 13 Qm.toNat 0,.d (Qdr ((v4.1.getD Qm.toNat Xe.z).E)),.own 3 9 0 1,.d (Yw true v10),.d (Qdc true v10 0 0),.d (Qcv (v10.getD 0 Qg.z)),.own 2 13 0 v5.1.length,.i Qm,.ptr 2 13 Qm.toNat 0,.ptr 2 13 Qm.toNat 0,.d (Qcv ((Qc.q2 v5 Qm).E)),.b true,.b false,.b false,.own 1 13 0 v4.1.length,.i Qm,.ptr 1 13 Qm.toNat 0,.ptr 1 13 Qm.toNat 9,.d (Qid ((v4.1.getD Qm.toNat Xe.z).Was)),.own 2 13 0 v5.1.length,.i Qm,.ptr 2 13 Qm.toNat 0,.ptr 2 13 Qm.toNat 9,.d (Qe1 (Qc.q3 v5 Qm)),.b false,.b false,.b false,.own 1 13 0 v4.1.length,.i Qm,.ptr 1 13 Qm.toNat 0,.ptr 1 13 Qm.toNat 11,.d (Qid ((v4.1.getD Qm.toNat Xe.z).Is)),.own 2 13 0 v5.1.length,.i Qm,.ptr 2 13 Qm.toNat 0,.ptr 2 13 Qm.toNat 11,.d (Qe1 ((Qc.q2 v5 Qm).Is)),.b (!(((((v4.1.getD Qm.toNat Xe.z).Is).Val) == (((Qc.q2 v5 Qm).Is).Val)) && ((((v4.1.getD Qm.toNat Xe.z).Is).Some) == (((Qc.q2 v5 Qm).Is).Some)))),.b (!(((((v4.1.getD Qm.toNat Xe.z).Is).Val) == (((Qc.q2 v5 Qm).Is).Val)) && ((((v4.1.getD Qm.toNat Xe.z).Is).Some) == (((Qc.q2 v5 Qm).Is).Some))))]) [[.box 59 (Jr a2),Qae v4.1,Jt v5.1],[.box 59 (Jr a2),Qae v4.1,Jt v5.1,.flat false 9 41 1 (fun j=>[Qe.e ((v4.1.getD Qm.toNat Xe.z).E)].getD j [])],[.box 59 (Jr a2),Qae v4.1,Jt v5.1,Qlg (Qc.q1 v4 Qm)]] (by kernel_rfl) (by kernel_rfl) (by kernel_rfl) (by kernel_rfl) ⟨?_,(Qdg hT),⟨?_,(fun R rest h=>Qfd 3 (kk:=9) (fz:=false) (ty:=41) (n:=(Qc.q1 v4 Qm).length) (vec Qe.e Qe.z (Qc.q1 v4 Qm)) (by kernel_rfl) Qep rfl ((fun R rest h=>Qcf 3 (kk:=9) (n:=(Qc.q1 v4 Qm).length) (ty:=41) (g:=vec Qe.e Qe.z (Qc.q1 v4 Qm)) (by kernel_rfl) rfl ((fun R rest h=>Zw (Yh:=[.own 3 9 0 1]) (dst:=some 66) hP Qfp (Qan.Wv (Qc.q1 v4 Qm) h18) (by kernel_rfl) (.cons (.Qds (ty:=41) (by kernel_rfl) rfl) .nil) (by kernel_rfl) h) R rest h)) R rest h)),?_⟩⟩ ?_
           iterate 3 exact (We (We (Zu (We (Zu (We (We (Zu (We (Zu (We (We (We (We (Qpb (Zu (We (Zu (We (We (Zu (We (Zu (We (We (We (We (Zu (Zu (We (Zu (We (We (We (Zu (Qdt (Qdt (Zu (We (Zu (We (We Qf2 hT) hT) (fun R rest h=>Xw hT (i:=Qm) (n:=(v4.1.length:Int)) h17.1 h17.2 (by kernel_rfl) h)) hT) (fun R rest h=>Qa1 hT (i:=Qm.toNat) (n:=v4.1.length) (ltN h17.1 h17.2) (by kernel_rfl) h)))) (fun R rest h=>Xw hT (i:=0) (n:=(v10.length:Int)) h19.1 h19.2 (by kernel_rfl) h)) hT) hT) hT) (fun R rest h=>Xw hT (i:=Qm) (n:=(v5.1.length:Int)) h20.1 h20.2 (by kernel_rfl) h)) hT) (fun R rest h=>Qa1 hT (i:=Qm.toNat) (n:=v5.1.length) (ltN h20.1 h20.2) (by kernel_rfl) h)) (fun R rest h=>Zw (Yh:=[.d (Qcv (v10.getD 0 Qg.z)),.d (Qcv ((Qc.q2 v5 Qm).E))]) (dst:=some 74) hP Qf8 (by have q:=Qak.Wv (v10.getD 0 Qg.z) ((Qc.q2 v5 Qm).E) h21;rw [c22] at q;exact q) (by kernel_rfl) (.cons (Qp _) (.cons (Qp _) .nil)) (by kernel_rfl) h)) hT) hT) hT) hT) (fun R rest h=>Xw hT (i:=Qm) (n:=(v4.1.length:Int)) h17.1 h17.2 (by kernel_rfl) h)) hT) (fun R rest h=>Qa1 hT (i:=Qm.toNat) (n:=v4.1.length) (ltN h17.1 h17.2) (by kernel_rfl) h)) hT) hT) (fun R rest h=>Xw hT (i:=Qm) (n:=(v5.1.length:Int)) h20.1 h20.2 (by kernel_rfl) h)) hT) (fun R rest h=>Qa1 hT (i:=Qm.toNat) (n:=v5.1.length) (ltN h20.1 h20.2) (by kernel_rfl) h)) hT 87 (.b (!(((((v4.1.getD Qm.toNat Xe.z).Was).Val) == ((Qc.q3 v5 Qm).Val)) && ((((v4.1.getD Qm.toNat Xe.z).Was).Some) == ((Qc.q3 v5 Qm).Some))))) (.b false) (by rw [eqT c23,c24,c25]<;>rfl)) hT) hT) hT) hT) (fun R rest h=>Xw hT (i:=Qm) (n:=(v4.1.length:Int)) h17.1 h17.2 (by kernel_rfl) h)) hT) (fun R rest h=>Qa1 hT (i:=Qm.toNat) (n:=v4.1.length) (ltN h17.1 h17.2) (by kernel_rfl) h)) hT) hT) (fun R rest h=>Xw hT (i:=Qm) (n:=(v5.1.length:Int)) h20.1 h20.2 (by kernel_rfl) h)) hT) (fun R rest h=>Qa1 hT (i:=Qm.toNat) (n:=v5.1.length) (ltN h20.1 h20.2) (by kernel_rfl) h)) hT) hT)
           refine Xq hT 1 (K4 11111110100100 1) [0,1,2] ⟨162,(Qc.p0 a0 a1++[(7,.d (Yw true v3)),(8,.own 1 13 0 v4.1.length),(10,.own 2 13 0 v5.1.length),(12,.i Qm),(101,.b (!(((((v4.1.getD Qm.toNat Xe.z).Is).Val) == (((Qc.q2 v5 Qm).Is).Val)) && ((((v4.1.getD Qm.toNat Xe.z).Is).Some) == (((Qc.q2 v5 Qm).Is).Some)))))]),[.box 59 (Jr a2),Qae v4.1,Jt v5.1]⟩ h0 ?_
           exact Jj4 (!(((((v4.1.getD Qm.toNat Xe.z).Is).Val) == (((Qc.q2 v5 Qm).Is).Val)) && ((((v4.1.getD Qm.toNat Xe.z).Is).Some) == (((Qc.q2 v5 Qm).Is).Some)))) H
          replace H:=sF c25 H
          refine Qcb (nt:=162) (hP▸mixed) 42 [5,6] [0,1,5,7,8,10,12] [(0,.d (Xj true a0)),(1,.d (Wu true a1)),(5,.ptr 0 0 0 0),(7,.d (Yw true v3)),(8,.own 1 13 0 v4.1.length),(10,.own 2 13 0 v5.1.length),(12,.i Qm)] (sm [.own 1 13 0 v4.1.length,.i Qm,.ptr 1 13 Qm.toNat 0,.ptr 1 13 Qm.toNat 0,.d (Qdr ((v4.1.getD Qm.toNat Xe.z).E)),.own 3 9 0 1,.d (Yw true v10),.d (Qdc true v10 0 0),.d (Qcv (v10.getD 0 Qg.z)),.own 2 13 0 v5.1.length,.i Qm,.ptr 2 13 Qm.toNat 0,.ptr 2 13 Qm.toNat 0,.d (Qcv ((Qc.q2 v5 Qm).E)),.b true,.b false,.b false,.own 1 13 0 v4.1.length,.i Qm,.ptr 1 13 Qm.toNat 0,.ptr 1 13 Qm.toNat 9,.d (Qid ((v4.1.getD Qm.toNat Xe.z).Was)),.own 2 13 0 v5.1.length,.i Qm,.ptr 2 13 Qm.toNat 0,.ptr 2 13 Qm.toNat 9,.d (Qe1 (Qc.q3 v5 Qm)),.b true,.b true,.b true,.Qo [],.Qo [],.Qo [],.Qo [],.Qo [],.Qo [],.Qo [],.Qo [],.Qo [],.Qo [],.Qo [],.b true]) [[.box 59 (Jr a2),Qae v4.1,Jt v5.1],[.box 59 (Jr a2),Qae v4.1,Jt v5.1,.flat false 9 41 1 (fun j=>[Qe.e ((v4.1.getD Qm.toNat Xe.z).E)].getD j [])],[.box 59 (Jr a2),Qae v4.1,Jt v5.1,Qlg (Qc.q1 v4 Qm)]] (by kernel_rfl) (by kernel_rfl) (by kernel_rfl) (by kernel_rfl) ⟨?_,(Qdg hT),⟨?_,(fun R rest h=>Qfd 3 (kk:=9) (fz:=false) (ty:=41) (n:=(Qc.q1 v4 Qm).length) (vec Qe.e Qe.z (Qc.q1 v4 Qm)) (by kernel_rfl) Qep rfl ((fun R rest h=>Qcf 3 (kk:=9) (n:=(Qc.q1 v4 Qm).length) (ty:=41) (g:=vec Qe.e Qe.z (Qc.q1 v4 Qm)) (by kernel_rfl) rfl ((fun R rest h=>Zw (Yh:=[.own 3 9 0 1]) (dst:=some 66) hP Qfp (Qan.Wv (Qc.q1 v4 Qm) h18) (by kernel_rfl) (.cons (.Qds (ty:=41) (by kernel_rfl) rfl) .nil) (by kernel_rfl) h) R rest h)) R rest h)),?_⟩⟩ ?_
          iterate 3 exact (We (We (We (We (We (We (We (We (We (We (We (We (We (We (Qpb (Zu (We (Zu (We (We (Zu (We (Zu (We (We (We (We (Zu (Zu (We (Zu (We (We (We (Zu (Qdt (Qdt (Zu (We (Zu (We (We Qf2 hT) hT) (fun R rest h=>Xw hT (i:=Qm) (n:=(v4.1.length:Int)) h17.1 h17.2 (by kernel_rfl) h)) hT) (fun R rest h=>Qa1 hT (i:=Qm.toNat) (n:=v4.1.length) (ltN h17.1 h17.2) (by kernel_rfl) h)))) (fun R rest h=>Xw hT (i:=0) (n:=(v10.length:Int)) h19.1 h19.2 (by kernel_rfl) h)) hT) hT) hT) (fun R rest h=>Xw hT (i:=Qm) (n:=(v5.1.length:Int)) h20.1 h20.2 (by kernel_rfl) h)) hT) (fun R rest h=>Qa1 hT (i:=Qm.toNat) (n:=v5.1.length) (ltN h20.1 h20.2) (by kernel_rfl) h)) (fun R rest h=>Zw (Yh:=[.d (Qcv (v10.getD 0 Qg.z)),.d (Qcv ((Qc.q2 v5 Qm).E))]) (dst:=some 74) hP Qf8 (by have q:=Qak.Wv (v10.getD 0 Qg.z) ((Qc.q2 v5 Qm).E) h21;rw [c22] at q;exact q) (by kernel_rfl) (.cons (Qp _) (.cons (Qp _) .nil)) (by kernel_rfl) h)) hT) hT) hT) hT) (fun R rest h=>Xw hT (i:=Qm) (n:=(v4.1.length:Int)) h17.1 h17.2 (by kernel_rfl) h)) hT) (fun R rest h=>Qa1 hT (i:=Qm.toNat) (n:=v4.1.length) (ltN h17.1 h17.2) (by kernel_rfl) h)) hT) hT) (fun R rest h=>Xw hT (i:=Qm) (n:=(v5.1.length:Int)) h20.1 h20.2 (by kernel_rfl) h)) hT) (fun R rest h=>Qa1 hT (i:=Qm.toNat) (n:=v5.1.length) (ltN h20.1 h20.2) (by kernel_rfl) h)) hT 87 (.b (!(((((v4.1.getD Qm.toNat Xe.z).Was).Val) == ((Qc.q3 v5 Qm).Val)) && ((((v4.1.getD Qm.toNat Xe.z).Was).Some) == ((Qc.q3 v5 Qm).Some))))) (.b true) (by rw [eqT c23,c24,Jk c25]<;>rfl)) hT) hT) hT) hT) hT) hT) hT) hT) hT) hT) hT) hT) hT) hT)
          refine Xq hT 1 (K4 11111110100100 1) [0,1,2] ⟨162,(Qc.p0 a0 a1++[(7,.d (Yw true v3)),(8,.own 1 13 0 v4.1.length),(10,.own 2 13 0 v5.1.length),(12,.i Qm),(101,.b true)]),[.box 59 (Jr a2),Qae v4.1,Jt v5.1]⟩ h0 ?_
          exact Jj4 true H
         replace H:=sF c24 H
         by_cases c26:((Qc.q3 v5 Qm).Some)=true
         ·replace H:=sT c26 H
          refine Qcb (nt:=162) (hP▸mixed) 42 [5,6] [0,1,5,7,8,10,12] [(0,.d (Xj true a0)),(1,.d (Wu true a1)),(5,.ptr 0 0 0 0),(7,.d (Yw true v3)),(8,.own 1 13 0 v4.1.length),(10,.own 2 13 0 v5.1.length),(12,.i Qm)] (sm [.own 1 13 0 v4.1.length,.i Qm,.ptr 1 13 Qm.toNat 0,.ptr 1 13 Qm.toNat 0,.d (Qdr ((v4.1.getD Qm.toNat Xe.z).E)),.own 3 9 0 1,.d (Yw true v10),.d (Qdc true v10 0 0),.d (Qcv (v10.getD 0 Qg.z)),.own 2 13 0 v5.1.length,.i Qm,.ptr 2 13 Qm.toNat 0,.ptr 2 13 Qm.toNat 0,.d (Qcv ((Qc.q2 v5 Qm).E)),.b true,.b false,.b false,.own 1 13 0 v4.1.length,.i Qm,.ptr 1 13 Qm.toNat 0,.ptr 1 13 Qm.toNat 9,.d (Qid ((v4.1.getD Qm.toNat Xe.z).Was)),.own 2 13 0 v5.1.length,.i Qm,.ptr 2 13 Qm.toNat 0,.ptr 2 13 Qm.toNat 9,.d (Qe1 (Qc.q3 v5 Qm)),.b true,.b true,.b true,.Qo [],.Qo [],.Qo [],.Qo [],.Qo [],.Qo [],.Qo [],.Qo [],.Qo [],.Qo [],.Qo [],.b true]) [[.box 59 (Jr a2),Qae v4.1,Jt v5.1],[.box 59 (Jr a2),Qae v4.1,Jt v5.1,.flat false 9 41 1 (fun j=>[Qe.e ((v4.1.getD Qm.toNat Xe.z).E)].getD j [])],[.box 59 (Jr a2),Qae v4.1,Jt v5.1,Qlg (Qc.q1 v4 Qm)]] (by kernel_rfl) (by kernel_rfl) (by kernel_rfl) (by kernel_rfl) ⟨?_,(Qdg hT),⟨?_,(fun R rest h=>Qfd 3 (kk:=9) (fz:=false) (ty:=41) (n:=(Qc.q1 v4 Qm).length) (vec Qe.e Qe.z (Qc.q1 v4 Qm)) (by kernel_rfl) Qep rfl ((fun R rest h=>Qcf 3 (kk:=9) (n:=(Qc.q1 v4 Qm).length) (ty:=41) (g:=vec Qe.e Qe.z (Qc.q1 v4 Qm)) (by kernel_rfl) rfl ((fun R rest h=>Zw (Yh:=[.own 3 9 0 1]) (dst:=some 66) hP Qfp (Qan.Wv (Qc.q1 v4 Qm) h18) (by kernel_rfl) (.cons (.Qds (ty:=41) (by kernel_rfl) rfl) .nil) (by kernel_rfl) h) R rest h)) R rest h)),?_⟩⟩ ?_
          iterate 3 exact (We (We (We (We (We (We (We (We (We (We (We (We (We (We (Qpb (Zu (We (Zu (We (We (Zu (We (Zu (We (We (We (We (Zu (Zu (We (Zu (We (We (We (Zu (Qdt (Qdt (Zu (We (Zu (We (We Qf2 hT) hT) (fun R rest h=>Xw hT (i:=Qm) (n:=(v4.1.length:Int)) h17.1 h17.2 (by kernel_rfl) h)) hT) (fun R rest h=>Qa1 hT (i:=Qm.toNat) (n:=v4.1.length) (ltN h17.1 h17.2) (by kernel_rfl) h)))) (fun R rest h=>Xw hT (i:=0) (n:=(v10.length:Int)) h19.1 h19.2 (by kernel_rfl) h)) hT) hT) hT) (fun R rest h=>Xw hT (i:=Qm) (n:=(v5.1.length:Int)) h20.1 h20.2 (by kernel_rfl) h)) hT) (fun R rest h=>Qa1 hT (i:=Qm.toNat) (n:=v5.1.length) (ltN h20.1 h20.2) (by kernel_rfl) h)) (fun R rest h=>Zw (Yh:=[.d (Qcv (v10.getD 0 Qg.z)),.d (Qcv ((Qc.q2 v5 Qm).E))]) (dst:=some 74) hP Qf8 (by have q:=Qak.Wv (v10.getD 0 Qg.z) ((Qc.q2 v5 Qm).E) h21;rw [c22] at q;exact q) (by kernel_rfl) (.cons (Qp _) (.cons (Qp _) .nil)) (by kernel_rfl) h)) hT) hT) hT) hT) (fun R rest h=>Xw hT (i:=Qm) (n:=(v4.1.length:Int)) h17.1 h17.2 (by kernel_rfl) h)) hT) (fun R rest h=>Qa1 hT (i:=Qm.toNat) (n:=v4.1.length) (ltN h17.1 h17.2) (by kernel_rfl) h)) hT) hT) (fun R rest h=>Xw hT (i:=Qm) (n:=(v5.1.length:Int)) h20.1 h20.2 (by kernel_rfl) h)) hT) (fun R rest h=>Qa1 hT (i:=Qm.toNat) (n:=v5.1.length) (ltN h20.1 h20.2) (by kernel_rfl) h)) hT 87 (.b (!(((((v4.1.getD Qm.toNat Xe.z).Was).Val) == ((Qc.q3 v5 Qm).Val)) && ((((v4.1.getD Qm.toNat Xe.z).Was).Some) == ((Qc.q3 v5 Qm).Some))))) (.b true) (by rw [eqT c23,Jk c24,c26]<;>rfl)) hT) hT) hT) hT) hT) hT) hT) hT) hT) hT) hT) hT) hT) hT)
          refine Xq hT 1 (K4 11111110100100 1) [0,1,2] ⟨162,(Qc.p0 a0 a1++[(7,.d (Yw true v3)),(8,.own 1 13 0 v4.1.length),(10,.own 2 13 0 v5.1.length),(12,.i Qm),(101,.b true)]),[.box 59 (Jr a2),Qae v4.1,Jt v5.1]⟩ h0 ?_
          exact Jj4 true H
         replace H:=sF c26 H
         refine Qcb (nt:=162) (hP▸mixed) 42 [5,6] [0,1,5,7,8,10,12] [(0,.d (Xj true a0)),(1,.d (Wu true a1)),(5,.ptr 0 0 0 0),(7,.d (Yw true v3)),(8,.own 1 13 0 v4.1.length),(10,.own 2 13 0 v5.1.length),(12,.i Qm)] (sm [.own 1 13 0 v4.1.length,.i Qm,.ptr 1 13 Qm.toNat 0,.ptr 1 13 Qm.toNat 0,.d (Qdr ((v4.1.getD Qm.toNat Xe.z).E)),.own 3 9 0 1,.d (Yw true v10),.d (Qdc true v10 0 0),.d (Qcv (v10.getD 0 Qg.z)),.own 2 13 0 v5.1.length,.i Qm,.ptr 2 13 Qm.toNat 0,.ptr 2 13 Qm.toNat 0,.d (Qcv ((Qc.q2 v5 Qm).E)),.b true,.b false,.b false,.own 1 13 0 v4.1.length,.i Qm,.ptr 1 13 Qm.toNat 0,.ptr 1 13 Qm.toNat 9,.d (Qid ((v4.1.getD Qm.toNat Xe.z).Was)),.own 2 13 0 v5.1.length,.i Qm,.ptr 2 13 Qm.toNat 0,.ptr 2 13 Qm.toNat 9,.d (Qe1 (Qc.q3 v5 Qm)),.b false,.b false,.b false,.own 1 13 0 v4.1.length,.i Qm,.ptr 1 13 Qm.toNat 0,.ptr 1 13 Qm.toNat 11,.d (Qid ((v4.1.getD Qm.toNat Xe.z).Is)),.own 2 13 0 v5.1.length,.i Qm,.ptr 2 13 Qm.toNat 0,.ptr 2 13 Qm.toNat 11,.d (Qe1 ((Qc.q2 v5 Qm).Is)),.b (!(((((v4.1.getD Qm.toNat Xe.z).Is).Val) == (((Qc.q2 v5 Qm).Is).Val)) && ((((v4.1.getD Qm.toNat Xe.z).Is).Some) == (((Qc.q2 v5 Qm).Is).Some)))),.b (!(((((v4.1.getD Qm.toNat Xe.z).Is).Val) == (((Qc.q2 v5 Qm).Is).Val)) && ((((v4.1.getD Qm.toNat Xe.z).Is).Some) == (((Qc.q2 v5 Qm).Is).Some))))]) [[.box 59 (Jr a2),Qae v4.1,Jt v5.1],[.box 59 (Jr a2),Qae v4.1,Jt v5.1,.flat false 9 41 1 (fun j=>[Qe.e ((v4.1.getD Qm.toNat Xe.z).E)].getD j [])],[.box 59 (Jr a2),Qae v4.1,Jt v5.1,Qlg (Qc.q1 v4 Qm)]] (by kernel_rfl) (by kernel_rfl) (by kernel_rfl) (by kernel_rfl) ⟨?_,(Qdg hT),⟨?_,(fun R rest h=>Qfd 3 (kk:=9) (fz:=false) (ty:=41) (n:=(Qc.q1 v4 Qm).length) (vec Qe.e Qe.z (Qc.q1 v4 Qm)) (by kernel_rfl) Qep rfl ((fun R rest h=>Qcf 3 (kk:=9) (n:=(Qc.q1 v4 Qm).length) (ty:=41) (g:=vec Qe.e Qe.z (Qc.q1 v4 Qm)) (by kernel_rfl) rfl ((fun R rest h=>Zw (Yh:=[.own 3 9 0 1]) (dst:=some 66) hP Qfp (Qan.Wv (Qc.q1 v4 Qm) h18) (by kernel_rfl) (.cons (.Qds (ty:=41) (by kernel_rfl) rfl) .nil) (by kernel_rfl) h) R rest h)) R rest h)),?_⟩⟩ ?_
         iterate 3 exact (We (We (Zu (We (Zu (We (We (Zu (We (Zu (We (We (We (We (Qpb (Zu (We (Zu (We (We (Zu (We (Zu (We (We (We (We (Zu (Zu (We (Zu (We (We (We (Zu (Qdt (Qdt (Zu (We (Zu (We (We Qf2 hT) hT) (fun R rest h=>Xw hT (i:=Qm) (n:=(v4.1.length:Int)) h17.1 h17.2 (by kernel_rfl) h)) hT) (fun R rest h=>Qa1 hT (i:=Qm.toNat) (n:=v4.1.length) (ltN h17.1 h17.2) (by kernel_rfl) h)))) (fun R rest h=>Xw hT (i:=0) (n:=(v10.length:Int)) h19.1 h19.2 (by kernel_rfl) h)) hT) hT) hT) (fun R rest h=>Xw hT (i:=Qm) (n:=(v5.1.length:Int)) h20.1 h20.2 (by kernel_rfl) h)) hT) (fun R rest h=>Qa1 hT (i:=Qm.toNat) (n:=v5.1.length) (ltN h20.1 h20.2) (by kernel_rfl) h)) (fun R rest h=>Zw (Yh:=[.d (Qcv (v10.getD 0 Qg.z)),.d (Qcv ((Qc.q2 v5 Qm).E))]) (dst:=some 74) hP Qf8 (by have q:=Qak.Wv (v10.getD 0 Qg.z) ((Qc.q2 v5 Qm).E) h21;rw [c22] at q;exact q) (by kernel_rfl) (.cons (Qp _) (.cons (Qp _) .nil)) (by kernel_rfl) h)) hT) hT) hT) hT) (fun R rest h=>Xw hT (i:=Qm) (n:=(v4.1.length:Int)) h17.1 h17.2 (by kernel_rfl) h)) hT) (fun R rest h=>Qa1 hT (i:=Qm.toNat) (n:=v4.1.length) (ltN h17.1 h17.2) (by kernel_rfl) h)) hT) hT) (fun R rest h=>Xw hT (i:=Qm) (n:=(v5.1.length:Int)) h20.1 h20.2 (by kernel_rfl) h)) hT) (fun R rest h=>Qa1 hT (i:=Qm.toNat) (n:=v5.1.length) (ltN h20.1 h20.2) (by kernel_rfl) h)) hT 87 (.b (!(((((v4.1.getD Qm.toNat Xe.z).Was).Val) == ((Qc.q3 v5 Qm).Val)) && ((((v4.1.getD Qm.toNat Xe.z).Was).Some) == ((Qc.q3 v5 Qm).Some))))) (.b false) (by rw [eqT c23,Jk c24,Jk c26]<;>rfl)) hT) hT) hT) hT) (fun R rest h=>Xw hT (i:=Qm) (n:=(v4.1.length:Int)) h17.1 h17.2 (by kernel_rfl) h)) hT) (fun R rest h=>Qa1 hT (i:=Qm.toNat) (n:=v4.1.length) (ltN h17.1 h17.2) (by kernel_rfl) h)) hT) hT) (fun R rest h=>Xw hT (i:=Qm) (n:=(v5.1.length:Int)) h20.1 h20.2 (by kernel_rfl) h)) hT) (fun R rest h=>Qa1 hT (i:=Qm.toNat) (n:=v5.1.length) (ltN h20.1 h20.2) (by kernel_rfl) h)) hT) hT)
         refine Xq hT 1 (K4 11111110100100 1) [0,1,2] ⟨162,(Qc.p0 a0 a1++[(7,.d (Yw true v3)),(8,.own 1 13 0 v4.1.length),(10,.own 2 13 0 v5.1.length),(12,.i Qm),(101,.b (!(((((v4.1.getD Qm.toNat Xe.z).Is).Val) == (((Qc.q2 v5 Qm).Is).Val)) && ((((v4.1.getD Qm.toNat Xe.z).Is).Some) == (((Qc.q2 v5 Qm).Is).Some)))))]),[.box 59 (Jr a2),Qae v4.1,Jt v5.1]⟩ h0 ?_
         exact Jj4 (!(((((v4.1.getD Qm.toNat Xe.z).Is).Val) == (((Qc.q2 v5 Qm).Is).Val)) && ((((v4.1.getD Qm.toNat Xe.z).Is).Some) == (((Qc.q2 v5 Qm).Is).Some)))) H
        replace H:=sF c23 H
        by_cases c27:(((v4.1.getD Qm.toNat Xe.z).Was).Some)=true
        ·replace H:=sT c27 H
         by_cases c28:((Qc.q3 v5 Qm).Some)=true
         ·replace H:=sT c28 H
          refine Qcb (nt:=162) (hP▸mixed) 42 [5,6] [0,1,5,7,8,10,12] [(0,.d (Xj true a0)),(1,.d (Wu true a1)),(5,.ptr 0 0 0 0),(7,.d (Yw true v3)),(8,.own 1 13 0 v4.1.length),(10,.own 2 13 0 v5.1.length),(12,.i Qm)] (sm [.own 1 13 0 v4.1.length,.i Qm,.ptr 1 13 Qm.toNat 0,.ptr 1 13 Qm.toNat 0,.d (Qdr ((v4.1.getD Qm.toNat Xe.z).E)),.own 3 9 0 1,.d (Yw true v10),.d (Qdc true v10 0 0),.d (Qcv (v10.getD 0 Qg.z)),.own 2 13 0 v5.1.length,.i Qm,.ptr 2 13 Qm.toNat 0,.ptr 2 13 Qm.toNat 0,.d (Qcv ((Qc.q2 v5 Qm).E)),.b true,.b false,.b false,.own 1 13 0 v4.1.length,.i Qm,.ptr 1 13 Qm.toNat 0,.ptr 1 13 Qm.toNat 9,.d (Qid ((v4.1.getD Qm.toNat Xe.z).Was)),.own 2 13 0 v5.1.length,.i Qm,.ptr 2 13 Qm.toNat 0,.ptr 2 13 Qm.toNat 9,.d (Qe1 (Qc.q3 v5 Qm)),.b true,.b true,.b true,.Qo [],.Qo [],.Qo [],.Qo [],.Qo [],.Qo [],.Qo [],.Qo [],.Qo [],.Qo [],.Qo [],.b true]) [[.box 59 (Jr a2),Qae v4.1,Jt v5.1],[.box 59 (Jr a2),Qae v4.1,Jt v5.1,.flat false 9 41 1 (fun j=>[Qe.e ((v4.1.getD Qm.toNat Xe.z).E)].getD j [])],[.box 59 (Jr a2),Qae v4.1,Jt v5.1,Qlg (Qc.q1 v4 Qm)]] (by kernel_rfl) (by kernel_rfl) (by kernel_rfl) (by kernel_rfl) ⟨?_,(Qdg hT),⟨?_,(fun R rest h=>Qfd 3 (kk:=9) (fz:=false) (ty:=41) (n:=(Qc.q1 v4 Qm).length) (vec Qe.e Qe.z (Qc.q1 v4 Qm)) (by kernel_rfl) Qep rfl ((fun R rest h=>Qcf 3 (kk:=9) (n:=(Qc.q1 v4 Qm).length) (ty:=41) (g:=vec Qe.e Qe.z (Qc.q1 v4 Qm)) (by kernel_rfl) rfl ((fun R rest h=>Zw (Yh:=[.own 3 9 0 1]) (dst:=some 66) hP Qfp (Qan.Wv (Qc.q1 v4 Qm) h18) (by kernel_rfl) (.cons (.Qds (ty:=41) (by kernel_rfl) rfl) .nil) (by kernel_rfl) h) R rest h)) R rest h)),?_⟩⟩ ?_
          iterate 3 exact (We (We (We (We (We (We (We (We (We (We (We (We (We (We (Qpb (Zu (We (Zu (We (We (Zu (We (Zu (We (We (We (We (Zu (Zu (We (Zu (We (We (We (Zu (Qdt (Qdt (Zu (We (Zu (We (We Qf2 hT) hT) (fun R rest h=>Xw hT (i:=Qm) (n:=(v4.1.length:Int)) h17.1 h17.2 (by kernel_rfl) h)) hT) (fun R rest h=>Qa1 hT (i:=Qm.toNat) (n:=v4.1.length) (ltN h17.1 h17.2) (by kernel_rfl) h)))) (fun R rest h=>Xw hT (i:=0) (n:=(v10.length:Int)) h19.1 h19.2 (by kernel_rfl) h)) hT) hT) hT) (fun R rest h=>Xw hT (i:=Qm) (n:=(v5.1.length:Int)) h20.1 h20.2 (by kernel_rfl) h)) hT) (fun R rest h=>Qa1 hT (i:=Qm.toNat) (n:=v5.1.length) (ltN h20.1 h20.2) (by kernel_rfl) h)) (fun R rest h=>Zw (Yh:=[.d (Qcv (v10.getD 0 Qg.z)),.d (Qcv ((Qc.q2 v5 Qm).E))]) (dst:=some 74) hP Qf8 (by have q:=Qak.Wv (v10.getD 0 Qg.z) ((Qc.q2 v5 Qm).E) h21;rw [c22] at q;exact q) (by kernel_rfl) (.cons (Qp _) (.cons (Qp _) .nil)) (by kernel_rfl) h)) hT) hT) hT) hT) (fun R rest h=>Xw hT (i:=Qm) (n:=(v4.1.length:Int)) h17.1 h17.2 (by kernel_rfl) h)) hT) (fun R rest h=>Qa1 hT (i:=Qm.toNat) (n:=v4.1.length) (ltN h17.1 h17.2) (by kernel_rfl) h)) hT) hT) (fun R rest h=>Xw hT (i:=Qm) (n:=(v5.1.length:Int)) h20.1 h20.2 (by kernel_rfl) h)) hT) (fun R rest h=>Qa1 hT (i:=Qm.toNat) (n:=v5.1.length) (ltN h20.1 h20.2) (by kernel_rfl) h)) hT 87 (.b (!(((((v4.1.getD Qm.toNat Xe.z).Was).Val) == ((Qc.q3 v5 Qm).Val)) && ((((v4.1.getD Qm.toNat Xe.z).Was).Some) == ((Qc.q3 v5 Qm).Some))))) (.b true) (by rw [eqF c23,c27,c28]<;>rfl)) hT) hT) hT) hT) hT) hT) hT) hT) hT) hT) hT) hT) hT) hT)
          refine Xq hT 1 (K4 11111110100100 1) [0,1,2] ⟨162,(Qc.p0 a0 a1++[(7,.d (Yw true v3)),(8,.own 1 13 0 v4.1.length),(10,.own 2 13 0 v5.1.length),(12,.i Qm),(101,.b true)]),[.box 59 (Jr a2),Qae v4.1,Jt v5.1]⟩ h0 ?_
          exact Jj4 true H
         replace H:=sF c28 H
         refine Qcb (nt:=162) (hP▸mixed) 42 [5,6] [0,1,5,7,8,10,12] [(0,.d (Xj true a0)),(1,.d (Wu true a1)),(5,.ptr 0 0 0 0),(7,.d (Yw true v3)),(8,.own 1 13 0 v4.1.length),(10,.own 2 13 0 v5.1.length),(12,.i Qm)] (sm [.own 1 13 0 v4.1.length,.i Qm,.ptr 1 13 Qm.toNat 0,.ptr 1 13 Qm.toNat 0,.d (Qdr ((v4.1.getD Qm.toNat Xe.z).E)),.own 3 9 0 1,.d (Yw true v10),.d (Qdc true v10 0 0),.d (Qcv (v10.getD 0 Qg.z)),.own 2 13 0 v5.1.length,.i Qm,.ptr 2 13 Qm.toNat 0,.ptr 2 13 Qm.toNat 0,.d (Qcv ((Qc.q2 v5 Qm).E)),.b true,.b false,.b false,.own 1 13 0 v4.1.length,.i Qm,.ptr 1 13 Qm.toNat 0,.ptr 1 13 Qm.toNat 9,.d (Qid ((v4.1.getD Qm.toNat Xe.z).Was)),.own 2 13 0 v5.1.length,.i Qm,.ptr 2 13 Qm.toNat 0,.ptr 2 13 Qm.toNat 9,.d (Qe1 (Qc.q3 v5 Qm)),.b true,.b true,.b true,.Qo [],.Qo [],.Qo [],.Qo [],.Qo [],.Qo [],.Qo [],.Qo [],.Qo [],.Qo [],.Qo [],.b true]) [[.box 59 (Jr a2),Qae v4.1,Jt v5.1],[.box 59 (Jr a2),Qae v4.1,Jt v5.1,.flat false 9 41 1 (fun j=>[Qe.e ((v4.1.getD Qm.toNat Xe.z).E)].getD j [])],[.box 59 (Jr a2),Qae v4.1,Jt v5.1,Qlg (Qc.q1 v4 Qm)]] (by kernel_rfl) (by kernel_rfl) (by kernel_rfl) (by kernel_rfl) ⟨?_,(Qdg hT),⟨?_,(fun R rest h=>Qfd 3 (kk:=9) (fz:=false) (ty:=41) (n:=(Qc.q1 v4 Qm).length) (vec Qe.e Qe.z (Qc.q1 v4 Qm)) (by kernel_rfl) Qep rfl ((fun R rest h=>Qcf 3 (kk:=9) (n:=(Qc.q1 v4 Qm).length) (ty:=41) (g:=vec Qe.e Qe.z (Qc.q1 v4 Qm)) (by kernel_rfl) rfl ((fun R rest h=>Zw (Yh:=[.own 3 9 0 1]) (dst:=some 66) hP Qfp (Qan.Wv (Qc.q1 v4 Qm) h18) (by kernel_rfl) (.cons (.Qds (ty:=41) (by kernel_rfl) rfl) .nil) (by kernel_rfl) h) R rest h)) R rest h)),?_⟩⟩ ?_
         iterate 3 exact (We (We (We (We (We (We (We (We (We (We (We (We (We (We (Qpb (Zu (We (Zu (We (We (Zu (We (Zu (We (We (We (We (Zu (Zu (We (Zu (We (We (We (Zu (Qdt (Qdt (Zu (We (Zu (We (We Qf2 hT) hT) (fun R rest h=>Xw hT (i:=Qm) (n:=(v4.1.length:Int)) h17.1 h17.2 (by kernel_rfl) h)) hT) (fun R rest h=>Qa1 hT (i:=Qm.toNat) (n:=v4.1.length) (ltN h17.1 h17.2) (by kernel_rfl) h)))) (fun R rest h=>Xw hT (i:=0) (n:=(v10.length:Int)) h19.1 h19.2 (by kernel_rfl) h)) hT) hT) hT) (fun R rest h=>Xw hT (i:=Qm) (n:=(v5.1.length:Int)) h20.1 h20.2 (by kernel_rfl) h)) hT) (fun R rest h=>Qa1 hT (i:=Qm.toNat) (n:=v5.1.length) (ltN h20.1 h20.2) (by kernel_rfl) h)) (fun R rest h=>Zw (Yh:=[.d (Qcv (v10.getD 0 Qg.z)),.d (Qcv ((Qc.q2 v5 Qm).E))]) (dst:=some 74) hP Qf8 (by have q:=Qak.Wv (v10.getD 0 Qg.z) ((Qc.q2 v5 Qm).E) h21;rw [c22] at q;exact q) (by kernel_rfl) (.cons (Qp _) (.cons (Qp _) .nil)) (by kernel_rfl) h)) hT) hT) hT) hT) (fun R rest h=>Xw hT (i:=Qm) (n:=(v4.1.length:Int)) h17.1 h17.2 (by kernel_rfl) h)) hT) (fun R rest h=>Qa1 hT (i:=Qm.toNat) (n:=v4.1.length) (ltN h17.1 h17.2) (by kernel_rfl) h)) hT) hT) (fun R rest h=>Xw hT (i:=Qm) (n:=(v5.1.length:Int)) h20.1 h20.2 (by kernel_rfl) h)) hT) (fun R rest h=>Qa1 hT (i:=Qm.toNat) (n:=v5.1.length) (ltN h20.1 h20.2) (by kernel_rfl) h)) hT 87 (.b (!(((((v4.1.getD Qm.toNat Xe.z).Was).Val) == ((Qc.q3 v5 Qm).Val)) && ((((v4.1.getD Qm.toNat Xe.z).Was).Some) == ((Qc.q3 v5 Qm).Some))))) (.b true) (by rw [eqF c23,c27,Jk c28]<;>rfl)) hT) hT) hT) hT) hT) hT) hT) hT) hT) hT) hT) hT) hT) hT)
         refine Xq hT 1 (K4 11111110100100 1) [0,1,2] ⟨162,(Qc.p0 a0 a1++[(7,.d (Yw true v3)),(8,.own 1 13 0 v4.1.length),(10,.own 2 13 0 v5.1.length),(12,.i Qm),(101,.b true)]),[.box 59 (Jr a2),Qae v4.1,Jt v5.1]⟩ h0 ?_
         exact Jj4 true H
        replace H:=sF c27 H
        by_cases c29:((Qc.q3 v5 Qm).Some)=true
        ·replace H:=sT c29 H
         refine Qcb (nt:=162) (hP▸mixed) 42 [5,6] [0,1,5,7,8,10,12] [(0,.d (Xj true a0)),(1,.d (Wu true a1)),(5,.ptr 0 0 0 0),(7,.d (Yw true v3)),(8,.own 1 13 0 v4.1.length),(10,.own 2 13 0 v5.1.length),(12,.i Qm)] (sm [.own 1 13 0 v4.1.length,.i Qm,.ptr 1 13 Qm.toNat 0,.ptr 1 13 Qm.toNat 0,.d (Qdr ((v4.1.getD Qm.toNat Xe.z).E)),.own 3 9 0 1,.d (Yw true v10),.d (Qdc true v10 0 0),.d (Qcv (v10.getD 0 Qg.z)),.own 2 13 0 v5.1.length,.i Qm,.ptr 2 13 Qm.toNat 0,.ptr 2 13 Qm.toNat 0,.d (Qcv ((Qc.q2 v5 Qm).E)),.b true,.b false,.b false,.own 1 13 0 v4.1.length,.i Qm,.ptr 1 13 Qm.toNat 0,.ptr 1 13 Qm.toNat 9,.d (Qid ((v4.1.getD Qm.toNat Xe.z).Was)),.own 2 13 0 v5.1.length,.i Qm,.ptr 2 13 Qm.toNat 0,.ptr 2 13 Qm.toNat 9,.d (Qe1 (Qc.q3 v5 Qm)),.b true,.b true,.b true,.Qo [],.Qo [],.Qo [],.Qo [],.Qo [],.Qo [],.Qo [],.Qo [],.Qo [],.Qo [],.Qo [],.b true]) [[.box 59 (Jr a2),Qae v4.1,Jt v5.1],[.box 59 (Jr a2),Qae v4.1,Jt v5.1,.flat false 9 41 1 (fun j=>[Qe.e ((v4.1.getD Qm.toNat Xe.z).E)].getD j [])],[.box 59 (Jr a2),Qae v4.1,Jt v5.1,Qlg (Qc.q1 v4 Qm)]] (by kernel_rfl) (by kernel_rfl) (by kernel_rfl) (by kernel_rfl) ⟨?_,(Qdg hT),⟨?_,(fun R rest h=>Qfd 3 (kk:=9) (fz:=false) (ty:=41) (n:=(Qc.q1 v4 Qm).length) (vec Qe.e Qe.z (Qc.q1 v4 Qm)) (by kernel_rfl) Qep rfl ((fun R rest h=>Qcf 3 (kk:=9) (n:=(Qc.q1 v4 Qm).length) (ty:=41) (g:=vec Qe.e Qe.z (Qc.q1 v4 Qm)) (by kernel_rfl) rfl ((fun R rest h=>Zw (Yh:=[.own 3 9 0 1]) (dst:=some 66) hP Qfp (Qan.Wv (Qc.q1 v4 Qm) h18) (by kernel_rfl) (.cons (.Qds (ty:=41) (by kernel_rfl) rfl) .nil) (by kernel_rfl) h) R rest h)) R rest h)),?_⟩⟩ ?_
         iterate 3 exact (We (We (We (We (We (We (We (We (We (We (We (We (We (We (Qpb (Zu (We (Zu (We (We (Zu (We (Zu (We (We (We (We (Zu (Zu (We (Zu (We (We (We (Zu (Qdt (Qdt (Zu (We (Zu (We (We Qf2 hT) hT) (fun R rest h=>Xw hT (i:=Qm) (n:=(v4.1.length:Int)) h17.1 h17.2 (by kernel_rfl) h)) hT) (fun R rest h=>Qa1 hT (i:=Qm.toNat) (n:=v4.1.length) (ltN h17.1 h17.2) (by kernel_rfl) h)))) (fun R rest h=>Xw hT (i:=0) (n:=(v10.length:Int)) h19.1 h19.2 (by kernel_rfl) h)) hT) hT) hT) (fun R rest h=>Xw hT (i:=Qm) (n:=(v5.1.length:Int)) h20.1 h20.2 (by kernel_rfl) h)) hT) (fun R rest h=>Qa1 hT (i:=Qm.toNat) (n:=v5.1.length) (ltN h20.1 h20.2) (by kernel_rfl) h)) (fun R rest h=>Zw (Yh:=[.d (Qcv (v10.getD 0 Qg.z)),.d (Qcv ((Qc.q2 v5 Qm).E))]) (dst:=some 74) hP Qf8 (by have q:=Qak.Wv (v10.getD 0 Qg.z) ((Qc.q2 v5 Qm).E) h21;rw [c22] at q;exact q) (by kernel_rfl) (.cons (Qp _) (.cons (Qp _) .nil)) (by kernel_rfl) h)) hT) hT) hT) hT) (fun R rest h=>Xw hT (i:=Qm) (n:=(v4.1.length:Int)) h17.1 h17.2 (by kernel_rfl) h)) hT) (fun R rest h=>Qa1 hT (i:=Qm.toNat) (n:=v4.1.length) (ltN h17.1 h17.2) (by kernel_rfl) h)) hT) hT) (fun R rest h=>Xw hT (i:=Qm) (n:=(v5.1.length:Int)) h20.1 h20.2 (by kernel_rfl) h)) hT) (fun R rest h=>Qa1 hT (i:=Qm.toNat) (n:=v5.1.length) (ltN h20.1 h20.2) (by kernel_rfl) h)) hT 87 (.b (!(((((v4.1.getD Qm.toNat Xe.z).Was).Val) == ((Qc.q3 v5 Qm).Val)) && ((((v4.1.getD Qm.toNat Xe.z).Was).Some) == ((Qc.q3 v5 Qm).Some))))) (.b true) (by rw [eqF c23,Jk c27,c29]<;>rfl)) hT) hT) hT) hT) hT) hT) hT) hT) hT) hT) hT) hT) hT) hT)
         refine Xq hT 1 (K4 11111110100100 1) [0,1,2] ⟨162,(Qc.p0 a0 a1++[(7,.d (Yw true v3)),(8,.own 1 13 0 v4.1.length),(10,.own 2 13 0 v5.1.length),(12,.i Qm),(101,.b true)]),[.box 59 (Jr a2),Qae v4.1,Jt v5.1]⟩ h0 ?_
         exact Jj4 true H
        replace H:=sF c29 H
        refine Qcb (nt:=162) (hP▸mixed) 42 [5,6] [0,1,5,7,8,10,12] [(0,.d (Xj true a0)),(1,.d (Wu true a1)),(5,.ptr 0 0 0 0),(7,.d (Yw true v3)),(8,.own 1 13 0 v4.1.length),(10,.own 2 13 0 v5.1.length),(12,.i Qm)] (sm [.own 1 13 0 v4.1.length,.i Qm,.ptr 1 13 Qm.toNat 0,.ptr 1 13 Qm.toNat 0,.d (Qdr ((v4.1.getD Qm.toNat Xe.z).E)),.own 3 9 0 1,.d (Yw true v10),.d (Qdc true v10 0 0),.d (Qcv (v10.getD 0 Qg.z)),.own 2 13 0 v5.1.length,.i Qm,.ptr 2 13 Qm.toNat 0,.ptr 2 13 Qm.toNat 0,.d (Qcv ((Qc.q2 v5 Qm).E)),.b true,.b false,.b false,.own 1 13 0 v4.1.length,.i Qm,.ptr 1 13 Qm.toNat 0,.ptr 1 13 Qm.toNat 9,.d (Qid ((v4.1.getD Qm.toNat Xe.z).Was)),.own 2 13 0 v5.1.length,.i Qm,.ptr 2 13 Qm.toNat 0,.ptr 2 13 Qm.toNat 9,.d (Qe1 (Qc.q3 v5 Qm)),.b true,.b true,.b true,.Qo [],.Qo [],.Qo [],.Qo [],.Qo [],.Qo [],.Qo [],.Qo [],.Qo [],.Qo [],.Qo [],.b true]) [[.box 59 (Jr a2),Qae v4.1,Jt v5.1],[.box 59 (Jr a2),Qae v4.1,Jt v5.1,.flat false 9 41 1 (fun j=>[Qe.e ((v4.1.getD Qm.toNat Xe.z).E)].getD j [])],[.box 59 (Jr a2),Qae v4.1,Jt v5.1,Qlg (Qc.q1 v4 Qm)]] (by kernel_rfl) (by kernel_rfl) (by kernel_rfl) (by kernel_rfl) ⟨?_,(Qdg hT),⟨?_,(fun R rest h=>Qfd 3 (kk:=9) (fz:=false) (ty:=41) (n:=(Qc.q1 v4 Qm).length) (vec Qe.e Qe.z (Qc.q1 v4 Qm)) (by kernel_rfl) Qep rfl ((fun R rest h=>Qcf 3 (kk:=9) (n:=(Qc.q1 v4 Qm).length) (ty:=41) (g:=vec Qe.e Qe.z (Qc.q1 v4 Qm)) (by kernel_rfl) rfl ((fun R rest h=>Zw (Yh:=[.own 3 9 0 1]) (dst:=some 66) hP Qfp (Qan.Wv (Qc.q1 v4 Qm) h18) (by kernel_rfl) (.cons (.Qds (ty:=41) (by kernel_rfl) rfl) .nil) (by kernel_rfl) h) R rest h)) R rest h)),?_⟩⟩ ?_
        iterate 3 exact (We (We (We (We (We (We (We (We (We (We (We (We (We (We (Qpb (Zu (We (Zu (We (We (Zu (We (Zu (We (We (We (We (Zu (Zu (We (Zu (We (We (We (Zu (Qdt (Qdt (Zu (We (Zu (We (We Qf2 hT) hT) (fun R rest h=>Xw hT (i:=Qm) (n:=(v4.1.length:Int)) h17.1 h17.2 (by kernel_rfl) h)) hT) (fun R rest h=>Qa1 hT (i:=Qm.toNat) (n:=v4.1.length) (ltN h17.1 h17.2) (by kernel_rfl) h)))) (fun R rest h=>Xw hT (i:=0) (n:=(v10.length:Int)) h19.1 h19.2 (by kernel_rfl) h)) hT) hT) hT) (fun R rest h=>Xw hT (i:=Qm) (n:=(v5.1.length:Int)) h20.1 h20.2 (by kernel_rfl) h)) hT) (fun R rest h=>Qa1 hT (i:=Qm.toNat) (n:=v5.1.length) (ltN h20.1 h20.2) (by kernel_rfl) h)) (fun R rest h=>Zw (Yh:=[.d (Qcv (v10.getD 0 Qg.z)),.d (Qcv ((Qc.q2 v5 Qm).E))]) (dst:=some 74) hP Qf8 (by have q:=Qak.Wv (v10.getD 0 Qg.z) ((Qc.q2 v5 Qm).E) h21;rw [c22] at q;exact q) (by kernel_rfl) (.cons (Qp _) (.cons (Qp _) .nil)) (by kernel_rfl) h)) hT) hT) hT) hT) (fun R rest h=>Xw hT (i:=Qm) (n:=(v4.1.length:Int)) h17.1 h17.2 (by kernel_rfl) h)) hT) (fun R rest h=>Qa1 hT (i:=Qm.toNat) (n:=v4.1.length) (ltN h17.1 h17.2) (by kernel_rfl) h)) hT) hT) (fun R rest h=>Xw hT (i:=Qm) (n:=(v5.1.length:Int)) h20.1 h20.2 (by kernel_rfl) h)) hT) (fun R rest h=>Qa1 hT (i:=Qm.toNat) (n:=v5.1.length) (ltN h20.1 h20.2) (by kernel_rfl) h)) hT 87 (.b (!(((((v4.1.getD Qm.toNat Xe.z).Was).Val) == ((Qc.q3 v5 Qm).Val)) && ((((v4.1.getD Qm.toNat Xe.z).Was).Some) == ((Qc.q3 v5 Qm).Some))))) (.b true) (by rw [eqF c23,Jk c27,Jk c29]<;>rfl)) hT) hT) hT) hT) hT) hT) hT) hT) hT) hT) hT) hT) hT) hT)
        refine Xq hT 1 (K4 11111110100100 1) [0,1,2] ⟨162,(Qc.p0 a0 a1++[(7,.d (Yw true v3)),(8,.own 1 13 0 v4.1.length),(10,.own 2 13 0 v5.1.length),(12,.i Qm),(101,.b true)]),[.box 59 (Jr a2),Qae v4.1,Jt v5.1]⟩ h0 ?_
        exact Jj4 true H
       replace H:=sF c22 H
       refine Qcb (nt:=162) (hP▸mixed) 42 [5,6] [0,1,5,7,8,10,12] [(0,.d (Xj true a0)),(1,.d (Wu true a1)),(5,.ptr 0 0 0 0),(7,.d (Yw true v3)),(8,.own 1 13 0 v4.1.length),(10,.own 2 13 0 v5.1.length),(12,.i Qm)] (sm [.own 1 13 0 v4.1.length,.i Qm,.ptr 1 13 Qm.toNat 0,.ptr 1 13 Qm.toNat 0,.d (Qdr ((v4.1.getD Qm.toNat Xe.z).E)),.own 3 9 0 1,.d (Yw true v10),.d (Qdc true v10 0 0),.d (Qcv (v10.getD 0 Qg.z)),.own 2 13 0 v5.1.length,.i Qm,.ptr 2 13 Qm.toNat 0,.ptr 2 13 Qm.toNat 0,.d (Qcv ((Qc.q2 v5 Qm).E)),.b false,.b true,.b true,.Qo [],.Qo [],.Qo [],.Qo [],.Qo [],.Qo [],.Qo [],.Qo [],.Qo [],.Qo [],.Qo [],.b true,.b true,.Qo [],.Qo [],.Qo [],.Qo [],.Qo [],.Qo [],.Qo [],.Qo [],.Qo [],.Qo [],.Qo [],.b true]) [[.box 59 (Jr a2),Qae v4.1,Jt v5.1],[.box 59 (Jr a2),Qae v4.1,Jt v5.1,.flat false 9 41 1 (fun j=>[Qe.e ((v4.1.getD Qm.toNat Xe.z).E)].getD j [])],[.box 59 (Jr a2),Qae v4.1,Jt v5.1,Qlg (Qc.q1 v4 Qm)]] (by kernel_rfl) (by kernel_rfl) (by kernel_rfl) (by kernel_rfl) ⟨?_,(Qdg hT),⟨?_,(fun R rest h=>Qfd 3 (kk:=9) (fz:=false) (ty:=41) (n:=(Qc.q1 v4 Qm).length) (vec Qe.e Qe.z (Qc.q1 v4 Qm)) (by kernel_rfl) Qep rfl ((fun R rest h=>Qcf 3 (kk:=9) (n:=(Qc.q1 v4 Qm).length) (ty:=41) (g:=vec Qe.e Qe.z (Qc.q1 v4 Qm)) (by kernel_rfl) rfl ((fun R rest h=>Zw (Yh:=[.own 3 9 0 1]) (dst:=some 66) hP Qfp (Qan.Wv (Qc.q1 v4 Qm) h18) (by kernel_rfl) (.cons (.Qds (ty:=41) (by kernel_rfl) rfl) .nil) (by kernel_rfl) h) R rest h)) R rest h)),?_⟩⟩ ?_
       iterate 3 exact (We (We (We (We (We (We (We (We (We (We (We (We (We (We (We (We (We (We (We (We (We (We (We (We (We (We (We (Zu (Zu (We (Zu (We (We (We (Zu (Qdt (Qdt (Zu (We (Zu (We (We Qf2 hT) hT) (fun R rest h=>Xw hT (i:=Qm) (n:=(v4.1.length:Int)) h17.1 h17.2 (by kernel_rfl) h)) hT) (fun R rest h=>Qa1 hT (i:=Qm.toNat) (n:=v4.1.length) (ltN h17.1 h17.2) (by kernel_rfl) h)))) (fun R rest h=>Xw hT (i:=0) (n:=(v10.length:Int)) h19.1 h19.2 (by kernel_rfl) h)) hT) hT) hT) (fun R rest h=>Xw hT (i:=Qm) (n:=(v5.1.length:Int)) h20.1 h20.2 (by kernel_rfl) h)) hT) (fun R rest h=>Qa1 hT (i:=Qm.toNat) (n:=v5.1.length) (ltN h20.1 h20.2) (by kernel_rfl) h)) (fun R rest h=>Zw (Yh:=[.d (Qcv (v10.getD 0 Qg.z)),.d (Qcv ((Qc.q2 v5 Qm).E))]) (dst:=some 74) hP Qf8 (by have q:=Qak.Wv (v10.getD 0 Qg.z) ((Qc.q2 v5 Qm).E) h21;rw [Jk c22] at q;exact q) (by kernel_rfl) (.cons (Qp _) (.cons (Qp _) .nil)) (by kernel_rfl) h)) hT) hT) hT) hT) hT) hT) hT) hT) hT) hT) hT) hT) hT) hT) hT) hT) hT) hT) hT) hT) hT) hT) hT) hT) hT) hT) hT)
       refine Xq hT 1 (K4 11111110100100 1) [0,1,2] ⟨162,(Qc.p0 a0 a1++[(7,.d (Yw true v3)),(8,.own 1 13 0 v4.1.length),(10,.own 2 13 0 v5.1.length),(12,.i Qm),(101,.b true)]),[.box 59 (Jr a2),Qae v4.1,Jt v5.1]⟩ h0 ?_
       exact Jj4 true H
      replace H:=sF c10 H
      rw [decide_eq_false c10]
      refine Qh hT 6 (K4 111111110 2) ⟨162,(Qc.p0 a0 a1++[(7,.d (Yw true v3)),(103,.d (Xj true a0)),(104,.d (Wu true a1))]),[.box 59 (Jr a2),Qae v4.1,Jt v5.1]⟩ ?_
      refine Zv hT [0,1,5,7,103,104,105] (i:=1) (n:=2) (by decide) (by decide) (k':=(K4 111111110 3)) (st':=⟨162,(Qc.p0 a0 a1++[(7,.d (Yw true v3)),(103,.d (Xj true a0)),(104,.d (Wu true a1)),(105,.ptr 0 0 0 1)]),[.box 59 (Jr a2),Qae v4.1,Jt v5.1]⟩) (by kernel_rfl) ?_
      refine Qh hT 1 (K4 111111110 4) ⟨162,(Qc.p0 a0 a1++[(7,.d (Yw true v3)),(103,.d (Xj true a0)),(104,.d (Wu true a1)),(106,.i a2.i1)]),[.box 59 (Jr a2),Qae v4.1,Jt v5.1]⟩ ?_
      obtain ⟨v6,h11,H⟩:=sbC H
      refine Wx (Yh:=[.d (Xj true a0),.d (Wu true a1),.i a2.i1]) (dst:=some 107) (k':=(K4 111111110 5)) [0,1,5,7,107] [] hP Wfg (Zm.Wv a0 a1 a2.i1 h11) (by kernel_rfl) (Wh _) (.cons (Qp _) (.cons (Qp _) (.cons (Qp _) .nil))) (st':=⟨162,(Qc.p0 a0 a1++[(7,.d (Yw true v3)),(107,.Qo [.own 3 9 0 v6.1.length,.i v6.2])]),[.box 59 (Jr a2),Qae v4.1,Jt v5.1,Qb6 v6.1]⟩) (by kernel_rfl) ?_
      refine Qh hT 7 (K4 111111111 0) ⟨162,(Qc.p0 a0 a1++[(7,.d (Yw true v3)),(13,.own 3 9 0 v6.1.length),(14,.i v6.2)]),[.box 59 (Jr a2),Qae v4.1,Jt v5.1,Qb6 v6.1]⟩ ?_
      obtain ⟨v7,h12,H⟩:=sbC H
      obtain ⟨v8,h13,H⟩:=sbC H
      have Jj3:∀ (Qm5:Bool),stk (Qc.j3 v6 v8 Qm5) (iter (Qc.step a0 a1 a2 v3 v4 v5) n)=some r->AK X 4 ((K4 11111111110 1)) (Yq X [] (.b r)) ⟨162,(Qc.p0 a0 a1++[(7,.d (Yw true v3)),(13,.own 1 9 0 v6.1.length),(15,.own 2 9 0 v8.1.length),(128,.b Qm5)]),[.box 59 (Jr a2),Qb6 v6.1,Qbg v8.1]⟩:=by
       intro Qm5 H
       by_cases c15:Qm5=true
       ·replace H:=sT c15 H
        rw [c15]
        refine Qh hT 5 (K4 1111111111010 1) ⟨162,[(6,.b false)],[.box 59 (Jr a2),Qb6 v6.1,Qbg v8.1]⟩ ?_
        obtain rfl:=Yi H
        exact Ym hf hX h0 (.b false) [] an (.d (.v _))
       replace H:=sF c15 H
       rw [Jk c15]
       refine Qh hT 2 (K4 1111111111 1) ⟨162,(Qc.p0 a0 a1++[(7,.d (Yw true v3)),(13,.own 1 9 0 v6.1.length),(15,.own 2 9 0 v8.1.length)]),[.box 59 (Jr a2),Qb6 v6.1,Qbg v8.1]⟩ ?_
       refine Qh hT 3 (K4 111111111110 1) ⟨162,(Qc.p0 a0 a1++[(7,.d (Yw true v3)),(15,.own 2 9 0 v8.1.length),(129,.own 1 9 0 v6.1.length)]),[.box 59 (Jr a2),Qb6 v6.1,Qbg v8.1]⟩ ?_
       refine Qcf 1 (kk:=9) (n:=v6.1.length) (ty:=41) (g:=vec Qe.e Qe.z v6.1) (by kernel_rfl) (st':=⟨162,(Qc.p0 a0 a1++[(7,.d (Yw true v3)),(15,.own 2 9 0 v8.1.length),(129,.own 1 9 0 v6.1.length)]),[.box 59 (Jr a2),Qlg v6.1,Qbg v8.1]⟩) (by kernel_rfl) ?_
       obtain ⟨v9,h16,H⟩:=sbC H
       refine Wx (Yh:=[.own 1 9 0 v6.1.length]) (dst:=some 130) (k':=(K4 111111111110 2)) [0,1,5,7,15,130] [] hP Qfp (Qan.Wv v6.1 h16) (by kernel_rfl) (Wh _) (.cons (.Qds (ty:=41) (by kernel_rfl) rfl) .nil) (st':=⟨162,(Qc.p0 a0 a1++[(7,.d (Yw true v3)),(15,.own 2 9 0 v8.1.length),(130,.d (Yw true v9))]),[.box 59 (Jr a2),Qlg v6.1,Qbg v8.1]⟩) (by kernel_rfl) ?_
       refine Xq hT 9 (K4 111111111111010 0) [0,2] ⟨162,(Qc.p0 a0 a1++[(7,.d (Yw true v3)),(15,.own 1 9 0 v8.1.length),(17,.d (Yw true v9)),(18,.i 0)]),[.box 59 (Jr a2),Qbg v8.1]⟩ h0 ?_
       exact ih.2 v8 v9 0 H
      refine Qcb (nt:=162) (hP▸mixed) 10 [2,5] [0,1,5,7,13,14] [(0,.d (Xj true a0)),(1,.d (Wu true a1)),(5,.ptr 0 0 0 0),(7,.d (Yw true v3)),(13,.own 3 9 0 v6.1.length),(14,.i v6.2)] (sm [.d (Yw true v3),.d (Wu true a1),.own 4 2 0 v7.length,.ptr 0 0 0 1,.i a2.i1,.Qo [.own 5 9 0 v8.1.length,.i v8.2],.Qo [.own 5 9 0 v8.1.length,.i v8.2],.own 5 9 0 v8.1.length,.i v8.2,.own 5 9 0 v8.1.length]) [[.box 59 (Jr a2),Qae v4.1,Jt v5.1,Qb6 v6.1],[.box 59 (Jr a2),Qae v4.1,Jt v5.1,Qb6 v6.1,Qag v7],[.box 59 (Jr a2),Qae v4.1,Jt v5.1,Qb6 v6.1,Qag v7,Qbg v8.1]] (by kernel_rfl) (by kernel_rfl) (by kernel_rfl) (by kernel_rfl) ⟨?_,(fun R rest h=>Qol (Yh:=[.d (Wu true a1)]) (dst:=some 113) hP Qt8 (Zq.Wv (t0:=true) a1 h12) (by kernel_rfl) (.cons (Qp _) .nil) (by kernel_rfl) h),⟨?_,(fun R rest h=>Qol (Yh:=[.d (Yw true v3),.own 4 2 0 v7.length,.i a2.i1]) (dst:=some 116) hP Wbx (Qx.Wv (t0:=true) (t1:=false) v3 v7 a2.i1 h13) (by kernel_rfl) (.cons (Qp _) (.cons (.Qds (ty:=46) (by kernel_rfl) rfl) (.cons (Qp _) .nil))) (by kernel_rfl) h),?_⟩⟩ ?_
      iterate 3 exact (We (We (We (We (Qdt (We (Zu (Qdt (We (We Qf2 hT) hT)) (fun R rest h=>Xw hT (i:=1) (n:=2) (by decide) (by decide) (by kernel_rfl) h)) hT)) hT) hT) hT) hT)
      refine Qh hT 9 (K4 111111111100 4) ⟨162,(Qc.p0 a0 a1++[(7,.d (Yw true v3)),(13,.own 3 9 0 v6.1.length),(15,.own 5 9 0 v8.1.length),(122,.b (v6.2 != v8.2))]),[.box 59 (Jr a2),Qae v4.1,Jt v5.1,Qb6 v6.1,Qag v7,Qbg v8.1]⟩ ?_
      by_cases c14:v6.2=v8.2
      ·replace H:=sT c14 H
       rw [neF c14]
       refine Xq hT 7 (K4 11111111110 1) [0,3,5] ⟨162,(Qc.p0 a0 a1++[(7,.d (Yw true v3)),(13,.own 1 9 0 v6.1.length),(15,.own 2 9 0 v8.1.length),(128,.b ((v6.1.length:Int) != (v8.1.length:Int)))]),[.box 59 (Jr a2),Qb6 v6.1,Qbg v8.1]⟩ h0 ?_
       exact Jj3 ((v6.1.length:Int) != (v8.1.length:Int)) H
      replace H:=sF c14 H
      rw [neT c14]
      refine Xq hT 7 (K4 11111111110 1) [0,3,5] ⟨162,(Qc.p0 a0 a1++[(7,.d (Yw true v3)),(13,.own 1 9 0 v6.1.length),(15,.own 2 9 0 v8.1.length),(128,.b true)]),[.box 59 (Jr a2),Qb6 v6.1,Qbg v8.1]⟩ h0 ?_
      exact Jj3 true H
     intro v8 v9 Qc1 H
     refine Qh hT 8 (K4 11111111111101000 1) ⟨162,(Qc.p0 a0 a1++[(7,.d (Yw true v3)),(15,.own 1 9 0 v8.1.length),(17,.d (Yw true v9)),(18,.i Qc1),(134,.b (decide (Qc1 < (v9.length:Int))))]),[.box 59 (Jr a2),Qbg v8.1]⟩ ?_
     by_cases c31:Qc1 < (v9.length:Int)
     ·replace H:=sT c31 H
      rw [decide_eq_true c31]
      refine Qh hT 2 (K4 1111111111110100 1) ⟨162,(Qc.p0 a0 a1++[(7,.d (Yw true v3)),(15,.own 1 9 0 v8.1.length),(17,.d (Yw true v9)),(18,.i Qc1)]),[.box 59 (Jr a2),Qbg v8.1]⟩ ?_
      refine Qh hT 3 (K4 1111111111110100100 0) ⟨162,(Qc.p0 a0 a1++[(7,.d (Yw true v3)),(15,.own 1 9 0 v8.1.length),(17,.d (Yw true v9)),(18,.i Qc1)]),[.box 59 (Jr a2),Qbg v8.1]⟩ ?_
      obtain ⟨h37,H⟩:=sC H
      obtain ⟨h38,H⟩:=sC H
      obtain ⟨v16,h39,H⟩:=sbC H
      refine Qbp (hP▸mixed) 10 [0,1,5,7,15,17,18] (sm [.d (Yw true v9),.i Qc1,.d (Qdc true v9 Qc1.toNat 0),.d (Qcv (v9.getD Qc1.toNat Qg.z)),.own 1 9 0 v8.1.length,.i Qc1,.ptr 1 9 Qc1.toNat 0,.d (Qcv (v8.1.getD Qc1.toNat Qg.z)),.b v16,.b (!v16)]) (Qj (opS (opS (opS (Qj (Qj (Qj (opS (Qj (Qj op0 hT) hT) (fun R rest h=>Xw hT (i:=Qc1) (n:=(v9.length:Int)) h37.1 h37.2 (by kernel_rfl) h)) hT) hT) hT) (fun R rest h=>Xw hT (i:=Qc1) (n:=(v8.1.length:Int)) h38.1 h38.2 (by kernel_rfl) h)) (fun R rest h=>Qa1 hT (i:=Qc1.toNat) (n:=v8.1.length) (ltN h38.1 h38.2) (by kernel_rfl) h)) (fun R rest h=>Zw (Yh:=[.d (Qcv (v9.getD Qc1.toNat Qg.z)),.d (Qcv (v8.1.getD Qc1.toNat Qg.z))]) (dst:=some 145) hP Qf8 (Qak.Wv (v9.getD Qc1.toNat Qg.z) (v8.1.getD Qc1.toNat Qg.z) h39) (by kernel_rfl) (.cons (Qp _) (.cons (Qp _) .nil)) (by kernel_rfl) h)) hT) ?_
      refine Qh hT 1 (K4 1111111111110100100 1) ⟨162,(Qc.p0 a0 a1++[(7,.d (Yw true v3)),(15,.own 1 9 0 v8.1.length),(17,.d (Yw true v9)),(18,.i Qc1),(146,.b (!v16))]),[.box 59 (Jr a2),Qbg v8.1]⟩ ?_
      by_cases c40:v16=true
      ·replace H:=sT c40 H
       rw [c40]
       refine Qh hT 3 (K4 11111111111101001 1) ⟨162,(Qc.p0 a0 a1++[(7,.d (Yw true v3)),(15,.own 1 9 0 v8.1.length),(17,.d (Yw true v9)),(18,.i Qc1)]),[.box 59 (Jr a2),Qbg v8.1]⟩ ?_
       refine Qh hT 6 (K4 111111111111010 0) ⟨162,(Qc.p0 a0 a1++[(7,.d (Yw true v3)),(15,.own 1 9 0 v8.1.length),(17,.d (Yw true v9)),(18,.i (IntKind.wrap .i64 (Qc1+1)))]),[.box 59 (Jr a2),Qbg v8.1]⟩ ?_
       exact ih.2 v8 v9 (IntKind.wrap .i64 (Qc1+1)) H
      replace H:=sF c40 H
      rw [Jk c40]
      refine Qh hT 5 (K4 111111111111010010010 1) ⟨162,[(6,.b false)],[.box 59 (Jr a2),Qbg v8.1]⟩ ?_
      obtain rfl:=Yi H
      exact Ym hf hX h0 (.b false) [] an (.d (.v _))
     replace H:=sF c31 H
     rw [decide_eq_false c31]
     refine Qh hT 3 (K4 1111111111111 0) ⟨162,(Qc.p0 a0 a1++[(7,.d (Yw true v3))]),[.box 59 (Jr a2),Qbg v8.1]⟩ ?_
     obtain ⟨v12,h32,H⟩:=sbC H
     have Jj5:∀ (Qtz:Bool),stk (Qc.j5 Qtz) (iter (Qc.step a0 a1 a2 v3 v4 v5) n)=some r->AK X 4 ((K4 1111111111111 1)) (Yq X [] (.b r)) ⟨162,[(6,.b Qtz)],[]⟩:=by
      intro Qtz H
      obtain rfl:=Yi H
      exact Ym hf hX h0 (.b Qtz) [] an (.d (.v _))
     by_cases c33:v12=true
     ·replace H:=sT c33 H
      obtain ⟨v13,h34,H⟩:=sbC H
      obtain ⟨v14,h35,H⟩:=sbC H
      refine Qcb (nt:=162) (hP▸mixed) 12 [9] [0,1,5,7] [(0,.d (Xj true a0)),(1,.d (Wu true a1)),(5,.ptr 0 0 0 0),(7,.d (Yw true v3))] (sm [.b true,.b true,.d (Xj true a0),.d (Wu true a1),.ptr 0 0 0 1,.i a2.i1,.i v13,.d (Yw true v3),.d (Wu true a1),.own 2 2 0 v14.length,.ptr 0 0 0 1,.i a2.i1]) [[.box 59 (Jr a2),Qbg v8.1],[.box 59 (Jr a2),Qbg v8.1,Qag v14]] (by kernel_rfl) (by kernel_rfl) (by kernel_rfl) (by kernel_rfl) ⟨?_,(fun R rest h=>Qol (Yh:=[.d (Wu true a1)]) (dst:=some 156) hP Qt8 (Zq.Wv (t0:=true) a1 h35) (by kernel_rfl) (.cons (Qp _) .nil) (by kernel_rfl) h),?_⟩ ?_
      iterate 2 exact (We (Zu (Qdt (We (We (Zu (We (Zu (We (We (We (Zu Qf2 (fun R rest h=>Zw (Yh:=[]) (dst:=some 147) hP Qrf (by have q:=Ql.Wv h32;rw [c33] at q;exact q) (by kernel_rfl) .nil (by kernel_rfl) h)) hT) hT) hT) (fun R rest h=>Xw hT (i:=1) (n:=2) (by decide) (by decide) (by kernel_rfl) h)) hT) (fun R rest h=>Zw (Yh:=[.d (Xj true a0),.d (Wu true a1),.i a2.i1]) (dst:=some 153) hP Wby (Zg.Wv (t0:=true) (t1:=true) a0 a1 a2.i1 h34) (by kernel_rfl) (.cons (Qp _) (.cons (Qp _) (.cons (Qp _) .nil))) (by kernel_rfl) h)) hT) hT)) (fun R rest h=>Xw hT (i:=1) (n:=2) (by decide) (by decide) (by kernel_rfl) h)) hT)
      refine Qh hT 0 (K4 11111111111110 12) ⟨162,[(148,.b true),(153,.i v13),(154,.d (Yw true v3)),(156,.own 2 2 0 v14.length),(158,.i a2.i1)],[.box 59 (Jr a2),Qbg v8.1,Qag v14]⟩ ?_
      obtain ⟨v15,h36,H⟩:=sbC H
      refine Wx (Yh:=[.d (Yw true v3),.own 2 2 0 v14.length,.i a2.i1]) (dst:=some 159) (k':=(K4 11111111111110 13)) [148,153,159] [] hP Wbz (Qs.Wv (t0:=true) (t1:=false) v3 v14 a2.i1 h36) (by kernel_rfl) (Wh _) (.cons (Qp _) (.cons (.Qds (ty:=46) (by kernel_rfl) rfl) (.cons (Qp _) .nil))) (st':=⟨162,[(148,.b true),(153,.i v13),(159,.i v15)],[.box 59 (Jr a2),Qbg v8.1,Qag v14]⟩) (by kernel_rfl) ?_
      refine Xq hT 4 (K4 1111111111111 1) [] ⟨162,[(6,.b (v13 == v15))],[]⟩ h0 ?_
      exact Jj5 (v13 == v15) H
     replace H:=sF c33 H
     refine Qbp (hP▸mixed) 12 [0,1,5,7] (sm [.b false,.b false,.Qo [],.Qo [],.Qo [],.Qo [],.Qo [],.Qo [],.Qo [],.Qo [],.Qo [],.Qo []]) (Qj (Qj (Qj (Qj (Qj (Qj (Qj (Qj (Qj (Qj (Qj (opS op0 (fun R rest h=>Zw (Yh:=[]) (dst:=some 147) hP Qrf (by have q:=Ql.Wv h32;rw [Jk c33] at q;exact q) (by kernel_rfl) .nil (by kernel_rfl) h)) hT) hT) hT) hT) hT) hT) hT) hT) hT) hT) hT) ?_
     refine Xq hT 5 (K4 1111111111111 1) [] ⟨162,[(6,.b false)],[]⟩ h0 ?_
     exact Jj5 false H
   obtain ⟨n,H⟩:=Qbu H
   exact (L n).1 0 H
  refine Wx (Yh:=[.d (Yw true v3),.i a2.i0]) (dst:=some 41) (k':=(K4 111110 4)) [0,1,5,7,8,9,41] [] hP Wbw (Qk.Wv (t0:=true) v3 a2.i0 h7) (by kernel_rfl) (Wh _) (.cons (Qp _) (.cons (Qp _) .nil)) (st':=⟨162,(Qc.p0 a0 a1++[(7,.d (Yw true v3)),(8,.own 1 13 0 v4.1.length),(9,.i v4.2),(41,.Qo [.own 2 13 0 v5.1.length,.i v5.2])]),[.box 59 (Jr a2),Qae v4.1,Jt v5.1]⟩) (by kernel_rfl) ?_
  refine Qh hT 13 (K4 11111100 4) ⟨162,(Qc.p0 a0 a1++[(7,.d (Yw true v3)),(8,.own 1 13 0 v4.1.length),(10,.own 2 13 0 v5.1.length),(47,.b (v4.2 != v5.2))]),[.box 59 (Jr a2),Qae v4.1,Jt v5.1]⟩ ?_
  by_cases c8:v4.2=v5.2
  ·replace H:=iT c8 H
   rw [neF c8]
   refine Qh hT 7 (K4 1111110 1) ⟨162,(Qc.p0 a0 a1++[(7,.d (Yw true v3)),(8,.own 1 13 0 v4.1.length),(10,.own 2 13 0 v5.1.length),(53,.b ((v4.1.length:Int) != (v5.1.length:Int)))]),[.box 59 (Jr a2),Qae v4.1,Jt v5.1]⟩ ?_
   exact Jj2 ((v4.1.length:Int) != (v5.1.length:Int)) H
  replace H:=iF c8 H
  rw [neT c8]
  refine Qh hT 7 (K4 1111110 1) ⟨162,(Qc.p0 a0 a1++[(7,.d (Yw true v3)),(8,.own 1 13 0 v4.1.length),(10,.own 2 13 0 v5.1.length),(53,.b true)]),[.box 59 (Jr a2),Qae v4.1,Jt v5.1]⟩ ?_
  exact Jj2 true H
 refine Wx (Yh:=[.d (Xj true a0),.ns]) (dst:=some 20) (k':=(K4 1100 2)) [0,1,5,20] [] hP Wfe (Xp.Wv (t0:=true) (t1:=true) a0 ([]:List Wn) h1) (by kernel_rfl) (Wh _) (.cons (Qp _) (.cons (.nil _ _) .nil)) (st':=⟨162,(Qc.p0 a0 a1++[(20,.b v1)]),[.box 59 (Jr a2)]⟩) (by kernel_rfl) ?_
 refine Qh hT 2 (K4 1100 4) ⟨162,(Qc.p0 a0 a1++[(22,.b (!v1))]),[.box 59 (Jr a2)]⟩ ?_
 by_cases c2:v1=true
 ·replace H:=iT c2 H
  rw [c2]
  refine Qh hT 5 (K4 110 1) ⟨162,(Qc.p0 a0 a1++[(26,.b (decide ((a1.length:Int) > 60)))]),[.box 59 (Jr a2)]⟩ ?_
  exact Yv (decide ((a1.length:Int) > 60)) H
 replace H:=iF c2 H
 rw [Jk c2]
 refine Qh hT 5 (K4 110 1) ⟨162,(Qc.p0 a0 a1++[(26,.b true)]),[.box 59 (Jr a2)]⟩ ?_
 exact Yv true H
end
end Go.SyP
