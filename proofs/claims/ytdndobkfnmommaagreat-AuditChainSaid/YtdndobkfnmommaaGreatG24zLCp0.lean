/- Certificates, printed by gen24.py. -/
import Derived.Test.YtdndobkfnmommaaGreatG24zWC
import Derived.Test.YtdndobkfnmommaaGreatG24zB
import Derived.Test.YtdndobkfnmommaaGreatG24zBP
set_option linter.unusedVariables false
set_option linter.unusedSimpArgs false
namespace Go.SyP
open Go Go.Sy Go.Proofs
noncomputable section
abbrev Qm.q1:=([(⟨1,1,(⟨1,1,1,([(⟨5,7⟩:Qa)]:List Qa),(⟨0,0⟩:Qb),0⟩:Ql),0,(⟨0,false⟩:Yv),0⟩:Qy),(⟨2,1,(⟨0,0,0,([]:List Qa),(⟨0,0⟩:Qb),0⟩:Ql),5,(⟨7,true⟩:Yv),0⟩:Qy),(⟨2,1,(⟨0,0,0,([]:List Qa),(⟨0,0⟩:Qb),0⟩:Ql),5,(⟨7,true⟩:Yv),4⟩:Qy)]:List Qy)
abbrev Qm.q2:=((Qm.q1).set 2 (⟨((Qm.q1).getD 2 Qy.z).Kind,((Qm.q1).getD 2 Qy.z).Client,(((Qm.q1).getD 2 Qy.z).M),((Qm.q1).getD 2 Qy.z).Key,(⟨8,(((Qm.q1).getD 2 Qy.z).Cell).Some⟩:Yv),((Qm.q1).getD 2 Qy.z).Mark⟩:Qy))
abbrev Qm.q3:=([(⟨(⟨1,1,1,([(⟨5,7⟩:Qa)]:List Qa),(⟨0,0⟩:Qb),0⟩:Ql),3,true⟩:Qd)]:List Qd)
abbrev Qm.q4 (v1:(List Ym) × Int) (v2:(List Ym) × Int):List Row:=[Qer ([(⟨5,7⟩:Qa)]:List Qa),.box 39 [.i 1,.i 1,.i 1,.own 0 2 0 1,.i 0,.i 0,.i 0],Jp (Qm.q3),.box 36 [.i 7,.b true],Qzm (Qm.q2),Qfs v1.1,Qfs v2.1]
abbrev Qm.q5:=([(⟨5,7⟩:Qa)]:List Qa)
abbrev Qm.q6:List AV:=[.i 1,.i 1,.i 1,.own 0 2 0 1,.i 0,.i 0,.i 0]
abbrev Qm.q7 (v1:(List Ym) × Int):List Row:=[Qer (Qm.q5),.box 39 (Qm.q6),Jp (Qm.q3),.box 36 [.i 7,.b true],Qzm (Qm.q1),Qfs v1.1]
abbrev Qm.p0:List (Nat × AV):=[(2,.own 2 9 0 ((Qm.q3).length)),(4,.own 4 13 0 ((Qm.q1).length))]
theorem Qm.Wv {r:Bool} (H:Qm=some r):Yy Tryz.prog 7 [] [] [] (.b r):=by
 refine Yc Tryz.func7 rfl (nt:=62) rfl (lb rfl) fun X hP h0 hX=>?_
 have hT:Xo X.P T:=hP▸tok
 have hf:X.P.funcs[7]? = some Tryz.f7:=hP▸Tryz.func7
 refine Qh hT 16 (K7 1110 2) ⟨62,[(1,.ptr 1 0 0 0),(13,.agg [.i 1,.i 1,.i 1,.own 0 2 0 1,.i 0,.i 0,.i 0,.i 3,.b true])],[.flat false 2 81 1 (fun j=>[[.i 5,.i 7]].getD j []),.box 39 (Qm.q6)]⟩ ?_
 refine Qhq 0 (kk:=2) (fz:=false) (ty:=81) (n:=(Qm.q5).length) (vec Qa.e Qa.z (Qm.q5)) (by kernel_rfl) Qha (st':=⟨62,[(1,.ptr 1 0 0 0),(13,.agg [.i 1,.i 1,.i 1,.own 0 2 0 1,.i 0,.i 0,.i 0,.i 3,.b true])],[Xj (Qm.q5),.box 39 (Qm.q6)]⟩) (by kernel_rfl) ?_
 refine Qdp 0 (kk:=2) (n:=(Qm.q5).length) (ty:=81) (g:=vec Qa.e Qa.z (Qm.q5)) (by kernel_rfl) (st':=⟨62,[(1,.ptr 1 0 0 0),(13,.agg [.i 1,.i 1,.i 1,.own 0 2 0 1,.i 0,.i 0,.i 0,.i 3,.b true])],[Qer (Qm.q5),.box 39 (Qm.q6)]⟩) (by kernel_rfl) ?_
 refine Qdt (av:=.agg [.i 1,.i 1,.i 1,.own 0 2 0 1,.i 0,.i 0,.i 0,.i 3,.b true]) (y:=.agg [.i 1,.i 1,.i 1,Xw true (Qm.q5),.i 0,.i 0,.i 0,.i 3,.b true]) [1,13] 13 (st':=⟨62,[(1,.ptr 1 0 0 0),(13,.d (.agg [.i 1,.i 1,.i 1,Xw true (Qm.q5),.i 0,.i 0,.i 0,.i 3,.b true]))],[Qer (Qm.q5),.box 39 (Qm.q6)]⟩) (by kernel_rfl) (.agg (.cons (.d _) (.cons (.d _) (.cons (.d _) (.cons (.own (ty:=81) (k:=2) (by kernel_rfl)) (.cons (.d _) (.cons (.d _) (.cons (.d _) (.cons (.d _) (.cons (.d _) .nil)))))))))) (by kernel_rfl) ?_
 refine Qh hT 17 (K7 111110 6) ⟨62,[(2,.own 2 9 0 1),(17,.agg [.i 1,.i 1,.i 1,.i 1,.i 1,.own 0 2 0 1,.i 0,.i 0,.i 0,.i 0,.i 0,.b false,.i 0]),(19,.d (.agg [.i 2,.i 1,.i 0,.i 0,.i 0,.ns,.i 0,.i 0,.i 0,.i 5,.i 7,.b true,.i 0])),(21,.d (.agg [.i 2,.i 1,.i 0,.i 0,.i 0,.ns,.i 0,.i 0,.i 0,.i 5,.i 7,.b true,.i 4]))],[Qer (Qm.q5),.box 39 (Qm.q6),.flat false 9 41 1 (fun j=>[[.i 1,.i 1,.i 1,Xw true (Qm.q5),.i 0,.i 0,.i 0,.i 3,.b true]].getD j []),.box 36 [.i 7,.b true]]⟩ ?_
 refine Qdt (av:=.agg [.i 1,.i 1,.i 1,.i 1,.i 1,.own 0 2 0 1,.i 0,.i 0,.i 0,.i 0,.i 0,.b false,.i 0]) (y:=.agg [.i 1,.i 1,.i 1,.i 1,.i 1,Xw true (Qm.q5),.i 0,.i 0,.i 0,.i 0,.i 0,.b false,.i 0]) [2,17,19,21] 17 (st':=⟨62,[(2,.own 2 9 0 1),(17,.d (.agg [.i 1,.i 1,.i 1,.i 1,.i 1,Xw true (Qm.q5),.i 0,.i 0,.i 0,.i 0,.i 0,.b false,.i 0])),(19,.d (.agg [.i 2,.i 1,.i 0,.i 0,.i 0,.ns,.i 0,.i 0,.i 0,.i 5,.i 7,.b true,.i 0])),(21,.d (.agg [.i 2,.i 1,.i 0,.i 0,.i 0,.ns,.i 0,.i 0,.i 0,.i 5,.i 7,.b true,.i 4]))],[Qer (Qm.q5),.box 39 (Qm.q6),.flat false 9 41 1 (fun j=>[[.i 1,.i 1,.i 1,Xw true (Qm.q5),.i 0,.i 0,.i 0,.i 3,.b true]].getD j []),.box 36 [.i 7,.b true]]⟩) (by kernel_rfl) (.agg (.cons (.d _) (.cons (.d _) (.cons (.d _) (.cons (.d _) (.cons (.d _) (.cons (.own (ty:=81) (k:=2) (by kernel_rfl)) (.cons (.d _) (.cons (.d _) (.cons (.d _) (.cons (.d _) (.cons (.d _) (.cons (.d _) (.cons (.d _) .nil)))))))))))))) (by kernel_rfl) ?_
 refine Qdt (av:=.d (.agg [.i 2,.i 1,.i 0,.i 0,.i 0,.ns,.i 0,.i 0,.i 0,.i 5,.i 7,.b true,.i 0])) (y:=.agg [.i 2,.i 1,.i 0,.i 0,.i 0,Xw true ([]:List Qa),.i 0,.i 0,.i 0,.i 5,.i 7,.b true,.i 0]) [2,17,19,21] 19 (st':=⟨62,[(2,.own 2 9 0 1),(17,.d (.agg [.i 1,.i 1,.i 1,.i 1,.i 1,Xw true (Qm.q5),.i 0,.i 0,.i 0,.i 0,.i 0,.b false,.i 0])),(19,.d (.agg [.i 2,.i 1,.i 0,.i 0,.i 0,Xw true ([]:List Qa),.i 0,.i 0,.i 0,.i 5,.i 7,.b true,.i 0])),(21,.d (.agg [.i 2,.i 1,.i 0,.i 0,.i 0,.ns,.i 0,.i 0,.i 0,.i 5,.i 7,.b true,.i 4]))],[Qer (Qm.q5),.box 39 (Qm.q6),.flat false 9 41 1 (fun j=>[[.i 1,.i 1,.i 1,Xw true (Qm.q5),.i 0,.i 0,.i 0,.i 3,.b true]].getD j []),.box 36 [.i 7,.b true]]⟩) (by kernel_rfl) (.Qrg (.cons (.d _) (.cons (.d _) (.cons (.d _) (.cons (.d _) (.cons (.d _) (.cons (.nil _) (.cons (.d _) (.cons (.d _) (.cons (.d _) (.cons (.d _) (.cons (.d _) (.cons (.d _) (.cons (.d _) .nil)))))))))))))) (by kernel_rfl) ?_
 refine Qdt (av:=.d (.agg [.i 2,.i 1,.i 0,.i 0,.i 0,.ns,.i 0,.i 0,.i 0,.i 5,.i 7,.b true,.i 4])) (y:=.agg [.i 2,.i 1,.i 0,.i 0,.i 0,Xw true ([]:List Qa),.i 0,.i 0,.i 0,.i 5,.i 7,.b true,.i 4]) [2,17,19,21] 21 (st':=⟨62,[(2,.own 2 9 0 1),(17,.d (.agg [.i 1,.i 1,.i 1,.i 1,.i 1,Xw true (Qm.q5),.i 0,.i 0,.i 0,.i 0,.i 0,.b false,.i 0])),(19,.d (.agg [.i 2,.i 1,.i 0,.i 0,.i 0,Xw true ([]:List Qa),.i 0,.i 0,.i 0,.i 5,.i 7,.b true,.i 0])),(21,.d (.agg [.i 2,.i 1,.i 0,.i 0,.i 0,Xw true ([]:List Qa),.i 0,.i 0,.i 0,.i 5,.i 7,.b true,.i 4]))],[Qer (Qm.q5),.box 39 (Qm.q6),.flat false 9 41 1 (fun j=>[[.i 1,.i 1,.i 1,Xw true (Qm.q5),.i 0,.i 0,.i 0,.i 3,.b true]].getD j []),.box 36 [.i 7,.b true]]⟩) (by kernel_rfl) (.Qrg (.cons (.d _) (.cons (.d _) (.cons (.d _) (.cons (.d _) (.cons (.d _) (.cons (.nil _) (.cons (.d _) (.cons (.d _) (.cons (.d _) (.cons (.d _) (.cons (.d _) (.cons (.d _) (.cons (.d _) .nil)))))))))))))) (by kernel_rfl) ?_
 refine Qh hT 7 (K7 1111110 2) ⟨62,[(2,.own 2 9 0 1),(4,.own 4 13 0 3),(24,.own 2 9 0 1),(25,.own 4 13 0 3)],[Qer (Qm.q5),.box 39 (Qm.q6),.flat false 9 41 1 (fun j=>[[.i 1,.i 1,.i 1,Xw true (Qm.q5),.i 0,.i 0,.i 0,.i 3,.b true]].getD j []),.box 36 [.i 7,.b true],.flat false 13 74 3 (fun j=>[[.i 1,.i 1,.i 1,.i 1,.i 1,Xw true (Qm.q5),.i 0,.i 0,.i 0,.i 0,.i 0,.b false,.i 0],[.i 2,.i 1,.i 0,.i 0,.i 0,Xw true ([]:List Qa),.i 0,.i 0,.i 0,.i 5,.i 7,.b true,.i 0],[.i 2,.i 1,.i 0,.i 0,.i 0,Xw true ([]:List Qa),.i 0,.i 0,.i 0,.i 5,.i 7,.b true,.i 4]].getD j [])]⟩ ?_
 refine Qhq 2 (kk:=9) (fz:=false) (ty:=41) (n:=(Qm.q3).length) (vec Qd.e Qd.z (Qm.q3)) (by kernel_rfl) Qha (st':=⟨62,[(2,.own 2 9 0 ((Qm.q3).length)),(4,.own 4 13 0 3),(24,.own 2 9 0 ((Qm.q3).length)),(25,.own 4 13 0 3)],[Qer (Qm.q5),.box 39 (Qm.q6),Jp (Qm.q3),.box 36 [.i 7,.b true],.flat false 13 74 3 (fun j=>[[.i 1,.i 1,.i 1,.i 1,.i 1,Xw true (Qm.q5),.i 0,.i 0,.i 0,.i 0,.i 0,.b false,.i 0],[.i 2,.i 1,.i 0,.i 0,.i 0,Xw true ([]:List Qa),.i 0,.i 0,.i 0,.i 5,.i 7,.b true,.i 0],[.i 2,.i 1,.i 0,.i 0,.i 0,Xw true ([]:List Qa),.i 0,.i 0,.i 0,.i 5,.i 7,.b true,.i 4]].getD j [])]⟩) (by kernel_rfl) ?_
 refine Qhq 4 (kk:=13) (fz:=false) (ty:=74) (n:=(Qm.q1).length) (vec Qy.e Qy.z (Qm.q1)) (by kernel_rfl) Qha (st':=⟨62,(Qm.p0++[(24,.own 2 9 0 ((Qm.q3).length)),(25,.own 4 13 0 ((Qm.q1).length))]),[Qer (Qm.q5),.box 39 (Qm.q6),Jp (Qm.q3),.box 36 [.i 7,.b true],Qzm (Qm.q1)]⟩) (by kernel_rfl) ?_
 obtain ⟨v1,h1,H⟩:=ibC H
 refine Ws (Yk:=[.own 2 9 0 ((Qm.q3).length),.own 4 13 0 ((Qm.q1).length)]) (dst:=some 26) (k':=(K7 1111110 3)) [2,4,26] [] hP Qt7 (Jy.Wv (t0:=false) (t1:=false) (Qm.q3) (Qm.q1) h1) (by kernel_rfl) (Qz _) (.cons (.Qek (ty:=41) (by kernel_rfl) rfl) (.cons (.Qek (ty:=74) (by kernel_rfl) rfl) .nil)) (st':=⟨62,(Qm.p0++[(26,.Qn [.own 5 2 0 v1.1.length,.i v1.2])]),(Qm.q7 v1)⟩) (by kernel_rfl) ?_
 refine Qh hT 9 (K7 11111110 1) ⟨62,(Qm.p0++[(5,.own 5 2 0 v1.1.length),(6,.i v1.2),(29,.own 4 13 0 ((Qm.q1).length))]),(Qm.q7 v1)⟩ ?_
 obtain ⟨h2,H⟩:=iC H
 refine Jf hT [2,4,5,6,30] (i:=2) (n:=((Qm.q1).length:Int)) h2.1 h2.2 (k':=(K7 11111110 2)) (st':=⟨62,(Qm.p0++[(5,.own 5 2 0 v1.1.length),(6,.i v1.2),(30,.ptr 4 13 2 0)]),(Qm.q7 v1)⟩) (by kernel_rfl) ?_
 refine Qh hT 2 (K7 11111110 4) ⟨62,(Qm.p0++[(5,.own 5 2 0 v1.1.length),(6,.i v1.2),(32,.ptr 4 13 2 10)]),(Qm.q7 v1)⟩ ?_
 refine Qvk (id:=4) (kk:=13) (i:=2) (off:=10) (s:=1) (n:=(Qm.q1).length) (ty:=74) (ds:=[.i 8]) (g:=vec Qy.e Qy.z (Qm.q1)) (k':=(K7 11111110 5)) hT [2,4,5,6] (vec Qy.e Qy.z (Qm.q2)) (by kernel_rfl) (by kernel_rfl) (by first | omega | decide) ((Qqc (by first | omega | decide)).trans (by kernel_rfl)) Qk8 (st':=⟨62,(Qm.p0++[(5,.own 5 2 0 v1.1.length),(6,.i v1.2)]),[.flat true 2 81 (Qm.q5).length (vec Qa.e Qa.z (Qm.q5)),.box 39 (Qm.q6),.flat false 9 41 (Qm.q3).length (vec Qd.e Qd.z (Qm.q3)),.box 36 [.i 7,.b true],.flat false 13 74 (Qm.q1).length (vec Qy.e Qy.z (Qm.q2)),.flat false 2 86 v1.1.length (vec Ym.e Ym.z v1.1)]⟩) (by kernel_rfl) ?_
 refine Qr9 (show (Qm.q1).length=(Qm.q2).length from (List.length_set ..).symm) (fun nn=>⟨62,[(2,.own 2 9 0 ((Qm.q3).length)),(4,.own 4 13 0 (nn)),(5,.own 5 2 0 v1.1.length),(6,.i v1.2)],[.flat true 2 81 (Qm.q5).length (vec Qa.e Qa.z (Qm.q5)),.box 39 (Qm.q6),.flat false 9 41 (Qm.q3).length (vec Qd.e Qd.z (Qm.q3)),.box 36 [.i 7,.b true],.flat false 13 74 nn (vec Qy.e Qy.z (Qm.q2)),.flat false 2 86 v1.1.length (vec Ym.e Ym.z v1.1)]⟩) ?_
 refine Qh hT 5 (K7 111111110 2) ⟨62,[(5,.own 5 2 0 v1.1.length),(6,.i v1.2),(34,.own 2 9 0 ((Qm.q3).length)),(35,.own 4 13 0 ((Qm.q2).length))],[Qer (Qm.q5),.box 39 (Qm.q6),Jp (Qm.q3),.box 36 [.i 7,.b true],Qzm (Qm.q2),Qfs v1.1]⟩ ?_
 obtain ⟨v2,h3,H⟩:=ibC H
 have Yn:∀ (Qtt:Bool),(Qm.j1 Qtt)=some r->AK X 7 ((K7 111111111 1)) (Yt X [] (.b r)) ⟨62,[(0,.b Qtt)],[]⟩:=by
  intro Qtt H
  obtain rfl:=Yg H
  exact Yi hf hX h0 (.b Qtt) [] an (.d (.v _))
 refine Ws (Yk:=[.own 2 9 0 ((Qm.q3).length),.own 4 13 0 ((Qm.q2).length)]) (dst:=some 36) (k':=(K7 111111110 3)) [5,6,36] [] hP Qt7 (Jy.Wv (t0:=false) (t1:=false) (Qm.q3) (Qm.q2) h3) (by kernel_rfl) (Qz _) (.cons (.Qek (ty:=41) (by kernel_rfl) rfl) (.cons (.Qek (ty:=74) (by kernel_rfl) rfl) .nil)) (st':=⟨62,[(5,.own 5 2 0 v1.1.length),(6,.i v1.2),(36,.Qn [.own 6 2 0 v2.1.length,.i v2.2])],(Qm.q4 v1 v2)⟩) (by kernel_rfl) ?_
 refine Qh hT 11 (K7 1111111110 3) ⟨62,[(5,.own 5 2 0 v1.1.length),(7,.own 6 2 0 v2.1.length),(8,.i v2.2),(41,.b (v1.2 == 0))],(Qm.q4 v1 v2)⟩ ?_
 by_cases c4:v1.2=0
 ·replace H:=iT c4 H
  rw [eqT c4]
  refine Qh hT 5 (K7 1111111110 8) ⟨62,[(7,.own 6 2 0 v2.1.length),(8,.i v2.2),(46,.b ((v1.1.length:Int) == 0))],(Qm.q4 v1 v2)⟩ ?_
  by_cases c5:(v1.1.length:Int)=0
  ·replace H:=iT c5 H
   rw [eqT c5]
   refine Qh hT 4 (K7 1111111110 12) ⟨62,[(7,.own 6 2 0 v2.1.length),(50,.b (v2.2 == 0))],(Qm.q4 v1 v2)⟩ ?_
   by_cases c6:v2.2=0
   ·replace H:=iT c6 H
    rw [eqT c6]
    refine Qh hT 5 (K7 1111111110 17) ⟨62,[(7,.own 6 2 0 v2.1.length),(55,.b ((v2.1.length:Int) == 1))],(Qm.q4 v1 v2)⟩ ?_
    by_cases c7:(v2.1.length:Int)=1
    ·replace H:=iT c7 H
     rw [eqT c7]
     refine Qh hT 1 (K7 1111111110 18) ⟨62,[(55,.b true),(56,.own 6 2 0 v2.1.length)],(Qm.q4 v1 v2)⟩ ?_
     obtain ⟨h8,H⟩:=iC H
     refine Jf hT [55,57] (i:=0) (n:=(v2.1.length:Int)) h8.1 h8.2 (k':=(K7 1111111110 19)) (st':=⟨62,[(55,.b true),(57,.ptr 6 2 0 0)],(Qm.q4 v1 v2)⟩) (by kernel_rfl) ?_
     refine Qni hT [55,58] (i:=0) (n:=v2.1.length) (by first | omega | decide) (k':=(K7 1111111110 20)) (st':=⟨62,[(55,.b true),(58,.d (Wjq (v2.1.getD 0 Ym.z)))],(Qm.q4 v1 v2)⟩) (by kernel_rfl) ?_
     refine Xn hT 5 (K7 111111111 1) [] ⟨62,[(0,.b ((((v2.1.getD 0 Ym.z).At) == 2) && (((v2.1.getD 0 Ym.z).Why) == 4)))],[]⟩ h0 ?_
     exact Yn ((((v2.1.getD 0 Ym.z).At) == 2) && (((v2.1.getD 0 Ym.z).Why) == 4)) H
    replace H:=iF c7 H
    rw [eqF c7]
    refine Xn hT 8 (K7 111111111 1) [] ⟨62,[(0,.b false)],[]⟩ h0 ?_
    exact Yn false H
   replace H:=iF c6 H
   rw [eqF c6]
   refine Xn hT 13 (K7 111111111 1) [] ⟨62,[(0,.b false)],[]⟩ h0 ?_
   exact Yn false H
  replace H:=iF c5 H
  rw [eqF c5]
  refine Xn hT 17 (K7 111111111 1) [] ⟨62,[(0,.b false)],[]⟩ h0 ?_
  exact Yn false H
 replace H:=iF c4 H
 rw [eqF c4]
 refine Xn hT 22 (K7 111111111 1) [] ⟨62,[(0,.b false)],[]⟩ h0 ?_
 exact Yn false H
abbrev Wy.p0 (t0:Bool) (a0:List Qc):List (Nat × AV):=[(0,.d (Yf t0 a0))]
theorem Wy.Wv {t0:Bool} (a0:List Qc) {r:Bool} (H:Wy a0=some r):Yy Tryz.prog 63 [] [.d (Yf t0 a0)] [] (.b r):=by
 refine Yc Tryz.func63 rfl (nt:=56) rfl (lb rfl) fun X hP h0 hX=>?_
 have hT:Xo X.P T:=hP▸tok
 have hf:X.P.funcs[63]? = some Tryz.f63:=hP▸Tryz.func63
 refine Qh hT 11 (K63 11010 0) ⟨56,(Wy.p0 t0 a0++[(3,.i 0)]),[]⟩ ?_
 have L:∀ n,(∀ (We:Int),iter (Wy.step a0) n (.l1 We)=some r->AK X 63 ((K63 11010 0)) (Yt X [] (.b r)) ⟨56,(Wy.p0 t0 a0++[(3,.i We)]),[]⟩):=by
  intro n
  induction n with
  | zero=>exact fun _ H=>Qbd H
  | succ n ih=>
   ·intro We H
    refine Qh hT 8 (K63 1101000 1) ⟨56,(Wy.p0 t0 a0++[(3,.i We),(7,.b (decide (We < (a0.length:Int))))]),[]⟩ ?_
    by_cases c1:We < (a0.length:Int)
    ·replace H:=sT c1 H
     rw [decide_eq_true c1]
     refine Qh hT 2 (K63 110100 1) ⟨56,(Wy.p0 t0 a0++[(3,.i We)]),[]⟩ ?_
     refine Qh hT 7 (K63 11010010000 2) ⟨56,(Wy.p0 t0 a0++[(3,.i We),(10,.d (Yf t0 a0)),(11,.i We)]),[]⟩ ?_
     obtain ⟨h2,H⟩:=sC H
     have Yn:∀ (Qqt:Bool),stk (Wy.j1 a0 We Qqt) (iter (Wy.step a0) n)=some r->AK X 63 ((K63 1101001000 1)) (Yt X [] (.b r)) ⟨56,(Wy.p0 t0 a0++[(3,.i We),(39,.b Qqt)]),[]⟩:=by
      intro Qqt H
      by_cases c6:Qqt=true
      ·replace H:=sT c6 H
       rw [c6]
       refine Qh hT 5 (K63 110100100010 1) ⟨56,[(2,.b false)],[]⟩ ?_
       obtain rfl:=Yg H
       exact Yi hf hX h0 (.b false) [] an (.d (.v _))
      replace H:=sF c6 H
      have Jj2:∀ (Qfp:Bool),stk (Wy.j2 We Qfp) (iter (Wy.step a0) n)=some r->AK X 63 ((K63 1101001001 1)) (Yt X [] (.b r)) ⟨56,(Wy.p0 t0 a0++[(3,.i We),(55,.b Qfp)]),[]⟩:=by
       intro Qfp H
       by_cases c9:Qfp=true
       ·replace H:=sT c9 H
        rw [c9]
        refine Qh hT 5 (K63 110100100110 1) ⟨56,[(2,.b false)],[]⟩ ?_
        obtain rfl:=Yg H
        exact Yi hf hX h0 (.b false) [] an (.d (.v _))
       replace H:=sF c9 H
       rw [Zz c9]
       refine Qh hT 3 (K63 1101001 1) ⟨56,(Wy.p0 t0 a0++[(3,.i We)]),[]⟩ ?_
       refine Qh hT 6 (K63 11010 0) ⟨56,(Wy.p0 t0 a0++[(3,.i (IntKind.wrap .i64 (We+1)))]),[]⟩ ?_
       exact ih (IntKind.wrap .i64 (We+1)) H
      rw [Zz c6]
      refine Qh hT 2 (K63 110100100 1) ⟨56,(Wy.p0 t0 a0++[(3,.i We)]),[]⟩ ?_
      refine Qh hT 1 (K63 1101001001 0) ⟨56,(Wy.p0 t0 a0++[(3,.i We)]),[]⟩ ?_
      by_cases c7:We > 0
      ·replace H:=sT c7 H
       obtain ⟨h8,H⟩:=sC H
       refine Qax (hP▸mixed) 16 [0,3] (sm [.i We,.b true,.b true,.d (Yf t0 a0),.i We,.d (Qcv t0 a0 We.toNat 0),.d (Qcv t0 a0 We.toNat 0),.i ((a0.getD We.toNat Qc.z).Key),.d (Yf t0 a0),.i We,.i (IntKind.wrap .i64 (We - 1)),.d (Qcv t0 a0 ((IntKind.wrap .i64 (We - 1)).toNat) 0),.d (Qcv t0 a0 ((IntKind.wrap .i64 (We - 1)).toNat) 0),.i ((a0.getD ((IntKind.wrap .i64 (We - 1)).toNat) Qc.z).Key),.b (decide (((a0.getD We.toNat Qc.z).Key)<=((a0.getD ((IntKind.wrap .i64 (We - 1)).toNat) Qc.z).Key))),.b (decide (((a0.getD We.toNat Qc.z).Key)<=((a0.getD ((IntKind.wrap .i64 (We - 1)).toNat) Qc.z).Key)))]) (Qg (Qg (Qg (Qg (Jn (Qg (Qg (Qg (Qg (Qg (Jn (Qg (Qg (Qg (opV (Qg op0 hT) hT 41 (.b (decide (We > 0))) (.b true) (by rw [decide_eq_true c7]<;>rfl)) hT) hT) hT) (fun R rest h=>Zd hT (i:=We) (n:=(a0.length:Int)) h2.1 h2.2 (by kernel_rfl) h)) hT) hT) hT) hT) hT) (fun R rest h=>Zd hT (i:=IntKind.wrap .i64 (We - 1)) (n:=(a0.length:Int)) h8.1 h8.2 (by kernel_rfl) h)) hT) hT) hT) hT) ?_
       refine Qh hT 1 (K63 1101001001 1) ⟨56,(Wy.p0 t0 a0++[(3,.i We),(55,.b (decide (((a0.getD We.toNat Qc.z).Key)<=((a0.getD ((IntKind.wrap .i64 (We - 1)).toNat) Qc.z).Key))))]),[]⟩ ?_
       exact Jj2 (decide (((a0.getD We.toNat Qc.z).Key)<=((a0.getD ((IntKind.wrap .i64 (We - 1)).toNat) Qc.z).Key))) H
      replace H:=sF c7 H
      refine Qax (hP▸mixed) 16 [0,3] (sm [.i We,.b false,.b false,.Qn [],.Qn [],.Qn [],.Qn [],.Qn [],.Qn [],.Qn [],.Qn [],.Qn [],.Qn [],.Qn [],.Qn [],.b false]) (Qg (Qg (Qg (Qg (Qg (Qg (Qg (Qg (Qg (Qg (Qg (Qg (Qg (Qg (opV (Qg op0 hT) hT 41 (.b (decide (We > 0))) (.b false) (by rw [decide_eq_false c7]<;>rfl)) hT) hT) hT) hT) hT) hT) hT) hT) hT) hT) hT) hT) hT) hT) ?_
      refine Qh hT 1 (K63 1101001001 1) ⟨56,(Wy.p0 t0 a0++[(3,.i We),(55,.b false)]),[]⟩ ?_
      exact Jj2 false H
     refine Jf hT [0,3,12] (i:=We) (n:=(a0.length:Int)) h2.1 h2.2 (k':=(K63 11010010000 3)) (st':=⟨56,(Wy.p0 t0 a0++[(3,.i We),(12,.d (Qcv t0 a0 We.toNat 0))]),[]⟩) (by kernel_rfl) ?_
     refine Qh hT 4 (K63 11010010000 7) ⟨56,(Wy.p0 t0 a0++[(3,.i We),(16,.b (decide (((a0.getD We.toNat Qc.z).Key) < 0)))]),[]⟩ ?_
     by_cases c3:((a0.getD We.toNat Qc.z).Key) < 0
     ·replace H:=sT c3 H
      rw [decide_eq_true c3]
      refine Qh hT 24 (K63 1101001000 1) ⟨56,(Wy.p0 t0 a0++[(3,.i We),(39,.b true)]),[]⟩ ?_
      exact Yn true H
     replace H:=sF c3 H
     rw [decide_eq_false c3]
     refine Qh hT 2 (K63 11010010000 9) ⟨56,(Wy.p0 t0 a0++[(3,.i We),(16,.b false),(17,.d (Yf t0 a0)),(18,.i We)]),[]⟩ ?_
     refine Jf hT [0,3,16,19] (i:=We) (n:=(a0.length:Int)) h2.1 h2.2 (k':=(K63 11010010000 10)) (st':=⟨56,(Wy.p0 t0 a0++[(3,.i We),(16,.b false),(19,.d (Qcv t0 a0 We.toNat 0))]),[]⟩) (by kernel_rfl) ?_
     refine Qh hT 5 (K63 11010010000 15) ⟨56,(Wy.p0 t0 a0++[(3,.i We),(24,.b (decide (((a0.getD We.toNat Qc.z).Key) > 4095)))]),[]⟩ ?_
     by_cases c4:((a0.getD We.toNat Qc.z).Key) > 4095
     ·replace H:=sT c4 H
      rw [decide_eq_true c4]
      refine Qh hT 16 (K63 1101001000 1) ⟨56,(Wy.p0 t0 a0++[(3,.i We),(39,.b true)]),[]⟩ ?_
      exact Yn true H
     replace H:=sF c4 H
     rw [decide_eq_false c4]
     refine Qh hT 2 (K63 11010010000 17) ⟨56,(Wy.p0 t0 a0++[(3,.i We),(24,.b false),(25,.d (Yf t0 a0)),(26,.i We)]),[]⟩ ?_
     refine Jf hT [0,3,24,27] (i:=We) (n:=(a0.length:Int)) h2.1 h2.2 (k':=(K63 11010010000 18)) (st':=⟨56,(Wy.p0 t0 a0++[(3,.i We),(24,.b false),(27,.d (Qcv t0 a0 We.toNat 0))]),[]⟩) (by kernel_rfl) ?_
     refine Qh hT 5 (K63 11010010000 23) ⟨56,(Wy.p0 t0 a0++[(3,.i We),(32,.b (decide (((a0.getD We.toNat Qc.z).Val) < (-1099511627776))))]),[]⟩ ?_
     by_cases c5:((a0.getD We.toNat Qc.z).Val) < (-1099511627776)
     ·replace H:=sT c5 H
      rw [decide_eq_true c5]
      refine Qh hT 8 (K63 1101001000 1) ⟨56,(Wy.p0 t0 a0++[(3,.i We),(39,.b true)]),[]⟩ ?_
      exact Yn true H
     replace H:=sF c5 H
     rw [decide_eq_false c5]
     refine Qh hT 2 (K63 11010010000 25) ⟨56,(Wy.p0 t0 a0++[(3,.i We),(32,.b false),(33,.d (Yf t0 a0)),(34,.i We)]),[]⟩ ?_
     refine Jf hT [0,3,32,35] (i:=We) (n:=(a0.length:Int)) h2.1 h2.2 (k':=(K63 11010010000 26)) (st':=⟨56,(Wy.p0 t0 a0++[(3,.i We),(32,.b false),(35,.d (Qcv t0 a0 We.toNat 0))]),[]⟩) (by kernel_rfl) ?_
     refine Qh hT 5 (K63 1101001000 1) ⟨56,(Wy.p0 t0 a0++[(3,.i We),(39,.b (decide (((a0.getD We.toNat Qc.z).Val) > 1099511627776)))]),[]⟩ ?_
     exact Yn (decide (((a0.getD We.toNat Qc.z).Val) > 1099511627776)) H
    replace H:=sF c1 H
    rw [decide_eq_false c1]
    refine Qh hT 6 (K63 111 1) ⟨56,[(2,.b true)],[]⟩ ?_
    obtain rfl:=Yg H
    exact Yi hf hX h0 (.b true) [] an (.d (.v _))
 obtain ⟨n,H⟩:=Qbz H
 exact (L n) 0 H
abbrev Wn.p0 (t0:Bool) (a0:List Int) (a1:Int):List (Nat × AV):=[(0,.d (eL3 t0 a0)),(1,.i a1)]
theorem Wn.Wv {t0:Bool} (a0:List Int) (a1:Int) {r:List Int} (H:Wn a0 a1=some r):Yy Tryz.prog 114 [] [.d (eL3 t0 a0),.i a1] [eR3 r] (.own 0 1 0 r.length):=by
 refine Yc Tryz.func114 rfl (nt:=48) rfl (lb rfl) fun X hP h0 hX=>?_
 have hT:Xo X.P T:=hP▸tok
 have hf:X.P.funcs[114]? = some Tryz.f114:=hP▸Tryz.func114
 refine Qh hT 19 (Qd5 1111010 0) ⟨48,(Wn.p0 t0 a0 a1++[(5,.ns),(6,.b false),(7,.i 0)]),[]⟩ ?_
 refine Qc6 [0,1,5,6,7] 5 1 3 (vec (eI .i64) 0 []) (st':=⟨48,(Wn.p0 t0 a0 a1++[(5,.own 0 1 0 0),(6,.b false),(7,.i 0)]),[eR3 ([]:List Int)]⟩) (by kernel_rfl) (by kernel_rfl) ?_
 have L:∀ n,(∀ (Zx:Bool) (Qq:Int) (Qj:List Int),iter (Wn.step a0 a1) n (.l1 Zx Qq Qj)=some r->AK X 114 ((Qd5 1111010 0)) (Yt X [eR3 r] (.own 0 1 0 r.length)) ⟨48,(Wn.p0 t0 a0 a1++[(5,.own 0 1 0 Qj.length),(6,.b Zx),(7,.i Qq)]),[eR3 Qj]⟩):=by
  intro n
  induction n with
  | zero=>exact fun _ _ _ H=>Qbd H
  | succ n ih=>
   ·intro Zx Qq Qj H
    refine Qh hT 8 (Qd5 111101000 1) ⟨48,(Wn.p0 t0 a0 a1++[(5,.own 0 1 0 Qj.length),(6,.b Zx),(7,.i Qq),(11,.b (decide (Qq < (a0.length:Int))))]),[eR3 Qj]⟩ ?_
    by_cases c1:Qq < (a0.length:Int)
    ·replace H:=sT c1 H
     rw [decide_eq_true c1]
     refine Qh hT 2 (Qd5 11110100 1) ⟨48,(Wn.p0 t0 a0 a1++[(5,.own 0 1 0 Qj.length),(6,.b Zx),(7,.i Qq)]),[eR3 Qj]⟩ ?_
     refine Qh hT 7 (Qd5 1111010010000 2) ⟨48,(Wn.p0 t0 a0 a1++[(5,.own 0 1 0 Qj.length),(6,.b Zx),(7,.i Qq),(14,.d (eL3 t0 a0)),(15,.i Qq)]),[eR3 Qj]⟩ ?_
     obtain ⟨h4,H⟩:=sC H
     have Jj2:∀ (Qpt:Bool),stk (Wn.j2 a0 a1 Qq Qj Qpt) (iter (Wn.step a0 a1) n)=some r->AK X 114 ((Qd5 11110100100 1)) (Yt X [eR3 r] (.own 0 1 0 r.length)) ⟨48,(Wn.p0 t0 a0 a1++[(5,.own 0 1 0 Qj.length),(6,.b Qpt),(7,.i Qq)]),[eR3 Qj]⟩:=by
      intro Qpt H
      have Jj3:∀ (Qr5:Bool) (Qq3:Bool),stk (Wn.j3 a0 a1 Qq Qj Qr5 Qq3) (iter (Wn.step a0 a1) n)=some r->AK X 114 ((Qd5 1111010010010 1)) (Yt X [eR3 r] (.own 0 1 0 r.length)) ⟨48,(Wn.p0 t0 a0 a1++[(5,.own 0 1 0 Qj.length),(6,.b Qr5),(7,.i Qq),(29,.b Qq3)]),[eR3 Qj]⟩:=by
       intro Qr5 Qq3 H
       have Jj4:∀ (Ql4:Bool) (Qfd:List Int),stk (Wn.j4 a0 Qq Ql4 Qfd) (iter (Wn.step a0 a1) n)=some r->AK X 114 ((Qd5 111101001001 1)) (Yt X [eR3 r] (.own 0 1 0 r.length)) ⟨48,(Wn.p0 t0 a0 a1++[(5,.own 0 1 0 Qfd.length),(6,.b Ql4),(7,.i Qq)]),[eR3 Qfd]⟩:=by
        intro Ql4 Qfd H
        refine Qh hT 4 (Qd5 1111010010011 3) ⟨48,(Wn.p0 t0 a0 a1++[(6,.b Ql4),(7,.i Qq),(34,.own 0 1 0 Qfd.length),(35,.d (eL3 t0 a0)),(36,.i Qq)]),[eR3 Qfd]⟩ ?_
        refine Jf hT [0,1,6,7,34,37] (i:=Qq) (n:=(a0.length:Int)) h4.1 h4.2 (k':=(Qd5 1111010010011 4)) (st':=⟨48,(Wn.p0 t0 a0 a1++[(6,.b Ql4),(7,.i Qq),(34,.own 0 1 0 Qfd.length),(37,.d (eP3 t0 a0 Qq.toNat 0))]),[eR3 Qfd]⟩) (by kernel_rfl) ?_
        refine Qh hT 2 (Qd5 1111010010011 6) ⟨48,(Wn.p0 t0 a0 a1++[(6,.b Ql4),(7,.i Qq),(34,.own 0 1 0 Qfd.length),(39,.own 1 1 0 1)]),[eR3 Qfd,.flat false 1 3 1 (fun j=>[[.i (a0.getD Qq.toNat 0)]].getD j [])]⟩ ?_
        obtain ⟨h9,H⟩:=sC H
        refine Qcw (id:=0) (kk:=1) (by':=8) (t:=165) (e:=3) (z:=[.int .i64 0]) (dst:=some 40) (id2:=1) (e2:=3) (fz:=false) (k':=(Qd5 1111010010011 7)) hT (eI .i64) 0 Qfd (a0.getD Qq.toNat 0) [0,1,6,7,40] (by kernel_rfl) (by kernel_rfl) (by kernel_rfl) (by kernel_rfl) (by kernel_rfl) (by kernel_rfl) (by kernel_rfl) h9 (by omega) (st':=⟨48,(Wn.p0 t0 a0 a1++[(6,.b Ql4),(7,.i Qq),(40,.own 2 1 0 ((Qfd ++ [a0.getD Qq.toNat 0]).length))]),[.gone,.flat false 1 3 1 (fun j=>[[.i (a0.getD Qq.toNat 0)]].getD j []),eR3 (Qfd ++ [a0.getD Qq.toNat 0])]⟩) (by kernel_rfl) ?_
        refine Xn hT 9 (Qd5 1111010 0) [2] ⟨48,(Wn.p0 t0 a0 a1++[(5,.own 0 1 0 (Qfd ++ [a0.getD Qq.toNat 0]).length),(6,.b Ql4),(7,.i (IntKind.wrap .i64 (Qq+1)))]),[eR3 (Qfd ++ [a0.getD Qq.toNat 0])]⟩ h0 ?_
        exact ih Ql4 (IntKind.wrap .i64 (Qq+1)) (Qfd ++ [a0.getD Qq.toNat 0]) H
       by_cases c7:Qq3=true
       ·replace H:=sT c7 H
        rw [c7]
        refine Qh hT 6 (Qd5 1111010010010100 3) ⟨48,(Wn.p0 t0 a0 a1++[(7,.i Qq),(30,.own 0 1 0 Qj.length),(32,.own 1 1 0 1)]),[eR3 Qj,.flat false 1 3 1 (fun j=>[[.i a1]].getD j [])]⟩ ?_
        obtain ⟨h8,H⟩:=sC H
        refine Qcw (id:=0) (kk:=1) (by':=8) (t:=165) (e:=3) (z:=[.int .i64 0]) (dst:=some 33) (id2:=1) (e2:=3) (fz:=false) (k':=(Qd5 1111010010010100 4)) hT (eI .i64) 0 Qj a1 [0,1,7,33] (by kernel_rfl) (by kernel_rfl) (by kernel_rfl) (by kernel_rfl) (by kernel_rfl) (by kernel_rfl) (by kernel_rfl) h8 (by omega) (st':=⟨48,(Wn.p0 t0 a0 a1++[(7,.i Qq),(33,.own 2 1 0 ((Qj ++ [a1]).length))]),[.gone,.flat false 1 3 1 (fun j=>[[.i a1]].getD j []),eR3 (Qj ++ [a1])]⟩) (by kernel_rfl) ?_
        refine Xn hT 5 (Qd5 111101001001 1) [2] ⟨48,(Wn.p0 t0 a0 a1++[(5,.own 0 1 0 (Qj ++ [a1]).length),(6,.b true),(7,.i Qq)]),[eR3 (Qj ++ [a1])]⟩ h0 ?_
        exact Jj4 true (Qj ++ [a1]) H
       replace H:=sF c7 H
       rw [Zz c7]
       refine Qh hT 2 (Qd5 111101001001 1) ⟨48,(Wn.p0 t0 a0 a1++[(5,.own 0 1 0 Qj.length),(6,.b Qr5),(7,.i Qq)]),[eR3 Qj]⟩ ?_
       exact Jj4 Qr5 Qj H
      refine Qh hT 6 (Qd5 11110100100100 3) ⟨48,(Wn.p0 t0 a0 a1++[(5,.own 0 1 0 Qj.length),(6,.b Qpt),(7,.i Qq),(22,.b (!Qpt))]),[eR3 Qj]⟩ ?_
      by_cases c6:Qpt=true
      ·replace H:=sT c6 H
       rw [c6]
       refine Qh hT 8 (Qd5 1111010010010 1) ⟨48,(Wn.p0 t0 a0 a1++[(5,.own 0 1 0 Qj.length),(6,.b true),(7,.i Qq),(29,.b false)]),[eR3 Qj]⟩ ?_
       exact Jj3 true false H
      replace H:=sF c6 H
      rw [Zz c6]
      refine Qh hT 2 (Qd5 11110100100100 5) ⟨48,(Wn.p0 t0 a0 a1++[(5,.own 0 1 0 Qj.length),(6,.b false),(7,.i Qq),(22,.b true),(23,.d (eL3 t0 a0)),(24,.i Qq)]),[eR3 Qj]⟩ ?_
      refine Jf hT [0,1,5,6,7,22,25] (i:=Qq) (n:=(a0.length:Int)) h4.1 h4.2 (k':=(Qd5 11110100100100 6)) (st':=⟨48,(Wn.p0 t0 a0 a1++[(5,.own 0 1 0 Qj.length),(6,.b false),(7,.i Qq),(22,.b true),(25,.d (eP3 t0 a0 Qq.toNat 0))]),[eR3 Qj]⟩) (by kernel_rfl) ?_
      refine Qh hT 5 (Qd5 1111010010010 1) ⟨48,(Wn.p0 t0 a0 a1++[(5,.own 0 1 0 Qj.length),(6,.b false),(7,.i Qq),(29,.b (decide ((a0.getD Qq.toNat 0) > a1)))]),[eR3 Qj]⟩ ?_
      exact Jj3 false (decide ((a0.getD Qq.toNat 0) > a1)) H
     refine Jf hT [0,1,5,6,7,16] (i:=Qq) (n:=(a0.length:Int)) h4.1 h4.2 (k':=(Qd5 1111010010000 3)) (st':=⟨48,(Wn.p0 t0 a0 a1++[(5,.own 0 1 0 Qj.length),(6,.b Zx),(7,.i Qq),(16,.d (eP3 t0 a0 Qq.toNat 0))]),[eR3 Qj]⟩) (by kernel_rfl) ?_
     refine Qh hT 4 (Qd5 111101001000 1) ⟨48,(Wn.p0 t0 a0 a1++[(5,.own 0 1 0 Qj.length),(6,.b Zx),(7,.i Qq),(19,.b ((a0.getD Qq.toNat 0) == a1))]),[eR3 Qj]⟩ ?_
     by_cases c5:(a0.getD Qq.toNat 0)=a1
     ·replace H:=sT c5 H
      rw [eqT c5]
      refine Qh hT 4 (Qd5 11110100100 1) ⟨48,(Wn.p0 t0 a0 a1++[(5,.own 0 1 0 Qj.length),(6,.b true),(7,.i Qq)]),[eR3 Qj]⟩ ?_
      exact Jj2 true H
     replace H:=sF c5 H
     rw [eqF c5]
     refine Qh hT 2 (Qd5 11110100100 1) ⟨48,(Wn.p0 t0 a0 a1++[(5,.own 0 1 0 Qj.length),(6,.b Zx),(7,.i Qq)]),[eR3 Qj]⟩ ?_
     exact Jj2 Zx H
    replace H:=sF c1 H
    have Yn:∀ (Qds:List Int),stk (Wn.j1 Qds) (iter (Wn.step a0 a1) n)=some r->AK X 114 ((Qd5 11111 1)) (Yt X [eR3 r] (.own 0 1 0 r.length)) ⟨48,[(5,.own 0 1 0 Qds.length)],[eR3 Qds]⟩:=by
     intro Qds H
     refine Qh hT 5 (Qd5 111111 1) ⟨48,[(4,.own 0 1 0 Qds.length)],[eR3 Qds]⟩ ?_
     obtain rfl:=Yg H
     exact Yi hf hX h0 (.own 0 1 0 Qds.length) [0] (ac (Qa1 (nlI .i64)) an) (.own _ _ _ _)
    rw [decide_eq_false c1]
    refine Qh hT 8 (Qd5 111110 1) ⟨48,[(1,.i a1),(5,.own 0 1 0 Qj.length),(42,.b (!Zx))],[eR3 Qj]⟩ ?_
    by_cases c2:Zx=true
    ·replace H:=sT c2 H
     rw [c2]
     refine Qh hT 2 (Qd5 11111 1) ⟨48,[(5,.own 0 1 0 Qj.length)],[eR3 Qj]⟩ ?_
     exact Yn Qj H
    replace H:=sF c2 H
    rw [Zz c2]
    refine Qh hT 5 (Qd5 11111010 3) ⟨48,[(43,.own 0 1 0 Qj.length),(45,.own 1 1 0 1)],[eR3 Qj,.flat false 1 3 1 (fun j=>[[.i a1]].getD j [])]⟩ ?_
    obtain ⟨h3,H⟩:=sC H
    refine Qcw (id:=0) (kk:=1) (by':=8) (t:=165) (e:=3) (z:=[.int .i64 0]) (dst:=some 46) (id2:=1) (e2:=3) (fz:=false) (k':=(Qd5 11111010 4)) hT (eI .i64) 0 Qj a1 [46] (by kernel_rfl) (by kernel_rfl) (by kernel_rfl) (by kernel_rfl) (by kernel_rfl) (by kernel_rfl) (by kernel_rfl) h3 (by omega) (st':=⟨48,[(46,.own 2 1 0 ((Qj ++ [a1]).length))],[.gone,.flat false 1 3 1 (fun j=>[[.i a1]].getD j []),eR3 (Qj ++ [a1])]⟩) (by kernel_rfl) ?_
    refine Xn hT 2 (Qd5 11111 1) [2] ⟨48,[(5,.own 0 1 0 (Qj ++ [a1]).length)],[eR3 (Qj ++ [a1])]⟩ h0 ?_
    exact Yn (Qj ++ [a1]) H
 refine Qhm [0] ⟨48,(Wn.p0 t0 a0 a1++[(5,.own 0 1 0 ([]:List Int).length),(6,.b false),(7,.i 0)]),[eR3 ([]:List Int)]⟩ h0 ?_
 obtain ⟨n,H⟩:=Qbz H
 exact (L n) false 0 ([]:List Int) H
abbrev Yh.p0 (t0:Bool) (a0:List Qc):List (Nat × AV):=[(0,.d (Yf t0 a0)),(3,.ptr 0 0 0 0)]
theorem Yh.Wv {t0:Bool} (a0:List Qc) (a1:Qk) {r:List Int} (H:Yh a0 a1=some r):Yy Tryz.prog 90 [] [.d (Yf t0 a0),.d (Qcb a1)] [eR3 r] (.own 0 1 0 r.length):=by
 refine Yc Tryz.func90 rfl (nt:=37) rfl (lb rfl) fun X hP h0 hX=>?_
 have hT:Xo X.P T:=hP▸tok
 have hf:X.P.funcs[90]? = some Tryz.f90:=hP▸Tryz.func90
 refine Qh hT 16 (K90 111010 0) ⟨37,(Yh.p0 t0 a0++[(5,.ns),(6,.i 0)]),[.box 48 (Xx a1)]⟩ ?_
 refine Qc6 [0,3,5,6] 5 1 3 (vec (eI .i64) 0 []) (st':=⟨37,(Yh.p0 t0 a0++[(5,.own 1 1 0 0),(6,.i 0)]),[.box 48 (Xx a1),eR3 ([]:List Int)]⟩) (by kernel_rfl) (by kernel_rfl) ?_
 have L:∀ n,(∀ (Zx:Int) (Wl:List Int),iter (Yh.step a0 a1) n (.l1 Zx Wl)=some r->AK X 90 ((K90 111010 0)) (Yt X [eR3 r] (.own 0 1 0 r.length)) ⟨37,(Yh.p0 t0 a0++[(5,.own 1 1 0 Wl.length),(6,.i Zx)]),[.box 48 (Xx a1),eR3 Wl]⟩)/\(∀ (Yq:Int) (Jj:List Int),iter (Yh.step a0 a1) n (.l2 Yq Jj)=some r->AK X 90 ((K90 1111010 0)) (Yt X [eR3 r] (.own 0 1 0 r.length)) ⟨37,[(3,.ptr 0 0 0 0),(5,.own 1 1 0 Jj.length),(7,.i Yq)],[.box 48 (Xx a1),eR3 Jj]⟩):=by
  intro n
  induction n with
  | zero=>exact ⟨fun _ _ H=>Qbd H,fun _ _ H=>Qbd H⟩
  | succ n ih=>
   refine ⟨?_, ?_⟩
   ·intro Zx Wl H
    refine Qh hT 8 (K90 11101000 1) ⟨37,(Yh.p0 t0 a0++[(5,.own 1 1 0 Wl.length),(6,.i Zx),(11,.b (decide (Zx < (a0.length:Int))))]),[.box 48 (Xx a1),eR3 Wl]⟩ ?_
    by_cases c1:Zx < (a0.length:Int)
    ·replace H:=sT c1 H
     rw [decide_eq_true c1]
     refine Qh hT 2 (K90 1110100 1) ⟨37,(Yh.p0 t0 a0++[(5,.own 1 1 0 Wl.length),(6,.i Zx)]),[.box 48 (Xx a1),eR3 Wl]⟩ ?_
     refine Qh hT 6 (K90 1110100100 3) ⟨37,(Yh.p0 t0 a0++[(6,.i Zx),(14,.own 1 1 0 Wl.length),(15,.d (Yf t0 a0)),(16,.i Zx)]),[.box 48 (Xx a1),eR3 Wl]⟩ ?_
     obtain ⟨h2,H⟩:=sC H
     refine Jf hT [0,3,6,14,17] (i:=Zx) (n:=(a0.length:Int)) h2.1 h2.2 (k':=(K90 1110100100 4)) (st':=⟨37,(Yh.p0 t0 a0++[(6,.i Zx),(14,.own 1 1 0 Wl.length),(17,.d (Qcv t0 a0 Zx.toNat 0))]),[.box 48 (Xx a1),eR3 Wl]⟩) (by kernel_rfl) ?_
     refine Qh hT 2 (K90 1110100100 6) ⟨37,(Yh.p0 t0 a0++[(6,.i Zx),(14,.own 1 1 0 Wl.length),(19,.i ((a0.getD Zx.toNat Qc.z).Key))]),[.box 48 (Xx a1),eR3 Wl]⟩ ?_
     obtain ⟨v1,h3,H⟩:=sbC H
     refine Ws (Yk:=[.own 1 1 0 Wl.length,.i ((a0.getD Zx.toNat Qc.z).Key)]) (dst:=some 20) (k':=(K90 1110100100 7)) [0,3,6,20] [] hP Qsl (Wn.Wv (t0:=false) Wl ((a0.getD Zx.toNat Qc.z).Key) h3) (by kernel_rfl) (Qz _) (.cons (.Qek (ty:=3) (by kernel_rfl) rfl) (.cons (Qp _) .nil)) (st':=⟨37,(Yh.p0 t0 a0++[(6,.i Zx),(20,.own 2 1 0 v1.length)]),[.box 48 (Xx a1),eR3 Wl,eR3 v1]⟩) (by kernel_rfl) ?_
     refine Xn hT 9 (K90 111010 0) [0,2] ⟨37,(Yh.p0 t0 a0++[(5,.own 1 1 0 v1.length),(6,.i (IntKind.wrap .i64 (Zx+1)))]),[.box 48 (Xx a1),eR3 v1]⟩ h0 ?_
     exact ih.1 (IntKind.wrap .i64 (Zx+1)) v1 H
    replace H:=sF c1 H
    rw [decide_eq_false c1]
    refine Qh hT 9 (K90 1111010 0) ⟨37,[(3,.ptr 0 0 0 0),(5,.own 1 1 0 Wl.length),(7,.i 0)],[.box 48 (Xx a1),eR3 Wl]⟩ ?_
    exact ih.2 0 Wl H
   intro Yq Jj H
   refine Qh hT 9 (K90 111101000 1) ⟨37,[(3,.ptr 0 0 0 0),(5,.own 1 1 0 Jj.length),(7,.i Yq),(25,.b (decide (Yq < (a1.Pairs.length:Int))))],[.box 48 (Xx a1),eR3 Jj]⟩ ?_
   by_cases c4:Yq < (a1.Pairs.length:Int)
   ·replace H:=sT c4 H
    rw [decide_eq_true c4]
    refine Qh hT 2 (K90 11110100 1) ⟨37,[(3,.ptr 0 0 0 0),(5,.own 1 1 0 Jj.length),(7,.i Yq)],[.box 48 (Xx a1),eR3 Jj]⟩ ?_
    refine Qh hT 7 (K90 11110100100 4) ⟨37,[(3,.ptr 0 0 0 0),(7,.i Yq),(28,.own 1 1 0 Jj.length),(30,.d (Yf true a1.Pairs)),(31,.i Yq)],[.box 48 (Xx a1),eR3 Jj]⟩ ?_
    obtain ⟨h5,H⟩:=sC H
    refine Jf hT [3,7,28,32] (i:=Yq) (n:=(a1.Pairs.length:Int)) h5.1 h5.2 (k':=(K90 11110100100 5)) (st':=⟨37,[(3,.ptr 0 0 0 0),(7,.i Yq),(28,.own 1 1 0 Jj.length),(32,.d (Qcv true a1.Pairs Yq.toNat 0))],[.box 48 (Xx a1),eR3 Jj]⟩) (by kernel_rfl) ?_
    refine Qh hT 2 (K90 11110100100 7) ⟨37,[(3,.ptr 0 0 0 0),(7,.i Yq),(28,.own 1 1 0 Jj.length),(34,.i ((a1.Pairs.getD Yq.toNat Qc.z).Key))],[.box 48 (Xx a1),eR3 Jj]⟩ ?_
    obtain ⟨v2,h6,H⟩:=sbC H
    refine Ws (Yk:=[.own 1 1 0 Jj.length,.i ((a1.Pairs.getD Yq.toNat Qc.z).Key)]) (dst:=some 35) (k':=(K90 11110100100 8)) [3,7,35] [] hP Qsl (Wn.Wv (t0:=false) Jj ((a1.Pairs.getD Yq.toNat Qc.z).Key) h6) (by kernel_rfl) (Qz _) (.cons (.Qek (ty:=3) (by kernel_rfl) rfl) (.cons (Qp _) .nil)) (st':=⟨37,[(3,.ptr 0 0 0 0),(7,.i Yq),(35,.own 2 1 0 v2.length)],[.box 48 (Xx a1),eR3 Jj,eR3 v2]⟩) (by kernel_rfl) ?_
    refine Xn hT 9 (K90 1111010 0) [0,2] ⟨37,[(3,.ptr 0 0 0 0),(5,.own 1 1 0 v2.length),(7,.i (IntKind.wrap .i64 (Yq+1)))],[.box 48 (Xx a1),eR3 v2]⟩ h0 ?_
    exact ih.2 (IntKind.wrap .i64 (Yq+1)) v2 H
   replace H:=sF c4 H
   rw [decide_eq_false c4]
   refine Qh hT 7 (K90 11111 1) ⟨37,[(4,.own 1 1 0 Jj.length)],[.box 48 (Xx a1),eR3 Jj]⟩ ?_
   obtain rfl:=Yg H
   exact Yi hf hX h0 (.own 1 1 0 Jj.length) [1] (ac (Qa1 (nlI .i64)) an) (.own _ _ _ _)
 refine Qhm [0,1] ⟨37,(Yh.p0 t0 a0++[(5,.own 1 1 0 ([]:List Int).length),(6,.i 0)]),[.box 48 (Xx a1),eR3 ([]:List Int)]⟩ h0 ?_
 obtain ⟨n,H⟩:=Qbz H
 exact (L n).1 0 ([]:List Int) H
abbrev Zi.p0 (t0:Bool) (a0:List Qc) (a1:Int):List (Nat × AV):=[(0,.d (Yf t0 a0)),(1,.i a1),(4,.ptr 0 0 0 0)]
theorem Zi.Wv {t0:Bool} (a0:List Qc) (a1:Int) {r:Xf} (H:Zi a0 a1=some r):Yy Tryz.prog 36 [] [.d (Yf t0 a0),.i a1] [] (.d (Qg4 r)):=by
 refine Yc Tryz.func36 rfl (nt:=26) rfl (lb rfl) fun X hP h0 hX=>?_
 have hT:Xo X.P T:=hP▸tok
 have hf:X.P.funcs[36]? = some Tryz.f36:=hP▸Tryz.func36
 refine Qh hT 11 (K36 11010 0) ⟨26,(Zi.p0 t0 a0 a1++[(5,.i 0)]),[.box 50 [.i 0,.b false]]⟩ ?_
 have L:∀ n,(∀ (Xb:Int),iter (Zi.step a0 a1) n (.l1 Xb)=some r->AK X 36 ((K36 11010 0)) (Yt X [] (.d (Qg4 r))) ⟨26,(Zi.p0 t0 a0 a1++[(5,.i Xb)]),[.box 50 [.i 0,.b false]]⟩):=by
  intro n
  induction n with
  | zero=>exact fun _ H=>Qbd H
  | succ n ih=>
   ·intro Xb H
    refine Qh hT 8 (K36 1101000 1) ⟨26,(Zi.p0 t0 a0 a1++[(5,.i Xb),(9,.b (decide (Xb < (a0.length:Int))))]),[.box 50 [.i 0,.b false]]⟩ ?_
    by_cases c1:Xb < (a0.length:Int)
    ·replace H:=sT c1 H
     rw [decide_eq_true c1]
     refine Qh hT 2 (K36 110100 1) ⟨26,(Zi.p0 t0 a0 a1++[(5,.i Xb)]),[.box 50 [.i 0,.b false]]⟩ ?_
     refine Qh hT 6 (K36 1101001000 2) ⟨26,(Zi.p0 t0 a0 a1++[(5,.i Xb),(12,.d (Yf t0 a0)),(13,.i Xb)]),[.box 50 [.i 0,.b false]]⟩ ?_
     obtain ⟨h2,H⟩:=sC H
     refine Jf hT [0,1,4,5,14] (i:=Xb) (n:=(a0.length:Int)) h2.1 h2.2 (k':=(K36 1101001000 3)) (st':=⟨26,(Zi.p0 t0 a0 a1++[(5,.i Xb),(14,.d (Qcv t0 a0 Xb.toNat 0))]),[.box 50 [.i 0,.b false]]⟩) (by kernel_rfl) ?_
     refine Qh hT 5 (K36 110100100 1) ⟨26,(Zi.p0 t0 a0 a1++[(5,.i Xb),(18,.b (((a0.getD Xb.toNat Qc.z).Key) == a1))]),[.box 50 [.i 0,.b false]]⟩ ?_
     by_cases c3:((a0.getD Xb.toNat Qc.z).Key)=a1
     ·replace H:=sT c3 H
      rw [eqT c3]
      refine Qh hT 5 (K36 110100100100 2) ⟨26,[(4,.ptr 0 0 0 0),(19,.d (Yf t0 a0)),(20,.i Xb)],[.box 50 [.i 0,.b false]]⟩ ?_
      refine Jf hT [4,21] (i:=Xb) (n:=(a0.length:Int)) h2.1 h2.2 (k':=(K36 110100100100 3)) (st':=⟨26,[(4,.ptr 0 0 0 0),(21,.d (Qcv t0 a0 Xb.toNat 0))],[.box 50 [.i 0,.b false]]⟩) (by kernel_rfl) ?_
      refine Qh hT 5 (K36 11010010010 1) ⟨26,[(4,.ptr 0 0 0 0)],[.box 50 [.i ((a0.getD Xb.toNat Qc.z).Val),.b true]]⟩ ?_
      obtain rfl:=Yg H
      exact Qdz hT hf hX (av:=.d (.agg [.i ((a0.getD Xb.toNat Qc.z).Val),.b true])) (by kernel_rfl) [] (Jh (by kernel_rfl)) (by decide) (by rw [h0];rfl) (by kernel_rfl) an (.d (.agg (Xf.nl _)))
     replace H:=sF c3 H
     rw [eqF c3]
     refine Qh hT 3 (K36 1101001 1) ⟨26,(Zi.p0 t0 a0 a1++[(5,.i Xb)]),[.box 50 [.i 0,.b false]]⟩ ?_
     refine Qh hT 6 (K36 11010 0) ⟨26,(Zi.p0 t0 a0 a1++[(5,.i (IntKind.wrap .i64 (Xb+1)))]),[.box 50 [.i 0,.b false]]⟩ ?_
     exact ih (IntKind.wrap .i64 (Xb+1)) H
    replace H:=sF c1 H
    rw [decide_eq_false c1]
    refine Qh hT 7 (K36 111 1) ⟨26,[(4,.ptr 0 0 0 0)],[.box 50 [.i 0,.b false]]⟩ ?_
    obtain rfl:=Yg H
    exact Qdz hT hf hX (av:=.d (.agg [.i 0,.b false])) (by kernel_rfl) [] (Jh (by kernel_rfl)) (by decide) (by rw [h0];rfl) (by kernel_rfl) an (.d (.agg (Xf.nl _)))
 obtain ⟨n,H⟩:=Qbz H
 exact (L n) 0 H
abbrev Xv.p0 (t0:Bool) (a0:List Qi) (a1:Int):List (Nat × AV):=[(0,.d (Qcc t0 a0)),(1,.i a1)]
theorem Xv.Wv {t0:Bool} (a0:List Qi) (a1:Int) {r:Bool} (H:Xv a0 a1=some r):Yy Tryz.prog 91 [] [.d (Qcc t0 a0),.i a1] [] (.b r):=by
 refine Yc Tryz.func91 rfl (nt:=35) rfl (lb rfl) fun X hP h0 hX=>?_
 have hT:Xo X.P T:=hP▸tok
 have hf:X.P.funcs[91]? = some Tryz.f91:=hP▸Tryz.func91
 refine Qh hT 11 (K91 11010 0) ⟨35,(Xv.p0 t0 a0 a1++[(5,.i 0)]),[]⟩ ?_
 have L:∀ n,(∀ (Xb:Int),iter (Xv.step a0 a1) n (.l1 Xb)=some r->AK X 91 ((K91 11010 0)) (Yt X [] (.b r)) ⟨35,(Xv.p0 t0 a0 a1++[(5,.i Xb)]),[]⟩):=by
  intro n
  induction n with
  | zero=>exact fun _ H=>Qbd H
  | succ n ih=>
   ·intro Xb H
    refine Qh hT 8 (K91 1101000 1) ⟨35,(Xv.p0 t0 a0 a1++[(5,.i Xb),(9,.b (decide (Xb < (a0.length:Int))))]),[]⟩ ?_
    by_cases c1:Xb < (a0.length:Int)
    ·replace H:=sT c1 H
     rw [decide_eq_true c1]
     refine Qh hT 2 (K91 110100 1) ⟨35,(Xv.p0 t0 a0 a1++[(5,.i Xb)]),[]⟩ ?_
     refine Qh hT 6 (K91 1101001000 2) ⟨35,(Xv.p0 t0 a0 a1++[(5,.i Xb),(12,.d (Qcc t0 a0)),(13,.i Xb)]),[]⟩ ?_
     obtain ⟨h2,H⟩:=sC H
     have Yn:∀ (Qfo:Bool),stk (Xv.j1 Xb Qfo) (iter (Xv.step a0 a1) n)=some r->AK X 91 ((K91 110100100 1)) (Yt X [] (.b r)) ⟨35,(Xv.p0 t0 a0 a1++[(5,.i Xb),(34,.b Qfo)]),[]⟩:=by
      intro Qfo H
      by_cases c5:Qfo=true
      ·replace H:=sT c5 H
       rw [c5]
       refine Qh hT 5 (K91 11010010010 1) ⟨35,[(4,.b true)],[]⟩ ?_
       obtain rfl:=Yg H
       exact Yi hf hX h0 (.b true) [] an (.d (.v _))
      replace H:=sF c5 H
      rw [Zz c5]
      refine Qh hT 3 (K91 1101001 1) ⟨35,(Xv.p0 t0 a0 a1++[(5,.i Xb)]),[]⟩ ?_
      refine Qh hT 6 (K91 11010 0) ⟨35,(Xv.p0 t0 a0 a1++[(5,.i (IntKind.wrap .i64 (Xb+1)))]),[]⟩ ?_
      exact ih (IntKind.wrap .i64 (Xb+1)) H
     refine Jf hT [0,1,5,14] (i:=Xb) (n:=(a0.length:Int)) h2.1 h2.2 (k':=(K91 1101001000 3)) (st':=⟨35,(Xv.p0 t0 a0 a1++[(5,.i Xb),(14,.d (Qmt t0 a0 Xb.toNat 0))]),[]⟩) (by kernel_rfl) ?_
     refine Qh hT 1 (K91 1101001000 4) ⟨35,(Xv.p0 t0 a0 a1++[(5,.i Xb),(15,.d (Qlo (a0.getD Xb.toNat Qi.z)))]),[]⟩ ?_
     refine Ws (Yk:=[.d (Qlo (a0.getD Xb.toNat Qi.z))]) (dst:=some 16) (k':=(K91 1101001000 5)) [0,1,5,16] [] hP Qkk (Ja.Wv (a0.getD Xb.toNat Qi.z)) (by kernel_rfl) (Qz _) (.cons (Qp _) .nil) (st':=⟨35,(Xv.p0 t0 a0 a1++[(5,.i Xb),(16,.b (Ja (a0.getD Xb.toNat Qi.z)))]),[]⟩) (by kernel_rfl) ?_
     refine Qh hT 1 (K91 1101001000 6) ⟨35,(Xv.p0 t0 a0 a1++[(5,.i Xb),(17,.b (Ja (a0.getD Xb.toNat Qi.z)))]),[]⟩ ?_
     by_cases c3:(Ja (a0.getD Xb.toNat Qi.z))=true
     ·replace H:=sT c3 H
      rw [c3]
      refine Qh hT 3 (K91 1101001000 9) ⟨35,(Xv.p0 t0 a0 a1++[(5,.i Xb),(17,.b true),(18,.i a1),(19,.d (Qcc t0 a0)),(20,.i Xb)]),[]⟩ ?_
      refine Jf hT [0,1,5,17,18,21] (i:=Xb) (n:=(a0.length:Int)) h2.1 h2.2 (k':=(K91 1101001000 10)) (st':=⟨35,(Xv.p0 t0 a0 a1++[(5,.i Xb),(17,.b true),(18,.i a1),(21,.d (Qmt t0 a0 Xb.toNat 0))]),[]⟩) (by kernel_rfl) ?_
      refine Qh hT 5 (K91 1101001000 15) ⟨35,(Xv.p0 t0 a0 a1++[(5,.i Xb),(26,.b (decide (a1>=((a0.getD Xb.toNat Qi.z).Lo))))]),[]⟩ ?_
      by_cases c4:a1>=((a0.getD Xb.toNat Qi.z).Lo)
      ·replace H:=sT c4 H
       rw [decide_eq_true c4]
       refine Qh hT 3 (K91 1101001000 18) ⟨35,(Xv.p0 t0 a0 a1++[(5,.i Xb),(26,.b true),(27,.i a1),(28,.d (Qcc t0 a0)),(29,.i Xb)]),[]⟩ ?_
       refine Jf hT [0,1,5,26,27,30] (i:=Xb) (n:=(a0.length:Int)) h2.1 h2.2 (k':=(K91 1101001000 19)) (st':=⟨35,(Xv.p0 t0 a0 a1++[(5,.i Xb),(26,.b true),(27,.i a1),(30,.d (Qmt t0 a0 Xb.toNat 0))]),[]⟩) (by kernel_rfl) ?_
       refine Qh hT 5 (K91 110100100 1) ⟨35,(Xv.p0 t0 a0 a1++[(5,.i Xb),(34,.b (decide (a1 < ((a0.getD Xb.toNat Qi.z).Hi))))]),[]⟩ ?_
       exact Yn (decide (a1 < ((a0.getD Xb.toNat Qi.z).Hi))) H
      replace H:=sF c4 H
      rw [decide_eq_false c4]
      refine Qh hT 9 (K91 110100100 1) ⟨35,(Xv.p0 t0 a0 a1++[(5,.i Xb),(34,.b false)]),[]⟩ ?_
      exact Yn false H
     replace H:=sF c3 H
     rw [Zz c3]
     refine Qh hT 18 (K91 110100100 1) ⟨35,(Xv.p0 t0 a0 a1++[(5,.i Xb),(34,.b false)]),[]⟩ ?_
     exact Yn false H
    replace H:=sF c1 H
    rw [decide_eq_false c1]
    refine Qh hT 6 (K91 111 1) ⟨35,[(4,.b false)],[]⟩ ?_
    obtain rfl:=Yg H
    exact Yi hf hX h0 (.b false) [] an (.d (.v _))
 obtain ⟨n,H⟩:=Qbz H
 exact (L n) 0 H
abbrev Qt.p0 (a0:List Qc) (t2:Bool) (a2:List Qi):List (Nat × AV):=[(0,.d (Yf true a0)),(2,.d (Qcc t2 a2)),(4,.ptr 0 0 0 0)]
theorem Qt.Wv {t2:Bool} (a0:List Qc) (a1:Qk) (a2:List Qi) {r:(List Qc) × Bool} (H:Qt a0 a1 a2=some r):Yy Tryz.prog 65 [] [.d (Yf true a0),.d (Qcb a1),.d (Qcc t2 a2)] [] (.Qn [.d (Yf true r.1),.b r.2]):=by
 refine Yc Tryz.func65 rfl (nt:=83) rfl (lb rfl) fun X hP h0 hX=>?_
 have hT:Xo X.P T:=hP▸tok
 have hf:X.P.funcs[65]? = some Tryz.f65:=hP▸Tryz.func65
 refine Qh hT 10 (K65 1100 1) ⟨83,(Qt.p0 a0 t2 a2++[(14,.d (Yf true a0))]),[.box 48 (Xx a1)]⟩ ?_
 obtain ⟨v1,h1,H⟩:=ibC H
 have Yn:∀ (Qmp:Bool),(Qt.j1 a0 a1 a2 Qmp)=some r->AK X 65 ((K65 110 1)) (Yt X [] (.Qn [.d (Yf true r.1),.b r.2])) ⟨83,(Qt.p0 a0 t2 a2++[(26,.b Qmp)]),[.box 48 (Xx a1)]⟩:=by
  intro Qmp H
  by_cases c6:Qmp=true
  ·replace H:=iT c6 H
   rw [c6]
   refine Qh hT 6 (K65 11010 1) ⟨83,[(6,.ns),(7,.b false)],[.box 48 (Xx a1)]⟩ ?_
   refine Qdt (av:=.d (.v (.slice none 0 0))) (y:=Yf true ([]:List Qc)) [6,7] 6 (st':=⟨83,[(6,.d (Yf true ([]:List Qc))),(7,.b false)],[.box 48 (Xx a1)]⟩) (by kernel_rfl) (.nil _) (by kernel_rfl) ?_
   obtain rfl:=Yg H
   exact Yi hf hX h0 (.Qn [.d (Yf true ([]:List Qc)),.b false]) [] an (.Qn (.cons (.d (.sl fun _ _=>Qc.nl _)) (.cons (.d (.v _)) .nil)))
  replace H:=iF c6 H
  rw [Zz c6]
  refine Qh hT 2 (K65 11 1) ⟨83,(Qt.p0 a0 t2 a2),[.box 48 (Xx a1)]⟩ ?_
  refine Qh hT 4 (K65 1110 2) ⟨83,(Qt.p0 a0 t2 a2++[(27,.d (Yf true a0)),(28,.d (Qcb a1))]),[.box 48 (Xx a1)]⟩ ?_
  obtain ⟨v4,h7,H⟩:=ibC H
  refine Ws (Yk:=[.d (Yf true a0),.d (Qcb a1)]) (dst:=some 29) (k':=(K65 1110 3)) [0,2,4,29] [] hP Wcu (Yh.Wv (t0:=true) a0 a1 h7) (by kernel_rfl) (Qz _) (.cons (Qp _) (.cons (Qp _) .nil)) (st':=⟨83,(Qt.p0 a0 t2 a2++[(29,.own 1 1 0 v4.length)]),[.box 48 (Xx a1),eR3 v4]⟩) (by kernel_rfl) ?_
  refine Qh hT 13 (K65 11111010 0) ⟨83,(Qt.p0 a0 t2 a2++[(8,.own 1 1 0 v4.length),(9,.ns),(10,.i 0)]),[.box 48 (Xx a1),eR3 v4]⟩ ?_
  refine Qc6 [0,2,4,8,9,10] 9 2 98 (vec Qc.e Qc.z []) (st':=⟨83,(Qt.p0 a0 t2 a2++[(8,.own 1 1 0 v4.length),(9,.own 2 2 0 0),(10,.i 0)]),[.box 48 (Xx a1),eR3 v4,Qbu ([]:List Qc)]⟩) (by kernel_rfl) (by kernel_rfl) ?_
  have L:∀ n,(∀ (Qs:Int) (Xz:List Qc),iter (Qt.step a0 a1 a2 v4) n (.l1 Qs Xz)=some r->AK X 65 ((K65 11111010 0)) (Yt X [] (.Qn [.d (Yf true r.1),.b r.2])) ⟨83,(Qt.p0 a0 t2 a2++[(8,.own 1 1 0 v4.length),(9,.own 2 2 0 Xz.length),(10,.i Qs)]),[.box 48 (Xx a1),eR3 v4,Qbu Xz]⟩):=by
   intro n
   induction n with
   | zero=>exact fun _ _ H=>Qbd H
   | succ n ih=>
    ·intro Qs Xz H
     refine Qh hT 8 (K65 1111101000 1) ⟨83,(Qt.p0 a0 t2 a2++[(8,.own 1 1 0 v4.length),(9,.own 2 2 0 Xz.length),(10,.i Qs),(33,.b (decide (Qs < (v4.length:Int))))]),[.box 48 (Xx a1),eR3 v4,Qbu Xz]⟩ ?_
     by_cases c8:Qs < (v4.length:Int)
     ·replace H:=sT c8 H
      rw [decide_eq_true c8]
      refine Qh hT 2 (K65 111110100 1) ⟨83,(Qt.p0 a0 t2 a2++[(8,.own 1 1 0 v4.length),(9,.own 2 2 0 Xz.length),(10,.i Qs)]),[.box 48 (Xx a1),eR3 v4,Qbu Xz]⟩ ?_
      refine Qh hT 7 (K65 1111101001000 3) ⟨83,(Qt.p0 a0 t2 a2++[(8,.own 1 1 0 v4.length),(9,.own 2 2 0 Xz.length),(10,.i Qs),(36,.d (Yf true a0)),(37,.own 1 1 0 v4.length),(38,.i Qs)]),[.box 48 (Xx a1),eR3 v4,Qbu Xz]⟩ ?_
      obtain ⟨h9,H⟩:=sC H
      refine Jf hT [0,2,4,8,9,10,36,39] (i:=Qs) (n:=(v4.length:Int)) h9.1 h9.2 (k':=(K65 1111101001000 4)) (st':=⟨83,(Qt.p0 a0 t2 a2++[(8,.own 1 1 0 v4.length),(9,.own 2 2 0 Xz.length),(10,.i Qs),(36,.d (Yf true a0)),(39,.ptr 1 1 Qs.toNat 0)]),[.box 48 (Xx a1),eR3 v4,Qbu Xz]⟩) (by kernel_rfl) ?_
      refine Qni hT [0,2,4,8,9,10,36,40] (i:=Qs.toNat) (n:=v4.length) (ltN h9.1 h9.2) (k':=(K65 1111101001000 5)) (st':=⟨83,(Qt.p0 a0 t2 a2++[(8,.own 1 1 0 v4.length),(9,.own 2 2 0 Xz.length),(10,.i Qs),(36,.d (Yf true a0)),(40,.i (v4.getD Qs.toNat 0))]),[.box 48 (Xx a1),eR3 v4,Qbu Xz]⟩) (by kernel_rfl) ?_
      obtain ⟨v5,h10,H⟩:=sbC H
      refine Ws (Yk:=[.d (Yf true a0),.i (v4.getD Qs.toNat 0)]) (dst:=some 41) (k':=(K65 1111101001000 6)) [0,2,4,8,9,10,41] [] hP Quc (Zi.Wv (t0:=true) a0 (v4.getD Qs.toNat 0) h10) (by kernel_rfl) (Qz _) (.cons (Qp _) (.cons (Qp _) .nil)) (st':=⟨83,(Qt.p0 a0 t2 a2++[(8,.own 1 1 0 v4.length),(9,.own 2 2 0 Xz.length),(10,.i Qs),(41,.d (Qg4 v5))]),[.box 48 (Xx a1),eR3 v4,Qbu Xz]⟩) (by kernel_rfl) ?_
      refine Qh hT 5 (K65 11111010010010 0) ⟨83,(Qt.p0 a0 t2 a2++[(8,.own 1 1 0 v4.length),(9,.own 2 2 0 Xz.length),(10,.i Qs),(11,.ptr 3 0 0 0)]),[.box 48 (Xx a1),eR3 v4,Qbu Xz,.box 50 (Qd6 v5)]⟩ ?_
      obtain ⟨v6,h11,H⟩:=sbC H
      have Jj2:∀ (Qfp:Bool),stk (Qt.j2 a0 a1 v4 Qs Xz v5 Qfp) (iter (Qt.step a0 a1 a2 v4) n)=some r->AK X 65 ((K65 11111010010010 1)) (Yt X [] (.Qn [.d (Yf true r.1),.b r.2])) ⟨83,(Qt.p0 a0 t2 a2++[(8,.own 1 1 0 v4.length),(9,.own 2 2 0 Xz.length),(10,.i Qs),(11,.ptr 3 0 0 0),(55,.b Qfp)]),[.box 48 (Xx a1),eR3 v4,Qbu Xz,.box 50 (Qd6 v5)]⟩:=by
       intro Qfp H
       have Jj3:∀ (Qdf:Int) (Qi7:Bool),stk (Qt.j3 v4 Qs Xz Qdf Qi7) (iter (Qt.step a0 a1 a2 v4) n)=some r->AK X 65 ((K65 1111101001001 1)) (Yt X [] (.Qn [.d (Yf true r.1),.b r.2])) ⟨83,(Qt.p0 a0 t2 a2++[(8,.own 1 1 0 v4.length),(9,.own 2 2 0 Xz.length),(10,.i Qs),(11,.ptr 3 0 0 0)]),[.box 48 (Xx a1),eR3 v4,Qbu Xz,.box 50 [.i Qdf,.b Qi7]]⟩:=by
        intro Qdf Qi7 H
        have Jj4:∀ (Qlc:List Qc),stk (Qt.j4 Qs Qlc) (iter (Qt.step a0 a1 a2 v4) n)=some r->AK X 65 ((K65 1111101001 1)) (Yt X [] (.Qn [.d (Yf true r.1),.b r.2])) ⟨83,(Qt.p0 a0 t2 a2++[(8,.own 1 1 0 v4.length),(9,.own 2 2 0 Qlc.length),(10,.i Qs)]),[.box 48 (Xx a1),eR3 v4,Qbu Qlc]⟩:=by
         intro Qlc H
         refine Qh hT 6 (K65 11111010 0) ⟨83,(Qt.p0 a0 t2 a2++[(8,.own 1 1 0 v4.length),(9,.own 2 2 0 Qlc.length),(10,.i (IntKind.wrap .i64 (Qs+1)))]),[.box 48 (Xx a1),eR3 v4,Qbu Qlc]⟩ ?_
         exact ih (IntKind.wrap .i64 (Qs+1)) Qlc H
        refine Qh hT 5 (K65 11111010010011 1) ⟨83,(Qt.p0 a0 t2 a2++[(8,.own 1 1 0 v4.length),(9,.own 2 2 0 Xz.length),(10,.i Qs),(11,.ptr 3 0 0 0),(71,.b Qi7)]),[.box 48 (Xx a1),eR3 v4,Qbu Xz,.box 50 [.i Qdf,.b Qi7]]⟩ ?_
        by_cases c17:Qi7=true
        ·replace H:=sT c17 H
         rw [c17]
         refine Qh hT 1 (K65 111110100100111 0) ⟨83,(Qt.p0 a0 t2 a2++[(8,.own 1 1 0 v4.length),(9,.own 2 2 0 Xz.length),(10,.i Qs),(11,.ptr 3 0 0 0)]),[.box 48 (Xx a1),eR3 v4,Qbu Xz,.box 50 [.i Qdf,.b true]]⟩ ?_
         refine Qgq (nt:=83) (hP▸mixed) 9 [8] [0,2,4,8,9,10,11] [(0,.d (Yf true a0)),(2,.d (Qcc t2 a2)),(4,.ptr 0 0 0 0),(8,.own 1 1 0 v4.length),(9,.own 2 2 0 Xz.length),(10,.i Qs),(11,.ptr 3 0 0 0)] (sm [.own 2 2 0 Xz.length,.own 1 1 0 v4.length,.i Qs,.ptr 1 1 Qs.toNat 0,.i (v4.getD Qs.toNat 0),.ptr 3 0 0 0,.i Qdf,.d (.agg [.i (v4.getD Qs.toNat 0),.i Qdf]),.own 4 2 0 1]) [[.box 48 (Xx a1),eR3 v4,Qbu Xz,.box 50 [.i Qdf,.b true]],[.box 48 (Xx a1),eR3 v4,Qbu Xz,.box 50 [.i Qdf,.b true],.flat false 2 98 1 (fun j=>[[.i (v4.getD Qs.toNat 0),.i Qdf]].getD j [])]] (by kernel_rfl) (by kernel_rfl) (by kernel_rfl) (by kernel_rfl) ⟨?_,(Qg7 hT),?_⟩ ?_
         iterate 2 exact (Qit (Qat (Qat (Qat (Qgd (Qgd (Qat (Qat (Qat Qlw hT) hT) hT) (fun R rest h=>Zd hT (i:=Qs) (n:=(v4.length:Int)) h9.1 h9.2 (by kernel_rfl) h)) (fun R rest h=>Qc5 hT (i:=Qs.toNat) (n:=v4.length) (ltN h9.1 h9.2) (by kernel_rfl) h)) hT) hT) hT))
         refine Qh hT 0 (K65 1111101001001110 9) ⟨83,(Qt.p0 a0 t2 a2++[(8,.own 1 1 0 v4.length),(10,.i Qs),(72,.own 2 2 0 Xz.length),(80,.own 4 2 0 1)]),[.box 48 (Xx a1),eR3 v4,Qbu Xz,.box 50 [.i Qdf,.b true],.flat false 2 98 1 (fun j=>[[.i (v4.getD Qs.toNat 0),.i Qdf]].getD j [])]⟩ ?_
         obtain ⟨h18,H⟩:=sC H
         refine Qcw (id:=2) (kk:=2) (by':=16) (t:=45) (e:=98) (z:=[.int .i64 0,.int .i64 0]) (dst:=some 81) (id2:=4) (e2:=98) (fz:=false) (k':=(K65 1111101001001110 10)) hT Qc.e Qc.z Xz (⟨v4.getD Qs.toNat 0,Qdf⟩:Qc) [0,2,4,8,10,81] (by kernel_rfl) (by kernel_rfl) (by kernel_rfl) (by kernel_rfl) (by kernel_rfl) (by kernel_rfl) (by kernel_rfl) h18 (by omega) (st':=⟨83,(Qt.p0 a0 t2 a2++[(8,.own 1 1 0 v4.length),(10,.i Qs),(81,.own 5 2 0 ((Xz ++ [(⟨v4.getD Qs.toNat 0,Qdf⟩:Qc)]).length))]),[.box 48 (Xx a1),eR3 v4,.gone,.box 50 [.i Qdf,.b true],.flat false 2 98 1 (fun j=>[[.i (v4.getD Qs.toNat 0),.i Qdf]].getD j []),Qbu (Xz ++ [(⟨v4.getD Qs.toNat 0,Qdf⟩:Qc)])]⟩) (by kernel_rfl) ?_
         refine Xn hT 3 (K65 1111101001 1) [0,1,5] ⟨83,(Qt.p0 a0 t2 a2++[(8,.own 1 1 0 v4.length),(9,.own 2 2 0 (Xz ++ [(⟨v4.getD Qs.toNat 0,Qdf⟩:Qc)]).length),(10,.i Qs)]),[.box 48 (Xx a1),eR3 v4,Qbu (Xz ++ [(⟨v4.getD Qs.toNat 0,Qdf⟩:Qc)])]⟩ h0 ?_
         exact Jj4 (Xz ++ [(⟨v4.getD Qs.toNat 0,Qdf⟩:Qc)]) H
        replace H:=sF c17 H
        rw [Zz c17]
        refine Xn hT 3 (K65 1111101001 1) [0,1,2] ⟨83,(Qt.p0 a0 t2 a2++[(8,.own 1 1 0 v4.length),(9,.own 2 2 0 Xz.length),(10,.i Qs)]),[.box 48 (Xx a1),eR3 v4,Qbu Xz]⟩ h0 ?_
        exact Jj4 Xz H
       by_cases c14:Qfp=true
       ·replace H:=sT c14 H
        rw [c14]
        refine Qh hT 2 (K65 1111101001001010 0) ⟨83,(Qt.p0 a0 t2 a2++[(8,.own 1 1 0 v4.length),(9,.own 2 2 0 Xz.length),(10,.i Qs),(11,.ptr 3 0 0 0)]),[.box 48 (Xx a1),eR3 v4,Qbu Xz,.box 50 (Qd6 v5)]⟩ ?_
        obtain ⟨v8,h15,H⟩:=sbC H
        refine Qgq (nt:=83) (hP▸mixed) 12 [10,11] [0,2,4,8,9,10,11] [(0,.d (Yf true a0)),(2,.d (Qcc t2 a2)),(4,.ptr 0 0 0 0),(8,.own 1 1 0 v4.length),(9,.own 2 2 0 Xz.length),(10,.i Qs),(11,.ptr 3 0 0 0)] [some (.d (Qg4 v5)),some (.d (Qcb a1)),some (.own 1 1 0 v4.length),some (.i Qs),some (.ptr 1 1 Qs.toNat 0),some (.i (v4.getD Qs.toNat 0)),some (.Qn [.d (Qg4 v8.1),.b v8.2]),some (.Qn [.d (Qg4 v8.1),.b v8.2]),some (.d (Qg4 v8.1)),some (.b v8.2),some (.ptr 4 0 0 0),none] [[.box 48 (Xx a1),eR3 v4,Qbu Xz,.box 50 (Qd6 v5)],[.box 48 (Xx a1),eR3 v4,Qbu Xz,.box 50 (Qd6 v5),.box 50 [.i 0,.b false]],[.box 48 (Xx a1),eR3 v4,Qbu Xz,.box 50 (Qd6 v5),.box 50 (Qd6 v8.1)]] (by kernel_rfl) (by kernel_rfl) (by kernel_rfl) (by kernel_rfl) ⟨?_,(Qg7 hT),⟨?_,(Qg7 hT),?_⟩⟩ ?_
        iterate 3 exact (Qit (Qit (Qat (Qat (Qat (Qgd (Qgd (Qgd (Qat (Qat (Qat (Qat Qlw hT) hT) hT) hT) (fun R rest h=>Zd hT (i:=Qs) (n:=(v4.length:Int)) h9.1 h9.2 (by kernel_rfl) h)) (fun R rest h=>Qc5 hT (i:=Qs.toNat) (n:=v4.length) (ltN h9.1 h9.2) (by kernel_rfl) h)) (fun R rest h=>Ju (Yk:=[.d (Qg4 v5),.d (Qcb a1),.i (v4.getD Qs.toNat 0)]) (dst:=some 63) hP Wb4 (Qv.Wv v5 a1 (v4.getD Qs.toNat 0) h15) (by kernel_rfl) (.cons (Qp _) (.cons (Qp _) (.cons (Qp _) .nil))) (by kernel_rfl) h)) hT) hT) hT)))
        refine Qh hT 8 (K65 111110100100101010 1) ⟨83,(Qt.p0 a0 t2 a2++[(8,.own 1 1 0 v4.length),(9,.own 2 2 0 Xz.length),(10,.i Qs),(11,.ptr 3 0 0 0),(12,.ptr 4 0 0 0),(67,.b (!v8.2))]),[.box 48 (Xx a1),eR3 v4,Qbu Xz,.box 50 (Qd6 v5),.box 50 (Qd6 v8.1)]⟩ ?_
        by_cases c16:v8.2=true
        ·replace H:=sT c16 H
         rw [c16]
         refine Qh hT 2 (K65 11111010010010101 1) ⟨83,(Qt.p0 a0 t2 a2++[(8,.own 1 1 0 v4.length),(9,.own 2 2 0 Xz.length),(10,.i Qs),(11,.ptr 3 0 0 0),(12,.ptr 4 0 0 0)]),[.box 48 (Xx a1),eR3 v4,Qbu Xz,.box 50 (Qd6 v5),.box 50 (Qd6 v8.1)]⟩ ?_
         refine Xn hT 4 (K65 1111101001001 1) [0,1,2,3] ⟨83,(Qt.p0 a0 t2 a2++[(8,.own 1 1 0 v4.length),(9,.own 2 2 0 Xz.length),(10,.i Qs),(11,.ptr 3 0 0 0)]),[.box 48 (Xx a1),eR3 v4,Qbu Xz,.box 50 [.i v8.1.Val,.b v8.1.Some]]⟩ h0 ?_
         exact Jj3 v8.1.Val v8.1.Some H
        replace H:=sF c16 H
        rw [Zz c16]
        refine Qh hT 7 (K65 11111010010010101010 1) ⟨83,[(6,.d (Yf true a0)),(7,.b false)],[.box 48 (Xx a1),eR3 v4,Qbu Xz,.box 50 (Qd6 v5),.box 50 (Qd6 v8.1)]⟩ ?_
        obtain rfl:=Yg H
        exact Yi hf hX h0 (.Qn [.d (Yf true a0),.b false]) [] an (.Qn (.cons (.d (.sl fun _ _=>Qc.nl _)) (.cons (.d (.v _)) .nil)))
       replace H:=sF c14 H
       rw [Zz c14]
       refine Xn hT 2 (K65 1111101001001 1) [0,1,2,3] ⟨83,(Qt.p0 a0 t2 a2++[(8,.own 1 1 0 v4.length),(9,.own 2 2 0 Xz.length),(10,.i Qs),(11,.ptr 3 0 0 0)]),[.box 48 (Xx a1),eR3 v4,Qbu Xz,.box 50 [.i v5.Val,.b v5.Some]]⟩ h0 ?_
       exact Jj3 v5.Val v5.Some H
      by_cases c12:v6=true
      ·replace H:=sT c12 H
       obtain ⟨v7,h13,H⟩:=sbC H
       refine Qax (hP▸mixed) 14 [0,2,4,8,9,10,11] (sm [.d (Qcb a1),.own 1 1 0 v4.length,.i Qs,.ptr 1 1 Qs.toNat 0,.i (v4.getD Qs.toNat 0),.b true,.b true,.d (Qcc t2 a2),.own 1 1 0 v4.length,.i Qs,.ptr 1 1 Qs.toNat 0,.i (v4.getD Qs.toNat 0),.b v7,.b v7]) (Qg (Jn (Jn (Jn (Qg (Qg (Qg (Qg (Jn (Jn (Jn (Qg (Qg (Qg op0 hT) hT) hT) (fun R rest h=>Zd hT (i:=Qs) (n:=(v4.length:Int)) h9.1 h9.2 (by kernel_rfl) h)) (fun R rest h=>Qc5 hT (i:=Qs.toNat) (n:=v4.length) (ltN h9.1 h9.2) (by kernel_rfl) h)) (fun R rest h=>Ju (Yk:=[.d (Qcb a1),.i (v4.getD Qs.toNat 0)]) (dst:=some 47) hP Qiy (by have q:=Xl.Wv a1 (v4.getD Qs.toNat 0) h11;rw [c12] at q;exact q) (by kernel_rfl) (.cons (Qp _) (.cons (Qp _) .nil)) (by kernel_rfl) h)) hT) hT) hT) hT) (fun R rest h=>Zd hT (i:=Qs) (n:=(v4.length:Int)) h9.1 h9.2 (by kernel_rfl) h)) (fun R rest h=>Qc5 hT (i:=Qs.toNat) (n:=v4.length) (ltN h9.1 h9.2) (by kernel_rfl) h)) (fun R rest h=>Ju (Yk:=[.d (Qcc t2 a2),.i (v4.getD Qs.toNat 0)]) (dst:=some 54) hP Wcv (Xv.Wv (t0:=t2) a2 (v4.getD Qs.toNat 0) h13) (by kernel_rfl) (.cons (Qp _) (.cons (Qp _) .nil)) (by kernel_rfl) h)) hT) ?_
       refine Qh hT 1 (K65 11111010010010 1) ⟨83,(Qt.p0 a0 t2 a2++[(8,.own 1 1 0 v4.length),(9,.own 2 2 0 Xz.length),(10,.i Qs),(11,.ptr 3 0 0 0),(55,.b v7)]),[.box 48 (Xx a1),eR3 v4,Qbu Xz,.box 50 (Qd6 v5)]⟩ ?_
       exact Jj2 v7 H
      replace H:=sF c12 H
      refine Qax (hP▸mixed) 14 [0,2,4,8,9,10,11] (sm [.d (Qcb a1),.own 1 1 0 v4.length,.i Qs,.ptr 1 1 Qs.toNat 0,.i (v4.getD Qs.toNat 0),.b false,.b false,.Qn [],.Qn [],.Qn [],.Qn [],.Qn [],.Qn [],.b false]) (Qg (Qg (Qg (Qg (Qg (Qg (Qg (Qg (Jn (Jn (Jn (Qg (Qg (Qg op0 hT) hT) hT) (fun R rest h=>Zd hT (i:=Qs) (n:=(v4.length:Int)) h9.1 h9.2 (by kernel_rfl) h)) (fun R rest h=>Qc5 hT (i:=Qs.toNat) (n:=v4.length) (ltN h9.1 h9.2) (by kernel_rfl) h)) (fun R rest h=>Ju (Yk:=[.d (Qcb a1),.i (v4.getD Qs.toNat 0)]) (dst:=some 47) hP Qiy (by have q:=Xl.Wv a1 (v4.getD Qs.toNat 0) h11;rw [Zz c12] at q;exact q) (by kernel_rfl) (.cons (Qp _) (.cons (Qp _) .nil)) (by kernel_rfl) h)) hT) hT) hT) hT) hT) hT) hT) hT) ?_
      refine Qh hT 1 (K65 11111010010010 1) ⟨83,(Qt.p0 a0 t2 a2++[(8,.own 1 1 0 v4.length),(9,.own 2 2 0 Xz.length),(10,.i Qs),(11,.ptr 3 0 0 0),(55,.b false)]),[.box 48 (Xx a1),eR3 v4,Qbu Xz,.box 50 (Qd6 v5)]⟩ ?_
      exact Jj2 false H
     replace H:=sF c8 H
     rw [decide_eq_false c8]
     refine Qh hT 8 (K65 111111 1) ⟨83,[(6,.own 2 2 0 Xz.length),(7,.b true)],[.box 48 (Xx a1),eR3 v4,Qbu Xz]⟩ ?_
     refine Qdp 2 (kk:=2) (n:=Xz.length) (ty:=98) (g:=vec Qc.e Qc.z Xz) (by kernel_rfl) (st':=⟨83,[(6,.own 2 2 0 Xz.length),(7,.b true)],[.box 48 (Xx a1),eR3 v4,Qwf Xz]⟩) (by kernel_rfl) ?_
     refine Qdt (av:=.own 2 2 0 Xz.length) (y:=Yf true Xz) [6,7] 6 (st':=⟨83,[(6,.d (Yf true Xz)),(7,.b true)],[.box 48 (Xx a1),eR3 v4,Qwf Xz]⟩) (by kernel_rfl) (.own (ty:=98) (k:=2) (by kernel_rfl)) (by kernel_rfl) ?_
     obtain rfl:=Yg H
     exact Yi hf hX h0 (.Qn [.d (Yf true Xz),.b true]) [] an (.Qn (.cons (.d (.sl fun _ _=>Qc.nl _)) (.cons (.d (.v _)) .nil)))
  refine Qhm [0,1,2] ⟨83,(Qt.p0 a0 t2 a2++[(8,.own 1 1 0 v4.length),(9,.own 2 2 0 ([]:List Qc).length),(10,.i 0)]),[.box 48 (Xx a1),eR3 v4,Qbu ([]:List Qc)]⟩ h0 ?_
  obtain ⟨n,H⟩:=Qbz H
  exact (L n) 0 ([]:List Qc) H
 refine Ws (Yk:=[.d (Yf true a0)]) (dst:=some 15) (k':=(K65 1100 2)) [0,2,4,15] [] hP Qug (Wy.Wv (t0:=true) a0 h1) (by kernel_rfl) (Qz _) (.cons (Qp _) .nil) (st':=⟨83,(Qt.p0 a0 t2 a2++[(15,.b v1)]),[.box 48 (Xx a1)]⟩) (by kernel_rfl) ?_
 refine Qh hT 2 (K65 1100 4) ⟨83,(Qt.p0 a0 t2 a2++[(17,.b (!v1))]),[.box 48 (Xx a1)]⟩ ?_
 by_cases c2:v1=true
 ·replace H:=iT c2 H
  rw [c2]
  refine Qh hT 1 (K65 1100 5) ⟨83,(Qt.p0 a0 t2 a2++[(17,.b false),(18,.d (Qcb a1))]),[.box 48 (Xx a1)]⟩ ?_
  obtain ⟨v2,h3,H⟩:=ibC H
  refine Ws (Yk:=[.d (Qcb a1)]) (dst:=some 19) (k':=(K65 1100 6)) [0,2,4,17,19] [] hP Qhv (Qo.Wv a1 h3) (by kernel_rfl) (Qz _) (.cons (Qp _) .nil) (st':=⟨83,(Qt.p0 a0 t2 a2++[(17,.b false),(19,.b v2)]),[.box 48 (Xx a1)]⟩) (by kernel_rfl) ?_
  refine Qh hT 3 (K65 1100 9) ⟨83,(Qt.p0 a0 t2 a2++[(22,.b (!v2))]),[.box 48 (Xx a1)]⟩ ?_
  by_cases c4:v2=true
  ·replace H:=iT c4 H
   rw [c4]
   refine Qh hT 1 (K65 1100 10) ⟨83,(Qt.p0 a0 t2 a2++[(22,.b false),(23,.d (Qcc t2 a2))]),[.box 48 (Xx a1)]⟩ ?_
   obtain ⟨v3,h5,H⟩:=ibC H
   refine Ws (Yk:=[.d (Qcc t2 a2)]) (dst:=some 24) (k':=(K65 1100 11)) [0,2,4,22,24] [] hP Qkj (Yd.Wv (t0:=t2) a2 h5) (by kernel_rfl) (Qz _) (.cons (Qp _) .nil) (st':=⟨83,(Qt.p0 a0 t2 a2++[(22,.b false),(24,.b v3)]),[.box 48 (Xx a1)]⟩) (by kernel_rfl) ?_
   refine Qh hT 3 (K65 110 1) ⟨83,(Qt.p0 a0 t2 a2++[(26,.b (!v3))]),[.box 48 (Xx a1)]⟩ ?_
   exact Yn (!v3) H
  replace H:=iF c4 H
  rw [Zz c4]
  refine Qh hT 5 (K65 110 1) ⟨83,(Qt.p0 a0 t2 a2++[(26,.b true)]),[.box 48 (Xx a1)]⟩ ?_
  exact Yn true H
 replace H:=iF c2 H
 rw [Zz c2]
 refine Qh hT 10 (K65 110 1) ⟨83,(Qt.p0 a0 t2 a2++[(26,.b true)]),[.box 48 (Xx a1)]⟩ ?_
 exact Yn true H
abbrev Qu.p0 (t0:Bool) (a0:List Qe) (t1:Bool) (a1:List Qi) (a2:Int):List (Nat × AV):=[(0,.d (Qbq t0 a0)),(1,.d (Qcc t1 a1)),(2,.i a2)]
theorem Qu.Wv {t0:Bool} {t1:Bool} (a0:List Qe) (a1:List Qi) (a2:Int) {r:List Qc} (H:Qu a0 a1 a2=some r):Yy Tryz.prog 33 [] [.d (Qbq t0 a0),.d (Qcc t1 a1),.i a2] [] (.d (Yf true r)):=by
 refine Yc Tryz.func33 rfl (nt:=62) rfl (lb rfl) fun X hP h0 hX=>?_
 have hT:Xo X.P T:=hP▸tok
 have hf:X.P.funcs[33]? = some Tryz.f33:=hP▸Tryz.func33
 refine Qh hT 15 (K33 111010 0) ⟨62,(Qu.p0 t0 a0 t1 a1 a2++[(7,.ns),(8,.i 0)]),[]⟩ ?_
 have L:∀ n,(∀ (Wi:Int),iter (Qu.step a0 a1 a2) n (.l1 Wi)=some r->AK X 33 ((K33 111010 0)) (Yt X [] (.d (Yf true r))) ⟨62,(Qu.p0 t0 a0 t1 a1 a2++[(7,.ns),(8,.i Wi)]),[]⟩)/\(∀ (Yq:List Qc) (Jv:Int),iter (Qu.step a0 a1 a2) n (.l2 Yq Jv)=some r->AK X 33 ((K33 1111010 0)) (Yt X [] (.d (Yf true r))) ⟨62,(Qu.p0 t0 a0 t1 a1 a2++[(7,.d (Yf true Yq)),(9,.i Jv)]),[]⟩):=by
  intro n
  induction n with
  | zero=>exact ⟨fun _ H=>Qbd H,fun _ _ H=>Qbd H⟩
  | succ n ih=>
   refine ⟨?_, ?_⟩
   ·intro Wi H
    refine Qh hT 8 (K33 11101000 1) ⟨62,(Qu.p0 t0 a0 t1 a1 a2++[(7,.ns),(8,.i Wi),(15,.b (decide (Wi < (a0.length:Int))))]),[]⟩ ?_
    by_cases c1:Wi < (a0.length:Int)
    ·replace H:=sT c1 H
     rw [decide_eq_true c1]
     refine Qh hT 2 (K33 1110100 1) ⟨62,(Qu.p0 t0 a0 t1 a1 a2++[(7,.ns),(8,.i Wi)]),[]⟩ ?_
     refine Qh hT 6 (K33 11101001000 2) ⟨62,(Qu.p0 t0 a0 t1 a1 a2++[(7,.ns),(8,.i Wi),(18,.d (Qbq t0 a0)),(19,.i Wi)]),[]⟩ ?_
     obtain ⟨h2,H⟩:=sC H
     refine Jf hT [0,1,2,7,8,20] (i:=Wi) (n:=(a0.length:Int)) h2.1 h2.2 (k':=(K33 11101001000 3)) (st':=⟨62,(Qu.p0 t0 a0 t1 a1 a2++[(7,.ns),(8,.i Wi),(20,.d (Qej t0 a0 Wi.toNat 0))]),[]⟩) (by kernel_rfl) ?_
     refine Qh hT 2 (K33 11101001000 5) ⟨62,(Qu.p0 t0 a0 t1 a1 a2++[(7,.ns),(8,.i Wi),(22,.d (Qcb ((a0.getD Wi.toNat Qe.z).M)))]),[]⟩ ?_
     obtain ⟨v1,h3,H⟩:=sbC H
     refine Ws (Yk:=[.d (Qcb ((a0.getD Wi.toNat Qe.z).M))]) (dst:=some 23) (k':=(K33 11101001000 6)) [0,1,2,7,8,23] [] hP Qhv (Qo.Wv ((a0.getD Wi.toNat Qe.z).M) h3) (by kernel_rfl) (Qz _) (.cons (Qp _) .nil) (st':=⟨62,(Qu.p0 t0 a0 t1 a1 a2++[(7,.ns),(8,.i Wi),(23,.b v1)]),[]⟩) (by kernel_rfl) ?_
     refine Qh hT 2 (K33 1110100100 1) ⟨62,(Qu.p0 t0 a0 t1 a1 a2++[(7,.ns),(8,.i Wi),(24,.b (!v1))]),[]⟩ ?_
     by_cases c4:v1=true
     ·replace H:=sT c4 H
      rw [c4]
      refine Qh hT 3 (K33 11101001 1) ⟨62,(Qu.p0 t0 a0 t1 a1 a2++[(7,.ns),(8,.i Wi)]),[]⟩ ?_
      refine Qh hT 6 (K33 111010 0) ⟨62,(Qu.p0 t0 a0 t1 a1 a2++[(7,.ns),(8,.i (IntKind.wrap .i64 (Wi+1)))]),[]⟩ ?_
      exact ih.1 (IntKind.wrap .i64 (Wi+1)) H
     replace H:=sF c4 H
     rw [Zz c4]
     refine Qh hT 5 (K33 111010010010 1) ⟨62,[(6,.ns)],[]⟩ ?_
     refine Qdt (av:=.d (.v (.slice none 0 0))) (y:=Yf true ([]:List Qc)) [6] 6 (st':=⟨62,[(6,.d (Yf true ([]:List Qc)))],[]⟩) (by kernel_rfl) (.nil _) (by kernel_rfl) ?_
     obtain rfl:=Yg H
     exact Yi hf hX h0 (.d (Yf true ([]:List Qc))) [] an (.d (.sl fun _ _=>Qc.nl _))
    replace H:=sF c1 H
    rw [decide_eq_false c1]
    refine Qh hT 9 (K33 1111010 0) ⟨62,(Qu.p0 t0 a0 t1 a1 a2++[(7,.ns),(9,.i 0)]),[]⟩ ?_
    refine Qdt (av:=.d (.v (.slice none 0 0))) (y:=Yf true ([]:List Qc)) [0,1,2,7,9] 7 (st':=⟨62,(Qu.p0 t0 a0 t1 a1 a2++[(7,.d (Yf true ([]:List Qc))),(9,.i 0)]),[]⟩) (by kernel_rfl) (.nil _) (by kernel_rfl) ?_
    exact ih.2 ([]:List Qc) 0 H
   intro Yq Jv H
   have Yn:∀ (Qqq:Bool),stk (Qu.j1 a0 a1 a2 Yq Jv Qqq) (iter (Qu.step a0 a1 a2) n)=some r->AK X 33 ((K33 111101000 1)) (Yt X [] (.d (Yf true r))) ⟨62,(Qu.p0 t0 a0 t1 a1 a2++[(7,.d (Yf true Yq)),(9,.i Jv),(32,.b Qqq)]),[]⟩:=by
    intro Qqq H
    by_cases c7:Qqq=true
    ·replace H:=sT c7 H
     rw [c7]
     refine Qh hT 2 (K33 11110100 1) ⟨62,(Qu.p0 t0 a0 t1 a1 a2++[(7,.d (Yf true Yq)),(9,.i Jv)]),[]⟩ ?_
     refine Qh hT 6 (K33 111101001000 2) ⟨62,(Qu.p0 t0 a0 t1 a1 a2++[(7,.d (Yf true Yq)),(9,.i Jv),(35,.d (Qbq t0 a0)),(36,.i Jv)]),[]⟩ ?_
     obtain ⟨h8,H⟩:=sC H
     have Jj2:∀ (Qq1:Bool),stk (Qu.j2 a0 a1 Yq Jv Qq1) (iter (Qu.step a0 a1 a2) n)=some r->AK X 33 ((K33 11110100100 1)) (Yt X [] (.d (Yf true r))) ⟨62,(Qu.p0 t0 a0 t1 a1 a2++[(7,.d (Yf true Yq)),(9,.i Jv),(48,.b Qq1)]),[]⟩:=by
      intro Qq1 H
      have Jj3:∀ (Ql3:List Qc),stk (Qu.j3 Jv Ql3) (iter (Qu.step a0 a1 a2) n)=some r->AK X 33 ((K33 111101001 1)) (Yt X [] (.d (Yf true r))) ⟨62,(Qu.p0 t0 a0 t1 a1 a2++[(7,.d (Yf true Ql3)),(9,.i Jv)]),[]⟩:=by
       intro Ql3 H
       refine Qh hT 6 (K33 1111010 0) ⟨62,(Qu.p0 t0 a0 t1 a1 a2++[(7,.d (Yf true Ql3)),(9,.i (IntKind.wrap .i64 (Jv+1)))]),[]⟩ ?_
       exact ih.2 Ql3 (IntKind.wrap .i64 (Jv+1)) H
      by_cases c10:Qq1=true
      ·replace H:=sT c10 H
       rw [c10]
       refine Qh hT 6 (K33 11110100100100 3) ⟨62,(Qu.p0 t0 a0 t1 a1 a2++[(9,.i Jv),(50,.d (Yf true Yq)),(51,.d (Qbq t0 a0)),(52,.i Jv)]),[]⟩ ?_
       refine Jf hT [0,1,2,9,50,53] (i:=Jv) (n:=(a0.length:Int)) h8.1 h8.2 (k':=(K33 11110100100100 4)) (st':=⟨62,(Qu.p0 t0 a0 t1 a1 a2++[(9,.i Jv),(50,.d (Yf true Yq)),(53,.d (Qej t0 a0 Jv.toNat 0))]),[]⟩) (by kernel_rfl) ?_
       refine Qh hT 3 (K33 11110100100100 7) ⟨62,(Qu.p0 t0 a0 t1 a1 a2++[(9,.i Jv),(50,.d (Yf true Yq)),(55,.d (Qcb ((a0.getD Jv.toNat Qe.z).M))),(56,.d (Qcc t1 a1))]),[]⟩ ?_
       obtain ⟨v3,h11,H⟩:=sbC H
       refine Ws (Yk:=[.d (Yf true Yq),.d (Qcb ((a0.getD Jv.toNat Qe.z).M)),.d (Qcc t1 a1)]) (dst:=some 57) (k':=(K33 11110100100100 8)) [0,1,2,9,57] [] hP Quh (Qt.Wv (t2:=t1) Yq ((a0.getD Jv.toNat Qe.z).M) a1 h11) (by kernel_rfl) (Qz _) (.cons (Qp _) (.cons (Qp _) (.cons (Qp _) .nil))) (st':=⟨62,(Qu.p0 t0 a0 t1 a1 a2++[(9,.i Jv),(57,.Qn [.d (Yf true v3.1),.b v3.2])]),[]⟩) (by kernel_rfl) ?_
       refine Qh hT 11 (K33 111101001 1) ⟨62,(Qu.p0 t0 a0 t1 a1 a2++[(7,.d (Yf true v3.1)),(9,.i Jv)]),[]⟩ ?_
       exact Jj3 v3.1 H
      replace H:=sF c10 H
      rw [Zz c10]
      refine Qh hT 3 (K33 111101001 1) ⟨62,(Qu.p0 t0 a0 t1 a1 a2++[(7,.d (Yf true Yq)),(9,.i Jv)]),[]⟩ ?_
      exact Jj3 Yq H
     refine Jf hT [0,1,2,7,9,37] (i:=Jv) (n:=(a0.length:Int)) h8.1 h8.2 (k':=(K33 111101001000 3)) (st':=⟨62,(Qu.p0 t0 a0 t1 a1 a2++[(7,.d (Yf true Yq)),(9,.i Jv),(37,.d (Qej t0 a0 Jv.toNat 0))]),[]⟩) (by kernel_rfl) ?_
     refine Qh hT 3 (K33 111101001000 6) ⟨62,(Qu.p0 t0 a0 t1 a1 a2++[(7,.d (Yf true Yq)),(9,.i Jv),(40,.b ((a0.getD Jv.toNat Qe.z).Jt))]),[]⟩ ?_
     by_cases c9:((a0.getD Jv.toNat Qe.z).Jt)=true
     ·replace H:=sT c9 H
      rw [c9]
      refine Qh hT 2 (K33 111101001000 8) ⟨62,(Qu.p0 t0 a0 t1 a1 a2++[(7,.d (Yf true Yq)),(9,.i Jv),(40,.b true),(41,.d (Qbq t0 a0)),(42,.i Jv)]),[]⟩ ?_
      refine Jf hT [0,1,2,7,9,40,43] (i:=Jv) (n:=(a0.length:Int)) h8.1 h8.2 (k':=(K33 111101001000 9)) (st':=⟨62,(Qu.p0 t0 a0 t1 a1 a2++[(7,.d (Yf true Yq)),(9,.i Jv),(40,.b true),(43,.d (Qej t0 a0 Jv.toNat 0))]),[]⟩) (by kernel_rfl) ?_
      refine Qh hT 6 (K33 11110100100 1) ⟨62,(Qu.p0 t0 a0 t1 a1 a2++[(7,.d (Yf true Yq)),(9,.i Jv),(48,.b (decide (((a0.getD Jv.toNat Qe.z).Time)<=a2)))]),[]⟩ ?_
      exact Jj2 (decide (((a0.getD Jv.toNat Qe.z).Time)<=a2)) H
     replace H:=sF c9 H
     rw [Zz c9]
     refine Qh hT 9 (K33 11110100100 1) ⟨62,(Qu.p0 t0 a0 t1 a1 a2++[(7,.d (Yf true Yq)),(9,.i Jv),(48,.b false)]),[]⟩ ?_
     exact Jj2 false H
    replace H:=sF c7 H
    rw [Zz c7]
    refine Qh hT 7 (K33 11111 1) ⟨62,[(6,.d (Yf true Yq))],[]⟩ ?_
    obtain rfl:=Yg H
    exact Yi hf hX h0 (.d (Yf true Yq)) [] an (.d (.sl fun _ _=>Qc.nl _))
   refine Qh hT 8 (K33 1111010000 5) ⟨62,(Qu.p0 t0 a0 t1 a1 a2++[(7,.d (Yf true Yq)),(9,.i Jv),(29,.b (decide (Jv < (a0.length:Int))))]),[]⟩ ?_
   by_cases c5:Jv < (a0.length:Int)
   ·replace H:=sT c5 H
    rw [decide_eq_true c5]
    refine Qh hT 1 (K33 1111010000 6) ⟨62,(Qu.p0 t0 a0 t1 a1 a2++[(7,.d (Yf true Yq)),(9,.i Jv),(29,.b true),(30,.d (Qcc t1 a1))]),[]⟩ ?_
    obtain ⟨v2,h6,H⟩:=sbC H
    refine Ws (Yk:=[.d (Qcc t1 a1)]) (dst:=some 31) (k':=(K33 1111010000 7)) [0,1,2,7,9,29,31] [] hP Qkj (Yd.Wv (t0:=t1) a1 h6) (by kernel_rfl) (Qz _) (.cons (Qp _) .nil) (st':=⟨62,(Qu.p0 t0 a0 t1 a1 a2++[(7,.d (Yf true Yq)),(9,.i Jv),(29,.b true),(31,.b v2)]),[]⟩) (by kernel_rfl) ?_
    refine Qh hT 2 (K33 111101000 1) ⟨62,(Qu.p0 t0 a0 t1 a1 a2++[(7,.d (Yf true Yq)),(9,.i Jv),(32,.b v2)]),[]⟩ ?_
    exact Yn v2 H
   replace H:=sF c5 H
   rw [decide_eq_false c5]
   refine Qh hT 4 (K33 111101000 1) ⟨62,(Qu.p0 t0 a0 t1 a1 a2++[(7,.d (Yf true Yq)),(9,.i Jv),(32,.b false)]),[]⟩ ?_
   exact Yn false H
 obtain ⟨n,H⟩:=Qbz H
 exact (L n).1 0 H
theorem Qb9.Wv:Yy Tryz.prog 34 [] [] [Qhu (Qb9)] (.own 0 2 0 ((Qb9).length)):=by
 obtain ⟨r,H⟩:∃ r,Qb9=r:=⟨_,rfl⟩
 rw [H]
 refine Yc Tryz.func34 rfl (nt:=3) rfl (lb rfl) fun X hP h0 hX=>?_
 have hT:Xo X.P T:=hP▸tok
 have hf:X.P.funcs[34]? = some Tryz.f34:=hP▸Tryz.func34
 refine Qh hT 10 (K34 11 1) ⟨3,[(0,.own 0 2 0 1)],[.flat false 2 46 1 (fun j=>[[.i 0,.i 4096]].getD j [])]⟩ ?_
 refine Qhq 0 (kk:=2) (fz:=false) (ty:=46) (n:=([(⟨0,4096⟩:Qi)]:List Qi).length) (vec Qi.e Qi.z ([(⟨0,4096⟩:Qi)]:List Qi)) (by kernel_rfl) Qha (st':=⟨3,[(0,.own 0 2 0 (([(⟨0,4096⟩:Qi)]:List Qi).length))],[Qhu ([(⟨0,4096⟩:Qi)]:List Qi)]⟩) (by kernel_rfl) ?_
 obtain rfl:=H
 exact Yi hf hX h0 (.own 0 2 0 (([(⟨0,4096⟩:Qi)]:List Qi).length)) [0] (ac (Qa1 Qi.nl) an) (.own _ _ _ _)
abbrev Wx.s1 (a0:Xc):St:=⟨101,[(1,.ptr 0 0 0 0),(73,.b true)],[.box 185 (Qcp a0)]⟩
abbrev Wx.p0:List (Nat × AV):=[(1,.ptr 0 0 0 0)]
theorem Wx.Wv (a0:Xc) {r:Bool} (H:Wx a0=some r):Yy Tryz.prog 92 [] [.d (Qzl a0)] [] (.b r):=by
 refine Yc Tryz.func92 rfl (nt:=101) rfl (lb rfl) fun X hP h0 hX=>?_
 have hT:Xo X.P T:=hP▸tok
 have hf:X.P.funcs[92]? = some Tryz.f92:=hP▸Tryz.func92
 refine Qh hT 12 (K92 110 1) ⟨101,(Wx.p0++[(5,.b (a0.Kind == 1))]),[.box 185 (Qcp a0)]⟩ ?_
 by_cases c1:a0.Kind=1
 ·replace H:=iT c1 H
  rw [eqT c1]
  refine Qh hT 5 (K92 110100 2) ⟨101,(Wx.p0++[(7,.d (Qcb a0.M))]),[.box 185 (Qcp a0)]⟩ ?_
  obtain ⟨v1,h2,H⟩:=ibC H
  have Yn:∀ (Qa8:Bool),(Wx.j1 Qa8)=some r->AK X 92 ((K92 11010 1)) (Yt X [] (.b r)) ⟨101,[(2,.b Qa8)],[]⟩:=by
   intro Qa8 H
   obtain rfl:=Yg H
   exact Yi hf hX h0 (.b Qa8) [] an (.d (.v _))
  refine Ws (Yk:=[.d (Qcb a0.M)]) (dst:=some 8) (k':=(K92 110100 3)) [1,8] [] hP Qhv (Qo.Wv a0.M h2) (by kernel_rfl) (Qz _) (.cons (Qp _) .nil) (st':=⟨101,(Wx.p0++[(8,.b v1)]),[.box 185 (Qcp a0)]⟩) (by kernel_rfl) ?_
  refine Qh hT 1 (K92 110100 4) ⟨101,(Wx.p0++[(9,.b v1)]),[.box 185 (Qcp a0)]⟩ ?_
  by_cases c3:v1=true
  ·replace H:=iT c3 H
   rw [c3]
   refine Qh hT 8 (K92 110100 12) ⟨101,(Wx.p0++[(17,.b (a0.M.Client == a0.Client))]),[.box 185 (Qcp a0)]⟩ ?_
   by_cases c4:a0.M.Client=a0.Client
   ·replace H:=iT c4 H
    rw [eqT c4]
    refine Qh hT 5 (K92 110100 17) ⟨101,(Wx.p0++[(22,.b (a0.Key == 0))]),[.box 185 (Qcp a0)]⟩ ?_
    by_cases c5:a0.Key=0
    ·replace H:=iT c5 H
     rw [eqT c5]
     refine Qh hT 6 (K92 110100 23) ⟨101,(Wx.p0++[(28,.b (!a0.Cell.Some))]),[.box 185 (Qcp a0)]⟩ ?_
     by_cases c6:a0.Cell.Some=true
     ·replace H:=iT c6 H
      rw [c6]
      refine Xn hT 12 (K92 11010 1) [] ⟨101,[(2,.b false)],[]⟩ h0 ?_
      exact Yn false H
     replace H:=iF c6 H
     rw [Zz c6]
     refine Qh hT 6 (K92 110100 29) ⟨101,(Wx.p0++[(34,.b (a0.Cell.Val == 0))]),[.box 185 (Qcp a0)]⟩ ?_
     by_cases c7:a0.Cell.Val=0
     ·replace H:=iT c7 H
      rw [eqT c7]
      refine Xn hT 6 (K92 11010 1) [] ⟨101,[(2,.b (a0.Mark == 0))],[]⟩ h0 ?_
      exact Yn (a0.Mark == 0) H
     replace H:=iF c7 H
     rw [eqF c7]
     refine Xn hT 6 (K92 11010 1) [] ⟨101,[(2,.b false)],[]⟩ h0 ?_
     exact Yn false H
    replace H:=iF c5 H
    rw [eqF c5]
    refine Xn hT 18 (K92 11010 1) [] ⟨101,[(2,.b false)],[]⟩ h0 ?_
    exact Yn false H
   replace H:=iF c4 H
   rw [eqF c4]
   refine Xn hT 23 (K92 11010 1) [] ⟨101,[(2,.b false)],[]⟩ h0 ?_
   exact Yn false H
  replace H:=iF c3 H
  rw [Zz c3]
  refine Xn hT 31 (K92 11010 1) [] ⟨101,[(2,.b false)],[]⟩ h0 ?_
  exact Yn false H
 replace H:=iF c1 H
 have Jj2:∀ (Qq2:Bool),(Wx.j2 a0 Qq2)=some r->AK X 92 ((K92 1110 1)) (Yt X [] (.b r)) ⟨101,(Wx.p0++[(73,.b Qq2)]),[.box 185 (Qcp a0)]⟩:=by
  intro Qq2 H
  by_cases c15:Qq2=true
  ·replace H:=iT c15 H
   rw [c15]
   refine Qh hT 5 (K92 111010 1) ⟨101,[(2,.b false)],[.box 185 (Qcp a0)]⟩ ?_
   obtain rfl:=Yg H
   exact Yi hf hX h0 (.b false) [] an (.d (.v _))
  replace H:=iF c15 H
  have Jj3:∀ (Qj6:Bool),(Wx.j3 Qj6)=some r->AK X 92 ((K92 1111 1)) (Yt X [] (.b r)) ⟨101,[(2,.b Qj6)],[]⟩:=by
   intro Qj6 H
   obtain rfl:=Yg H
   exact Yi hf hX h0 (.b Qj6) [] an (.d (.v _))
  rw [Zz c15]
  refine Qh hT 2 (K92 111 1) ⟨101,(Wx.p0),[.box 185 (Qcp a0)]⟩ ?_
  refine Qh hT 7 (K92 11110 5) ⟨101,(Wx.p0++[(78,.b (!a0.Cell.Some))]),[.box 185 (Qcp a0)]⟩ ?_
  by_cases c16:a0.Cell.Some=true
  ·replace H:=iT c16 H
   rw [c16]
   refine Qh hT 10 (K92 11110 15) ⟨101,(Wx.p0++[(84,.b false),(88,.b a0.Cell.Some)]),[.box 185 (Qcp a0)]⟩ ?_
   rw [c16]
   refine Qh hT 6 (K92 11110 21) ⟨101,(Wx.p0++[(84,.b false),(94,.b (decide (a0.Cell.Val>=(-1099511627776))))]),[.box 185 (Qcp a0)]⟩ ?_
   by_cases c17:a0.Cell.Val>=(-1099511627776)
   ·replace H:=iT c17 H
    rw [decide_eq_true c17]
    refine Xn hT 8 (K92 1111 1) [] ⟨101,[(2,.b (decide (a0.Cell.Val<=1099511627776)))],[]⟩ h0 ?_
    exact Jj3 (decide (a0.Cell.Val<=1099511627776)) H
   replace H:=iF c17 H
   rw [decide_eq_false c17]
   refine Xn hT 8 (K92 1111 1) [] ⟨101,[(2,.b false)],[]⟩ h0 ?_
   exact Jj3 false H
  replace H:=iF c16 H
  rw [Zz c16]
  refine Qh hT 6 (K92 11110 11) ⟨101,(Wx.p0++[(84,.b (a0.Cell.Val == 0))]),[.box 185 (Qcp a0)]⟩ ?_
  by_cases c18:a0.Cell.Val=0
  ·replace H:=iT c18 H
   rw [eqT c18]
   refine Xn hT 18 (K92 1111 1) [] ⟨101,[(2,.b true)],[]⟩ h0 ?_
   exact Jj3 true H
  replace H:=iF c18 H
  rw [eqF c18]
  refine Qh hT 4 (K92 11110 15) ⟨101,(Wx.p0++[(84,.b false),(88,.b a0.Cell.Some)]),[.box 185 (Qcp a0)]⟩ ?_
  rw [Zz c16]
  refine Xn hT 14 (K92 1111 1) [] ⟨101,[(2,.b false)],[]⟩ h0 ?_
  exact Jj3 false H
 rw [eqF c1]
 refine Qh hT 2 (K92 11 1) ⟨101,(Wx.p0),[.box 185 (Qcp a0)]⟩ ?_
 refine Qh hT 7 (K92 11100 4) ⟨101,(Wx.p0++[(42,.b (a0.Kind != 2))]),[.box 185 (Qcp a0)]⟩ ?_
 by_cases c8:a0.Kind=2
 ·replace H:=iT c8 H
  rw [neF c8]
  refine Qh hT 3 (K92 11100 7) ⟨101,(Wx.p0++[(42,.b false),(44,.d (Qcb a0.M)),(45,.d (.agg [.i 0,.i 0,.i 0,.ns,.i 0,.i 0,.i 0]))]),[.box 185 (Qcp a0)]⟩ ?_
  obtain ⟨v2,h9,H⟩:=ibC H
  refine Ws (Yk:=[.d (Qcb a0.M),.d (.agg [.i 0,.i 0,.i 0,.ns,.i 0,.i 0,.i 0])]) (dst:=some 46) (k':=(K92 11100 8)) [1,42,46] [] hP Qud (Xh.Wv a0.M (⟨0,0,0,[],(⟨0,0⟩:Qi),0⟩:Qk) h9) (by kernel_rfl) (Qz _) (.cons (Qp _) (.cons (.Qrg (.cons (Qp _) (.cons (Qp _) (.cons (Qp _) (.cons (.nil _ _) (.cons (Qp _) (.cons (Qp _) (.cons (Qp _) .nil)))))))) .nil)) (st':=⟨101,(Wx.p0++[(42,.b false),(46,.b v2)]),[.box 185 (Qcp a0)]⟩) (by kernel_rfl) ?_
  refine Qh hT 3 (K92 11100 11) ⟨101,(Wx.p0++[(49,.b (!v2))]),[.box 185 (Qcp a0)]⟩ ?_
  by_cases c10:v2=true
  ·replace H:=iT c10 H
   rw [c10]
   refine Qh hT 5 (K92 11100 16) ⟨101,(Wx.p0++[(54,.b (decide (a0.Client < 1)))]),[.box 185 (Qcp a0)]⟩ ?_
   by_cases c11:a0.Client < 1
   ·replace H:=iT c11 H
    rw [decide_eq_true c11]
    refine Qh hT 20 (K92 1110 1) (Wx.s1 a0) ?_
    exact Jj2 true H
   replace H:=iF c11 H
   rw [decide_eq_false c11]
   refine Qh hT 5 (K92 11100 21) ⟨101,(Wx.p0++[(59,.b (decide (a0.Client > 1048576)))]),[.box 185 (Qcp a0)]⟩ ?_
   by_cases c12:a0.Client > 1048576
   ·replace H:=iT c12 H
    rw [decide_eq_true c12]
    refine Qh hT 15 (K92 1110 1) (Wx.s1 a0) ?_
    exact Jj2 true H
   replace H:=iF c12 H
   rw [decide_eq_false c12]
   refine Qh hT 5 (K92 11100 26) ⟨101,(Wx.p0++[(64,.b (decide (a0.Key < 0)))]),[.box 185 (Qcp a0)]⟩ ?_
   by_cases c13:a0.Key < 0
   ·replace H:=iT c13 H
    rw [decide_eq_true c13]
    refine Qh hT 10 (K92 1110 1) (Wx.s1 a0) ?_
    exact Jj2 true H
   replace H:=iF c13 H
   rw [decide_eq_false c13]
   refine Qh hT 5 (K92 11100 31) ⟨101,(Wx.p0++[(69,.b (decide (a0.Key>=4096)))]),[.box 185 (Qcp a0)]⟩ ?_
   by_cases c14:a0.Key>=4096
   ·replace H:=iT c14 H
    rw [decide_eq_true c14]
    refine Qh hT 5 (K92 1110 1) (Wx.s1 a0) ?_
    exact Jj2 true H
   replace H:=iF c14 H
   rw [decide_eq_false c14]
   refine Qh hT 5 (K92 1110 1) ⟨101,(Wx.p0++[(73,.b (decide (a0.Mark < 0)))]),[.box 185 (Qcp a0)]⟩ ?_
   exact Jj2 (decide (a0.Mark < 0)) H
  replace H:=iF c10 H
  rw [Zz c10]
  refine Qh hT 25 (K92 1110 1) (Wx.s1 a0) ?_
  exact Jj2 true H
 replace H:=iF c8 H
 rw [neT c8]
 refine Qh hT 32 (K92 1110 1) (Wx.s1 a0) ?_
 exact Jj2 true H
abbrev Wh.s1 (t0:Bool) (a0:List Xc) (a1:Int) (a2:Int) (Qj:List Qk) (Wi:Int):St:=⟨53,[(0,.d (Qgf t0 a0)),(1,.i a1),(2,.i a2),(7,.own 0 7 0 Qj.length),(8,.i Wi),(9,.ptr 1 0 0 0),(46,.b false)],[Jq Qj,.box 185 (Qcp (a0.getD Wi.toNat Xc.z))]⟩
abbrev Wh.p0 (t0:Bool) (a0:List Xc) (a1:Int) (a2:Int):List (Nat × AV):=[(0,.d (Qgf t0 a0)),(1,.i a1),(2,.i a2)]
theorem Wh.Wv {t0:Bool} (a0:List Xc) (a1:Int) (a2:Int) {r:List Qk} (H:Wh a0 a1 a2=some r):Yy Tryz.prog 66 [] [.d (Qgf t0 a0),.i a1,.i a2] [Jq r] (.own 0 7 0 r.length):=by
 refine Yc Tryz.func66 rfl (nt:=53) rfl (lb rfl) fun X hP h0 hX=>?_
 have hT:Xo X.P T:=hP▸tok
 have hf:X.P.funcs[66]? = some Tryz.f66:=hP▸Tryz.func66
 refine Qh hT 15 (K66 111010 0) ⟨53,(Wh.p0 t0 a0 a1 a2++[(7,.ns),(8,.i 0)]),[]⟩ ?_
 refine Qc6 [0,1,2,7,8] 7 7 48 (vec Qk.e Qk.z []) (st':=⟨53,(Wh.p0 t0 a0 a1 a2++[(7,.own 0 7 0 0),(8,.i 0)]),[Jq ([]:List Qk)]⟩) (by kernel_rfl) (by kernel_rfl) ?_
 have L:∀ n,(∀ (Wi:Int) (Qj:List Qk),iter (Wh.step a0 a1 a2) n (.l1 Wi Qj)=some r->AK X 66 ((K66 111010 0)) (Yt X [Jq r] (.own 0 7 0 r.length)) ⟨53,(Wh.p0 t0 a0 a1 a2++[(7,.own 0 7 0 Qj.length),(8,.i Wi)]),[Jq Qj]⟩):=by
  intro n
  induction n with
  | zero=>exact fun _ _ H=>Qbd H
  | succ n ih=>
   ·intro Wi Qj H
    have Yn:∀ (Qqi:Bool),stk (Wh.j1 a0 a2 Wi Qj Qqi) (iter (Wh.step a0 a1 a2) n)=some r->AK X 66 ((K66 11101000 1)) (Yt X [Jq r] (.own 0 7 0 r.length)) ⟨53,(Wh.p0 t0 a0 a1 a2++[(7,.own 0 7 0 Qj.length),(8,.i Wi),(18,.b Qqi)]),[Jq Qj]⟩:=by
     intro Qqi H
     by_cases c2:Qqi=true
     ·replace H:=sT c2 H
      rw [c2]
      refine Qh hT 2 (K66 1110100 1) ⟨53,(Wh.p0 t0 a0 a1 a2++[(7,.own 0 7 0 Qj.length),(8,.i Wi)]),[Jq Qj]⟩ ?_
      refine Qh hT 6 (K66 11101001000 2) ⟨53,(Wh.p0 t0 a0 a1 a2++[(7,.own 0 7 0 Qj.length),(8,.i Wi),(21,.d (Qgf t0 a0)),(22,.i Wi)]),[Jq Qj]⟩ ?_
      obtain ⟨h3,H⟩:=sC H
      have Jj2:∀ (Qic:Bool),stk (Wh.j2 a0 Wi Qj Qic) (iter (Wh.step a0 a1 a2) n)=some r->AK X 66 ((K66 11101001001 1)) (Yt X [Jq r] (.own 0 7 0 r.length)) ⟨53,(Wh.p0 t0 a0 a1 a2++[(7,.own 0 7 0 Qj.length),(8,.i Wi),(9,.ptr 1 0 0 0),(46,.b Qic)]),[Jq Qj,.box 185 (Qcp (a0.getD Wi.toNat Xc.z))]⟩:=by
       intro Qic H
       have Jj3:∀ (Qf0:List Qk),stk (Wh.j3 Wi Qf0) (iter (Wh.step a0 a1 a2) n)=some r->AK X 66 ((K66 11101001 1)) (Yt X [Jq r] (.own 0 7 0 r.length)) ⟨53,(Wh.p0 t0 a0 a1 a2++[(7,.own 0 7 0 Qf0.length),(8,.i Wi)]),[Jq Qf0]⟩:=by
        intro Qf0 H
        refine Qh hT 6 (K66 111010 0) ⟨53,(Wh.p0 t0 a0 a1 a2++[(7,.own 0 7 0 Qf0.length),(8,.i (IntKind.wrap .i64 (Wi+1)))]),[Jq Qf0]⟩ ?_
        exact ih (IntKind.wrap .i64 (Wi+1)) Qf0 H
       by_cases c8:Qic=true
       ·replace H:=sT c8 H
        rw [c8]
        refine Qh hT 6 (K66 1110100100110 4) ⟨53,(Wh.p0 t0 a0 a1 a2++[(8,.i Wi),(47,.own 0 7 0 Qj.length),(50,.own 2 7 0 1)]),[Jq Qj,.box 185 (Qcp (a0.getD Wi.toNat Xc.z)),.flat false 7 48 1 (fun j=>[Qk.e ((a0.getD Wi.toNat Xc.z).M)].getD j [])]⟩ ?_
        obtain ⟨h9,H⟩:=sC H
        refine Qcw (id:=0) (kk:=7) (by':=72) (t:=103) (e:=48) (z:=[.int .i64 0,.int .i64 0,.int .i64 0,.slice none 0 0,.int .i64 0,.int .i64 0,.int .i64 0]) (dst:=some 51) (id2:=2) (e2:=48) (fz:=false) (k':=(K66 1110100100110 5)) hT Qk.e Qk.z Qj ((a0.getD Wi.toNat Xc.z).M) [0,1,2,8,51] (by kernel_rfl) (by kernel_rfl) (by kernel_rfl) (by kernel_rfl) (by kernel_rfl) (by kernel_rfl) (by kernel_rfl) h9 (by omega) (st':=⟨53,(Wh.p0 t0 a0 a1 a2++[(8,.i Wi),(51,.own 3 7 0 ((Qj ++ [((a0.getD Wi.toNat Xc.z).M)]).length))]),[.gone,.box 185 (Qcp (a0.getD Wi.toNat Xc.z)),.flat false 7 48 1 (fun j=>[Qk.e ((a0.getD Wi.toNat Xc.z).M)].getD j []),Jq (Qj ++ [((a0.getD Wi.toNat Xc.z).M)])]⟩) (by kernel_rfl) ?_
        refine Xn hT 3 (K66 11101001 1) [3] ⟨53,(Wh.p0 t0 a0 a1 a2++[(7,.own 0 7 0 (Qj ++ [((a0.getD Wi.toNat Xc.z).M)]).length),(8,.i Wi)]),[Jq (Qj ++ [((a0.getD Wi.toNat Xc.z).M)])]⟩ h0 ?_
        exact Jj3 (Qj ++ [((a0.getD Wi.toNat Xc.z).M)]) H
       replace H:=sF c8 H
       rw [Zz c8]
       refine Xn hT 3 (K66 11101001 1) [0] ⟨53,(Wh.p0 t0 a0 a1 a2++[(7,.own 0 7 0 Qj.length),(8,.i Wi)]),[Jq Qj]⟩ h0 ?_
       exact Jj3 Qj H
      refine Jf hT [0,1,2,7,8,23] (i:=Wi) (n:=(a0.length:Int)) h3.1 h3.2 (k':=(K66 11101001000 3)) (st':=⟨53,(Wh.p0 t0 a0 a1 a2++[(7,.own 0 7 0 Qj.length),(8,.i Wi),(23,.d (Wi4 t0 a0 Wi.toNat 0))]),[Jq Qj]⟩) (by kernel_rfl) ?_
      refine Qh hT 10 (K66 111010010010 4) ⟨53,(Wh.p0 t0 a0 a1 a2++[(7,.own 0 7 0 Qj.length),(8,.i Wi),(9,.ptr 1 0 0 0),(28,.b (((a0.getD Wi.toNat Xc.z).Kind) == 1))]),[Jq Qj,.box 185 (Qcp (a0.getD Wi.toNat Xc.z))]⟩ ?_
      by_cases c4:((a0.getD Wi.toNat Xc.z).Kind)=1
      ·replace H:=sT c4 H
       rw [eqT c4]
       refine Qh hT 6 (K66 111010010010 10) ⟨53,(Wh.p0 t0 a0 a1 a2++[(7,.own 0 7 0 Qj.length),(8,.i Wi),(9,.ptr 1 0 0 0),(34,.b (((a0.getD Wi.toNat Xc.z).Client) == a2))]),[Jq Qj,.box 185 (Qcp (a0.getD Wi.toNat Xc.z))]⟩ ?_
       by_cases c5:((a0.getD Wi.toNat Xc.z).Client)=a2
       ·replace H:=sT c5 H
        rw [eqT c5]
        refine Qh hT 1 (K66 111010010010 11) ⟨53,(Wh.p0 t0 a0 a1 a2++[(7,.own 0 7 0 Qj.length),(8,.i Wi),(9,.ptr 1 0 0 0),(34,.b true),(35,.d (Qzl (a0.getD Wi.toNat Xc.z)))]),[Jq Qj,.box 185 (Qcp (a0.getD Wi.toNat Xc.z))]⟩ ?_
        obtain ⟨v1,h6,H⟩:=sbC H
        refine Ws (Yk:=[.d (Qzl (a0.getD Wi.toNat Xc.z))]) (dst:=some 36) (k':=(K66 111010010010 12)) [0,1,2,7,8,9,34,36] [] hP Wcw (Wx.Wv (a0.getD Wi.toNat Xc.z) h6) (by kernel_rfl) (Qz _) (.cons (Qp _) .nil) (st':=⟨53,(Wh.p0 t0 a0 a1 a2++[(7,.own 0 7 0 Qj.length),(8,.i Wi),(9,.ptr 1 0 0 0),(34,.b true),(36,.b v1)]),[Jq Qj,.box 185 (Qcp (a0.getD Wi.toNat Xc.z))]⟩) (by kernel_rfl) ?_
        refine Qh hT 2 (K66 111010010010 14) ⟨53,(Wh.p0 t0 a0 a1 a2++[(7,.own 0 7 0 Qj.length),(8,.i Wi),(9,.ptr 1 0 0 0),(38,.b v1)]),[Jq Qj,.box 185 (Qcp (a0.getD Wi.toNat Xc.z))]⟩ ?_
        by_cases c7:v1=true
        ·replace H:=sT c7 H
         rw [c7]
         refine Qh hT 9 (K66 11101001001 1) ⟨53,(Wh.p0 t0 a0 a1 a2++[(7,.own 0 7 0 Qj.length),(8,.i Wi),(9,.ptr 1 0 0 0),(46,.b ((((a0.getD Wi.toNat Xc.z).M).Seq) == (IntKind.wrap .i64 ((Qj.length:Int)+1))))]),[Jq Qj,.box 185 (Qcp (a0.getD Wi.toNat Xc.z))]⟩ ?_
         exact Jj2 ((((a0.getD Wi.toNat Xc.z).M).Seq) == (IntKind.wrap .i64 ((Qj.length:Int)+1))) H
        replace H:=sF c7 H
        rw [Zz c7]
        refine Qh hT 9 (K66 11101001001 1) (Wh.s1 t0 a0 a1 a2 Qj Wi) ?_
        exact Jj2 false H
       replace H:=sF c5 H
       rw [eqF c5]
       refine Qh hT 13 (K66 11101001001 1) (Wh.s1 t0 a0 a1 a2 Qj Wi) ?_
       exact Jj2 false H
      replace H:=sF c4 H
      rw [eqF c4]
      refine Qh hT 19 (K66 11101001001 1) (Wh.s1 t0 a0 a1 a2 Qj Wi) ?_
      exact Jj2 false H
     replace H:=sF c2 H
     rw [Zz c2]
     refine Qh hT 7 (K66 1111 1) ⟨53,[(6,.own 0 7 0 Qj.length)],[Jq Qj]⟩ ?_
     obtain rfl:=Yg H
     exact Yi hf hX h0 (.own 0 7 0 Qj.length) [0] (ac (Qa1 Qk.nl) an) (.own _ _ _ _)
    refine Qh hT 7 (K66 111010000 4) ⟨53,(Wh.p0 t0 a0 a1 a2++[(7,.own 0 7 0 Qj.length),(8,.i Wi),(13,.b (decide (Wi < a1)))]),[Jq Qj]⟩ ?_
    by_cases c1:Wi < a1
    ·replace H:=sT c1 H
     rw [decide_eq_true c1]
     refine Qh hT 6 (K66 11101000 1) ⟨53,(Wh.p0 t0 a0 a1 a2++[(7,.own 0 7 0 Qj.length),(8,.i Wi),(18,.b (decide (Wi < (a0.length:Int))))]),[Jq Qj]⟩ ?_
     exact Yn (decide (Wi < (a0.length:Int))) H
    replace H:=sF c1 H
    rw [decide_eq_false c1]
    refine Qh hT 6 (K66 11101000 1) ⟨53,(Wh.p0 t0 a0 a1 a2++[(7,.own 0 7 0 Qj.length),(8,.i Wi),(18,.b false)]),[Jq Qj]⟩ ?_
    exact Yn false H
 refine Qhm [0] ⟨53,(Wh.p0 t0 a0 a1 a2++[(7,.own 0 7 0 ([]:List Qk).length),(8,.i 0)]),[Jq ([]:List Qk)]⟩ h0 ?_
 obtain ⟨n,H⟩:=Qbz H
 exact (L n) 0 ([]:List Qk) H
abbrev Qw.p0 (t0:Bool) (a0:List Qe) (a3:Int) (a4:Int):List (Nat × AV):=[(0,.d (Qbq t0 a0)),(3,.i a3),(4,.i a4)]
theorem Qw.Wv {t0:Bool} {t1:Bool} (a0:List Qe) (a1:List Xc) (a2:Int) (a3:Int) (a4:Int) {r:List Qk} (H:Qw a0 a1 a2 a3 a4=some r):Yy Tryz.prog 35 [] [.d (Qbq t0 a0),.d (Qgf t1 a1),.i a2,.i a3,.i a4] [Jq r] (.own 0 7 0 r.length):=by
 refine Yc Tryz.func35 rfl (nt:=79) rfl (lb rfl) fun X hP h0 hX=>?_
 have hT:Xo X.P T:=hP▸tok
 have hf:X.P.funcs[35]? = some Tryz.f35:=hP▸Tryz.func35
 refine Qh hT 8 (K35 1100 1) ⟨79,[(0,.d (Qbq t0 a0)),(1,.d (Qgf t1 a1)),(2,.i a2),(3,.i a3),(4,.i a4),(16,.d (Qbq t0 a0))],[]⟩ ?_
 obtain ⟨v1,h1,H⟩:=ibC H
 refine Ws (Yk:=[.d (Qbq t0 a0)]) (dst:=some 17) (k':=(K35 1100 2)) [0,1,2,3,4,17] [] hP Wb3 (Yj.Wv (t0:=t0) a0 h1) (by kernel_rfl) (Qz _) (.cons (Qp _) .nil) (st':=⟨79,[(0,.d (Qbq t0 a0)),(1,.d (Qgf t1 a1)),(2,.i a2),(3,.i a3),(4,.i a4),(17,.b v1)],[]⟩) (by kernel_rfl) ?_
 refine Qh hT 2 (K35 110 1) ⟨79,[(0,.d (Qbq t0 a0)),(1,.d (Qgf t1 a1)),(2,.i a2),(3,.i a3),(4,.i a4),(18,.b (!v1))],[]⟩ ?_
 by_cases c2:v1=true
 ·replace H:=iT c2 H
  rw [c2]
  refine Qh hT 2 (K35 11 1) ⟨79,[(0,.d (Qbq t0 a0)),(1,.d (Qgf t1 a1)),(2,.i a2),(3,.i a3),(4,.i a4)],[]⟩ ?_
  refine Qh hT 5 (K35 1110 3) ⟨79,(Qw.p0 t0 a0 a3 a4++[(19,.d (Qgf t1 a1)),(20,.i a2),(21,.i a3)]),[]⟩ ?_
  obtain ⟨v2,h3,H⟩:=ibC H
  refine Ws (Yk:=[.d (Qgf t1 a1),.i a2,.i a3]) (dst:=some 22) (k':=(K35 1110 4)) [0,3,4,22] [] hP Wcg (Wh.Wv (t0:=t1) a1 a2 a3 h3) (by kernel_rfl) (Qz _) (.cons (Qp _) (.cons (Qp _) (.cons (Qp _) .nil))) (st':=⟨79,(Qw.p0 t0 a0 a3 a4++[(22,.own 0 7 0 v2.length)]),[Jq v2]⟩) (by kernel_rfl) ?_
  refine Qh hT 13 (K35 11111010 0) ⟨79,(Qw.p0 t0 a0 a3 a4++[(11,.own 0 7 0 v2.length),(12,.ns),(13,.i 0)]),[Jq v2]⟩ ?_
  refine Qc6 [0,3,4,11,12,13] 12 7 48 (vec Qk.e Qk.z []) (st':=⟨79,(Qw.p0 t0 a0 a3 a4++[(11,.own 0 7 0 v2.length),(12,.own 1 7 0 0),(13,.i 0)]),[Jq v2,Jq ([]:List Qk)]⟩) (by kernel_rfl) (by kernel_rfl) ?_
  have L:∀ n,(∀ (Zt:Int) (Wl:List Qk),iter (Qw.step a0 a3 a4 v2) n (.l1 Zt Wl)=some r->AK X 35 ((K35 11111010 0)) (Yt X [Jq r] (.own 0 7 0 r.length)) ⟨79,(Qw.p0 t0 a0 a3 a4++[(11,.own 0 7 0 v2.length),(12,.own 1 7 0 Wl.length),(13,.i Zt)]),[Jq v2,Jq Wl]⟩)/\(∀ (Zk:Int) (Qfx:Bool) (Qad:Int) (Jj:List Qk),iter (Qw.step a0 a3 a4 v2) n (.l2 Zk Qfx Qad Jj)=some r->AK X 35 ((K35 1111101001001010 0)) (Yt X [Jq r] (.own 0 7 0 r.length)) ⟨79,(Qw.p0 t0 a0 a3 a4++[(11,.own 0 7 0 v2.length),(12,.own 1 7 0 Jj.length),(13,.i Zk),(14,.b Qfx),(15,.i Qad)]),[Jq v2,Jq Jj]⟩):=by
   intro n
   induction n with
   | zero=>exact ⟨fun _ _ H=>Qbd H,fun _ _ _ _ H=>Qbd H⟩
   | succ n ih=>
    refine ⟨?_, ?_⟩
    ·intro Zt Wl H
     refine Qh hT 8 (K35 1111101000 1) ⟨79,(Qw.p0 t0 a0 a3 a4++[(11,.own 0 7 0 v2.length),(12,.own 1 7 0 Wl.length),(13,.i Zt),(26,.b (decide (Zt < (v2.length:Int))))]),[Jq v2,Jq Wl]⟩ ?_
     by_cases c4:Zt < (v2.length:Int)
     ·replace H:=sT c4 H
      rw [decide_eq_true c4]
      refine Qh hT 2 (K35 111110100 1) ⟨79,(Qw.p0 t0 a0 a3 a4++[(11,.own 0 7 0 v2.length),(12,.own 1 7 0 Wl.length),(13,.i Zt)]),[Jq v2,Jq Wl]⟩ ?_
      refine Qh hT 13 (K35 1111101001001010 0) ⟨79,(Qw.p0 t0 a0 a3 a4++[(11,.own 0 7 0 v2.length),(12,.own 1 7 0 Wl.length),(13,.i Zt),(14,.b false),(15,.i 0)]),[Jq v2,Jq Wl]⟩ ?_
      exact ih.2 Zt false 0 Wl H
     replace H:=sF c4 H
     rw [decide_eq_false c4]
     refine Qh hT 7 (K35 111111 1) ⟨79,[(10,.own 1 7 0 Wl.length)],[Jq v2,Jq Wl]⟩ ?_
     obtain rfl:=Yg H
     exact Yi hf hX h0 (.own 1 7 0 Wl.length) [1] (ac (Qa1 Qk.nl) an) (.own _ _ _ _)
    intro Zk Qfx Qad Jj H
    refine Qh hT 8 (K35 111110100100101000 1) ⟨79,(Qw.p0 t0 a0 a3 a4++[(11,.own 0 7 0 v2.length),(12,.own 1 7 0 Jj.length),(13,.i Zk),(14,.b Qfx),(15,.i Qad),(32,.b (decide (Qad < (a0.length:Int))))]),[Jq v2,Jq Jj]⟩ ?_
    by_cases c5:Qad < (a0.length:Int)
    ·replace H:=sT c5 H
     have Jj2:∀ (Qof:Bool),stk (Qw.j2 Zk Qad Jj Qof) (iter (Qw.step a0 a3 a4 v2) n)=some r->AK X 35 ((K35 111110100100101001 1)) (Yt X [Jq r] (.own 0 7 0 r.length)) ⟨79,(Qw.p0 t0 a0 a3 a4++[(11,.own 0 7 0 v2.length),(12,.own 1 7 0 Jj.length),(13,.i Zk),(14,.b Qof),(15,.i Qad)]),[Jq v2,Jq Jj]⟩:=by
      intro Qof H
      refine Qh hT 6 (K35 1111101001001010 0) ⟨79,(Qw.p0 t0 a0 a3 a4++[(11,.own 0 7 0 v2.length),(12,.own 1 7 0 Jj.length),(13,.i Zk),(14,.b Qof),(15,.i (IntKind.wrap .i64 (Qad+1)))]),[Jq v2,Jq Jj]⟩ ?_
      exact ih.2 Zk Qof (IntKind.wrap .i64 (Qad+1)) Jj H
     rw [decide_eq_true c5]
     refine Qh hT 2 (K35 11111010010010100 1) ⟨79,(Qw.p0 t0 a0 a3 a4++[(11,.own 0 7 0 v2.length),(12,.own 1 7 0 Jj.length),(13,.i Zk),(14,.b Qfx),(15,.i Qad)]),[Jq v2,Jq Jj]⟩ ?_
     refine Qh hT 2 (K35 1111101001001010010 0) ⟨79,(Qw.p0 t0 a0 a3 a4++[(11,.own 0 7 0 v2.length),(12,.own 1 7 0 Jj.length),(13,.i Zk),(14,.b Qfx),(15,.i Qad)]),[Jq v2,Jq Jj]⟩ ?_
     by_cases c9:Qfx=true
     ·replace H:=sT c9 H
      refine Qax (hP▸mixed) 31 [0,3,4,11,12,13,14,15] (sm [.b true,.b true,.Qn [],.Qn [],.Qn [],.Qn [],.Qn [],.Qn [],.Qn [],.Qn [],.Qn [],.Qn [],.Qn [],.Qn [],.Qn [],.Qn [],.Qn [],.Qn [],.Qn [],.Qn [],.Qn [],.Qn [],.Qn [],.Qn [],.Qn [],.Qn [],.Qn [],.Qn [],.Qn [],.Qn [],.Qn []]) (Qg (Qg (Qg (Qg (Qg (Qg (Qg (Qg (Qg (Qg (Qg (Qg (Qg (Qg (Qg (Qg (Qg (Qg (Qg (Qg (Qg (Qg (Qg (Qg (Qg (Qg (Qg (Qg (Qg (Qg (opV op0 hT 35 (.b Qfx) (.b true) (by rw [c9]<;>rfl)) hT) hT) hT) hT) hT) hT) hT) hT) hT) hT) hT) hT) hT) hT) hT) hT) hT) hT) hT) hT) hT) hT) hT) hT) hT) hT) hT) hT) hT) hT) ?_
      refine Qh hT 6 (K35 111110100100101001 1) ⟨79,(Qw.p0 t0 a0 a3 a4++[(11,.own 0 7 0 v2.length),(12,.own 1 7 0 Jj.length),(13,.i Zk),(14,.b true),(15,.i Qad)]),[Jq v2,Jq Jj]⟩ ?_
      exact Jj2 true H
     replace H:=sF c9 H
     obtain ⟨h10,H⟩:=sC H
     by_cases c11:(((a0.getD Qad.toNat Qe.z).M).Client)=a3
     ·replace H:=sT c11 H
      obtain ⟨h12,H⟩:=sC H
      by_cases c13:(((a0.getD Qad.toNat Qe.z).M).Seq)=((v2.getD Zk.toNat Qk.z).Seq)
      ·replace H:=sT c13 H
       refine Qax (hP▸mixed) 31 [0,3,4,11,12,13,14,15] (sm [.b false,.b false,.d (Qbq t0 a0),.i Qad,.d (Qej t0 a0 Qad.toNat 0),.d (Qej t0 a0 Qad.toNat 0),.d (Qej t0 a0 Qad.toNat 0),.i (((a0.getD Qad.toNat Qe.z).M).Client),.i a3,.b true,.b true,.d (Qbq t0 a0),.i Qad,.d (Qej t0 a0 Qad.toNat 0),.d (Qej t0 a0 Qad.toNat 0),.d (Qej t0 a0 Qad.toNat 1),.i (((a0.getD Qad.toNat Qe.z).M).Seq),.own 0 7 0 v2.length,.i Zk,.ptr 0 7 Zk.toNat 0,.ptr 0 7 Zk.toNat 1,.i ((v2.getD Zk.toNat Qk.z).Seq),.b true,.b true,.b true,.d (Qbq t0 a0),.i Qad,.d (Qej t0 a0 Qad.toNat 0),.d (Qej t0 a0 Qad.toNat 7),.i ((a0.getD Qad.toNat Qe.z).Time),.i a4]) (Qg (Qg (Qg (Jn (Qg (Qg (Qg (Qg (opV (Jn (Qg (Jn (Qg (Qg (Qg (Qg (Qg (Jn (Qg (Qg (Qg (opV (Qg (Qg (Qg (Qg (Jn (Qg (Qg (Qg (opV op0 hT 35 (.b Qfx) (.b false) (by rw [Zz c9]<;>rfl)) hT) hT) hT) (fun R rest h=>Zd hT (i:=Qad) (n:=(a0.length:Int)) h10.1 h10.2 (by kernel_rfl) h)) hT) hT) hT) hT) hT 44 (.b ((((a0.getD Qad.toNat Qe.z).M).Client) == a3)) (.b true) (by rw [eqT c11]<;>rfl)) hT) hT) hT) (fun R rest h=>Zd hT (i:=Qad) (n:=(a0.length:Int)) h10.1 h10.2 (by kernel_rfl) h)) hT) hT) hT) hT) hT) (fun R rest h=>Zd hT (i:=Zk) (n:=(v2.length:Int)) h12.1 h12.2 (by kernel_rfl) h)) hT) (fun R rest h=>Qc5 hT (i:=Zk.toNat) (n:=v2.length) (ltN h12.1 h12.2) (by kernel_rfl) h)) hT 57 (.b ((((a0.getD Qad.toNat Qe.z).M).Seq) == ((v2.getD Zk.toNat Qk.z).Seq))) (.b true) (by rw [eqT c13]<;>rfl)) hT) hT) hT) hT) (fun R rest h=>Zd hT (i:=Qad) (n:=(a0.length:Int)) h10.1 h10.2 (by kernel_rfl) h)) hT) hT) hT) ?_
       refine Qh hT 6 (K35 111110100100101001 1) ⟨79,(Qw.p0 t0 a0 a3 a4++[(11,.own 0 7 0 v2.length),(12,.own 1 7 0 Jj.length),(13,.i Zk),(14,.b (decide (((a0.getD Qad.toNat Qe.z).Time)<=a4))),(15,.i Qad)]),[Jq v2,Jq Jj]⟩ ?_
       exact Jj2 (decide (((a0.getD Qad.toNat Qe.z).Time)<=a4)) H
      replace H:=sF c13 H
      refine Qax (hP▸mixed) 31 [0,3,4,11,12,13,14,15] (sm [.b false,.b false,.d (Qbq t0 a0),.i Qad,.d (Qej t0 a0 Qad.toNat 0),.d (Qej t0 a0 Qad.toNat 0),.d (Qej t0 a0 Qad.toNat 0),.i (((a0.getD Qad.toNat Qe.z).M).Client),.i a3,.b true,.b true,.d (Qbq t0 a0),.i Qad,.d (Qej t0 a0 Qad.toNat 0),.d (Qej t0 a0 Qad.toNat 0),.d (Qej t0 a0 Qad.toNat 1),.i (((a0.getD Qad.toNat Qe.z).M).Seq),.own 0 7 0 v2.length,.i Zk,.ptr 0 7 Zk.toNat 0,.ptr 0 7 Zk.toNat 1,.i ((v2.getD Zk.toNat Qk.z).Seq),.b false,.b false,.b false,.Qn [],.Qn [],.Qn [],.Qn [],.Qn [],.Qn []]) (Qg (Qg (Qg (Qg (Qg (Qg (Qg (Qg (opV (Jn (Qg (Jn (Qg (Qg (Qg (Qg (Qg (Jn (Qg (Qg (Qg (opV (Qg (Qg (Qg (Qg (Jn (Qg (Qg (Qg (opV op0 hT 35 (.b Qfx) (.b false) (by rw [Zz c9]<;>rfl)) hT) hT) hT) (fun R rest h=>Zd hT (i:=Qad) (n:=(a0.length:Int)) h10.1 h10.2 (by kernel_rfl) h)) hT) hT) hT) hT) hT 44 (.b ((((a0.getD Qad.toNat Qe.z).M).Client) == a3)) (.b true) (by rw [eqT c11]<;>rfl)) hT) hT) hT) (fun R rest h=>Zd hT (i:=Qad) (n:=(a0.length:Int)) h10.1 h10.2 (by kernel_rfl) h)) hT) hT) hT) hT) hT) (fun R rest h=>Zd hT (i:=Zk) (n:=(v2.length:Int)) h12.1 h12.2 (by kernel_rfl) h)) hT) (fun R rest h=>Qc5 hT (i:=Zk.toNat) (n:=v2.length) (ltN h12.1 h12.2) (by kernel_rfl) h)) hT 57 (.b ((((a0.getD Qad.toNat Qe.z).M).Seq) == ((v2.getD Zk.toNat Qk.z).Seq))) (.b false) (by rw [eqF c13]<;>rfl)) hT) hT) hT) hT) hT) hT) hT) hT) ?_
      refine Qh hT 6 (K35 111110100100101001 1) ⟨79,(Qw.p0 t0 a0 a3 a4++[(11,.own 0 7 0 v2.length),(12,.own 1 7 0 Jj.length),(13,.i Zk),(14,.b false),(15,.i Qad)]),[Jq v2,Jq Jj]⟩ ?_
      exact Jj2 false H
     replace H:=sF c11 H
     refine Qax (hP▸mixed) 31 [0,3,4,11,12,13,14,15] (sm [.b false,.b false,.d (Qbq t0 a0),.i Qad,.d (Qej t0 a0 Qad.toNat 0),.d (Qej t0 a0 Qad.toNat 0),.d (Qej t0 a0 Qad.toNat 0),.i (((a0.getD Qad.toNat Qe.z).M).Client),.i a3,.b false,.b false,.Qn [],.Qn [],.Qn [],.Qn [],.Qn [],.Qn [],.Qn [],.Qn [],.Qn [],.Qn [],.Qn [],.Qn [],.b false,.b false,.Qn [],.Qn [],.Qn [],.Qn [],.Qn [],.Qn []]) (Qg (Qg (Qg (Qg (Qg (Qg (Qg (Qg (Qg (Qg (Qg (Qg (Qg (Qg (Qg (Qg (Qg (Qg (Qg (Qg (Qg (opV (Qg (Qg (Qg (Qg (Jn (Qg (Qg (Qg (opV op0 hT 35 (.b Qfx) (.b false) (by rw [Zz c9]<;>rfl)) hT) hT) hT) (fun R rest h=>Zd hT (i:=Qad) (n:=(a0.length:Int)) h10.1 h10.2 (by kernel_rfl) h)) hT) hT) hT) hT) hT 44 (.b ((((a0.getD Qad.toNat Qe.z).M).Client) == a3)) (.b false) (by rw [eqF c11]<;>rfl)) hT) hT) hT) hT) hT) hT) hT) hT) hT) hT) hT) hT) hT) hT) hT) hT) hT) hT) hT) hT) hT) ?_
     refine Qh hT 6 (K35 111110100100101001 1) ⟨79,(Qw.p0 t0 a0 a3 a4++[(11,.own 0 7 0 v2.length),(12,.own 1 7 0 Jj.length),(13,.i Zk),(14,.b false),(15,.i Qad)]),[Jq v2,Jq Jj]⟩ ?_
     exact Jj2 false H
    replace H:=sF c5 H
    have Yn:∀ (Qfz:List Qk),stk (Qw.j1 Zk Qfz) (iter (Qw.step a0 a3 a4 v2) n)=some r->AK X 35 ((K35 1111101001 1)) (Yt X [Jq r] (.own 0 7 0 r.length)) ⟨79,(Qw.p0 t0 a0 a3 a4++[(11,.own 0 7 0 v2.length),(12,.own 1 7 0 Qfz.length),(13,.i Zk)]),[Jq v2,Jq Qfz]⟩:=by
     intro Qfz H
     refine Qh hT 6 (K35 11111010 0) ⟨79,(Qw.p0 t0 a0 a3 a4++[(11,.own 0 7 0 v2.length),(12,.own 1 7 0 Qfz.length),(13,.i (IntKind.wrap .i64 (Zk+1)))]),[Jq v2,Jq Qfz]⟩ ?_
     exact ih.1 (IntKind.wrap .i64 (Zk+1)) Qfz H
    rw [decide_eq_false c5]
    refine Qh hT 7 (K35 11111010010011 1) ⟨79,(Qw.p0 t0 a0 a3 a4++[(11,.own 0 7 0 v2.length),(12,.own 1 7 0 Jj.length),(13,.i Zk),(70,.b (!Qfx))]),[Jq v2,Jq Jj]⟩ ?_
    by_cases c6:Qfx=true
    ·replace H:=sT c6 H
     rw [c6]
     refine Qh hT 3 (K35 1111101001 1) ⟨79,(Qw.p0 t0 a0 a3 a4++[(11,.own 0 7 0 v2.length),(12,.own 1 7 0 Jj.length),(13,.i Zk)]),[Jq v2,Jq Jj]⟩ ?_
     exact Yn Jj H
    replace H:=sF c6 H
    rw [Zz c6]
    refine Qh hT 5 (K35 1111101001001110 3) ⟨79,(Qw.p0 t0 a0 a3 a4++[(11,.own 0 7 0 v2.length),(13,.i Zk),(71,.own 1 7 0 Jj.length),(72,.own 0 7 0 v2.length),(73,.i Zk)]),[Jq v2,Jq Jj]⟩ ?_
    obtain ⟨h7,H⟩:=sC H
    refine Jf hT [0,3,4,11,13,71,74] (i:=Zk) (n:=(v2.length:Int)) h7.1 h7.2 (k':=(K35 1111101001001110 4)) (st':=⟨79,(Qw.p0 t0 a0 a3 a4++[(11,.own 0 7 0 v2.length),(13,.i Zk),(71,.own 1 7 0 Jj.length),(74,.ptr 0 7 Zk.toNat 0)]),[Jq v2,Jq Jj]⟩) (by kernel_rfl) ?_
    refine Qni hT [0,3,4,11,13,71,75] (i:=Zk.toNat) (n:=v2.length) (ltN h7.1 h7.2) (k':=(K35 1111101001001110 5)) (st':=⟨79,(Qw.p0 t0 a0 a3 a4++[(11,.own 0 7 0 v2.length),(13,.i Zk),(71,.own 1 7 0 Jj.length),(75,.d (Qcb (v2.getD Zk.toNat Qk.z)))]),[Jq v2,Jq Jj]⟩) (by kernel_rfl) ?_
    refine Qh hT 1 (K35 1111101001001110 6) ⟨79,(Qw.p0 t0 a0 a3 a4++[(11,.own 0 7 0 v2.length),(13,.i Zk),(71,.own 1 7 0 Jj.length),(76,.own 2 7 0 1)]),[Jq v2,Jq Jj,.flat false 7 48 1 (fun j=>[Qk.e (v2.getD Zk.toNat Qk.z)].getD j [])]⟩ ?_
    obtain ⟨h8,H⟩:=sC H
    refine Qcw (id:=1) (kk:=7) (by':=72) (t:=103) (e:=48) (z:=[.int .i64 0,.int .i64 0,.int .i64 0,.slice none 0 0,.int .i64 0,.int .i64 0,.int .i64 0]) (dst:=some 77) (id2:=2) (e2:=48) (fz:=false) (k':=(K35 1111101001001110 7)) hT Qk.e Qk.z Jj (v2.getD Zk.toNat Qk.z) [0,3,4,11,13,77] (by kernel_rfl) (by kernel_rfl) (by kernel_rfl) (by kernel_rfl) (by kernel_rfl) (by kernel_rfl) (by kernel_rfl) h8 (by omega) (st':=⟨79,(Qw.p0 t0 a0 a3 a4++[(11,.own 0 7 0 v2.length),(13,.i Zk),(77,.own 3 7 0 ((Jj ++ [v2.getD Zk.toNat Qk.z]).length))]),[Jq v2,.gone,.flat false 7 48 1 (fun j=>[Qk.e (v2.getD Zk.toNat Qk.z)].getD j []),Jq (Jj ++ [v2.getD Zk.toNat Qk.z])]⟩) (by kernel_rfl) ?_
    refine Xn hT 3 (K35 1111101001 1) [0,3] ⟨79,(Qw.p0 t0 a0 a3 a4++[(11,.own 0 7 0 v2.length),(12,.own 1 7 0 (Jj ++ [v2.getD Zk.toNat Qk.z]).length),(13,.i Zk)]),[Jq v2,Jq (Jj ++ [v2.getD Zk.toNat Qk.z])]⟩ h0 ?_
    exact Yn (Jj ++ [v2.getD Zk.toNat Qk.z]) H
  refine Qhm [0,1] ⟨79,(Qw.p0 t0 a0 a3 a4++[(11,.own 0 7 0 v2.length),(12,.own 1 7 0 ([]:List Qk).length),(13,.i 0)]),[Jq v2,Jq ([]:List Qk)]⟩ h0 ?_
  obtain ⟨n,H⟩:=Qbz H
  exact (L n).1 0 ([]:List Qk) H
 replace H:=iF c2 H
 rw [Zz c2]
 refine Qh hT 5 (K35 11010 1) ⟨79,[(10,.ns)],[]⟩ ?_
 refine Qc6 [10] 10 7 48 (vec Qk.e Qk.z []) (st':=⟨79,[(10,.own 0 7 0 0)],[Jq ([]:List Qk)]⟩) (by kernel_rfl) (by kernel_rfl) ?_
 obtain rfl:=Yg H
 exact Yi hf hX h0 (.own 0 7 0 0) [0] (ac (Qa1 Qk.nl) an) (.own _ _ _ _)
abbrev Xi.p0 (a0:List Qc) (t1:Bool) (a1:List Qk) (t2:Bool) (a2:List Qi):List (Nat × AV):=[(0,.d (Yf true a0)),(1,.d (Qjw t1 a1)),(2,.d (Qcc t2 a2))]
theorem Xi.Wv {t1:Bool} {t2:Bool} (a0:List Qc) (a1:List Qk) (a2:List Qi) {r:List Qc} (H:Xi a0 a1 a2=some r):Yy Tryz.prog 32 [] [.d (Yf true a0),.d (Qjw t1 a1),.d (Qcc t2 a2)] [] (.d (Yf true r)):=by
 refine Yc Tryz.func32 rfl (nt:=51) rfl (lb rfl) fun X hP h0 hX=>?_
 have hT:Xo X.P T:=hP▸tok
 have hf:X.P.funcs[32]? = some Tryz.f32:=hP▸Tryz.func32
 refine Qh hT 8 (K32 1100 1) ⟨51,(Xi.p0 a0 t1 a1 t2 a2++[(12,.d (Yf true a0))]),[]⟩ ?_
 obtain ⟨v1,h1,H⟩:=ibC H
 have Yn:∀ (Qqj:Bool),(Xi.j1 a0 a1 a2 Qqj)=some r->AK X 32 ((K32 110 1)) (Yt X [] (.d (Yf true r))) ⟨51,(Xi.p0 a0 t1 a1 t2 a2++[(19,.b Qqj)]),[]⟩:=by
  intro Qqj H
  by_cases c4:Qqj=true
  ·replace H:=iT c4 H
   rw [c4]
   refine Qh hT 5 (K32 11010 1) ⟨51,[(6,.ns)],[]⟩ ?_
   refine Qdt (av:=.d (.v (.slice none 0 0))) (y:=Yf true ([]:List Qc)) [6] 6 (st':=⟨51,[(6,.d (Yf true ([]:List Qc)))],[]⟩) (by kernel_rfl) (.nil _) (by kernel_rfl) ?_
   obtain rfl:=Yg H
   exact Yi hf hX h0 (.d (Yf true ([]:List Qc))) [] an (.d (.sl fun _ _=>Qc.nl _))
  replace H:=iF c4 H
  rw [Zz c4]
  refine Qh hT 2 (K32 11 1) ⟨51,(Xi.p0 a0 t1 a1 t2 a2),[]⟩ ?_
  refine Qh hT 7 (K32 111010 0) ⟨51,(Xi.p0 a0 t1 a1 t2 a2++[(7,.i 0)]),[]⟩ ?_
  have L:∀ n,(∀ (Qq:Int),iter (Xi.step a0 a1 a2) n (.l1 Qq)=some r->AK X 32 ((K32 111010 0)) (Yt X [] (.d (Yf true r))) ⟨51,(Xi.p0 a0 t1 a1 t2 a2++[(7,.i Qq)]),[]⟩)/\(∀ (Qea:List Qc) (Jv:Int),iter (Xi.step a0 a1 a2) n (.l2 Qea Jv)=some r->AK X 32 ((K32 11111010 0)) (Yt X [] (.d (Yf true r))) ⟨51,[(1,.d (Qjw t1 a1)),(2,.d (Qcc t2 a2)),(8,.d (Yf true Qea)),(9,.i Jv)],[]⟩):=by
   intro n
   induction n with
   | zero=>exact ⟨fun _ H=>Qbd H,fun _ _ H=>Qbd H⟩
   | succ n ih=>
    refine ⟨?_, ?_⟩
    ·intro Qq H
     refine Qh hT 8 (K32 11101000 1) ⟨51,(Xi.p0 a0 t1 a1 t2 a2++[(7,.i Qq),(23,.b (decide (Qq < (a1.length:Int))))]),[]⟩ ?_
     by_cases c5:Qq < (a1.length:Int)
     ·replace H:=sT c5 H
      rw [decide_eq_true c5]
      refine Qh hT 2 (K32 1110100 1) ⟨51,(Xi.p0 a0 t1 a1 t2 a2++[(7,.i Qq)]),[]⟩ ?_
      refine Qh hT 6 (K32 11101001000 2) ⟨51,(Xi.p0 a0 t1 a1 t2 a2++[(7,.i Qq),(26,.d (Qjw t1 a1)),(27,.i Qq)]),[]⟩ ?_
      obtain ⟨h6,H⟩:=sC H
      refine Jf hT [0,1,2,7,28] (i:=Qq) (n:=(a1.length:Int)) h6.1 h6.2 (k':=(K32 11101001000 3)) (st':=⟨51,(Xi.p0 a0 t1 a1 t2 a2++[(7,.i Qq),(28,.d (Wii t1 a1 Qq.toNat 0))]),[]⟩) (by kernel_rfl) ?_
      refine Qh hT 1 (K32 11101001000 4) ⟨51,(Xi.p0 a0 t1 a1 t2 a2++[(7,.i Qq),(29,.d (Qcb (a1.getD Qq.toNat Qk.z)))]),[]⟩ ?_
      obtain ⟨v3,h7,H⟩:=sbC H
      refine Ws (Yk:=[.d (Qcb (a1.getD Qq.toNat Qk.z))]) (dst:=some 30) (k':=(K32 11101001000 5)) [0,1,2,7,30] [] hP Qhv (Qo.Wv (a1.getD Qq.toNat Qk.z) h7) (by kernel_rfl) (Qz _) (.cons (Qp _) .nil) (st':=⟨51,(Xi.p0 a0 t1 a1 t2 a2++[(7,.i Qq),(30,.b v3)]),[]⟩) (by kernel_rfl) ?_
      refine Qh hT 2 (K32 1110100100 1) ⟨51,(Xi.p0 a0 t1 a1 t2 a2++[(7,.i Qq),(31,.b (!v3))]),[]⟩ ?_
      by_cases c8:v3=true
      ·replace H:=sT c8 H
       rw [c8]
       refine Qh hT 3 (K32 11101001 1) ⟨51,(Xi.p0 a0 t1 a1 t2 a2++[(7,.i Qq)]),[]⟩ ?_
       refine Qh hT 6 (K32 111010 0) ⟨51,(Xi.p0 a0 t1 a1 t2 a2++[(7,.i (IntKind.wrap .i64 (Qq+1)))]),[]⟩ ?_
       exact ih.1 (IntKind.wrap .i64 (Qq+1)) H
      replace H:=sF c8 H
      rw [Zz c8]
      refine Qh hT 5 (K32 111010010010 1) ⟨51,[(6,.ns)],[]⟩ ?_
      refine Qdt (av:=.d (.v (.slice none 0 0))) (y:=Yf true ([]:List Qc)) [6] 6 (st':=⟨51,[(6,.d (Yf true ([]:List Qc)))],[]⟩) (by kernel_rfl) (.nil _) (by kernel_rfl) ?_
      obtain rfl:=Yg H
      exact Yi hf hX h0 (.d (Yf true ([]:List Qc))) [] an (.d (.sl fun _ _=>Qc.nl _))
     replace H:=sF c5 H
     rw [decide_eq_false c5]
     refine Qh hT 14 (K32 11111010 0) ⟨51,[(1,.d (Qjw t1 a1)),(2,.d (Qcc t2 a2)),(8,.d (Yf true a0)),(9,.i 0)],[]⟩ ?_
     exact ih.2 a0 0 H
    intro Qea Jv H
    refine Qh hT 8 (K32 1111101000 1) ⟨51,[(1,.d (Qjw t1 a1)),(2,.d (Qcc t2 a2)),(8,.d (Yf true Qea)),(9,.i Jv),(36,.b (decide (Jv < (a1.length:Int))))],[]⟩ ?_
    by_cases c9:Jv < (a1.length:Int)
    ·replace H:=sT c9 H
     rw [decide_eq_true c9]
     refine Qh hT 2 (K32 111110100 1) ⟨51,[(1,.d (Qjw t1 a1)),(2,.d (Qcc t2 a2)),(8,.d (Yf true Qea)),(9,.i Jv)],[]⟩ ?_
     refine Qh hT 7 (K32 1111101001000 3) ⟨51,[(1,.d (Qjw t1 a1)),(2,.d (Qcc t2 a2)),(9,.i Jv),(40,.d (Yf true Qea)),(41,.d (Qjw t1 a1)),(42,.i Jv)],[]⟩ ?_
     obtain ⟨h10,H⟩:=sC H
     refine Jf hT [1,2,9,40,43] (i:=Jv) (n:=(a1.length:Int)) h10.1 h10.2 (k':=(K32 1111101001000 4)) (st':=⟨51,[(1,.d (Qjw t1 a1)),(2,.d (Qcc t2 a2)),(9,.i Jv),(40,.d (Yf true Qea)),(43,.d (Wii t1 a1 Jv.toNat 0))],[]⟩) (by kernel_rfl) ?_
     refine Qh hT 2 (K32 1111101001000 6) ⟨51,[(1,.d (Qjw t1 a1)),(2,.d (Qcc t2 a2)),(9,.i Jv),(40,.d (Yf true Qea)),(44,.d (Qcb (a1.getD Jv.toNat Qk.z))),(45,.d (Qcc t2 a2))],[]⟩ ?_
     obtain ⟨v4,h11,H⟩:=sbC H
     refine Ws (Yk:=[.d (Yf true Qea),.d (Qcb (a1.getD Jv.toNat Qk.z)),.d (Qcc t2 a2)]) (dst:=some 46) (k':=(K32 1111101001000 7)) [1,2,9,46] [] hP Quh (Qt.Wv (t2:=t2) Qea (a1.getD Jv.toNat Qk.z) a2 h11) (by kernel_rfl) (Qz _) (.cons (Qp _) (.cons (Qp _) (.cons (Qp _) .nil))) (st':=⟨51,[(1,.d (Qjw t1 a1)),(2,.d (Qcc t2 a2)),(9,.i Jv),(46,.Qn [.d (Yf true v4.1),.b v4.2])],[]⟩) (by kernel_rfl) ?_
     refine Qh hT 17 (K32 11111010 0) ⟨51,[(1,.d (Qjw t1 a1)),(2,.d (Qcc t2 a2)),(8,.d (Yf true v4.1)),(9,.i (IntKind.wrap .i64 (Jv+1)))],[]⟩ ?_
     exact ih.2 v4.1 (IntKind.wrap .i64 (Jv+1)) H
    replace H:=sF c9 H
    rw [decide_eq_false c9]
    refine Qh hT 7 (K32 111111 1) ⟨51,[(6,.d (Yf true Qea))],[]⟩ ?_
    obtain rfl:=Yg H
    exact Yi hf hX h0 (.d (Yf true Qea)) [] an (.d (.sl fun _ _=>Qc.nl _))
  obtain ⟨n,H⟩:=Qbz H
  exact (L n).1 0 H
 refine Ws (Yk:=[.d (Yf true a0)]) (dst:=some 13) (k':=(K32 1100 2)) [0,1,2,13] [] hP Qug (Wy.Wv (t0:=true) a0 h1) (by kernel_rfl) (Qz _) (.cons (Qp _) .nil) (st':=⟨51,(Xi.p0 a0 t1 a1 t2 a2++[(13,.b v1)]),[]⟩) (by kernel_rfl) ?_
 refine Qh hT 2 (K32 1100 4) ⟨51,(Xi.p0 a0 t1 a1 t2 a2++[(15,.b (!v1))]),[]⟩ ?_
 by_cases c2:v1=true
 ·replace H:=iT c2 H
  rw [c2]
  refine Qh hT 1 (K32 1100 5) ⟨51,(Xi.p0 a0 t1 a1 t2 a2++[(15,.b false),(16,.d (Qcc t2 a2))]),[]⟩ ?_
  obtain ⟨v2,h3,H⟩:=ibC H
  refine Ws (Yk:=[.d (Qcc t2 a2)]) (dst:=some 17) (k':=(K32 1100 6)) [0,1,2,15,17] [] hP Qkj (Yd.Wv (t0:=t2) a2 h3) (by kernel_rfl) (Qz _) (.cons (Qp _) .nil) (st':=⟨51,(Xi.p0 a0 t1 a1 t2 a2++[(15,.b false),(17,.b v2)]),[]⟩) (by kernel_rfl) ?_
  refine Qh hT 3 (K32 110 1) ⟨51,(Xi.p0 a0 t1 a1 t2 a2++[(19,.b (!v2))]),[]⟩ ?_
  exact Yn (!v2) H
 replace H:=iF c2 H
 rw [Zz c2]
 refine Qh hT 5 (K32 110 1) ⟨51,(Xi.p0 a0 t1 a1 t2 a2++[(19,.b true)]),[]⟩ ?_
 exact Yn true H
theorem Qe9.Wv {t0:Bool} {t1:Bool} (a0:List Qe) (a1:List Xc) (a2:Int) (a3:Int) (a4:Int) (a5:Int) {r:Xf} (H:Qe9 a0 a1 a2 a3 a4 a5=some r):Yy Tryz.prog 12 [] [.d (Qbq t0 a0),.d (Qgf t1 a1),.i a2,.i a3,.i a4,.i a5] [] (.d (Qg4 r)):=by
 refine Yc Tryz.func12 rfl (nt:=29) rfl (lb rfl) fun X hP h0 hX=>?_
 have hT:Xo X.P T:=hP▸tok
 have hf:X.P.funcs[12]? = some Tryz.f12:=hP▸Tryz.func12
 refine Qh hT 7 (K12 110 1) ⟨29,[(0,.d (Qbq t0 a0)),(1,.d (Qgf t1 a1)),(2,.i a2),(3,.i a3),(4,.i a4),(5,.i a5),(12,.ptr 0 0 0 0),(14,.d (Qbq t0 a0))],[.box 50 [.i 0,.b false]]⟩ ?_
 refine Ws (Yk:=[]) (dst:=some 15) (k':=(K12 110 2)) [0,1,2,3,4,5,12,14,15] [] hP Qub (Qb9.Wv) (by kernel_rfl) (Qz _) .nil (st':=⟨29,[(0,.d (Qbq t0 a0)),(1,.d (Qgf t1 a1)),(2,.i a2),(3,.i a3),(4,.i a4),(5,.i a5),(12,.ptr 0 0 0 0),(14,.d (Qbq t0 a0)),(15,.own 1 2 0 Qb9.length)],[.box 50 [.i 0,.b false],Qhu Qb9]⟩) (by kernel_rfl) ?_
 obtain ⟨v1,h1,H⟩:=idC H
 rw [<- h1]
 refine Qh hT 1 (K12 110 3) ⟨29,[(0,.d (Qbq t0 a0)),(1,.d (Qgf t1 a1)),(2,.i a2),(3,.i a3),(4,.i a4),(5,.i a5),(12,.ptr 0 0 0 0),(14,.d (Qbq t0 a0)),(15,.own 1 2 0 v1.length),(16,.i a5)],[.box 50 [.i 0,.b false],Qhu v1]⟩ ?_
 obtain ⟨v2,h2,H⟩:=ibC H
 refine Ws (Yk:=[.d (Qbq t0 a0),.own 1 2 0 v1.length,.i a5]) (dst:=some 17) (k':=(K12 110 4)) [0,1,2,3,4,5,12,17] [] hP Wb0 (Qu.Wv (t0:=t0) (t1:=false) a0 v1 a5 h2) (by kernel_rfl) (Qz _) (.cons (Qp _) (.cons (.Qek (ty:=46) (by kernel_rfl) rfl) (.cons (Qp _) .nil))) (st':=⟨29,[(0,.d (Qbq t0 a0)),(1,.d (Qgf t1 a1)),(2,.i a2),(3,.i a3),(4,.i a4),(5,.i a5),(12,.ptr 0 0 0 0),(17,.d (Yf true v2))],[.box 50 [.i 0,.b false],Qhu v1]⟩) (by kernel_rfl) ?_
 refine Qh hT 5 (K12 110 9) ⟨29,[(4,.i a4),(12,.ptr 0 0 0 0),(17,.d (Yf true v2)),(18,.d (Qbq t0 a0)),(19,.d (Qgf t1 a1)),(20,.i a2),(21,.i a3),(22,.i a5)],[.box 50 [.i 0,.b false],Qhu v1]⟩ ?_
 obtain ⟨v3,h3,H⟩:=ibC H
 refine Ws (Yk:=[.d (Qbq t0 a0),.d (Qgf t1 a1),.i a2,.i a3,.i a5]) (dst:=some 23) (k':=(K12 110 10)) [4,12,17,23] [] hP Wb1 (Qw.Wv (t0:=t0) (t1:=t1) a0 a1 a2 a3 a5 h3) (by kernel_rfl) (Qz _) (.cons (Qp _) (.cons (Qp _) (.cons (Qp _) (.cons (Qp _) (.cons (Qp _) .nil))))) (st':=⟨29,[(4,.i a4),(12,.ptr 0 0 0 0),(17,.d (Yf true v2)),(23,.own 2 7 0 v3.length)],[.box 50 [.i 0,.b false],Qhu v1,Jq v3]⟩) (by kernel_rfl) ?_
 refine Ws (Yk:=[]) (dst:=some 24) (k':=(K12 110 11)) [4,12,17,23,24] [] hP Qub (Qb9.Wv) (by kernel_rfl) (Qz _) .nil (st':=⟨29,[(4,.i a4),(12,.ptr 0 0 0 0),(17,.d (Yf true v2)),(23,.own 2 7 0 v3.length),(24,.own 3 2 0 Qb9.length)],[.box 50 [.i 0,.b false],Qhu v1,Jq v3,Qhu Qb9]⟩) (by kernel_rfl) ?_
 obtain ⟨v4,h4,H⟩:=idC H
 rw [<- h4]
 obtain ⟨v5,h5,H⟩:=ibC H
 refine Ws (Yk:=[.d (Yf true v2),.own 2 7 0 v3.length,.own 3 2 0 v4.length]) (dst:=some 25) (k':=(K12 110 12)) [4,12,25] [] hP Wbz (Xi.Wv (t1:=false) (t2:=false) v2 v3 v4 h5) (by kernel_rfl) (Qz _) (.cons (Qp _) (.cons (.Qek (ty:=48) (by kernel_rfl) rfl) (.cons (.Qek (ty:=46) (by kernel_rfl) rfl) .nil))) (st':=⟨29,[(4,.i a4),(12,.ptr 0 0 0 0),(25,.d (Yf true v5))],[.box 50 [.i 0,.b false],Qhu v1,Jq v3,Qhu v4]⟩) (by kernel_rfl) ?_
 refine Qh hT 6 (K12 1110 2) ⟨29,[(12,.ptr 0 0 0 0),(26,.d (Yf true v5)),(27,.i a4)],[.box 50 [.i 0,.b false],Qhu v1,Jq v3,Qhu v4]⟩ ?_
 obtain ⟨v6,h6,H⟩:=ibC H
 refine Ws (Yk:=[.d (Yf true v5),.i a4]) (dst:=some 28) (k':=(K12 1110 3)) [12,28] [] hP Quc (Zi.Wv (t0:=true) v5 a4 h6) (by kernel_rfl) (Qz _) (.cons (Qp _) (.cons (Qp _) .nil)) (st':=⟨29,[(12,.ptr 0 0 0 0),(28,.d (Qg4 v6))],[.box 50 [.i 0,.b false],Qhu v1,Jq v3,Qhu v4]⟩) (by kernel_rfl) ?_
 refine Qh hT 2 (K12 111 1) ⟨29,[(12,.ptr 0 0 0 0)],[.box 50 (Qd6 v6),Qhu v1,Jq v3,Qhu v4]⟩ ?_
 obtain rfl:=Yg H
 exact Qdz hT hf hX (av:=.d (Qg4 v6)) (by kernel_rfl) [] (Jh (by kernel_rfl)) (by decide) (by rw [h0];rfl) (by kernel_rfl) an (.d (.agg (Xf.nl _)))
abbrev Qf.q1 (v5:(List Wq) × Int):=([(v5.1.getD ((IntKind.wrap .i64 ((v5.1.length:Int) - 1)).toNat) Wq.z).E]:List Qd)
abbrev Qf.q2 (v1:Int):=([(⟨v1,IntKind.wrap .i64 (v1+1)⟩:Qb)]:List Qb)
abbrev Qf.s1 (a0:List Qd) (v1:Int) (v5:(List Wq) × Int) (v6:(List Qd) × Int) (Qs:Int) (Qaa:Int) (Je:Bool):St:=⟨142,[(0,.d (Xq true a0)),(1,.i v1),(5,.own 0 13 0 v5.1.length),(7,.own 1 9 0 v6.1.length),(9,.ptr 2 0 0 0),(10,.i Qs),(81,.b true)],[Jw v5.1,Jp v6.1,.box 36 [.i Qaa,.b Je]]⟩
abbrev Qf.p0 (a0:List Qd):List (Nat × AV):=[(0,.d (Xq true a0))]
theorem Qf.Wv (a0:List Qd) (a1:Int) {r:Bool} (H:Qf a0 a1=some r):Yy Tryz.prog 3 [] [.d (Xq true a0),.i a1] [] (.b r):=by
 refine Yc Tryz.func3 rfl (nt:=142) rfl (lb rfl) fun X hP h0 hX=>?_
 have hT:Xo X.P T:=hP▸tok
 have hf:X.P.funcs[3]? = some Tryz.f3:=hP▸Tryz.func3
 refine Qh hT 11 (K3 110 5) ⟨142,(Qf.p0 a0++[(1,.i (Int.tmod (IntKind.wrap .i64 ((Int.tmod a1 4096)+4096)) 4096))]),[]⟩ ?_
 obtain ⟨v1,h1,H⟩:=idC H
 rw [<- h1]
 refine Qh hT 5 (K3 11100 1) ⟨142,(Qf.p0 a0++[(1,.i v1),(17,.d (Xq true a0))]),[]⟩ ?_
 obtain ⟨v2,h2,H⟩:=ibC H
 have Yn:∀ (Qhk:Bool),(Qf.j1 a0 v1 Qhk)=some r->AK X 3 ((K3 1110 1)) (Yt X [] (.b r)) ⟨142,(Qf.p0 a0++[(1,.i v1),(24,.b Qhk)]),[]⟩:=by
  intro Qhk H
  by_cases c5:Qhk=true
  ·replace H:=iT c5 H
   rw [c5]
   refine Qh hT 3 (K3 1110100 0) ⟨142,[],[]⟩ ?_
   obtain ⟨v4,h6,H⟩:=ibC H
   refine Ws (Yk:=[]) (dst:=some 25) (k':=(K3 1110100 1)) [25] [] hP Qlp (Qm.Wv h6) (by kernel_rfl) (Qz _) .nil (st':=⟨142,[(25,.b v4)],[]⟩) (by kernel_rfl) ?_
   refine Qh hT 2 (K3 111010 1) ⟨142,[(4,.b v4)],[]⟩ ?_
   obtain rfl:=Yg H
   exact Yi hf hX h0 (.b v4) [] an (.d (.v _))
  replace H:=iF c5 H
  rw [Zz c5]
  refine Qh hT 2 (K3 111 1) ⟨142,(Qf.p0 a0++[(1,.i v1)]),[]⟩ ?_
  refine Qh hT 4 (K3 11110 2) ⟨142,(Qf.p0 a0++[(1,.i v1),(27,.d (Xq true a0)),(28,.i v1)]),[]⟩ ?_
  obtain ⟨v5,h7,H⟩:=ibC H
  refine Ws (Yk:=[.d (Xq true a0),.i v1]) (dst:=some 29) (k':=(K3 11110 3)) [0,1,29] [] hP Wfc (Wt.Wv (t0:=true) a0 v1 h7) (by kernel_rfl) (Qz _) (.cons (Qp _) (.cons (Qp _) .nil)) (st':=⟨142,(Qf.p0 a0++[(1,.i v1),(29,.Qn [.own 0 13 0 v5.1.length,.i v5.2])]),[Jw v5.1]⟩) (by kernel_rfl) ?_
  refine Qh hT 14 (K3 111110 6) ⟨142,(Qf.p0 a0++[(1,.i v1),(5,.own 0 13 0 v5.1.length),(6,.i v5.2),(33,.d (Xq true a0)),(38,.own 1 2 0 1)]),[Jw v5.1,.flat false 2 33 1 (fun j=>[[.i v1,.i (IntKind.wrap .i64 (v1+1))]].getD j [])]⟩ ?_
  refine Qhq 1 (kk:=2) (fz:=false) (ty:=33) (n:=(Qf.q2 v1).length) (vec Qb.e Qb.z (Qf.q2 v1)) (by kernel_rfl) Qha (st':=⟨142,(Qf.p0 a0++[(1,.i v1),(5,.own 0 13 0 v5.1.length),(6,.i v5.2),(33,.d (Xq true a0)),(38,.own 1 2 0 ((Qf.q2 v1).length))]),[Jw v5.1,Qap (Qf.q2 v1)]⟩) (by kernel_rfl) ?_
  refine Qdp 1 (kk:=2) (n:=(Qf.q2 v1).length) (ty:=33) (g:=vec Qb.e Qb.z (Qf.q2 v1)) (by kernel_rfl) (st':=⟨142,(Qf.p0 a0++[(1,.i v1),(5,.own 0 13 0 v5.1.length),(6,.i v5.2),(33,.d (Xq true a0)),(38,.own 1 2 0 ((Qf.q2 v1).length))]),[Jw v5.1,Qbt (Qf.q2 v1)]⟩) (by kernel_rfl) ?_
  obtain ⟨v6,h8,H⟩:=ibC H
  have Jj2:∀ (Qq0:Bool),(Qf.j2 a0 v1 v5 v6 Qq0)=some r->AK X 3 ((K3 1111110 1)) (Yt X [] (.b r)) ⟨142,(Qf.p0 a0++[(1,.i v1),(5,.own 0 13 0 v5.1.length),(7,.own 1 9 0 v6.1.length),(47,.b Qq0)]),[Jw v5.1,Jp v6.1]⟩:=by
   intro Qq0 H
   by_cases c10:Qq0=true
   ·replace H:=iT c10 H
    rw [c10]
    refine Qh hT 5 (K3 111111010 1) ⟨142,[(4,.b false)],[Jw v5.1,Jp v6.1]⟩ ?_
    obtain rfl:=Yg H
    exact Yi hf hX h0 (.b false) [] an (.d (.v _))
   replace H:=iF c10 H
   rw [Zz c10]
   refine Qh hT 2 (K3 111111 1) ⟨142,(Qf.p0 a0++[(1,.i v1),(5,.own 0 13 0 v5.1.length),(7,.own 1 9 0 v6.1.length)]),[Jw v5.1,Jp v6.1]⟩ ?_
   refine Qh hT 11 (K3 11111111010 0) ⟨142,(Qf.p0 a0++[(1,.i v1),(5,.own 0 13 0 v5.1.length),(7,.own 1 9 0 v6.1.length),(9,.ptr 2 0 0 0),(10,.i 0)]),[Jw v5.1,Jp v6.1,.box 36 [.i 0,.b false]]⟩ ?_
   have L:∀ n,(∀ (Qs:Int) (Qaa:Int) (Je:Bool),iter (Qf.step a0 v1 v5 v6) n (.l1 Qs Qaa Je)=some r->AK X 3 ((K3 11111111010 0)) (Yt X [] (.b r)) ⟨142,(Qf.p0 a0++[(1,.i v1),(5,.own 0 13 0 v5.1.length),(7,.own 1 9 0 v6.1.length),(9,.ptr 2 0 0 0),(10,.i Qs)]),[Jw v5.1,Jp v6.1,.box 36 [.i Qaa,.b Je]]⟩)/\(∀ (Qbw:Int) (Qal:Int) (Qca:Bool),iter (Qf.step a0 v1 v5 v6) n (.l2 Qbw Qal Qca)=some r->AK X 3 ((K3 111111111010 0)) (Yt X [] (.b r)) ⟨142,(Qf.p0 a0++[(1,.i v1),(5,.own 0 13 0 v5.1.length),(7,.own 1 9 0 v6.1.length),(9,.ptr 2 0 0 0),(11,.i Qbw)]),[Jw v5.1,Jp v6.1,.box 36 [.i Qal,.b Qca]]⟩):=by
    intro n
    induction n with
    | zero=>exact ⟨fun _ _ _ H=>Qbd H,fun _ _ _ H=>Qbd H⟩
    | succ n ih=>
     refine ⟨?_, ?_⟩
     ·intro Qs Qaa Je H
      refine Qh hT 8 (K3 1111111101000 1) ⟨142,(Qf.p0 a0++[(1,.i v1),(5,.own 0 13 0 v5.1.length),(7,.own 1 9 0 v6.1.length),(9,.ptr 2 0 0 0),(10,.i Qs),(51,.b (decide (Qs < (v5.1.length:Int))))]),[Jw v5.1,Jp v6.1,.box 36 [.i Qaa,.b Je]]⟩ ?_
      by_cases c11:Qs < (v5.1.length:Int)
      ·replace H:=sT c11 H
       rw [decide_eq_true c11]
       refine Qh hT 2 (K3 111111110100 1) ⟨142,(Qf.p0 a0++[(1,.i v1),(5,.own 0 13 0 v5.1.length),(7,.own 1 9 0 v6.1.length),(9,.ptr 2 0 0 0),(10,.i Qs)]),[Jw v5.1,Jp v6.1,.box 36 [.i Qaa,.b Je]]⟩ ?_
       refine Qh hT 4 (K3 1111111101001000 0) ⟨142,(Qf.p0 a0++[(1,.i v1),(5,.own 0 13 0 v5.1.length),(7,.own 1 9 0 v6.1.length),(9,.ptr 2 0 0 0),(10,.i Qs)]),[Jw v5.1,Jp v6.1,.box 36 [.i Qaa,.b Je]]⟩ ?_
       obtain ⟨h12,H⟩:=sC H
       have Jj3:∀ (Qq5:Bool),stk (Qf.j3 v5 Qs Qq5) (iter (Qf.step a0 v1 v5 v6) n)=some r->AK X 3 ((K3 1111111101001000 1)) (Yt X [] (.b r)) ⟨142,(Qf.p0 a0++[(1,.i v1),(5,.own 0 13 0 v5.1.length),(7,.own 1 9 0 v6.1.length),(9,.ptr 2 0 0 0),(10,.i Qs),(81,.b Qq5)]),[Jw v5.1,Jp v6.1,.box 36 [.i Qaa,.b Je]]⟩:=by
        intro Qq5 H
        by_cases c26:Qq5=true
        ·replace H:=sT c26 H
         rw [c26]
         refine Qh hT 5 (K3 111111110100100010 1) ⟨142,[(4,.b false)],[Jw v5.1,Jp v6.1,.box 36 [.i Qaa,.b Je]]⟩ ?_
         obtain rfl:=Yg H
         exact Yi hf hX h0 (.b false) [] an (.d (.v _))
        replace H:=sF c26 H
        rw [Zz c26]
        refine Qh hT 2 (K3 111111110100100 1) ⟨142,(Qf.p0 a0++[(1,.i v1),(5,.own 0 13 0 v5.1.length),(7,.own 1 9 0 v6.1.length),(9,.ptr 2 0 0 0),(10,.i Qs)]),[Jw v5.1,Jp v6.1,.box 36 [.i Qaa,.b Je]]⟩ ?_
        refine Qh hT 3 (K3 1111111101001001 2) ⟨142,(Qf.p0 a0++[(1,.i v1),(5,.own 0 13 0 v5.1.length),(7,.own 1 9 0 v6.1.length),(9,.ptr 2 0 0 0),(10,.i Qs),(82,.own 0 13 0 v5.1.length),(83,.i Qs)]),[Jw v5.1,Jp v6.1,.box 36 [.i Qaa,.b Je]]⟩ ?_
        refine Jf hT [0,1,5,7,9,10,84] (i:=Qs) (n:=(v5.1.length:Int)) h12.1 h12.2 (k':=(K3 1111111101001001 3)) (st':=⟨142,(Qf.p0 a0++[(1,.i v1),(5,.own 0 13 0 v5.1.length),(7,.own 1 9 0 v6.1.length),(9,.ptr 2 0 0 0),(10,.i Qs),(84,.ptr 0 13 Qs.toNat 0)]),[Jw v5.1,Jp v6.1,.box 36 [.i Qaa,.b Je]]⟩) (by kernel_rfl) ?_
        refine Qh hT 1 (K3 1111111101001001 4) ⟨142,(Qf.p0 a0++[(1,.i v1),(5,.own 0 13 0 v5.1.length),(7,.own 1 9 0 v6.1.length),(9,.ptr 2 0 0 0),(10,.i Qs),(85,.ptr 0 13 Qs.toNat 11)]),[Jw v5.1,Jp v6.1,.box 36 [.i Qaa,.b Je]]⟩ ?_
        refine Qni hT [0,1,5,7,9,10,86] (i:=Qs.toNat) (n:=v5.1.length) (ltN h12.1 h12.2) (k':=(K3 1111111101001001 5)) (st':=⟨142,(Qf.p0 a0++[(1,.i v1),(5,.own 0 13 0 v5.1.length),(7,.own 1 9 0 v6.1.length),(9,.ptr 2 0 0 0),(10,.i Qs),(86,.d (Qht ((v5.1.getD Qs.toNat Wq.z).Is)))]),[Jw v5.1,Jp v6.1,.box 36 [.i Qaa,.b Je]]⟩) (by kernel_rfl) ?_
        refine Xn hT 9 (K3 11111111010 0) [0,1,2] ⟨142,(Qf.p0 a0++[(1,.i v1),(5,.own 0 13 0 v5.1.length),(7,.own 1 9 0 v6.1.length),(9,.ptr 2 0 0 0),(10,.i (IntKind.wrap .i64 (Qs+1)))]),[Jw v5.1,Jp v6.1,.box 36 [.i (((v5.1.getD Qs.toNat Wq.z).Is).Val),.b (((v5.1.getD Qs.toNat Wq.z).Is).Some)]]⟩ h0 ?_
        exact ih.1 (IntKind.wrap .i64 (Qs+1)) (((v5.1.getD Qs.toNat Wq.z).Is).Val) (((v5.1.getD Qs.toNat Wq.z).Is).Some) H
       by_cases c13:(((v5.1.getD Qs.toNat Wq.z).Was).Val)=Qaa
       ·replace H:=sT c13 H
        by_cases c14:(((v5.1.getD Qs.toNat Wq.z).Was).Some)=true
        ·replace H:=sT c14 H
         by_cases c15:Je=true
         ·replace H:=sT c15 H
          obtain ⟨v7,h16,H⟩:=sbC H
          obtain ⟨v8,h17,H⟩:=sbC H
          by_cases c18:v8=true
          ·replace H:=sT c18 H
           refine Qax (hP▸mixed) 28 [0,1,5,7,9,10] (sm [.own 0 13 0 v5.1.length,.i Qs,.ptr 0 13 Qs.toNat 0,.ptr 0 13 Qs.toNat 9,.d (Qht ((v5.1.getD Qs.toNat Wq.z).Was)),.d (.agg [.i Qaa,.b Je]),.b false,.b false,.own 0 13 0 v5.1.length,.i Qs,.ptr 0 13 Qs.toNat 0,.ptr 0 13 Qs.toNat 0,.ptr 0 13 Qs.toNat 0,.d (Qas (((v5.1.getD Qs.toNat Wq.z).E).M)),.d (Qcb v7),.i v1,.b true,.b false,.b false,.b false,.own 0 13 0 v5.1.length,.i Qs,.ptr 0 13 Qs.toNat 0,.ptr 0 13 Qs.toNat 0,.ptr 0 13 Qs.toNat 8,.b (((v5.1.getD Qs.toNat Wq.z).E).Jt),.b (!(((v5.1.getD Qs.toNat Wq.z).E).Jt)),.b (!(((v5.1.getD Qs.toNat Wq.z).E).Jt))]) (Qg (Qg (Jn (Qg (Qg (Jn (Qg (Qg (Qg (Qg (Qg (Jn (Qg (Jn (Jn (Qg (Qg (Jn (Qg (Qg (Qg (opV (Qg (Jn (Qg (Jn (Qg (Qg op0 hT) hT) (fun R rest h=>Zd hT (i:=Qs) (n:=(v5.1.length:Int)) h12.1 h12.2 (by kernel_rfl) h)) hT) (fun R rest h=>Qc5 hT (i:=Qs.toNat) (n:=v5.1.length) (ltN h12.1 h12.2) (by kernel_rfl) h)) hT) hT 60 (.b (!(((((v5.1.getD Qs.toNat Wq.z).Was).Val) == Qaa) && ((((v5.1.getD Qs.toNat Wq.z).Was).Some) == Je)))) (.b false) (by rw [eqT c13,c14,c15]<;>rfl)) hT) hT) hT) (fun R rest h=>Zd hT (i:=Qs) (n:=(v5.1.length:Int)) h12.1 h12.2 (by kernel_rfl) h)) hT) hT) (fun R rest h=>Qc5 hT (i:=Qs.toNat) (n:=v5.1.length) (ltN h12.1 h12.2) (by kernel_rfl) h)) (fun R rest h=>Ju (Yk:=[.d (Qas (((v5.1.getD Qs.toNat Wq.z).E).M))]) (dst:=some 68) hP Qki (Xa.Wv (((v5.1.getD Qs.toNat Wq.z).E).M) h16) (by kernel_rfl) (.cons (Qp _) .nil) (by kernel_rfl) h)) hT) (fun R rest h=>Ju (Yk:=[.d (Qcb v7),.i v1]) (dst:=some 70) hP Qiy (by have q:=Xl.Wv v7 v1 h17;rw [c18] at q;exact q) (by kernel_rfl) (.cons (Qp _) (.cons (Qp _) .nil)) (by kernel_rfl) h)) hT) hT) hT) hT) hT) (fun R rest h=>Zd hT (i:=Qs) (n:=(v5.1.length:Int)) h12.1 h12.2 (by kernel_rfl) h)) hT) hT) (fun R rest h=>Qc5 hT (i:=Qs.toNat) (n:=v5.1.length) (ltN h12.1 h12.2) (by kernel_rfl) h)) hT) hT) ?_
           refine Qh hT 1 (K3 1111111101001000 1) ⟨142,(Qf.p0 a0++[(1,.i v1),(5,.own 0 13 0 v5.1.length),(7,.own 1 9 0 v6.1.length),(9,.ptr 2 0 0 0),(10,.i Qs),(81,.b (!(((v5.1.getD Qs.toNat Wq.z).E).Jt)))]),[Jw v5.1,Jp v6.1,.box 36 [.i Qaa,.b Je]]⟩ ?_
           exact Jj3 (!(((v5.1.getD Qs.toNat Wq.z).E).Jt)) H
          replace H:=sF c18 H
          refine Qax (hP▸mixed) 28 [0,1,5,7,9,10] (sm [.own 0 13 0 v5.1.length,.i Qs,.ptr 0 13 Qs.toNat 0,.ptr 0 13 Qs.toNat 9,.d (Qht ((v5.1.getD Qs.toNat Wq.z).Was)),.d (.agg [.i Qaa,.b Je]),.b false,.b false,.own 0 13 0 v5.1.length,.i Qs,.ptr 0 13 Qs.toNat 0,.ptr 0 13 Qs.toNat 0,.ptr 0 13 Qs.toNat 0,.d (Qas (((v5.1.getD Qs.toNat Wq.z).E).M)),.d (Qcb v7),.i v1,.b false,.b true,.b true,.b true,.Qn [],.Qn [],.Qn [],.Qn [],.Qn [],.Qn [],.Qn [],.b true]) (Qg (Qg (Qg (Qg (Qg (Qg (Qg (Qg (Qg (Qg (Qg (Jn (Qg (Jn (Jn (Qg (Qg (Jn (Qg (Qg (Qg (opV (Qg (Jn (Qg (Jn (Qg (Qg op0 hT) hT) (fun R rest h=>Zd hT (i:=Qs) (n:=(v5.1.length:Int)) h12.1 h12.2 (by kernel_rfl) h)) hT) (fun R rest h=>Qc5 hT (i:=Qs.toNat) (n:=v5.1.length) (ltN h12.1 h12.2) (by kernel_rfl) h)) hT) hT 60 (.b (!(((((v5.1.getD Qs.toNat Wq.z).Was).Val) == Qaa) && ((((v5.1.getD Qs.toNat Wq.z).Was).Some) == Je)))) (.b false) (by rw [eqT c13,c14,c15]<;>rfl)) hT) hT) hT) (fun R rest h=>Zd hT (i:=Qs) (n:=(v5.1.length:Int)) h12.1 h12.2 (by kernel_rfl) h)) hT) hT) (fun R rest h=>Qc5 hT (i:=Qs.toNat) (n:=v5.1.length) (ltN h12.1 h12.2) (by kernel_rfl) h)) (fun R rest h=>Ju (Yk:=[.d (Qas (((v5.1.getD Qs.toNat Wq.z).E).M))]) (dst:=some 68) hP Qki (Xa.Wv (((v5.1.getD Qs.toNat Wq.z).E).M) h16) (by kernel_rfl) (.cons (Qp _) .nil) (by kernel_rfl) h)) hT) (fun R rest h=>Ju (Yk:=[.d (Qcb v7),.i v1]) (dst:=some 70) hP Qiy (by have q:=Xl.Wv v7 v1 h17;rw [Zz c18] at q;exact q) (by kernel_rfl) (.cons (Qp _) (.cons (Qp _) .nil)) (by kernel_rfl) h)) hT) hT) hT) hT) hT) hT) hT) hT) hT) hT) hT) ?_
          refine Qh hT 1 (K3 1111111101001000 1) (Qf.s1 a0 v1 v5 v6 Qs Qaa Je) ?_
          exact Jj3 true H
         replace H:=sF c15 H
         refine Qax (hP▸mixed) 28 [0,1,5,7,9,10] (sm [.own 0 13 0 v5.1.length,.i Qs,.ptr 0 13 Qs.toNat 0,.ptr 0 13 Qs.toNat 9,.d (Qht ((v5.1.getD Qs.toNat Wq.z).Was)),.d (.agg [.i Qaa,.b Je]),.b true,.b true,.Qn [],.Qn [],.Qn [],.Qn [],.Qn [],.Qn [],.Qn [],.Qn [],.Qn [],.Qn [],.b true,.b true,.Qn [],.Qn [],.Qn [],.Qn [],.Qn [],.Qn [],.Qn [],.b true]) (Qg (Qg (Qg (Qg (Qg (Qg (Qg (Qg (Qg (Qg (Qg (Qg (Qg (Qg (Qg (Qg (Qg (Qg (Qg (Qg (Qg (opV (Qg (Jn (Qg (Jn (Qg (Qg op0 hT) hT) (fun R rest h=>Zd hT (i:=Qs) (n:=(v5.1.length:Int)) h12.1 h12.2 (by kernel_rfl) h)) hT) (fun R rest h=>Qc5 hT (i:=Qs.toNat) (n:=v5.1.length) (ltN h12.1 h12.2) (by kernel_rfl) h)) hT) hT 60 (.b (!(((((v5.1.getD Qs.toNat Wq.z).Was).Val) == Qaa) && ((((v5.1.getD Qs.toNat Wq.z).Was).Some) == Je)))) (.b true) (by rw [eqT c13,c14,Zz c15]<;>rfl)) hT) hT) hT) hT) hT) hT) hT) hT) hT) hT) hT) hT) hT) hT) hT) hT) hT) hT) hT) hT) hT) ?_
         refine Qh hT 1 (K3 1111111101001000 1) (Qf.s1 a0 v1 v5 v6 Qs Qaa Je) ?_
         exact Jj3 true H
        replace H:=sF c14 H
        by_cases c19:Je=true
        ·replace H:=sT c19 H
         refine Qax (hP▸mixed) 28 [0,1,5,7,9,10] (sm [.own 0 13 0 v5.1.length,.i Qs,.ptr 0 13 Qs.toNat 0,.ptr 0 13 Qs.toNat 9,.d (Qht ((v5.1.getD Qs.toNat Wq.z).Was)),.d (.agg [.i Qaa,.b Je]),.b true,.b true,.Qn [],.Qn [],.Qn [],.Qn [],.Qn [],.Qn [],.Qn [],.Qn [],.Qn [],.Qn [],.b true,.b true,.Qn [],.Qn [],.Qn [],.Qn [],.Qn [],.Qn [],.Qn [],.b true]) (Qg (Qg (Qg (Qg (Qg (Qg (Qg (Qg (Qg (Qg (Qg (Qg (Qg (Qg (Qg (Qg (Qg (Qg (Qg (Qg (Qg (opV (Qg (Jn (Qg (Jn (Qg (Qg op0 hT) hT) (fun R rest h=>Zd hT (i:=Qs) (n:=(v5.1.length:Int)) h12.1 h12.2 (by kernel_rfl) h)) hT) (fun R rest h=>Qc5 hT (i:=Qs.toNat) (n:=v5.1.length) (ltN h12.1 h12.2) (by kernel_rfl) h)) hT) hT 60 (.b (!(((((v5.1.getD Qs.toNat Wq.z).Was).Val) == Qaa) && ((((v5.1.getD Qs.toNat Wq.z).Was).Some) == Je)))) (.b true) (by rw [eqT c13,Zz c14,c19]<;>rfl)) hT) hT) hT) hT) hT) hT) hT) hT) hT) hT) hT) hT) hT) hT) hT) hT) hT) hT) hT) hT) hT) ?_
         refine Qh hT 1 (K3 1111111101001000 1) (Qf.s1 a0 v1 v5 v6 Qs Qaa Je) ?_
         exact Jj3 true H
        replace H:=sF c19 H
        obtain ⟨v9,h20,H⟩:=sbC H
        obtain ⟨v10,h21,H⟩:=sbC H
        by_cases c22:v10=true
        ·replace H:=sT c22 H
         refine Qax (hP▸mixed) 28 [0,1,5,7,9,10] (sm [.own 0 13 0 v5.1.length,.i Qs,.ptr 0 13 Qs.toNat 0,.ptr 0 13 Qs.toNat 9,.d (Qht ((v5.1.getD Qs.toNat Wq.z).Was)),.d (.agg [.i Qaa,.b Je]),.b false,.b false,.own 0 13 0 v5.1.length,.i Qs,.ptr 0 13 Qs.toNat 0,.ptr 0 13 Qs.toNat 0,.ptr 0 13 Qs.toNat 0,.d (Qas (((v5.1.getD Qs.toNat Wq.z).E).M)),.d (Qcb v9),.i v1,.b true,.b false,.b false,.b false,.own 0 13 0 v5.1.length,.i Qs,.ptr 0 13 Qs.toNat 0,.ptr 0 13 Qs.toNat 0,.ptr 0 13 Qs.toNat 8,.b (((v5.1.getD Qs.toNat Wq.z).E).Jt),.b (!(((v5.1.getD Qs.toNat Wq.z).E).Jt)),.b (!(((v5.1.getD Qs.toNat Wq.z).E).Jt))]) (Qg (Qg (Jn (Qg (Qg (Jn (Qg (Qg (Qg (Qg (Qg (Jn (Qg (Jn (Jn (Qg (Qg (Jn (Qg (Qg (Qg (opV (Qg (Jn (Qg (Jn (Qg (Qg op0 hT) hT) (fun R rest h=>Zd hT (i:=Qs) (n:=(v5.1.length:Int)) h12.1 h12.2 (by kernel_rfl) h)) hT) (fun R rest h=>Qc5 hT (i:=Qs.toNat) (n:=v5.1.length) (ltN h12.1 h12.2) (by kernel_rfl) h)) hT) hT 60 (.b (!(((((v5.1.getD Qs.toNat Wq.z).Was).Val) == Qaa) && ((((v5.1.getD Qs.toNat Wq.z).Was).Some) == Je)))) (.b false) (by rw [eqT c13,Zz c14,Zz c19]<;>rfl)) hT) hT) hT) (fun R rest h=>Zd hT (i:=Qs) (n:=(v5.1.length:Int)) h12.1 h12.2 (by kernel_rfl) h)) hT) hT) (fun R rest h=>Qc5 hT (i:=Qs.toNat) (n:=v5.1.length) (ltN h12.1 h12.2) (by kernel_rfl) h)) (fun R rest h=>Ju (Yk:=[.d (Qas (((v5.1.getD Qs.toNat Wq.z).E).M))]) (dst:=some 68) hP Qki (Xa.Wv (((v5.1.getD Qs.toNat Wq.z).E).M) h20) (by kernel_rfl) (.cons (Qp _) .nil) (by kernel_rfl) h)) hT) (fun R rest h=>Ju (Yk:=[.d (Qcb v9),.i v1]) (dst:=some 70) hP Qiy (by have q:=Xl.Wv v9 v1 h21;rw [c22] at q;exact q) (by kernel_rfl) (.cons (Qp _) (.cons (Qp _) .nil)) (by kernel_rfl) h)) hT) hT) hT) hT) hT) (fun R rest h=>Zd hT (i:=Qs) (n:=(v5.1.length:Int)) h12.1 h12.2 (by kernel_rfl) h)) hT) hT) (fun R rest h=>Qc5 hT (i:=Qs.toNat) (n:=v5.1.length) (ltN h12.1 h12.2) (by kernel_rfl) h)) hT) hT) ?_
         refine Qh hT 1 (K3 1111111101001000 1) ⟨142,(Qf.p0 a0++[(1,.i v1),(5,.own 0 13 0 v5.1.length),(7,.own 1 9 0 v6.1.length),(9,.ptr 2 0 0 0),(10,.i Qs),(81,.b (!(((v5.1.getD Qs.toNat Wq.z).E).Jt)))]),[Jw v5.1,Jp v6.1,.box 36 [.i Qaa,.b Je]]⟩ ?_
         exact Jj3 (!(((v5.1.getD Qs.toNat Wq.z).E).Jt)) H
        replace H:=sF c22 H
        refine Qax (hP▸mixed) 28 [0,1,5,7,9,10] (sm [.own 0 13 0 v5.1.length,.i Qs,.ptr 0 13 Qs.toNat 0,.ptr 0 13 Qs.toNat 9,.d (Qht ((v5.1.getD Qs.toNat Wq.z).Was)),.d (.agg [.i Qaa,.b Je]),.b false,.b false,.own 0 13 0 v5.1.length,.i Qs,.ptr 0 13 Qs.toNat 0,.ptr 0 13 Qs.toNat 0,.ptr 0 13 Qs.toNat 0,.d (Qas (((v5.1.getD Qs.toNat Wq.z).E).M)),.d (Qcb v9),.i v1,.b false,.b true,.b true,.b true,.Qn [],.Qn [],.Qn [],.Qn [],.Qn [],.Qn [],.Qn [],.b true]) (Qg (Qg (Qg (Qg (Qg (Qg (Qg (Qg (Qg (Qg (Qg (Jn (Qg (Jn (Jn (Qg (Qg (Jn (Qg (Qg (Qg (opV (Qg (Jn (Qg (Jn (Qg (Qg op0 hT) hT) (fun R rest h=>Zd hT (i:=Qs) (n:=(v5.1.length:Int)) h12.1 h12.2 (by kernel_rfl) h)) hT) (fun R rest h=>Qc5 hT (i:=Qs.toNat) (n:=v5.1.length) (ltN h12.1 h12.2) (by kernel_rfl) h)) hT) hT 60 (.b (!(((((v5.1.getD Qs.toNat Wq.z).Was).Val) == Qaa) && ((((v5.1.getD Qs.toNat Wq.z).Was).Some) == Je)))) (.b false) (by rw [eqT c13,Zz c14,Zz c19]<;>rfl)) hT) hT) hT) (fun R rest h=>Zd hT (i:=Qs) (n:=(v5.1.length:Int)) h12.1 h12.2 (by kernel_rfl) h)) hT) hT) (fun R rest h=>Qc5 hT (i:=Qs.toNat) (n:=v5.1.length) (ltN h12.1 h12.2) (by kernel_rfl) h)) (fun R rest h=>Ju (Yk:=[.d (Qas (((v5.1.getD Qs.toNat Wq.z).E).M))]) (dst:=some 68) hP Qki (Xa.Wv (((v5.1.getD Qs.toNat Wq.z).E).M) h20) (by kernel_rfl) (.cons (Qp _) .nil) (by kernel_rfl) h)) hT) (fun R rest h=>Ju (Yk:=[.d (Qcb v9),.i v1]) (dst:=some 70) hP Qiy (by have q:=Xl.Wv v9 v1 h21;rw [Zz c22] at q;exact q) (by kernel_rfl) (.cons (Qp _) (.cons (Qp _) .nil)) (by kernel_rfl) h)) hT) hT) hT) hT) hT) hT) hT) hT) hT) hT) hT) ?_
        refine Qh hT 1 (K3 1111111101001000 1) (Qf.s1 a0 v1 v5 v6 Qs Qaa Je) ?_
        exact Jj3 true H
       replace H:=sF c13 H
       by_cases c23:(((v5.1.getD Qs.toNat Wq.z).Was).Some)=true
       ·replace H:=sT c23 H
        by_cases c24:Je=true
        ·replace H:=sT c24 H
         refine Qax (hP▸mixed) 28 [0,1,5,7,9,10] (sm [.own 0 13 0 v5.1.length,.i Qs,.ptr 0 13 Qs.toNat 0,.ptr 0 13 Qs.toNat 9,.d (Qht ((v5.1.getD Qs.toNat Wq.z).Was)),.d (.agg [.i Qaa,.b Je]),.b true,.b true,.Qn [],.Qn [],.Qn [],.Qn [],.Qn [],.Qn [],.Qn [],.Qn [],.Qn [],.Qn [],.b true,.b true,.Qn [],.Qn [],.Qn [],.Qn [],.Qn [],.Qn [],.Qn [],.b true]) (Qg (Qg (Qg (Qg (Qg (Qg (Qg (Qg (Qg (Qg (Qg (Qg (Qg (Qg (Qg (Qg (Qg (Qg (Qg (Qg (Qg (opV (Qg (Jn (Qg (Jn (Qg (Qg op0 hT) hT) (fun R rest h=>Zd hT (i:=Qs) (n:=(v5.1.length:Int)) h12.1 h12.2 (by kernel_rfl) h)) hT) (fun R rest h=>Qc5 hT (i:=Qs.toNat) (n:=v5.1.length) (ltN h12.1 h12.2) (by kernel_rfl) h)) hT) hT 60 (.b (!(((((v5.1.getD Qs.toNat Wq.z).Was).Val) == Qaa) && ((((v5.1.getD Qs.toNat Wq.z).Was).Some) == Je)))) (.b true) (by rw [eqF c13,c23,c24]<;>rfl)) hT) hT) hT) hT) hT) hT) hT) hT) hT) hT) hT) hT) hT) hT) hT) hT) hT) hT) hT) hT) hT) ?_
         refine Qh hT 1 (K3 1111111101001000 1) (Qf.s1 a0 v1 v5 v6 Qs Qaa Je) ?_
         exact Jj3 true H
        replace H:=sF c24 H
        refine Qax (hP▸mixed) 28 [0,1,5,7,9,10] (sm [.own 0 13 0 v5.1.length,.i Qs,.ptr 0 13 Qs.toNat 0,.ptr 0 13 Qs.toNat 9,.d (Qht ((v5.1.getD Qs.toNat Wq.z).Was)),.d (.agg [.i Qaa,.b Je]),.b true,.b true,.Qn [],.Qn [],.Qn [],.Qn [],.Qn [],.Qn [],.Qn [],.Qn [],.Qn [],.Qn [],.b true,.b true,.Qn [],.Qn [],.Qn [],.Qn [],.Qn [],.Qn [],.Qn [],.b true]) (Qg (Qg (Qg (Qg (Qg (Qg (Qg (Qg (Qg (Qg (Qg (Qg (Qg (Qg (Qg (Qg (Qg (Qg (Qg (Qg (Qg (opV (Qg (Jn (Qg (Jn (Qg (Qg op0 hT) hT) (fun R rest h=>Zd hT (i:=Qs) (n:=(v5.1.length:Int)) h12.1 h12.2 (by kernel_rfl) h)) hT) (fun R rest h=>Qc5 hT (i:=Qs.toNat) (n:=v5.1.length) (ltN h12.1 h12.2) (by kernel_rfl) h)) hT) hT 60 (.b (!(((((v5.1.getD Qs.toNat Wq.z).Was).Val) == Qaa) && ((((v5.1.getD Qs.toNat Wq.z).Was).Some) == Je)))) (.b true) (by rw [eqF c13,c23,Zz c24]<;>rfl)) hT) hT) hT) hT) hT) hT) hT) hT) hT) hT) hT) hT) hT) hT) hT) hT) hT) hT) hT) hT) hT) ?_
        refine Qh hT 1 (K3 1111111101001000 1) (Qf.s1 a0 v1 v5 v6 Qs Qaa Je) ?_
        exact Jj3 true H
       replace H:=sF c23 H
       by_cases c25:Je=true
       ·replace H:=sT c25 H
        refine Qax (hP▸mixed) 28 [0,1,5,7,9,10] (sm [.own 0 13 0 v5.1.length,.i Qs,.ptr 0 13 Qs.toNat 0,.ptr 0 13 Qs.toNat 9,.d (Qht ((v5.1.getD Qs.toNat Wq.z).Was)),.d (.agg [.i Qaa,.b Je]),.b true,.b true,.Qn [],.Qn [],.Qn [],.Qn [],.Qn [],.Qn [],.Qn [],.Qn [],.Qn [],.Qn [],.b true,.b true,.Qn [],.Qn [],.Qn [],.Qn [],.Qn [],.Qn [],.Qn [],.b true]) (Qg (Qg (Qg (Qg (Qg (Qg (Qg (Qg (Qg (Qg (Qg (Qg (Qg (Qg (Qg (Qg (Qg (Qg (Qg (Qg (Qg (opV (Qg (Jn (Qg (Jn (Qg (Qg op0 hT) hT) (fun R rest h=>Zd hT (i:=Qs) (n:=(v5.1.length:Int)) h12.1 h12.2 (by kernel_rfl) h)) hT) (fun R rest h=>Qc5 hT (i:=Qs.toNat) (n:=v5.1.length) (ltN h12.1 h12.2) (by kernel_rfl) h)) hT) hT 60 (.b (!(((((v5.1.getD Qs.toNat Wq.z).Was).Val) == Qaa) && ((((v5.1.getD Qs.toNat Wq.z).Was).Some) == Je)))) (.b true) (by rw [eqF c13,Zz c23,c25]<;>rfl)) hT) hT) hT) hT) hT) hT) hT) hT) hT) hT) hT) hT) hT) hT) hT) hT) hT) hT) hT) hT) hT) ?_
        refine Qh hT 1 (K3 1111111101001000 1) (Qf.s1 a0 v1 v5 v6 Qs Qaa Je) ?_
        exact Jj3 true H
       replace H:=sF c25 H
       refine Qax (hP▸mixed) 28 [0,1,5,7,9,10] (sm [.own 0 13 0 v5.1.length,.i Qs,.ptr 0 13 Qs.toNat 0,.ptr 0 13 Qs.toNat 9,.d (Qht ((v5.1.getD Qs.toNat Wq.z).Was)),.d (.agg [.i Qaa,.b Je]),.b true,.b true,.Qn [],.Qn [],.Qn [],.Qn [],.Qn [],.Qn [],.Qn [],.Qn [],.Qn [],.Qn [],.b true,.b true,.Qn [],.Qn [],.Qn [],.Qn [],.Qn [],.Qn [],.Qn [],.b true]) (Qg (Qg (Qg (Qg (Qg (Qg (Qg (Qg (Qg (Qg (Qg (Qg (Qg (Qg (Qg (Qg (Qg (Qg (Qg (Qg (Qg (opV (Qg (Jn (Qg (Jn (Qg (Qg op0 hT) hT) (fun R rest h=>Zd hT (i:=Qs) (n:=(v5.1.length:Int)) h12.1 h12.2 (by kernel_rfl) h)) hT) (fun R rest h=>Qc5 hT (i:=Qs.toNat) (n:=v5.1.length) (ltN h12.1 h12.2) (by kernel_rfl) h)) hT) hT 60 (.b (!(((((v5.1.getD Qs.toNat Wq.z).Was).Val) == Qaa) && ((((v5.1.getD Qs.toNat Wq.z).Was).Some) == Je)))) (.b true) (by rw [eqF c13,Zz c23,Zz c25]<;>rfl)) hT) hT) hT) hT) hT) hT) hT) hT) hT) hT) hT) hT) hT) hT) hT) hT) hT) hT) hT) hT) hT) ?_
       refine Qh hT 1 (K3 1111111101001000 1) (Qf.s1 a0 v1 v5 v6 Qs Qaa Je) ?_
       exact Jj3 true H
      replace H:=sF c11 H
      rw [decide_eq_false c11]
      refine Qh hT 9 (K3 111111111010 0) ⟨142,(Qf.p0 a0++[(1,.i v1),(5,.own 0 13 0 v5.1.length),(7,.own 1 9 0 v6.1.length),(9,.ptr 2 0 0 0),(11,.i 0)]),[Jw v5.1,Jp v6.1,.box 36 [.i Qaa,.b Je]]⟩ ?_
      exact ih.2 0 Qaa Je H
     intro Qbw Qal Qca H
     refine Qh hT 8 (K3 11111111101000 1) ⟨142,(Qf.p0 a0++[(1,.i v1),(5,.own 0 13 0 v5.1.length),(7,.own 1 9 0 v6.1.length),(9,.ptr 2 0 0 0),(11,.i Qbw),(90,.b (decide (Qbw < (a0.length:Int))))]),[Jw v5.1,Jp v6.1,.box 36 [.i Qal,.b Qca]]⟩ ?_
     by_cases c27:Qbw < (a0.length:Int)
     ·replace H:=sT c27 H
      rw [decide_eq_true c27]
      refine Qh hT 2 (K3 1111111110100 1) ⟨142,(Qf.p0 a0++[(1,.i v1),(5,.own 0 13 0 v5.1.length),(7,.own 1 9 0 v6.1.length),(9,.ptr 2 0 0 0),(11,.i Qbw)]),[Jw v5.1,Jp v6.1,.box 36 [.i Qal,.b Qca]]⟩ ?_
      refine Qh hT 6 (K3 11111111101001000 2) ⟨142,(Qf.p0 a0++[(1,.i v1),(5,.own 0 13 0 v5.1.length),(7,.own 1 9 0 v6.1.length),(9,.ptr 2 0 0 0),(11,.i Qbw),(93,.d (Xq true a0)),(94,.i Qbw)]),[Jw v5.1,Jp v6.1,.box 36 [.i Qal,.b Qca]]⟩ ?_
      obtain ⟨h50,H⟩:=sC H
      refine Jf hT [0,1,5,7,9,11,95] (i:=Qbw) (n:=(a0.length:Int)) h50.1 h50.2 (k':=(K3 11111111101001000 3)) (st':=⟨142,(Qf.p0 a0++[(1,.i v1),(5,.own 0 13 0 v5.1.length),(7,.own 1 9 0 v6.1.length),(9,.ptr 2 0 0 0),(11,.i Qbw),(95,.d (Qjx true a0 Qbw.toNat 0))]),[Jw v5.1,Jp v6.1,.box 36 [.i Qal,.b Qca]]⟩) (by kernel_rfl) ?_
      refine Qh hT 4 (K3 1111111110100100 1) ⟨142,(Qf.p0 a0++[(1,.i v1),(5,.own 0 13 0 v5.1.length),(7,.own 1 9 0 v6.1.length),(9,.ptr 2 0 0 0),(11,.i Qbw),(98,.b (decide (((a0.getD Qbw.toNat Qd.z).Time) > 1099511627775)))]),[Jw v5.1,Jp v6.1,.box 36 [.i Qal,.b Qca]]⟩ ?_
      by_cases c51:((a0.getD Qbw.toNat Qd.z).Time) > 1099511627775
      ·replace H:=sT c51 H
       rw [decide_eq_true c51]
       refine Qh hT 3 (K3 1111111110100100100 0) ⟨142,[],[Jw v5.1,Jp v6.1,.box 36 [.i Qal,.b Qca]]⟩ ?_
       obtain ⟨v19,h52,H⟩:=sbC H
       refine Ws (Yk:=[]) (dst:=some 99) (k':=(K3 1111111110100100100 1)) [99] [] hP Qlp (Qm.Wv h52) (by kernel_rfl) (Qz _) .nil (st':=⟨142,[(99,.b v19)],[Jw v5.1,Jp v6.1,.box 36 [.i Qal,.b Qca]]⟩) (by kernel_rfl) ?_
       refine Qh hT 2 (K3 111111111010010010 1) ⟨142,[(4,.b v19)],[Jw v5.1,Jp v6.1,.box 36 [.i Qal,.b Qca]]⟩ ?_
       obtain rfl:=Yg H
       exact Yi hf hX h0 (.b v19) [] an (.d (.v _))
      replace H:=sF c51 H
      rw [decide_eq_false c51]
      refine Qh hT 3 (K3 11111111101001 1) ⟨142,(Qf.p0 a0++[(1,.i v1),(5,.own 0 13 0 v5.1.length),(7,.own 1 9 0 v6.1.length),(9,.ptr 2 0 0 0),(11,.i Qbw)]),[Jw v5.1,Jp v6.1,.box 36 [.i Qal,.b Qca]]⟩ ?_
      refine Qh hT 6 (K3 111111111010 0) ⟨142,(Qf.p0 a0++[(1,.i v1),(5,.own 0 13 0 v5.1.length),(7,.own 1 9 0 v6.1.length),(9,.ptr 2 0 0 0),(11,.i (IntKind.wrap .i64 (Qbw+1)))]),[Jw v5.1,Jp v6.1,.box 36 [.i Qal,.b Qca]]⟩ ?_
      exact ih.2 (IntKind.wrap .i64 (Qbw+1)) Qal Qca H
     replace H:=sF c27 H
     rw [decide_eq_false c27]
     refine Qh hT 5 (K3 11111111110 1) ⟨142,[(1,.i v1),(5,.own 0 13 0 v5.1.length),(7,.own 1 9 0 v6.1.length),(9,.ptr 2 0 0 0),(100,.d (Xq true a0))],[Jw v5.1,Jp v6.1,.box 36 [.i Qal,.b Qca]]⟩ ?_
     obtain ⟨v11,h28,H⟩:=sbC H
     refine Ws (Yk:=[.d (Xq true a0)]) (dst:=some 101) (k':=(K3 11111111110 2)) [1,5,7,9,101] [] hP Qow (Qa2.Wv a0 h28) (by kernel_rfl) (Qz _) (.cons (Qp _) .nil) (st':=⟨142,[(1,.i v1),(5,.own 0 13 0 v5.1.length),(7,.own 1 9 0 v6.1.length),(9,.ptr 2 0 0 0),(101,.d (Qbq true v11))],[Jw v5.1,Jp v6.1,.box 36 [.i Qal,.b Qca]]⟩) (by kernel_rfl) ?_
     refine Qh hT 1 (K3 11111111110 3) ⟨142,[(5,.own 0 13 0 v5.1.length),(7,.own 1 9 0 v6.1.length),(9,.ptr 2 0 0 0),(101,.d (Qbq true v11)),(102,.i v1)],[Jw v5.1,Jp v6.1,.box 36 [.i Qal,.b Qca]]⟩ ?_
     obtain ⟨v12,h29,H⟩:=sbC H
     have Jj4:∀ (Qnc:Bool) (Qdo:Bool),stk (Qf.j4 v5 v6 Qnc Qdo) (iter (Qf.step a0 v1 v5 v6) n)=some r->AK X 3 ((K3 111111111110 1)) (Yt X [] (.b r)) ⟨142,[(5,.own 0 13 0 v5.1.length),(7,.own 1 9 0 v6.1.length),(9,.ptr 2 0 0 0),(114,.b Qnc)],[Jw v5.1,Jp v6.1,.box 36 [.i Qal,.b Qdo]]⟩:=by
      intro Qnc Qdo H
      by_cases c37:Qnc=true
      ·replace H:=sT c37 H
       rw [c37]
       refine Qh hT 5 (K3 11111111111010 1) ⟨142,[(4,.b false)],[Jw v5.1,Jp v6.1,.box 36 [.i Qal,.b Qdo]]⟩ ?_
       obtain rfl:=Yg H
       exact Yi hf hX h0 (.b false) [] an (.d (.v _))
      replace H:=sF c37 H
      rw [Zz c37]
      refine Qh hT 2 (K3 11111111111 1) ⟨142,[(5,.own 0 13 0 v5.1.length),(7,.own 1 9 0 v6.1.length),(9,.ptr 2 0 0 0)],[Jw v5.1,Jp v6.1,.box 36 [.i Qal,.b Qdo]]⟩ ?_
      refine Qh hT 1 (K3 111111111111 0) ⟨142,[(5,.own 0 13 0 v5.1.length),(7,.own 1 9 0 v6.1.length),(9,.ptr 2 0 0 0)],[Jw v5.1,Jp v6.1,.box 36 [.i Qal,.b Qdo]]⟩ ?_
      obtain ⟨v13,h38,H⟩:=sbC H
      have Jj5:∀ (Qtx:Bool),stk (Qf.j5 Qtx) (iter (Qf.step a0 v1 v5 v6) n)=some r->AK X 3 ((K3 111111111111 1)) (Yt X [] (.b r)) ⟨142,[(4,.b Qtx)],[]⟩:=by
       intro Qtx H
       obtain rfl:=Yg H
       exact Yi hf hX h0 (.b Qtx) [] an (.d (.v _))
      by_cases c39:v13=true
      ·replace H:=sT c39 H
       by_cases c40:Qdo=true
       ·replace H:=sT c40 H
        refine Qdp 1 (kk:=9) (n:=v6.1.length) (ty:=41) (g:=vec Qd.e Qd.z v6.1) (by kernel_rfl) (st':=⟨142,[(5,.own 0 13 0 v5.1.length),(7,.own 1 9 0 v6.1.length),(9,.ptr 2 0 0 0)],[Jw v5.1,Qju v6.1,.box 36 [.i Qal,.b Qdo]]⟩) (by kernel_rfl) ?_
        obtain ⟨v14,h41,H⟩:=sbC H
        obtain ⟨h42,H⟩:=sC H
        obtain ⟨h43,H⟩:=sC H
        obtain ⟨v15,h44,H⟩:=sbC H
        obtain ⟨h45,H⟩:=sC H
        refine Qgq (nt:=142) (hP▸mixed) 21 [17,18] [5,7,9] [(5,.own 0 13 0 v5.1.length),(7,.own 1 9 0 v6.1.length),(9,.ptr 2 0 0 0)] (sm [.b true,.b true,.ptr 2 0 0 1,.b true,.b false,.b false,.own 1 9 0 v6.1.length,.d (Qbq true v14),.d (Qej true v14 0 0),.d (Qjv (v14.getD 0 Qe.z)),.own 0 13 0 v5.1.length,.own 0 13 0 v5.1.length,.i (v5.1.length:Int),.i (IntKind.wrap .i64 ((v5.1.length:Int) - 1)),.ptr 0 13 ((IntKind.wrap .i64 ((v5.1.length:Int) - 1)).toNat) 0,.ptr 0 13 ((IntKind.wrap .i64 ((v5.1.length:Int) - 1)).toNat) 0,.d (Qes ((v5.1.getD ((IntKind.wrap .i64 ((v5.1.length:Int) - 1)).toNat) Wq.z).E)),.own 3 9 0 1,.d (Qbq true v15),.d (Qej true v15 0 0),.d (Qjv (v15.getD 0 Qe.z))]) [[Jw v5.1,Qju v6.1,.box 36 [.i Qal,.b Qdo]],[Jw v5.1,Qju v6.1,.box 36 [.i Qal,.b Qdo],.flat false 9 41 1 (fun j=>[Qd.e ((v5.1.getD ((IntKind.wrap .i64 ((v5.1.length:Int) - 1)).toNat) Wq.z).E)].getD j [])],[Jw v5.1,Qju v6.1,.box 36 [.i Qal,.b Qdo],Qju (Qf.q1 v5)]] (by kernel_rfl) (by kernel_rfl) (by kernel_rfl) (by kernel_rfl) ⟨?_,(Qg7 hT),⟨?_,(fun R rest h=>Qhq 3 (kk:=9) (fz:=false) (ty:=41) (n:=(Qf.q1 v5).length) (vec Qd.e Qd.z (Qf.q1 v5)) (by kernel_rfl) Qha rfl ((fun R rest h=>Qdp 3 (kk:=9) (n:=(Qf.q1 v5).length) (ty:=41) (g:=vec Qd.e Qd.z (Qf.q1 v5)) (by kernel_rfl) rfl ((fun R rest h=>Ju (Yk:=[.own 3 9 0 1]) (dst:=some 133) hP Qow (Qa2.Wv (Qf.q1 v5) h44) (by kernel_rfl) (.cons (.Qek (ty:=41) (by kernel_rfl) rfl) .nil) (by kernel_rfl) h) R rest h)) R rest h)),?_⟩⟩ ?_
        iterate 3 exact (Qat (Qgd (Qit (Qit (Qgd (Qat (Qgd (Qat (Qat (Qat (Qat (Qat (Qgd (Qgd (Qat (Qat (Qat (Wju (Qat (Qat (Qgd Qlw (fun R rest h=>Ju (Yk:=[]) (dst:=some 115) hP Qlp (by have q:=Qm.Wv h38;rw [c39] at q;exact q) (by kernel_rfl) .nil (by kernel_rfl) h)) hT) hT) hT 118 (.b Qdo) (.b true) (by rw [c40]<;>rfl)) hT) hT) hT) (fun R rest h=>Ju (Yk:=[.own 1 9 0 v6.1.length]) (dst:=some 122) hP Qow (Qa2.Wv v6.1 h41) (by kernel_rfl) (.cons (.Qek (ty:=41) (by kernel_rfl) rfl) .nil) (by kernel_rfl) h)) (fun R rest h=>Zd hT (i:=0) (n:=(v14.length:Int)) h42.1 h42.2 (by kernel_rfl) h)) hT) hT) hT) hT) hT) (fun R rest h=>Zd hT (i:=IntKind.wrap .i64 ((v5.1.length:Int) - 1)) (n:=(v5.1.length:Int)) h43.1 h43.2 (by kernel_rfl) h)) hT) (fun R rest h=>Qc5 hT (i:=(IntKind.wrap .i64 ((v5.1.length:Int) - 1)).toNat) (n:=v5.1.length) (ltN h43.1 h43.2) (by kernel_rfl) h)))) (fun R rest h=>Zd hT (i:=0) (n:=(v15.length:Int)) h45.1 h45.2 (by kernel_rfl) h)) hT)
        refine Qh hT 0 (K3 1111111111110 21) ⟨142,[(116,.b true),(120,.b false),(124,.d (Qjv (v14.getD 0 Qe.z))),(135,.d (Qjv (v15.getD 0 Qe.z)))],[Jw v5.1,Qju v6.1,.box 36 [.i Qal,.b Qdo],Qju (Qf.q1 v5)]⟩ ?_
        obtain ⟨v16,h46,H⟩:=sbC H
        refine Ws (Yk:=[.d (Qjv (v14.getD 0 Qe.z)),.d (Qjv (v15.getD 0 Qe.z))]) (dst:=some 136) (k':=(K3 1111111111110 22)) [116,120,136] [] hP Wbw (Qbr.Wv (v14.getD 0 Qe.z) (v15.getD 0 Qe.z) h46) (by kernel_rfl) (Qz _) (.cons (Qp _) (.cons (Qp _) .nil)) (st':=⟨142,[(116,.b true),(120,.b false),(136,.b v16)],[Jw v5.1,Qju v6.1,.box 36 [.i Qal,.b Qdo],Qju (Qf.q1 v5)]⟩) (by kernel_rfl) ?_
        refine Qh hT 3 (K3 1111111111110 25) ⟨142,[(139,.b v16)],[Jw v5.1,Qju v6.1,.box 36 [.i Qal,.b Qdo],Qju (Qf.q1 v5)]⟩ ?_
        by_cases c47:v16=true
        ·replace H:=sT c47 H
         rw [c47]
         obtain ⟨v17,h48,H⟩:=sbC H
         refine Ws (Yk:=[.ns]) (dst:=some 140) (k':=(K3 1111111111110 26)) [139,140] [] hP Qkj (Yd.Wv (t0:=true) ([]:List Qi) h48) (by kernel_rfl) (Qz _) (.cons (.nil _ _) .nil) (st':=⟨142,[(139,.b true),(140,.b v17)],[Jw v5.1,Qju v6.1,.box 36 [.i Qal,.b Qdo],Qju (Qf.q1 v5)]⟩) (by kernel_rfl) ?_
         refine Xn hT 3 (K3 111111111111 1) [] ⟨142,[(4,.b v17)],[]⟩ h0 ?_
         exact Jj5 v17 H
        replace H:=sF c47 H
        rw [Zz c47]
        refine Xn hT 4 (K3 111111111111 1) [] ⟨142,[(4,.b false)],[]⟩ h0 ?_
        exact Jj5 false H
       replace H:=sF c40 H
       refine Qax (hP▸mixed) 21 [5,7,9] (sm [.b true,.b true,.ptr 2 0 0 1,.b false,.b true,.b true,.Qn [],.Qn [],.Qn [],.Qn [],.Qn [],.Qn [],.Qn [],.Qn [],.Qn [],.Qn [],.Qn [],.Qn [],.Qn [],.Qn [],.Qn []]) (Qg (Qg (Qg (Qg (Qg (Qg (Qg (Qg (Qg (Qg (Qg (Qg (Qg (Qg (Qg (Qg (Qg (opV (Qg (Qg (Jn op0 (fun R rest h=>Ju (Yk:=[]) (dst:=some 115) hP Qlp (by have q:=Qm.Wv h38;rw [c39] at q;exact q) (by kernel_rfl) .nil (by kernel_rfl) h)) hT) hT) hT 118 (.b Qdo) (.b false) (by rw [Zz c40]<;>rfl)) hT) hT) hT) hT) hT) hT) hT) hT) hT) hT) hT) hT) hT) hT) hT) hT) hT) ?_
       refine Qh hT 4 (K3 1111111111110 25) ⟨142,[(139,.b true)],[Jw v5.1,Jp v6.1,.box 36 [.i Qal,.b Qdo]]⟩ ?_
       obtain ⟨v18,h49,H⟩:=sbC H
       refine Ws (Yk:=[.ns]) (dst:=some 140) (k':=(K3 1111111111110 26)) [139,140] [] hP Qkj (Yd.Wv (t0:=true) ([]:List Qi) h49) (by kernel_rfl) (Qz _) (.cons (.nil _ _) .nil) (st':=⟨142,[(139,.b true),(140,.b v18)],[Jw v5.1,Jp v6.1,.box 36 [.i Qal,.b Qdo]]⟩) (by kernel_rfl) ?_
       refine Xn hT 3 (K3 111111111111 1) [] ⟨142,[(4,.b v18)],[]⟩ h0 ?_
       exact Jj5 v18 H
      replace H:=sF c39 H
      refine Qax (hP▸mixed) 21 [5,7,9] (sm [.b false,.b false,.Qn [],.Qn [],.Qn [],.Qn [],.Qn [],.Qn [],.Qn [],.Qn [],.Qn [],.Qn [],.Qn [],.Qn [],.Qn [],.Qn [],.Qn [],.Qn [],.Qn [],.Qn [],.Qn []]) (Qg (Qg (Qg (Qg (Qg (Qg (Qg (Qg (Qg (Qg (Qg (Qg (Qg (Qg (Qg (Qg (Qg (Qg (Qg (Qg (Jn op0 (fun R rest h=>Ju (Yk:=[]) (dst:=some 115) hP Qlp (by have q:=Qm.Wv h38;rw [Zz c39] at q;exact q) (by kernel_rfl) .nil (by kernel_rfl) h)) hT) hT) hT) hT) hT) hT) hT) hT) hT) hT) hT) hT) hT) hT) hT) hT) hT) hT) hT) hT) ?_
      refine Xn hT 8 (K3 111111111111 1) [] ⟨142,[(4,.b false)],[]⟩ h0 ?_
      exact Jj5 false H
     refine Ws (Yk:=[.d (Qbq true v11),.ns,.i 0,.i 1,.i v1,.i 1099511627775]) (dst:=some 103) (k':=(K3 11111111110 4)) [5,7,9,103] [] hP Wbv (Qe9.Wv (t0:=true) (t1:=true) v11 ([]:List Xc) 0 1 v1 1099511627775 h29) (by kernel_rfl) (Qz _) (.cons (Qp _) (.cons (.nil _ _) (.cons (Qp _) (.cons (Qp _) (.cons (Qp _) (.cons (Qp _) .nil)))))) (st':=⟨142,[(5,.own 0 13 0 v5.1.length),(7,.own 1 9 0 v6.1.length),(9,.ptr 2 0 0 0),(103,.d (Qg4 v12))],[Jw v5.1,Jp v6.1,.box 36 [.i Qal,.b Qca]]⟩) (by kernel_rfl) ?_
     refine Qh hT 10 (K3 1111111111100 4) ⟨142,[(5,.own 0 13 0 v5.1.length),(7,.own 1 9 0 v6.1.length),(9,.ptr 2 0 0 0),(107,.b (!((Qal == v12.Val) && (Qca == v12.Some))))],[Jw v5.1,Jp v6.1,.box 36 [.i Qal,.b Qca],.box 50 (Qd6 v12)]⟩ ?_
     by_cases c30:Qal=v12.Val
     ·replace H:=sT c30 H
      rw [eqT c30]
      by_cases c31:Qca=true
      ·replace H:=sT c31 H
       rw [c31]
       by_cases c32:v12.Some=true
       ·replace H:=sT c32 H
        rw [c32]
        refine Xn hT 8 (K3 111111111110 1) [0,1,2] ⟨142,[(5,.own 0 13 0 v5.1.length),(7,.own 1 9 0 v6.1.length),(9,.ptr 2 0 0 0),(114,.b (!(true == ((v6.1.length:Int) == 1))))],[Jw v5.1,Jp v6.1,.box 36 [.i Qal,.b true]]⟩ h0 ?_
        exact Jj4 (!(true == ((v6.1.length:Int) == 1))) true H
       replace H:=sF c32 H
       rw [Zz c32]
       refine Xn hT 8 (K3 111111111110 1) [0,1,2] ⟨142,[(5,.own 0 13 0 v5.1.length),(7,.own 1 9 0 v6.1.length),(9,.ptr 2 0 0 0),(114,.b true)],[Jw v5.1,Jp v6.1,.box 36 [.i Qal,.b true]]⟩ h0 ?_
       exact Jj4 true true H
      replace H:=sF c31 H
      rw [Zz c31]
      by_cases c33:v12.Some=true
      ·replace H:=sT c33 H
       rw [c33]
       refine Xn hT 8 (K3 111111111110 1) [0,1,2] ⟨142,[(5,.own 0 13 0 v5.1.length),(7,.own 1 9 0 v6.1.length),(9,.ptr 2 0 0 0),(114,.b true)],[Jw v5.1,Jp v6.1,.box 36 [.i Qal,.b false]]⟩ h0 ?_
       exact Jj4 true false H
      replace H:=sF c33 H
      rw [Zz c33]
      refine Xn hT 8 (K3 111111111110 1) [0,1,2] ⟨142,[(5,.own 0 13 0 v5.1.length),(7,.own 1 9 0 v6.1.length),(9,.ptr 2 0 0 0),(114,.b (!(false == ((v6.1.length:Int) == 1))))],[Jw v5.1,Jp v6.1,.box 36 [.i Qal,.b false]]⟩ h0 ?_
      exact Jj4 (!(false == ((v6.1.length:Int) == 1))) false H
     replace H:=sF c30 H
     rw [eqF c30]
     by_cases c34:Qca=true
     ·replace H:=sT c34 H
      rw [c34]
      by_cases c35:v12.Some=true
      ·replace H:=sT c35 H
       rw [c35]
       refine Xn hT 8 (K3 111111111110 1) [0,1,2] ⟨142,[(5,.own 0 13 0 v5.1.length),(7,.own 1 9 0 v6.1.length),(9,.ptr 2 0 0 0),(114,.b true)],[Jw v5.1,Jp v6.1,.box 36 [.i Qal,.b true]]⟩ h0 ?_
       exact Jj4 true true H
      replace H:=sF c35 H
      rw [Zz c35]
      refine Xn hT 8 (K3 111111111110 1) [0,1,2] ⟨142,[(5,.own 0 13 0 v5.1.length),(7,.own 1 9 0 v6.1.length),(9,.ptr 2 0 0 0),(114,.b true)],[Jw v5.1,Jp v6.1,.box 36 [.i Qal,.b true]]⟩ h0 ?_
      exact Jj4 true true H
     replace H:=sF c34 H
     rw [Zz c34]
     by_cases c36:v12.Some=true
     ·replace H:=sT c36 H
      rw [c36]
      refine Xn hT 8 (K3 111111111110 1) [0,1,2] ⟨142,[(5,.own 0 13 0 v5.1.length),(7,.own 1 9 0 v6.1.length),(9,.ptr 2 0 0 0),(114,.b true)],[Jw v5.1,Jp v6.1,.box 36 [.i Qal,.b false]]⟩ h0 ?_
      exact Jj4 true false H
     replace H:=sF c36 H
     rw [Zz c36]
     refine Xn hT 8 (K3 111111111110 1) [0,1,2] ⟨142,[(5,.own 0 13 0 v5.1.length),(7,.own 1 9 0 v6.1.length),(9,.ptr 2 0 0 0),(114,.b true)],[Jw v5.1,Jp v6.1,.box 36 [.i Qal,.b false]]⟩ h0 ?_
     exact Jj4 true false H
   obtain ⟨n,H⟩:=Qbz H
   exact (L n).1 0 0 false H
  refine Ws (Yk:=[.d (Xq true a0),.own 1 2 0 ((Qf.q2 v1).length),.i 1099511627775]) (dst:=some 39) (k':=(K3 111110 7)) [0,1,5,6,39] [] hP Wfd (Zj.Wv a0 (Qf.q2 v1) 1099511627775 h8) (by kernel_rfl) (Qz _) (.cons (Qp _) (.cons (.Qek (ty:=33) (by kernel_rfl) rfl) (.cons (Qp _) .nil))) (st':=⟨142,(Qf.p0 a0++[(1,.i v1),(5,.own 0 13 0 v5.1.length),(6,.i v5.2),(39,.Qn [.own 2 9 0 v6.1.length,.i v6.2])]),[Jw v5.1,Qbt (Qf.q2 v1),Jp v6.1]⟩) (by kernel_rfl) ?_
  refine Qh hT 12 (K3 11111100 3) ⟨142,(Qf.p0 a0++[(1,.i v1),(5,.own 0 13 0 v5.1.length),(7,.own 2 9 0 v6.1.length),(8,.i v6.2),(44,.b (v5.2 != 0))]),[Jw v5.1,Qbt (Qf.q2 v1),Jp v6.1]⟩ ?_
  by_cases c9:v5.2=0
  ·replace H:=iT c9 H
   rw [neF c9]
   refine Xn hT 4 (K3 1111110 1) [0,2] ⟨142,(Qf.p0 a0++[(1,.i v1),(5,.own 0 13 0 v5.1.length),(7,.own 1 9 0 v6.1.length),(47,.b (v6.2 != 0))]),[Jw v5.1,Jp v6.1]⟩ h0 ?_
   exact Jj2 (v6.2 != 0) H
  replace H:=iF c9 H
  rw [neT c9]
  refine Xn hT 4 (K3 1111110 1) [0,2] ⟨142,(Qf.p0 a0++[(1,.i v1),(5,.own 0 13 0 v5.1.length),(7,.own 1 9 0 v6.1.length),(47,.b true)]),[Jw v5.1,Jp v6.1]⟩ h0 ?_
  exact Jj2 true H
 refine Ws (Yk:=[.d (Xq true a0),.ns]) (dst:=some 18) (k':=(K3 11100 2)) [0,1,18] [] hP Wfb (Xm.Wv (t0:=true) (t1:=true) a0 ([]:List Qy) h2) (by kernel_rfl) (Qz _) (.cons (Qp _) (.cons (.nil _ _) .nil)) (st':=⟨142,(Qf.p0 a0++[(1,.i v1),(18,.b v2)]),[]⟩) (by kernel_rfl) ?_
 refine Qh hT 2 (K3 11100 4) ⟨142,(Qf.p0 a0++[(1,.i v1),(20,.b (!v2))]),[]⟩ ?_
 by_cases c3:v2=true
 ·replace H:=iT c3 H
  rw [c3]
  refine Qh hT 1 (K3 11100 5) ⟨142,(Qf.p0 a0++[(1,.i v1),(20,.b false),(21,.d (Xq true a0))]),[]⟩ ?_
  obtain ⟨v3,h4,H⟩:=ibC H
  refine Ws (Yk:=[.d (Xq true a0)]) (dst:=some 22) (k':=(K3 11100 6)) [0,1,20,22] [] hP Qnr (Zb.Wv (t0:=true) a0 h4) (by kernel_rfl) (Qz _) (.cons (Qp _) .nil) (st':=⟨142,(Qf.p0 a0++[(1,.i v1),(20,.b false),(22,.b v3)]),[]⟩) (by kernel_rfl) ?_
  refine Qh hT 3 (K3 1110 1) ⟨142,(Qf.p0 a0++[(1,.i v1),(24,.b (!v3))]),[]⟩ ?_
  exact Yn (!v3) H
 replace H:=iF c3 H
 rw [Zz c3]
 refine Qh hT 5 (K3 1110 1) ⟨142,(Qf.p0 a0++[(1,.i v1),(24,.b true)]),[]⟩ ?_
 exact Yn true H
end
end Go.SyP
