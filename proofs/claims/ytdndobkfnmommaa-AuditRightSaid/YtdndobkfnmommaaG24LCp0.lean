/- Certificates, printed by gen24.py. -/
import Derived.Test.YtdndobkfnmommaaG24WC
import Derived.Test.YtdndobkfnmommaaG24LP
set_option linter.unusedVariables false
set_option linter.unusedSimpArgs false
namespace Go.SyP
open Go Go.Sy Go.Proofs

noncomputable abbrev splicelaw24_awake.q1:=([(⟨1,1,(⟨1,1,1,([(⟨5,7⟩:api_Pair)]:List api_Pair),(⟨0,0⟩:api_Span),0⟩:api_Mut),0,(⟨0,false⟩:api_Cell),0⟩:api_Event),(⟨2,1,(⟨0,0,0,([]:List api_Pair),(⟨0,0⟩:api_Span),0⟩:api_Mut),5,(⟨7,true⟩:api_Cell),0⟩:api_Event),(⟨2,1,(⟨0,0,0,([]:List api_Pair),(⟨0,0⟩:api_Span),0⟩:api_Mut),5,(⟨7,true⟩:api_Cell),4⟩:api_Event)]:List api_Event)
noncomputable abbrev splicelaw24_awake.q2:=((splicelaw24_awake.q1).set 2 (⟨((splicelaw24_awake.q1).getD 2 api_Event.z).Kind,((splicelaw24_awake.q1).getD 2 api_Event.z).Client,(((splicelaw24_awake.q1).getD 2 api_Event.z).M),((splicelaw24_awake.q1).getD 2 api_Event.z).Key,(⟨8,(((splicelaw24_awake.q1).getD 2 api_Event.z).Cell).Some⟩:api_Cell),((splicelaw24_awake.q1).getD 2 api_Event.z).Mark⟩:api_Event))
noncomputable abbrev splicelaw24_awake.q3:=([(⟨(⟨1,1,1,([(⟨5,7⟩:api_Pair)]:List api_Pair),(⟨0,0⟩:api_Span),0⟩:api_Mut),3,true⟩:api_Entry)]:List api_Entry)
noncomputable abbrev splicelaw24_awake.q4 (v1:(List api_Finding) × Int) (v2:(List api_Finding) × Int):List Row:=[eF76 ([(⟨5,7⟩:api_Pair)]:List api_Pair),.box 48 [.i 1,.i 1,.i 1,.own 0 2 0 1,.i 0,.i 0,.i 0],eR74 (splicelaw24_awake.q3),.box 50 [.i 7,.b true],eR52 (splicelaw24_awake.q2),eR41 v1.1,eR41 v2.1]
noncomputable abbrev splicelaw24_awake.q5:=([(⟨5,7⟩:api_Pair)]:List api_Pair)
noncomputable abbrev splicelaw24_awake.q6:List AV:=[.i 1,.i 1,.i 1,.own 0 2 0 1,.i 0,.i 0,.i 0]
noncomputable abbrev splicelaw24_awake.q7 (v1:(List api_Finding) × Int):List Row:=[eF76 (splicelaw24_awake.q5),.box 48 (splicelaw24_awake.q6),eR74 (splicelaw24_awake.q3),.box 50 [.i 7,.b true],eR52 (splicelaw24_awake.q1),eR41 v1.1]

theorem splicelaw24_awake.says {r:Bool} (H:splicelaw24_awake=some r):Says Try.prog 7 [] [] [] (.b r):=by
 refine says_of Try.func7 rfl (nt:=62) rfl (Nat.le_of_ble_eq_true rfl) fun X hP h0 hX=>?_
 have hT:TabOk X.P T:=hP▸tok
 have hf:X.P.funcs[7]? = some Try.f7:=hP▸Try.func7
 refine goK hT 16 (K7 1110 2) ⟨62,[(1,.ptr 1 0 0 0),(13,.agg [.i 1,.i 1,.i 1,.own 0 2 0 1,.i 0,.i 0,.i 0,.i 3,.b true])],[.flat false 2 76 1 (fun j=>[[.i 5,.i 7]].getD j []),.box 48 (splicelaw24_awake.q6)]⟩ ?_
 refine ak_row 0 (kk:=2) (fz:=false) (ty:=76) (n:=(splicelaw24_awake.q5).length) (vec api_Pair.e api_Pair.z (splicelaw24_awake.q5)) (by kernel_rfl) vec_lit (st':=⟨62,[(1,.ptr 1 0 0 0),(13,.agg [.i 1,.i 1,.i 1,.own 0 2 0 1,.i 0,.i 0,.i 0,.i 3,.b true])],[eR76 (splicelaw24_awake.q5),.box 48 (splicelaw24_awake.q6)]⟩) (by kernel_rfl) ?_
 refine ak_freeze 0 (kk:=2) (n:=(splicelaw24_awake.q5).length) (ty:=76) (g:=vec api_Pair.e api_Pair.z (splicelaw24_awake.q5)) (by kernel_rfl) (st':=⟨62,[(1,.ptr 1 0 0 0),(13,.agg [.i 1,.i 1,.i 1,.own 0 2 0 1,.i 0,.i 0,.i 0,.i 3,.b true])],[eF76 (splicelaw24_awake.q5),.box 48 (splicelaw24_awake.q6)]⟩) (by kernel_rfl) ?_
 refine ak_sealS (av:=.agg [.i 1,.i 1,.i 1,.own 0 2 0 1,.i 0,.i 0,.i 0,.i 3,.b true]) (y:=.agg [.i 1,.i 1,.i 1,eL76 true (splicelaw24_awake.q5),.i 0,.i 0,.i 0,.i 3,.b true]) [1,13] 13 (st':=⟨62,[(1,.ptr 1 0 0 0),(13,.d (.agg [.i 1,.i 1,.i 1,eL76 true (splicelaw24_awake.q5),.i 0,.i 0,.i 0,.i 3,.b true]))],[eF76 (splicelaw24_awake.q5),.box 48 (splicelaw24_awake.q6)]⟩) (by kernel_rfl) (.agg (.cons (.d _) (.cons (.d _) (.cons (.d _) (.cons (.own (ty:=76) (k:=2) (by kernel_rfl)) (.cons (.d _) (.cons (.d _) (.cons (.d _) (.cons (.d _) (.cons (.d _) .nil)))))))))) (by kernel_rfl) ?_
 refine goK hT 17 (K7 111110 6) ⟨62,[(2,.own 2 9 0 1),(17,.agg [.i 1,.i 1,.i 1,.i 1,.i 1,.own 0 2 0 1,.i 0,.i 0,.i 0,.i 0,.i 0,.b false,.i 0]),(19,.d (.agg [.i 2,.i 1,.i 0,.i 0,.i 0,.ns,.i 0,.i 0,.i 0,.i 5,.i 7,.b true,.i 0])),(21,.d (.agg [.i 2,.i 1,.i 0,.i 0,.i 0,.ns,.i 0,.i 0,.i 0,.i 5,.i 7,.b true,.i 4]))],[eF76 (splicelaw24_awake.q5),.box 48 (splicelaw24_awake.q6),.flat false 9 74 1 (fun j=>[[.i 1,.i 1,.i 1,eL76 true (splicelaw24_awake.q5),.i 0,.i 0,.i 0,.i 3,.b true]].getD j []),.box 50 [.i 7,.b true]]⟩ ?_
 refine ak_sealS (av:=.agg [.i 1,.i 1,.i 1,.i 1,.i 1,.own 0 2 0 1,.i 0,.i 0,.i 0,.i 0,.i 0,.b false,.i 0]) (y:=.agg [.i 1,.i 1,.i 1,.i 1,.i 1,eL76 true (splicelaw24_awake.q5),.i 0,.i 0,.i 0,.i 0,.i 0,.b false,.i 0]) [2,17,19,21] 17 (st':=⟨62,[(2,.own 2 9 0 1),(17,.d (.agg [.i 1,.i 1,.i 1,.i 1,.i 1,eL76 true (splicelaw24_awake.q5),.i 0,.i 0,.i 0,.i 0,.i 0,.b false,.i 0])),(19,.d (.agg [.i 2,.i 1,.i 0,.i 0,.i 0,.ns,.i 0,.i 0,.i 0,.i 5,.i 7,.b true,.i 0])),(21,.d (.agg [.i 2,.i 1,.i 0,.i 0,.i 0,.ns,.i 0,.i 0,.i 0,.i 5,.i 7,.b true,.i 4]))],[eF76 (splicelaw24_awake.q5),.box 48 (splicelaw24_awake.q6),.flat false 9 74 1 (fun j=>[[.i 1,.i 1,.i 1,eL76 true (splicelaw24_awake.q5),.i 0,.i 0,.i 0,.i 3,.b true]].getD j []),.box 50 [.i 7,.b true]]⟩) (by kernel_rfl) (.agg (.cons (.d _) (.cons (.d _) (.cons (.d _) (.cons (.d _) (.cons (.d _) (.cons (.own (ty:=76) (k:=2) (by kernel_rfl)) (.cons (.d _) (.cons (.d _) (.cons (.d _) (.cons (.d _) (.cons (.d _) (.cons (.d _) (.cons (.d _) .nil)))))))))))))) (by kernel_rfl) ?_
 refine ak_sealS (av:=.d (.agg [.i 2,.i 1,.i 0,.i 0,.i 0,.ns,.i 0,.i 0,.i 0,.i 5,.i 7,.b true,.i 0])) (y:=.agg [.i 2,.i 1,.i 0,.i 0,.i 0,eL76 true ([]:List api_Pair),.i 0,.i 0,.i 0,.i 5,.i 7,.b true,.i 0]) [2,17,19,21] 19 (st':=⟨62,[(2,.own 2 9 0 1),(17,.d (.agg [.i 1,.i 1,.i 1,.i 1,.i 1,eL76 true (splicelaw24_awake.q5),.i 0,.i 0,.i 0,.i 0,.i 0,.b false,.i 0])),(19,.d (.agg [.i 2,.i 1,.i 0,.i 0,.i 0,eL76 true ([]:List api_Pair),.i 0,.i 0,.i 0,.i 5,.i 7,.b true,.i 0])),(21,.d (.agg [.i 2,.i 1,.i 0,.i 0,.i 0,.ns,.i 0,.i 0,.i 0,.i 5,.i 7,.b true,.i 4]))],[eF76 (splicelaw24_awake.q5),.box 48 (splicelaw24_awake.q6),.flat false 9 74 1 (fun j=>[[.i 1,.i 1,.i 1,eL76 true (splicelaw24_awake.q5),.i 0,.i 0,.i 0,.i 3,.b true]].getD j []),.box 50 [.i 7,.b true]]⟩) (by kernel_rfl) (.aggd (.cons (.d _) (.cons (.d _) (.cons (.d _) (.cons (.d _) (.cons (.d _) (.cons (.nil _) (.cons (.d _) (.cons (.d _) (.cons (.d _) (.cons (.d _) (.cons (.d _) (.cons (.d _) (.cons (.d _) .nil)))))))))))))) (by kernel_rfl) ?_
 refine ak_sealS (av:=.d (.agg [.i 2,.i 1,.i 0,.i 0,.i 0,.ns,.i 0,.i 0,.i 0,.i 5,.i 7,.b true,.i 4])) (y:=.agg [.i 2,.i 1,.i 0,.i 0,.i 0,eL76 true ([]:List api_Pair),.i 0,.i 0,.i 0,.i 5,.i 7,.b true,.i 4]) [2,17,19,21] 21 (st':=⟨62,[(2,.own 2 9 0 1),(17,.d (.agg [.i 1,.i 1,.i 1,.i 1,.i 1,eL76 true (splicelaw24_awake.q5),.i 0,.i 0,.i 0,.i 0,.i 0,.b false,.i 0])),(19,.d (.agg [.i 2,.i 1,.i 0,.i 0,.i 0,eL76 true ([]:List api_Pair),.i 0,.i 0,.i 0,.i 5,.i 7,.b true,.i 0])),(21,.d (.agg [.i 2,.i 1,.i 0,.i 0,.i 0,eL76 true ([]:List api_Pair),.i 0,.i 0,.i 0,.i 5,.i 7,.b true,.i 4]))],[eF76 (splicelaw24_awake.q5),.box 48 (splicelaw24_awake.q6),.flat false 9 74 1 (fun j=>[[.i 1,.i 1,.i 1,eL76 true (splicelaw24_awake.q5),.i 0,.i 0,.i 0,.i 3,.b true]].getD j []),.box 50 [.i 7,.b true]]⟩) (by kernel_rfl) (.aggd (.cons (.d _) (.cons (.d _) (.cons (.d _) (.cons (.d _) (.cons (.d _) (.cons (.nil _) (.cons (.d _) (.cons (.d _) (.cons (.d _) (.cons (.d _) (.cons (.d _) (.cons (.d _) (.cons (.d _) .nil)))))))))))))) (by kernel_rfl) ?_
 refine goK hT 7 (K7 1111110 2) ⟨62,[(2,.own 2 9 0 1),(4,.own 4 13 0 3),(24,.own 2 9 0 1),(25,.own 4 13 0 3)],[eF76 (splicelaw24_awake.q5),.box 48 (splicelaw24_awake.q6),.flat false 9 74 1 (fun j=>[[.i 1,.i 1,.i 1,eL76 true (splicelaw24_awake.q5),.i 0,.i 0,.i 0,.i 3,.b true]].getD j []),.box 50 [.i 7,.b true],.flat false 13 52 3 (fun j=>[[.i 1,.i 1,.i 1,.i 1,.i 1,eL76 true (splicelaw24_awake.q5),.i 0,.i 0,.i 0,.i 0,.i 0,.b false,.i 0],[.i 2,.i 1,.i 0,.i 0,.i 0,eL76 true ([]:List api_Pair),.i 0,.i 0,.i 0,.i 5,.i 7,.b true,.i 0],[.i 2,.i 1,.i 0,.i 0,.i 0,eL76 true ([]:List api_Pair),.i 0,.i 0,.i 0,.i 5,.i 7,.b true,.i 4]].getD j [])]⟩ ?_
 refine ak_row 2 (kk:=9) (fz:=false) (ty:=74) (n:=(splicelaw24_awake.q3).length) (vec api_Entry.e api_Entry.z (splicelaw24_awake.q3)) (by kernel_rfl) vec_lit (st':=⟨62,[(2,.own 2 9 0 ((splicelaw24_awake.q3).length)),(4,.own 4 13 0 3),(24,.own 2 9 0 ((splicelaw24_awake.q3).length)),(25,.own 4 13 0 3)],[eF76 (splicelaw24_awake.q5),.box 48 (splicelaw24_awake.q6),eR74 (splicelaw24_awake.q3),.box 50 [.i 7,.b true],.flat false 13 52 3 (fun j=>[[.i 1,.i 1,.i 1,.i 1,.i 1,eL76 true (splicelaw24_awake.q5),.i 0,.i 0,.i 0,.i 0,.i 0,.b false,.i 0],[.i 2,.i 1,.i 0,.i 0,.i 0,eL76 true ([]:List api_Pair),.i 0,.i 0,.i 0,.i 5,.i 7,.b true,.i 0],[.i 2,.i 1,.i 0,.i 0,.i 0,eL76 true ([]:List api_Pair),.i 0,.i 0,.i 0,.i 5,.i 7,.b true,.i 4]].getD j [])]⟩) (by kernel_rfl) ?_
 refine ak_row 4 (kk:=13) (fz:=false) (ty:=52) (n:=(splicelaw24_awake.q1).length) (vec api_Event.e api_Event.z (splicelaw24_awake.q1)) (by kernel_rfl) vec_lit (st':=⟨62,[(2,.own 2 9 0 ((splicelaw24_awake.q3).length)),(4,.own 4 13 0 ((splicelaw24_awake.q1).length)),(24,.own 2 9 0 ((splicelaw24_awake.q3).length)),(25,.own 4 13 0 ((splicelaw24_awake.q1).length))],[eF76 (splicelaw24_awake.q5),.box 48 (splicelaw24_awake.q6),eR74 (splicelaw24_awake.q3),.box 50 [.i 7,.b true],eR52 (splicelaw24_awake.q1)]⟩) (by kernel_rfl) ?_
 obtain ⟨v1,h1,H⟩:=ibC H
 refine ak_callP (avs:=[.own 2 9 0 ((splicelaw24_awake.q3).length),.own 4 13 0 ((splicelaw24_awake.q1).length)]) (dst:=some 26) (k':=(K7 1111110 3)) [2,4,26] [] hP enters_8 (audit_Check.says (t0:=false) (t1:=false) (splicelaw24_awake.q3) (splicelaw24_awake.q1) h1) (by kernel_rfl) (hands_none _) (.cons (.lend (ty:=74) (by kernel_rfl) rfl) (.cons (.lend (ty:=52) (by kernel_rfl) rfl) .nil)) (st':=⟨62,[(2,.own 2 9 0 ((splicelaw24_awake.q3).length)),(4,.own 4 13 0 ((splicelaw24_awake.q1).length)),(26,.tup [.own 5 2 0 v1.1.length,.i v1.2])],(splicelaw24_awake.q7 v1)⟩) (by kernel_rfl) ?_
 refine goK hT 9 (K7 11111110 1) ⟨62,[(2,.own 2 9 0 ((splicelaw24_awake.q3).length)),(4,.own 4 13 0 ((splicelaw24_awake.q1).length)),(5,.own 5 2 0 v1.1.length),(6,.i v1.2),(29,.own 4 13 0 ((splicelaw24_awake.q1).length))],(splicelaw24_awake.q7 v1)⟩ ?_
 obtain ⟨h2,H⟩:=iC H
 refine ak_idx hT [2,4,5,6,30] (i:=2) (n:=((splicelaw24_awake.q1).length:Int)) h2.1 h2.2 (k':=(K7 11111110 2)) (st':=⟨62,[(2,.own 2 9 0 ((splicelaw24_awake.q3).length)),(4,.own 4 13 0 ((splicelaw24_awake.q1).length)),(5,.own 5 2 0 v1.1.length),(6,.i v1.2),(30,.ptr 4 13 2 0)],(splicelaw24_awake.q7 v1)⟩) (by kernel_rfl) ?_
 refine goK hT 2 (K7 11111110 4) ⟨62,[(2,.own 2 9 0 ((splicelaw24_awake.q3).length)),(4,.own 4 13 0 ((splicelaw24_awake.q1).length)),(5,.own 5 2 0 v1.1.length),(6,.i v1.2),(32,.ptr 4 13 2 10)],(splicelaw24_awake.q7 v1)⟩ ?_
 refine ak_st (id:=4) (kk:=13) (i:=2) (off:=10) (s:=1) (n:=(splicelaw24_awake.q1).length) (ty:=52) (ds:=[.i 8]) (g:=vec api_Event.e api_Event.z (splicelaw24_awake.q1)) (k':=(K7 11111110 5)) hT [2,4,5,6] (vec api_Event.e api_Event.z (splicelaw24_awake.q2)) (by kernel_rfl) (by kernel_rfl) (by first | omega | decide) ((vec_set (by first | omega | decide)).trans (by kernel_rfl)) vec_set_ne (st':=⟨62,[(2,.own 2 9 0 ((splicelaw24_awake.q3).length)),(4,.own 4 13 0 ((splicelaw24_awake.q1).length)),(5,.own 5 2 0 v1.1.length),(6,.i v1.2)],[.flat true 2 76 (splicelaw24_awake.q5).length (vec api_Pair.e api_Pair.z (splicelaw24_awake.q5)),.box 48 (splicelaw24_awake.q6),.flat false 9 74 (splicelaw24_awake.q3).length (vec api_Entry.e api_Entry.z (splicelaw24_awake.q3)),.box 50 [.i 7,.b true],.flat false 13 52 (splicelaw24_awake.q1).length (vec api_Event.e api_Event.z (splicelaw24_awake.q2)),.flat false 2 41 v1.1.length (vec api_Finding.e api_Finding.z v1.1)]⟩) (by kernel_rfl) ?_
 refine ak_eq (show (splicelaw24_awake.q1).length=(splicelaw24_awake.q2).length from (List.length_set ..).symm) (fun nn=>⟨62,[(2,.own 2 9 0 ((splicelaw24_awake.q3).length)),(4,.own 4 13 0 (nn)),(5,.own 5 2 0 v1.1.length),(6,.i v1.2)],[.flat true 2 76 (splicelaw24_awake.q5).length (vec api_Pair.e api_Pair.z (splicelaw24_awake.q5)),.box 48 (splicelaw24_awake.q6),.flat false 9 74 (splicelaw24_awake.q3).length (vec api_Entry.e api_Entry.z (splicelaw24_awake.q3)),.box 50 [.i 7,.b true],.flat false 13 52 nn (vec api_Event.e api_Event.z (splicelaw24_awake.q2)),.flat false 2 41 v1.1.length (vec api_Finding.e api_Finding.z v1.1)]⟩) ?_
 refine goK hT 5 (K7 111111110 2) ⟨62,[(5,.own 5 2 0 v1.1.length),(6,.i v1.2),(34,.own 2 9 0 ((splicelaw24_awake.q3).length)),(35,.own 4 13 0 ((splicelaw24_awake.q2).length))],[eF76 (splicelaw24_awake.q5),.box 48 (splicelaw24_awake.q6),eR74 (splicelaw24_awake.q3),.box 50 [.i 7,.b true],eR52 (splicelaw24_awake.q2),eR41 v1.1]⟩ ?_
 obtain ⟨v2,h3,H⟩:=ibC H
 have Jj1:∀ (y1_0:Bool),(splicelaw24_awake.j1 y1_0)=some r→AK X 7 ((K7 111111111 1)) (Back X [] (.b r)) ⟨62,[(0,.b y1_0)],[]⟩:=by
  intro y1_0 H
  obtain rfl:=retC H
  exact retK hf hX h0 (.b y1_0) [] (fun _ h=>all_nil h) (.d (.v _))
 refine ak_callP (avs:=[.own 2 9 0 ((splicelaw24_awake.q3).length),.own 4 13 0 ((splicelaw24_awake.q2).length)]) (dst:=some 36) (k':=(K7 111111110 3)) [5,6,36] [] hP enters_8 (audit_Check.says (t0:=false) (t1:=false) (splicelaw24_awake.q3) (splicelaw24_awake.q2) h3) (by kernel_rfl) (hands_none _) (.cons (.lend (ty:=74) (by kernel_rfl) rfl) (.cons (.lend (ty:=52) (by kernel_rfl) rfl) .nil)) (st':=⟨62,[(5,.own 5 2 0 v1.1.length),(6,.i v1.2),(36,.tup [.own 6 2 0 v2.1.length,.i v2.2])],(splicelaw24_awake.q4 v1 v2)⟩) (by kernel_rfl) ?_
 refine goK hT 11 (K7 1111111110 3) ⟨62,[(5,.own 5 2 0 v1.1.length),(7,.own 6 2 0 v2.1.length),(8,.i v2.2),(41,.b (v1.2 == 0))],(splicelaw24_awake.q4 v1 v2)⟩ ?_
 by_cases c4:v1.2=0
 ·replace H:=iT c4 H
  rw [eqT c4]
  refine goK hT 5 (K7 1111111110 8) ⟨62,[(7,.own 6 2 0 v2.1.length),(8,.i v2.2),(46,.b ((v1.1.length:Int) == 0))],(splicelaw24_awake.q4 v1 v2)⟩ ?_
  by_cases c5:(v1.1.length:Int)=0
  ·replace H:=iT c5 H
   rw [eqT c5]
   refine goK hT 4 (K7 1111111110 12) ⟨62,[(7,.own 6 2 0 v2.1.length),(50,.b (v2.2 == 0))],(splicelaw24_awake.q4 v1 v2)⟩ ?_
   by_cases c6:v2.2=0
   ·replace H:=iT c6 H
    rw [eqT c6]
    refine goK hT 5 (K7 1111111110 17) ⟨62,[(7,.own 6 2 0 v2.1.length),(55,.b ((v2.1.length:Int) == 1))],(splicelaw24_awake.q4 v1 v2)⟩ ?_
    by_cases c7:(v2.1.length:Int)=1
    ·replace H:=iT c7 H
     rw [eqT c7]
     refine goK hT 1 (K7 1111111110 18) ⟨62,[(55,.b true),(56,.own 6 2 0 v2.1.length)],(splicelaw24_awake.q4 v1 v2)⟩ ?_
     obtain ⟨h8,H⟩:=iC H
     refine ak_idx hT [55,57] (i:=0) (n:=(v2.1.length:Int)) h8.1 h8.2 (k':=(K7 1111111110 19)) (st':=⟨62,[(55,.b true),(57,.ptr 6 2 0 0)],(splicelaw24_awake.q4 v1 v2)⟩) (by kernel_rfl) ?_
     refine ak_ld hT [55,58] (i:=0) (n:=v2.1.length) (by first | omega | decide) (k':=(K7 1111111110 20)) (st':=⟨62,[(55,.b true),(58,.d (eG41 (v2.1.getD 0 api_Finding.z)))],(splicelaw24_awake.q4 v1 v2)⟩) (by kernel_rfl) ?_
     refine goCut hT 5 (K7 111111111 1) [] ⟨62,[(0,.b ((((v2.1.getD 0 api_Finding.z).At) == 2) && (((v2.1.getD 0 api_Finding.z).Why) == 4)))],[]⟩ h0 ?_
     exact Jj1 ((((v2.1.getD 0 api_Finding.z).At) == 2) && (((v2.1.getD 0 api_Finding.z).Why) == 4)) H
    ·replace H:=iF c7 H
     rw [eqF c7]
     refine goCut hT 8 (K7 111111111 1) [] ⟨62,[(0,.b false)],[]⟩ h0 ?_
     exact Jj1 false H
   ·replace H:=iF c6 H
    rw [eqF c6]
    refine goCut hT 13 (K7 111111111 1) [] ⟨62,[(0,.b false)],[]⟩ h0 ?_
    exact Jj1 false H
  ·replace H:=iF c5 H
   rw [eqF c5]
   refine goCut hT 17 (K7 111111111 1) [] ⟨62,[(0,.b false)],[]⟩ h0 ?_
   exact Jj1 false H
 ·replace H:=iF c4 H
  rw [eqF c4]
  refine goCut hT 22 (K7 111111111 1) [] ⟨62,[(0,.b false)],[]⟩ h0 ?_
  exact Jj1 false H


theorem spliceref24_all.says:Says Try.prog 35 [] [] [eR55 (spliceref24_all)] (.own 0 2 0 ((spliceref24_all).length)):=by
 obtain ⟨r,H⟩:∃ r,spliceref24_all=r:=⟨_,rfl⟩
 rw [H]
 refine says_of Try.func35 rfl (nt:=3) rfl (Nat.le_of_ble_eq_true rfl) fun X hP h0 hX=>?_
 have hT:TabOk X.P T:=hP▸tok
 have hf:X.P.funcs[35]? = some Try.f35:=hP▸Try.func35
 refine goK hT 10 (K35 11 1) ⟨3,[(0,.own 0 2 0 1)],[.flat false 2 55 1 (fun j=>[[.i 0,.i 4096]].getD j [])]⟩ ?_
 refine ak_row 0 (kk:=2) (fz:=false) (ty:=55) (n:=([(⟨0,4096⟩:spliceref03_Span)]:List spliceref03_Span).length) (vec spliceref03_Span.e spliceref03_Span.z ([(⟨0,4096⟩:spliceref03_Span)]:List spliceref03_Span)) (by kernel_rfl) vec_lit (st':=⟨3,[(0,.own 0 2 0 (([(⟨0,4096⟩:spliceref03_Span)]:List spliceref03_Span).length))],[eR55 ([(⟨0,4096⟩:spliceref03_Span)]:List spliceref03_Span)]⟩) (by kernel_rfl) ?_
 obtain rfl:=H
 exact retK hf hX h0 (.own 0 2 0 (([(⟨0,4096⟩:spliceref03_Span)]:List spliceref03_Span).length)) [0] (fun _ h=>all_cons (nr_vec spliceref03_Span.nl) (fun _ h=>all_nil h) h) (.own _ _ _ _)


theorem spliceref03_Check.says {t0:Bool} (a0:List spliceref03_Span) {r:Bool} (H:spliceref03_Check a0=some r):Says Try.prog 50 [] [.d (eL55 t0 a0)] [] (.b r):=by
 refine says_of Try.func50 rfl (nt:=37) rfl (Nat.le_of_ble_eq_true rfl) fun X hP h0 hX=>?_
 have hT:TabOk X.P T:=hP▸tok
 have hf:X.P.funcs[50]? = some Try.f50:=hP▸Try.func50
 refine goK hT 11 (K50 11010 0) ⟨37,[(0,.d (eL55 t0 a0)),(3,.i 0)],[]⟩ ?_
 have L:∀ n,(∀ (x1_3:Int),iter (spliceref03_Check.step a0) n (.l1 x1_3)=some r→AK X 50 ((K50 11010 0)) (Back X [] (.b r)) ⟨37,[(0,.d (eL55 t0 a0)),(3,.i x1_3)],[]⟩):=by
  intro n
  induction n with
  | zero=>exact fun _ H=>iter0 H
  | succ n ih=>
   ·intro x1_3 H
    refine goK hT 8 (K50 1101000 1) ⟨37,[(0,.d (eL55 t0 a0)),(3,.i x1_3),(7,.b (decide (x1_3 < (a0.length:Int))))],[]⟩ ?_
    by_cases c1:x1_3 < (a0.length:Int)
    ·replace H:=sT c1 H
     rw [decide_eq_true c1]
     refine goK hT 2 (K50 110100 1) ⟨37,[(0,.d (eL55 t0 a0)),(3,.i x1_3)],[]⟩ ?_
     refine goK hT 3 (K50 110100100 0) ⟨37,[(0,.d (eL55 t0 a0)),(3,.i x1_3)],[]⟩ ?_
     obtain ⟨h2,H⟩:=sC H
     have Jj1:∀ (y1_33:Bool),stk (spliceref03_Check.j1 x1_3 y1_33) (iter (spliceref03_Check.step a0) n)=some r→AK X 50 ((K50 110100100 1)) (Back X [] (.b r)) ⟨37,[(0,.d (eL55 t0 a0)),(3,.i x1_3),(33,.b y1_33)],[]⟩:=by
      intro y1_33 H
      by_cases c6:y1_33=true
      ·replace H:=sT c6 H
       rw [c6]
       refine goK hT 5 (K50 11010010010 1) ⟨37,[(2,.b false)],[]⟩ ?_
       obtain rfl:=retC H
       exact retK hf hX h0 (.b false) [] (fun _ h=>all_nil h) (.d (.v _))
      ·replace H:=sF c6 H
       rw [boF c6]
       refine goK hT 3 (K50 1101001 1) ⟨37,[(0,.d (eL55 t0 a0)),(3,.i x1_3)],[]⟩ ?_
       refine goK hT 6 (K50 11010 0) ⟨37,[(0,.d (eL55 t0 a0)),(3,.i (IntKind.wrap .i64 (x1_3+1)))],[]⟩ ?_
       exact ih (IntKind.wrap .i64 (x1_3+1)) H
     by_cases c3:(spliceref03_One (a0.getD x1_3.toNat spliceref03_Span.z))=true
     ·replace H:=sT c3 H
      by_cases c4:x1_3 > 0
      ·replace H:=sT c4 H
       obtain ⟨h5,H⟩:=sC H
       refine drawK (hP▸mixed) 24 [0,3] [some (.d (eL55 t0 a0)),some (.i x1_3),some (.d (eP55 t0 a0 x1_3.toNat 0)),some (.d (eG55 (a0.getD x1_3.toNat spliceref03_Span.z))),some (.b true),some (.b false),some (.b false),some (.i x1_3),some (.b true),some (.b true),some (.d (eL55 t0 a0)),some (.i x1_3),some (.d (eP55 t0 a0 x1_3.toNat 0)),some (.d (eP55 t0 a0 x1_3.toNat 0)),some (.i ((a0.getD x1_3.toNat spliceref03_Span.z).Lo)),some (.d (eL55 t0 a0)),some (.i x1_3),some (.i (IntKind.wrap .i64 (x1_3 - 1))),some (.d (eP55 t0 a0 ((IntKind.wrap .i64 (x1_3 - 1)).toNat) 0)),some (.d (eP55 t0 a0 ((IntKind.wrap .i64 (x1_3 - 1)).toNat) 1)),some (.i ((a0.getD ((IntKind.wrap .i64 (x1_3 - 1)).toNat) spliceref03_Span.z).Hi)),some (.b (decide (((a0.getD x1_3.toNat spliceref03_Span.z).Lo)≤((a0.getD ((IntKind.wrap .i64 (x1_3 - 1)).toNat) spliceref03_Span.z).Hi)))),some (.b (decide (((a0.getD x1_3.toNat spliceref03_Span.z).Lo)≤((a0.getD ((IntKind.wrap .i64 (x1_3 - 1)).toNat) spliceref03_Span.z).Hi)))),some (.b (decide (((a0.getD x1_3.toNat spliceref03_Span.z).Lo)≤((a0.getD ((IntKind.wrap .i64 (x1_3 - 1)).toNat) spliceref03_Span.z).Hi))))] (opG (opG (opG (opG (opG (opS (opG (opG (opG (opG (opG (opS (opG (opG (opG (opV (opG (opG (opG (opS (opG (opS (opG (opG op0 hT) hT) (fun R rest h=>ak_idx0 hT (i:=x1_3) (n:=(a0.length:Int)) h2.1 h2.2 (by kernel_rfl) h)) hT) (fun R rest h=>ak_callD (avs:=[.d (eG55 (a0.getD x1_3.toNat spliceref03_Span.z))]) (dst:=some 14) hP enters_30 (by have q:=spliceref03_One.says (a0.getD x1_3.toNat spliceref03_Span.z);rw [c3] at q;exact q) (by kernel_rfl) (.cons (pass_d _) .nil) (by kernel_rfl) h)) hT) hT) hT) hT 18 (.b (decide (x1_3 > 0))) (.b true) (by rw [decide_eq_true c4]<;>rfl)) hT) hT) hT) (fun R rest h=>ak_idx0 hT (i:=x1_3) (n:=(a0.length:Int)) h2.1 h2.2 (by kernel_rfl) h)) hT) hT) hT) hT) hT) (fun R rest h=>ak_idx0 hT (i:=IntKind.wrap .i64 (x1_3 - 1)) (n:=(a0.length:Int)) h5.1 h5.2 (by kernel_rfl) h)) hT) hT) hT) hT) hT) ?_
       refine goK hT 1 (K50 110100100 1) ⟨37,[(0,.d (eL55 t0 a0)),(3,.i x1_3),(33,.b (decide (((a0.getD x1_3.toNat spliceref03_Span.z).Lo)≤((a0.getD ((IntKind.wrap .i64 (x1_3 - 1)).toNat) spliceref03_Span.z).Hi))))],[]⟩ ?_
       exact Jj1 (decide (((a0.getD x1_3.toNat spliceref03_Span.z).Lo)≤((a0.getD ((IntKind.wrap .i64 (x1_3 - 1)).toNat) spliceref03_Span.z).Hi))) H
      ·replace H:=sF c4 H
       refine drawK (hP▸mixed) 24 [0,3] [some (.d (eL55 t0 a0)),some (.i x1_3),some (.d (eP55 t0 a0 x1_3.toNat 0)),some (.d (eG55 (a0.getD x1_3.toNat spliceref03_Span.z))),some (.b true),some (.b false),some (.b false),some (.i x1_3),some (.b false),some (.b false),some (.tup []),some (.tup []),some (.tup []),some (.tup []),some (.tup []),some (.tup []),some (.tup []),some (.tup []),some (.tup []),some (.tup []),some (.tup []),some (.tup []),some (.b false),some (.b false)] (opG (opG (opG (opG (opG (opG (opG (opG (opG (opG (opG (opG (opG (opG (opG (opV (opG (opG (opG (opS (opG (opS (opG (opG op0 hT) hT) (fun R rest h=>ak_idx0 hT (i:=x1_3) (n:=(a0.length:Int)) h2.1 h2.2 (by kernel_rfl) h)) hT) (fun R rest h=>ak_callD (avs:=[.d (eG55 (a0.getD x1_3.toNat spliceref03_Span.z))]) (dst:=some 14) hP enters_30 (by have q:=spliceref03_One.says (a0.getD x1_3.toNat spliceref03_Span.z);rw [c3] at q;exact q) (by kernel_rfl) (.cons (pass_d _) .nil) (by kernel_rfl) h)) hT) hT) hT) hT 18 (.b (decide (x1_3 > 0))) (.b false) (by rw [decide_eq_false c4]<;>rfl)) hT) hT) hT) hT) hT) hT) hT) hT) hT) hT) hT) hT) hT) hT) hT) ?_
       refine goK hT 1 (K50 110100100 1) ⟨37,[(0,.d (eL55 t0 a0)),(3,.i x1_3),(33,.b false)],[]⟩ ?_
       exact Jj1 false H
     ·replace H:=sF c3 H
      refine drawK (hP▸mixed) 24 [0,3] [some (.d (eL55 t0 a0)),some (.i x1_3),some (.d (eP55 t0 a0 x1_3.toNat 0)),some (.d (eG55 (a0.getD x1_3.toNat spliceref03_Span.z))),some (.b false),some (.b true),some (.b true),some (.tup []),some (.tup []),some (.tup []),some (.tup []),some (.tup []),some (.tup []),some (.tup []),some (.tup []),some (.tup []),some (.tup []),some (.tup []),some (.tup []),some (.tup []),some (.tup []),some (.tup []),some (.tup []),some (.b true)] (opG (opG (opG (opG (opG (opG (opG (opG (opG (opG (opG (opG (opG (opG (opG (opG (opG (opG (opG (opS (opG (opS (opG (opG op0 hT) hT) (fun R rest h=>ak_idx0 hT (i:=x1_3) (n:=(a0.length:Int)) h2.1 h2.2 (by kernel_rfl) h)) hT) (fun R rest h=>ak_callD (avs:=[.d (eG55 (a0.getD x1_3.toNat spliceref03_Span.z))]) (dst:=some 14) hP enters_30 (by have q:=spliceref03_One.says (a0.getD x1_3.toNat spliceref03_Span.z);rw [boF c3] at q;exact q) (by kernel_rfl) (.cons (pass_d _) .nil) (by kernel_rfl) h)) hT) hT) hT) hT) hT) hT) hT) hT) hT) hT) hT) hT) hT) hT) hT) hT) hT) hT) hT) ?_
      refine goK hT 1 (K50 110100100 1) ⟨37,[(0,.d (eL55 t0 a0)),(3,.i x1_3),(33,.b true)],[]⟩ ?_
      exact Jj1 true H
    ·replace H:=sF c1 H
     rw [decide_eq_false c1]
     refine goK hT 9 (K50 111 1) ⟨37,[(2,.b (decide ((a0.length:Int)≤64)))],[]⟩ ?_
     obtain rfl:=retC H
     exact retK hf hX h0 (.b (decide ((a0.length:Int)≤64))) [] (fun _ h=>all_nil h) (.d (.v _))
 obtain ⟨n,H⟩:=loopC H
 exact (L n) 0 H


theorem spliceref05_Check.says {t0:Bool} (a0:List spliceref04_Pair) {r:Bool} (H:spliceref05_Check a0=some r):Says Try.prog 49 [] [.d (eL105 t0 a0)] [] (.b r):=by
 refine says_of Try.func49 rfl (nt:=56) rfl (Nat.le_of_ble_eq_true rfl) fun X hP h0 hX=>?_
 have hT:TabOk X.P T:=hP▸tok
 have hf:X.P.funcs[49]? = some Try.f49:=hP▸Try.func49
 refine goK hT 11 (K49 11010 0) ⟨56,[(0,.d (eL105 t0 a0)),(3,.i 0)],[]⟩ ?_
 have L:∀ n,(∀ (x1_3:Int),iter (spliceref05_Check.step a0) n (.l1 x1_3)=some r→AK X 49 ((K49 11010 0)) (Back X [] (.b r)) ⟨56,[(0,.d (eL105 t0 a0)),(3,.i x1_3)],[]⟩):=by
  intro n
  induction n with
  | zero=>exact fun _ H=>iter0 H
  | succ n ih=>
   ·intro x1_3 H
    refine goK hT 8 (K49 1101000 1) ⟨56,[(0,.d (eL105 t0 a0)),(3,.i x1_3),(7,.b (decide (x1_3 < (a0.length:Int))))],[]⟩ ?_
    by_cases c1:x1_3 < (a0.length:Int)
    ·replace H:=sT c1 H
     rw [decide_eq_true c1]
     refine goK hT 2 (K49 110100 1) ⟨56,[(0,.d (eL105 t0 a0)),(3,.i x1_3)],[]⟩ ?_
     refine goK hT 7 (K49 11010010000 2) ⟨56,[(0,.d (eL105 t0 a0)),(3,.i x1_3),(10,.d (eL105 t0 a0)),(11,.i x1_3)],[]⟩ ?_
     obtain ⟨h2,H⟩:=sC H
     have Jj1:∀ (y1_39:Bool),stk (spliceref05_Check.j1 a0 x1_3 y1_39) (iter (spliceref05_Check.step a0) n)=some r→AK X 49 ((K49 1101001000 1)) (Back X [] (.b r)) ⟨56,[(0,.d (eL105 t0 a0)),(3,.i x1_3),(39,.b y1_39)],[]⟩:=by
      intro y1_39 H
      by_cases c6:y1_39=true
      ·replace H:=sT c6 H
       rw [c6]
       refine goK hT 5 (K49 110100100010 1) ⟨56,[(2,.b false)],[]⟩ ?_
       obtain rfl:=retC H
       exact retK hf hX h0 (.b false) [] (fun _ h=>all_nil h) (.d (.v _))
      ·replace H:=sF c6 H
       have Jj2:∀ (y2_55:Bool),stk (spliceref05_Check.j2 x1_3 y2_55) (iter (spliceref05_Check.step a0) n)=some r→AK X 49 ((K49 1101001001 1)) (Back X [] (.b r)) ⟨56,[(0,.d (eL105 t0 a0)),(3,.i x1_3),(55,.b y2_55)],[]⟩:=by
        intro y2_55 H
        by_cases c9:y2_55=true
        ·replace H:=sT c9 H
         rw [c9]
         refine goK hT 5 (K49 110100100110 1) ⟨56,[(2,.b false)],[]⟩ ?_
         obtain rfl:=retC H
         exact retK hf hX h0 (.b false) [] (fun _ h=>all_nil h) (.d (.v _))
        ·replace H:=sF c9 H
         rw [boF c9]
         refine goK hT 3 (K49 1101001 1) ⟨56,[(0,.d (eL105 t0 a0)),(3,.i x1_3)],[]⟩ ?_
         refine goK hT 6 (K49 11010 0) ⟨56,[(0,.d (eL105 t0 a0)),(3,.i (IntKind.wrap .i64 (x1_3+1)))],[]⟩ ?_
         exact ih (IntKind.wrap .i64 (x1_3+1)) H
       rw [boF c6]
       refine goK hT 2 (K49 110100100 1) ⟨56,[(0,.d (eL105 t0 a0)),(3,.i x1_3)],[]⟩ ?_
       refine goK hT 1 (K49 1101001001 0) ⟨56,[(0,.d (eL105 t0 a0)),(3,.i x1_3)],[]⟩ ?_
       by_cases c7:x1_3 > 0
       ·replace H:=sT c7 H
        obtain ⟨h8,H⟩:=sC H
        refine drawK (hP▸mixed) 16 [0,3] [some (.i x1_3),some (.b true),some (.b true),some (.d (eL105 t0 a0)),some (.i x1_3),some (.d (eP105 t0 a0 x1_3.toNat 0)),some (.d (eP105 t0 a0 x1_3.toNat 0)),some (.i ((a0.getD x1_3.toNat spliceref04_Pair.z).Key)),some (.d (eL105 t0 a0)),some (.i x1_3),some (.i (IntKind.wrap .i64 (x1_3 - 1))),some (.d (eP105 t0 a0 ((IntKind.wrap .i64 (x1_3 - 1)).toNat) 0)),some (.d (eP105 t0 a0 ((IntKind.wrap .i64 (x1_3 - 1)).toNat) 0)),some (.i ((a0.getD ((IntKind.wrap .i64 (x1_3 - 1)).toNat) spliceref04_Pair.z).Key)),some (.b (decide (((a0.getD x1_3.toNat spliceref04_Pair.z).Key)≤((a0.getD ((IntKind.wrap .i64 (x1_3 - 1)).toNat) spliceref04_Pair.z).Key)))),some (.b (decide (((a0.getD x1_3.toNat spliceref04_Pair.z).Key)≤((a0.getD ((IntKind.wrap .i64 (x1_3 - 1)).toNat) spliceref04_Pair.z).Key))))] (opG (opG (opG (opG (opS (opG (opG (opG (opG (opG (opS (opG (opG (opG (opV (opG op0 hT) hT 41 (.b (decide (x1_3 > 0))) (.b true) (by rw [decide_eq_true c7]<;>rfl)) hT) hT) hT) (fun R rest h=>ak_idx0 hT (i:=x1_3) (n:=(a0.length:Int)) h2.1 h2.2 (by kernel_rfl) h)) hT) hT) hT) hT) hT) (fun R rest h=>ak_idx0 hT (i:=IntKind.wrap .i64 (x1_3 - 1)) (n:=(a0.length:Int)) h8.1 h8.2 (by kernel_rfl) h)) hT) hT) hT) hT) ?_
        refine goK hT 1 (K49 1101001001 1) ⟨56,[(0,.d (eL105 t0 a0)),(3,.i x1_3),(55,.b (decide (((a0.getD x1_3.toNat spliceref04_Pair.z).Key)≤((a0.getD ((IntKind.wrap .i64 (x1_3 - 1)).toNat) spliceref04_Pair.z).Key))))],[]⟩ ?_
        exact Jj2 (decide (((a0.getD x1_3.toNat spliceref04_Pair.z).Key)≤((a0.getD ((IntKind.wrap .i64 (x1_3 - 1)).toNat) spliceref04_Pair.z).Key))) H
       ·replace H:=sF c7 H
        refine drawK (hP▸mixed) 16 [0,3] [some (.i x1_3),some (.b false),some (.b false),some (.tup []),some (.tup []),some (.tup []),some (.tup []),some (.tup []),some (.tup []),some (.tup []),some (.tup []),some (.tup []),some (.tup []),some (.tup []),some (.tup []),some (.b false)] (opG (opG (opG (opG (opG (opG (opG (opG (opG (opG (opG (opG (opG (opG (opV (opG op0 hT) hT 41 (.b (decide (x1_3 > 0))) (.b false) (by rw [decide_eq_false c7]<;>rfl)) hT) hT) hT) hT) hT) hT) hT) hT) hT) hT) hT) hT) hT) hT) ?_
        refine goK hT 1 (K49 1101001001 1) ⟨56,[(0,.d (eL105 t0 a0)),(3,.i x1_3),(55,.b false)],[]⟩ ?_
        exact Jj2 false H
     refine ak_idx hT [0,3,12] (i:=x1_3) (n:=(a0.length:Int)) h2.1 h2.2 (k':=(K49 11010010000 3)) (st':=⟨56,[(0,.d (eL105 t0 a0)),(3,.i x1_3),(12,.d (eP105 t0 a0 x1_3.toNat 0))],[]⟩) (by kernel_rfl) ?_
     refine goK hT 4 (K49 11010010000 7) ⟨56,[(0,.d (eL105 t0 a0)),(3,.i x1_3),(16,.b (decide (((a0.getD x1_3.toNat spliceref04_Pair.z).Key) < 0)))],[]⟩ ?_
     by_cases c3:((a0.getD x1_3.toNat spliceref04_Pair.z).Key) < 0
     ·replace H:=sT c3 H
      rw [decide_eq_true c3]
      refine goK hT 24 (K49 1101001000 1) ⟨56,[(0,.d (eL105 t0 a0)),(3,.i x1_3),(39,.b true)],[]⟩ ?_
      exact Jj1 true H
     ·replace H:=sF c3 H
      rw [decide_eq_false c3]
      refine goK hT 2 (K49 11010010000 9) ⟨56,[(0,.d (eL105 t0 a0)),(3,.i x1_3),(16,.b false),(17,.d (eL105 t0 a0)),(18,.i x1_3)],[]⟩ ?_
      refine ak_idx hT [0,3,16,19] (i:=x1_3) (n:=(a0.length:Int)) h2.1 h2.2 (k':=(K49 11010010000 10)) (st':=⟨56,[(0,.d (eL105 t0 a0)),(3,.i x1_3),(16,.b false),(19,.d (eP105 t0 a0 x1_3.toNat 0))],[]⟩) (by kernel_rfl) ?_
      refine goK hT 5 (K49 11010010000 15) ⟨56,[(0,.d (eL105 t0 a0)),(3,.i x1_3),(24,.b (decide (((a0.getD x1_3.toNat spliceref04_Pair.z).Key) > 4095)))],[]⟩ ?_
      by_cases c4:((a0.getD x1_3.toNat spliceref04_Pair.z).Key) > 4095
      ·replace H:=sT c4 H
       rw [decide_eq_true c4]
       refine goK hT 16 (K49 1101001000 1) ⟨56,[(0,.d (eL105 t0 a0)),(3,.i x1_3),(39,.b true)],[]⟩ ?_
       exact Jj1 true H
      ·replace H:=sF c4 H
       rw [decide_eq_false c4]
       refine goK hT 2 (K49 11010010000 17) ⟨56,[(0,.d (eL105 t0 a0)),(3,.i x1_3),(24,.b false),(25,.d (eL105 t0 a0)),(26,.i x1_3)],[]⟩ ?_
       refine ak_idx hT [0,3,24,27] (i:=x1_3) (n:=(a0.length:Int)) h2.1 h2.2 (k':=(K49 11010010000 18)) (st':=⟨56,[(0,.d (eL105 t0 a0)),(3,.i x1_3),(24,.b false),(27,.d (eP105 t0 a0 x1_3.toNat 0))],[]⟩) (by kernel_rfl) ?_
       refine goK hT 5 (K49 11010010000 23) ⟨56,[(0,.d (eL105 t0 a0)),(3,.i x1_3),(32,.b (decide (((a0.getD x1_3.toNat spliceref04_Pair.z).Val) < (-1099511627776))))],[]⟩ ?_
       by_cases c5:((a0.getD x1_3.toNat spliceref04_Pair.z).Val) < (-1099511627776)
       ·replace H:=sT c5 H
        rw [decide_eq_true c5]
        refine goK hT 8 (K49 1101001000 1) ⟨56,[(0,.d (eL105 t0 a0)),(3,.i x1_3),(39,.b true)],[]⟩ ?_
        exact Jj1 true H
       ·replace H:=sF c5 H
        rw [decide_eq_false c5]
        refine goK hT 2 (K49 11010010000 25) ⟨56,[(0,.d (eL105 t0 a0)),(3,.i x1_3),(32,.b false),(33,.d (eL105 t0 a0)),(34,.i x1_3)],[]⟩ ?_
        refine ak_idx hT [0,3,32,35] (i:=x1_3) (n:=(a0.length:Int)) h2.1 h2.2 (k':=(K49 11010010000 26)) (st':=⟨56,[(0,.d (eL105 t0 a0)),(3,.i x1_3),(32,.b false),(35,.d (eP105 t0 a0 x1_3.toNat 0))],[]⟩) (by kernel_rfl) ?_
        refine goK hT 5 (K49 1101001000 1) ⟨56,[(0,.d (eL105 t0 a0)),(3,.i x1_3),(39,.b (decide (((a0.getD x1_3.toNat spliceref04_Pair.z).Val) > 1099511627776)))],[]⟩ ?_
        exact Jj1 (decide (((a0.getD x1_3.toNat spliceref04_Pair.z).Val) > 1099511627776)) H
    ·replace H:=sF c1 H
     rw [decide_eq_false c1]
     refine goK hT 6 (K49 111 1) ⟨56,[(2,.b true)],[]⟩ ?_
     obtain rfl:=retC H
     exact retK hf hX h0 (.b true) [] (fun _ h=>all_nil h) (.d (.v _))
 obtain ⟨n,H⟩:=loopC H
 exact (L n) 0 H


theorem spliceref05_more.says {t0:Bool} (a0:List Int) (a1:Int) {r:List Int} (H:spliceref05_more a0 a1=some r):Says Try.prog 81 [] [.d (eL3 t0 a0),.i a1] [eR3 r] (.own 0 1 0 r.length):=by
 refine says_of Try.func81 rfl (nt:=48) rfl (Nat.le_of_ble_eq_true rfl) fun X hP h0 hX=>?_
 have hT:TabOk X.P T:=hP▸tok
 have hf:X.P.funcs[81]? = some Try.f81:=hP▸Try.func81
 refine goK hT 19 (K81 1111010 0) ⟨48,[(0,.d (eL3 t0 a0)),(1,.i a1),(5,.ns),(6,.b false),(7,.i 0)],[]⟩ ?_
 refine ak_nilS [0,1,5,6,7] 5 1 3 (vec (eI .i64) 0 []) (st':=⟨48,[(0,.d (eL3 t0 a0)),(1,.i a1),(5,.own 0 1 0 0),(6,.b false),(7,.i 0)],[eR3 ([]:List Int)]⟩) (by kernel_rfl) (by kernel_rfl) ?_
 have L:∀ n,(∀ (x1_6:Bool) (x1_7:Int) (x1_r0:List Int),iter (spliceref05_more.step a0 a1) n (.l1 x1_6 x1_7 x1_r0)=some r→AK X 81 ((K81 1111010 0)) (Back X [eR3 r] (.own 0 1 0 r.length)) ⟨48,[(0,.d (eL3 t0 a0)),(1,.i a1),(5,.own 0 1 0 x1_r0.length),(6,.b x1_6),(7,.i x1_7)],[eR3 x1_r0]⟩):=by
  intro n
  induction n with
  | zero=>exact fun _ _ _ H=>iter0 H
  | succ n ih=>
   ·intro x1_6 x1_7 x1_r0 H
    refine goK hT 8 (K81 111101000 1) ⟨48,[(0,.d (eL3 t0 a0)),(1,.i a1),(5,.own 0 1 0 x1_r0.length),(6,.b x1_6),(7,.i x1_7),(11,.b (decide (x1_7 < (a0.length:Int))))],[eR3 x1_r0]⟩ ?_
    by_cases c1:x1_7 < (a0.length:Int)
    ·replace H:=sT c1 H
     rw [decide_eq_true c1]
     refine goK hT 2 (K81 11110100 1) ⟨48,[(0,.d (eL3 t0 a0)),(1,.i a1),(5,.own 0 1 0 x1_r0.length),(6,.b x1_6),(7,.i x1_7)],[eR3 x1_r0]⟩ ?_
     refine goK hT 7 (K81 1111010010000 2) ⟨48,[(0,.d (eL3 t0 a0)),(1,.i a1),(5,.own 0 1 0 x1_r0.length),(6,.b x1_6),(7,.i x1_7),(14,.d (eL3 t0 a0)),(15,.i x1_7)],[eR3 x1_r0]⟩ ?_
     obtain ⟨h4,H⟩:=sC H
     have Jj2:∀ (y2_6:Bool),stk (spliceref05_more.j2 a0 a1 x1_7 x1_r0 y2_6) (iter (spliceref05_more.step a0 a1) n)=some r→AK X 81 ((K81 11110100100 1)) (Back X [eR3 r] (.own 0 1 0 r.length)) ⟨48,[(0,.d (eL3 t0 a0)),(1,.i a1),(5,.own 0 1 0 x1_r0.length),(6,.b y2_6),(7,.i x1_7)],[eR3 x1_r0]⟩:=by
      intro y2_6 H
      have Jj3:∀ (y3_6:Bool) (y3_29:Bool),stk (spliceref05_more.j3 a0 a1 x1_7 x1_r0 y3_6 y3_29) (iter (spliceref05_more.step a0 a1) n)=some r→AK X 81 ((K81 1111010010010 1)) (Back X [eR3 r] (.own 0 1 0 r.length)) ⟨48,[(0,.d (eL3 t0 a0)),(1,.i a1),(5,.own 0 1 0 x1_r0.length),(6,.b y3_6),(7,.i x1_7),(29,.b y3_29)],[eR3 x1_r0]⟩:=by
       intro y3_6 y3_29 H
       have Jj4:∀ (y4_6:Bool) (y4_r0:List Int),stk (spliceref05_more.j4 a0 x1_7 y4_6 y4_r0) (iter (spliceref05_more.step a0 a1) n)=some r→AK X 81 ((K81 111101001001 1)) (Back X [eR3 r] (.own 0 1 0 r.length)) ⟨48,[(0,.d (eL3 t0 a0)),(1,.i a1),(5,.own 0 1 0 y4_r0.length),(6,.b y4_6),(7,.i x1_7)],[eR3 y4_r0]⟩:=by
        intro y4_6 y4_r0 H
        refine goK hT 4 (K81 1111010010011 3) ⟨48,[(0,.d (eL3 t0 a0)),(1,.i a1),(6,.b y4_6),(7,.i x1_7),(34,.own 0 1 0 y4_r0.length),(35,.d (eL3 t0 a0)),(36,.i x1_7)],[eR3 y4_r0]⟩ ?_
        refine ak_idx hT [0,1,6,7,34,37] (i:=x1_7) (n:=(a0.length:Int)) h4.1 h4.2 (k':=(K81 1111010010011 4)) (st':=⟨48,[(0,.d (eL3 t0 a0)),(1,.i a1),(6,.b y4_6),(7,.i x1_7),(34,.own 0 1 0 y4_r0.length),(37,.d (eP3 t0 a0 x1_7.toNat 0))],[eR3 y4_r0]⟩) (by kernel_rfl) ?_
        refine goK hT 2 (K81 1111010010011 6) ⟨48,[(0,.d (eL3 t0 a0)),(1,.i a1),(6,.b y4_6),(7,.i x1_7),(34,.own 0 1 0 y4_r0.length),(39,.own 1 1 0 1)],[eR3 y4_r0,.flat false 1 3 1 (fun j=>[[.i (a0.getD x1_7.toNat 0)]].getD j [])]⟩ ?_
        obtain ⟨h9,H⟩:=sC H
        refine ak_append1 (id:=0) (kk:=1) (by':=8) (t:=42) (e:=3) (z:=[.int .i64 0]) (dst:=some 40) (id2:=1) (e2:=3) (fz:=false) (k':=(K81 1111010010011 7)) hT (eI .i64) 0 y4_r0 (a0.getD x1_7.toNat 0) [0,1,6,7,40] (by kernel_rfl) (by kernel_rfl) (by kernel_rfl) (by kernel_rfl) (by kernel_rfl) (by kernel_rfl) (by kernel_rfl) h9 (by omega) (st':=⟨48,[(0,.d (eL3 t0 a0)),(1,.i a1),(6,.b y4_6),(7,.i x1_7),(40,.own 2 1 0 ((y4_r0 ++ [a0.getD x1_7.toNat 0]).length))],[.gone,.flat false 1 3 1 (fun j=>[[.i (a0.getD x1_7.toNat 0)]].getD j []),eR3 (y4_r0 ++ [a0.getD x1_7.toNat 0])]⟩) (by kernel_rfl) ?_
        refine goCut hT 9 (K81 1111010 0) [2] ⟨48,[(0,.d (eL3 t0 a0)),(1,.i a1),(5,.own 0 1 0 (y4_r0 ++ [a0.getD x1_7.toNat 0]).length),(6,.b y4_6),(7,.i (IntKind.wrap .i64 (x1_7+1)))],[eR3 (y4_r0 ++ [a0.getD x1_7.toNat 0])]⟩ h0 ?_
        exact ih y4_6 (IntKind.wrap .i64 (x1_7+1)) (y4_r0 ++ [a0.getD x1_7.toNat 0]) H
       by_cases c7:y3_29=true
       ·replace H:=sT c7 H
        rw [c7]
        refine goK hT 6 (K81 1111010010010100 3) ⟨48,[(0,.d (eL3 t0 a0)),(1,.i a1),(7,.i x1_7),(30,.own 0 1 0 x1_r0.length),(32,.own 1 1 0 1)],[eR3 x1_r0,.flat false 1 3 1 (fun j=>[[.i a1]].getD j [])]⟩ ?_
        obtain ⟨h8,H⟩:=sC H
        refine ak_append1 (id:=0) (kk:=1) (by':=8) (t:=42) (e:=3) (z:=[.int .i64 0]) (dst:=some 33) (id2:=1) (e2:=3) (fz:=false) (k':=(K81 1111010010010100 4)) hT (eI .i64) 0 x1_r0 a1 [0,1,7,33] (by kernel_rfl) (by kernel_rfl) (by kernel_rfl) (by kernel_rfl) (by kernel_rfl) (by kernel_rfl) (by kernel_rfl) h8 (by omega) (st':=⟨48,[(0,.d (eL3 t0 a0)),(1,.i a1),(7,.i x1_7),(33,.own 2 1 0 ((x1_r0 ++ [a1]).length))],[.gone,.flat false 1 3 1 (fun j=>[[.i a1]].getD j []),eR3 (x1_r0 ++ [a1])]⟩) (by kernel_rfl) ?_
        refine goCut hT 5 (K81 111101001001 1) [2] ⟨48,[(0,.d (eL3 t0 a0)),(1,.i a1),(5,.own 0 1 0 (x1_r0 ++ [a1]).length),(6,.b true),(7,.i x1_7)],[eR3 (x1_r0 ++ [a1])]⟩ h0 ?_
        exact Jj4 true (x1_r0 ++ [a1]) H
       ·replace H:=sF c7 H
        rw [boF c7]
        refine goK hT 2 (K81 111101001001 1) ⟨48,[(0,.d (eL3 t0 a0)),(1,.i a1),(5,.own 0 1 0 x1_r0.length),(6,.b y3_6),(7,.i x1_7)],[eR3 x1_r0]⟩ ?_
        exact Jj4 y3_6 x1_r0 H
      refine goK hT 6 (K81 11110100100100 3) ⟨48,[(0,.d (eL3 t0 a0)),(1,.i a1),(5,.own 0 1 0 x1_r0.length),(6,.b y2_6),(7,.i x1_7),(22,.b (!y2_6))],[eR3 x1_r0]⟩ ?_
      by_cases c6:y2_6=true
      ·replace H:=sT c6 H
       rw [c6]
       refine goK hT 8 (K81 1111010010010 1) ⟨48,[(0,.d (eL3 t0 a0)),(1,.i a1),(5,.own 0 1 0 x1_r0.length),(6,.b true),(7,.i x1_7),(29,.b false)],[eR3 x1_r0]⟩ ?_
       exact Jj3 true false H
      ·replace H:=sF c6 H
       rw [boF c6]
       refine goK hT 2 (K81 11110100100100 5) ⟨48,[(0,.d (eL3 t0 a0)),(1,.i a1),(5,.own 0 1 0 x1_r0.length),(6,.b false),(7,.i x1_7),(22,.b true),(23,.d (eL3 t0 a0)),(24,.i x1_7)],[eR3 x1_r0]⟩ ?_
       refine ak_idx hT [0,1,5,6,7,22,25] (i:=x1_7) (n:=(a0.length:Int)) h4.1 h4.2 (k':=(K81 11110100100100 6)) (st':=⟨48,[(0,.d (eL3 t0 a0)),(1,.i a1),(5,.own 0 1 0 x1_r0.length),(6,.b false),(7,.i x1_7),(22,.b true),(25,.d (eP3 t0 a0 x1_7.toNat 0))],[eR3 x1_r0]⟩) (by kernel_rfl) ?_
       refine goK hT 5 (K81 1111010010010 1) ⟨48,[(0,.d (eL3 t0 a0)),(1,.i a1),(5,.own 0 1 0 x1_r0.length),(6,.b false),(7,.i x1_7),(29,.b (decide ((a0.getD x1_7.toNat 0) > a1)))],[eR3 x1_r0]⟩ ?_
       exact Jj3 false (decide ((a0.getD x1_7.toNat 0) > a1)) H
     refine ak_idx hT [0,1,5,6,7,16] (i:=x1_7) (n:=(a0.length:Int)) h4.1 h4.2 (k':=(K81 1111010010000 3)) (st':=⟨48,[(0,.d (eL3 t0 a0)),(1,.i a1),(5,.own 0 1 0 x1_r0.length),(6,.b x1_6),(7,.i x1_7),(16,.d (eP3 t0 a0 x1_7.toNat 0))],[eR3 x1_r0]⟩) (by kernel_rfl) ?_
     refine goK hT 4 (K81 111101001000 1) ⟨48,[(0,.d (eL3 t0 a0)),(1,.i a1),(5,.own 0 1 0 x1_r0.length),(6,.b x1_6),(7,.i x1_7),(19,.b ((a0.getD x1_7.toNat 0) == a1))],[eR3 x1_r0]⟩ ?_
     by_cases c5:(a0.getD x1_7.toNat 0)=a1
     ·replace H:=sT c5 H
      rw [eqT c5]
      refine goK hT 4 (K81 11110100100 1) ⟨48,[(0,.d (eL3 t0 a0)),(1,.i a1),(5,.own 0 1 0 x1_r0.length),(6,.b true),(7,.i x1_7)],[eR3 x1_r0]⟩ ?_
      exact Jj2 true H
     ·replace H:=sF c5 H
      rw [eqF c5]
      refine goK hT 2 (K81 11110100100 1) ⟨48,[(0,.d (eL3 t0 a0)),(1,.i a1),(5,.own 0 1 0 x1_r0.length),(6,.b x1_6),(7,.i x1_7)],[eR3 x1_r0]⟩ ?_
      exact Jj2 x1_6 H
    ·replace H:=sF c1 H
     have Jj1:∀ (y1_r0:List Int),stk (spliceref05_more.j1 y1_r0) (iter (spliceref05_more.step a0 a1) n)=some r→AK X 81 ((K81 11111 1)) (Back X [eR3 r] (.own 0 1 0 r.length)) ⟨48,[(5,.own 0 1 0 y1_r0.length)],[eR3 y1_r0]⟩:=by
      intro y1_r0 H
      refine goK hT 5 (K81 111111 1) ⟨48,[(4,.own 0 1 0 y1_r0.length)],[eR3 y1_r0]⟩ ?_
      obtain rfl:=retC H
      exact retK hf hX h0 (.own 0 1 0 y1_r0.length) [0] (fun _ h=>all_cons (nr_vec (nlI .i64)) (fun _ h=>all_nil h) h) (.own _ _ _ _)
     rw [decide_eq_false c1]
     refine goK hT 8 (K81 111110 1) ⟨48,[(1,.i a1),(5,.own 0 1 0 x1_r0.length),(42,.b (!x1_6))],[eR3 x1_r0]⟩ ?_
     by_cases c2:x1_6=true
     ·replace H:=sT c2 H
      rw [c2]
      refine goK hT 2 (K81 11111 1) ⟨48,[(5,.own 0 1 0 x1_r0.length)],[eR3 x1_r0]⟩ ?_
      exact Jj1 x1_r0 H
     ·replace H:=sF c2 H
      rw [boF c2]
      refine goK hT 5 (K81 11111010 3) ⟨48,[(43,.own 0 1 0 x1_r0.length),(45,.own 1 1 0 1)],[eR3 x1_r0,.flat false 1 3 1 (fun j=>[[.i a1]].getD j [])]⟩ ?_
      obtain ⟨h3,H⟩:=sC H
      refine ak_append1 (id:=0) (kk:=1) (by':=8) (t:=42) (e:=3) (z:=[.int .i64 0]) (dst:=some 46) (id2:=1) (e2:=3) (fz:=false) (k':=(K81 11111010 4)) hT (eI .i64) 0 x1_r0 a1 [46] (by kernel_rfl) (by kernel_rfl) (by kernel_rfl) (by kernel_rfl) (by kernel_rfl) (by kernel_rfl) (by kernel_rfl) h3 (by omega) (st':=⟨48,[(46,.own 2 1 0 ((x1_r0 ++ [a1]).length))],[.gone,.flat false 1 3 1 (fun j=>[[.i a1]].getD j []),eR3 (x1_r0 ++ [a1])]⟩) (by kernel_rfl) ?_
      refine goCut hT 2 (K81 11111 1) [2] ⟨48,[(5,.own 0 1 0 (x1_r0 ++ [a1]).length)],[eR3 (x1_r0 ++ [a1])]⟩ h0 ?_
      exact Jj1 (x1_r0 ++ [a1]) H
 refine cutK [0] ⟨48,[(0,.d (eL3 t0 a0)),(1,.i a1),(5,.own 0 1 0 ([]:List Int).length),(6,.b false),(7,.i 0)],[eR3 ([]:List Int)]⟩ h0 ?_
 obtain ⟨n,H⟩:=loopC H
 exact (L n) false 0 ([]:List Int) H


theorem spliceref05_keys.says {t0:Bool} (a0:List spliceref04_Pair) (a1:spliceref04_Mut) {r:List Int} (H:spliceref05_keys a0 a1=some r):Says Try.prog 64 [] [.d (eL105 t0 a0),.d (eG57 a1)] [eR3 r] (.own 0 1 0 r.length):=by
 refine says_of Try.func64 rfl (nt:=37) rfl (Nat.le_of_ble_eq_true rfl) fun X hP h0 hX=>?_
 have hT:TabOk X.P T:=hP▸tok
 have hf:X.P.funcs[64]? = some Try.f64:=hP▸Try.func64
 refine goK hT 16 (K64 111010 0) ⟨37,[(0,.d (eL105 t0 a0)),(3,.ptr 0 0 0 0),(5,.ns),(6,.i 0)],[.box 57 (eC57 a1)]⟩ ?_
 refine ak_nilS [0,3,5,6] 5 1 3 (vec (eI .i64) 0 []) (st':=⟨37,[(0,.d (eL105 t0 a0)),(3,.ptr 0 0 0 0),(5,.own 1 1 0 0),(6,.i 0)],[.box 57 (eC57 a1),eR3 ([]:List Int)]⟩) (by kernel_rfl) (by kernel_rfl) ?_
 have L:∀ n,(∀ (x1_6:Int) (x1_r1:List Int),iter (spliceref05_keys.step a0 a1) n (.l1 x1_6 x1_r1)=some r→AK X 64 ((K64 111010 0)) (Back X [eR3 r] (.own 0 1 0 r.length)) ⟨37,[(0,.d (eL105 t0 a0)),(3,.ptr 0 0 0 0),(5,.own 1 1 0 x1_r1.length),(6,.i x1_6)],[.box 57 (eC57 a1),eR3 x1_r1]⟩)∧(∀ (x2_7:Int) (x2_r1:List Int),iter (spliceref05_keys.step a0 a1) n (.l2 x2_7 x2_r1)=some r→AK X 64 ((K64 1111010 0)) (Back X [eR3 r] (.own 0 1 0 r.length)) ⟨37,[(3,.ptr 0 0 0 0),(5,.own 1 1 0 x2_r1.length),(7,.i x2_7)],[.box 57 (eC57 a1),eR3 x2_r1]⟩):=by
  intro n
  induction n with
  | zero=>exact ⟨fun _ _ H=>iter0 H,fun _ _ H=>iter0 H⟩
  | succ n ih=>
   refine ⟨?_, ?_⟩
   ·intro x1_6 x1_r1 H
    refine goK hT 8 (K64 11101000 1) ⟨37,[(0,.d (eL105 t0 a0)),(3,.ptr 0 0 0 0),(5,.own 1 1 0 x1_r1.length),(6,.i x1_6),(11,.b (decide (x1_6 < (a0.length:Int))))],[.box 57 (eC57 a1),eR3 x1_r1]⟩ ?_
    by_cases c1:x1_6 < (a0.length:Int)
    ·replace H:=sT c1 H
     rw [decide_eq_true c1]
     refine goK hT 2 (K64 1110100 1) ⟨37,[(0,.d (eL105 t0 a0)),(3,.ptr 0 0 0 0),(5,.own 1 1 0 x1_r1.length),(6,.i x1_6)],[.box 57 (eC57 a1),eR3 x1_r1]⟩ ?_
     refine goK hT 6 (K64 1110100100 3) ⟨37,[(0,.d (eL105 t0 a0)),(3,.ptr 0 0 0 0),(6,.i x1_6),(14,.own 1 1 0 x1_r1.length),(15,.d (eL105 t0 a0)),(16,.i x1_6)],[.box 57 (eC57 a1),eR3 x1_r1]⟩ ?_
     obtain ⟨h2,H⟩:=sC H
     refine ak_idx hT [0,3,6,14,17] (i:=x1_6) (n:=(a0.length:Int)) h2.1 h2.2 (k':=(K64 1110100100 4)) (st':=⟨37,[(0,.d (eL105 t0 a0)),(3,.ptr 0 0 0 0),(6,.i x1_6),(14,.own 1 1 0 x1_r1.length),(17,.d (eP105 t0 a0 x1_6.toNat 0))],[.box 57 (eC57 a1),eR3 x1_r1]⟩) (by kernel_rfl) ?_
     refine goK hT 2 (K64 1110100100 6) ⟨37,[(0,.d (eL105 t0 a0)),(3,.ptr 0 0 0 0),(6,.i x1_6),(14,.own 1 1 0 x1_r1.length),(19,.i ((a0.getD x1_6.toNat spliceref04_Pair.z).Key))],[.box 57 (eC57 a1),eR3 x1_r1]⟩ ?_
     obtain ⟨v1,h3,H⟩:=sbC H
     refine ak_callP (avs:=[.own 1 1 0 x1_r1.length,.i ((a0.getD x1_6.toNat spliceref04_Pair.z).Key)]) (dst:=some 20) (k':=(K64 1110100100 7)) [0,3,6,20] [] hP enters_81 (spliceref05_more.says (t0:=false) x1_r1 ((a0.getD x1_6.toNat spliceref04_Pair.z).Key) h3) (by kernel_rfl) (hands_none _) (.cons (.lend (ty:=3) (by kernel_rfl) rfl) (.cons (pass_d _) .nil)) (st':=⟨37,[(0,.d (eL105 t0 a0)),(3,.ptr 0 0 0 0),(6,.i x1_6),(20,.own 2 1 0 v1.length)],[.box 57 (eC57 a1),eR3 x1_r1,eR3 v1]⟩) (by kernel_rfl) ?_
     refine goCut hT 9 (K64 111010 0) [0,2] ⟨37,[(0,.d (eL105 t0 a0)),(3,.ptr 0 0 0 0),(5,.own 1 1 0 v1.length),(6,.i (IntKind.wrap .i64 (x1_6+1)))],[.box 57 (eC57 a1),eR3 v1]⟩ h0 ?_
     exact ih.1 (IntKind.wrap .i64 (x1_6+1)) v1 H
    ·replace H:=sF c1 H
     rw [decide_eq_false c1]
     refine goK hT 9 (K64 1111010 0) ⟨37,[(3,.ptr 0 0 0 0),(5,.own 1 1 0 x1_r1.length),(7,.i 0)],[.box 57 (eC57 a1),eR3 x1_r1]⟩ ?_
     exact ih.2 0 x1_r1 H
   ·intro x2_7 x2_r1 H
    refine goK hT 9 (K64 111101000 1) ⟨37,[(3,.ptr 0 0 0 0),(5,.own 1 1 0 x2_r1.length),(7,.i x2_7),(25,.b (decide (x2_7 < (a1.Pairs.length:Int))))],[.box 57 (eC57 a1),eR3 x2_r1]⟩ ?_
    by_cases c4:x2_7 < (a1.Pairs.length:Int)
    ·replace H:=sT c4 H
     rw [decide_eq_true c4]
     refine goK hT 2 (K64 11110100 1) ⟨37,[(3,.ptr 0 0 0 0),(5,.own 1 1 0 x2_r1.length),(7,.i x2_7)],[.box 57 (eC57 a1),eR3 x2_r1]⟩ ?_
     refine goK hT 7 (K64 11110100100 4) ⟨37,[(3,.ptr 0 0 0 0),(7,.i x2_7),(28,.own 1 1 0 x2_r1.length),(30,.d (eL105 true a1.Pairs)),(31,.i x2_7)],[.box 57 (eC57 a1),eR3 x2_r1]⟩ ?_
     obtain ⟨h5,H⟩:=sC H
     refine ak_idx hT [3,7,28,32] (i:=x2_7) (n:=(a1.Pairs.length:Int)) h5.1 h5.2 (k':=(K64 11110100100 5)) (st':=⟨37,[(3,.ptr 0 0 0 0),(7,.i x2_7),(28,.own 1 1 0 x2_r1.length),(32,.d (eP105 true a1.Pairs x2_7.toNat 0))],[.box 57 (eC57 a1),eR3 x2_r1]⟩) (by kernel_rfl) ?_
     refine goK hT 2 (K64 11110100100 7) ⟨37,[(3,.ptr 0 0 0 0),(7,.i x2_7),(28,.own 1 1 0 x2_r1.length),(34,.i ((a1.Pairs.getD x2_7.toNat spliceref04_Pair.z).Key))],[.box 57 (eC57 a1),eR3 x2_r1]⟩ ?_
     obtain ⟨v2,h6,H⟩:=sbC H
     refine ak_callP (avs:=[.own 1 1 0 x2_r1.length,.i ((a1.Pairs.getD x2_7.toNat spliceref04_Pair.z).Key)]) (dst:=some 35) (k':=(K64 11110100100 8)) [3,7,35] [] hP enters_81 (spliceref05_more.says (t0:=false) x2_r1 ((a1.Pairs.getD x2_7.toNat spliceref04_Pair.z).Key) h6) (by kernel_rfl) (hands_none _) (.cons (.lend (ty:=3) (by kernel_rfl) rfl) (.cons (pass_d _) .nil)) (st':=⟨37,[(3,.ptr 0 0 0 0),(7,.i x2_7),(35,.own 2 1 0 v2.length)],[.box 57 (eC57 a1),eR3 x2_r1,eR3 v2]⟩) (by kernel_rfl) ?_
     refine goCut hT 9 (K64 1111010 0) [0,2] ⟨37,[(3,.ptr 0 0 0 0),(5,.own 1 1 0 v2.length),(7,.i (IntKind.wrap .i64 (x2_7+1)))],[.box 57 (eC57 a1),eR3 v2]⟩ h0 ?_
     exact ih.2 (IntKind.wrap .i64 (x2_7+1)) v2 H
    ·replace H:=sF c4 H
     rw [decide_eq_false c4]
     refine goK hT 7 (K64 11111 1) ⟨37,[(4,.own 1 1 0 x2_r1.length)],[.box 57 (eC57 a1),eR3 x2_r1]⟩ ?_
     obtain rfl:=retC H
     exact retK hf hX h0 (.own 1 1 0 x2_r1.length) [1] (fun _ h=>all_cons (nr_vec (nlI .i64)) (fun _ h=>all_nil h) h) (.own _ _ _ _)
 refine cutK [0,1] ⟨37,[(0,.d (eL105 t0 a0)),(3,.ptr 0 0 0 0),(5,.own 1 1 0 ([]:List Int).length),(6,.i 0)],[.box 57 (eC57 a1),eR3 ([]:List Int)]⟩ h0 ?_
 obtain ⟨n,H⟩:=loopC H
 exact (L n).1 0 ([]:List Int) H


theorem spliceref05_Get.says {t0:Bool} (a0:List spliceref04_Pair) (a1:Int) {r:spliceref05_Cell} (H:spliceref05_Get a0 a1=some r):Says Try.prog 36 [] [.d (eL105 t0 a0),.i a1] [] (.d (eG59 r)):=by
 refine says_of Try.func36 rfl (nt:=26) rfl (Nat.le_of_ble_eq_true rfl) fun X hP h0 hX=>?_
 have hT:TabOk X.P T:=hP▸tok
 have hf:X.P.funcs[36]? = some Try.f36:=hP▸Try.func36
 refine goK hT 11 (K36 11010 0) ⟨26,[(0,.d (eL105 t0 a0)),(1,.i a1),(4,.ptr 0 0 0 0),(5,.i 0)],[.box 59 [.i 0,.b false]]⟩ ?_
 have L:∀ n,(∀ (x1_5:Int),iter (spliceref05_Get.step a0 a1) n (.l1 x1_5)=some r→AK X 36 ((K36 11010 0)) (Back X [] (.d (eG59 r))) ⟨26,[(0,.d (eL105 t0 a0)),(1,.i a1),(4,.ptr 0 0 0 0),(5,.i x1_5)],[.box 59 [.i 0,.b false]]⟩):=by
  intro n
  induction n with
  | zero=>exact fun _ H=>iter0 H
  | succ n ih=>
   ·intro x1_5 H
    refine goK hT 8 (K36 1101000 1) ⟨26,[(0,.d (eL105 t0 a0)),(1,.i a1),(4,.ptr 0 0 0 0),(5,.i x1_5),(9,.b (decide (x1_5 < (a0.length:Int))))],[.box 59 [.i 0,.b false]]⟩ ?_
    by_cases c1:x1_5 < (a0.length:Int)
    ·replace H:=sT c1 H
     rw [decide_eq_true c1]
     refine goK hT 2 (K36 110100 1) ⟨26,[(0,.d (eL105 t0 a0)),(1,.i a1),(4,.ptr 0 0 0 0),(5,.i x1_5)],[.box 59 [.i 0,.b false]]⟩ ?_
     refine goK hT 6 (K36 1101001000 2) ⟨26,[(0,.d (eL105 t0 a0)),(1,.i a1),(4,.ptr 0 0 0 0),(5,.i x1_5),(12,.d (eL105 t0 a0)),(13,.i x1_5)],[.box 59 [.i 0,.b false]]⟩ ?_
     obtain ⟨h2,H⟩:=sC H
     refine ak_idx hT [0,1,4,5,14] (i:=x1_5) (n:=(a0.length:Int)) h2.1 h2.2 (k':=(K36 1101001000 3)) (st':=⟨26,[(0,.d (eL105 t0 a0)),(1,.i a1),(4,.ptr 0 0 0 0),(5,.i x1_5),(14,.d (eP105 t0 a0 x1_5.toNat 0))],[.box 59 [.i 0,.b false]]⟩) (by kernel_rfl) ?_
     refine goK hT 5 (K36 110100100 1) ⟨26,[(0,.d (eL105 t0 a0)),(1,.i a1),(4,.ptr 0 0 0 0),(5,.i x1_5),(18,.b (((a0.getD x1_5.toNat spliceref04_Pair.z).Key) == a1))],[.box 59 [.i 0,.b false]]⟩ ?_
     by_cases c3:((a0.getD x1_5.toNat spliceref04_Pair.z).Key)=a1
     ·replace H:=sT c3 H
      rw [eqT c3]
      refine goK hT 5 (K36 110100100100 2) ⟨26,[(4,.ptr 0 0 0 0),(19,.d (eL105 t0 a0)),(20,.i x1_5)],[.box 59 [.i 0,.b false]]⟩ ?_
      refine ak_idx hT [4,21] (i:=x1_5) (n:=(a0.length:Int)) h2.1 h2.2 (k':=(K36 110100100100 3)) (st':=⟨26,[(4,.ptr 0 0 0 0),(21,.d (eP105 t0 a0 x1_5.toNat 0))],[.box 59 [.i 0,.b false]]⟩) (by kernel_rfl) ?_
      refine goK hT 5 (K36 11010010010 1) ⟨26,[(4,.ptr 0 0 0 0)],[.box 59 [.i ((a0.getD x1_5.toNat spliceref04_Pair.z).Val),.b true]]⟩ ?_
      obtain rfl:=retC H
      exact ak_retM hT hf hX (av:=.d (.agg [.i ((a0.getD x1_5.toNat spliceref04_Pair.z).Val),.b true])) (by kernel_rfl) [] (sel_of_eq (by kernel_rfl)) (by decide) (by rw [h0];rfl) (by kernel_rfl) (fun _ h=>all_nil h) (.d (.agg (spliceref05_Cell.nl _)))
     ·replace H:=sF c3 H
      rw [eqF c3]
      refine goK hT 3 (K36 1101001 1) ⟨26,[(0,.d (eL105 t0 a0)),(1,.i a1),(4,.ptr 0 0 0 0),(5,.i x1_5)],[.box 59 [.i 0,.b false]]⟩ ?_
      refine goK hT 6 (K36 11010 0) ⟨26,[(0,.d (eL105 t0 a0)),(1,.i a1),(4,.ptr 0 0 0 0),(5,.i (IntKind.wrap .i64 (x1_5+1)))],[.box 59 [.i 0,.b false]]⟩ ?_
      exact ih (IntKind.wrap .i64 (x1_5+1)) H
    ·replace H:=sF c1 H
     rw [decide_eq_false c1]
     refine goK hT 7 (K36 111 1) ⟨26,[(4,.ptr 0 0 0 0)],[.box 59 [.i 0,.b false]]⟩ ?_
     obtain rfl:=retC H
     exact ak_retM hT hf hX (av:=.d (.agg [.i 0,.b false])) (by kernel_rfl) [] (sel_of_eq (by kernel_rfl)) (by decide) (by rw [h0];rfl) (by kernel_rfl) (fun _ h=>all_nil h) (.d (.agg (spliceref05_Cell.nl _)))
 obtain ⟨n,H⟩:=loopC H
 exact (L n) 0 H


theorem spliceref04_Touches.says (a0:spliceref04_Mut) (a1:Int) {r:Bool} (H:spliceref04_Touches a0 a1=some r):Says Try.prog 65 [] [.d (eG57 a0),.i a1] [] (.b r):=by
 refine says_of Try.func65 rfl (nt:=36) rfl (Nat.le_of_ble_eq_true rfl) fun X hP h0 hX=>?_
 have hT:TabOk X.P T:=hP▸tok
 have hf:X.P.funcs[65]? = some Try.f65:=hP▸Try.func65
 refine goK hT 12 (K65 110 1) ⟨36,[(1,.i a1),(2,.ptr 0 0 0 0),(8,.b (a0.Kind == 2))],[.box 57 (eC57 a0)]⟩ ?_
 by_cases c1:a0.Kind=2
 ·replace H:=iT c1 H
  have Jj1:∀ (y1_4:Bool),(spliceref04_Touches.j1 y1_4)=some r→AK X 65 ((K65 11010 1)) (Back X [] (.b r)) ⟨36,[(4,.b y1_4)],[]⟩:=by
   intro y1_4 H
   obtain rfl:=retC H
   exact retK hf hX h0 (.b y1_4) [] (fun _ h=>all_nil h) (.d (.v _))
  rw [eqT c1]
  refine goK hT 9 (K65 110100 6) ⟨36,[(1,.i a1),(2,.ptr 0 0 0 0),(14,.b (decide (a1≥a0.Over.Lo)))],[.box 57 (eC57 a0)]⟩ ?_
  by_cases c2:a1≥a0.Over.Lo
  ·replace H:=iT c2 H
   rw [decide_eq_true c2]
   refine goCut hT 8 (K65 11010 1) [] ⟨36,[(4,.b (decide (a1 < a0.Over.Hi)))],[]⟩ h0 ?_
   exact Jj1 (decide (a1 < a0.Over.Hi)) H
  ·replace H:=iF c2 H
   rw [decide_eq_false c2]
   refine goCut hT 8 (K65 11010 1) [] ⟨36,[(4,.b false)],[]⟩ h0 ?_
   exact Jj1 false H
 ·replace H:=iF c1 H
  rw [eqF c1]
  refine goK hT 2 (K65 11 1) ⟨36,[(1,.i a1),(2,.ptr 0 0 0 0)],[.box 57 (eC57 a0)]⟩ ?_
  refine goK hT 7 (K65 111010 0) ⟨36,[(1,.i a1),(2,.ptr 0 0 0 0),(5,.i 0)],[.box 57 (eC57 a0)]⟩ ?_
  have L:∀ n,(∀ (x1_5:Int),iter (spliceref04_Touches.step a0 a1) n (.l1 x1_5)=some r→AK X 65 ((K65 111010 0)) (Back X [] (.b r)) ⟨36,[(1,.i a1),(2,.ptr 0 0 0 0),(5,.i x1_5)],[.box 57 (eC57 a0)]⟩):=by
   intro n
   induction n with
   | zero=>exact fun _ H=>iter0 H
   | succ n ih=>
    ·intro x1_5 H
     refine goK hT 9 (K65 11101000 1) ⟨36,[(1,.i a1),(2,.ptr 0 0 0 0),(5,.i x1_5),(25,.b (decide (x1_5 < (a0.Pairs.length:Int))))],[.box 57 (eC57 a0)]⟩ ?_
     by_cases c3:x1_5 < (a0.Pairs.length:Int)
     ·replace H:=sT c3 H
      rw [decide_eq_true c3]
      refine goK hT 2 (K65 1110100 1) ⟨36,[(1,.i a1),(2,.ptr 0 0 0 0),(5,.i x1_5)],[.box 57 (eC57 a0)]⟩ ?_
      refine goK hT 7 (K65 11101001000 3) ⟨36,[(1,.i a1),(2,.ptr 0 0 0 0),(5,.i x1_5),(29,.d (eL105 true a0.Pairs)),(30,.i x1_5)],[.box 57 (eC57 a0)]⟩ ?_
      obtain ⟨h4,H⟩:=sC H
      refine ak_idx hT [1,2,5,31] (i:=x1_5) (n:=(a0.Pairs.length:Int)) h4.1 h4.2 (k':=(K65 11101001000 4)) (st':=⟨36,[(1,.i a1),(2,.ptr 0 0 0 0),(5,.i x1_5),(31,.d (eP105 true a0.Pairs x1_5.toNat 0))],[.box 57 (eC57 a0)]⟩) (by kernel_rfl) ?_
      refine goK hT 5 (K65 1110100100 1) ⟨36,[(1,.i a1),(2,.ptr 0 0 0 0),(5,.i x1_5),(35,.b (((a0.Pairs.getD x1_5.toNat spliceref04_Pair.z).Key) == a1))],[.box 57 (eC57 a0)]⟩ ?_
      by_cases c5:((a0.Pairs.getD x1_5.toNat spliceref04_Pair.z).Key)=a1
      ·replace H:=sT c5 H
       rw [eqT c5]
       refine goK hT 5 (K65 111010010010 1) ⟨36,[(4,.b true)],[.box 57 (eC57 a0)]⟩ ?_
       obtain rfl:=retC H
       exact retK hf hX h0 (.b true) [] (fun _ h=>all_nil h) (.d (.v _))
      ·replace H:=sF c5 H
       rw [eqF c5]
       refine goK hT 3 (K65 11101001 1) ⟨36,[(1,.i a1),(2,.ptr 0 0 0 0),(5,.i x1_5)],[.box 57 (eC57 a0)]⟩ ?_
       refine goK hT 6 (K65 111010 0) ⟨36,[(1,.i a1),(2,.ptr 0 0 0 0),(5,.i (IntKind.wrap .i64 (x1_5+1)))],[.box 57 (eC57 a0)]⟩ ?_
       exact ih (IntKind.wrap .i64 (x1_5+1)) H
     ·replace H:=sF c3 H
      rw [decide_eq_false c3]
      refine goK hT 6 (K65 1111 1) ⟨36,[(4,.b false)],[.box 57 (eC57 a0)]⟩ ?_
      obtain rfl:=retC H
      exact retK hf hX h0 (.b false) [] (fun _ h=>all_nil h) (.d (.v _))
  obtain ⟨n,H⟩:=loopC H
  exact (L n) 0 H


theorem spliceref03_Has.says {t0:Bool} (a0:List spliceref03_Span) (a1:Int) {r:Bool} (H:spliceref03_Has a0 a1=some r):Says Try.prog 66 [] [.d (eL55 t0 a0),.i a1] [] (.b r):=by
 refine says_of Try.func66 rfl (nt:=35) rfl (Nat.le_of_ble_eq_true rfl) fun X hP h0 hX=>?_
 have hT:TabOk X.P T:=hP▸tok
 have hf:X.P.funcs[66]? = some Try.f66:=hP▸Try.func66
 refine goK hT 11 (K66 11010 0) ⟨35,[(0,.d (eL55 t0 a0)),(1,.i a1),(5,.i 0)],[]⟩ ?_
 have L:∀ n,(∀ (x1_5:Int),iter (spliceref03_Has.step a0 a1) n (.l1 x1_5)=some r→AK X 66 ((K66 11010 0)) (Back X [] (.b r)) ⟨35,[(0,.d (eL55 t0 a0)),(1,.i a1),(5,.i x1_5)],[]⟩):=by
  intro n
  induction n with
  | zero=>exact fun _ H=>iter0 H
  | succ n ih=>
   ·intro x1_5 H
    refine goK hT 8 (K66 1101000 1) ⟨35,[(0,.d (eL55 t0 a0)),(1,.i a1),(5,.i x1_5),(9,.b (decide (x1_5 < (a0.length:Int))))],[]⟩ ?_
    by_cases c1:x1_5 < (a0.length:Int)
    ·replace H:=sT c1 H
     rw [decide_eq_true c1]
     refine goK hT 2 (K66 110100 1) ⟨35,[(0,.d (eL55 t0 a0)),(1,.i a1),(5,.i x1_5)],[]⟩ ?_
     refine goK hT 6 (K66 1101001000 2) ⟨35,[(0,.d (eL55 t0 a0)),(1,.i a1),(5,.i x1_5),(12,.d (eL55 t0 a0)),(13,.i x1_5)],[]⟩ ?_
     obtain ⟨h2,H⟩:=sC H
     have Jj1:∀ (y1_34:Bool),stk (spliceref03_Has.j1 x1_5 y1_34) (iter (spliceref03_Has.step a0 a1) n)=some r→AK X 66 ((K66 110100100 1)) (Back X [] (.b r)) ⟨35,[(0,.d (eL55 t0 a0)),(1,.i a1),(5,.i x1_5),(34,.b y1_34)],[]⟩:=by
      intro y1_34 H
      by_cases c5:y1_34=true
      ·replace H:=sT c5 H
       rw [c5]
       refine goK hT 5 (K66 11010010010 1) ⟨35,[(4,.b true)],[]⟩ ?_
       obtain rfl:=retC H
       exact retK hf hX h0 (.b true) [] (fun _ h=>all_nil h) (.d (.v _))
      ·replace H:=sF c5 H
       rw [boF c5]
       refine goK hT 3 (K66 1101001 1) ⟨35,[(0,.d (eL55 t0 a0)),(1,.i a1),(5,.i x1_5)],[]⟩ ?_
       refine goK hT 6 (K66 11010 0) ⟨35,[(0,.d (eL55 t0 a0)),(1,.i a1),(5,.i (IntKind.wrap .i64 (x1_5+1)))],[]⟩ ?_
       exact ih (IntKind.wrap .i64 (x1_5+1)) H
     refine ak_idx hT [0,1,5,14] (i:=x1_5) (n:=(a0.length:Int)) h2.1 h2.2 (k':=(K66 1101001000 3)) (st':=⟨35,[(0,.d (eL55 t0 a0)),(1,.i a1),(5,.i x1_5),(14,.d (eP55 t0 a0 x1_5.toNat 0))],[]⟩) (by kernel_rfl) ?_
     refine goK hT 1 (K66 1101001000 4) ⟨35,[(0,.d (eL55 t0 a0)),(1,.i a1),(5,.i x1_5),(15,.d (eG55 (a0.getD x1_5.toNat spliceref03_Span.z)))],[]⟩ ?_
     refine ak_callP (avs:=[.d (eG55 (a0.getD x1_5.toNat spliceref03_Span.z))]) (dst:=some 16) (k':=(K66 1101001000 5)) [0,1,5,16] [] hP enters_30 (spliceref03_One.says (a0.getD x1_5.toNat spliceref03_Span.z)) (by kernel_rfl) (hands_none _) (.cons (pass_d _) .nil) (st':=⟨35,[(0,.d (eL55 t0 a0)),(1,.i a1),(5,.i x1_5),(16,.b (spliceref03_One (a0.getD x1_5.toNat spliceref03_Span.z)))],[]⟩) (by kernel_rfl) ?_
     refine goK hT 1 (K66 1101001000 6) ⟨35,[(0,.d (eL55 t0 a0)),(1,.i a1),(5,.i x1_5),(17,.b (spliceref03_One (a0.getD x1_5.toNat spliceref03_Span.z)))],[]⟩ ?_
     by_cases c3:(spliceref03_One (a0.getD x1_5.toNat spliceref03_Span.z))=true
     ·replace H:=sT c3 H
      rw [c3]
      refine goK hT 3 (K66 1101001000 9) ⟨35,[(0,.d (eL55 t0 a0)),(1,.i a1),(5,.i x1_5),(17,.b true),(18,.i a1),(19,.d (eL55 t0 a0)),(20,.i x1_5)],[]⟩ ?_
      refine ak_idx hT [0,1,5,17,18,21] (i:=x1_5) (n:=(a0.length:Int)) h2.1 h2.2 (k':=(K66 1101001000 10)) (st':=⟨35,[(0,.d (eL55 t0 a0)),(1,.i a1),(5,.i x1_5),(17,.b true),(18,.i a1),(21,.d (eP55 t0 a0 x1_5.toNat 0))],[]⟩) (by kernel_rfl) ?_
      refine goK hT 5 (K66 1101001000 15) ⟨35,[(0,.d (eL55 t0 a0)),(1,.i a1),(5,.i x1_5),(26,.b (decide (a1≥((a0.getD x1_5.toNat spliceref03_Span.z).Lo))))],[]⟩ ?_
      by_cases c4:a1≥((a0.getD x1_5.toNat spliceref03_Span.z).Lo)
      ·replace H:=sT c4 H
       rw [decide_eq_true c4]
       refine goK hT 3 (K66 1101001000 18) ⟨35,[(0,.d (eL55 t0 a0)),(1,.i a1),(5,.i x1_5),(26,.b true),(27,.i a1),(28,.d (eL55 t0 a0)),(29,.i x1_5)],[]⟩ ?_
       refine ak_idx hT [0,1,5,26,27,30] (i:=x1_5) (n:=(a0.length:Int)) h2.1 h2.2 (k':=(K66 1101001000 19)) (st':=⟨35,[(0,.d (eL55 t0 a0)),(1,.i a1),(5,.i x1_5),(26,.b true),(27,.i a1),(30,.d (eP55 t0 a0 x1_5.toNat 0))],[]⟩) (by kernel_rfl) ?_
       refine goK hT 5 (K66 110100100 1) ⟨35,[(0,.d (eL55 t0 a0)),(1,.i a1),(5,.i x1_5),(34,.b (decide (a1 < ((a0.getD x1_5.toNat spliceref03_Span.z).Hi))))],[]⟩ ?_
       exact Jj1 (decide (a1 < ((a0.getD x1_5.toNat spliceref03_Span.z).Hi))) H
      ·replace H:=sF c4 H
       rw [decide_eq_false c4]
       refine goK hT 9 (K66 110100100 1) ⟨35,[(0,.d (eL55 t0 a0)),(1,.i a1),(5,.i x1_5),(34,.b false)],[]⟩ ?_
       exact Jj1 false H
     ·replace H:=sF c3 H
      rw [boF c3]
      refine goK hT 18 (K66 110100100 1) ⟨35,[(0,.d (eL55 t0 a0)),(1,.i a1),(5,.i x1_5),(34,.b false)],[]⟩ ?_
      exact Jj1 false H
    ·replace H:=sF c1 H
     rw [decide_eq_false c1]
     refine goK hT 6 (K66 111 1) ⟨35,[(4,.b false)],[]⟩ ?_
     obtain rfl:=retC H
     exact retK hf hX h0 (.b false) [] (fun _ h=>all_nil h) (.d (.v _))
 obtain ⟨n,H⟩:=loopC H
 exact (L n) 0 H


theorem spliceref05_within.says (a0:Int):Says Try.prog 82 [] [.i a0] [] (.i (spliceref05_within a0)):=by
 obtain ⟨r,H⟩:∃ r,spliceref05_within a0=r:=⟨_,rfl⟩
 rw [H]
 refine says_of Try.func82 rfl (nt:=8) rfl (Nat.le_of_ble_eq_true rfl) fun X hP h0 hX=>?_
 have hT:TabOk X.P T:=hP▸tok
 have hf:X.P.funcs[82]? = some Try.f82:=hP▸Try.func82
 refine goK hT 10 (K82 110 1) ⟨8,[(0,.i a0),(4,.b (decide (a0 > 1099511627776)))],[]⟩ ?_
 by_cases c1:a0 > 1099511627776
 ·replace H:=iT c1 H
  rw [decide_eq_true c1]
  refine goK hT 5 (K82 11010 1) ⟨8,[(2,.i 1099511627776)],[]⟩ ?_
  obtain rfl:=H
  exact retK hf hX h0 (.i 1099511627776) [] (fun _ h=>all_nil h) (.d (.v _))
 ·replace H:=iF c1 H
  rw [decide_eq_false c1]
  refine goK hT 2 (K82 11 1) ⟨8,[(0,.i a0)],[]⟩ ?_
  refine goK hT 6 (K82 1110 1) ⟨8,[(0,.i a0),(6,.b (decide (a0 < (-1099511627776))))],[]⟩ ?_
  by_cases c2:a0 < (-1099511627776)
  ·replace H:=iT c2 H
   rw [decide_eq_true c2]
   refine goK hT 5 (K82 111010 1) ⟨8,[(2,.i (-1099511627776))],[]⟩ ?_
   obtain rfl:=H
   exact retK hf hX h0 (.i (-1099511627776)) [] (fun _ h=>all_nil h) (.d (.v _))
  ·replace H:=iF c2 H
   rw [decide_eq_false c2]
   refine goK hT 2 (K82 111 1) ⟨8,[(0,.i a0)],[]⟩ ?_
   refine goK hT 5 (K82 1111 1) ⟨8,[(2,.i a0)],[]⟩ ?_
   obtain rfl:=H
   exact retK hf hX h0 (.i a0) [] (fun _ h=>all_nil h) (.d (.v _))


noncomputable abbrev spliceref05_Cells.q1 (a0:spliceref05_Cell) (a1:spliceref04_Mut):List Row:=[.box 59 (eC59 a0),.box 57 (eC57 a1),.box 59 [.i 0,.b false]]


noncomputable abbrev spliceref05_Cells.s1 (a2:Int) (a0:spliceref05_Cell) (a1:spliceref04_Mut):St:=⟨116,[(2,.i a2),(3,.ptr 0 0 0 0),(4,.ptr 1 0 0 0),(6,.ptr 2 0 0 0)],(spliceref05_Cells.q1 a0 a1)⟩


theorem spliceref05_Cells.says (a0:spliceref05_Cell) (a1:spliceref04_Mut) (a2:Int) {r:spliceref05_Cell × Bool} (H:spliceref05_Cells a0 a1 a2=some r):Says Try.prog 67 [] [.d (eG59 a0),.d (eG57 a1),.i a2] [] (.tup [.d (eG59 r.1),.b r.2]):=by
 refine says_of Try.func67 rfl (nt:=116) rfl (Nat.le_of_ble_eq_true rfl) fun X hP h0 hX=>?_
 have hT:TabOk X.P T:=hP▸tok
 have hf:X.P.funcs[67]? = some Try.f67:=hP▸Try.func67
 refine goK hT 14 (K67 110 1) ⟨116,[(2,.i a2),(3,.ptr 0 0 0 0),(4,.ptr 1 0 0 0),(6,.ptr 2 0 0 0),(12,.b (a1.Kind == 2))],(spliceref05_Cells.q1 a0 a1)⟩ ?_
 by_cases c1:a1.Kind=2
 ·replace H:=iT c1 H
  rw [eqT c1]
  refine goK hT 7 (K67 11010 1) ⟨116,[(6,.ptr 2 0 0 0),(7,.b true)],(spliceref05_Cells.q1 a0 a1)⟩ ?_
  obtain rfl:=retC H
  exact ak_retM hT hf hX (av:=.tup [.d (.agg [.i 0,.b false]),.b true]) (by kernel_rfl) [] (sel_of_eq (by kernel_rfl)) (by decide) (by rw [h0];rfl) (by kernel_rfl) (fun _ h=>all_nil h) (.tup (.cons (.d (.agg (spliceref05_Cell.nl _))) (.cons (.d (.v _)) .nil)))
 ·replace H:=iF c1 H
  rw [eqF c1]
  refine goK hT 2 (K67 11 1) (spliceref05_Cells.s1 a2 a0 a1) ?_
  refine goK hT 7 (K67 1110 1) ⟨116,[(2,.i a2),(3,.ptr 0 0 0 0),(4,.ptr 1 0 0 0),(6,.ptr 2 0 0 0),(16,.b (a1.Kind == 3))],(spliceref05_Cells.q1 a0 a1)⟩ ?_
  by_cases c2:a1.Kind=3
  ·replace H:=iT c2 H
   rw [eqT c2]
   refine goK hT 2 (K67 111010 0) ⟨116,[(3,.ptr 0 0 0 0),(4,.ptr 1 0 0 0),(6,.ptr 2 0 0 0)],(spliceref05_Cells.q1 a0 a1)⟩ ?_
   obtain ⟨h3,H⟩:=iC H
   refine drawK (hP▸mixed) 7 [3,4,6] [some (.ptr 0 0 0 0),some (.i a0.Val),some (.ptr 1 0 0 3),some (.d (eL105 true a1.Pairs)),some (.d (eP105 true a1.Pairs 0 0)),some (.d (eP105 true a1.Pairs 0 1)),some (.i ((a1.Pairs.getD 0 spliceref04_Pair.z).Val))] (opG (opG (opS (opG (opG (opG (opG op0 hT) hT) hT) hT) (fun R rest h=>ak_idx0 hT (i:=0) (n:=(a1.Pairs.length:Int)) h3.1 h3.2 (by kernel_rfl) h)) hT) hT) ?_
   refine goK hT 2 (K67 1110100 9) ⟨116,[(3,.ptr 0 0 0 0),(6,.ptr 2 0 0 0),(8,.i (IntKind.wrap .i64 (a0.Val+((a1.Pairs.getD 0 spliceref04_Pair.z).Val))))],(spliceref05_Cells.q1 a0 a1)⟩ ?_
   obtain ⟨v1,h4,H⟩:=idC H
   have Jj1:∀ (y1_30:Bool),(spliceref05_Cells.j1 a0 v1 y1_30)=some r→AK X 67 ((K67 11101010 1)) (Back X [] (.tup [.d (eG59 r.1),.b r.2])) ⟨116,[(3,.ptr 0 0 0 0),(6,.ptr 1 0 0 0),(8,.i v1),(30,.b y1_30)],[.box 59 (eC59 a0),.box 59 [.i 0,.b false]]⟩:=by
    intro y1_30 H
    by_cases c6:y1_30=true
    ·replace H:=iT c6 H
     rw [c6]
     refine goK hT 7 (K67 1110101010 1) ⟨116,[(6,.ptr 1 0 0 0),(7,.b false)],[.box 59 (eC59 a0),.box 59 (eC59 a0)]⟩ ?_
     obtain rfl:=retC H
     exact ak_retM hT hf hX (av:=.tup [.d (eG59 a0),.b false]) (by kernel_rfl) [] (sel_of_eq (by kernel_rfl)) (by decide) (by rw [h0];rfl) (by kernel_rfl) (fun _ h=>all_nil h) (.tup (.cons (.d (.agg (spliceref05_Cell.nl _))) (.cons (.d (.v _)) .nil)))
    ·replace H:=iF c6 H
     rw [boF c6]
     refine goK hT 2 (K67 1110101 1) ⟨116,[(6,.ptr 1 0 0 0),(8,.i v1)],[.box 59 (eC59 a0),.box 59 [.i 0,.b false]]⟩ ?_
     refine goK hT 7 (K67 11101011 1) ⟨116,[(6,.ptr 1 0 0 0),(7,.b true)],[.box 59 (eC59 a0),.box 59 [.i v1,.b true]]⟩ ?_
     obtain rfl:=retC H
     exact ak_retM hT hf hX (av:=.tup [.d (.agg [.i v1,.b true]),.b true]) (by kernel_rfl) [] (sel_of_eq (by kernel_rfl)) (by decide) (by rw [h0];rfl) (by kernel_rfl) (fun _ h=>all_nil h) (.tup (.cons (.d (.agg (spliceref05_Cell.nl _))) (.cons (.d (.v _)) .nil)))
   rw [← h4]
   refine goK hT 7 (K67 111010100 3) ⟨116,[(3,.ptr 0 0 0 0),(6,.ptr 2 0 0 0),(8,.i v1),(27,.b (decide (v1 < 0)))],(spliceref05_Cells.q1 a0 a1)⟩ ?_
   by_cases c5:v1 < 0
   ·replace H:=iT c5 H
    rw [decide_eq_true c5]
    refine goCut hT 4 (K67 11101010 1) [0,2] ⟨116,[(3,.ptr 0 0 0 0),(6,.ptr 1 0 0 0),(8,.i v1),(30,.b true)],[.box 59 (eC59 a0),.box 59 [.i 0,.b false]]⟩ h0 ?_
    exact Jj1 true H
   ·replace H:=iF c5 H
    rw [decide_eq_false c5]
    refine goCut hT 4 (K67 11101010 1) [0,2] ⟨116,[(3,.ptr 0 0 0 0),(6,.ptr 1 0 0 0),(8,.i v1),(30,.b (decide (v1 > 1099511627776)))],[.box 59 (eC59 a0),.box 59 [.i 0,.b false]]⟩ h0 ?_
    exact Jj1 (decide (v1 > 1099511627776)) H
  ·replace H:=iF c2 H
   rw [eqF c2]
   refine goK hT 2 (K67 111 1) (spliceref05_Cells.s1 a2 a0 a1) ?_
   refine goK hT 7 (K67 11110 1) ⟨116,[(2,.i a2),(3,.ptr 0 0 0 0),(4,.ptr 1 0 0 0),(6,.ptr 2 0 0 0),(36,.b (a1.Kind == 4))],(spliceref05_Cells.q1 a0 a1)⟩ ?_
   by_cases c7:a1.Kind=4
   ·replace H:=iT c7 H
    have Jj2:∀ (y2_55:Bool),(spliceref05_Cells.j2 a0 a1 y2_55)=some r→AK X 67 ((K67 11110100 1)) (Back X [] (.tup [.d (eG59 r.1),.b r.2])) ⟨116,[(3,.ptr 0 0 0 0),(4,.ptr 1 0 0 0),(6,.ptr 2 0 0 0),(55,.b y2_55)],(spliceref05_Cells.q1 a0 a1)⟩:=by
     intro y2_55 H
     by_cases c10:y2_55=true
     ·replace H:=iT c10 H
      rw [c10]
      refine goK hT 7 (K67 1111010010 1) ⟨116,[(6,.ptr 2 0 0 0),(7,.b false)],[.box 59 (eC59 a0),.box 57 (eC57 a1),.box 59 (eC59 a0)]⟩ ?_
      obtain rfl:=retC H
      exact ak_retM hT hf hX (av:=.tup [.d (eG59 a0),.b false]) (by kernel_rfl) [] (sel_of_eq (by kernel_rfl)) (by decide) (by rw [h0];rfl) (by kernel_rfl) (fun _ h=>all_nil h) (.tup (.cons (.d (.agg (spliceref05_Cell.nl _))) (.cons (.d (.v _)) .nil)))
     ·replace H:=iF c10 H
      rw [boF c10]
      refine goK hT 2 (K67 1111010 1) ⟨116,[(4,.ptr 1 0 0 0),(6,.ptr 2 0 0 0)],(spliceref05_Cells.q1 a0 a1)⟩ ?_
      refine goK hT 4 (K67 111101010 2) ⟨116,[(6,.ptr 2 0 0 0),(58,.d (eL105 true a1.Pairs))],(spliceref05_Cells.q1 a0 a1)⟩ ?_
      obtain ⟨h11,H⟩:=iC H
      refine ak_idx hT [6,59] (i:=0) (n:=(a1.Pairs.length:Int)) h11.1 h11.2 (k':=(K67 111101010 3)) (st':=⟨116,[(6,.ptr 2 0 0 0),(59,.d (eP105 true a1.Pairs 0 0))],(spliceref05_Cells.q1 a0 a1)⟩) (by kernel_rfl) ?_
      refine goK hT 6 (K67 11110101 1) ⟨116,[(6,.ptr 2 0 0 0),(7,.b true)],[.box 59 (eC59 a0),.box 57 (eC57 a1),.box 59 [.i ((a1.Pairs.getD 0 spliceref04_Pair.z).Val),.b true]]⟩ ?_
      obtain rfl:=retC H
      exact ak_retM hT hf hX (av:=.tup [.d (.agg [.i ((a1.Pairs.getD 0 spliceref04_Pair.z).Val),.b true]),.b true]) (by kernel_rfl) [] (sel_of_eq (by kernel_rfl)) (by decide) (by rw [h0];rfl) (by kernel_rfl) (fun _ h=>all_nil h) (.tup (.cons (.d (.agg (spliceref05_Cell.nl _))) (.cons (.d (.v _)) .nil)))
    rw [eqT c7]
    refine goK hT 7 (K67 111101000 3) ⟨116,[(3,.ptr 0 0 0 0),(4,.ptr 1 0 0 0),(6,.ptr 2 0 0 0),(39,.b a0.Some)],(spliceref05_Cells.q1 a0 a1)⟩ ?_
    by_cases c8:a0.Some=true
    ·replace H:=iT c8 H
     rw [c8]
     refine goK hT 7 (K67 111101000 10) ⟨116,[(3,.ptr 0 0 0 0),(4,.ptr 1 0 0 0),(6,.ptr 2 0 0 0),(46,.b (a0.Val != a1.Old))],(spliceref05_Cells.q1 a0 a1)⟩ ?_
     by_cases c9:a0.Val=a1.Old
     ·replace H:=iT c9 H
      rw [neF c9]
      refine goK hT 4 (K67 111101000 14) ⟨116,[(3,.ptr 0 0 0 0),(4,.ptr 1 0 0 0),(6,.ptr 2 0 0 0),(46,.b false),(50,.b (!a0.Some))],(spliceref05_Cells.q1 a0 a1)⟩ ?_
      rw [c8]
      refine goK hT 6 (K67 11110100 1) ⟨116,[(3,.ptr 0 0 0 0),(4,.ptr 1 0 0 0),(6,.ptr 2 0 0 0),(55,.b false)],(spliceref05_Cells.q1 a0 a1)⟩ ?_
      exact Jj2 false H
     ·replace H:=iF c9 H
      rw [neT c9]
      refine goK hT 10 (K67 11110100 1) ⟨116,[(3,.ptr 0 0 0 0),(4,.ptr 1 0 0 0),(6,.ptr 2 0 0 0),(55,.b true)],(spliceref05_Cells.q1 a0 a1)⟩ ?_
      exact Jj2 true H
    ·replace H:=iF c8 H
     rw [boF c8]
     refine goK hT 11 (K67 111101000 14) ⟨116,[(3,.ptr 0 0 0 0),(4,.ptr 1 0 0 0),(6,.ptr 2 0 0 0),(46,.b false),(50,.b (!a0.Some))],(spliceref05_Cells.q1 a0 a1)⟩ ?_
     rw [boF c8]
     refine goK hT 6 (K67 11110100 1) ⟨116,[(3,.ptr 0 0 0 0),(4,.ptr 1 0 0 0),(6,.ptr 2 0 0 0),(55,.b (a1.Old != 1099511627777))],(spliceref05_Cells.q1 a0 a1)⟩ ?_
     exact Jj2 (a1.Old != 1099511627777) H
   ·replace H:=iF c7 H
    rw [eqF c7]
    refine goK hT 2 (K67 1111 1) (spliceref05_Cells.s1 a2 a0 a1) ?_
    refine goK hT 7 (K67 111110 1) ⟨116,[(2,.i a2),(3,.ptr 0 0 0 0),(4,.ptr 1 0 0 0),(6,.ptr 2 0 0 0),(65,.b (a1.Kind == 5))],(spliceref05_Cells.q1 a0 a1)⟩ ?_
    by_cases c12:a1.Kind=5
    ·replace H:=iT c12 H
     rw [eqT c12]
     refine goK hT 7 (K67 1111101000 3) ⟨116,[(3,.ptr 0 0 0 0),(4,.ptr 1 0 0 0),(6,.ptr 2 0 0 0),(66,.i a2),(68,.d (eL105 true a1.Pairs))],(spliceref05_Cells.q1 a0 a1)⟩ ?_
     obtain ⟨h13,H⟩:=iC H
     refine ak_idx hT [3,4,6,66,69] (i:=0) (n:=(a1.Pairs.length:Int)) h13.1 h13.2 (k':=(K67 1111101000 4)) (st':=⟨116,[(3,.ptr 0 0 0 0),(4,.ptr 1 0 0 0),(6,.ptr 2 0 0 0),(66,.i a2),(69,.d (eP105 true a1.Pairs 0 0))],(spliceref05_Cells.q1 a0 a1)⟩) (by kernel_rfl) ?_
     refine goK hT 4 (K67 111110100 1) ⟨116,[(3,.ptr 0 0 0 0),(4,.ptr 1 0 0 0),(6,.ptr 2 0 0 0),(72,.b (a2 == ((a1.Pairs.getD 0 spliceref04_Pair.z).Key)))],(spliceref05_Cells.q1 a0 a1)⟩ ?_
     by_cases c14:a2=((a1.Pairs.getD 0 spliceref04_Pair.z).Key)
     ·replace H:=iT c14 H
      rw [eqT c14]
      refine goK hT 2 (K67 11111010010 0) ⟨116,[(3,.ptr 0 0 0 0),(4,.ptr 1 0 0 0),(6,.ptr 2 0 0 0)],(spliceref05_Cells.q1 a0 a1)⟩ ?_
      refine drawK (hP▸mixed) 7 [3,4,6] [some (.ptr 0 0 0 0),some (.i a0.Val),some (.ptr 1 0 0 3),some (.d (eL105 true a1.Pairs)),some (.d (eP105 true a1.Pairs 0 0)),some (.d (eP105 true a1.Pairs 0 1)),some (.i ((a1.Pairs.getD 0 spliceref04_Pair.z).Val))] (opG (opG (opS (opG (opG (opG (opG op0 hT) hT) hT) hT) (fun R rest h=>ak_idx0 hT (i:=0) (n:=(a1.Pairs.length:Int)) h13.1 h13.2 (by kernel_rfl) h)) hT) hT) ?_
      refine goK hT 1 (K67 111110100100 8) ⟨116,[(6,.ptr 2 0 0 0),(80,.i (IntKind.wrap .i64 (a0.Val - ((a1.Pairs.getD 0 spliceref04_Pair.z).Val))))],(spliceref05_Cells.q1 a0 a1)⟩ ?_
      refine ak_callP (avs:=[.i (IntKind.wrap .i64 (a0.Val - ((a1.Pairs.getD 0 spliceref04_Pair.z).Val)))]) (dst:=some 81) (k':=(K67 111110100100 9)) [6,81] [] hP enters_82 (spliceref05_within.says (IntKind.wrap .i64 (a0.Val - ((a1.Pairs.getD 0 spliceref04_Pair.z).Val)))) (by kernel_rfl) (hands_none _) (.cons (pass_d _) .nil) (st':=⟨116,[(6,.ptr 2 0 0 0),(81,.i (spliceref05_within (IntKind.wrap .i64 (a0.Val - ((a1.Pairs.getD 0 spliceref04_Pair.z).Val)))))],(spliceref05_Cells.q1 a0 a1)⟩) (by kernel_rfl) ?_
      obtain ⟨v2,h15,H⟩:=idC H
      rw [← h15]
      refine goK hT 4 (K67 11111010010 1) ⟨116,[(6,.ptr 2 0 0 0),(7,.b true)],[.box 59 (eC59 a0),.box 57 (eC57 a1),.box 59 [.i v2,.b true]]⟩ ?_
      obtain rfl:=retC H
      exact ak_retM hT hf hX (av:=.tup [.d (.agg [.i v2,.b true]),.b true]) (by kernel_rfl) [] (sel_of_eq (by kernel_rfl)) (by decide) (by rw [h0];rfl) (by kernel_rfl) (fun _ h=>all_nil h) (.tup (.cons (.d (.agg (spliceref05_Cell.nl _))) (.cons (.d (.v _)) .nil)))
     ·replace H:=iF c14 H
      rw [eqF c14]
      refine goK hT 2 (K67 11111010 1) ⟨116,[(3,.ptr 0 0 0 0),(4,.ptr 1 0 0 0),(6,.ptr 2 0 0 0)],(spliceref05_Cells.q1 a0 a1)⟩ ?_
      refine goK hT 1 (K67 111110101 0) ⟨116,[(3,.ptr 0 0 0 0),(4,.ptr 1 0 0 0),(6,.ptr 2 0 0 0)],(spliceref05_Cells.q1 a0 a1)⟩ ?_
      refine drawK (hP▸mixed) 7 [3,4,6] [some (.ptr 0 0 0 0),some (.i a0.Val),some (.ptr 1 0 0 3),some (.d (eL105 true a1.Pairs)),some (.d (eP105 true a1.Pairs 0 0)),some (.d (eP105 true a1.Pairs 0 1)),some (.i ((a1.Pairs.getD 0 spliceref04_Pair.z).Val))] (opG (opG (opS (opG (opG (opG (opG op0 hT) hT) hT) hT) (fun R rest h=>ak_idx0 hT (i:=0) (n:=(a1.Pairs.length:Int)) h13.1 h13.2 (by kernel_rfl) h)) hT) hT) ?_
      refine goK hT 1 (K67 1111101010 8) ⟨116,[(6,.ptr 2 0 0 0),(90,.i (IntKind.wrap .i64 (a0.Val+((a1.Pairs.getD 0 spliceref04_Pair.z).Val))))],(spliceref05_Cells.q1 a0 a1)⟩ ?_
      refine ak_callP (avs:=[.i (IntKind.wrap .i64 (a0.Val+((a1.Pairs.getD 0 spliceref04_Pair.z).Val)))]) (dst:=some 91) (k':=(K67 1111101010 9)) [6,91] [] hP enters_82 (spliceref05_within.says (IntKind.wrap .i64 (a0.Val+((a1.Pairs.getD 0 spliceref04_Pair.z).Val)))) (by kernel_rfl) (hands_none _) (.cons (pass_d _) .nil) (st':=⟨116,[(6,.ptr 2 0 0 0),(91,.i (spliceref05_within (IntKind.wrap .i64 (a0.Val+((a1.Pairs.getD 0 spliceref04_Pair.z).Val)))))],(spliceref05_Cells.q1 a0 a1)⟩) (by kernel_rfl) ?_
      obtain ⟨v3,h16,H⟩:=idC H
      rw [← h16]
      refine goK hT 4 (K67 111110101 1) ⟨116,[(6,.ptr 2 0 0 0),(7,.b true)],[.box 59 (eC59 a0),.box 57 (eC57 a1),.box 59 [.i v3,.b true]]⟩ ?_
      obtain rfl:=retC H
      exact ak_retM hT hf hX (av:=.tup [.d (.agg [.i v3,.b true]),.b true]) (by kernel_rfl) [] (sel_of_eq (by kernel_rfl)) (by decide) (by rw [h0];rfl) (by kernel_rfl) (fun _ h=>all_nil h) (.tup (.cons (.d (.agg (spliceref05_Cell.nl _))) (.cons (.d (.v _)) .nil)))
    ·replace H:=iF c12 H
     rw [eqF c12]
     refine goK hT 2 (K67 11111 1) (spliceref05_Cells.s1 a2 a0 a1) ?_
     refine goK hT 7 (K67 111111010 0) ⟨116,[(2,.i a2),(3,.ptr 0 0 0 0),(4,.ptr 1 0 0 0),(6,.ptr 2 0 0 0),(9,.i 0)],(spliceref05_Cells.q1 a0 a1)⟩ ?_
     have L:∀ n,(∀ (x1_9:Int),iter (spliceref05_Cells.step a0 a1 a2) n (.l1 x1_9)=some r→AK X 67 ((K67 111111010 0)) (Back X [] (.tup [.d (eG59 r.1),.b r.2])) ⟨116,[(2,.i a2),(3,.ptr 0 0 0 0),(4,.ptr 1 0 0 0),(6,.ptr 2 0 0 0),(9,.i x1_9)],(spliceref05_Cells.q1 a0 a1)⟩):=by
      intro n
      induction n with
      | zero=>exact fun _ H=>iter0 H
      | succ n ih=>
       ·intro x1_9 H
        refine goK hT 9 (K67 11111101000 1) ⟨116,[(2,.i a2),(3,.ptr 0 0 0 0),(4,.ptr 1 0 0 0),(6,.ptr 2 0 0 0),(9,.i x1_9),(97,.b (decide (x1_9 < (a1.Pairs.length:Int))))],(spliceref05_Cells.q1 a0 a1)⟩ ?_
        by_cases c17:x1_9 < (a1.Pairs.length:Int)
        ·replace H:=sT c17 H
         rw [decide_eq_true c17]
         refine goK hT 2 (K67 1111110100 1) ⟨116,[(2,.i a2),(3,.ptr 0 0 0 0),(4,.ptr 1 0 0 0),(6,.ptr 2 0 0 0),(9,.i x1_9)],(spliceref05_Cells.q1 a0 a1)⟩ ?_
         refine goK hT 7 (K67 11111101001000 3) ⟨116,[(2,.i a2),(3,.ptr 0 0 0 0),(4,.ptr 1 0 0 0),(6,.ptr 2 0 0 0),(9,.i x1_9),(101,.d (eL105 true a1.Pairs)),(102,.i x1_9)],(spliceref05_Cells.q1 a0 a1)⟩ ?_
         obtain ⟨h18,H⟩:=sC H
         refine ak_idx hT [2,3,4,6,9,103] (i:=x1_9) (n:=(a1.Pairs.length:Int)) h18.1 h18.2 (k':=(K67 11111101001000 4)) (st':=⟨116,[(2,.i a2),(3,.ptr 0 0 0 0),(4,.ptr 1 0 0 0),(6,.ptr 2 0 0 0),(9,.i x1_9),(103,.d (eP105 true a1.Pairs x1_9.toNat 0))],(spliceref05_Cells.q1 a0 a1)⟩) (by kernel_rfl) ?_
         refine goK hT 5 (K67 1111110100100 1) ⟨116,[(2,.i a2),(3,.ptr 0 0 0 0),(4,.ptr 1 0 0 0),(6,.ptr 2 0 0 0),(9,.i x1_9),(107,.b (((a1.Pairs.getD x1_9.toNat spliceref04_Pair.z).Key) == a2))],(spliceref05_Cells.q1 a0 a1)⟩ ?_
         by_cases c19:((a1.Pairs.getD x1_9.toNat spliceref04_Pair.z).Key)=a2
         ·replace H:=sT c19 H
          rw [eqT c19]
          refine goK hT 6 (K67 1111110100100100 3) ⟨116,[(6,.ptr 2 0 0 0),(109,.d (eL105 true a1.Pairs)),(110,.i x1_9)],(spliceref05_Cells.q1 a0 a1)⟩ ?_
          refine ak_idx hT [6,111] (i:=x1_9) (n:=(a1.Pairs.length:Int)) h18.1 h18.2 (k':=(K67 1111110100100100 4)) (st':=⟨116,[(6,.ptr 2 0 0 0),(111,.d (eP105 true a1.Pairs x1_9.toNat 0))],(spliceref05_Cells.q1 a0 a1)⟩) (by kernel_rfl) ?_
          refine goK hT 6 (K67 111111010010010 1) ⟨116,[(6,.ptr 2 0 0 0),(7,.b true)],[.box 59 (eC59 a0),.box 57 (eC57 a1),.box 59 [.i ((a1.Pairs.getD x1_9.toNat spliceref04_Pair.z).Val),.b true]]⟩ ?_
          obtain rfl:=retC H
          exact ak_retM hT hf hX (av:=.tup [.d (.agg [.i ((a1.Pairs.getD x1_9.toNat spliceref04_Pair.z).Val),.b true]),.b true]) (by kernel_rfl) [] (sel_of_eq (by kernel_rfl)) (by decide) (by rw [h0];rfl) (by kernel_rfl) (fun _ h=>all_nil h) (.tup (.cons (.d (.agg (spliceref05_Cell.nl _))) (.cons (.d (.v _)) .nil)))
         ·replace H:=sF c19 H
          rw [eqF c19]
          refine goK hT 3 (K67 11111101001 1) ⟨116,[(2,.i a2),(3,.ptr 0 0 0 0),(4,.ptr 1 0 0 0),(6,.ptr 2 0 0 0),(9,.i x1_9)],(spliceref05_Cells.q1 a0 a1)⟩ ?_
          refine goK hT 6 (K67 111111010 0) ⟨116,[(2,.i a2),(3,.ptr 0 0 0 0),(4,.ptr 1 0 0 0),(6,.ptr 2 0 0 0),(9,.i (IntKind.wrap .i64 (x1_9+1)))],(spliceref05_Cells.q1 a0 a1)⟩ ?_
          exact ih (IntKind.wrap .i64 (x1_9+1)) H
        ·replace H:=sF c17 H
         rw [decide_eq_false c17]
         refine goK hT 8 (K67 1111111 1) ⟨116,[(6,.ptr 2 0 0 0),(7,.b true)],[.box 59 (eC59 a0),.box 57 (eC57 a1),.box 59 (eC59 a0)]⟩ ?_
         obtain rfl:=retC H
         exact ak_retM hT hf hX (av:=.tup [.d (eG59 a0),.b true]) (by kernel_rfl) [] (sel_of_eq (by kernel_rfl)) (by decide) (by rw [h0];rfl) (by kernel_rfl) (fun _ h=>all_nil h) (.tup (.cons (.d (.agg (spliceref05_Cell.nl _))) (.cons (.d (.v _)) .nil)))
     obtain ⟨n,H⟩:=loopC H
     exact (L n) 0 H


theorem spliceref05_Apply.says {t2:Bool} (a0:List spliceref04_Pair) (a1:spliceref04_Mut) (a2:List spliceref03_Span) {r:(List spliceref04_Pair) × Bool} (H:spliceref05_Apply a0 a1 a2=some r):Says Try.prog 51 [] [.d (eL105 true a0),.d (eG57 a1),.d (eL55 t2 a2)] [] (.tup [.d (eL105 true r.1),.b r.2]):=by
 refine says_of Try.func51 rfl (nt:=83) rfl (Nat.le_of_ble_eq_true rfl) fun X hP h0 hX=>?_
 have hT:TabOk X.P T:=hP▸tok
 have hf:X.P.funcs[51]? = some Try.f51:=hP▸Try.func51
 refine goK hT 10 (K51 1100 1) ⟨83,[(0,.d (eL105 true a0)),(2,.d (eL55 t2 a2)),(4,.ptr 0 0 0 0),(14,.d (eL105 true a0))],[.box 57 (eC57 a1)]⟩ ?_
 obtain ⟨v1,h1,H⟩:=ibC H
 have Jj1:∀ (y1_26:Bool),(spliceref05_Apply.j1 a0 a1 a2 y1_26)=some r→AK X 51 ((K51 110 1)) (Back X [] (.tup [.d (eL105 true r.1),.b r.2])) ⟨83,[(0,.d (eL105 true a0)),(2,.d (eL55 t2 a2)),(4,.ptr 0 0 0 0),(26,.b y1_26)],[.box 57 (eC57 a1)]⟩:=by
  intro y1_26 H
  by_cases c6:y1_26=true
  ·replace H:=iT c6 H
   rw [c6]
   refine goK hT 6 (K51 11010 1) ⟨83,[(6,.ns),(7,.b false)],[.box 57 (eC57 a1)]⟩ ?_
   refine ak_sealS (av:=.d (.v (.slice none 0 0))) (y:=eL105 true ([]:List spliceref04_Pair)) [6,7] 6 (st':=⟨83,[(6,.d (eL105 true ([]:List spliceref04_Pair))),(7,.b false)],[.box 57 (eC57 a1)]⟩) (by kernel_rfl) (.nil _) (by kernel_rfl) ?_
   obtain rfl:=retC H
   exact retK hf hX h0 (.tup [.d (eL105 true ([]:List spliceref04_Pair)),.b false]) [] (fun _ h=>all_nil h) (.tup (.cons (.d (.sl fun _ _=>spliceref04_Pair.nl _)) (.cons (.d (.v _)) .nil)))
  ·replace H:=iF c6 H
   rw [boF c6]
   refine goK hT 2 (K51 11 1) ⟨83,[(0,.d (eL105 true a0)),(2,.d (eL55 t2 a2)),(4,.ptr 0 0 0 0)],[.box 57 (eC57 a1)]⟩ ?_
   refine goK hT 4 (K51 1110 2) ⟨83,[(0,.d (eL105 true a0)),(2,.d (eL55 t2 a2)),(4,.ptr 0 0 0 0),(27,.d (eL105 true a0)),(28,.d (eG57 a1))],[.box 57 (eC57 a1)]⟩ ?_
   obtain ⟨v4,h7,H⟩:=ibC H
   refine ak_callP (avs:=[.d (eL105 true a0),.d (eG57 a1)]) (dst:=some 29) (k':=(K51 1110 3)) [0,2,4,29] [] hP enters_64 (spliceref05_keys.says (t0:=true) a0 a1 h7) (by kernel_rfl) (hands_none _) (.cons (pass_d _) (.cons (pass_d _) .nil)) (st':=⟨83,[(0,.d (eL105 true a0)),(2,.d (eL55 t2 a2)),(4,.ptr 0 0 0 0),(29,.own 1 1 0 v4.length)],[.box 57 (eC57 a1),eR3 v4]⟩) (by kernel_rfl) ?_
   refine goK hT 13 (K51 11111010 0) ⟨83,[(0,.d (eL105 true a0)),(2,.d (eL55 t2 a2)),(4,.ptr 0 0 0 0),(8,.own 1 1 0 v4.length),(9,.ns),(10,.i 0)],[.box 57 (eC57 a1),eR3 v4]⟩ ?_
   refine ak_nilS [0,2,4,8,9,10] 9 2 105 (vec spliceref04_Pair.e spliceref04_Pair.z []) (st':=⟨83,[(0,.d (eL105 true a0)),(2,.d (eL55 t2 a2)),(4,.ptr 0 0 0 0),(8,.own 1 1 0 v4.length),(9,.own 2 2 0 0),(10,.i 0)],[.box 57 (eC57 a1),eR3 v4,eR105 ([]:List spliceref04_Pair)]⟩) (by kernel_rfl) (by kernel_rfl) ?_
   have L:∀ n,(∀ (x1_10:Int) (x1_r2:List spliceref04_Pair),iter (spliceref05_Apply.step a0 a1 a2 v4) n (.l1 x1_10 x1_r2)=some r→AK X 51 ((K51 11111010 0)) (Back X [] (.tup [.d (eL105 true r.1),.b r.2])) ⟨83,[(0,.d (eL105 true a0)),(2,.d (eL55 t2 a2)),(4,.ptr 0 0 0 0),(8,.own 1 1 0 v4.length),(9,.own 2 2 0 x1_r2.length),(10,.i x1_10)],[.box 57 (eC57 a1),eR3 v4,eR105 x1_r2]⟩):=by
    intro n
    induction n with
    | zero=>exact fun _ _ H=>iter0 H
    | succ n ih=>
     ·intro x1_10 x1_r2 H
      refine goK hT 8 (K51 1111101000 1) ⟨83,[(0,.d (eL105 true a0)),(2,.d (eL55 t2 a2)),(4,.ptr 0 0 0 0),(8,.own 1 1 0 v4.length),(9,.own 2 2 0 x1_r2.length),(10,.i x1_10),(33,.b (decide (x1_10 < (v4.length:Int))))],[.box 57 (eC57 a1),eR3 v4,eR105 x1_r2]⟩ ?_
      by_cases c8:x1_10 < (v4.length:Int)
      ·replace H:=sT c8 H
       rw [decide_eq_true c8]
       refine goK hT 2 (K51 111110100 1) ⟨83,[(0,.d (eL105 true a0)),(2,.d (eL55 t2 a2)),(4,.ptr 0 0 0 0),(8,.own 1 1 0 v4.length),(9,.own 2 2 0 x1_r2.length),(10,.i x1_10)],[.box 57 (eC57 a1),eR3 v4,eR105 x1_r2]⟩ ?_
       refine goK hT 7 (K51 1111101001000 3) ⟨83,[(0,.d (eL105 true a0)),(2,.d (eL55 t2 a2)),(4,.ptr 0 0 0 0),(8,.own 1 1 0 v4.length),(9,.own 2 2 0 x1_r2.length),(10,.i x1_10),(36,.d (eL105 true a0)),(37,.own 1 1 0 v4.length),(38,.i x1_10)],[.box 57 (eC57 a1),eR3 v4,eR105 x1_r2]⟩ ?_
       obtain ⟨h9,H⟩:=sC H
       refine ak_idx hT [0,2,4,8,9,10,36,39] (i:=x1_10) (n:=(v4.length:Int)) h9.1 h9.2 (k':=(K51 1111101001000 4)) (st':=⟨83,[(0,.d (eL105 true a0)),(2,.d (eL55 t2 a2)),(4,.ptr 0 0 0 0),(8,.own 1 1 0 v4.length),(9,.own 2 2 0 x1_r2.length),(10,.i x1_10),(36,.d (eL105 true a0)),(39,.ptr 1 1 x1_10.toNat 0)],[.box 57 (eC57 a1),eR3 v4,eR105 x1_r2]⟩) (by kernel_rfl) ?_
       refine ak_ld hT [0,2,4,8,9,10,36,40] (i:=x1_10.toNat) (n:=v4.length) (ltN h9.1 h9.2) (k':=(K51 1111101001000 5)) (st':=⟨83,[(0,.d (eL105 true a0)),(2,.d (eL55 t2 a2)),(4,.ptr 0 0 0 0),(8,.own 1 1 0 v4.length),(9,.own 2 2 0 x1_r2.length),(10,.i x1_10),(36,.d (eL105 true a0)),(40,.i (v4.getD x1_10.toNat 0))],[.box 57 (eC57 a1),eR3 v4,eR105 x1_r2]⟩) (by kernel_rfl) ?_
       obtain ⟨v5,h10,H⟩:=sbC H
       refine ak_callP (avs:=[.d (eL105 true a0),.i (v4.getD x1_10.toNat 0)]) (dst:=some 41) (k':=(K51 1111101001000 6)) [0,2,4,8,9,10,41] [] hP enters_36 (spliceref05_Get.says (t0:=true) a0 (v4.getD x1_10.toNat 0) h10) (by kernel_rfl) (hands_none _) (.cons (pass_d _) (.cons (pass_d _) .nil)) (st':=⟨83,[(0,.d (eL105 true a0)),(2,.d (eL55 t2 a2)),(4,.ptr 0 0 0 0),(8,.own 1 1 0 v4.length),(9,.own 2 2 0 x1_r2.length),(10,.i x1_10),(41,.d (eG59 v5))],[.box 57 (eC57 a1),eR3 v4,eR105 x1_r2]⟩) (by kernel_rfl) ?_
       refine goK hT 5 (K51 11111010010010 0) ⟨83,[(0,.d (eL105 true a0)),(2,.d (eL55 t2 a2)),(4,.ptr 0 0 0 0),(8,.own 1 1 0 v4.length),(9,.own 2 2 0 x1_r2.length),(10,.i x1_10),(11,.ptr 3 0 0 0)],[.box 57 (eC57 a1),eR3 v4,eR105 x1_r2,.box 59 (eC59 v5)]⟩ ?_
       obtain ⟨v6,h11,H⟩:=sbC H
       have Jj2:∀ (y2_55:Bool),stk (spliceref05_Apply.j2 a0 a1 v4 x1_10 x1_r2 v5 y2_55) (iter (spliceref05_Apply.step a0 a1 a2 v4) n)=some r→AK X 51 ((K51 11111010010010 1)) (Back X [] (.tup [.d (eL105 true r.1),.b r.2])) ⟨83,[(0,.d (eL105 true a0)),(2,.d (eL55 t2 a2)),(4,.ptr 0 0 0 0),(8,.own 1 1 0 v4.length),(9,.own 2 2 0 x1_r2.length),(10,.i x1_10),(11,.ptr 3 0 0 0),(55,.b y2_55)],[.box 57 (eC57 a1),eR3 v4,eR105 x1_r2,.box 59 (eC59 v5)]⟩:=by
        intro y2_55 H
        have Jj3:∀ (y3_b3_0:Int) (y3_b3_1:Bool),stk (spliceref05_Apply.j3 v4 x1_10 x1_r2 y3_b3_0 y3_b3_1) (iter (spliceref05_Apply.step a0 a1 a2 v4) n)=some r→AK X 51 ((K51 1111101001001 1)) (Back X [] (.tup [.d (eL105 true r.1),.b r.2])) ⟨83,[(0,.d (eL105 true a0)),(2,.d (eL55 t2 a2)),(4,.ptr 0 0 0 0),(8,.own 1 1 0 v4.length),(9,.own 2 2 0 x1_r2.length),(10,.i x1_10),(11,.ptr 3 0 0 0)],[.box 57 (eC57 a1),eR3 v4,eR105 x1_r2,.box 59 [.i y3_b3_0,.b y3_b3_1]]⟩:=by
         intro y3_b3_0 y3_b3_1 H
         have Jj4:∀ (y4_r2:List spliceref04_Pair),stk (spliceref05_Apply.j4 x1_10 y4_r2) (iter (spliceref05_Apply.step a0 a1 a2 v4) n)=some r→AK X 51 ((K51 1111101001 1)) (Back X [] (.tup [.d (eL105 true r.1),.b r.2])) ⟨83,[(0,.d (eL105 true a0)),(2,.d (eL55 t2 a2)),(4,.ptr 0 0 0 0),(8,.own 1 1 0 v4.length),(9,.own 2 2 0 y4_r2.length),(10,.i x1_10)],[.box 57 (eC57 a1),eR3 v4,eR105 y4_r2]⟩:=by
          intro y4_r2 H
          refine goK hT 6 (K51 11111010 0) ⟨83,[(0,.d (eL105 true a0)),(2,.d (eL55 t2 a2)),(4,.ptr 0 0 0 0),(8,.own 1 1 0 v4.length),(9,.own 2 2 0 y4_r2.length),(10,.i (IntKind.wrap .i64 (x1_10+1)))],[.box 57 (eC57 a1),eR3 v4,eR105 y4_r2]⟩ ?_
          exact ih (IntKind.wrap .i64 (x1_10+1)) y4_r2 H
         refine goK hT 5 (K51 11111010010011 1) ⟨83,[(0,.d (eL105 true a0)),(2,.d (eL55 t2 a2)),(4,.ptr 0 0 0 0),(8,.own 1 1 0 v4.length),(9,.own 2 2 0 x1_r2.length),(10,.i x1_10),(11,.ptr 3 0 0 0),(71,.b y3_b3_1)],[.box 57 (eC57 a1),eR3 v4,eR105 x1_r2,.box 59 [.i y3_b3_0,.b y3_b3_1]]⟩ ?_
         by_cases c17:y3_b3_1=true
         ·replace H:=sT c17 H
          rw [c17]
          refine goK hT 1 (K51 111110100100111 0) ⟨83,[(0,.d (eL105 true a0)),(2,.d (eL55 t2 a2)),(4,.ptr 0 0 0 0),(8,.own 1 1 0 v4.length),(9,.own 2 2 0 x1_r2.length),(10,.i x1_10),(11,.ptr 3 0 0 0)],[.box 57 (eC57 a1),eR3 v4,eR105 x1_r2,.box 59 [.i y3_b3_0,.b true]]⟩ ?_
          refine ak_drawAtE (nt:=83) (hP▸mixed) 9 [8] [0,2,4,8,9,10,11] [(0,.d (eL105 true a0)),(2,.d (eL55 t2 a2)),(4,.ptr 0 0 0 0),(8,.own 1 1 0 v4.length),(9,.own 2 2 0 x1_r2.length),(10,.i x1_10),(11,.ptr 3 0 0 0)] [some (.own 2 2 0 x1_r2.length),some (.own 1 1 0 v4.length),some (.i x1_10),some (.ptr 1 1 x1_10.toNat 0),some (.i (v4.getD x1_10.toNat 0)),some (.ptr 3 0 0 0),some (.i y3_b3_0),some (.d (.agg [.i (v4.getD x1_10.toNat 0),.i y3_b3_0])),some (.own 4 2 0 1)] [[.box 57 (eC57 a1),eR3 v4,eR105 x1_r2,.box 59 [.i y3_b3_0,.b true]],[.box 57 (eC57 a1),eR3 v4,eR105 x1_r2,.box 59 [.i y3_b3_0,.b true],.flat false 2 105 1 (fun j=>[[.i (v4.getD x1_10.toNat 0),.i y3_b3_0]].getD j [])]] (by kernel_rfl) (by kernel_rfl) (by kernel_rfl) (by kernel_rfl) ⟨(opXE (opGE (opGE (opGE (opES (opES (opGE (opGE (opGE opE0 hT) hT) hT) (fun R rest h=>ak_idx0 hT (i:=x1_10) (n:=(v4.length:Int)) h9.1 h9.2 (by kernel_rfl) h)) (fun R rest h=>ak_ld0 hT (i:=x1_10.toNat) (n:=v4.length) (ltN h9.1 h9.2) (by kernel_rfl) h)) hT) hT) hT)),(op_goFK hT),(opXE (opGE (opGE (opGE (opES (opES (opGE (opGE (opGE opE0 hT) hT) hT) (fun R rest h=>ak_idx0 hT (i:=x1_10) (n:=(v4.length:Int)) h9.1 h9.2 (by kernel_rfl) h)) (fun R rest h=>ak_ld0 hT (i:=x1_10.toNat) (n:=v4.length) (ltN h9.1 h9.2) (by kernel_rfl) h)) hT) hT) hT))⟩ ?_
          refine goK hT 0 (K51 1111101001001110 9) ⟨83,[(0,.d (eL105 true a0)),(2,.d (eL55 t2 a2)),(4,.ptr 0 0 0 0),(8,.own 1 1 0 v4.length),(10,.i x1_10),(72,.own 2 2 0 x1_r2.length),(80,.own 4 2 0 1)],[.box 57 (eC57 a1),eR3 v4,eR105 x1_r2,.box 59 [.i y3_b3_0,.b true],.flat false 2 105 1 (fun j=>[[.i (v4.getD x1_10.toNat 0),.i y3_b3_0]].getD j [])]⟩ ?_
          obtain ⟨h18,H⟩:=sC H
          refine ak_append1 (id:=2) (kk:=2) (by':=16) (t:=54) (e:=105) (z:=[.int .i64 0,.int .i64 0]) (dst:=some 81) (id2:=4) (e2:=105) (fz:=false) (k':=(K51 1111101001001110 10)) hT spliceref04_Pair.e spliceref04_Pair.z x1_r2 (⟨v4.getD x1_10.toNat 0,y3_b3_0⟩:spliceref04_Pair) [0,2,4,8,10,81] (by kernel_rfl) (by kernel_rfl) (by kernel_rfl) (by kernel_rfl) (by kernel_rfl) (by kernel_rfl) (by kernel_rfl) h18 (by omega) (st':=⟨83,[(0,.d (eL105 true a0)),(2,.d (eL55 t2 a2)),(4,.ptr 0 0 0 0),(8,.own 1 1 0 v4.length),(10,.i x1_10),(81,.own 5 2 0 ((x1_r2 ++ [(⟨v4.getD x1_10.toNat 0,y3_b3_0⟩:spliceref04_Pair)]).length))],[.box 57 (eC57 a1),eR3 v4,.gone,.box 59 [.i y3_b3_0,.b true],.flat false 2 105 1 (fun j=>[[.i (v4.getD x1_10.toNat 0),.i y3_b3_0]].getD j []),eR105 (x1_r2 ++ [(⟨v4.getD x1_10.toNat 0,y3_b3_0⟩:spliceref04_Pair)])]⟩) (by kernel_rfl) ?_
          refine goCut hT 3 (K51 1111101001 1) [0,1,5] ⟨83,[(0,.d (eL105 true a0)),(2,.d (eL55 t2 a2)),(4,.ptr 0 0 0 0),(8,.own 1 1 0 v4.length),(9,.own 2 2 0 (x1_r2 ++ [(⟨v4.getD x1_10.toNat 0,y3_b3_0⟩:spliceref04_Pair)]).length),(10,.i x1_10)],[.box 57 (eC57 a1),eR3 v4,eR105 (x1_r2 ++ [(⟨v4.getD x1_10.toNat 0,y3_b3_0⟩:spliceref04_Pair)])]⟩ h0 ?_
          exact Jj4 (x1_r2 ++ [(⟨v4.getD x1_10.toNat 0,y3_b3_0⟩:spliceref04_Pair)]) H
         ·replace H:=sF c17 H
          rw [boF c17]
          refine goCut hT 3 (K51 1111101001 1) [0,1,2] ⟨83,[(0,.d (eL105 true a0)),(2,.d (eL55 t2 a2)),(4,.ptr 0 0 0 0),(8,.own 1 1 0 v4.length),(9,.own 2 2 0 x1_r2.length),(10,.i x1_10)],[.box 57 (eC57 a1),eR3 v4,eR105 x1_r2]⟩ h0 ?_
          exact Jj4 x1_r2 H
        by_cases c14:y2_55=true
        ·replace H:=sT c14 H
         rw [c14]
         refine goK hT 2 (K51 1111101001001010 0) ⟨83,[(0,.d (eL105 true a0)),(2,.d (eL55 t2 a2)),(4,.ptr 0 0 0 0),(8,.own 1 1 0 v4.length),(9,.own 2 2 0 x1_r2.length),(10,.i x1_10),(11,.ptr 3 0 0 0)],[.box 57 (eC57 a1),eR3 v4,eR105 x1_r2,.box 59 (eC59 v5)]⟩ ?_
         obtain ⟨v8,h15,H⟩:=sbC H
         refine ak_drawAtE (nt:=83) (hP▸mixed) 12 [10,11] [0,2,4,8,9,10,11] [(0,.d (eL105 true a0)),(2,.d (eL55 t2 a2)),(4,.ptr 0 0 0 0),(8,.own 1 1 0 v4.length),(9,.own 2 2 0 x1_r2.length),(10,.i x1_10),(11,.ptr 3 0 0 0)] [some (.d (eG59 v5)),some (.d (eG57 a1)),some (.own 1 1 0 v4.length),some (.i x1_10),some (.ptr 1 1 x1_10.toNat 0),some (.i (v4.getD x1_10.toNat 0)),some (.tup [.d (eG59 v8.1),.b v8.2]),some (.tup [.d (eG59 v8.1),.b v8.2]),some (.d (eG59 v8.1)),some (.b v8.2),some (.ptr 4 0 0 0),none] [[.box 57 (eC57 a1),eR3 v4,eR105 x1_r2,.box 59 (eC59 v5)],[.box 57 (eC57 a1),eR3 v4,eR105 x1_r2,.box 59 (eC59 v5),.box 59 [.i 0,.b false]],[.box 57 (eC57 a1),eR3 v4,eR105 x1_r2,.box 59 (eC59 v5),.box 59 (eC59 v8.1)]] (by kernel_rfl) (by kernel_rfl) (by kernel_rfl) (by kernel_rfl) ⟨(opXE (opXE (opGE (opGE (opGE (opES (opES (opES (opGE (opGE (opGE (opGE opE0 hT) hT) hT) hT) (fun R rest h=>ak_idx0 hT (i:=x1_10) (n:=(v4.length:Int)) h9.1 h9.2 (by kernel_rfl) h)) (fun R rest h=>ak_ld0 hT (i:=x1_10.toNat) (n:=v4.length) (ltN h9.1 h9.2) (by kernel_rfl) h)) (fun R rest h=>ak_callD (avs:=[.d (eG59 v5),.d (eG57 a1),.i (v4.getD x1_10.toNat 0)]) (dst:=some 63) hP enters_67 (spliceref05_Cells.says v5 a1 (v4.getD x1_10.toNat 0) h15) (by kernel_rfl) (.cons (pass_d _) (.cons (pass_d _) (.cons (pass_d _) .nil))) (by kernel_rfl) h)) hT) hT) hT))),(op_goFK hT),⟨(opXE (opXE (opGE (opGE (opGE (opES (opES (opES (opGE (opGE (opGE (opGE opE0 hT) hT) hT) hT) (fun R rest h=>ak_idx0 hT (i:=x1_10) (n:=(v4.length:Int)) h9.1 h9.2 (by kernel_rfl) h)) (fun R rest h=>ak_ld0 hT (i:=x1_10.toNat) (n:=v4.length) (ltN h9.1 h9.2) (by kernel_rfl) h)) (fun R rest h=>ak_callD (avs:=[.d (eG59 v5),.d (eG57 a1),.i (v4.getD x1_10.toNat 0)]) (dst:=some 63) hP enters_67 (spliceref05_Cells.says v5 a1 (v4.getD x1_10.toNat 0) h15) (by kernel_rfl) (.cons (pass_d _) (.cons (pass_d _) (.cons (pass_d _) .nil))) (by kernel_rfl) h)) hT) hT) hT))),(op_goFK hT),(opXE (opXE (opGE (opGE (opGE (opES (opES (opES (opGE (opGE (opGE (opGE opE0 hT) hT) hT) hT) (fun R rest h=>ak_idx0 hT (i:=x1_10) (n:=(v4.length:Int)) h9.1 h9.2 (by kernel_rfl) h)) (fun R rest h=>ak_ld0 hT (i:=x1_10.toNat) (n:=v4.length) (ltN h9.1 h9.2) (by kernel_rfl) h)) (fun R rest h=>ak_callD (avs:=[.d (eG59 v5),.d (eG57 a1),.i (v4.getD x1_10.toNat 0)]) (dst:=some 63) hP enters_67 (spliceref05_Cells.says v5 a1 (v4.getD x1_10.toNat 0) h15) (by kernel_rfl) (.cons (pass_d _) (.cons (pass_d _) (.cons (pass_d _) .nil))) (by kernel_rfl) h)) hT) hT) hT)))⟩⟩ ?_
         refine goK hT 8 (K51 111110100100101010 1) ⟨83,[(0,.d (eL105 true a0)),(2,.d (eL55 t2 a2)),(4,.ptr 0 0 0 0),(8,.own 1 1 0 v4.length),(9,.own 2 2 0 x1_r2.length),(10,.i x1_10),(11,.ptr 3 0 0 0),(12,.ptr 4 0 0 0),(67,.b (!v8.2))],[.box 57 (eC57 a1),eR3 v4,eR105 x1_r2,.box 59 (eC59 v5),.box 59 (eC59 v8.1)]⟩ ?_
         by_cases c16:v8.2=true
         ·replace H:=sT c16 H
          rw [c16]
          refine goK hT 2 (K51 11111010010010101 1) ⟨83,[(0,.d (eL105 true a0)),(2,.d (eL55 t2 a2)),(4,.ptr 0 0 0 0),(8,.own 1 1 0 v4.length),(9,.own 2 2 0 x1_r2.length),(10,.i x1_10),(11,.ptr 3 0 0 0),(12,.ptr 4 0 0 0)],[.box 57 (eC57 a1),eR3 v4,eR105 x1_r2,.box 59 (eC59 v5),.box 59 (eC59 v8.1)]⟩ ?_
          refine goCut hT 4 (K51 1111101001001 1) [0,1,2,3] ⟨83,[(0,.d (eL105 true a0)),(2,.d (eL55 t2 a2)),(4,.ptr 0 0 0 0),(8,.own 1 1 0 v4.length),(9,.own 2 2 0 x1_r2.length),(10,.i x1_10),(11,.ptr 3 0 0 0)],[.box 57 (eC57 a1),eR3 v4,eR105 x1_r2,.box 59 [.i v8.1.Val,.b v8.1.Some]]⟩ h0 ?_
          exact Jj3 v8.1.Val v8.1.Some H
         ·replace H:=sF c16 H
          rw [boF c16]
          refine goK hT 7 (K51 11111010010010101010 1) ⟨83,[(6,.d (eL105 true a0)),(7,.b false)],[.box 57 (eC57 a1),eR3 v4,eR105 x1_r2,.box 59 (eC59 v5),.box 59 (eC59 v8.1)]⟩ ?_
          obtain rfl:=retC H
          exact retK hf hX h0 (.tup [.d (eL105 true a0),.b false]) [] (fun _ h=>all_nil h) (.tup (.cons (.d (.sl fun _ _=>spliceref04_Pair.nl _)) (.cons (.d (.v _)) .nil)))
        ·replace H:=sF c14 H
         rw [boF c14]
         refine goCut hT 2 (K51 1111101001001 1) [0,1,2,3] ⟨83,[(0,.d (eL105 true a0)),(2,.d (eL55 t2 a2)),(4,.ptr 0 0 0 0),(8,.own 1 1 0 v4.length),(9,.own 2 2 0 x1_r2.length),(10,.i x1_10),(11,.ptr 3 0 0 0)],[.box 57 (eC57 a1),eR3 v4,eR105 x1_r2,.box 59 [.i v5.Val,.b v5.Some]]⟩ h0 ?_
         exact Jj3 v5.Val v5.Some H
       by_cases c12:v6=true
       ·replace H:=sT c12 H
        obtain ⟨v7,h13,H⟩:=sbC H
        refine drawK (hP▸mixed) 14 [0,2,4,8,9,10,11] [some (.d (eG57 a1)),some (.own 1 1 0 v4.length),some (.i x1_10),some (.ptr 1 1 x1_10.toNat 0),some (.i (v4.getD x1_10.toNat 0)),some (.b true),some (.b true),some (.d (eL55 t2 a2)),some (.own 1 1 0 v4.length),some (.i x1_10),some (.ptr 1 1 x1_10.toNat 0),some (.i (v4.getD x1_10.toNat 0)),some (.b v7),some (.b v7)] (opG (opS (opS (opS (opG (opG (opG (opG (opS (opS (opS (opG (opG (opG op0 hT) hT) hT) (fun R rest h=>ak_idx0 hT (i:=x1_10) (n:=(v4.length:Int)) h9.1 h9.2 (by kernel_rfl) h)) (fun R rest h=>ak_ld0 hT (i:=x1_10.toNat) (n:=v4.length) (ltN h9.1 h9.2) (by kernel_rfl) h)) (fun R rest h=>ak_callD (avs:=[.d (eG57 a1),.i (v4.getD x1_10.toNat 0)]) (dst:=some 47) hP enters_65 (by have q:=spliceref04_Touches.says a1 (v4.getD x1_10.toNat 0) h11;rw [c12] at q;exact q) (by kernel_rfl) (.cons (pass_d _) (.cons (pass_d _) .nil)) (by kernel_rfl) h)) hT) hT) hT) hT) (fun R rest h=>ak_idx0 hT (i:=x1_10) (n:=(v4.length:Int)) h9.1 h9.2 (by kernel_rfl) h)) (fun R rest h=>ak_ld0 hT (i:=x1_10.toNat) (n:=v4.length) (ltN h9.1 h9.2) (by kernel_rfl) h)) (fun R rest h=>ak_callD (avs:=[.d (eL55 t2 a2),.i (v4.getD x1_10.toNat 0)]) (dst:=some 54) hP enters_66 (spliceref03_Has.says (t0:=t2) a2 (v4.getD x1_10.toNat 0) h13) (by kernel_rfl) (.cons (pass_d _) (.cons (pass_d _) .nil)) (by kernel_rfl) h)) hT) ?_
        refine goK hT 1 (K51 11111010010010 1) ⟨83,[(0,.d (eL105 true a0)),(2,.d (eL55 t2 a2)),(4,.ptr 0 0 0 0),(8,.own 1 1 0 v4.length),(9,.own 2 2 0 x1_r2.length),(10,.i x1_10),(11,.ptr 3 0 0 0),(55,.b v7)],[.box 57 (eC57 a1),eR3 v4,eR105 x1_r2,.box 59 (eC59 v5)]⟩ ?_
        exact Jj2 v7 H
       ·replace H:=sF c12 H
        refine drawK (hP▸mixed) 14 [0,2,4,8,9,10,11] [some (.d (eG57 a1)),some (.own 1 1 0 v4.length),some (.i x1_10),some (.ptr 1 1 x1_10.toNat 0),some (.i (v4.getD x1_10.toNat 0)),some (.b false),some (.b false),some (.tup []),some (.tup []),some (.tup []),some (.tup []),some (.tup []),some (.tup []),some (.b false)] (opG (opG (opG (opG (opG (opG (opG (opG (opS (opS (opS (opG (opG (opG op0 hT) hT) hT) (fun R rest h=>ak_idx0 hT (i:=x1_10) (n:=(v4.length:Int)) h9.1 h9.2 (by kernel_rfl) h)) (fun R rest h=>ak_ld0 hT (i:=x1_10.toNat) (n:=v4.length) (ltN h9.1 h9.2) (by kernel_rfl) h)) (fun R rest h=>ak_callD (avs:=[.d (eG57 a1),.i (v4.getD x1_10.toNat 0)]) (dst:=some 47) hP enters_65 (by have q:=spliceref04_Touches.says a1 (v4.getD x1_10.toNat 0) h11;rw [boF c12] at q;exact q) (by kernel_rfl) (.cons (pass_d _) (.cons (pass_d _) .nil)) (by kernel_rfl) h)) hT) hT) hT) hT) hT) hT) hT) hT) ?_
        refine goK hT 1 (K51 11111010010010 1) ⟨83,[(0,.d (eL105 true a0)),(2,.d (eL55 t2 a2)),(4,.ptr 0 0 0 0),(8,.own 1 1 0 v4.length),(9,.own 2 2 0 x1_r2.length),(10,.i x1_10),(11,.ptr 3 0 0 0),(55,.b false)],[.box 57 (eC57 a1),eR3 v4,eR105 x1_r2,.box 59 (eC59 v5)]⟩ ?_
        exact Jj2 false H
      ·replace H:=sF c8 H
       rw [decide_eq_false c8]
       refine goK hT 8 (K51 111111 1) ⟨83,[(6,.own 2 2 0 x1_r2.length),(7,.b true)],[.box 57 (eC57 a1),eR3 v4,eR105 x1_r2]⟩ ?_
       refine ak_freeze 2 (kk:=2) (n:=x1_r2.length) (ty:=105) (g:=vec spliceref04_Pair.e spliceref04_Pair.z x1_r2) (by kernel_rfl) (st':=⟨83,[(6,.own 2 2 0 x1_r2.length),(7,.b true)],[.box 57 (eC57 a1),eR3 v4,eF105 x1_r2]⟩) (by kernel_rfl) ?_
       refine ak_sealS (av:=.own 2 2 0 x1_r2.length) (y:=eL105 true x1_r2) [6,7] 6 (st':=⟨83,[(6,.d (eL105 true x1_r2)),(7,.b true)],[.box 57 (eC57 a1),eR3 v4,eF105 x1_r2]⟩) (by kernel_rfl) (.own (ty:=105) (k:=2) (by kernel_rfl)) (by kernel_rfl) ?_
       obtain rfl:=retC H
       exact retK hf hX h0 (.tup [.d (eL105 true x1_r2),.b true]) [] (fun _ h=>all_nil h) (.tup (.cons (.d (.sl fun _ _=>spliceref04_Pair.nl _)) (.cons (.d (.v _)) .nil)))
   refine cutK [0,1,2] ⟨83,[(0,.d (eL105 true a0)),(2,.d (eL55 t2 a2)),(4,.ptr 0 0 0 0),(8,.own 1 1 0 v4.length),(9,.own 2 2 0 ([]:List spliceref04_Pair).length),(10,.i 0)],[.box 57 (eC57 a1),eR3 v4,eR105 ([]:List spliceref04_Pair)]⟩ h0 ?_
   obtain ⟨n,H⟩:=loopC H
   exact (L n) 0 ([]:List spliceref04_Pair) H
 refine ak_callP (avs:=[.d (eL105 true a0)]) (dst:=some 15) (k':=(K51 1100 2)) [0,2,4,15] [] hP enters_49 (spliceref05_Check.says (t0:=true) a0 h1) (by kernel_rfl) (hands_none _) (.cons (pass_d _) .nil) (st':=⟨83,[(0,.d (eL105 true a0)),(2,.d (eL55 t2 a2)),(4,.ptr 0 0 0 0),(15,.b v1)],[.box 57 (eC57 a1)]⟩) (by kernel_rfl) ?_
 refine goK hT 2 (K51 1100 4) ⟨83,[(0,.d (eL105 true a0)),(2,.d (eL55 t2 a2)),(4,.ptr 0 0 0 0),(17,.b (!v1))],[.box 57 (eC57 a1)]⟩ ?_
 by_cases c2:v1=true
 ·replace H:=iT c2 H
  rw [c2]
  refine goK hT 1 (K51 1100 5) ⟨83,[(0,.d (eL105 true a0)),(2,.d (eL55 t2 a2)),(4,.ptr 0 0 0 0),(17,.b false),(18,.d (eG57 a1))],[.box 57 (eC57 a1)]⟩ ?_
  obtain ⟨v2,h3,H⟩:=ibC H
  refine ak_callP (avs:=[.d (eG57 a1)]) (dst:=some 19) (k':=(K51 1100 6)) [0,2,4,17,19] [] hP enters_14 (spliceref04_Check.says a1 h3) (by kernel_rfl) (hands_none _) (.cons (pass_d _) .nil) (st':=⟨83,[(0,.d (eL105 true a0)),(2,.d (eL55 t2 a2)),(4,.ptr 0 0 0 0),(17,.b false),(19,.b v2)],[.box 57 (eC57 a1)]⟩) (by kernel_rfl) ?_
  refine goK hT 3 (K51 1100 9) ⟨83,[(0,.d (eL105 true a0)),(2,.d (eL55 t2 a2)),(4,.ptr 0 0 0 0),(22,.b (!v2))],[.box 57 (eC57 a1)]⟩ ?_
  by_cases c4:v2=true
  ·replace H:=iT c4 H
   rw [c4]
   refine goK hT 1 (K51 1100 10) ⟨83,[(0,.d (eL105 true a0)),(2,.d (eL55 t2 a2)),(4,.ptr 0 0 0 0),(22,.b false),(23,.d (eL55 t2 a2))],[.box 57 (eC57 a1)]⟩ ?_
   obtain ⟨v3,h5,H⟩:=ibC H
   refine ak_callP (avs:=[.d (eL55 t2 a2)]) (dst:=some 24) (k':=(K51 1100 11)) [0,2,4,22,24] [] hP enters_50 (spliceref03_Check.says (t0:=t2) a2 h5) (by kernel_rfl) (hands_none _) (.cons (pass_d _) .nil) (st':=⟨83,[(0,.d (eL105 true a0)),(2,.d (eL55 t2 a2)),(4,.ptr 0 0 0 0),(22,.b false),(24,.b v3)],[.box 57 (eC57 a1)]⟩) (by kernel_rfl) ?_
   refine goK hT 3 (K51 110 1) ⟨83,[(0,.d (eL105 true a0)),(2,.d (eL55 t2 a2)),(4,.ptr 0 0 0 0),(26,.b (!v3))],[.box 57 (eC57 a1)]⟩ ?_
   exact Jj1 (!v3) H
  ·replace H:=iF c4 H
   rw [boF c4]
   refine goK hT 5 (K51 110 1) ⟨83,[(0,.d (eL105 true a0)),(2,.d (eL55 t2 a2)),(4,.ptr 0 0 0 0),(26,.b true)],[.box 57 (eC57 a1)]⟩ ?_
   exact Jj1 true H
 ·replace H:=iF c2 H
  rw [boF c2]
  refine goK hT 10 (K51 110 1) ⟨83,[(0,.d (eL105 true a0)),(2,.d (eL55 t2 a2)),(4,.ptr 0 0 0 0),(26,.b true)],[.box 57 (eC57 a1)]⟩ ?_
  exact Jj1 true H


theorem spliceref15_Fold.says {t0:Bool} {t1:Bool} (a0:List spliceref12_Entry) (a1:List spliceref03_Span) (a2:Int) {r:List spliceref04_Pair} (H:spliceref15_Fold a0 a1 a2=some r):Says Try.prog 34 [] [.d (eL98 t0 a0),.d (eL55 t1 a1),.i a2] [] (.d (eL105 true r)):=by
 refine says_of Try.func34 rfl (nt:=62) rfl (Nat.le_of_ble_eq_true rfl) fun X hP h0 hX=>?_
 have hT:TabOk X.P T:=hP▸tok
 have hf:X.P.funcs[34]? = some Try.f34:=hP▸Try.func34
 refine goK hT 15 (K34 111010 0) ⟨62,[(0,.d (eL98 t0 a0)),(1,.d (eL55 t1 a1)),(2,.i a2),(7,.ns),(8,.i 0)],[]⟩ ?_
 have L:∀ n,(∀ (x1_8:Int),iter (spliceref15_Fold.step a0 a1 a2) n (.l1 x1_8)=some r→AK X 34 ((K34 111010 0)) (Back X [] (.d (eL105 true r))) ⟨62,[(0,.d (eL98 t0 a0)),(1,.d (eL55 t1 a1)),(2,.i a2),(7,.ns),(8,.i x1_8)],[]⟩)∧(∀ (x2_7:List spliceref04_Pair) (x2_9:Int),iter (spliceref15_Fold.step a0 a1 a2) n (.l2 x2_7 x2_9)=some r→AK X 34 ((K34 1111010 0)) (Back X [] (.d (eL105 true r))) ⟨62,[(0,.d (eL98 t0 a0)),(1,.d (eL55 t1 a1)),(2,.i a2),(7,.d (eL105 true x2_7)),(9,.i x2_9)],[]⟩):=by
  intro n
  induction n with
  | zero=>exact ⟨fun _ H=>iter0 H,fun _ _ H=>iter0 H⟩
  | succ n ih=>
   refine ⟨?_, ?_⟩
   ·intro x1_8 H
    refine goK hT 8 (K34 11101000 1) ⟨62,[(0,.d (eL98 t0 a0)),(1,.d (eL55 t1 a1)),(2,.i a2),(7,.ns),(8,.i x1_8),(15,.b (decide (x1_8 < (a0.length:Int))))],[]⟩ ?_
    by_cases c1:x1_8 < (a0.length:Int)
    ·replace H:=sT c1 H
     rw [decide_eq_true c1]
     refine goK hT 2 (K34 1110100 1) ⟨62,[(0,.d (eL98 t0 a0)),(1,.d (eL55 t1 a1)),(2,.i a2),(7,.ns),(8,.i x1_8)],[]⟩ ?_
     refine goK hT 6 (K34 11101001000 2) ⟨62,[(0,.d (eL98 t0 a0)),(1,.d (eL55 t1 a1)),(2,.i a2),(7,.ns),(8,.i x1_8),(18,.d (eL98 t0 a0)),(19,.i x1_8)],[]⟩ ?_
     obtain ⟨h2,H⟩:=sC H
     refine ak_idx hT [0,1,2,7,8,20] (i:=x1_8) (n:=(a0.length:Int)) h2.1 h2.2 (k':=(K34 11101001000 3)) (st':=⟨62,[(0,.d (eL98 t0 a0)),(1,.d (eL55 t1 a1)),(2,.i a2),(7,.ns),(8,.i x1_8),(20,.d (eP98 t0 a0 x1_8.toNat 0))],[]⟩) (by kernel_rfl) ?_
     refine goK hT 2 (K34 11101001000 5) ⟨62,[(0,.d (eL98 t0 a0)),(1,.d (eL55 t1 a1)),(2,.i a2),(7,.ns),(8,.i x1_8),(22,.d (eG57 ((a0.getD x1_8.toNat spliceref12_Entry.z).M)))],[]⟩ ?_
     obtain ⟨v1,h3,H⟩:=sbC H
     refine ak_callP (avs:=[.d (eG57 ((a0.getD x1_8.toNat spliceref12_Entry.z).M))]) (dst:=some 23) (k':=(K34 11101001000 6)) [0,1,2,7,8,23] [] hP enters_14 (spliceref04_Check.says ((a0.getD x1_8.toNat spliceref12_Entry.z).M) h3) (by kernel_rfl) (hands_none _) (.cons (pass_d _) .nil) (st':=⟨62,[(0,.d (eL98 t0 a0)),(1,.d (eL55 t1 a1)),(2,.i a2),(7,.ns),(8,.i x1_8),(23,.b v1)],[]⟩) (by kernel_rfl) ?_
     refine goK hT 2 (K34 1110100100 1) ⟨62,[(0,.d (eL98 t0 a0)),(1,.d (eL55 t1 a1)),(2,.i a2),(7,.ns),(8,.i x1_8),(24,.b (!v1))],[]⟩ ?_
     by_cases c4:v1=true
     ·replace H:=sT c4 H
      rw [c4]
      refine goK hT 3 (K34 11101001 1) ⟨62,[(0,.d (eL98 t0 a0)),(1,.d (eL55 t1 a1)),(2,.i a2),(7,.ns),(8,.i x1_8)],[]⟩ ?_
      refine goK hT 6 (K34 111010 0) ⟨62,[(0,.d (eL98 t0 a0)),(1,.d (eL55 t1 a1)),(2,.i a2),(7,.ns),(8,.i (IntKind.wrap .i64 (x1_8+1)))],[]⟩ ?_
      exact ih.1 (IntKind.wrap .i64 (x1_8+1)) H
     ·replace H:=sF c4 H
      rw [boF c4]
      refine goK hT 5 (K34 111010010010 1) ⟨62,[(6,.ns)],[]⟩ ?_
      refine ak_sealS (av:=.d (.v (.slice none 0 0))) (y:=eL105 true ([]:List spliceref04_Pair)) [6] 6 (st':=⟨62,[(6,.d (eL105 true ([]:List spliceref04_Pair)))],[]⟩) (by kernel_rfl) (.nil _) (by kernel_rfl) ?_
      obtain rfl:=retC H
      exact retK hf hX h0 (.d (eL105 true ([]:List spliceref04_Pair))) [] (fun _ h=>all_nil h) (.d (.sl fun _ _=>spliceref04_Pair.nl _))
    ·replace H:=sF c1 H
     rw [decide_eq_false c1]
     refine goK hT 9 (K34 1111010 0) ⟨62,[(0,.d (eL98 t0 a0)),(1,.d (eL55 t1 a1)),(2,.i a2),(7,.ns),(9,.i 0)],[]⟩ ?_
     refine ak_sealS (av:=.d (.v (.slice none 0 0))) (y:=eL105 true ([]:List spliceref04_Pair)) [0,1,2,7,9] 7 (st':=⟨62,[(0,.d (eL98 t0 a0)),(1,.d (eL55 t1 a1)),(2,.i a2),(7,.d (eL105 true ([]:List spliceref04_Pair))),(9,.i 0)],[]⟩) (by kernel_rfl) (.nil _) (by kernel_rfl) ?_
     exact ih.2 ([]:List spliceref04_Pair) 0 H
   ·intro x2_7 x2_9 H
    have Jj1:∀ (y1_32:Bool),stk (spliceref15_Fold.j1 a0 a1 a2 x2_7 x2_9 y1_32) (iter (spliceref15_Fold.step a0 a1 a2) n)=some r→AK X 34 ((K34 111101000 1)) (Back X [] (.d (eL105 true r))) ⟨62,[(0,.d (eL98 t0 a0)),(1,.d (eL55 t1 a1)),(2,.i a2),(7,.d (eL105 true x2_7)),(9,.i x2_9),(32,.b y1_32)],[]⟩:=by
     intro y1_32 H
     by_cases c7:y1_32=true
     ·replace H:=sT c7 H
      rw [c7]
      refine goK hT 2 (K34 11110100 1) ⟨62,[(0,.d (eL98 t0 a0)),(1,.d (eL55 t1 a1)),(2,.i a2),(7,.d (eL105 true x2_7)),(9,.i x2_9)],[]⟩ ?_
      refine goK hT 6 (K34 111101001000 2) ⟨62,[(0,.d (eL98 t0 a0)),(1,.d (eL55 t1 a1)),(2,.i a2),(7,.d (eL105 true x2_7)),(9,.i x2_9),(35,.d (eL98 t0 a0)),(36,.i x2_9)],[]⟩ ?_
      obtain ⟨h8,H⟩:=sC H
      have Jj2:∀ (y2_48:Bool),stk (spliceref15_Fold.j2 a0 a1 x2_7 x2_9 y2_48) (iter (spliceref15_Fold.step a0 a1 a2) n)=some r→AK X 34 ((K34 11110100100 1)) (Back X [] (.d (eL105 true r))) ⟨62,[(0,.d (eL98 t0 a0)),(1,.d (eL55 t1 a1)),(2,.i a2),(7,.d (eL105 true x2_7)),(9,.i x2_9),(48,.b y2_48)],[]⟩:=by
       intro y2_48 H
       have Jj3:∀ (y3_7:List spliceref04_Pair),stk (spliceref15_Fold.j3 x2_9 y3_7) (iter (spliceref15_Fold.step a0 a1 a2) n)=some r→AK X 34 ((K34 111101001 1)) (Back X [] (.d (eL105 true r))) ⟨62,[(0,.d (eL98 t0 a0)),(1,.d (eL55 t1 a1)),(2,.i a2),(7,.d (eL105 true y3_7)),(9,.i x2_9)],[]⟩:=by
        intro y3_7 H
        refine goK hT 6 (K34 1111010 0) ⟨62,[(0,.d (eL98 t0 a0)),(1,.d (eL55 t1 a1)),(2,.i a2),(7,.d (eL105 true y3_7)),(9,.i (IntKind.wrap .i64 (x2_9+1)))],[]⟩ ?_
        exact ih.2 y3_7 (IntKind.wrap .i64 (x2_9+1)) H
       by_cases c10:y2_48=true
       ·replace H:=sT c10 H
        rw [c10]
        refine goK hT 6 (K34 11110100100100 3) ⟨62,[(0,.d (eL98 t0 a0)),(1,.d (eL55 t1 a1)),(2,.i a2),(9,.i x2_9),(50,.d (eL105 true x2_7)),(51,.d (eL98 t0 a0)),(52,.i x2_9)],[]⟩ ?_
        refine ak_idx hT [0,1,2,9,50,53] (i:=x2_9) (n:=(a0.length:Int)) h8.1 h8.2 (k':=(K34 11110100100100 4)) (st':=⟨62,[(0,.d (eL98 t0 a0)),(1,.d (eL55 t1 a1)),(2,.i a2),(9,.i x2_9),(50,.d (eL105 true x2_7)),(53,.d (eP98 t0 a0 x2_9.toNat 0))],[]⟩) (by kernel_rfl) ?_
        refine goK hT 3 (K34 11110100100100 7) ⟨62,[(0,.d (eL98 t0 a0)),(1,.d (eL55 t1 a1)),(2,.i a2),(9,.i x2_9),(50,.d (eL105 true x2_7)),(55,.d (eG57 ((a0.getD x2_9.toNat spliceref12_Entry.z).M))),(56,.d (eL55 t1 a1))],[]⟩ ?_
        obtain ⟨v3,h11,H⟩:=sbC H
        refine ak_callP (avs:=[.d (eL105 true x2_7),.d (eG57 ((a0.getD x2_9.toNat spliceref12_Entry.z).M)),.d (eL55 t1 a1)]) (dst:=some 57) (k':=(K34 11110100100100 8)) [0,1,2,9,57] [] hP enters_51 (spliceref05_Apply.says (t2:=t1) x2_7 ((a0.getD x2_9.toNat spliceref12_Entry.z).M) a1 h11) (by kernel_rfl) (hands_none _) (.cons (pass_d _) (.cons (pass_d _) (.cons (pass_d _) .nil))) (st':=⟨62,[(0,.d (eL98 t0 a0)),(1,.d (eL55 t1 a1)),(2,.i a2),(9,.i x2_9),(57,.tup [.d (eL105 true v3.1),.b v3.2])],[]⟩) (by kernel_rfl) ?_
        refine goK hT 11 (K34 111101001 1) ⟨62,[(0,.d (eL98 t0 a0)),(1,.d (eL55 t1 a1)),(2,.i a2),(7,.d (eL105 true v3.1)),(9,.i x2_9)],[]⟩ ?_
        exact Jj3 v3.1 H
       ·replace H:=sF c10 H
        rw [boF c10]
        refine goK hT 3 (K34 111101001 1) ⟨62,[(0,.d (eL98 t0 a0)),(1,.d (eL55 t1 a1)),(2,.i a2),(7,.d (eL105 true x2_7)),(9,.i x2_9)],[]⟩ ?_
        exact Jj3 x2_7 H
      refine ak_idx hT [0,1,2,7,9,37] (i:=x2_9) (n:=(a0.length:Int)) h8.1 h8.2 (k':=(K34 111101001000 3)) (st':=⟨62,[(0,.d (eL98 t0 a0)),(1,.d (eL55 t1 a1)),(2,.i a2),(7,.d (eL105 true x2_7)),(9,.i x2_9),(37,.d (eP98 t0 a0 x2_9.toNat 0))],[]⟩) (by kernel_rfl) ?_
      refine goK hT 3 (K34 111101001000 6) ⟨62,[(0,.d (eL98 t0 a0)),(1,.d (eL55 t1 a1)),(2,.i a2),(7,.d (eL105 true x2_7)),(9,.i x2_9),(40,.b ((a0.getD x2_9.toNat spliceref12_Entry.z).Done))],[]⟩ ?_
      by_cases c9:((a0.getD x2_9.toNat spliceref12_Entry.z).Done)=true
      ·replace H:=sT c9 H
       rw [c9]
       refine goK hT 2 (K34 111101001000 8) ⟨62,[(0,.d (eL98 t0 a0)),(1,.d (eL55 t1 a1)),(2,.i a2),(7,.d (eL105 true x2_7)),(9,.i x2_9),(40,.b true),(41,.d (eL98 t0 a0)),(42,.i x2_9)],[]⟩ ?_
       refine ak_idx hT [0,1,2,7,9,40,43] (i:=x2_9) (n:=(a0.length:Int)) h8.1 h8.2 (k':=(K34 111101001000 9)) (st':=⟨62,[(0,.d (eL98 t0 a0)),(1,.d (eL55 t1 a1)),(2,.i a2),(7,.d (eL105 true x2_7)),(9,.i x2_9),(40,.b true),(43,.d (eP98 t0 a0 x2_9.toNat 0))],[]⟩) (by kernel_rfl) ?_
       refine goK hT 6 (K34 11110100100 1) ⟨62,[(0,.d (eL98 t0 a0)),(1,.d (eL55 t1 a1)),(2,.i a2),(7,.d (eL105 true x2_7)),(9,.i x2_9),(48,.b (decide (((a0.getD x2_9.toNat spliceref12_Entry.z).Time)≤a2)))],[]⟩ ?_
       exact Jj2 (decide (((a0.getD x2_9.toNat spliceref12_Entry.z).Time)≤a2)) H
      ·replace H:=sF c9 H
       rw [boF c9]
       refine goK hT 9 (K34 11110100100 1) ⟨62,[(0,.d (eL98 t0 a0)),(1,.d (eL55 t1 a1)),(2,.i a2),(7,.d (eL105 true x2_7)),(9,.i x2_9),(48,.b false)],[]⟩ ?_
       exact Jj2 false H
     ·replace H:=sF c7 H
      rw [boF c7]
      refine goK hT 7 (K34 11111 1) ⟨62,[(6,.d (eL105 true x2_7))],[]⟩ ?_
      obtain rfl:=retC H
      exact retK hf hX h0 (.d (eL105 true x2_7)) [] (fun _ h=>all_nil h) (.d (.sl fun _ _=>spliceref04_Pair.nl _))
    refine goK hT 8 (K34 1111010000 5) ⟨62,[(0,.d (eL98 t0 a0)),(1,.d (eL55 t1 a1)),(2,.i a2),(7,.d (eL105 true x2_7)),(9,.i x2_9),(29,.b (decide (x2_9 < (a0.length:Int))))],[]⟩ ?_
    by_cases c5:x2_9 < (a0.length:Int)
    ·replace H:=sT c5 H
     rw [decide_eq_true c5]
     refine goK hT 1 (K34 1111010000 6) ⟨62,[(0,.d (eL98 t0 a0)),(1,.d (eL55 t1 a1)),(2,.i a2),(7,.d (eL105 true x2_7)),(9,.i x2_9),(29,.b true),(30,.d (eL55 t1 a1))],[]⟩ ?_
     obtain ⟨v2,h6,H⟩:=sbC H
     refine ak_callP (avs:=[.d (eL55 t1 a1)]) (dst:=some 31) (k':=(K34 1111010000 7)) [0,1,2,7,9,29,31] [] hP enters_50 (spliceref03_Check.says (t0:=t1) a1 h6) (by kernel_rfl) (hands_none _) (.cons (pass_d _) .nil) (st':=⟨62,[(0,.d (eL98 t0 a0)),(1,.d (eL55 t1 a1)),(2,.i a2),(7,.d (eL105 true x2_7)),(9,.i x2_9),(29,.b true),(31,.b v2)],[]⟩) (by kernel_rfl) ?_
     refine goK hT 2 (K34 111101000 1) ⟨62,[(0,.d (eL98 t0 a0)),(1,.d (eL55 t1 a1)),(2,.i a2),(7,.d (eL105 true x2_7)),(9,.i x2_9),(32,.b v2)],[]⟩ ?_
     exact Jj1 v2 H
    ·replace H:=sF c5 H
     rw [decide_eq_false c5]
     refine goK hT 4 (K34 111101000 1) ⟨62,[(0,.d (eL98 t0 a0)),(1,.d (eL55 t1 a1)),(2,.i a2),(7,.d (eL105 true x2_7)),(9,.i x2_9),(32,.b false)],[]⟩ ?_
     exact Jj1 false H
 obtain ⟨n,H⟩:=loopC H
 exact (L n).1 0 H


theorem spliceref15_Onto.says {t1:Bool} {t2:Bool} (a0:List spliceref04_Pair) (a1:List spliceref04_Mut) (a2:List spliceref03_Span) {r:List spliceref04_Pair} (H:spliceref15_Onto a0 a1 a2=some r):Says Try.prog 33 [] [.d (eL105 true a0),.d (eL57 t1 a1),.d (eL55 t2 a2)] [] (.d (eL105 true r)):=by
 refine says_of Try.func33 rfl (nt:=51) rfl (Nat.le_of_ble_eq_true rfl) fun X hP h0 hX=>?_
 have hT:TabOk X.P T:=hP▸tok
 have hf:X.P.funcs[33]? = some Try.f33:=hP▸Try.func33
 refine goK hT 8 (K33 1100 1) ⟨51,[(0,.d (eL105 true a0)),(1,.d (eL57 t1 a1)),(2,.d (eL55 t2 a2)),(12,.d (eL105 true a0))],[]⟩ ?_
 obtain ⟨v1,h1,H⟩:=ibC H
 have Jj1:∀ (y1_19:Bool),(spliceref15_Onto.j1 a0 a1 a2 y1_19)=some r→AK X 33 ((K33 110 1)) (Back X [] (.d (eL105 true r))) ⟨51,[(0,.d (eL105 true a0)),(1,.d (eL57 t1 a1)),(2,.d (eL55 t2 a2)),(19,.b y1_19)],[]⟩:=by
  intro y1_19 H
  by_cases c4:y1_19=true
  ·replace H:=iT c4 H
   rw [c4]
   refine goK hT 5 (K33 11010 1) ⟨51,[(6,.ns)],[]⟩ ?_
   refine ak_sealS (av:=.d (.v (.slice none 0 0))) (y:=eL105 true ([]:List spliceref04_Pair)) [6] 6 (st':=⟨51,[(6,.d (eL105 true ([]:List spliceref04_Pair)))],[]⟩) (by kernel_rfl) (.nil _) (by kernel_rfl) ?_
   obtain rfl:=retC H
   exact retK hf hX h0 (.d (eL105 true ([]:List spliceref04_Pair))) [] (fun _ h=>all_nil h) (.d (.sl fun _ _=>spliceref04_Pair.nl _))
  ·replace H:=iF c4 H
   rw [boF c4]
   refine goK hT 2 (K33 11 1) ⟨51,[(0,.d (eL105 true a0)),(1,.d (eL57 t1 a1)),(2,.d (eL55 t2 a2))],[]⟩ ?_
   refine goK hT 7 (K33 111010 0) ⟨51,[(0,.d (eL105 true a0)),(1,.d (eL57 t1 a1)),(2,.d (eL55 t2 a2)),(7,.i 0)],[]⟩ ?_
   have L:∀ n,(∀ (x1_7:Int),iter (spliceref15_Onto.step a0 a1 a2) n (.l1 x1_7)=some r→AK X 33 ((K33 111010 0)) (Back X [] (.d (eL105 true r))) ⟨51,[(0,.d (eL105 true a0)),(1,.d (eL57 t1 a1)),(2,.d (eL55 t2 a2)),(7,.i x1_7)],[]⟩)∧(∀ (x2_8:List spliceref04_Pair) (x2_9:Int),iter (spliceref15_Onto.step a0 a1 a2) n (.l2 x2_8 x2_9)=some r→AK X 33 ((K33 11111010 0)) (Back X [] (.d (eL105 true r))) ⟨51,[(1,.d (eL57 t1 a1)),(2,.d (eL55 t2 a2)),(8,.d (eL105 true x2_8)),(9,.i x2_9)],[]⟩):=by
    intro n
    induction n with
    | zero=>exact ⟨fun _ H=>iter0 H,fun _ _ H=>iter0 H⟩
    | succ n ih=>
     refine ⟨?_, ?_⟩
     ·intro x1_7 H
      refine goK hT 8 (K33 11101000 1) ⟨51,[(0,.d (eL105 true a0)),(1,.d (eL57 t1 a1)),(2,.d (eL55 t2 a2)),(7,.i x1_7),(23,.b (decide (x1_7 < (a1.length:Int))))],[]⟩ ?_
      by_cases c5:x1_7 < (a1.length:Int)
      ·replace H:=sT c5 H
       rw [decide_eq_true c5]
       refine goK hT 2 (K33 1110100 1) ⟨51,[(0,.d (eL105 true a0)),(1,.d (eL57 t1 a1)),(2,.d (eL55 t2 a2)),(7,.i x1_7)],[]⟩ ?_
       refine goK hT 6 (K33 11101001000 2) ⟨51,[(0,.d (eL105 true a0)),(1,.d (eL57 t1 a1)),(2,.d (eL55 t2 a2)),(7,.i x1_7),(26,.d (eL57 t1 a1)),(27,.i x1_7)],[]⟩ ?_
       obtain ⟨h6,H⟩:=sC H
       refine ak_idx hT [0,1,2,7,28] (i:=x1_7) (n:=(a1.length:Int)) h6.1 h6.2 (k':=(K33 11101001000 3)) (st':=⟨51,[(0,.d (eL105 true a0)),(1,.d (eL57 t1 a1)),(2,.d (eL55 t2 a2)),(7,.i x1_7),(28,.d (eP57 t1 a1 x1_7.toNat 0))],[]⟩) (by kernel_rfl) ?_
       refine goK hT 1 (K33 11101001000 4) ⟨51,[(0,.d (eL105 true a0)),(1,.d (eL57 t1 a1)),(2,.d (eL55 t2 a2)),(7,.i x1_7),(29,.d (eG57 (a1.getD x1_7.toNat spliceref04_Mut.z)))],[]⟩ ?_
       obtain ⟨v3,h7,H⟩:=sbC H
       refine ak_callP (avs:=[.d (eG57 (a1.getD x1_7.toNat spliceref04_Mut.z))]) (dst:=some 30) (k':=(K33 11101001000 5)) [0,1,2,7,30] [] hP enters_14 (spliceref04_Check.says (a1.getD x1_7.toNat spliceref04_Mut.z) h7) (by kernel_rfl) (hands_none _) (.cons (pass_d _) .nil) (st':=⟨51,[(0,.d (eL105 true a0)),(1,.d (eL57 t1 a1)),(2,.d (eL55 t2 a2)),(7,.i x1_7),(30,.b v3)],[]⟩) (by kernel_rfl) ?_
       refine goK hT 2 (K33 1110100100 1) ⟨51,[(0,.d (eL105 true a0)),(1,.d (eL57 t1 a1)),(2,.d (eL55 t2 a2)),(7,.i x1_7),(31,.b (!v3))],[]⟩ ?_
       by_cases c8:v3=true
       ·replace H:=sT c8 H
        rw [c8]
        refine goK hT 3 (K33 11101001 1) ⟨51,[(0,.d (eL105 true a0)),(1,.d (eL57 t1 a1)),(2,.d (eL55 t2 a2)),(7,.i x1_7)],[]⟩ ?_
        refine goK hT 6 (K33 111010 0) ⟨51,[(0,.d (eL105 true a0)),(1,.d (eL57 t1 a1)),(2,.d (eL55 t2 a2)),(7,.i (IntKind.wrap .i64 (x1_7+1)))],[]⟩ ?_
        exact ih.1 (IntKind.wrap .i64 (x1_7+1)) H
       ·replace H:=sF c8 H
        rw [boF c8]
        refine goK hT 5 (K33 111010010010 1) ⟨51,[(6,.ns)],[]⟩ ?_
        refine ak_sealS (av:=.d (.v (.slice none 0 0))) (y:=eL105 true ([]:List spliceref04_Pair)) [6] 6 (st':=⟨51,[(6,.d (eL105 true ([]:List spliceref04_Pair)))],[]⟩) (by kernel_rfl) (.nil _) (by kernel_rfl) ?_
        obtain rfl:=retC H
        exact retK hf hX h0 (.d (eL105 true ([]:List spliceref04_Pair))) [] (fun _ h=>all_nil h) (.d (.sl fun _ _=>spliceref04_Pair.nl _))
      ·replace H:=sF c5 H
       rw [decide_eq_false c5]
       refine goK hT 14 (K33 11111010 0) ⟨51,[(1,.d (eL57 t1 a1)),(2,.d (eL55 t2 a2)),(8,.d (eL105 true a0)),(9,.i 0)],[]⟩ ?_
       exact ih.2 a0 0 H
     ·intro x2_8 x2_9 H
      refine goK hT 8 (K33 1111101000 1) ⟨51,[(1,.d (eL57 t1 a1)),(2,.d (eL55 t2 a2)),(8,.d (eL105 true x2_8)),(9,.i x2_9),(36,.b (decide (x2_9 < (a1.length:Int))))],[]⟩ ?_
      by_cases c9:x2_9 < (a1.length:Int)
      ·replace H:=sT c9 H
       rw [decide_eq_true c9]
       refine goK hT 2 (K33 111110100 1) ⟨51,[(1,.d (eL57 t1 a1)),(2,.d (eL55 t2 a2)),(8,.d (eL105 true x2_8)),(9,.i x2_9)],[]⟩ ?_
       refine goK hT 7 (K33 1111101001000 3) ⟨51,[(1,.d (eL57 t1 a1)),(2,.d (eL55 t2 a2)),(9,.i x2_9),(40,.d (eL105 true x2_8)),(41,.d (eL57 t1 a1)),(42,.i x2_9)],[]⟩ ?_
       obtain ⟨h10,H⟩:=sC H
       refine ak_idx hT [1,2,9,40,43] (i:=x2_9) (n:=(a1.length:Int)) h10.1 h10.2 (k':=(K33 1111101001000 4)) (st':=⟨51,[(1,.d (eL57 t1 a1)),(2,.d (eL55 t2 a2)),(9,.i x2_9),(40,.d (eL105 true x2_8)),(43,.d (eP57 t1 a1 x2_9.toNat 0))],[]⟩) (by kernel_rfl) ?_
       refine goK hT 2 (K33 1111101001000 6) ⟨51,[(1,.d (eL57 t1 a1)),(2,.d (eL55 t2 a2)),(9,.i x2_9),(40,.d (eL105 true x2_8)),(44,.d (eG57 (a1.getD x2_9.toNat spliceref04_Mut.z))),(45,.d (eL55 t2 a2))],[]⟩ ?_
       obtain ⟨v4,h11,H⟩:=sbC H
       refine ak_callP (avs:=[.d (eL105 true x2_8),.d (eG57 (a1.getD x2_9.toNat spliceref04_Mut.z)),.d (eL55 t2 a2)]) (dst:=some 46) (k':=(K33 1111101001000 7)) [1,2,9,46] [] hP enters_51 (spliceref05_Apply.says (t2:=t2) x2_8 (a1.getD x2_9.toNat spliceref04_Mut.z) a2 h11) (by kernel_rfl) (hands_none _) (.cons (pass_d _) (.cons (pass_d _) (.cons (pass_d _) .nil))) (st':=⟨51,[(1,.d (eL57 t1 a1)),(2,.d (eL55 t2 a2)),(9,.i x2_9),(46,.tup [.d (eL105 true v4.1),.b v4.2])],[]⟩) (by kernel_rfl) ?_
       refine goK hT 17 (K33 11111010 0) ⟨51,[(1,.d (eL57 t1 a1)),(2,.d (eL55 t2 a2)),(8,.d (eL105 true v4.1)),(9,.i (IntKind.wrap .i64 (x2_9+1)))],[]⟩ ?_
       exact ih.2 v4.1 (IntKind.wrap .i64 (x2_9+1)) H
      ·replace H:=sF c9 H
       rw [decide_eq_false c9]
       refine goK hT 7 (K33 111111 1) ⟨51,[(6,.d (eL105 true x2_8))],[]⟩ ?_
       obtain rfl:=retC H
       exact retK hf hX h0 (.d (eL105 true x2_8)) [] (fun _ h=>all_nil h) (.d (.sl fun _ _=>spliceref04_Pair.nl _))
   obtain ⟨n,H⟩:=loopC H
   exact (L n).1 0 H
 refine ak_callP (avs:=[.d (eL105 true a0)]) (dst:=some 13) (k':=(K33 1100 2)) [0,1,2,13] [] hP enters_49 (spliceref05_Check.says (t0:=true) a0 h1) (by kernel_rfl) (hands_none _) (.cons (pass_d _) .nil) (st':=⟨51,[(0,.d (eL105 true a0)),(1,.d (eL57 t1 a1)),(2,.d (eL55 t2 a2)),(13,.b v1)],[]⟩) (by kernel_rfl) ?_
 refine goK hT 2 (K33 1100 4) ⟨51,[(0,.d (eL105 true a0)),(1,.d (eL57 t1 a1)),(2,.d (eL55 t2 a2)),(15,.b (!v1))],[]⟩ ?_
 by_cases c2:v1=true
 ·replace H:=iT c2 H
  rw [c2]
  refine goK hT 1 (K33 1100 5) ⟨51,[(0,.d (eL105 true a0)),(1,.d (eL57 t1 a1)),(2,.d (eL55 t2 a2)),(15,.b false),(16,.d (eL55 t2 a2))],[]⟩ ?_
  obtain ⟨v2,h3,H⟩:=ibC H
  refine ak_callP (avs:=[.d (eL55 t2 a2)]) (dst:=some 17) (k':=(K33 1100 6)) [0,1,2,15,17] [] hP enters_50 (spliceref03_Check.says (t0:=t2) a2 h3) (by kernel_rfl) (hands_none _) (.cons (pass_d _) .nil) (st':=⟨51,[(0,.d (eL105 true a0)),(1,.d (eL57 t1 a1)),(2,.d (eL55 t2 a2)),(15,.b false),(17,.b v2)],[]⟩) (by kernel_rfl) ?_
  refine goK hT 3 (K33 110 1) ⟨51,[(0,.d (eL105 true a0)),(1,.d (eL57 t1 a1)),(2,.d (eL55 t2 a2)),(19,.b (!v2))],[]⟩ ?_
  exact Jj1 (!v2) H
 ·replace H:=iF c2 H
  rw [boF c2]
  refine goK hT 5 (K33 110 1) ⟨51,[(0,.d (eL105 true a0)),(1,.d (eL57 t1 a1)),(2,.d (eL55 t2 a2)),(19,.b true)],[]⟩ ?_
  exact Jj1 true H


theorem spliceref24_Sees.says {t0:Bool} {t1:Bool} (a0:List spliceref12_Entry) (a1:List spliceref24_Event) (a2:Int) (a3:Int) (a4:Int) (a5:Int) {r:spliceref05_Cell} (H:spliceref24_Sees a0 a1 a2 a3 a4 a5=some r):Says Try.prog 16 [] [.d (eL98 t0 a0),.d (eL91 t1 a1),.i a2,.i a3,.i a4,.i a5] [] (.d (eG59 r)):=by
 refine says_of Try.func16 rfl (nt:=29) rfl (Nat.le_of_ble_eq_true rfl) fun X hP h0 hX=>?_
 have hT:TabOk X.P T:=hP▸tok
 have hf:X.P.funcs[16]? = some Try.f16:=hP▸Try.func16
 refine goK hT 7 (K16 110 1) ⟨29,[(0,.d (eL98 t0 a0)),(1,.d (eL91 t1 a1)),(2,.i a2),(3,.i a3),(4,.i a4),(5,.i a5),(12,.ptr 0 0 0 0),(14,.d (eL98 t0 a0))],[.box 59 [.i 0,.b false]]⟩ ?_
 refine ak_callP (avs:=[]) (dst:=some 15) (k':=(K16 110 2)) [0,1,2,3,4,5,12,14,15] [] hP enters_35 (spliceref24_all.says) (by kernel_rfl) (hands_none _) .nil (st':=⟨29,[(0,.d (eL98 t0 a0)),(1,.d (eL91 t1 a1)),(2,.i a2),(3,.i a3),(4,.i a4),(5,.i a5),(12,.ptr 0 0 0 0),(14,.d (eL98 t0 a0)),(15,.own 1 2 0 spliceref24_all.length)],[.box 59 [.i 0,.b false],eR55 spliceref24_all]⟩) (by kernel_rfl) ?_
 obtain ⟨v1,h1,H⟩:=idC H
 rw [← h1]
 refine goK hT 1 (K16 110 3) ⟨29,[(0,.d (eL98 t0 a0)),(1,.d (eL91 t1 a1)),(2,.i a2),(3,.i a3),(4,.i a4),(5,.i a5),(12,.ptr 0 0 0 0),(14,.d (eL98 t0 a0)),(15,.own 1 2 0 v1.length),(16,.i a5)],[.box 59 [.i 0,.b false],eR55 v1]⟩ ?_
 obtain ⟨v2,h2,H⟩:=ibC H
 refine ak_callP (avs:=[.d (eL98 t0 a0),.own 1 2 0 v1.length,.i a5]) (dst:=some 17) (k':=(K16 110 4)) [0,1,2,3,4,5,12,17] [] hP enters_34 (spliceref15_Fold.says (t0:=t0) (t1:=false) a0 v1 a5 h2) (by kernel_rfl) (hands_none _) (.cons (pass_d _) (.cons (.lend (ty:=55) (by kernel_rfl) rfl) (.cons (pass_d _) .nil))) (st':=⟨29,[(0,.d (eL98 t0 a0)),(1,.d (eL91 t1 a1)),(2,.i a2),(3,.i a3),(4,.i a4),(5,.i a5),(12,.ptr 0 0 0 0),(17,.d (eL105 true v2))],[.box 59 [.i 0,.b false],eR55 v1]⟩) (by kernel_rfl) ?_
 refine goK hT 5 (K16 110 9) ⟨29,[(4,.i a4),(12,.ptr 0 0 0 0),(17,.d (eL105 true v2)),(18,.d (eL98 t0 a0)),(19,.d (eL91 t1 a1)),(20,.i a2),(21,.i a3),(22,.i a5)],[.box 59 [.i 0,.b false],eR55 v1]⟩ ?_
 obtain ⟨v3,h3,H⟩:=ibC H
 refine ak_callP (avs:=[.d (eL98 t0 a0),.d (eL91 t1 a1),.i a2,.i a3,.i a5]) (dst:=some 23) (k':=(K16 110 10)) [4,12,17,23] [] hP enters_18 (spliceref24_Pending.says (t0:=t0) (t1:=t1) a0 a1 a2 a3 a5 h3) (by kernel_rfl) (hands_none _) (.cons (pass_d _) (.cons (pass_d _) (.cons (pass_d _) (.cons (pass_d _) (.cons (pass_d _) .nil))))) (st':=⟨29,[(4,.i a4),(12,.ptr 0 0 0 0),(17,.d (eL105 true v2)),(23,.own 2 7 0 v3.length)],[.box 59 [.i 0,.b false],eR55 v1,eR57 v3]⟩) (by kernel_rfl) ?_
 refine ak_callP (avs:=[]) (dst:=some 24) (k':=(K16 110 11)) [4,12,17,23,24] [] hP enters_35 (spliceref24_all.says) (by kernel_rfl) (hands_none _) .nil (st':=⟨29,[(4,.i a4),(12,.ptr 0 0 0 0),(17,.d (eL105 true v2)),(23,.own 2 7 0 v3.length),(24,.own 3 2 0 spliceref24_all.length)],[.box 59 [.i 0,.b false],eR55 v1,eR57 v3,eR55 spliceref24_all]⟩) (by kernel_rfl) ?_
 obtain ⟨v4,h4,H⟩:=idC H
 rw [← h4]
 obtain ⟨v5,h5,H⟩:=ibC H
 refine ak_callP (avs:=[.d (eL105 true v2),.own 2 7 0 v3.length,.own 3 2 0 v4.length]) (dst:=some 25) (k':=(K16 110 12)) [4,12,25] [] hP enters_33 (spliceref15_Onto.says (t1:=false) (t2:=false) v2 v3 v4 h5) (by kernel_rfl) (hands_none _) (.cons (pass_d _) (.cons (.lend (ty:=57) (by kernel_rfl) rfl) (.cons (.lend (ty:=55) (by kernel_rfl) rfl) .nil))) (st':=⟨29,[(4,.i a4),(12,.ptr 0 0 0 0),(25,.d (eL105 true v5))],[.box 59 [.i 0,.b false],eR55 v1,eR57 v3,eR55 v4]⟩) (by kernel_rfl) ?_
 refine goK hT 6 (K16 1110 2) ⟨29,[(12,.ptr 0 0 0 0),(26,.d (eL105 true v5)),(27,.i a4)],[.box 59 [.i 0,.b false],eR55 v1,eR57 v3,eR55 v4]⟩ ?_
 obtain ⟨v6,h6,H⟩:=ibC H
 refine ak_callP (avs:=[.d (eL105 true v5),.i a4]) (dst:=some 28) (k':=(K16 1110 3)) [12,28] [] hP enters_36 (spliceref05_Get.says (t0:=true) v5 a4 h6) (by kernel_rfl) (hands_none _) (.cons (pass_d _) (.cons (pass_d _) .nil)) (st':=⟨29,[(12,.ptr 0 0 0 0),(28,.d (eG59 v6))],[.box 59 [.i 0,.b false],eR55 v1,eR57 v3,eR55 v4]⟩) (by kernel_rfl) ?_
 refine goK hT 2 (K16 111 1) ⟨29,[(12,.ptr 0 0 0 0)],[.box 59 (eC59 v6),eR55 v1,eR57 v3,eR55 v4]⟩ ?_
 obtain rfl:=retC H
 exact ak_retM hT hf hX (av:=.d (eG59 v6)) (by kernel_rfl) [] (sel_of_eq (by kernel_rfl)) (by decide) (by rw [h0];rfl) (by kernel_rfl) (fun _ h=>all_nil h) (.d (.agg (spliceref05_Cell.nl _)))


noncomputable abbrev splicelaw24_AuditRight.q1 (v10:Int) (y5_b4_1:Int) (a1:List api_Event) (x1_12:Int):List AV:=[.i (IntKind.wrap .i64 (v10+1)),.i y5_b4_1,.i (((a1.getD x1_12.toNat api_Event.z).M).Kind),.d (eL76 true (((a1.getD x1_12.toNat api_Event.z).M).Pairs)),.i ((((a1.getD x1_12.toNat api_Event.z).M).Over).Lo),.i ((((a1.getD x1_12.toNat api_Event.z).M).Over).Hi),.i (((a1.getD x1_12.toNat api_Event.z).M).Old)]


noncomputable abbrev splicelaw24_AuditRight.q2 (x1_r0:List api_Event) (v7:Int):=(x1_r0.set v7.toNat (⟨(x1_r0.getD v7.toNat api_Event.z).Kind,(x1_r0.getD v7.toNat api_Event.z).Client,((x1_r0.getD v7.toNat api_Event.z).M),(x1_r0.getD v7.toNat api_Event.z).Key,(⟨0,false⟩:api_Cell),(x1_r0.getD v7.toNat api_Event.z).Mark⟩:api_Event))


noncomputable abbrev splicelaw24_AuditRight.q3 (x1_r0:List api_Event) (v7:Int):=(x1_r0.set v7.toNat (⟨(x1_r0.getD v7.toNat api_Event.z).Kind,(x1_r0.getD v7.toNat api_Event.z).Client,((x1_r0.getD v7.toNat api_Event.z).M),(x1_r0.getD v7.toNat api_Event.z).Key,(⟨1,true⟩:api_Cell),(x1_r0.getD v7.toNat api_Event.z).Mark⟩:api_Event))


noncomputable abbrev splicelaw24_AuditRight.q4:=(⟨0,0,0,([]:List api_Pair),(⟨0,0⟩:api_Span),0⟩:api_Mut)


noncomputable abbrev splicelaw24_AuditRight.q5 (v10:Int) (y5_b4_1:Int) (a1:List api_Event) (x1_12:Int):=(⟨1,IntKind.wrap .i64 (v10+1),(⟨IntKind.wrap .i64 (v10+1),y5_b4_1,((a1.getD x1_12.toNat api_Event.z).M).Kind,((a1.getD x1_12.toNat api_Event.z).M).Pairs,(((a1.getD x1_12.toNat api_Event.z).M).Over),((a1.getD x1_12.toNat api_Event.z).M).Old⟩:api_Mut),0,(⟨0,false⟩:api_Cell),0⟩:api_Event)


noncomputable abbrev splicelaw24_AuditRight.q6 (v10:Int) (a1:List api_Event) (x1_12:Int):List AV:=[.i (IntKind.wrap .i64 (v10+1)),.i (((a1.getD x1_12.toNat api_Event.z).M).Seq),.i (((a1.getD x1_12.toNat api_Event.z).M).Kind),.d (eL76 true (((a1.getD x1_12.toNat api_Event.z).M).Pairs)),.i ((((a1.getD x1_12.toNat api_Event.z).M).Over).Lo),.i ((((a1.getD x1_12.toNat api_Event.z).M).Over).Hi),.i (((a1.getD x1_12.toNat api_Event.z).M).Old)]


noncomputable abbrev splicelaw24_AuditRight.q7 (x1_r0:List api_Event) (x1_r1:List Int) (x1_b2_0:Int) (x1_b2_1:Int) (x1_b2_2:Int) (x1_b2_3:Int) (x1_b3_0:Int) (x1_b3_1:Int) (x1_b3_2:Int) (x1_b3_3:Int) (v10:Int) (y5_b4_1:Int) (a1:List api_Event) (x1_12:Int):List Row:=[eR52 x1_r0,eR3 x1_r1,.box 43 [.i x1_b2_0,.i x1_b2_1,.i x1_b2_2,.i x1_b2_3],.box 43 [.i x1_b3_0,.i x1_b3_1,.i x1_b3_2,.i x1_b3_3],.box 48 (splicelaw24_AuditRight.q1 v10 y5_b4_1 a1 x1_12)]


noncomputable abbrev splicelaw24_AuditRight.q8 (a2:Int) (x1_r1:List Int):=(Int.tmod (IntKind.wrap .i64 ((Int.tmod a2 (x1_r1.length:Int))+(x1_r1.length:Int))) (x1_r1.length:Int))


theorem splicelaw24_AuditRight.says {t1:Bool} (a0:List api_Entry) (a1:List api_Event) (a2:Int) {r:Bool} (H:splicelaw24_AuditRight a0 a1 a2=some r):Says Try.prog 4 [] [.d (eL74 true a0),.d (eL52 t1 a1),.i a2] [] (.b r):=by
 refine says_of Try.func4 rfl (nt:=187) rfl (Nat.le_of_ble_eq_true rfl) fun X hP h0 hX=>?_
 have hT:TabOk X.P T:=hP▸tok
 have hf:X.P.funcs[4]? = some Try.f4:=hP▸Try.func4
 refine goK hT 9 (K4 1100 2) ⟨187,[(0,.d (eL74 true a0)),(1,.d (eL52 t1 a1)),(2,.i a2),(22,.d (eL74 true a0)),(23,.d (eL52 t1 a1))],[]⟩ ?_
 obtain ⟨v1,h1,H⟩:=ibC H
 have Jj1:∀ (y1_30:Bool),(splicelaw24_AuditRight.j1 a0 a1 a2 y1_30)=some r→AK X 4 ((K4 110 1)) (Back X [] (.b r)) ⟨187,[(0,.d (eL74 true a0)),(1,.d (eL52 t1 a1)),(2,.i a2),(30,.b y1_30)],[]⟩:=by
  intro y1_30 H
  by_cases c4:y1_30=true
  ·replace H:=iT c4 H
   rw [c4]
   refine goK hT 3 (K4 110100 0) ⟨187,[],[]⟩ ?_
   obtain ⟨v3,h5,H⟩:=ibC H
   refine ak_callP (avs:=[]) (dst:=some 31) (k':=(K4 110100 1)) [31] [] hP enters_7 (splicelaw24_awake.says h5) (by kernel_rfl) (hands_none _) .nil (st':=⟨187,[(31,.b v3)],[]⟩) (by kernel_rfl) ?_
   refine goK hT 2 (K4 11010 1) ⟨187,[(6,.b v3)],[]⟩ ?_
   obtain rfl:=retC H
   exact retK hf hX h0 (.b v3) [] (fun _ h=>all_nil h) (.d (.v _))
  ·replace H:=iF c4 H
   rw [boF c4]
   refine goK hT 2 (K4 11 1) ⟨187,[(0,.d (eL74 true a0)),(1,.d (eL52 t1 a1)),(2,.i a2)],[]⟩ ?_
   refine goK hT 3 (K4 1110 1) ⟨187,[(0,.d (eL74 true a0)),(1,.d (eL52 t1 a1)),(2,.i a2),(32,.d (eL74 true a0))],[]⟩ ?_
   obtain ⟨v4,h6,H⟩:=ibC H
   refine ak_callP (avs:=[.d (eL74 true a0)]) (dst:=some 33) (k':=(K4 1110 2)) [0,1,2,33] [] hP enters_10 (splicelaw24_Entries.says a0 h6) (by kernel_rfl) (hands_none _) (.cons (pass_d _) .nil) (st':=⟨187,[(0,.d (eL74 true a0)),(1,.d (eL52 t1 a1)),(2,.i a2),(33,.d (eL98 true v4))],[]⟩) (by kernel_rfl) ?_
   refine goK hT 22 (K4 1111111010 0) ⟨187,[(0,.d (eL74 true a0)),(1,.d (eL52 t1 a1)),(2,.i a2),(7,.d (eL98 true v4)),(8,.ns),(9,.ns),(10,.ptr 0 0 0 0),(11,.ptr 1 0 0 0),(12,.i 0)],[.box 43 [.i 0,.i 0,.i 0,.i 0],.box 43 [.i 0,.i 0,.i 0,.i 0]]⟩ ?_
   refine ak_nilS [0,1,2,7,8,9,10,11,12] 8 13 52 (vec api_Event.e api_Event.z []) (st':=⟨187,[(0,.d (eL74 true a0)),(1,.d (eL52 t1 a1)),(2,.i a2),(7,.d (eL98 true v4)),(8,.own 2 13 0 0),(9,.ns),(10,.ptr 0 0 0 0),(11,.ptr 1 0 0 0),(12,.i 0)],[.box 43 [.i 0,.i 0,.i 0,.i 0],.box 43 [.i 0,.i 0,.i 0,.i 0],eR52 ([]:List api_Event)]⟩) (by kernel_rfl) (by kernel_rfl) ?_
   refine ak_nilS [0,1,2,7,8,9,10,11,12] 9 1 3 (vec (eI .i64) 0 []) (st':=⟨187,[(0,.d (eL74 true a0)),(1,.d (eL52 t1 a1)),(2,.i a2),(7,.d (eL98 true v4)),(8,.own 2 13 0 0),(9,.own 3 1 0 0),(10,.ptr 0 0 0 0),(11,.ptr 1 0 0 0),(12,.i 0)],[.box 43 [.i 0,.i 0,.i 0,.i 0],.box 43 [.i 0,.i 0,.i 0,.i 0],eR52 ([]:List api_Event),eR3 ([]:List Int)]⟩) (by kernel_rfl) (by kernel_rfl) ?_
   have L:∀ n,(∀ (x1_12:Int) (x1_r0:List api_Event) (x1_r1:List Int) (x1_b2_0:Int) (x1_b2_1:Int) (x1_b2_2:Int) (x1_b2_3:Int) (x1_b3_0:Int) (x1_b3_1:Int) (x1_b3_2:Int) (x1_b3_3:Int),iter (splicelaw24_AuditRight.step a0 a1 a2 v4) n (.l1 x1_12 x1_r0 x1_r1 x1_b2_0 x1_b2_1 x1_b2_2 x1_b2_3 x1_b3_0 x1_b3_1 x1_b3_2 x1_b3_3)=some r→AK X 4 ((K4 1111111010 0)) (Back X [] (.b r)) ⟨187,[(0,.d (eL74 true a0)),(1,.d (eL52 t1 a1)),(2,.i a2),(7,.d (eL98 true v4)),(8,.own 0 13 0 x1_r0.length),(9,.own 1 1 0 x1_r1.length),(10,.ptr 2 0 0 0),(11,.ptr 3 0 0 0),(12,.i x1_12)],[eR52 x1_r0,eR3 x1_r1,.box 43 [.i x1_b2_0,.i x1_b2_1,.i x1_b2_2,.i x1_b2_3],.box 43 [.i x1_b3_0,.i x1_b3_1,.i x1_b3_2,.i x1_b3_3]]⟩):=by
    intro n
    induction n with
    | zero=>exact fun _ _ _ _ _ _ _ _ _ _ _ H=>iter0 H
    | succ n ih=>
     ·intro x1_12 x1_r0 x1_r1 x1_b2_0 x1_b2_1 x1_b2_2 x1_b2_3 x1_b3_0 x1_b3_1 x1_b3_2 x1_b3_3 H
      refine goK hT 8 (K4 111111101000 1) ⟨187,[(0,.d (eL74 true a0)),(1,.d (eL52 t1 a1)),(2,.i a2),(7,.d (eL98 true v4)),(8,.own 0 13 0 x1_r0.length),(9,.own 1 1 0 x1_r1.length),(10,.ptr 2 0 0 0),(11,.ptr 3 0 0 0),(12,.i x1_12),(37,.b (decide (x1_12 < (a1.length:Int))))],[eR52 x1_r0,eR3 x1_r1,.box 43 [.i x1_b2_0,.i x1_b2_1,.i x1_b2_2,.i x1_b2_3],.box 43 [.i x1_b3_0,.i x1_b3_1,.i x1_b3_2,.i x1_b3_3]]⟩ ?_
      by_cases c7:x1_12 < (a1.length:Int)
      ·replace H:=sT c7 H
       rw [decide_eq_true c7]
       refine goK hT 2 (K4 11111110100 1) ⟨187,[(0,.d (eL74 true a0)),(1,.d (eL52 t1 a1)),(2,.i a2),(7,.d (eL98 true v4)),(8,.own 0 13 0 x1_r0.length),(9,.own 1 1 0 x1_r1.length),(10,.ptr 2 0 0 0),(11,.ptr 3 0 0 0),(12,.i x1_12)],[eR52 x1_r0,eR3 x1_r1,.box 43 [.i x1_b2_0,.i x1_b2_1,.i x1_b2_2,.i x1_b2_3],.box 43 [.i x1_b3_0,.i x1_b3_1,.i x1_b3_2,.i x1_b3_3]]⟩ ?_
       refine goK hT 6 (K4 111111101001000 2) ⟨187,[(0,.d (eL74 true a0)),(1,.d (eL52 t1 a1)),(2,.i a2),(7,.d (eL98 true v4)),(8,.own 0 13 0 x1_r0.length),(9,.own 1 1 0 x1_r1.length),(10,.ptr 2 0 0 0),(11,.ptr 3 0 0 0),(12,.i x1_12),(40,.d (eL52 t1 a1)),(41,.i x1_12)],[eR52 x1_r0,eR3 x1_r1,.box 43 [.i x1_b2_0,.i x1_b2_1,.i x1_b2_2,.i x1_b2_3],.box 43 [.i x1_b3_0,.i x1_b3_1,.i x1_b3_2,.i x1_b3_3]]⟩ ?_
       obtain ⟨h24,H⟩:=sC H
       refine ak_idx hT [0,1,2,7,8,9,10,11,12,42] (i:=x1_12) (n:=(a1.length:Int)) h24.1 h24.2 (k':=(K4 111111101001000 3)) (st':=⟨187,[(0,.d (eL74 true a0)),(1,.d (eL52 t1 a1)),(2,.i a2),(7,.d (eL98 true v4)),(8,.own 0 13 0 x1_r0.length),(9,.own 1 1 0 x1_r1.length),(10,.ptr 2 0 0 0),(11,.ptr 3 0 0 0),(12,.i x1_12),(42,.d (eP52 t1 a1 x1_12.toNat 0))],[eR52 x1_r0,eR3 x1_r1,.box 43 [.i x1_b2_0,.i x1_b2_1,.i x1_b2_2,.i x1_b2_3],.box 43 [.i x1_b3_0,.i x1_b3_1,.i x1_b3_2,.i x1_b3_3]]⟩) (by kernel_rfl) ?_
       refine goK hT 12 (K4 1111111010010010 6) ⟨187,[(0,.d (eL74 true a0)),(1,.d (eL52 t1 a1)),(2,.i a2),(7,.d (eL98 true v4)),(8,.own 0 13 0 x1_r0.length),(9,.own 1 1 0 x1_r1.length),(10,.ptr 2 0 0 0),(11,.ptr 3 0 0 0),(12,.i x1_12),(13,.ptr 4 0 0 0),(14,.i (Int.tmod (IntKind.wrap .i64 ((Int.tmod ((a1.getD x1_12.toNat api_Event.z).Client) 4)+4)) 4))],[eR52 x1_r0,eR3 x1_r1,.box 43 [.i x1_b2_0,.i x1_b2_1,.i x1_b2_2,.i x1_b2_3],.box 43 [.i x1_b3_0,.i x1_b3_1,.i x1_b3_2,.i x1_b3_3],.box 52 (eC52 (a1.getD x1_12.toNat api_Event.z))]⟩ ?_
       obtain ⟨v10,h25,H⟩:=sdC H
       rw [← h25]
       refine goK hT 8 (K4 11111110100100110 1) ⟨187,[(0,.d (eL74 true a0)),(1,.d (eL52 t1 a1)),(2,.i a2),(7,.d (eL98 true v4)),(8,.own 0 13 0 x1_r0.length),(9,.own 1 1 0 x1_r1.length),(10,.ptr 2 0 0 0),(11,.ptr 3 0 0 0),(12,.i x1_12),(13,.ptr 4 0 0 0),(14,.i v10),(51,.b (((a1.getD x1_12.toNat api_Event.z).Kind) == 1))],[eR52 x1_r0,eR3 x1_r1,.box 43 [.i x1_b2_0,.i x1_b2_1,.i x1_b2_2,.i x1_b2_3],.box 43 [.i x1_b3_0,.i x1_b3_1,.i x1_b3_2,.i x1_b3_3],.box 52 (eC52 (a1.getD x1_12.toNat api_Event.z))]⟩ ?_
       by_cases c26:((a1.getD x1_12.toNat api_Event.z).Kind)=1
       ·replace H:=sT c26 H
        have Jj5:∀ (y5_b4_1:Int),stk (splicelaw24_AuditRight.j5 a1 x1_12 x1_r0 x1_r1 x1_b2_0 x1_b2_1 x1_b2_2 x1_b2_3 x1_b3_0 x1_b3_1 x1_b3_2 x1_b3_3 v10 y5_b4_1) (iter (splicelaw24_AuditRight.step a0 a1 a2 v4) n)=some r→AK X 4 ((K4 111111101001001101011 1)) (Back X [] (.b r)) ⟨187,[(0,.d (eL74 true a0)),(1,.d (eL52 t1 a1)),(2,.i a2),(7,.d (eL98 true v4)),(8,.own 0 13 0 x1_r0.length),(9,.own 1 1 0 x1_r1.length),(10,.ptr 2 0 0 0),(11,.ptr 3 0 0 0),(12,.i x1_12),(14,.i v10),(15,.ptr 4 0 0 0)],(splicelaw24_AuditRight.q7 x1_r0 x1_r1 x1_b2_0 x1_b2_1 x1_b2_2 x1_b2_3 x1_b3_0 x1_b3_1 x1_b3_2 x1_b3_3 v10 y5_b4_1 a1 x1_12)⟩:=by
         intro y5_b4_1 H
         refine goK hT 4 (K4 111111101001001101011100 1) ⟨187,[(0,.d (eL74 true a0)),(1,.d (eL52 t1 a1)),(2,.i a2),(7,.d (eL98 true v4)),(8,.own 0 13 0 x1_r0.length),(9,.own 1 1 0 x1_r1.length),(10,.ptr 2 0 0 0),(11,.ptr 3 0 0 0),(12,.i x1_12),(14,.i v10),(15,.ptr 4 0 0 0),(62,.d (.agg [.i (IntKind.wrap .i64 (v10+1)),.i y5_b4_1,.i (((a1.getD x1_12.toNat api_Event.z).M).Kind),eL76 true (((a1.getD x1_12.toNat api_Event.z).M).Pairs),.i ((((a1.getD x1_12.toNat api_Event.z).M).Over).Lo),.i ((((a1.getD x1_12.toNat api_Event.z).M).Over).Hi),.i (((a1.getD x1_12.toNat api_Event.z).M).Old)]))],(splicelaw24_AuditRight.q7 x1_r0 x1_r1 x1_b2_0 x1_b2_1 x1_b2_2 x1_b2_3 x1_b3_0 x1_b3_1 x1_b3_2 x1_b3_3 v10 y5_b4_1 a1 x1_12)⟩ ?_
         obtain ⟨v11,h31,H⟩:=sbC H
         refine ak_callP (avs:=[.d (.agg [.i (IntKind.wrap .i64 (v10+1)),.i y5_b4_1,.i (((a1.getD x1_12.toNat api_Event.z).M).Kind),eL76 true (((a1.getD x1_12.toNat api_Event.z).M).Pairs),.i ((((a1.getD x1_12.toNat api_Event.z).M).Over).Lo),.i ((((a1.getD x1_12.toNat api_Event.z).M).Over).Hi),.i (((a1.getD x1_12.toNat api_Event.z).M).Old)])]) (dst:=some 63) (k':=(K4 111111101001001101011100 2)) [0,1,2,7,8,9,10,11,12,14,15,63] [] hP enters_15 (splicelaw04_Ref.says (⟨IntKind.wrap .i64 (v10+1),y5_b4_1,((a1.getD x1_12.toNat api_Event.z).M).Kind,((a1.getD x1_12.toNat api_Event.z).M).Pairs,(((a1.getD x1_12.toNat api_Event.z).M).Over),((a1.getD x1_12.toNat api_Event.z).M).Old⟩:api_Mut) h31) (by kernel_rfl) (hands_none _) (.cons (pass_d _) .nil) (st':=⟨187,[(0,.d (eL74 true a0)),(1,.d (eL52 t1 a1)),(2,.i a2),(7,.d (eL98 true v4)),(8,.own 0 13 0 x1_r0.length),(9,.own 1 1 0 x1_r1.length),(10,.ptr 2 0 0 0),(11,.ptr 3 0 0 0),(12,.i x1_12),(14,.i v10),(15,.ptr 4 0 0 0),(63,.d (eG57 v11))],(splicelaw24_AuditRight.q7 x1_r0 x1_r1 x1_b2_0 x1_b2_1 x1_b2_2 x1_b2_3 x1_b3_0 x1_b3_1 x1_b3_2 x1_b3_3 v10 y5_b4_1 a1 x1_12)⟩) (by kernel_rfl) ?_
         obtain ⟨v12,h32,H⟩:=sbC H
         refine ak_callP (avs:=[.d (eG57 v11)]) (dst:=some 64) (k':=(K4 111111101001001101011100 3)) [0,1,2,7,8,9,10,11,12,14,15,64] [] hP enters_14 (spliceref04_Check.says v11 h32) (by kernel_rfl) (hands_none _) (.cons (pass_d _) .nil) (st':=⟨187,[(0,.d (eL74 true a0)),(1,.d (eL52 t1 a1)),(2,.i a2),(7,.d (eL98 true v4)),(8,.own 0 13 0 x1_r0.length),(9,.own 1 1 0 x1_r1.length),(10,.ptr 2 0 0 0),(11,.ptr 3 0 0 0),(12,.i x1_12),(14,.i v10),(15,.ptr 4 0 0 0),(64,.b v12)],(splicelaw24_AuditRight.q7 x1_r0 x1_r1 x1_b2_0 x1_b2_1 x1_b2_2 x1_b2_3 x1_b3_0 x1_b3_1 x1_b3_2 x1_b3_3 v10 y5_b4_1 a1 x1_12)⟩) (by kernel_rfl) ?_
         refine goK hT 2 (K4 11111110100100110101110 1) ⟨187,[(0,.d (eL74 true a0)),(1,.d (eL52 t1 a1)),(2,.i a2),(7,.d (eL98 true v4)),(8,.own 0 13 0 x1_r0.length),(9,.own 1 1 0 x1_r1.length),(10,.ptr 2 0 0 0),(11,.ptr 3 0 0 0),(12,.i x1_12),(14,.i v10),(15,.ptr 4 0 0 0),(65,.b (!v12))],(splicelaw24_AuditRight.q7 x1_r0 x1_r1 x1_b2_0 x1_b2_1 x1_b2_2 x1_b2_3 x1_b3_0 x1_b3_1 x1_b3_2 x1_b3_3 v10 y5_b4_1 a1 x1_12)⟩ ?_
         by_cases c33:v12=true
         ·replace H:=sT c33 H
          have Jj6:∀ (y6_b3_0:Int) (y6_b3_1:Int) (y6_b3_2:Int) (y6_b3_3:Int),stk (splicelaw24_AuditRight.j6 a1 x1_12 x1_r0 x1_r1 x1_b2_0 x1_b2_1 x1_b2_2 x1_b2_3 v10 y5_b4_1 y6_b3_0 y6_b3_1 y6_b3_2 y6_b3_3) (iter (splicelaw24_AuditRight.step a0 a1 a2 v4) n)=some r→AK X 4 ((K4 11111110100100110101111 1)) (Back X [] (.b r)) ⟨187,[(0,.d (eL74 true a0)),(1,.d (eL52 t1 a1)),(2,.i a2),(7,.d (eL98 true v4)),(8,.own 0 13 0 x1_r0.length),(9,.own 1 1 0 x1_r1.length),(10,.ptr 2 0 0 0),(11,.ptr 3 0 0 0),(12,.i x1_12),(14,.i v10),(15,.ptr 4 0 0 0)],[eR52 x1_r0,eR3 x1_r1,.box 43 [.i x1_b2_0,.i x1_b2_1,.i x1_b2_2,.i x1_b2_3],.box 43 [.i y6_b3_0,.i y6_b3_1,.i y6_b3_2,.i y6_b3_3],.box 48 (splicelaw24_AuditRight.q1 v10 y5_b4_1 a1 x1_12)]⟩:=by
           intro y6_b3_0 y6_b3_1 y6_b3_2 y6_b3_3 H
           refine goK hT 8 (K4 1111111010010011010111110 6) ⟨187,[(0,.d (eL74 true a0)),(1,.d (eL52 t1 a1)),(2,.i a2),(7,.d (eL98 true v4)),(9,.own 1 1 0 x1_r1.length),(10,.ptr 2 0 0 0),(11,.ptr 3 0 0 0),(12,.i x1_12),(71,.own 0 13 0 x1_r0.length),(76,.own 5 13 0 1)],[eR52 x1_r0,eR3 x1_r1,.box 43 [.i x1_b2_0,.i x1_b2_1,.i x1_b2_2,.i x1_b2_3],.box 43 [.i y6_b3_0,.i y6_b3_1,.i y6_b3_2,.i y6_b3_3],.box 48 (splicelaw24_AuditRight.q1 v10 y5_b4_1 a1 x1_12),.flat false 13 52 1 (fun j=>[[.i 1,.i (IntKind.wrap .i64 (v10+1)),.i (IntKind.wrap .i64 (v10+1)),.i y5_b4_1,.i (((a1.getD x1_12.toNat api_Event.z).M).Kind),eL76 true (((a1.getD x1_12.toNat api_Event.z).M).Pairs),.i ((((a1.getD x1_12.toNat api_Event.z).M).Over).Lo),.i ((((a1.getD x1_12.toNat api_Event.z).M).Over).Hi),.i (((a1.getD x1_12.toNat api_Event.z).M).Old),.i 0,.i 0,.b false,.i 0]].getD j [])]⟩ ?_
           obtain ⟨h38,H⟩:=sC H
           refine ak_append1 (id:=0) (kk:=13) (by':=120) (t:=23) (e:=52) (z:=[.int .i64 0,.int .i64 0,.int .i64 0,.int .i64 0,.int .i64 0,.slice none 0 0,.int .i64 0,.int .i64 0,.int .i64 0,.int .i64 0,.int .i64 0,.bool false,.int .i64 0]) (dst:=some 77) (id2:=5) (e2:=52) (fz:=false) (k':=(K4 1111111010010011010111110 7)) hT api_Event.e api_Event.z x1_r0 (splicelaw24_AuditRight.q5 v10 y5_b4_1 a1 x1_12) [0,1,2,7,9,10,11,12,77] (by kernel_rfl) (by kernel_rfl) (by kernel_rfl) (by kernel_rfl) (by kernel_rfl) (by kernel_rfl) (by kernel_rfl) h38 (by omega) (st':=⟨187,[(0,.d (eL74 true a0)),(1,.d (eL52 t1 a1)),(2,.i a2),(7,.d (eL98 true v4)),(9,.own 1 1 0 x1_r1.length),(10,.ptr 2 0 0 0),(11,.ptr 3 0 0 0),(12,.i x1_12),(77,.own 6 13 0 ((x1_r0 ++ [(splicelaw24_AuditRight.q5 v10 y5_b4_1 a1 x1_12)]).length))],[.gone,eR3 x1_r1,.box 43 [.i x1_b2_0,.i x1_b2_1,.i x1_b2_2,.i x1_b2_3],.box 43 [.i y6_b3_0,.i y6_b3_1,.i y6_b3_2,.i y6_b3_3],.box 48 (splicelaw24_AuditRight.q1 v10 y5_b4_1 a1 x1_12),.flat false 13 52 1 (fun j=>[[.i 1,.i (IntKind.wrap .i64 (v10+1)),.i (IntKind.wrap .i64 (v10+1)),.i y5_b4_1,.i (((a1.getD x1_12.toNat api_Event.z).M).Kind),eL76 true (((a1.getD x1_12.toNat api_Event.z).M).Pairs),.i ((((a1.getD x1_12.toNat api_Event.z).M).Over).Lo),.i ((((a1.getD x1_12.toNat api_Event.z).M).Over).Hi),.i (((a1.getD x1_12.toNat api_Event.z).M).Old),.i 0,.i 0,.b false,.i 0]].getD j []),eR52 (x1_r0 ++ [(splicelaw24_AuditRight.q5 v10 y5_b4_1 a1 x1_12)])]⟩) (by kernel_rfl) ?_
           refine goCut hT 9 (K4 1111111010 0) [6,1,2,3] ⟨187,[(0,.d (eL74 true a0)),(1,.d (eL52 t1 a1)),(2,.i a2),(7,.d (eL98 true v4)),(8,.own 0 13 0 (x1_r0 ++ [(splicelaw24_AuditRight.q5 v10 y5_b4_1 a1 x1_12)]).length),(9,.own 1 1 0 x1_r1.length),(10,.ptr 2 0 0 0),(11,.ptr 3 0 0 0),(12,.i (IntKind.wrap .i64 (x1_12+1)))],[eR52 (x1_r0 ++ [(splicelaw24_AuditRight.q5 v10 y5_b4_1 a1 x1_12)]),eR3 x1_r1,.box 43 [.i x1_b2_0,.i x1_b2_1,.i x1_b2_2,.i x1_b2_3],.box 43 [.i y6_b3_0,.i y6_b3_1,.i y6_b3_2,.i y6_b3_3]]⟩ h0 ?_
           exact ih (IntKind.wrap .i64 (x1_12+1)) (x1_r0 ++ [(splicelaw24_AuditRight.q5 v10 y5_b4_1 a1 x1_12)]) x1_r1 x1_b2_0 x1_b2_1 x1_b2_2 x1_b2_3 y6_b3_0 y6_b3_1 y6_b3_2 y6_b3_3 H
          rw [c33]
          refine goK hT 2 (K4 1111111010010011010111 1) ⟨187,[(0,.d (eL74 true a0)),(1,.d (eL52 t1 a1)),(2,.i a2),(7,.d (eL98 true v4)),(8,.own 0 13 0 x1_r0.length),(9,.own 1 1 0 x1_r1.length),(10,.ptr 2 0 0 0),(11,.ptr 3 0 0 0),(12,.i x1_12),(14,.i v10),(15,.ptr 4 0 0 0)],(splicelaw24_AuditRight.q7 x1_r0 x1_r1 x1_b2_0 x1_b2_1 x1_b2_2 x1_b2_3 x1_b3_0 x1_b3_1 x1_b3_2 x1_b3_3 v10 y5_b4_1 a1 x1_12)⟩ ?_
          refine goK hT 3 (K4 111111101001001101011110 1) ⟨187,[(0,.d (eL74 true a0)),(1,.d (eL52 t1 a1)),(2,.i a2),(7,.d (eL98 true v4)),(8,.own 0 13 0 x1_r0.length),(9,.own 1 1 0 x1_r1.length),(10,.ptr 2 0 0 0),(11,.ptr 3 0 0 0),(12,.i x1_12),(14,.i v10),(15,.ptr 4 0 0 0),(66,.i v10)],(splicelaw24_AuditRight.q7 x1_r0 x1_r1 x1_b2_0 x1_b2_1 x1_b2_2 x1_b2_3 x1_b3_0 x1_b3_1 x1_b3_2 x1_b3_3 v10 y5_b4_1 a1 x1_12)⟩ ?_
          by_cases c34:v10=0
          ·replace H:=sT c34 H
           refine ak_idx hT [0,1,2,7,8,9,10,11,12,14,15,66,67] (i:=v10) (n:=4) (by omega) (by omega) (k':=(K4 111111101001001101011110 2)) (st':=⟨187,[(0,.d (eL74 true a0)),(1,.d (eL52 t1 a1)),(2,.i a2),(7,.d (eL98 true v4)),(8,.own 0 13 0 x1_r0.length),(9,.own 1 1 0 x1_r1.length),(10,.ptr 2 0 0 0),(11,.ptr 3 0 0 0),(12,.i x1_12),(14,.i v10),(15,.ptr 4 0 0 0),(66,.i v10),(67,.ptr 3 0 0 0)],(splicelaw24_AuditRight.q7 x1_r0 x1_r1 x1_b2_0 x1_b2_1 x1_b2_2 x1_b2_3 x1_b3_0 x1_b3_1 x1_b3_2 x1_b3_3 v10 y5_b4_1 a1 x1_12)⟩) (by rw [c34];kernel_rfl) ?_
           refine goK hT 2 (K4 111111101001001101011110 4) ⟨187,[(0,.d (eL74 true a0)),(1,.d (eL52 t1 a1)),(2,.i a2),(7,.d (eL98 true v4)),(8,.own 0 13 0 x1_r0.length),(9,.own 1 1 0 x1_r1.length),(10,.ptr 2 0 0 0),(11,.ptr 3 0 0 0),(12,.i x1_12),(14,.i v10),(15,.ptr 4 0 0 0),(66,.i v10),(69,.i (IntKind.wrap .i64 (x1_b3_0+1)))],(splicelaw24_AuditRight.q7 x1_r0 x1_r1 x1_b2_0 x1_b2_1 x1_b2_2 x1_b2_3 x1_b3_0 x1_b3_1 x1_b3_2 x1_b3_3 v10 y5_b4_1 a1 x1_12)⟩ ?_
           refine ak_idx hT [0,1,2,7,8,9,10,11,12,14,15,69,70] (i:=v10) (n:=4) (by omega) (by omega) (k':=(K4 111111101001001101011110 5)) (st':=⟨187,[(0,.d (eL74 true a0)),(1,.d (eL52 t1 a1)),(2,.i a2),(7,.d (eL98 true v4)),(8,.own 0 13 0 x1_r0.length),(9,.own 1 1 0 x1_r1.length),(10,.ptr 2 0 0 0),(11,.ptr 3 0 0 0),(12,.i x1_12),(14,.i v10),(15,.ptr 4 0 0 0),(69,.i (IntKind.wrap .i64 (x1_b3_0+1))),(70,.ptr 3 0 0 0)],(splicelaw24_AuditRight.q7 x1_r0 x1_r1 x1_b2_0 x1_b2_1 x1_b2_2 x1_b2_3 x1_b3_0 x1_b3_1 x1_b3_2 x1_b3_3 v10 y5_b4_1 a1 x1_12)⟩) (by rw [c34];kernel_rfl) ?_
           refine goK hT 2 (K4 11111110100100110101111 1) ⟨187,[(0,.d (eL74 true a0)),(1,.d (eL52 t1 a1)),(2,.i a2),(7,.d (eL98 true v4)),(8,.own 0 13 0 x1_r0.length),(9,.own 1 1 0 x1_r1.length),(10,.ptr 2 0 0 0),(11,.ptr 3 0 0 0),(12,.i x1_12),(14,.i v10),(15,.ptr 4 0 0 0)],[eR52 x1_r0,eR3 x1_r1,.box 43 [.i x1_b2_0,.i x1_b2_1,.i x1_b2_2,.i x1_b2_3],.box 43 [.i (IntKind.wrap .i64 (x1_b3_0+1)),.i x1_b3_1,.i x1_b3_2,.i x1_b3_3],.box 48 (splicelaw24_AuditRight.q1 v10 y5_b4_1 a1 x1_12)]⟩ ?_
           exact Jj6 (IntKind.wrap .i64 (x1_b3_0+1)) x1_b3_1 x1_b3_2 x1_b3_3 H
          ·replace H:=sF c34 H
           by_cases c35:v10=1
           ·replace H:=sT c35 H
            refine ak_idx hT [0,1,2,7,8,9,10,11,12,14,15,66,67] (i:=v10) (n:=4) (by omega) (by omega) (k':=(K4 111111101001001101011110 2)) (st':=⟨187,[(0,.d (eL74 true a0)),(1,.d (eL52 t1 a1)),(2,.i a2),(7,.d (eL98 true v4)),(8,.own 0 13 0 x1_r0.length),(9,.own 1 1 0 x1_r1.length),(10,.ptr 2 0 0 0),(11,.ptr 3 0 0 0),(12,.i x1_12),(14,.i v10),(15,.ptr 4 0 0 0),(66,.i v10),(67,.ptr 3 0 0 1)],(splicelaw24_AuditRight.q7 x1_r0 x1_r1 x1_b2_0 x1_b2_1 x1_b2_2 x1_b2_3 x1_b3_0 x1_b3_1 x1_b3_2 x1_b3_3 v10 y5_b4_1 a1 x1_12)⟩) (by rw [c35];kernel_rfl) ?_
            refine goK hT 2 (K4 111111101001001101011110 4) ⟨187,[(0,.d (eL74 true a0)),(1,.d (eL52 t1 a1)),(2,.i a2),(7,.d (eL98 true v4)),(8,.own 0 13 0 x1_r0.length),(9,.own 1 1 0 x1_r1.length),(10,.ptr 2 0 0 0),(11,.ptr 3 0 0 0),(12,.i x1_12),(14,.i v10),(15,.ptr 4 0 0 0),(66,.i v10),(69,.i (IntKind.wrap .i64 (x1_b3_1+1)))],(splicelaw24_AuditRight.q7 x1_r0 x1_r1 x1_b2_0 x1_b2_1 x1_b2_2 x1_b2_3 x1_b3_0 x1_b3_1 x1_b3_2 x1_b3_3 v10 y5_b4_1 a1 x1_12)⟩ ?_
            refine ak_idx hT [0,1,2,7,8,9,10,11,12,14,15,69,70] (i:=v10) (n:=4) (by omega) (by omega) (k':=(K4 111111101001001101011110 5)) (st':=⟨187,[(0,.d (eL74 true a0)),(1,.d (eL52 t1 a1)),(2,.i a2),(7,.d (eL98 true v4)),(8,.own 0 13 0 x1_r0.length),(9,.own 1 1 0 x1_r1.length),(10,.ptr 2 0 0 0),(11,.ptr 3 0 0 0),(12,.i x1_12),(14,.i v10),(15,.ptr 4 0 0 0),(69,.i (IntKind.wrap .i64 (x1_b3_1+1))),(70,.ptr 3 0 0 1)],(splicelaw24_AuditRight.q7 x1_r0 x1_r1 x1_b2_0 x1_b2_1 x1_b2_2 x1_b2_3 x1_b3_0 x1_b3_1 x1_b3_2 x1_b3_3 v10 y5_b4_1 a1 x1_12)⟩) (by rw [c35];kernel_rfl) ?_
            refine goK hT 2 (K4 11111110100100110101111 1) ⟨187,[(0,.d (eL74 true a0)),(1,.d (eL52 t1 a1)),(2,.i a2),(7,.d (eL98 true v4)),(8,.own 0 13 0 x1_r0.length),(9,.own 1 1 0 x1_r1.length),(10,.ptr 2 0 0 0),(11,.ptr 3 0 0 0),(12,.i x1_12),(14,.i v10),(15,.ptr 4 0 0 0)],[eR52 x1_r0,eR3 x1_r1,.box 43 [.i x1_b2_0,.i x1_b2_1,.i x1_b2_2,.i x1_b2_3],.box 43 [.i x1_b3_0,.i (IntKind.wrap .i64 (x1_b3_1+1)),.i x1_b3_2,.i x1_b3_3],.box 48 (splicelaw24_AuditRight.q1 v10 y5_b4_1 a1 x1_12)]⟩ ?_
            exact Jj6 x1_b3_0 (IntKind.wrap .i64 (x1_b3_1+1)) x1_b3_2 x1_b3_3 H
           ·replace H:=sF c35 H
            by_cases c36:v10=2
            ·replace H:=sT c36 H
             refine ak_idx hT [0,1,2,7,8,9,10,11,12,14,15,66,67] (i:=v10) (n:=4) (by omega) (by omega) (k':=(K4 111111101001001101011110 2)) (st':=⟨187,[(0,.d (eL74 true a0)),(1,.d (eL52 t1 a1)),(2,.i a2),(7,.d (eL98 true v4)),(8,.own 0 13 0 x1_r0.length),(9,.own 1 1 0 x1_r1.length),(10,.ptr 2 0 0 0),(11,.ptr 3 0 0 0),(12,.i x1_12),(14,.i v10),(15,.ptr 4 0 0 0),(66,.i v10),(67,.ptr 3 0 0 2)],(splicelaw24_AuditRight.q7 x1_r0 x1_r1 x1_b2_0 x1_b2_1 x1_b2_2 x1_b2_3 x1_b3_0 x1_b3_1 x1_b3_2 x1_b3_3 v10 y5_b4_1 a1 x1_12)⟩) (by rw [c36];kernel_rfl) ?_
             refine goK hT 2 (K4 111111101001001101011110 4) ⟨187,[(0,.d (eL74 true a0)),(1,.d (eL52 t1 a1)),(2,.i a2),(7,.d (eL98 true v4)),(8,.own 0 13 0 x1_r0.length),(9,.own 1 1 0 x1_r1.length),(10,.ptr 2 0 0 0),(11,.ptr 3 0 0 0),(12,.i x1_12),(14,.i v10),(15,.ptr 4 0 0 0),(66,.i v10),(69,.i (IntKind.wrap .i64 (x1_b3_2+1)))],(splicelaw24_AuditRight.q7 x1_r0 x1_r1 x1_b2_0 x1_b2_1 x1_b2_2 x1_b2_3 x1_b3_0 x1_b3_1 x1_b3_2 x1_b3_3 v10 y5_b4_1 a1 x1_12)⟩ ?_
             refine ak_idx hT [0,1,2,7,8,9,10,11,12,14,15,69,70] (i:=v10) (n:=4) (by omega) (by omega) (k':=(K4 111111101001001101011110 5)) (st':=⟨187,[(0,.d (eL74 true a0)),(1,.d (eL52 t1 a1)),(2,.i a2),(7,.d (eL98 true v4)),(8,.own 0 13 0 x1_r0.length),(9,.own 1 1 0 x1_r1.length),(10,.ptr 2 0 0 0),(11,.ptr 3 0 0 0),(12,.i x1_12),(14,.i v10),(15,.ptr 4 0 0 0),(69,.i (IntKind.wrap .i64 (x1_b3_2+1))),(70,.ptr 3 0 0 2)],(splicelaw24_AuditRight.q7 x1_r0 x1_r1 x1_b2_0 x1_b2_1 x1_b2_2 x1_b2_3 x1_b3_0 x1_b3_1 x1_b3_2 x1_b3_3 v10 y5_b4_1 a1 x1_12)⟩) (by rw [c36];kernel_rfl) ?_
             refine goK hT 2 (K4 11111110100100110101111 1) ⟨187,[(0,.d (eL74 true a0)),(1,.d (eL52 t1 a1)),(2,.i a2),(7,.d (eL98 true v4)),(8,.own 0 13 0 x1_r0.length),(9,.own 1 1 0 x1_r1.length),(10,.ptr 2 0 0 0),(11,.ptr 3 0 0 0),(12,.i x1_12),(14,.i v10),(15,.ptr 4 0 0 0)],[eR52 x1_r0,eR3 x1_r1,.box 43 [.i x1_b2_0,.i x1_b2_1,.i x1_b2_2,.i x1_b2_3],.box 43 [.i x1_b3_0,.i x1_b3_1,.i (IntKind.wrap .i64 (x1_b3_2+1)),.i x1_b3_3],.box 48 (splicelaw24_AuditRight.q1 v10 y5_b4_1 a1 x1_12)]⟩ ?_
             exact Jj6 x1_b3_0 x1_b3_1 (IntKind.wrap .i64 (x1_b3_2+1)) x1_b3_3 H
            ·replace H:=sF c36 H
             by_cases c37:v10=3
             ·replace H:=sT c37 H
              refine ak_idx hT [0,1,2,7,8,9,10,11,12,14,15,66,67] (i:=v10) (n:=4) (by omega) (by omega) (k':=(K4 111111101001001101011110 2)) (st':=⟨187,[(0,.d (eL74 true a0)),(1,.d (eL52 t1 a1)),(2,.i a2),(7,.d (eL98 true v4)),(8,.own 0 13 0 x1_r0.length),(9,.own 1 1 0 x1_r1.length),(10,.ptr 2 0 0 0),(11,.ptr 3 0 0 0),(12,.i x1_12),(14,.i v10),(15,.ptr 4 0 0 0),(66,.i v10),(67,.ptr 3 0 0 3)],(splicelaw24_AuditRight.q7 x1_r0 x1_r1 x1_b2_0 x1_b2_1 x1_b2_2 x1_b2_3 x1_b3_0 x1_b3_1 x1_b3_2 x1_b3_3 v10 y5_b4_1 a1 x1_12)⟩) (by rw [c37];kernel_rfl) ?_
              refine goK hT 2 (K4 111111101001001101011110 4) ⟨187,[(0,.d (eL74 true a0)),(1,.d (eL52 t1 a1)),(2,.i a2),(7,.d (eL98 true v4)),(8,.own 0 13 0 x1_r0.length),(9,.own 1 1 0 x1_r1.length),(10,.ptr 2 0 0 0),(11,.ptr 3 0 0 0),(12,.i x1_12),(14,.i v10),(15,.ptr 4 0 0 0),(66,.i v10),(69,.i (IntKind.wrap .i64 (x1_b3_3+1)))],(splicelaw24_AuditRight.q7 x1_r0 x1_r1 x1_b2_0 x1_b2_1 x1_b2_2 x1_b2_3 x1_b3_0 x1_b3_1 x1_b3_2 x1_b3_3 v10 y5_b4_1 a1 x1_12)⟩ ?_
              refine ak_idx hT [0,1,2,7,8,9,10,11,12,14,15,69,70] (i:=v10) (n:=4) (by omega) (by omega) (k':=(K4 111111101001001101011110 5)) (st':=⟨187,[(0,.d (eL74 true a0)),(1,.d (eL52 t1 a1)),(2,.i a2),(7,.d (eL98 true v4)),(8,.own 0 13 0 x1_r0.length),(9,.own 1 1 0 x1_r1.length),(10,.ptr 2 0 0 0),(11,.ptr 3 0 0 0),(12,.i x1_12),(14,.i v10),(15,.ptr 4 0 0 0),(69,.i (IntKind.wrap .i64 (x1_b3_3+1))),(70,.ptr 3 0 0 3)],(splicelaw24_AuditRight.q7 x1_r0 x1_r1 x1_b2_0 x1_b2_1 x1_b2_2 x1_b2_3 x1_b3_0 x1_b3_1 x1_b3_2 x1_b3_3 v10 y5_b4_1 a1 x1_12)⟩) (by rw [c37];kernel_rfl) ?_
              refine goK hT 2 (K4 11111110100100110101111 1) ⟨187,[(0,.d (eL74 true a0)),(1,.d (eL52 t1 a1)),(2,.i a2),(7,.d (eL98 true v4)),(8,.own 0 13 0 x1_r0.length),(9,.own 1 1 0 x1_r1.length),(10,.ptr 2 0 0 0),(11,.ptr 3 0 0 0),(12,.i x1_12),(14,.i v10),(15,.ptr 4 0 0 0)],[eR52 x1_r0,eR3 x1_r1,.box 43 [.i x1_b2_0,.i x1_b2_1,.i x1_b2_2,.i x1_b2_3],.box 43 [.i x1_b3_0,.i x1_b3_1,.i x1_b3_2,.i (IntKind.wrap .i64 (x1_b3_3+1))],.box 48 (splicelaw24_AuditRight.q1 v10 y5_b4_1 a1 x1_12)]⟩ ?_
              exact Jj6 x1_b3_0 x1_b3_1 x1_b3_2 (IntKind.wrap .i64 (x1_b3_3+1)) H
             ·replace H:=sF c37 H
              cases (show (none:Option _)=some _ from H)
         ·replace H:=sF c33 H
          rw [boF c33]
          refine goCut hT 8 (K4 1111111010 0) [0,1,2,3] ⟨187,[(0,.d (eL74 true a0)),(1,.d (eL52 t1 a1)),(2,.i a2),(7,.d (eL98 true v4)),(8,.own 0 13 0 x1_r0.length),(9,.own 1 1 0 x1_r1.length),(10,.ptr 2 0 0 0),(11,.ptr 3 0 0 0),(12,.i (IntKind.wrap .i64 (x1_12+1)))],[eR52 x1_r0,eR3 x1_r1,.box 43 [.i x1_b2_0,.i x1_b2_1,.i x1_b2_2,.i x1_b2_3],.box 43 [.i x1_b3_0,.i x1_b3_1,.i x1_b3_2,.i x1_b3_3]]⟩ h0 ?_
          exact ih (IntKind.wrap .i64 (x1_12+1)) x1_r0 x1_r1 x1_b2_0 x1_b2_1 x1_b2_2 x1_b2_3 x1_b3_0 x1_b3_1 x1_b3_2 x1_b3_3 H
        rw [eqT c26]
        refine goK hT 18 (K4 1111111010010011010110 1) ⟨187,[(0,.d (eL74 true a0)),(1,.d (eL52 t1 a1)),(2,.i a2),(7,.d (eL98 true v4)),(8,.own 0 13 0 x1_r0.length),(9,.own 1 1 0 x1_r1.length),(10,.ptr 2 0 0 0),(11,.ptr 3 0 0 0),(12,.i x1_12),(14,.i v10),(15,.ptr 5 0 0 0),(57,.i v10)],[eR52 x1_r0,eR3 x1_r1,.box 43 [.i x1_b2_0,.i x1_b2_1,.i x1_b2_2,.i x1_b2_3],.box 43 [.i x1_b3_0,.i x1_b3_1,.i x1_b3_2,.i x1_b3_3],.box 52 (eC52 (a1.getD x1_12.toNat api_Event.z)),.box 48 (splicelaw24_AuditRight.q6 v10 a1 x1_12)]⟩ ?_
        by_cases c27:v10=0
        ·replace H:=sT c27 H
         refine ak_idx hT [0,1,2,7,8,9,10,11,12,14,15,58] (i:=v10) (n:=4) (by omega) (by omega) (k':=(K4 1111111010010011010110 2)) (st':=⟨187,[(0,.d (eL74 true a0)),(1,.d (eL52 t1 a1)),(2,.i a2),(7,.d (eL98 true v4)),(8,.own 0 13 0 x1_r0.length),(9,.own 1 1 0 x1_r1.length),(10,.ptr 2 0 0 0),(11,.ptr 3 0 0 0),(12,.i x1_12),(14,.i v10),(15,.ptr 5 0 0 0),(58,.ptr 3 0 0 0)],[eR52 x1_r0,eR3 x1_r1,.box 43 [.i x1_b2_0,.i x1_b2_1,.i x1_b2_2,.i x1_b2_3],.box 43 [.i x1_b3_0,.i x1_b3_1,.i x1_b3_2,.i x1_b3_3],.box 52 (eC52 (a1.getD x1_12.toNat api_Event.z)),.box 48 (splicelaw24_AuditRight.q6 v10 a1 x1_12)]⟩) (by rw [c27];kernel_rfl) ?_
         refine goCut hT 5 (K4 111111101001001101011 1) [0,1,2,3,5] ⟨187,[(0,.d (eL74 true a0)),(1,.d (eL52 t1 a1)),(2,.i a2),(7,.d (eL98 true v4)),(8,.own 0 13 0 x1_r0.length),(9,.own 1 1 0 x1_r1.length),(10,.ptr 2 0 0 0),(11,.ptr 3 0 0 0),(12,.i x1_12),(14,.i v10),(15,.ptr 4 0 0 0)],[eR52 x1_r0,eR3 x1_r1,.box 43 [.i x1_b2_0,.i x1_b2_1,.i x1_b2_2,.i x1_b2_3],.box 43 [.i x1_b3_0,.i x1_b3_1,.i x1_b3_2,.i x1_b3_3],.box 48 [.i (IntKind.wrap .i64 (v10+1)),.i (IntKind.wrap .i64 (x1_b3_0+1)),.i (((a1.getD x1_12.toNat api_Event.z).M).Kind),.d (eL76 true (((a1.getD x1_12.toNat api_Event.z).M).Pairs)),.i ((((a1.getD x1_12.toNat api_Event.z).M).Over).Lo),.i ((((a1.getD x1_12.toNat api_Event.z).M).Over).Hi),.i (((a1.getD x1_12.toNat api_Event.z).M).Old)]]⟩ h0 ?_
         exact Jj5 (IntKind.wrap .i64 (x1_b3_0+1)) H
        ·replace H:=sF c27 H
         by_cases c28:v10=1
         ·replace H:=sT c28 H
          refine ak_idx hT [0,1,2,7,8,9,10,11,12,14,15,58] (i:=v10) (n:=4) (by omega) (by omega) (k':=(K4 1111111010010011010110 2)) (st':=⟨187,[(0,.d (eL74 true a0)),(1,.d (eL52 t1 a1)),(2,.i a2),(7,.d (eL98 true v4)),(8,.own 0 13 0 x1_r0.length),(9,.own 1 1 0 x1_r1.length),(10,.ptr 2 0 0 0),(11,.ptr 3 0 0 0),(12,.i x1_12),(14,.i v10),(15,.ptr 5 0 0 0),(58,.ptr 3 0 0 1)],[eR52 x1_r0,eR3 x1_r1,.box 43 [.i x1_b2_0,.i x1_b2_1,.i x1_b2_2,.i x1_b2_3],.box 43 [.i x1_b3_0,.i x1_b3_1,.i x1_b3_2,.i x1_b3_3],.box 52 (eC52 (a1.getD x1_12.toNat api_Event.z)),.box 48 (splicelaw24_AuditRight.q6 v10 a1 x1_12)]⟩) (by rw [c28];kernel_rfl) ?_
          refine goCut hT 5 (K4 111111101001001101011 1) [0,1,2,3,5] ⟨187,[(0,.d (eL74 true a0)),(1,.d (eL52 t1 a1)),(2,.i a2),(7,.d (eL98 true v4)),(8,.own 0 13 0 x1_r0.length),(9,.own 1 1 0 x1_r1.length),(10,.ptr 2 0 0 0),(11,.ptr 3 0 0 0),(12,.i x1_12),(14,.i v10),(15,.ptr 4 0 0 0)],[eR52 x1_r0,eR3 x1_r1,.box 43 [.i x1_b2_0,.i x1_b2_1,.i x1_b2_2,.i x1_b2_3],.box 43 [.i x1_b3_0,.i x1_b3_1,.i x1_b3_2,.i x1_b3_3],.box 48 [.i (IntKind.wrap .i64 (v10+1)),.i (IntKind.wrap .i64 (x1_b3_1+1)),.i (((a1.getD x1_12.toNat api_Event.z).M).Kind),.d (eL76 true (((a1.getD x1_12.toNat api_Event.z).M).Pairs)),.i ((((a1.getD x1_12.toNat api_Event.z).M).Over).Lo),.i ((((a1.getD x1_12.toNat api_Event.z).M).Over).Hi),.i (((a1.getD x1_12.toNat api_Event.z).M).Old)]]⟩ h0 ?_
          exact Jj5 (IntKind.wrap .i64 (x1_b3_1+1)) H
         ·replace H:=sF c28 H
          by_cases c29:v10=2
          ·replace H:=sT c29 H
           refine ak_idx hT [0,1,2,7,8,9,10,11,12,14,15,58] (i:=v10) (n:=4) (by omega) (by omega) (k':=(K4 1111111010010011010110 2)) (st':=⟨187,[(0,.d (eL74 true a0)),(1,.d (eL52 t1 a1)),(2,.i a2),(7,.d (eL98 true v4)),(8,.own 0 13 0 x1_r0.length),(9,.own 1 1 0 x1_r1.length),(10,.ptr 2 0 0 0),(11,.ptr 3 0 0 0),(12,.i x1_12),(14,.i v10),(15,.ptr 5 0 0 0),(58,.ptr 3 0 0 2)],[eR52 x1_r0,eR3 x1_r1,.box 43 [.i x1_b2_0,.i x1_b2_1,.i x1_b2_2,.i x1_b2_3],.box 43 [.i x1_b3_0,.i x1_b3_1,.i x1_b3_2,.i x1_b3_3],.box 52 (eC52 (a1.getD x1_12.toNat api_Event.z)),.box 48 (splicelaw24_AuditRight.q6 v10 a1 x1_12)]⟩) (by rw [c29];kernel_rfl) ?_
           refine goCut hT 5 (K4 111111101001001101011 1) [0,1,2,3,5] ⟨187,[(0,.d (eL74 true a0)),(1,.d (eL52 t1 a1)),(2,.i a2),(7,.d (eL98 true v4)),(8,.own 0 13 0 x1_r0.length),(9,.own 1 1 0 x1_r1.length),(10,.ptr 2 0 0 0),(11,.ptr 3 0 0 0),(12,.i x1_12),(14,.i v10),(15,.ptr 4 0 0 0)],[eR52 x1_r0,eR3 x1_r1,.box 43 [.i x1_b2_0,.i x1_b2_1,.i x1_b2_2,.i x1_b2_3],.box 43 [.i x1_b3_0,.i x1_b3_1,.i x1_b3_2,.i x1_b3_3],.box 48 [.i (IntKind.wrap .i64 (v10+1)),.i (IntKind.wrap .i64 (x1_b3_2+1)),.i (((a1.getD x1_12.toNat api_Event.z).M).Kind),.d (eL76 true (((a1.getD x1_12.toNat api_Event.z).M).Pairs)),.i ((((a1.getD x1_12.toNat api_Event.z).M).Over).Lo),.i ((((a1.getD x1_12.toNat api_Event.z).M).Over).Hi),.i (((a1.getD x1_12.toNat api_Event.z).M).Old)]]⟩ h0 ?_
           exact Jj5 (IntKind.wrap .i64 (x1_b3_2+1)) H
          ·replace H:=sF c29 H
           by_cases c30:v10=3
           ·replace H:=sT c30 H
            refine ak_idx hT [0,1,2,7,8,9,10,11,12,14,15,58] (i:=v10) (n:=4) (by omega) (by omega) (k':=(K4 1111111010010011010110 2)) (st':=⟨187,[(0,.d (eL74 true a0)),(1,.d (eL52 t1 a1)),(2,.i a2),(7,.d (eL98 true v4)),(8,.own 0 13 0 x1_r0.length),(9,.own 1 1 0 x1_r1.length),(10,.ptr 2 0 0 0),(11,.ptr 3 0 0 0),(12,.i x1_12),(14,.i v10),(15,.ptr 5 0 0 0),(58,.ptr 3 0 0 3)],[eR52 x1_r0,eR3 x1_r1,.box 43 [.i x1_b2_0,.i x1_b2_1,.i x1_b2_2,.i x1_b2_3],.box 43 [.i x1_b3_0,.i x1_b3_1,.i x1_b3_2,.i x1_b3_3],.box 52 (eC52 (a1.getD x1_12.toNat api_Event.z)),.box 48 (splicelaw24_AuditRight.q6 v10 a1 x1_12)]⟩) (by rw [c30];kernel_rfl) ?_
            refine goCut hT 5 (K4 111111101001001101011 1) [0,1,2,3,5] ⟨187,[(0,.d (eL74 true a0)),(1,.d (eL52 t1 a1)),(2,.i a2),(7,.d (eL98 true v4)),(8,.own 0 13 0 x1_r0.length),(9,.own 1 1 0 x1_r1.length),(10,.ptr 2 0 0 0),(11,.ptr 3 0 0 0),(12,.i x1_12),(14,.i v10),(15,.ptr 4 0 0 0)],[eR52 x1_r0,eR3 x1_r1,.box 43 [.i x1_b2_0,.i x1_b2_1,.i x1_b2_2,.i x1_b2_3],.box 43 [.i x1_b3_0,.i x1_b3_1,.i x1_b3_2,.i x1_b3_3],.box 48 [.i (IntKind.wrap .i64 (v10+1)),.i (IntKind.wrap .i64 (x1_b3_3+1)),.i (((a1.getD x1_12.toNat api_Event.z).M).Kind),.d (eL76 true (((a1.getD x1_12.toNat api_Event.z).M).Pairs)),.i ((((a1.getD x1_12.toNat api_Event.z).M).Over).Lo),.i ((((a1.getD x1_12.toNat api_Event.z).M).Over).Hi),.i (((a1.getD x1_12.toNat api_Event.z).M).Old)]]⟩ h0 ?_
            exact Jj5 (IntKind.wrap .i64 (x1_b3_3+1)) H
           ·replace H:=sF c30 H
            cases (show (none:Option _)=some _ from H)
       ·replace H:=sF c26 H
        have Jj7:∀ (y7_b2_0:Int) (y7_b2_1:Int) (y7_b2_2:Int) (y7_b2_3:Int),stk (splicelaw24_AuditRight.j7 a1 v4 x1_12 x1_r0 x1_r1 x1_b3_0 x1_b3_1 x1_b3_2 x1_b3_3 v10 y7_b2_0 y7_b2_1 y7_b2_2 y7_b2_3) (iter (splicelaw24_AuditRight.step a0 a1 a2 v4) n)=some r→AK X 4 ((K4 11111110100100111 1)) (Back X [] (.b r)) ⟨187,[(0,.d (eL74 true a0)),(1,.d (eL52 t1 a1)),(2,.i a2),(7,.d (eL98 true v4)),(8,.own 0 13 0 x1_r0.length),(9,.own 1 1 0 x1_r1.length),(10,.ptr 2 0 0 0),(11,.ptr 3 0 0 0),(12,.i x1_12),(13,.ptr 4 0 0 0),(14,.i v10)],[eR52 x1_r0,eR3 x1_r1,.box 43 [.i y7_b2_0,.i y7_b2_1,.i y7_b2_2,.i y7_b2_3],.box 43 [.i x1_b3_0,.i x1_b3_1,.i x1_b3_2,.i x1_b3_3],.box 52 (eC52 (a1.getD x1_12.toNat api_Event.z))]⟩:=by
         intro y7_b2_0 y7_b2_1 y7_b2_2 y7_b2_3 H
         refine goK hT 8 (K4 1111111010010011110 6) ⟨187,[(0,.d (eL74 true a0)),(1,.d (eL52 t1 a1)),(2,.i a2),(7,.d (eL98 true v4)),(8,.own 0 13 0 x1_r0.length),(9,.own 1 1 0 x1_r1.length),(10,.ptr 2 0 0 0),(11,.ptr 3 0 0 0),(12,.i x1_12),(14,.i v10),(16,.i (Int.tmod (IntKind.wrap .i64 ((Int.tmod ((a1.getD x1_12.toNat api_Event.z).Key) 4096)+4096)) 4096))],[eR52 x1_r0,eR3 x1_r1,.box 43 [.i y7_b2_0,.i y7_b2_1,.i y7_b2_2,.i y7_b2_3],.box 43 [.i x1_b3_0,.i x1_b3_1,.i x1_b3_2,.i x1_b3_3],.box 52 (eC52 (a1.getD x1_12.toNat api_Event.z))]⟩ ?_
         obtain ⟨v13,h43,H⟩:=sdC H
         rw [← h43]
         refine goK hT 2 (K4 1111111010010011111 0) ⟨187,[(0,.d (eL74 true a0)),(1,.d (eL52 t1 a1)),(2,.i a2),(7,.d (eL98 true v4)),(8,.own 0 13 0 x1_r0.length),(9,.own 1 1 0 x1_r1.length),(10,.ptr 2 0 0 0),(11,.ptr 3 0 0 0),(12,.i x1_12),(14,.i v10),(16,.i v13)],[eR52 x1_r0,eR3 x1_r1,.box 43 [.i y7_b2_0,.i y7_b2_1,.i y7_b2_2,.i y7_b2_3],.box 43 [.i x1_b3_0,.i x1_b3_1,.i x1_b3_2,.i x1_b3_3],.box 52 (eC52 (a1.getD x1_12.toNat api_Event.z))]⟩ ?_
         obtain ⟨v14,h44,H⟩:=sbC H
         have Jj8:∀ (y8_b4_0:Int) (y8_b4_1:Bool),stk (splicelaw24_AuditRight.j8 x1_12 x1_r0 x1_r1 x1_b3_0 x1_b3_1 x1_b3_2 x1_b3_3 v10 y7_b2_0 y7_b2_1 y7_b2_2 y7_b2_3 v13 y8_b4_0 y8_b4_1) (iter (splicelaw24_AuditRight.step a0 a1 a2 v4) n)=some r→AK X 4 ((K4 1111111010010011111 1)) (Back X [] (.b r)) ⟨187,[(0,.d (eL74 true a0)),(1,.d (eL52 t1 a1)),(2,.i a2),(7,.d (eL98 true v4)),(8,.own 0 13 0 x1_r0.length),(9,.own 1 1 0 x1_r1.length),(10,.ptr 2 0 0 0),(11,.ptr 3 0 0 0),(12,.i x1_12),(14,.i v10),(16,.i v13),(17,.ptr 4 0 0 0)],[eR52 x1_r0,eR3 x1_r1,.box 43 [.i y7_b2_0,.i y7_b2_1,.i y7_b2_2,.i y7_b2_3],.box 43 [.i x1_b3_0,.i x1_b3_1,.i x1_b3_2,.i x1_b3_3],.box 59 [.i y8_b4_0,.b y8_b4_1]]⟩:=by
          intro y8_b4_0 y8_b4_1 H
          refine goK hT 6 (K4 111111101001001111110 4) ⟨187,[(0,.d (eL74 true a0)),(1,.d (eL52 t1 a1)),(2,.i a2),(7,.d (eL98 true v4)),(8,.own 0 13 0 x1_r0.length),(10,.ptr 2 0 0 0),(11,.ptr 3 0 0 0),(12,.i x1_12),(14,.i v10),(16,.i v13),(17,.ptr 4 0 0 0),(103,.own 1 1 0 x1_r1.length),(106,.own 5 1 0 1)],[eR52 x1_r0,eR3 x1_r1,.box 43 [.i y7_b2_0,.i y7_b2_1,.i y7_b2_2,.i y7_b2_3],.box 43 [.i x1_b3_0,.i x1_b3_1,.i x1_b3_2,.i x1_b3_3],.box 59 [.i y8_b4_0,.b y8_b4_1],.flat false 1 3 1 (fun j=>[[.i (x1_r0.length:Int)]].getD j [])]⟩ ?_
          obtain ⟨h53,H⟩:=sC H
          have Jj9:∀ (y9_r0:List api_Event),stk (splicelaw24_AuditRight.j9 x1_12 x1_r0 x1_r1 x1_b3_0 x1_b3_1 x1_b3_2 x1_b3_3 y7_b2_0 y7_b2_1 y7_b2_2 y7_b2_3 y9_r0) (iter (splicelaw24_AuditRight.step a0 a1 a2 v4) n)=some r→AK X 4 ((K4 111111101001 1)) (Back X [] (.b r)) ⟨187,[(0,.d (eL74 true a0)),(1,.d (eL52 t1 a1)),(2,.i a2),(7,.d (eL98 true v4)),(8,.own 0 13 0 y9_r0.length),(9,.own 1 1 0 ((x1_r1 ++ [(x1_r0.length:Int)]).length)),(10,.ptr 2 0 0 0),(11,.ptr 3 0 0 0),(12,.i x1_12)],[eR52 y9_r0,eR3 (x1_r1 ++ [(x1_r0.length:Int)]),.box 43 [.i y7_b2_0,.i y7_b2_1,.i y7_b2_2,.i y7_b2_3],.box 43 [.i x1_b3_0,.i x1_b3_1,.i x1_b3_2,.i x1_b3_3]]⟩:=by
           intro y9_r0 H
           refine goCut hT 6 (K4 1111111010 0) [0,1,2,3] ⟨187,[(0,.d (eL74 true a0)),(1,.d (eL52 t1 a1)),(2,.i a2),(7,.d (eL98 true v4)),(8,.own 0 13 0 y9_r0.length),(9,.own 1 1 0 (x1_r1 ++ [(x1_r0.length:Int)]).length),(10,.ptr 2 0 0 0),(11,.ptr 3 0 0 0),(12,.i (IntKind.wrap .i64 (x1_12+1)))],[eR52 y9_r0,eR3 (x1_r1 ++ [(x1_r0.length:Int)]),.box 43 [.i y7_b2_0,.i y7_b2_1,.i y7_b2_2,.i y7_b2_3],.box 43 [.i x1_b3_0,.i x1_b3_1,.i x1_b3_2,.i x1_b3_3]]⟩ h0 ?_
           exact ih (IntKind.wrap .i64 (x1_12+1)) y9_r0 (x1_r1 ++ [(x1_r0.length:Int)]) y7_b2_0 y7_b2_1 y7_b2_2 y7_b2_3 x1_b3_0 x1_b3_1 x1_b3_2 x1_b3_3 H
          refine ak_append1 (id:=1) (kk:=1) (by':=8) (t:=42) (e:=3) (z:=[.int .i64 0]) (dst:=some 107) (id2:=5) (e2:=3) (fz:=false) (k':=(K4 111111101001001111110 5)) hT (eI .i64) 0 x1_r1 (x1_r0.length:Int) [0,1,2,7,8,10,11,12,14,16,17,107] (by kernel_rfl) (by kernel_rfl) (by kernel_rfl) (by kernel_rfl) (by kernel_rfl) (by kernel_rfl) (by kernel_rfl) h53 (by omega) (st':=⟨187,[(0,.d (eL74 true a0)),(1,.d (eL52 t1 a1)),(2,.i a2),(7,.d (eL98 true v4)),(8,.own 0 13 0 x1_r0.length),(10,.ptr 2 0 0 0),(11,.ptr 3 0 0 0),(12,.i x1_12),(14,.i v10),(16,.i v13),(17,.ptr 4 0 0 0),(107,.own 6 1 0 ((x1_r1 ++ [(x1_r0.length:Int)]).length))],[eR52 x1_r0,.gone,.box 43 [.i y7_b2_0,.i y7_b2_1,.i y7_b2_2,.i y7_b2_3],.box 43 [.i x1_b3_0,.i x1_b3_1,.i x1_b3_2,.i x1_b3_3],.box 59 [.i y8_b4_0,.b y8_b4_1],.flat false 1 3 1 (fun j=>[[.i (x1_r0.length:Int)]].getD j []),eR3 (x1_r1 ++ [(x1_r0.length:Int)])]⟩) (by kernel_rfl) ?_
          refine goK hT 2 (K4 11111110100100111111 1) ⟨187,[(0,.d (eL74 true a0)),(1,.d (eL52 t1 a1)),(2,.i a2),(7,.d (eL98 true v4)),(8,.own 0 13 0 x1_r0.length),(9,.own 6 1 0 ((x1_r1 ++ [(x1_r0.length:Int)]).length)),(10,.ptr 2 0 0 0),(11,.ptr 3 0 0 0),(12,.i x1_12),(14,.i v10),(16,.i v13),(17,.ptr 4 0 0 0)],[eR52 x1_r0,.gone,.box 43 [.i y7_b2_0,.i y7_b2_1,.i y7_b2_2,.i y7_b2_3],.box 43 [.i x1_b3_0,.i x1_b3_1,.i x1_b3_2,.i x1_b3_3],.box 59 [.i y8_b4_0,.b y8_b4_1],.flat false 1 3 1 (fun j=>[[.i (x1_r0.length:Int)]].getD j []),eR3 (x1_r1 ++ [(x1_r0.length:Int)])]⟩ ?_
          by_cases c54:v10=0
          ·replace H:=sT c54 H
           refine ak_drawAtE (nt:=187) (hP▸mixed) 10 [9] [0,1,2,7,8,9,10,11,12,14,16,17] [(0,.d (eL74 true a0)),(1,.d (eL52 t1 a1)),(2,.i a2),(7,.d (eL98 true v4)),(8,.own 0 13 0 x1_r0.length),(9,.own 6 1 0 ((x1_r1 ++ [(x1_r0.length:Int)]).length)),(10,.ptr 2 0 0 0),(11,.ptr 3 0 0 0),(12,.i x1_12),(14,.i v10),(16,.i v13),(17,.ptr 4 0 0 0)] [some (.own 0 13 0 x1_r0.length),some (.i v10),some (.i (IntKind.wrap .i64 (v10+1))),some (.i v13),some (.d (.agg [.i y8_b4_0,.b y8_b4_1])),some (.i v10),some (.ptr 2 0 0 0),some (.i y7_b2_0),some (.d (.agg [.i 2,.i (IntKind.wrap .i64 (v10+1)),.i 0,.i 0,.i 0,.ns,.i 0,.i 0,.i 0,.i v13,.i y8_b4_0,.b y8_b4_1,.i y7_b2_0])),some (.own 7 13 0 1)] [[eR52 x1_r0,.gone,.box 43 [.i y7_b2_0,.i y7_b2_1,.i y7_b2_2,.i y7_b2_3],.box 43 [.i x1_b3_0,.i x1_b3_1,.i x1_b3_2,.i x1_b3_3],.box 59 [.i y8_b4_0,.b y8_b4_1],.flat false 1 3 1 (fun j=>[[.i (x1_r0.length:Int)]].getD j []),eR3 (x1_r1 ++ [(x1_r0.length:Int)])],[eR52 x1_r0,.gone,.box 43 [.i y7_b2_0,.i y7_b2_1,.i y7_b2_2,.i y7_b2_3],.box 43 [.i x1_b3_0,.i x1_b3_1,.i x1_b3_2,.i x1_b3_3],.box 59 [.i y8_b4_0,.b y8_b4_1],.flat false 1 3 1 (fun j=>[[.i (x1_r0.length:Int)]].getD j []),eR3 (x1_r1 ++ [(x1_r0.length:Int)]),.flat false 13 52 1 (fun j=>[[.i 2,.i (IntKind.wrap .i64 (v10+1)),.i 0,.i 0,.i 0,.ns,.i 0,.i 0,.i 0,.i v13,.i y8_b4_0,.b y8_b4_1,.i y7_b2_0]].getD j [])]] (by kernel_rfl) (by kernel_rfl) (by kernel_rfl) (by kernel_rfl) ⟨(opXE (opGE (opGE (opES (opGE (opGE (opGE (opGE (opGE (opGE opE0 hT) hT) hT) hT) hT) hT) (fun R rest h=>ak_idx0 hT (i:=v10) (n:=4) (by omega) (by omega) (by rw [c54];kernel_rfl) h)) hT) hT)),(op_goFK hT),(opXE (opGE (opGE (opES (opGE (opGE (opGE (opGE (opGE (opGE opE0 hT) hT) hT) hT) hT) hT) (fun R rest h=>ak_idx0 hT (i:=v10) (n:=4) (by omega) (by omega) (by rw [c54];kernel_rfl) h)) hT) hT))⟩ ?_
           refine goK hT 0 (K4 111111101001001111111 10) ⟨187,[(0,.d (eL74 true a0)),(1,.d (eL52 t1 a1)),(2,.i a2),(7,.d (eL98 true v4)),(9,.own 6 1 0 ((x1_r1 ++ [(x1_r0.length:Int)]).length)),(10,.ptr 2 0 0 0),(11,.ptr 3 0 0 0),(12,.i x1_12),(108,.own 0 13 0 x1_r0.length),(117,.own 7 13 0 1)],[eR52 x1_r0,.gone,.box 43 [.i y7_b2_0,.i y7_b2_1,.i y7_b2_2,.i y7_b2_3],.box 43 [.i x1_b3_0,.i x1_b3_1,.i x1_b3_2,.i x1_b3_3],.box 59 [.i y8_b4_0,.b y8_b4_1],.flat false 1 3 1 (fun j=>[[.i (x1_r0.length:Int)]].getD j []),eR3 (x1_r1 ++ [(x1_r0.length:Int)]),.flat false 13 52 1 (fun j=>[[.i 2,.i (IntKind.wrap .i64 (v10+1)),.i 0,.i 0,.i 0,.ns,.i 0,.i 0,.i 0,.i v13,.i y8_b4_0,.b y8_b4_1,.i y7_b2_0]].getD j [])]⟩ ?_
           obtain ⟨h55,H⟩:=sC H
           refine ak_rowNs 7 (fz:=false) (kk:=13) (ty:=52) [.i 2,.i (IntKind.wrap .i64 (v10+1)),.i 0,.i 0,.i 0,eL76 true ([]:List api_Pair),.i 0,.i 0,.i 0,.i v13,.i y8_b4_0,.b y8_b4_1,.i y7_b2_0] (by kernel_rfl) (.same _ (.same _ (.same _ (.same _ (.same _ (.ns _ _ (.same _ (.same _ (.same _ (.same _ (.same _ (.same _ (.same _ .nil))))))))))))) ?_
           refine ak_append1 (id:=0) (kk:=13) (by':=120) (t:=23) (e:=52) (z:=[.int .i64 0,.int .i64 0,.int .i64 0,.int .i64 0,.int .i64 0,.slice none 0 0,.int .i64 0,.int .i64 0,.int .i64 0,.int .i64 0,.int .i64 0,.bool false,.int .i64 0]) (dst:=some 118) (id2:=7) (e2:=52) (fz:=false) (k':=(K4 111111101001001111111 11)) hT api_Event.e api_Event.z x1_r0 (⟨2,IntKind.wrap .i64 (v10+1),(splicelaw24_AuditRight.q4),v13,(⟨y8_b4_0,y8_b4_1⟩:api_Cell),y7_b2_0⟩:api_Event) [0,1,2,7,9,10,11,12,118] (by kernel_rfl) (by kernel_rfl) (by kernel_rfl) (by kernel_rfl) (by kernel_rfl) (by kernel_rfl) (by kernel_rfl) h55 (by omega) (st':=⟨187,[(0,.d (eL74 true a0)),(1,.d (eL52 t1 a1)),(2,.i a2),(7,.d (eL98 true v4)),(9,.own 6 1 0 ((x1_r1 ++ [(x1_r0.length:Int)]).length)),(10,.ptr 2 0 0 0),(11,.ptr 3 0 0 0),(12,.i x1_12),(118,.own 8 13 0 ((x1_r0 ++ [(⟨2,IntKind.wrap .i64 (v10+1),(splicelaw24_AuditRight.q4),v13,(⟨y8_b4_0,y8_b4_1⟩:api_Cell),y7_b2_0⟩:api_Event)]).length))],[.gone,.gone,.box 43 [.i y7_b2_0,.i y7_b2_1,.i y7_b2_2,.i y7_b2_3],.box 43 [.i x1_b3_0,.i x1_b3_1,.i x1_b3_2,.i x1_b3_3],.box 59 [.i y8_b4_0,.b y8_b4_1],.flat false 1 3 1 (fun j=>[[.i (x1_r0.length:Int)]].getD j []),eR3 (x1_r1 ++ [(x1_r0.length:Int)]),.flat false 13 52 1 (fun j=>[[.i 2,.i (IntKind.wrap .i64 (v10+1)),.i 0,.i 0,.i 0,eL76 true ([]:List api_Pair),.i 0,.i 0,.i 0,.i v13,.i y8_b4_0,.b y8_b4_1,.i y7_b2_0]].getD j []),eR52 (x1_r0 ++ [(⟨2,IntKind.wrap .i64 (v10+1),(splicelaw24_AuditRight.q4),v13,(⟨y8_b4_0,y8_b4_1⟩:api_Cell),y7_b2_0⟩:api_Event)])]⟩) (by kernel_rfl) ?_
           refine goCut hT 3 (K4 111111101001 1) [8,6,2,3] ⟨187,[(0,.d (eL74 true a0)),(1,.d (eL52 t1 a1)),(2,.i a2),(7,.d (eL98 true v4)),(8,.own 0 13 0 (x1_r0 ++ [(⟨2,IntKind.wrap .i64 (v10+1),(splicelaw24_AuditRight.q4),v13,(⟨y8_b4_0,y8_b4_1⟩:api_Cell),y7_b2_0⟩:api_Event)]).length),(9,.own 1 1 0 ((x1_r1 ++ [(x1_r0.length:Int)]).length)),(10,.ptr 2 0 0 0),(11,.ptr 3 0 0 0),(12,.i x1_12)],[eR52 (x1_r0 ++ [(⟨2,IntKind.wrap .i64 (v10+1),(splicelaw24_AuditRight.q4),v13,(⟨y8_b4_0,y8_b4_1⟩:api_Cell),y7_b2_0⟩:api_Event)]),eR3 (x1_r1 ++ [(x1_r0.length:Int)]),.box 43 [.i y7_b2_0,.i y7_b2_1,.i y7_b2_2,.i y7_b2_3],.box 43 [.i x1_b3_0,.i x1_b3_1,.i x1_b3_2,.i x1_b3_3]]⟩ h0 ?_
           exact Jj9 (x1_r0 ++ [(⟨2,IntKind.wrap .i64 (v10+1),(splicelaw24_AuditRight.q4),v13,(⟨y8_b4_0,y8_b4_1⟩:api_Cell),y7_b2_0⟩:api_Event)]) H
          ·replace H:=sF c54 H
           by_cases c56:v10=1
           ·replace H:=sT c56 H
            refine ak_drawAtE (nt:=187) (hP▸mixed) 10 [9] [0,1,2,7,8,9,10,11,12,14,16,17] [(0,.d (eL74 true a0)),(1,.d (eL52 t1 a1)),(2,.i a2),(7,.d (eL98 true v4)),(8,.own 0 13 0 x1_r0.length),(9,.own 6 1 0 ((x1_r1 ++ [(x1_r0.length:Int)]).length)),(10,.ptr 2 0 0 0),(11,.ptr 3 0 0 0),(12,.i x1_12),(14,.i v10),(16,.i v13),(17,.ptr 4 0 0 0)] [some (.own 0 13 0 x1_r0.length),some (.i v10),some (.i (IntKind.wrap .i64 (v10+1))),some (.i v13),some (.d (.agg [.i y8_b4_0,.b y8_b4_1])),some (.i v10),some (.ptr 2 0 0 1),some (.i y7_b2_1),some (.d (.agg [.i 2,.i (IntKind.wrap .i64 (v10+1)),.i 0,.i 0,.i 0,.ns,.i 0,.i 0,.i 0,.i v13,.i y8_b4_0,.b y8_b4_1,.i y7_b2_1])),some (.own 7 13 0 1)] [[eR52 x1_r0,.gone,.box 43 [.i y7_b2_0,.i y7_b2_1,.i y7_b2_2,.i y7_b2_3],.box 43 [.i x1_b3_0,.i x1_b3_1,.i x1_b3_2,.i x1_b3_3],.box 59 [.i y8_b4_0,.b y8_b4_1],.flat false 1 3 1 (fun j=>[[.i (x1_r0.length:Int)]].getD j []),eR3 (x1_r1 ++ [(x1_r0.length:Int)])],[eR52 x1_r0,.gone,.box 43 [.i y7_b2_0,.i y7_b2_1,.i y7_b2_2,.i y7_b2_3],.box 43 [.i x1_b3_0,.i x1_b3_1,.i x1_b3_2,.i x1_b3_3],.box 59 [.i y8_b4_0,.b y8_b4_1],.flat false 1 3 1 (fun j=>[[.i (x1_r0.length:Int)]].getD j []),eR3 (x1_r1 ++ [(x1_r0.length:Int)]),.flat false 13 52 1 (fun j=>[[.i 2,.i (IntKind.wrap .i64 (v10+1)),.i 0,.i 0,.i 0,.ns,.i 0,.i 0,.i 0,.i v13,.i y8_b4_0,.b y8_b4_1,.i y7_b2_1]].getD j [])]] (by kernel_rfl) (by kernel_rfl) (by kernel_rfl) (by kernel_rfl) ⟨(opXE (opGE (opGE (opES (opGE (opGE (opGE (opGE (opGE (opGE opE0 hT) hT) hT) hT) hT) hT) (fun R rest h=>ak_idx0 hT (i:=v10) (n:=4) (by omega) (by omega) (by rw [c56];kernel_rfl) h)) hT) hT)),(op_goFK hT),(opXE (opGE (opGE (opES (opGE (opGE (opGE (opGE (opGE (opGE opE0 hT) hT) hT) hT) hT) hT) (fun R rest h=>ak_idx0 hT (i:=v10) (n:=4) (by omega) (by omega) (by rw [c56];kernel_rfl) h)) hT) hT))⟩ ?_
            refine goK hT 0 (K4 111111101001001111111 10) ⟨187,[(0,.d (eL74 true a0)),(1,.d (eL52 t1 a1)),(2,.i a2),(7,.d (eL98 true v4)),(9,.own 6 1 0 ((x1_r1 ++ [(x1_r0.length:Int)]).length)),(10,.ptr 2 0 0 0),(11,.ptr 3 0 0 0),(12,.i x1_12),(108,.own 0 13 0 x1_r0.length),(117,.own 7 13 0 1)],[eR52 x1_r0,.gone,.box 43 [.i y7_b2_0,.i y7_b2_1,.i y7_b2_2,.i y7_b2_3],.box 43 [.i x1_b3_0,.i x1_b3_1,.i x1_b3_2,.i x1_b3_3],.box 59 [.i y8_b4_0,.b y8_b4_1],.flat false 1 3 1 (fun j=>[[.i (x1_r0.length:Int)]].getD j []),eR3 (x1_r1 ++ [(x1_r0.length:Int)]),.flat false 13 52 1 (fun j=>[[.i 2,.i (IntKind.wrap .i64 (v10+1)),.i 0,.i 0,.i 0,.ns,.i 0,.i 0,.i 0,.i v13,.i y8_b4_0,.b y8_b4_1,.i y7_b2_1]].getD j [])]⟩ ?_
            obtain ⟨h57,H⟩:=sC H
            refine ak_rowNs 7 (fz:=false) (kk:=13) (ty:=52) [.i 2,.i (IntKind.wrap .i64 (v10+1)),.i 0,.i 0,.i 0,eL76 true ([]:List api_Pair),.i 0,.i 0,.i 0,.i v13,.i y8_b4_0,.b y8_b4_1,.i y7_b2_1] (by kernel_rfl) (.same _ (.same _ (.same _ (.same _ (.same _ (.ns _ _ (.same _ (.same _ (.same _ (.same _ (.same _ (.same _ (.same _ .nil))))))))))))) ?_
            refine ak_append1 (id:=0) (kk:=13) (by':=120) (t:=23) (e:=52) (z:=[.int .i64 0,.int .i64 0,.int .i64 0,.int .i64 0,.int .i64 0,.slice none 0 0,.int .i64 0,.int .i64 0,.int .i64 0,.int .i64 0,.int .i64 0,.bool false,.int .i64 0]) (dst:=some 118) (id2:=7) (e2:=52) (fz:=false) (k':=(K4 111111101001001111111 11)) hT api_Event.e api_Event.z x1_r0 (⟨2,IntKind.wrap .i64 (v10+1),(splicelaw24_AuditRight.q4),v13,(⟨y8_b4_0,y8_b4_1⟩:api_Cell),y7_b2_1⟩:api_Event) [0,1,2,7,9,10,11,12,118] (by kernel_rfl) (by kernel_rfl) (by kernel_rfl) (by kernel_rfl) (by kernel_rfl) (by kernel_rfl) (by kernel_rfl) h57 (by omega) (st':=⟨187,[(0,.d (eL74 true a0)),(1,.d (eL52 t1 a1)),(2,.i a2),(7,.d (eL98 true v4)),(9,.own 6 1 0 ((x1_r1 ++ [(x1_r0.length:Int)]).length)),(10,.ptr 2 0 0 0),(11,.ptr 3 0 0 0),(12,.i x1_12),(118,.own 8 13 0 ((x1_r0 ++ [(⟨2,IntKind.wrap .i64 (v10+1),(splicelaw24_AuditRight.q4),v13,(⟨y8_b4_0,y8_b4_1⟩:api_Cell),y7_b2_1⟩:api_Event)]).length))],[.gone,.gone,.box 43 [.i y7_b2_0,.i y7_b2_1,.i y7_b2_2,.i y7_b2_3],.box 43 [.i x1_b3_0,.i x1_b3_1,.i x1_b3_2,.i x1_b3_3],.box 59 [.i y8_b4_0,.b y8_b4_1],.flat false 1 3 1 (fun j=>[[.i (x1_r0.length:Int)]].getD j []),eR3 (x1_r1 ++ [(x1_r0.length:Int)]),.flat false 13 52 1 (fun j=>[[.i 2,.i (IntKind.wrap .i64 (v10+1)),.i 0,.i 0,.i 0,eL76 true ([]:List api_Pair),.i 0,.i 0,.i 0,.i v13,.i y8_b4_0,.b y8_b4_1,.i y7_b2_1]].getD j []),eR52 (x1_r0 ++ [(⟨2,IntKind.wrap .i64 (v10+1),(splicelaw24_AuditRight.q4),v13,(⟨y8_b4_0,y8_b4_1⟩:api_Cell),y7_b2_1⟩:api_Event)])]⟩) (by kernel_rfl) ?_
            refine goCut hT 3 (K4 111111101001 1) [8,6,2,3] ⟨187,[(0,.d (eL74 true a0)),(1,.d (eL52 t1 a1)),(2,.i a2),(7,.d (eL98 true v4)),(8,.own 0 13 0 (x1_r0 ++ [(⟨2,IntKind.wrap .i64 (v10+1),(splicelaw24_AuditRight.q4),v13,(⟨y8_b4_0,y8_b4_1⟩:api_Cell),y7_b2_1⟩:api_Event)]).length),(9,.own 1 1 0 ((x1_r1 ++ [(x1_r0.length:Int)]).length)),(10,.ptr 2 0 0 0),(11,.ptr 3 0 0 0),(12,.i x1_12)],[eR52 (x1_r0 ++ [(⟨2,IntKind.wrap .i64 (v10+1),(splicelaw24_AuditRight.q4),v13,(⟨y8_b4_0,y8_b4_1⟩:api_Cell),y7_b2_1⟩:api_Event)]),eR3 (x1_r1 ++ [(x1_r0.length:Int)]),.box 43 [.i y7_b2_0,.i y7_b2_1,.i y7_b2_2,.i y7_b2_3],.box 43 [.i x1_b3_0,.i x1_b3_1,.i x1_b3_2,.i x1_b3_3]]⟩ h0 ?_
            exact Jj9 (x1_r0 ++ [(⟨2,IntKind.wrap .i64 (v10+1),(splicelaw24_AuditRight.q4),v13,(⟨y8_b4_0,y8_b4_1⟩:api_Cell),y7_b2_1⟩:api_Event)]) H
           ·replace H:=sF c56 H
            by_cases c58:v10=2
            ·replace H:=sT c58 H
             refine ak_drawAtE (nt:=187) (hP▸mixed) 10 [9] [0,1,2,7,8,9,10,11,12,14,16,17] [(0,.d (eL74 true a0)),(1,.d (eL52 t1 a1)),(2,.i a2),(7,.d (eL98 true v4)),(8,.own 0 13 0 x1_r0.length),(9,.own 6 1 0 ((x1_r1 ++ [(x1_r0.length:Int)]).length)),(10,.ptr 2 0 0 0),(11,.ptr 3 0 0 0),(12,.i x1_12),(14,.i v10),(16,.i v13),(17,.ptr 4 0 0 0)] [some (.own 0 13 0 x1_r0.length),some (.i v10),some (.i (IntKind.wrap .i64 (v10+1))),some (.i v13),some (.d (.agg [.i y8_b4_0,.b y8_b4_1])),some (.i v10),some (.ptr 2 0 0 2),some (.i y7_b2_2),some (.d (.agg [.i 2,.i (IntKind.wrap .i64 (v10+1)),.i 0,.i 0,.i 0,.ns,.i 0,.i 0,.i 0,.i v13,.i y8_b4_0,.b y8_b4_1,.i y7_b2_2])),some (.own 7 13 0 1)] [[eR52 x1_r0,.gone,.box 43 [.i y7_b2_0,.i y7_b2_1,.i y7_b2_2,.i y7_b2_3],.box 43 [.i x1_b3_0,.i x1_b3_1,.i x1_b3_2,.i x1_b3_3],.box 59 [.i y8_b4_0,.b y8_b4_1],.flat false 1 3 1 (fun j=>[[.i (x1_r0.length:Int)]].getD j []),eR3 (x1_r1 ++ [(x1_r0.length:Int)])],[eR52 x1_r0,.gone,.box 43 [.i y7_b2_0,.i y7_b2_1,.i y7_b2_2,.i y7_b2_3],.box 43 [.i x1_b3_0,.i x1_b3_1,.i x1_b3_2,.i x1_b3_3],.box 59 [.i y8_b4_0,.b y8_b4_1],.flat false 1 3 1 (fun j=>[[.i (x1_r0.length:Int)]].getD j []),eR3 (x1_r1 ++ [(x1_r0.length:Int)]),.flat false 13 52 1 (fun j=>[[.i 2,.i (IntKind.wrap .i64 (v10+1)),.i 0,.i 0,.i 0,.ns,.i 0,.i 0,.i 0,.i v13,.i y8_b4_0,.b y8_b4_1,.i y7_b2_2]].getD j [])]] (by kernel_rfl) (by kernel_rfl) (by kernel_rfl) (by kernel_rfl) ⟨(opXE (opGE (opGE (opES (opGE (opGE (opGE (opGE (opGE (opGE opE0 hT) hT) hT) hT) hT) hT) (fun R rest h=>ak_idx0 hT (i:=v10) (n:=4) (by omega) (by omega) (by rw [c58];kernel_rfl) h)) hT) hT)),(op_goFK hT),(opXE (opGE (opGE (opES (opGE (opGE (opGE (opGE (opGE (opGE opE0 hT) hT) hT) hT) hT) hT) (fun R rest h=>ak_idx0 hT (i:=v10) (n:=4) (by omega) (by omega) (by rw [c58];kernel_rfl) h)) hT) hT))⟩ ?_
             refine goK hT 0 (K4 111111101001001111111 10) ⟨187,[(0,.d (eL74 true a0)),(1,.d (eL52 t1 a1)),(2,.i a2),(7,.d (eL98 true v4)),(9,.own 6 1 0 ((x1_r1 ++ [(x1_r0.length:Int)]).length)),(10,.ptr 2 0 0 0),(11,.ptr 3 0 0 0),(12,.i x1_12),(108,.own 0 13 0 x1_r0.length),(117,.own 7 13 0 1)],[eR52 x1_r0,.gone,.box 43 [.i y7_b2_0,.i y7_b2_1,.i y7_b2_2,.i y7_b2_3],.box 43 [.i x1_b3_0,.i x1_b3_1,.i x1_b3_2,.i x1_b3_3],.box 59 [.i y8_b4_0,.b y8_b4_1],.flat false 1 3 1 (fun j=>[[.i (x1_r0.length:Int)]].getD j []),eR3 (x1_r1 ++ [(x1_r0.length:Int)]),.flat false 13 52 1 (fun j=>[[.i 2,.i (IntKind.wrap .i64 (v10+1)),.i 0,.i 0,.i 0,.ns,.i 0,.i 0,.i 0,.i v13,.i y8_b4_0,.b y8_b4_1,.i y7_b2_2]].getD j [])]⟩ ?_
             obtain ⟨h59,H⟩:=sC H
             refine ak_rowNs 7 (fz:=false) (kk:=13) (ty:=52) [.i 2,.i (IntKind.wrap .i64 (v10+1)),.i 0,.i 0,.i 0,eL76 true ([]:List api_Pair),.i 0,.i 0,.i 0,.i v13,.i y8_b4_0,.b y8_b4_1,.i y7_b2_2] (by kernel_rfl) (.same _ (.same _ (.same _ (.same _ (.same _ (.ns _ _ (.same _ (.same _ (.same _ (.same _ (.same _ (.same _ (.same _ .nil))))))))))))) ?_
             refine ak_append1 (id:=0) (kk:=13) (by':=120) (t:=23) (e:=52) (z:=[.int .i64 0,.int .i64 0,.int .i64 0,.int .i64 0,.int .i64 0,.slice none 0 0,.int .i64 0,.int .i64 0,.int .i64 0,.int .i64 0,.int .i64 0,.bool false,.int .i64 0]) (dst:=some 118) (id2:=7) (e2:=52) (fz:=false) (k':=(K4 111111101001001111111 11)) hT api_Event.e api_Event.z x1_r0 (⟨2,IntKind.wrap .i64 (v10+1),(splicelaw24_AuditRight.q4),v13,(⟨y8_b4_0,y8_b4_1⟩:api_Cell),y7_b2_2⟩:api_Event) [0,1,2,7,9,10,11,12,118] (by kernel_rfl) (by kernel_rfl) (by kernel_rfl) (by kernel_rfl) (by kernel_rfl) (by kernel_rfl) (by kernel_rfl) h59 (by omega) (st':=⟨187,[(0,.d (eL74 true a0)),(1,.d (eL52 t1 a1)),(2,.i a2),(7,.d (eL98 true v4)),(9,.own 6 1 0 ((x1_r1 ++ [(x1_r0.length:Int)]).length)),(10,.ptr 2 0 0 0),(11,.ptr 3 0 0 0),(12,.i x1_12),(118,.own 8 13 0 ((x1_r0 ++ [(⟨2,IntKind.wrap .i64 (v10+1),(splicelaw24_AuditRight.q4),v13,(⟨y8_b4_0,y8_b4_1⟩:api_Cell),y7_b2_2⟩:api_Event)]).length))],[.gone,.gone,.box 43 [.i y7_b2_0,.i y7_b2_1,.i y7_b2_2,.i y7_b2_3],.box 43 [.i x1_b3_0,.i x1_b3_1,.i x1_b3_2,.i x1_b3_3],.box 59 [.i y8_b4_0,.b y8_b4_1],.flat false 1 3 1 (fun j=>[[.i (x1_r0.length:Int)]].getD j []),eR3 (x1_r1 ++ [(x1_r0.length:Int)]),.flat false 13 52 1 (fun j=>[[.i 2,.i (IntKind.wrap .i64 (v10+1)),.i 0,.i 0,.i 0,eL76 true ([]:List api_Pair),.i 0,.i 0,.i 0,.i v13,.i y8_b4_0,.b y8_b4_1,.i y7_b2_2]].getD j []),eR52 (x1_r0 ++ [(⟨2,IntKind.wrap .i64 (v10+1),(splicelaw24_AuditRight.q4),v13,(⟨y8_b4_0,y8_b4_1⟩:api_Cell),y7_b2_2⟩:api_Event)])]⟩) (by kernel_rfl) ?_
             refine goCut hT 3 (K4 111111101001 1) [8,6,2,3] ⟨187,[(0,.d (eL74 true a0)),(1,.d (eL52 t1 a1)),(2,.i a2),(7,.d (eL98 true v4)),(8,.own 0 13 0 (x1_r0 ++ [(⟨2,IntKind.wrap .i64 (v10+1),(splicelaw24_AuditRight.q4),v13,(⟨y8_b4_0,y8_b4_1⟩:api_Cell),y7_b2_2⟩:api_Event)]).length),(9,.own 1 1 0 ((x1_r1 ++ [(x1_r0.length:Int)]).length)),(10,.ptr 2 0 0 0),(11,.ptr 3 0 0 0),(12,.i x1_12)],[eR52 (x1_r0 ++ [(⟨2,IntKind.wrap .i64 (v10+1),(splicelaw24_AuditRight.q4),v13,(⟨y8_b4_0,y8_b4_1⟩:api_Cell),y7_b2_2⟩:api_Event)]),eR3 (x1_r1 ++ [(x1_r0.length:Int)]),.box 43 [.i y7_b2_0,.i y7_b2_1,.i y7_b2_2,.i y7_b2_3],.box 43 [.i x1_b3_0,.i x1_b3_1,.i x1_b3_2,.i x1_b3_3]]⟩ h0 ?_
             exact Jj9 (x1_r0 ++ [(⟨2,IntKind.wrap .i64 (v10+1),(splicelaw24_AuditRight.q4),v13,(⟨y8_b4_0,y8_b4_1⟩:api_Cell),y7_b2_2⟩:api_Event)]) H
            ·replace H:=sF c58 H
             by_cases c60:v10=3
             ·replace H:=sT c60 H
              refine ak_drawAtE (nt:=187) (hP▸mixed) 10 [9] [0,1,2,7,8,9,10,11,12,14,16,17] [(0,.d (eL74 true a0)),(1,.d (eL52 t1 a1)),(2,.i a2),(7,.d (eL98 true v4)),(8,.own 0 13 0 x1_r0.length),(9,.own 6 1 0 ((x1_r1 ++ [(x1_r0.length:Int)]).length)),(10,.ptr 2 0 0 0),(11,.ptr 3 0 0 0),(12,.i x1_12),(14,.i v10),(16,.i v13),(17,.ptr 4 0 0 0)] [some (.own 0 13 0 x1_r0.length),some (.i v10),some (.i (IntKind.wrap .i64 (v10+1))),some (.i v13),some (.d (.agg [.i y8_b4_0,.b y8_b4_1])),some (.i v10),some (.ptr 2 0 0 3),some (.i y7_b2_3),some (.d (.agg [.i 2,.i (IntKind.wrap .i64 (v10+1)),.i 0,.i 0,.i 0,.ns,.i 0,.i 0,.i 0,.i v13,.i y8_b4_0,.b y8_b4_1,.i y7_b2_3])),some (.own 7 13 0 1)] [[eR52 x1_r0,.gone,.box 43 [.i y7_b2_0,.i y7_b2_1,.i y7_b2_2,.i y7_b2_3],.box 43 [.i x1_b3_0,.i x1_b3_1,.i x1_b3_2,.i x1_b3_3],.box 59 [.i y8_b4_0,.b y8_b4_1],.flat false 1 3 1 (fun j=>[[.i (x1_r0.length:Int)]].getD j []),eR3 (x1_r1 ++ [(x1_r0.length:Int)])],[eR52 x1_r0,.gone,.box 43 [.i y7_b2_0,.i y7_b2_1,.i y7_b2_2,.i y7_b2_3],.box 43 [.i x1_b3_0,.i x1_b3_1,.i x1_b3_2,.i x1_b3_3],.box 59 [.i y8_b4_0,.b y8_b4_1],.flat false 1 3 1 (fun j=>[[.i (x1_r0.length:Int)]].getD j []),eR3 (x1_r1 ++ [(x1_r0.length:Int)]),.flat false 13 52 1 (fun j=>[[.i 2,.i (IntKind.wrap .i64 (v10+1)),.i 0,.i 0,.i 0,.ns,.i 0,.i 0,.i 0,.i v13,.i y8_b4_0,.b y8_b4_1,.i y7_b2_3]].getD j [])]] (by kernel_rfl) (by kernel_rfl) (by kernel_rfl) (by kernel_rfl) ⟨(opXE (opGE (opGE (opES (opGE (opGE (opGE (opGE (opGE (opGE opE0 hT) hT) hT) hT) hT) hT) (fun R rest h=>ak_idx0 hT (i:=v10) (n:=4) (by omega) (by omega) (by rw [c60];kernel_rfl) h)) hT) hT)),(op_goFK hT),(opXE (opGE (opGE (opES (opGE (opGE (opGE (opGE (opGE (opGE opE0 hT) hT) hT) hT) hT) hT) (fun R rest h=>ak_idx0 hT (i:=v10) (n:=4) (by omega) (by omega) (by rw [c60];kernel_rfl) h)) hT) hT))⟩ ?_
              refine goK hT 0 (K4 111111101001001111111 10) ⟨187,[(0,.d (eL74 true a0)),(1,.d (eL52 t1 a1)),(2,.i a2),(7,.d (eL98 true v4)),(9,.own 6 1 0 ((x1_r1 ++ [(x1_r0.length:Int)]).length)),(10,.ptr 2 0 0 0),(11,.ptr 3 0 0 0),(12,.i x1_12),(108,.own 0 13 0 x1_r0.length),(117,.own 7 13 0 1)],[eR52 x1_r0,.gone,.box 43 [.i y7_b2_0,.i y7_b2_1,.i y7_b2_2,.i y7_b2_3],.box 43 [.i x1_b3_0,.i x1_b3_1,.i x1_b3_2,.i x1_b3_3],.box 59 [.i y8_b4_0,.b y8_b4_1],.flat false 1 3 1 (fun j=>[[.i (x1_r0.length:Int)]].getD j []),eR3 (x1_r1 ++ [(x1_r0.length:Int)]),.flat false 13 52 1 (fun j=>[[.i 2,.i (IntKind.wrap .i64 (v10+1)),.i 0,.i 0,.i 0,.ns,.i 0,.i 0,.i 0,.i v13,.i y8_b4_0,.b y8_b4_1,.i y7_b2_3]].getD j [])]⟩ ?_
              obtain ⟨h61,H⟩:=sC H
              refine ak_rowNs 7 (fz:=false) (kk:=13) (ty:=52) [.i 2,.i (IntKind.wrap .i64 (v10+1)),.i 0,.i 0,.i 0,eL76 true ([]:List api_Pair),.i 0,.i 0,.i 0,.i v13,.i y8_b4_0,.b y8_b4_1,.i y7_b2_3] (by kernel_rfl) (.same _ (.same _ (.same _ (.same _ (.same _ (.ns _ _ (.same _ (.same _ (.same _ (.same _ (.same _ (.same _ (.same _ .nil))))))))))))) ?_
              refine ak_append1 (id:=0) (kk:=13) (by':=120) (t:=23) (e:=52) (z:=[.int .i64 0,.int .i64 0,.int .i64 0,.int .i64 0,.int .i64 0,.slice none 0 0,.int .i64 0,.int .i64 0,.int .i64 0,.int .i64 0,.int .i64 0,.bool false,.int .i64 0]) (dst:=some 118) (id2:=7) (e2:=52) (fz:=false) (k':=(K4 111111101001001111111 11)) hT api_Event.e api_Event.z x1_r0 (⟨2,IntKind.wrap .i64 (v10+1),(splicelaw24_AuditRight.q4),v13,(⟨y8_b4_0,y8_b4_1⟩:api_Cell),y7_b2_3⟩:api_Event) [0,1,2,7,9,10,11,12,118] (by kernel_rfl) (by kernel_rfl) (by kernel_rfl) (by kernel_rfl) (by kernel_rfl) (by kernel_rfl) (by kernel_rfl) h61 (by omega) (st':=⟨187,[(0,.d (eL74 true a0)),(1,.d (eL52 t1 a1)),(2,.i a2),(7,.d (eL98 true v4)),(9,.own 6 1 0 ((x1_r1 ++ [(x1_r0.length:Int)]).length)),(10,.ptr 2 0 0 0),(11,.ptr 3 0 0 0),(12,.i x1_12),(118,.own 8 13 0 ((x1_r0 ++ [(⟨2,IntKind.wrap .i64 (v10+1),(splicelaw24_AuditRight.q4),v13,(⟨y8_b4_0,y8_b4_1⟩:api_Cell),y7_b2_3⟩:api_Event)]).length))],[.gone,.gone,.box 43 [.i y7_b2_0,.i y7_b2_1,.i y7_b2_2,.i y7_b2_3],.box 43 [.i x1_b3_0,.i x1_b3_1,.i x1_b3_2,.i x1_b3_3],.box 59 [.i y8_b4_0,.b y8_b4_1],.flat false 1 3 1 (fun j=>[[.i (x1_r0.length:Int)]].getD j []),eR3 (x1_r1 ++ [(x1_r0.length:Int)]),.flat false 13 52 1 (fun j=>[[.i 2,.i (IntKind.wrap .i64 (v10+1)),.i 0,.i 0,.i 0,eL76 true ([]:List api_Pair),.i 0,.i 0,.i 0,.i v13,.i y8_b4_0,.b y8_b4_1,.i y7_b2_3]].getD j []),eR52 (x1_r0 ++ [(⟨2,IntKind.wrap .i64 (v10+1),(splicelaw24_AuditRight.q4),v13,(⟨y8_b4_0,y8_b4_1⟩:api_Cell),y7_b2_3⟩:api_Event)])]⟩) (by kernel_rfl) ?_
              refine goCut hT 3 (K4 111111101001 1) [8,6,2,3] ⟨187,[(0,.d (eL74 true a0)),(1,.d (eL52 t1 a1)),(2,.i a2),(7,.d (eL98 true v4)),(8,.own 0 13 0 (x1_r0 ++ [(⟨2,IntKind.wrap .i64 (v10+1),(splicelaw24_AuditRight.q4),v13,(⟨y8_b4_0,y8_b4_1⟩:api_Cell),y7_b2_3⟩:api_Event)]).length),(9,.own 1 1 0 ((x1_r1 ++ [(x1_r0.length:Int)]).length)),(10,.ptr 2 0 0 0),(11,.ptr 3 0 0 0),(12,.i x1_12)],[eR52 (x1_r0 ++ [(⟨2,IntKind.wrap .i64 (v10+1),(splicelaw24_AuditRight.q4),v13,(⟨y8_b4_0,y8_b4_1⟩:api_Cell),y7_b2_3⟩:api_Event)]),eR3 (x1_r1 ++ [(x1_r0.length:Int)]),.box 43 [.i y7_b2_0,.i y7_b2_1,.i y7_b2_2,.i y7_b2_3],.box 43 [.i x1_b3_0,.i x1_b3_1,.i x1_b3_2,.i x1_b3_3]]⟩ h0 ?_
              exact Jj9 (x1_r0 ++ [(⟨2,IntKind.wrap .i64 (v10+1),(splicelaw24_AuditRight.q4),v13,(⟨y8_b4_0,y8_b4_1⟩:api_Cell),y7_b2_3⟩:api_Event)]) H
             ·replace H:=sF c60 H
              cases (show (none:Option _)=some _ from H)
         by_cases c45:v10=0
         ·replace H:=sT c45 H
          obtain ⟨v15,h46,H⟩:=sbC H
          refine ak_drawAtE (nt:=187) (hP▸mixed) 13 [12] [0,1,2,7,8,9,10,11,12,14,16] [(0,.d (eL74 true a0)),(1,.d (eL52 t1 a1)),(2,.i a2),(7,.d (eL98 true v4)),(8,.own 0 13 0 x1_r0.length),(9,.own 1 1 0 x1_r1.length),(10,.ptr 2 0 0 0),(11,.ptr 3 0 0 0),(12,.i x1_12),(14,.i v10),(16,.i v13)] [some (.d (eL98 true v4)),some (.own 0 13 0 x1_r0.length),some (.d (eL91 true v14)),some (.own 0 13 0 x1_r0.length),some (.i (x1_r0.length:Int)),some (.i v10),some (.i (IntKind.wrap .i64 (v10+1))),some (.i v13),some (.i v10),some (.ptr 2 0 0 0),some (.i y7_b2_0),some (.d (eG59 v15)),some (.ptr 5 0 0 0)] [[eR52 x1_r0,eR3 x1_r1,.box 43 [.i y7_b2_0,.i y7_b2_1,.i y7_b2_2,.i y7_b2_3],.box 43 [.i x1_b3_0,.i x1_b3_1,.i x1_b3_2,.i x1_b3_3],.box 52 (eC52 (a1.getD x1_12.toNat api_Event.z))],[eR52 x1_r0,eR3 x1_r1,.box 43 [.i y7_b2_0,.i y7_b2_1,.i y7_b2_2,.i y7_b2_3],.box 43 [.i x1_b3_0,.i x1_b3_1,.i x1_b3_2,.i x1_b3_3],.box 52 (eC52 (a1.getD x1_12.toNat api_Event.z)),.box 59 [.i 0,.b false]]] (by kernel_rfl) (by kernel_rfl) (by kernel_rfl) (by kernel_rfl) ⟨(opXE (opES (opGE (opES (opGE (opGE (opGE (opGE (opGE (opGE (opES (opGE (opGE opE0 hT) hT) (fun R rest h=>ak_callD (avs:=[.own 0 13 0 x1_r0.length]) (dst:=some 93) hP enters_11 (Says.seal (splicelaw24_events.says (t0:=false) x1_r0 h44)) (by kernel_rfl) (.cons (.lend (ty:=52) (by kernel_rfl) rfl) .nil) (by kernel_rfl) h)) hT) hT) hT) hT) hT) hT) (fun R rest h=>ak_idx0 hT (i:=v10) (n:=4) (by omega) (by omega) (by rw [c45];kernel_rfl) h)) hT) (fun R rest h=>ak_callD (avs:=[.d (eL98 true v4),.d (eL91 true v14),.i (x1_r0.length:Int),.i (IntKind.wrap .i64 (v10+1)),.i v13,.i y7_b2_0]) (dst:=some 102) hP enters_16 (spliceref24_Sees.says (t0:=true) (t1:=true) v4 v14 (x1_r0.length:Int) (IntKind.wrap .i64 (v10+1)) v13 y7_b2_0 h46) (by kernel_rfl) (.cons (pass_d _) (.cons (pass_d _) (.cons (pass_d _) (.cons (pass_d _) (.cons (pass_d _) (.cons (pass_d _) .nil)))))) (by kernel_rfl) h))),(op_goFK hT),(opXE (opES (opGE (opES (opGE (opGE (opGE (opGE (opGE (opGE (opES (opGE (opGE opE0 hT) hT) (fun R rest h=>ak_callD (avs:=[.own 0 13 0 x1_r0.length]) (dst:=some 93) hP enters_11 (Says.seal (splicelaw24_events.says (t0:=false) x1_r0 h44)) (by kernel_rfl) (.cons (.lend (ty:=52) (by kernel_rfl) rfl) .nil) (by kernel_rfl) h)) hT) hT) hT) hT) hT) hT) (fun R rest h=>ak_idx0 hT (i:=v10) (n:=4) (by omega) (by omega) (by rw [c45];kernel_rfl) h)) hT) (fun R rest h=>ak_callD (avs:=[.d (eL98 true v4),.d (eL91 true v14),.i (x1_r0.length:Int),.i (IntKind.wrap .i64 (v10+1)),.i v13,.i y7_b2_0]) (dst:=some 102) hP enters_16 (spliceref24_Sees.says (t0:=true) (t1:=true) v4 v14 (x1_r0.length:Int) (IntKind.wrap .i64 (v10+1)) v13 y7_b2_0 h46) (by kernel_rfl) (.cons (pass_d _) (.cons (pass_d _) (.cons (pass_d _) (.cons (pass_d _) (.cons (pass_d _) (.cons (pass_d _) .nil)))))) (by kernel_rfl) h)))⟩ ?_
          refine goCut hT 2 (K4 1111111010010011111 1) [0,1,2,3,5] ⟨187,[(0,.d (eL74 true a0)),(1,.d (eL52 t1 a1)),(2,.i a2),(7,.d (eL98 true v4)),(8,.own 0 13 0 x1_r0.length),(9,.own 1 1 0 x1_r1.length),(10,.ptr 2 0 0 0),(11,.ptr 3 0 0 0),(12,.i x1_12),(14,.i v10),(16,.i v13),(17,.ptr 4 0 0 0)],[eR52 x1_r0,eR3 x1_r1,.box 43 [.i y7_b2_0,.i y7_b2_1,.i y7_b2_2,.i y7_b2_3],.box 43 [.i x1_b3_0,.i x1_b3_1,.i x1_b3_2,.i x1_b3_3],.box 59 [.i v15.Val,.b v15.Some]]⟩ h0 ?_
          exact Jj8 v15.Val v15.Some H
         ·replace H:=sF c45 H
          by_cases c47:v10=1
          ·replace H:=sT c47 H
           obtain ⟨v16,h48,H⟩:=sbC H
           refine ak_drawAtE (nt:=187) (hP▸mixed) 13 [12] [0,1,2,7,8,9,10,11,12,14,16] [(0,.d (eL74 true a0)),(1,.d (eL52 t1 a1)),(2,.i a2),(7,.d (eL98 true v4)),(8,.own 0 13 0 x1_r0.length),(9,.own 1 1 0 x1_r1.length),(10,.ptr 2 0 0 0),(11,.ptr 3 0 0 0),(12,.i x1_12),(14,.i v10),(16,.i v13)] [some (.d (eL98 true v4)),some (.own 0 13 0 x1_r0.length),some (.d (eL91 true v14)),some (.own 0 13 0 x1_r0.length),some (.i (x1_r0.length:Int)),some (.i v10),some (.i (IntKind.wrap .i64 (v10+1))),some (.i v13),some (.i v10),some (.ptr 2 0 0 1),some (.i y7_b2_1),some (.d (eG59 v16)),some (.ptr 5 0 0 0)] [[eR52 x1_r0,eR3 x1_r1,.box 43 [.i y7_b2_0,.i y7_b2_1,.i y7_b2_2,.i y7_b2_3],.box 43 [.i x1_b3_0,.i x1_b3_1,.i x1_b3_2,.i x1_b3_3],.box 52 (eC52 (a1.getD x1_12.toNat api_Event.z))],[eR52 x1_r0,eR3 x1_r1,.box 43 [.i y7_b2_0,.i y7_b2_1,.i y7_b2_2,.i y7_b2_3],.box 43 [.i x1_b3_0,.i x1_b3_1,.i x1_b3_2,.i x1_b3_3],.box 52 (eC52 (a1.getD x1_12.toNat api_Event.z)),.box 59 [.i 0,.b false]]] (by kernel_rfl) (by kernel_rfl) (by kernel_rfl) (by kernel_rfl) ⟨(opXE (opES (opGE (opES (opGE (opGE (opGE (opGE (opGE (opGE (opES (opGE (opGE opE0 hT) hT) (fun R rest h=>ak_callD (avs:=[.own 0 13 0 x1_r0.length]) (dst:=some 93) hP enters_11 (Says.seal (splicelaw24_events.says (t0:=false) x1_r0 h44)) (by kernel_rfl) (.cons (.lend (ty:=52) (by kernel_rfl) rfl) .nil) (by kernel_rfl) h)) hT) hT) hT) hT) hT) hT) (fun R rest h=>ak_idx0 hT (i:=v10) (n:=4) (by omega) (by omega) (by rw [c47];kernel_rfl) h)) hT) (fun R rest h=>ak_callD (avs:=[.d (eL98 true v4),.d (eL91 true v14),.i (x1_r0.length:Int),.i (IntKind.wrap .i64 (v10+1)),.i v13,.i y7_b2_1]) (dst:=some 102) hP enters_16 (spliceref24_Sees.says (t0:=true) (t1:=true) v4 v14 (x1_r0.length:Int) (IntKind.wrap .i64 (v10+1)) v13 y7_b2_1 h48) (by kernel_rfl) (.cons (pass_d _) (.cons (pass_d _) (.cons (pass_d _) (.cons (pass_d _) (.cons (pass_d _) (.cons (pass_d _) .nil)))))) (by kernel_rfl) h))),(op_goFK hT),(opXE (opES (opGE (opES (opGE (opGE (opGE (opGE (opGE (opGE (opES (opGE (opGE opE0 hT) hT) (fun R rest h=>ak_callD (avs:=[.own 0 13 0 x1_r0.length]) (dst:=some 93) hP enters_11 (Says.seal (splicelaw24_events.says (t0:=false) x1_r0 h44)) (by kernel_rfl) (.cons (.lend (ty:=52) (by kernel_rfl) rfl) .nil) (by kernel_rfl) h)) hT) hT) hT) hT) hT) hT) (fun R rest h=>ak_idx0 hT (i:=v10) (n:=4) (by omega) (by omega) (by rw [c47];kernel_rfl) h)) hT) (fun R rest h=>ak_callD (avs:=[.d (eL98 true v4),.d (eL91 true v14),.i (x1_r0.length:Int),.i (IntKind.wrap .i64 (v10+1)),.i v13,.i y7_b2_1]) (dst:=some 102) hP enters_16 (spliceref24_Sees.says (t0:=true) (t1:=true) v4 v14 (x1_r0.length:Int) (IntKind.wrap .i64 (v10+1)) v13 y7_b2_1 h48) (by kernel_rfl) (.cons (pass_d _) (.cons (pass_d _) (.cons (pass_d _) (.cons (pass_d _) (.cons (pass_d _) (.cons (pass_d _) .nil)))))) (by kernel_rfl) h)))⟩ ?_
           refine goCut hT 2 (K4 1111111010010011111 1) [0,1,2,3,5] ⟨187,[(0,.d (eL74 true a0)),(1,.d (eL52 t1 a1)),(2,.i a2),(7,.d (eL98 true v4)),(8,.own 0 13 0 x1_r0.length),(9,.own 1 1 0 x1_r1.length),(10,.ptr 2 0 0 0),(11,.ptr 3 0 0 0),(12,.i x1_12),(14,.i v10),(16,.i v13),(17,.ptr 4 0 0 0)],[eR52 x1_r0,eR3 x1_r1,.box 43 [.i y7_b2_0,.i y7_b2_1,.i y7_b2_2,.i y7_b2_3],.box 43 [.i x1_b3_0,.i x1_b3_1,.i x1_b3_2,.i x1_b3_3],.box 59 [.i v16.Val,.b v16.Some]]⟩ h0 ?_
           exact Jj8 v16.Val v16.Some H
          ·replace H:=sF c47 H
           by_cases c49:v10=2
           ·replace H:=sT c49 H
            obtain ⟨v17,h50,H⟩:=sbC H
            refine ak_drawAtE (nt:=187) (hP▸mixed) 13 [12] [0,1,2,7,8,9,10,11,12,14,16] [(0,.d (eL74 true a0)),(1,.d (eL52 t1 a1)),(2,.i a2),(7,.d (eL98 true v4)),(8,.own 0 13 0 x1_r0.length),(9,.own 1 1 0 x1_r1.length),(10,.ptr 2 0 0 0),(11,.ptr 3 0 0 0),(12,.i x1_12),(14,.i v10),(16,.i v13)] [some (.d (eL98 true v4)),some (.own 0 13 0 x1_r0.length),some (.d (eL91 true v14)),some (.own 0 13 0 x1_r0.length),some (.i (x1_r0.length:Int)),some (.i v10),some (.i (IntKind.wrap .i64 (v10+1))),some (.i v13),some (.i v10),some (.ptr 2 0 0 2),some (.i y7_b2_2),some (.d (eG59 v17)),some (.ptr 5 0 0 0)] [[eR52 x1_r0,eR3 x1_r1,.box 43 [.i y7_b2_0,.i y7_b2_1,.i y7_b2_2,.i y7_b2_3],.box 43 [.i x1_b3_0,.i x1_b3_1,.i x1_b3_2,.i x1_b3_3],.box 52 (eC52 (a1.getD x1_12.toNat api_Event.z))],[eR52 x1_r0,eR3 x1_r1,.box 43 [.i y7_b2_0,.i y7_b2_1,.i y7_b2_2,.i y7_b2_3],.box 43 [.i x1_b3_0,.i x1_b3_1,.i x1_b3_2,.i x1_b3_3],.box 52 (eC52 (a1.getD x1_12.toNat api_Event.z)),.box 59 [.i 0,.b false]]] (by kernel_rfl) (by kernel_rfl) (by kernel_rfl) (by kernel_rfl) ⟨(opXE (opES (opGE (opES (opGE (opGE (opGE (opGE (opGE (opGE (opES (opGE (opGE opE0 hT) hT) (fun R rest h=>ak_callD (avs:=[.own 0 13 0 x1_r0.length]) (dst:=some 93) hP enters_11 (Says.seal (splicelaw24_events.says (t0:=false) x1_r0 h44)) (by kernel_rfl) (.cons (.lend (ty:=52) (by kernel_rfl) rfl) .nil) (by kernel_rfl) h)) hT) hT) hT) hT) hT) hT) (fun R rest h=>ak_idx0 hT (i:=v10) (n:=4) (by omega) (by omega) (by rw [c49];kernel_rfl) h)) hT) (fun R rest h=>ak_callD (avs:=[.d (eL98 true v4),.d (eL91 true v14),.i (x1_r0.length:Int),.i (IntKind.wrap .i64 (v10+1)),.i v13,.i y7_b2_2]) (dst:=some 102) hP enters_16 (spliceref24_Sees.says (t0:=true) (t1:=true) v4 v14 (x1_r0.length:Int) (IntKind.wrap .i64 (v10+1)) v13 y7_b2_2 h50) (by kernel_rfl) (.cons (pass_d _) (.cons (pass_d _) (.cons (pass_d _) (.cons (pass_d _) (.cons (pass_d _) (.cons (pass_d _) .nil)))))) (by kernel_rfl) h))),(op_goFK hT),(opXE (opES (opGE (opES (opGE (opGE (opGE (opGE (opGE (opGE (opES (opGE (opGE opE0 hT) hT) (fun R rest h=>ak_callD (avs:=[.own 0 13 0 x1_r0.length]) (dst:=some 93) hP enters_11 (Says.seal (splicelaw24_events.says (t0:=false) x1_r0 h44)) (by kernel_rfl) (.cons (.lend (ty:=52) (by kernel_rfl) rfl) .nil) (by kernel_rfl) h)) hT) hT) hT) hT) hT) hT) (fun R rest h=>ak_idx0 hT (i:=v10) (n:=4) (by omega) (by omega) (by rw [c49];kernel_rfl) h)) hT) (fun R rest h=>ak_callD (avs:=[.d (eL98 true v4),.d (eL91 true v14),.i (x1_r0.length:Int),.i (IntKind.wrap .i64 (v10+1)),.i v13,.i y7_b2_2]) (dst:=some 102) hP enters_16 (spliceref24_Sees.says (t0:=true) (t1:=true) v4 v14 (x1_r0.length:Int) (IntKind.wrap .i64 (v10+1)) v13 y7_b2_2 h50) (by kernel_rfl) (.cons (pass_d _) (.cons (pass_d _) (.cons (pass_d _) (.cons (pass_d _) (.cons (pass_d _) (.cons (pass_d _) .nil)))))) (by kernel_rfl) h)))⟩ ?_
            refine goCut hT 2 (K4 1111111010010011111 1) [0,1,2,3,5] ⟨187,[(0,.d (eL74 true a0)),(1,.d (eL52 t1 a1)),(2,.i a2),(7,.d (eL98 true v4)),(8,.own 0 13 0 x1_r0.length),(9,.own 1 1 0 x1_r1.length),(10,.ptr 2 0 0 0),(11,.ptr 3 0 0 0),(12,.i x1_12),(14,.i v10),(16,.i v13),(17,.ptr 4 0 0 0)],[eR52 x1_r0,eR3 x1_r1,.box 43 [.i y7_b2_0,.i y7_b2_1,.i y7_b2_2,.i y7_b2_3],.box 43 [.i x1_b3_0,.i x1_b3_1,.i x1_b3_2,.i x1_b3_3],.box 59 [.i v17.Val,.b v17.Some]]⟩ h0 ?_
            exact Jj8 v17.Val v17.Some H
           ·replace H:=sF c49 H
            by_cases c51:v10=3
            ·replace H:=sT c51 H
             obtain ⟨v18,h52,H⟩:=sbC H
             refine ak_drawAtE (nt:=187) (hP▸mixed) 13 [12] [0,1,2,7,8,9,10,11,12,14,16] [(0,.d (eL74 true a0)),(1,.d (eL52 t1 a1)),(2,.i a2),(7,.d (eL98 true v4)),(8,.own 0 13 0 x1_r0.length),(9,.own 1 1 0 x1_r1.length),(10,.ptr 2 0 0 0),(11,.ptr 3 0 0 0),(12,.i x1_12),(14,.i v10),(16,.i v13)] [some (.d (eL98 true v4)),some (.own 0 13 0 x1_r0.length),some (.d (eL91 true v14)),some (.own 0 13 0 x1_r0.length),some (.i (x1_r0.length:Int)),some (.i v10),some (.i (IntKind.wrap .i64 (v10+1))),some (.i v13),some (.i v10),some (.ptr 2 0 0 3),some (.i y7_b2_3),some (.d (eG59 v18)),some (.ptr 5 0 0 0)] [[eR52 x1_r0,eR3 x1_r1,.box 43 [.i y7_b2_0,.i y7_b2_1,.i y7_b2_2,.i y7_b2_3],.box 43 [.i x1_b3_0,.i x1_b3_1,.i x1_b3_2,.i x1_b3_3],.box 52 (eC52 (a1.getD x1_12.toNat api_Event.z))],[eR52 x1_r0,eR3 x1_r1,.box 43 [.i y7_b2_0,.i y7_b2_1,.i y7_b2_2,.i y7_b2_3],.box 43 [.i x1_b3_0,.i x1_b3_1,.i x1_b3_2,.i x1_b3_3],.box 52 (eC52 (a1.getD x1_12.toNat api_Event.z)),.box 59 [.i 0,.b false]]] (by kernel_rfl) (by kernel_rfl) (by kernel_rfl) (by kernel_rfl) ⟨(opXE (opES (opGE (opES (opGE (opGE (opGE (opGE (opGE (opGE (opES (opGE (opGE opE0 hT) hT) (fun R rest h=>ak_callD (avs:=[.own 0 13 0 x1_r0.length]) (dst:=some 93) hP enters_11 (Says.seal (splicelaw24_events.says (t0:=false) x1_r0 h44)) (by kernel_rfl) (.cons (.lend (ty:=52) (by kernel_rfl) rfl) .nil) (by kernel_rfl) h)) hT) hT) hT) hT) hT) hT) (fun R rest h=>ak_idx0 hT (i:=v10) (n:=4) (by omega) (by omega) (by rw [c51];kernel_rfl) h)) hT) (fun R rest h=>ak_callD (avs:=[.d (eL98 true v4),.d (eL91 true v14),.i (x1_r0.length:Int),.i (IntKind.wrap .i64 (v10+1)),.i v13,.i y7_b2_3]) (dst:=some 102) hP enters_16 (spliceref24_Sees.says (t0:=true) (t1:=true) v4 v14 (x1_r0.length:Int) (IntKind.wrap .i64 (v10+1)) v13 y7_b2_3 h52) (by kernel_rfl) (.cons (pass_d _) (.cons (pass_d _) (.cons (pass_d _) (.cons (pass_d _) (.cons (pass_d _) (.cons (pass_d _) .nil)))))) (by kernel_rfl) h))),(op_goFK hT),(opXE (opES (opGE (opES (opGE (opGE (opGE (opGE (opGE (opGE (opES (opGE (opGE opE0 hT) hT) (fun R rest h=>ak_callD (avs:=[.own 0 13 0 x1_r0.length]) (dst:=some 93) hP enters_11 (Says.seal (splicelaw24_events.says (t0:=false) x1_r0 h44)) (by kernel_rfl) (.cons (.lend (ty:=52) (by kernel_rfl) rfl) .nil) (by kernel_rfl) h)) hT) hT) hT) hT) hT) hT) (fun R rest h=>ak_idx0 hT (i:=v10) (n:=4) (by omega) (by omega) (by rw [c51];kernel_rfl) h)) hT) (fun R rest h=>ak_callD (avs:=[.d (eL98 true v4),.d (eL91 true v14),.i (x1_r0.length:Int),.i (IntKind.wrap .i64 (v10+1)),.i v13,.i y7_b2_3]) (dst:=some 102) hP enters_16 (spliceref24_Sees.says (t0:=true) (t1:=true) v4 v14 (x1_r0.length:Int) (IntKind.wrap .i64 (v10+1)) v13 y7_b2_3 h52) (by kernel_rfl) (.cons (pass_d _) (.cons (pass_d _) (.cons (pass_d _) (.cons (pass_d _) (.cons (pass_d _) (.cons (pass_d _) .nil)))))) (by kernel_rfl) h)))⟩ ?_
             refine goCut hT 2 (K4 1111111010010011111 1) [0,1,2,3,5] ⟨187,[(0,.d (eL74 true a0)),(1,.d (eL52 t1 a1)),(2,.i a2),(7,.d (eL98 true v4)),(8,.own 0 13 0 x1_r0.length),(9,.own 1 1 0 x1_r1.length),(10,.ptr 2 0 0 0),(11,.ptr 3 0 0 0),(12,.i x1_12),(14,.i v10),(16,.i v13),(17,.ptr 4 0 0 0)],[eR52 x1_r0,eR3 x1_r1,.box 43 [.i y7_b2_0,.i y7_b2_1,.i y7_b2_2,.i y7_b2_3],.box 43 [.i x1_b3_0,.i x1_b3_1,.i x1_b3_2,.i x1_b3_3],.box 59 [.i v18.Val,.b v18.Some]]⟩ h0 ?_
             exact Jj8 v18.Val v18.Some H
            ·replace H:=sF c51 H
             cases (show (none:Option _)=some _ from H)
        rw [eqF c26]
        refine goK hT 2 (K4 1111111010010011 1) ⟨187,[(0,.d (eL74 true a0)),(1,.d (eL52 t1 a1)),(2,.i a2),(7,.d (eL98 true v4)),(8,.own 0 13 0 x1_r0.length),(9,.own 1 1 0 x1_r1.length),(10,.ptr 2 0 0 0),(11,.ptr 3 0 0 0),(12,.i x1_12),(13,.ptr 4 0 0 0),(14,.i v10)],[eR52 x1_r0,eR3 x1_r1,.box 43 [.i x1_b2_0,.i x1_b2_1,.i x1_b2_2,.i x1_b2_3],.box 43 [.i x1_b3_0,.i x1_b3_1,.i x1_b3_2,.i x1_b3_3],.box 52 (eC52 (a1.getD x1_12.toNat api_Event.z))]⟩ ?_
        refine goK hT 1 (K4 11111110100100111 0) ⟨187,[(0,.d (eL74 true a0)),(1,.d (eL52 t1 a1)),(2,.i a2),(7,.d (eL98 true v4)),(8,.own 0 13 0 x1_r0.length),(9,.own 1 1 0 x1_r1.length),(10,.ptr 2 0 0 0),(11,.ptr 3 0 0 0),(12,.i x1_12),(13,.ptr 4 0 0 0),(14,.i v10)],[eR52 x1_r0,eR3 x1_r1,.box 43 [.i x1_b2_0,.i x1_b2_1,.i x1_b2_2,.i x1_b2_3],.box 43 [.i x1_b3_0,.i x1_b3_1,.i x1_b3_2,.i x1_b3_3],.box 52 (eC52 (a1.getD x1_12.toNat api_Event.z))]⟩ ?_
        by_cases c39:v10=0
        ·replace H:=sT c39 H
         refine drawK (hP▸mixed) 7 [0,1,2,7,8,9,10,11,12,13,14] [some (.i v10),some (.i v10),some (.ptr 2 0 0 0),some (.i x1_b2_0),some (.ptr 4 0 0 12),some (.i ((a1.getD x1_12.toNat api_Event.z).Mark)),some (.i (iMax x1_b2_0 ((a1.getD x1_12.toNat api_Event.z).Mark)))] (opG (opG (opG (opG (opS (opG (opG op0 hT) hT) (fun R rest h=>ak_idx0 hT (i:=v10) (n:=4) (by omega) (by omega) (by rw [c39];kernel_rfl) h)) hT) hT) hT) hT) ?_
         refine goK hT 0 (K4 111111101001001110 7) ⟨187,[(0,.d (eL74 true a0)),(1,.d (eL52 t1 a1)),(2,.i a2),(7,.d (eL98 true v4)),(8,.own 0 13 0 x1_r0.length),(9,.own 1 1 0 x1_r1.length),(10,.ptr 2 0 0 0),(11,.ptr 3 0 0 0),(12,.i x1_12),(13,.ptr 4 0 0 0),(14,.i v10),(78,.i v10),(84,.i (iMax x1_b2_0 ((a1.getD x1_12.toNat api_Event.z).Mark)))],[eR52 x1_r0,eR3 x1_r1,.box 43 [.i x1_b2_0,.i x1_b2_1,.i x1_b2_2,.i x1_b2_3],.box 43 [.i x1_b3_0,.i x1_b3_1,.i x1_b3_2,.i x1_b3_3],.box 52 (eC52 (a1.getD x1_12.toNat api_Event.z))]⟩ ?_
         refine ak_idx hT [0,1,2,7,8,9,10,11,12,13,14,84,85] (i:=v10) (n:=4) (by omega) (by omega) (k':=(K4 111111101001001110 8)) (st':=⟨187,[(0,.d (eL74 true a0)),(1,.d (eL52 t1 a1)),(2,.i a2),(7,.d (eL98 true v4)),(8,.own 0 13 0 x1_r0.length),(9,.own 1 1 0 x1_r1.length),(10,.ptr 2 0 0 0),(11,.ptr 3 0 0 0),(12,.i x1_12),(13,.ptr 4 0 0 0),(14,.i v10),(84,.i (iMax x1_b2_0 ((a1.getD x1_12.toNat api_Event.z).Mark))),(85,.ptr 2 0 0 0)],[eR52 x1_r0,eR3 x1_r1,.box 43 [.i x1_b2_0,.i x1_b2_1,.i x1_b2_2,.i x1_b2_3],.box 43 [.i x1_b3_0,.i x1_b3_1,.i x1_b3_2,.i x1_b3_3],.box 52 (eC52 (a1.getD x1_12.toNat api_Event.z))]⟩) (by rw [c39];kernel_rfl) ?_
         refine goK hT 2 (K4 11111110100100111 1) ⟨187,[(0,.d (eL74 true a0)),(1,.d (eL52 t1 a1)),(2,.i a2),(7,.d (eL98 true v4)),(8,.own 0 13 0 x1_r0.length),(9,.own 1 1 0 x1_r1.length),(10,.ptr 2 0 0 0),(11,.ptr 3 0 0 0),(12,.i x1_12),(13,.ptr 4 0 0 0),(14,.i v10)],[eR52 x1_r0,eR3 x1_r1,.box 43 [.i (iMax x1_b2_0 ((a1.getD x1_12.toNat api_Event.z).Mark)),.i x1_b2_1,.i x1_b2_2,.i x1_b2_3],.box 43 [.i x1_b3_0,.i x1_b3_1,.i x1_b3_2,.i x1_b3_3],.box 52 (eC52 (a1.getD x1_12.toNat api_Event.z))]⟩ ?_
         exact Jj7 (iMax x1_b2_0 ((a1.getD x1_12.toNat api_Event.z).Mark)) x1_b2_1 x1_b2_2 x1_b2_3 H
        ·replace H:=sF c39 H
         by_cases c40:v10=1
         ·replace H:=sT c40 H
          refine drawK (hP▸mixed) 7 [0,1,2,7,8,9,10,11,12,13,14] [some (.i v10),some (.i v10),some (.ptr 2 0 0 1),some (.i x1_b2_1),some (.ptr 4 0 0 12),some (.i ((a1.getD x1_12.toNat api_Event.z).Mark)),some (.i (iMax x1_b2_1 ((a1.getD x1_12.toNat api_Event.z).Mark)))] (opG (opG (opG (opG (opS (opG (opG op0 hT) hT) (fun R rest h=>ak_idx0 hT (i:=v10) (n:=4) (by omega) (by omega) (by rw [c40];kernel_rfl) h)) hT) hT) hT) hT) ?_
          refine goK hT 0 (K4 111111101001001110 7) ⟨187,[(0,.d (eL74 true a0)),(1,.d (eL52 t1 a1)),(2,.i a2),(7,.d (eL98 true v4)),(8,.own 0 13 0 x1_r0.length),(9,.own 1 1 0 x1_r1.length),(10,.ptr 2 0 0 0),(11,.ptr 3 0 0 0),(12,.i x1_12),(13,.ptr 4 0 0 0),(14,.i v10),(78,.i v10),(84,.i (iMax x1_b2_1 ((a1.getD x1_12.toNat api_Event.z).Mark)))],[eR52 x1_r0,eR3 x1_r1,.box 43 [.i x1_b2_0,.i x1_b2_1,.i x1_b2_2,.i x1_b2_3],.box 43 [.i x1_b3_0,.i x1_b3_1,.i x1_b3_2,.i x1_b3_3],.box 52 (eC52 (a1.getD x1_12.toNat api_Event.z))]⟩ ?_
          refine ak_idx hT [0,1,2,7,8,9,10,11,12,13,14,84,85] (i:=v10) (n:=4) (by omega) (by omega) (k':=(K4 111111101001001110 8)) (st':=⟨187,[(0,.d (eL74 true a0)),(1,.d (eL52 t1 a1)),(2,.i a2),(7,.d (eL98 true v4)),(8,.own 0 13 0 x1_r0.length),(9,.own 1 1 0 x1_r1.length),(10,.ptr 2 0 0 0),(11,.ptr 3 0 0 0),(12,.i x1_12),(13,.ptr 4 0 0 0),(14,.i v10),(84,.i (iMax x1_b2_1 ((a1.getD x1_12.toNat api_Event.z).Mark))),(85,.ptr 2 0 0 1)],[eR52 x1_r0,eR3 x1_r1,.box 43 [.i x1_b2_0,.i x1_b2_1,.i x1_b2_2,.i x1_b2_3],.box 43 [.i x1_b3_0,.i x1_b3_1,.i x1_b3_2,.i x1_b3_3],.box 52 (eC52 (a1.getD x1_12.toNat api_Event.z))]⟩) (by rw [c40];kernel_rfl) ?_
          refine goK hT 2 (K4 11111110100100111 1) ⟨187,[(0,.d (eL74 true a0)),(1,.d (eL52 t1 a1)),(2,.i a2),(7,.d (eL98 true v4)),(8,.own 0 13 0 x1_r0.length),(9,.own 1 1 0 x1_r1.length),(10,.ptr 2 0 0 0),(11,.ptr 3 0 0 0),(12,.i x1_12),(13,.ptr 4 0 0 0),(14,.i v10)],[eR52 x1_r0,eR3 x1_r1,.box 43 [.i x1_b2_0,.i (iMax x1_b2_1 ((a1.getD x1_12.toNat api_Event.z).Mark)),.i x1_b2_2,.i x1_b2_3],.box 43 [.i x1_b3_0,.i x1_b3_1,.i x1_b3_2,.i x1_b3_3],.box 52 (eC52 (a1.getD x1_12.toNat api_Event.z))]⟩ ?_
          exact Jj7 x1_b2_0 (iMax x1_b2_1 ((a1.getD x1_12.toNat api_Event.z).Mark)) x1_b2_2 x1_b2_3 H
         ·replace H:=sF c40 H
          by_cases c41:v10=2
          ·replace H:=sT c41 H
           refine drawK (hP▸mixed) 7 [0,1,2,7,8,9,10,11,12,13,14] [some (.i v10),some (.i v10),some (.ptr 2 0 0 2),some (.i x1_b2_2),some (.ptr 4 0 0 12),some (.i ((a1.getD x1_12.toNat api_Event.z).Mark)),some (.i (iMax x1_b2_2 ((a1.getD x1_12.toNat api_Event.z).Mark)))] (opG (opG (opG (opG (opS (opG (opG op0 hT) hT) (fun R rest h=>ak_idx0 hT (i:=v10) (n:=4) (by omega) (by omega) (by rw [c41];kernel_rfl) h)) hT) hT) hT) hT) ?_
           refine goK hT 0 (K4 111111101001001110 7) ⟨187,[(0,.d (eL74 true a0)),(1,.d (eL52 t1 a1)),(2,.i a2),(7,.d (eL98 true v4)),(8,.own 0 13 0 x1_r0.length),(9,.own 1 1 0 x1_r1.length),(10,.ptr 2 0 0 0),(11,.ptr 3 0 0 0),(12,.i x1_12),(13,.ptr 4 0 0 0),(14,.i v10),(78,.i v10),(84,.i (iMax x1_b2_2 ((a1.getD x1_12.toNat api_Event.z).Mark)))],[eR52 x1_r0,eR3 x1_r1,.box 43 [.i x1_b2_0,.i x1_b2_1,.i x1_b2_2,.i x1_b2_3],.box 43 [.i x1_b3_0,.i x1_b3_1,.i x1_b3_2,.i x1_b3_3],.box 52 (eC52 (a1.getD x1_12.toNat api_Event.z))]⟩ ?_
           refine ak_idx hT [0,1,2,7,8,9,10,11,12,13,14,84,85] (i:=v10) (n:=4) (by omega) (by omega) (k':=(K4 111111101001001110 8)) (st':=⟨187,[(0,.d (eL74 true a0)),(1,.d (eL52 t1 a1)),(2,.i a2),(7,.d (eL98 true v4)),(8,.own 0 13 0 x1_r0.length),(9,.own 1 1 0 x1_r1.length),(10,.ptr 2 0 0 0),(11,.ptr 3 0 0 0),(12,.i x1_12),(13,.ptr 4 0 0 0),(14,.i v10),(84,.i (iMax x1_b2_2 ((a1.getD x1_12.toNat api_Event.z).Mark))),(85,.ptr 2 0 0 2)],[eR52 x1_r0,eR3 x1_r1,.box 43 [.i x1_b2_0,.i x1_b2_1,.i x1_b2_2,.i x1_b2_3],.box 43 [.i x1_b3_0,.i x1_b3_1,.i x1_b3_2,.i x1_b3_3],.box 52 (eC52 (a1.getD x1_12.toNat api_Event.z))]⟩) (by rw [c41];kernel_rfl) ?_
           refine goK hT 2 (K4 11111110100100111 1) ⟨187,[(0,.d (eL74 true a0)),(1,.d (eL52 t1 a1)),(2,.i a2),(7,.d (eL98 true v4)),(8,.own 0 13 0 x1_r0.length),(9,.own 1 1 0 x1_r1.length),(10,.ptr 2 0 0 0),(11,.ptr 3 0 0 0),(12,.i x1_12),(13,.ptr 4 0 0 0),(14,.i v10)],[eR52 x1_r0,eR3 x1_r1,.box 43 [.i x1_b2_0,.i x1_b2_1,.i (iMax x1_b2_2 ((a1.getD x1_12.toNat api_Event.z).Mark)),.i x1_b2_3],.box 43 [.i x1_b3_0,.i x1_b3_1,.i x1_b3_2,.i x1_b3_3],.box 52 (eC52 (a1.getD x1_12.toNat api_Event.z))]⟩ ?_
           exact Jj7 x1_b2_0 x1_b2_1 (iMax x1_b2_2 ((a1.getD x1_12.toNat api_Event.z).Mark)) x1_b2_3 H
          ·replace H:=sF c41 H
           by_cases c42:v10=3
           ·replace H:=sT c42 H
            refine drawK (hP▸mixed) 7 [0,1,2,7,8,9,10,11,12,13,14] [some (.i v10),some (.i v10),some (.ptr 2 0 0 3),some (.i x1_b2_3),some (.ptr 4 0 0 12),some (.i ((a1.getD x1_12.toNat api_Event.z).Mark)),some (.i (iMax x1_b2_3 ((a1.getD x1_12.toNat api_Event.z).Mark)))] (opG (opG (opG (opG (opS (opG (opG op0 hT) hT) (fun R rest h=>ak_idx0 hT (i:=v10) (n:=4) (by omega) (by omega) (by rw [c42];kernel_rfl) h)) hT) hT) hT) hT) ?_
            refine goK hT 0 (K4 111111101001001110 7) ⟨187,[(0,.d (eL74 true a0)),(1,.d (eL52 t1 a1)),(2,.i a2),(7,.d (eL98 true v4)),(8,.own 0 13 0 x1_r0.length),(9,.own 1 1 0 x1_r1.length),(10,.ptr 2 0 0 0),(11,.ptr 3 0 0 0),(12,.i x1_12),(13,.ptr 4 0 0 0),(14,.i v10),(78,.i v10),(84,.i (iMax x1_b2_3 ((a1.getD x1_12.toNat api_Event.z).Mark)))],[eR52 x1_r0,eR3 x1_r1,.box 43 [.i x1_b2_0,.i x1_b2_1,.i x1_b2_2,.i x1_b2_3],.box 43 [.i x1_b3_0,.i x1_b3_1,.i x1_b3_2,.i x1_b3_3],.box 52 (eC52 (a1.getD x1_12.toNat api_Event.z))]⟩ ?_
            refine ak_idx hT [0,1,2,7,8,9,10,11,12,13,14,84,85] (i:=v10) (n:=4) (by omega) (by omega) (k':=(K4 111111101001001110 8)) (st':=⟨187,[(0,.d (eL74 true a0)),(1,.d (eL52 t1 a1)),(2,.i a2),(7,.d (eL98 true v4)),(8,.own 0 13 0 x1_r0.length),(9,.own 1 1 0 x1_r1.length),(10,.ptr 2 0 0 0),(11,.ptr 3 0 0 0),(12,.i x1_12),(13,.ptr 4 0 0 0),(14,.i v10),(84,.i (iMax x1_b2_3 ((a1.getD x1_12.toNat api_Event.z).Mark))),(85,.ptr 2 0 0 3)],[eR52 x1_r0,eR3 x1_r1,.box 43 [.i x1_b2_0,.i x1_b2_1,.i x1_b2_2,.i x1_b2_3],.box 43 [.i x1_b3_0,.i x1_b3_1,.i x1_b3_2,.i x1_b3_3],.box 52 (eC52 (a1.getD x1_12.toNat api_Event.z))]⟩) (by rw [c42];kernel_rfl) ?_
            refine goK hT 2 (K4 11111110100100111 1) ⟨187,[(0,.d (eL74 true a0)),(1,.d (eL52 t1 a1)),(2,.i a2),(7,.d (eL98 true v4)),(8,.own 0 13 0 x1_r0.length),(9,.own 1 1 0 x1_r1.length),(10,.ptr 2 0 0 0),(11,.ptr 3 0 0 0),(12,.i x1_12),(13,.ptr 4 0 0 0),(14,.i v10)],[eR52 x1_r0,eR3 x1_r1,.box 43 [.i x1_b2_0,.i x1_b2_1,.i x1_b2_2,.i (iMax x1_b2_3 ((a1.getD x1_12.toNat api_Event.z).Mark))],.box 43 [.i x1_b3_0,.i x1_b3_1,.i x1_b3_2,.i x1_b3_3],.box 52 (eC52 (a1.getD x1_12.toNat api_Event.z))]⟩ ?_
            exact Jj7 x1_b2_0 x1_b2_1 x1_b2_2 (iMax x1_b2_3 ((a1.getD x1_12.toNat api_Event.z).Mark)) H
           ·replace H:=sF c42 H
            cases (show (none:Option _)=some _ from H)
      ·replace H:=sF c7 H
       rw [decide_eq_false c7]
       refine goK hT 6 (K4 111111110 2) ⟨187,[(0,.d (eL74 true a0)),(2,.i a2),(8,.own 0 13 0 x1_r0.length),(9,.own 1 1 0 x1_r1.length),(120,.d (eL74 true a0)),(121,.own 0 13 0 x1_r0.length)],[eR52 x1_r0,eR3 x1_r1,.box 43 [.i x1_b2_0,.i x1_b2_1,.i x1_b2_2,.i x1_b2_3],.box 43 [.i x1_b3_0,.i x1_b3_1,.i x1_b3_2,.i x1_b3_3]]⟩ ?_
       obtain ⟨v5,h8,H⟩:=sbC H
       have Jj2:∀ (y2_131:Bool),stk (splicelaw24_AuditRight.j2 a0 a2 x1_r0 x1_r1 y2_131) (iter (splicelaw24_AuditRight.step a0 a1 a2 v4) n)=some r→AK X 4 ((K4 1111111110 1)) (Back X [] (.b r)) ⟨187,[(0,.d (eL74 true a0)),(2,.i a2),(8,.own 0 13 0 x1_r0.length),(9,.own 1 1 0 x1_r1.length),(131,.b y2_131)],[eR52 x1_r0,eR3 x1_r1]⟩:=by
        intro y2_131 H
        by_cases c10:y2_131=true
        ·replace H:=sT c10 H
         rw [c10]
         refine goK hT 5 (K4 111111111010 1) ⟨187,[(6,.b false)],[eR52 x1_r0,eR3 x1_r1]⟩ ?_
         obtain rfl:=retC H
         exact retK hf hX h0 (.b false) [] (fun _ h=>all_nil h) (.d (.v _))
        ·replace H:=sF c10 H
         rw [boF c10]
         refine goK hT 2 (K4 111111111 1) ⟨187,[(0,.d (eL74 true a0)),(2,.i a2),(8,.own 0 13 0 x1_r0.length),(9,.own 1 1 0 x1_r1.length)],[eR52 x1_r0,eR3 x1_r1]⟩ ?_
         refine goK hT 7 (K4 11111111110 1) ⟨187,[(0,.d (eL74 true a0)),(2,.i a2),(8,.own 0 13 0 x1_r0.length),(9,.own 1 1 0 x1_r1.length),(134,.b ((x1_r1.length:Int) == 0))],[eR52 x1_r0,eR3 x1_r1]⟩ ?_
         by_cases c11:(x1_r1.length:Int)=0
         ·replace H:=sT c11 H
          rw [eqT c11]
          refine goK hT 3 (K4 11111111110100 0) ⟨187,[],[eR52 x1_r0,eR3 x1_r1]⟩ ?_
          obtain ⟨v6,h12,H⟩:=sbC H
          refine ak_callP (avs:=[]) (dst:=some 135) (k':=(K4 11111111110100 1)) [135] [] hP enters_7 (splicelaw24_awake.says h12) (by kernel_rfl) (hands_none _) .nil (st':=⟨187,[(135,.b v6)],[eR52 x1_r0,eR3 x1_r1]⟩) (by kernel_rfl) ?_
          refine goK hT 2 (K4 1111111111010 1) ⟨187,[(6,.b v6)],[eR52 x1_r0,eR3 x1_r1]⟩ ?_
          obtain rfl:=retC H
          exact retK hf hX h0 (.b v6) [] (fun _ h=>all_nil h) (.d (.v _))
         ·replace H:=sF c11 H
          rw [eqF c11]
          refine goK hT 2 (K4 1111111111 1) ⟨187,[(0,.d (eL74 true a0)),(2,.i a2),(8,.own 0 13 0 x1_r0.length),(9,.own 1 1 0 x1_r1.length)],[eR52 x1_r0,eR3 x1_r1]⟩ ?_
          refine goK hT 6 (K4 111111111110 4) ⟨187,[(0,.d (eL74 true a0)),(8,.own 0 13 0 x1_r0.length),(9,.own 1 1 0 x1_r1.length),(136,.own 1 1 0 x1_r1.length),(137,.i a2),(139,.i (x1_r1.length:Int))],[eR52 x1_r0,eR3 x1_r1]⟩ ?_
          obtain ⟨h13,H⟩:=sC H
          refine ak_bin (op:=.rem) (t:=3) (u:=.int .i64 a2) (v:=.int .i64 (x1_r1.length:Int)) (z:=.int .i64 (Int.tmod a2 (x1_r1.length:Int))) (dst:=some 140) (k':=(K4 111111111110 5)) hT [0,8,9,136,140] (by kernel_rfl) (by simp only [binV,if_neg h13];rfl) (st':=⟨187,[(0,.d (eL74 true a0)),(8,.own 0 13 0 x1_r0.length),(9,.own 1 1 0 x1_r1.length),(136,.own 1 1 0 x1_r1.length),(140,.i (Int.tmod a2 (x1_r1.length:Int)))],[eR52 x1_r0,eR3 x1_r1]⟩) (by kernel_rfl) ?_
          refine goK hT 5 (K4 111111111110 10) ⟨187,[(0,.d (eL74 true a0)),(8,.own 0 13 0 x1_r0.length),(136,.own 1 1 0 x1_r1.length),(143,.i (IntKind.wrap .i64 ((Int.tmod a2 (x1_r1.length:Int))+(x1_r1.length:Int)))),(145,.i (x1_r1.length:Int))],[eR52 x1_r0,eR3 x1_r1]⟩ ?_
          refine ak_bin (op:=.rem) (t:=3) (u:=.int .i64 (IntKind.wrap .i64 ((Int.tmod a2 (x1_r1.length:Int))+(x1_r1.length:Int)))) (v:=.int .i64 (x1_r1.length:Int)) (z:=.int .i64 (splicelaw24_AuditRight.q8 a2 x1_r1)) (dst:=some 146) (k':=(K4 111111111110 11)) hT [0,8,136,146] (by kernel_rfl) (by simp only [binV,if_neg h13];rfl) (st':=⟨187,[(0,.d (eL74 true a0)),(8,.own 0 13 0 x1_r0.length),(136,.own 1 1 0 x1_r1.length),(146,.i (splicelaw24_AuditRight.q8 a2 x1_r1))],[eR52 x1_r0,eR3 x1_r1]⟩) (by kernel_rfl) ?_
          obtain ⟨h14,H⟩:=sC H
          refine ak_idx hT [0,8,147] (i:=Int.tmod (IntKind.wrap .i64 ((Int.tmod a2 (x1_r1.length:Int))+(x1_r1.length:Int))) (x1_r1.length:Int)) (n:=(x1_r1.length:Int)) h14.1 h14.2 (k':=(K4 111111111110 12)) (st':=⟨187,[(0,.d (eL74 true a0)),(8,.own 0 13 0 x1_r0.length),(147,.ptr 1 1 ((splicelaw24_AuditRight.q8 a2 x1_r1).toNat) 0)],[eR52 x1_r0,eR3 x1_r1]⟩) (by kernel_rfl) ?_
          refine ak_ld hT [0,8,148] (i:=(splicelaw24_AuditRight.q8 a2 x1_r1).toNat) (n:=x1_r1.length) (ltN h14.1 h14.2) (k':=(K4 111111111110 13)) (st':=⟨187,[(0,.d (eL74 true a0)),(8,.own 0 13 0 x1_r0.length),(148,.i (x1_r1.getD ((splicelaw24_AuditRight.q8 a2 x1_r1).toNat) 0))],[eR52 x1_r0,eR3 x1_r1]⟩) (by kernel_rfl) ?_
          refine goK hT 1 (K4 111111111110 14) ⟨187,[(0,.d (eL74 true a0)),(8,.own 0 13 0 x1_r0.length),(20,.i (x1_r1.getD ((splicelaw24_AuditRight.q8 a2 x1_r1).toNat) 0))],[eR52 x1_r0,eR3 x1_r1]⟩ ?_
          obtain ⟨v7,h15,H⟩:=sdC H
          rw [← h15]
          refine goK hT 5 (K4 1111111111110 2) ⟨187,[(0,.d (eL74 true a0)),(8,.own 0 13 0 x1_r0.length),(20,.i v7),(149,.own 0 13 0 x1_r0.length),(150,.i v7)],[eR52 x1_r0,eR3 x1_r1]⟩ ?_
          obtain ⟨h16,H⟩:=sC H
          have Jj3:∀ (y3_r0:List api_Event),stk (splicelaw24_AuditRight.j3 a0 v7 y3_r0) (iter (splicelaw24_AuditRight.step a0 a1 a2 v4) n)=some r→AK X 4 ((K4 1111111111111 1)) (Back X [] (.b r)) ⟨187,[(0,.d (eL74 true a0)),(8,.own 0 13 0 y3_r0.length),(20,.i v7)],[eR52 y3_r0]⟩:=by
           intro y3_r0 H
           refine goK hT 4 (K4 111111111111110 2) ⟨187,[(20,.i v7),(164,.d (eL74 true a0)),(165,.own 0 13 0 y3_r0.length)],[eR52 y3_r0]⟩ ?_
           obtain ⟨v8,h18,H⟩:=sbC H
           refine ak_callP (avs:=[.d (eL74 true a0),.own 0 13 0 y3_r0.length]) (dst:=some 166) (k':=(K4 111111111111110 3)) [20,166] [] hP enters_8 (audit_Check.says (t0:=true) (t1:=false) a0 y3_r0 h18) (by kernel_rfl) (hands_none _) (.cons (pass_d _) (.cons (.lend (ty:=52) (by kernel_rfl) rfl) .nil)) (st':=⟨187,[(20,.i v7),(166,.tup [.own 1 2 0 v8.1.length,.i v8.2])],[eR52 y3_r0,eR41 v8.1]⟩) (by kernel_rfl) ?_
           refine goK hT 8 (K4 1111111111111110 0) ⟨187,[(18,.own 1 2 0 v8.1.length),(19,.i v8.2),(20,.i v7)],[eR52 y3_r0,eR41 v8.1]⟩ ?_
           obtain ⟨v9,h19,H⟩:=sbC H
           have Jj4:∀ (y4_6:Bool),stk (splicelaw24_AuditRight.j4 y4_6) (iter (splicelaw24_AuditRight.step a0 a1 a2 v4) n)=some r→AK X 4 ((K4 111111111111111 1)) (Back X [] (.b r)) ⟨187,[(6,.b y4_6)],[]⟩:=by
            intro y4_6 H
            obtain rfl:=retC H
            exact retK hf hX h0 (.b y4_6) [] (fun _ h=>all_nil h) (.d (.v _))
           refine ak_callP (avs:=[]) (dst:=some 169) (k':=(K4 1111111111111110 1)) [18,19,20,169] [] hP enters_7 (splicelaw24_awake.says h19) (by kernel_rfl) (hands_none _) .nil (st':=⟨187,[(18,.own 1 2 0 v8.1.length),(19,.i v8.2),(20,.i v7),(169,.b v9)],[eR52 y3_r0,eR41 v8.1]⟩) (by kernel_rfl) ?_
           refine goK hT 1 (K4 1111111111111110 2) ⟨187,[(18,.own 1 2 0 v8.1.length),(19,.i v8.2),(20,.i v7),(170,.b v9)],[eR52 y3_r0,eR41 v8.1]⟩ ?_
           by_cases c20:v9=true
           ·replace H:=sT c20 H
            rw [c20]
            refine goK hT 4 (K4 1111111111111110 6) ⟨187,[(18,.own 1 2 0 v8.1.length),(20,.i v7),(174,.b (v8.2 == 0))],[eR52 y3_r0,eR41 v8.1]⟩ ?_
            by_cases c21:v8.2=0
            ·replace H:=sT c21 H
             rw [eqT c21]
             refine goK hT 5 (K4 1111111111111110 11) ⟨187,[(18,.own 1 2 0 v8.1.length),(20,.i v7),(179,.b ((v8.1.length:Int) == 1))],[eR52 y3_r0,eR41 v8.1]⟩ ?_
             by_cases c22:(v8.1.length:Int)=1
             ·replace H:=sT c22 H
              rw [eqT c22]
              refine goK hT 1 (K4 1111111111111110 12) ⟨187,[(20,.i v7),(179,.b true),(180,.own 1 2 0 v8.1.length)],[eR52 y3_r0,eR41 v8.1]⟩ ?_
              obtain ⟨h23,H⟩:=sC H
              refine ak_idx hT [20,179,181] (i:=0) (n:=(v8.1.length:Int)) h23.1 h23.2 (k':=(K4 1111111111111110 13)) (st':=⟨187,[(20,.i v7),(179,.b true),(181,.ptr 1 2 0 0)],[eR52 y3_r0,eR41 v8.1]⟩) (by kernel_rfl) ?_
              refine ak_ld hT [20,179,182] (i:=0) (n:=v8.1.length) (by first | omega | decide) (k':=(K4 1111111111111110 14)) (st':=⟨187,[(20,.i v7),(179,.b true),(182,.d (eG41 (v8.1.getD 0 api_Finding.z)))],[eR52 y3_r0,eR41 v8.1]⟩) (by kernel_rfl) ?_
              refine goCut hT 6 (K4 111111111111111 1) [] ⟨187,[(6,.b ((((v8.1.getD 0 api_Finding.z).At) == v7) && (((v8.1.getD 0 api_Finding.z).Why) == 4)))],[]⟩ h0 ?_
              exact Jj4 ((((v8.1.getD 0 api_Finding.z).At) == v7) && (((v8.1.getD 0 api_Finding.z).Why) == 4)) H
             ·replace H:=sF c22 H
              rw [eqF c22]
              refine goCut hT 9 (K4 111111111111111 1) [] ⟨187,[(6,.b false)],[]⟩ h0 ?_
              exact Jj4 false H
            ·replace H:=sF c21 H
             rw [eqF c21]
             refine goCut hT 14 (K4 111111111111111 1) [] ⟨187,[(6,.b false)],[]⟩ h0 ?_
             exact Jj4 false H
           ·replace H:=sF c20 H
            rw [boF c20]
            refine goCut hT 18 (K4 111111111111111 1) [] ⟨187,[(6,.b false)],[]⟩ h0 ?_
            exact Jj4 false H
          refine ak_idx hT [0,8,20,151] (i:=v7) (n:=(x1_r0.length:Int)) h16.1 h16.2 (k':=(K4 1111111111110 3)) (st':=⟨187,[(0,.d (eL74 true a0)),(8,.own 0 13 0 x1_r0.length),(20,.i v7),(151,.ptr 0 13 v7.toNat 0)],[eR52 x1_r0,eR3 x1_r1]⟩) (by kernel_rfl) ?_
          refine goK hT 9 (K4 111111111111100 3) ⟨187,[(0,.d (eL74 true a0)),(8,.own 0 13 0 x1_r0.length),(20,.i v7),(21,.ptr 0 13 v7.toNat 10),(155,.ptr 0 13 v7.toNat 11)],[eR52 x1_r0,eR3 x1_r1]⟩ ?_
          refine ak_ld hT [0,8,20,21,156] (i:=v7.toNat) (n:=x1_r0.length) (ltN h16.1 h16.2) (k':=(K4 111111111111100 4)) (st':=⟨187,[(0,.d (eL74 true a0)),(8,.own 0 13 0 x1_r0.length),(20,.i v7),(21,.ptr 0 13 v7.toNat 10),(156,.b (((x1_r0.getD v7.toNat api_Event.z).Cell).Some))],[eR52 x1_r0,eR3 x1_r1]⟩) (by kernel_rfl) ?_
          refine goK hT 1 (K4 11111111111110 1) ⟨187,[(0,.d (eL74 true a0)),(8,.own 0 13 0 x1_r0.length),(20,.i v7),(21,.ptr 0 13 v7.toNat 10),(156,.b (((x1_r0.getD v7.toNat api_Event.z).Cell).Some))],[eR52 x1_r0,eR3 x1_r1]⟩ ?_
          by_cases c17:(((x1_r0.getD v7.toNat api_Event.z).Cell).Some)=true
          ·replace H:=sT c17 H
           rw [c17]
           refine goK hT 5 (K4 1111111111111010 3) ⟨187,[(0,.d (eL74 true a0)),(8,.own 0 13 0 x1_r0.length),(20,.i v7),(158,.d (.agg [.i 0,.b false])),(159,.ptr 0 13 v7.toNat 10)],[eR52 x1_r0,eR3 x1_r1]⟩ ?_
           refine ak_st (id:=0) (kk:=13) (i:=v7.toNat) (off:=10) (s:=2) (n:=x1_r0.length) (ty:=52) (ds:=[.i 0,.b false]) (g:=vec api_Event.e api_Event.z x1_r0) (k':=(K4 1111111111111010 4)) hT [0,8,20] (vec api_Event.e api_Event.z (splicelaw24_AuditRight.q2 x1_r0 v7)) (by kernel_rfl) (by kernel_rfl) (ltN h16.1 h16.2) ((vec_set (ltN h16.1 h16.2)).trans (by kernel_rfl)) vec_set_ne (st':=⟨187,[(0,.d (.sl true a0.length (vec api_Entry.e api_Entry.z a0))),(8,.own 0 13 0 (x1_r0.length)),(20,.i v7)],[.flat false 13 52 x1_r0.length (vec api_Event.e api_Event.z (splicelaw24_AuditRight.q2 x1_r0 v7)),.flat false 1 3 x1_r1.length (vec (eI .i64) 0 x1_r1)]⟩) (by kernel_rfl) ?_
           refine ak_eq (show x1_r0.length=(splicelaw24_AuditRight.q2 x1_r0 v7).length from (List.length_set ..).symm) (fun nn=>⟨187,[(0,.d (.sl true a0.length (vec api_Entry.e api_Entry.z a0))),(8,.own 0 13 0 (nn)),(20,.i v7)],[.flat false 13 52 nn (vec api_Event.e api_Event.z (splicelaw24_AuditRight.q2 x1_r0 v7)),.flat false 1 3 x1_r1.length (vec (eI .i64) 0 x1_r1)]⟩) ?_
           refine goCut hT 1 (K4 1111111111111 1) [0] ⟨187,[(0,.d (eL74 true a0)),(8,.own 0 13 0 (splicelaw24_AuditRight.q2 x1_r0 v7).length),(20,.i v7)],[eR52 (splicelaw24_AuditRight.q2 x1_r0 v7)]⟩ h0 ?_
           exact Jj3 (splicelaw24_AuditRight.q2 x1_r0 v7) H
          ·replace H:=sF c17 H
           rw [boF c17]
           refine goK hT 5 (K4 1111111111111011 3) ⟨187,[(0,.d (eL74 true a0)),(8,.own 0 13 0 x1_r0.length),(20,.i v7),(161,.d (.agg [.i 1,.b true])),(162,.ptr 0 13 v7.toNat 10)],[eR52 x1_r0,eR3 x1_r1]⟩ ?_
           refine ak_st (id:=0) (kk:=13) (i:=v7.toNat) (off:=10) (s:=2) (n:=x1_r0.length) (ty:=52) (ds:=[.i 1,.b true]) (g:=vec api_Event.e api_Event.z x1_r0) (k':=(K4 1111111111111011 4)) hT [0,8,20] (vec api_Event.e api_Event.z (splicelaw24_AuditRight.q3 x1_r0 v7)) (by kernel_rfl) (by kernel_rfl) (ltN h16.1 h16.2) ((vec_set (ltN h16.1 h16.2)).trans (by kernel_rfl)) vec_set_ne (st':=⟨187,[(0,.d (.sl true a0.length (vec api_Entry.e api_Entry.z a0))),(8,.own 0 13 0 (x1_r0.length)),(20,.i v7)],[.flat false 13 52 x1_r0.length (vec api_Event.e api_Event.z (splicelaw24_AuditRight.q3 x1_r0 v7)),.flat false 1 3 x1_r1.length (vec (eI .i64) 0 x1_r1)]⟩) (by kernel_rfl) ?_
           refine ak_eq (show x1_r0.length=(splicelaw24_AuditRight.q3 x1_r0 v7).length from (List.length_set ..).symm) (fun nn=>⟨187,[(0,.d (.sl true a0.length (vec api_Entry.e api_Entry.z a0))),(8,.own 0 13 0 (nn)),(20,.i v7)],[.flat false 13 52 nn (vec api_Event.e api_Event.z (splicelaw24_AuditRight.q3 x1_r0 v7)),.flat false 1 3 x1_r1.length (vec (eI .i64) 0 x1_r1)]⟩) ?_
           refine goCut hT 1 (K4 1111111111111 1) [0] ⟨187,[(0,.d (eL74 true a0)),(8,.own 0 13 0 (splicelaw24_AuditRight.q3 x1_r0 v7).length),(20,.i v7)],[eR52 (splicelaw24_AuditRight.q3 x1_r0 v7)]⟩ h0 ?_
           exact Jj3 (splicelaw24_AuditRight.q3 x1_r0 v7) H
       refine ak_callP (avs:=[.d (eL74 true a0),.own 0 13 0 x1_r0.length]) (dst:=some 122) (k':=(K4 111111110 3)) [0,2,8,9,122] [] hP enters_8 (audit_Check.says (t0:=true) (t1:=false) a0 x1_r0 h8) (by kernel_rfl) (hands_none _) (.cons (pass_d _) (.cons (.lend (ty:=52) (by kernel_rfl) rfl) .nil)) (st':=⟨187,[(0,.d (eL74 true a0)),(2,.i a2),(8,.own 0 13 0 x1_r0.length),(9,.own 1 1 0 x1_r1.length),(122,.tup [.own 4 2 0 v5.1.length,.i v5.2])],[eR52 x1_r0,eR3 x1_r1,.box 43 [.i x1_b2_0,.i x1_b2_1,.i x1_b2_2,.i x1_b2_3],.box 43 [.i x1_b3_0,.i x1_b3_1,.i x1_b3_2,.i x1_b3_3],eR41 v5.1]⟩) (by kernel_rfl) ?_
       refine goK hT 12 (K4 11111111100 3) ⟨187,[(0,.d (eL74 true a0)),(2,.i a2),(8,.own 0 13 0 x1_r0.length),(9,.own 1 1 0 x1_r1.length),(18,.own 4 2 0 v5.1.length),(127,.b (v5.2 != 0))],[eR52 x1_r0,eR3 x1_r1,.box 43 [.i x1_b2_0,.i x1_b2_1,.i x1_b2_2,.i x1_b2_3],.box 43 [.i x1_b3_0,.i x1_b3_1,.i x1_b3_2,.i x1_b3_3],eR41 v5.1]⟩ ?_
       by_cases c9:v5.2=0
       ·replace H:=sT c9 H
        rw [neF c9]
        refine goCut hT 5 (K4 1111111110 1) [0,1] ⟨187,[(0,.d (eL74 true a0)),(2,.i a2),(8,.own 0 13 0 x1_r0.length),(9,.own 1 1 0 x1_r1.length),(131,.b ((v5.1.length:Int) != 0))],[eR52 x1_r0,eR3 x1_r1]⟩ h0 ?_
        exact Jj2 ((v5.1.length:Int) != 0) H
       ·replace H:=sF c9 H
        rw [neT c9]
        refine goCut hT 5 (K4 1111111110 1) [0,1] ⟨187,[(0,.d (eL74 true a0)),(2,.i a2),(8,.own 0 13 0 x1_r0.length),(9,.own 1 1 0 x1_r1.length),(131,.b true)],[eR52 x1_r0,eR3 x1_r1]⟩ h0 ?_
        exact Jj2 true H
   refine cutK [2,3,0,1] ⟨187,[(0,.d (eL74 true a0)),(1,.d (eL52 t1 a1)),(2,.i a2),(7,.d (eL98 true v4)),(8,.own 0 13 0 ([]:List api_Event).length),(9,.own 1 1 0 ([]:List Int).length),(10,.ptr 2 0 0 0),(11,.ptr 3 0 0 0),(12,.i 0)],[eR52 ([]:List api_Event),eR3 ([]:List Int),.box 43 [.i 0,.i 0,.i 0,.i 0],.box 43 [.i 0,.i 0,.i 0,.i 0]]⟩ h0 ?_
   obtain ⟨n,H⟩:=loopC H
   exact (L n) 0 ([]:List api_Event) ([]:List Int) 0 0 0 0 0 0 0 0 H
 refine ak_callP (avs:=[.d (eL74 true a0),.d (eL52 t1 a1)]) (dst:=some 24) (k':=(K4 1100 3)) [0,1,2,24] [] hP enters_6 (splicelaw24_few.says (t0:=true) (t1:=t1) a0 a1 h1) (by kernel_rfl) (hands_none _) (.cons (pass_d _) (.cons (pass_d _) .nil)) (st':=⟨187,[(0,.d (eL74 true a0)),(1,.d (eL52 t1 a1)),(2,.i a2),(24,.b v1)],[]⟩) (by kernel_rfl) ?_
 refine goK hT 2 (K4 1100 5) ⟨187,[(0,.d (eL74 true a0)),(1,.d (eL52 t1 a1)),(2,.i a2),(26,.b (!v1))],[]⟩ ?_
 by_cases c2:v1=true
 ·replace H:=iT c2 H
  rw [c2]
  refine goK hT 1 (K4 1100 6) ⟨187,[(0,.d (eL74 true a0)),(1,.d (eL52 t1 a1)),(2,.i a2),(26,.b false),(27,.d (eL74 true a0))],[]⟩ ?_
  obtain ⟨v2,h3,H⟩:=ibC H
  refine ak_callP (avs:=[.d (eL74 true a0)]) (dst:=some 28) (k':=(K4 1100 7)) [0,1,2,26,28] [] hP enters_12 (audit_Order.says (t0:=true) a0 h3) (by kernel_rfl) (hands_none _) (.cons (pass_d _) .nil) (st':=⟨187,[(0,.d (eL74 true a0)),(1,.d (eL52 t1 a1)),(2,.i a2),(26,.b false),(28,.b v2)],[]⟩) (by kernel_rfl) ?_
  refine goK hT 3 (K4 110 1) ⟨187,[(0,.d (eL74 true a0)),(1,.d (eL52 t1 a1)),(2,.i a2),(30,.b (!v2))],[]⟩ ?_
  exact Jj1 (!v2) H
 ·replace H:=iF c2 H
  rw [boF c2]
  refine goK hT 5 (K4 110 1) ⟨187,[(0,.d (eL74 true a0)),(1,.d (eL52 t1 a1)),(2,.i a2),(30,.b true)],[]⟩ ?_
  exact Jj1 true H
end Go.SyP
