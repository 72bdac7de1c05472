/- Certificates, printed by gen.py. -/
import Derived.Test.YtdndobkfnmommaaG24Cp0
set_option linter.unusedVariables false
set_option linter.unusedSimpArgs false
namespace Go.SyP
open Go Go.Sy Go.Proofs


theorem splicelaw12_Ref_c8.says (a0:List api_Entry) {r:spliceref12_Core} (H:splicelaw12_Ref_c8 a0=some r):Says Try.prog 24 [] [.d (.agg [.i 0,.i 0,.i 0,.i 0,.b false,.b false,.ns,.ns,eL74 true a0,.ns])] [] (.d (eG84 r)):=by
 refine says_of Try.func24 rfl (nt:=131) rfl (Nat.le_of_ble_eq_true rfl) fun X hP h0 hX=>?_
 have hT:TabOk X.P T:=hP▸tok
 have hf:X.P.funcs[24]? = some Try.f24:=hP▸Try.func24
 refine goK hT 6 (K24 11 0) ⟨131,[(1,.ptr 0 0 0 0),(2,.ptr 1 0 0 0)],[.box 89 (splicelaw12_Ref_c8.q2 a0),.box 84 (splicelaw12_Ref_c8.q3)]⟩ ?_
 obtain ⟨v1,h1,H⟩:=ibC H
 refine ak_drawAtE (nt:=131) (hP▸mixed) 15 [14] [1,2] [(1,.ptr 0 0 0 0),(2,.ptr 1 0 0 0)] [some (.ptr 0 0 0 0),some (.i 0),some (.ptr 0 0 0 1),some (.d (.agg [.i 0,.i 0])),some (.ptr 0 0 0 3),some (.i 0),some (.ptr 0 0 0 4),some (.b false),some (.ptr 0 0 0 5),some (.b false),some (.ptr 0 0 0 7),some (.ns),some (.d (eL105 true v1)),some (.d (.agg [.i 0,.i 0,.i 0,.i 0,.b false,.b false,.ns,eL105 true v1,.ns,.ns])),some (.ptr 2 0 0 0)] [[.box 89 (splicelaw12_Ref_c8.q2 a0),.box 84 (splicelaw12_Ref_c8.q3)],[.box 89 (splicelaw12_Ref_c8.q2 a0),.box 84 (splicelaw12_Ref_c8.q3),.box 84 (splicelaw12_Ref_c8.q3)]] (by kernel_rfl) (by kernel_rfl) (by kernel_rfl) (by kernel_rfl) ⟨(opXE (opGE (opES (opGE (opGE (opGE (opGE (opGE (opGE (opGE (opGE (opGE (opGE (opGE (opGE opE0 hT) hT) hT) hT) hT) hT) hT) hT) hT) hT) hT) hT) (fun R rest h=>ak_callD (avs:=[.ns]) (dst:=some 21) hP enters_44 (Says.seal (splicelaw05_Refs.says (t0:=true) ([]:List api_Pair) h1)) (by kernel_rfl) (.cons (.nil _ _) .nil) (by kernel_rfl) h)) hT)),(op_goFK hT),(opXE (opGE (opES (opGE (opGE (opGE (opGE (opGE (opGE (opGE (opGE (opGE (opGE (opGE (opGE opE0 hT) hT) hT) hT) hT) hT) hT) hT) hT) hT) hT) hT) (fun R rest h=>ak_callD (avs:=[.ns]) (dst:=some 21) hP enters_44 (Says.seal (splicelaw05_Refs.says (t0:=true) ([]:List api_Pair) h1)) (by kernel_rfl) (.cons (.nil _ _) .nil) (by kernel_rfl) h)) hT))⟩ ?_
 refine goK hT 9 (K24 111010 0) ⟨131,[(1,.ptr 0 0 0 0),(2,.ptr 1 0 0 0),(3,.ptr 2 0 0 0),(4,.i 0)],[.box 89 (splicelaw12_Ref_c8.q2 a0),.box 84 (splicelaw12_Ref_c8.q3),.box 84 [.i 0,.i 0,.i 0,.i 0,.b false,.b false,.ns,.d (eL105 true v1),.ns,.ns]]⟩ ?_
 have L:∀ n,(∀ (_:Unit),iter (splicelaw12_Ref_c8.step a0 v1) n (.l1)=some r→AK X 24 ((K24 111010 0)) (Back X [] (.d (eG84 r))) ⟨131,[(1,.ptr 0 0 0 0),(2,.ptr 1 0 0 0),(3,.ptr 2 0 0 0),(4,.i 0)],[.box 89 (splicelaw12_Ref_c8.q2 a0),.box 84 (splicelaw12_Ref_c8.q3),.box 84 [.i 0,.i 0,.i 0,.i 0,.b false,.b false,.ns,.d (eL105 true v1),.ns,.ns]]⟩)∧(∀ (x2_7:Int) (x2_r3:List spliceref12_Entry),iter (splicelaw12_Ref_c8.step a0 v1) n (.l2 x2_7 x2_r3)=some r→AK X 24 ((K24 1111010 0)) (Back X [] (.d (eG84 r))) ⟨131,[(1,.ptr 0 0 0 0),(2,.ptr 1 0 0 0),(3,.ptr 2 0 0 0),(7,.i x2_7)],(splicelaw12_Ref_c8.q1 a0 v1 x2_r3)⟩)∧(∀ (x2_r3:List spliceref12_Entry),iter (splicelaw12_Ref_c8.step a0 v1) n (.l3 x2_r3)=some r→AK X 24 ((K24 11111010 0)) (Back X [] (.d (eG84 r))) ⟨131,[(1,.ptr 0 0 0 0),(2,.ptr 1 0 0 0),(3,.ptr 2 0 0 0),(8,.i 0)],(splicelaw12_Ref_c8.q1 a0 v1 x2_r3)⟩):=by
  intro n
  induction n with
  | zero=>exact ⟨fun _ H=>iter0 H,fun _ _ H=>iter0 H,fun _ H=>iter0 H⟩
  | succ n ih=>
   refine ⟨?_, ?_, ?_⟩
   ·intro _ H
    refine goK hT 18 (K24 1111010 0) ⟨131,[(1,.ptr 0 0 0 0),(2,.ptr 1 0 0 0),(3,.ptr 2 0 0 0),(7,.i 0)],[.box 89 (splicelaw12_Ref_c8.q2 a0),.box 84 (splicelaw12_Ref_c8.q3),.box 84 [.i 0,.i 0,.i 0,.i 0,.b false,.b false,.ns,.d (eL105 true v1),.ns,.ns]]⟩ ?_
    refine ak_nilBox (tb:=84) (cs:=[.i 0,.i 0,.i 0,.i 0,.b false,.b false,.ns,.d (eL105 true v1),.ns,.ns]) 2 8 9 98 (vec spliceref12_Entry.e spliceref12_Entry.z []) (st':=⟨131,[(1,.ptr 0 0 0 0),(2,.ptr 1 0 0 0),(3,.ptr 2 0 0 0),(7,.i 0)],[.box 89 (splicelaw12_Ref_c8.q2 a0),.box 84 (splicelaw12_Ref_c8.q3),.box 84 [.i 0,.i 0,.i 0,.i 0,.b false,.b false,.ns,.d (eL105 true v1),.own 3 9 0 0,.ns],eR98 ([]:List spliceref12_Entry)]⟩) (by kernel_rfl) (by kernel_rfl) ?_
    refine cutK [0,1,2,3] ⟨131,[(1,.ptr 0 0 0 0),(2,.ptr 1 0 0 0),(3,.ptr 2 0 0 0),(7,.i 0)],[.box 89 (splicelaw12_Ref_c8.q2 a0),.box 84 (splicelaw12_Ref_c8.q3),.box 84 [.i 0,.i 0,.i 0,.i 0,.b false,.b false,.ns,.d (eL105 true v1),.own 3 9 0 ([]:List spliceref12_Entry).length,.ns],eR98 ([]:List spliceref12_Entry)]⟩ h0 ?_
    exact ih.2.1 0 ([]:List spliceref12_Entry) H
   ·intro x2_7 x2_r3 H
    refine goK hT 9 (K24 111101000 1) ⟨131,[(1,.ptr 0 0 0 0),(2,.ptr 1 0 0 0),(3,.ptr 2 0 0 0),(7,.i x2_7),(85,.b (decide (x2_7 < (a0.length:Int))))],(splicelaw12_Ref_c8.q1 a0 v1 x2_r3)⟩ ?_
    by_cases c2:x2_7 < (a0.length:Int)
    ·replace H:=sT c2 H
     rw [decide_eq_true c2]
     refine goK hT 2 (K24 11110100 1) (splicelaw12_Ref_c8.s1 x2_7 a0 v1 x2_r3) ?_
     refine goK hT 2 (K24 1111010010 0) (splicelaw12_Ref_c8.s1 x2_7 a0 v1 x2_r3) ?_
     obtain ⟨h3,H⟩:=sC H
     obtain ⟨v2,h4,H⟩:=sbC H
     refine ak_drawAtE (nt:=131) (hP▸mixed) 23 [22] [1,2,3,7] [(1,.ptr 0 0 0 0),(2,.ptr 1 0 0 0),(3,.ptr 2 0 0 0),(7,.i x2_7)] [some (.ptr 2 0 0 8),some (.own 3 9 0 x2_r3.length),some (.ptr 0 0 0 8),some (.d (eL74 true a0)),some (.i x2_7),some (.d (eP74 true a0 x2_7.toNat 0)),some (.d (eP74 true a0 x2_7.toNat 0)),some (.d (eG48 ((a0.getD x2_7.toNat api_Entry.z).M))),some (.d (eG57 v2)),some (.ptr 0 0 0 8),some (.d (eL74 true a0)),some (.i x2_7),some (.d (eP74 true a0 x2_7.toNat 0)),some (.d (eP74 true a0 x2_7.toNat 7)),some (.i ((a0.getD x2_7.toNat api_Entry.z).Time)),some (.ptr 0 0 0 8),some (.d (eL74 true a0)),some (.i x2_7),some (.d (eP74 true a0 x2_7.toNat 0)),some (.d (eP74 true a0 x2_7.toNat 8)),some (.b ((a0.getD x2_7.toNat api_Entry.z).Done)),some (.d (.agg [.i v2.Client,.i v2.Seq,.i v2.Kind,eL105 true v2.Pairs,.i v2.Over.Lo,.i v2.Over.Hi,.i v2.Old,.i ((a0.getD x2_7.toNat api_Entry.z).Time),.b ((a0.getD x2_7.toNat api_Entry.z).Done)])),some (.own 4 9 0 1)] [[.box 89 (splicelaw12_Ref_c8.q2 a0),.box 84 (splicelaw12_Ref_c8.q3),.box 84 (splicelaw12_Ref_c8.q4 v1 x2_r3),eR98 x2_r3],[.box 89 (splicelaw12_Ref_c8.q2 a0),.box 84 (splicelaw12_Ref_c8.q3),.box 84 (splicelaw12_Ref_c8.q4 v1 x2_r3),eR98 x2_r3,.flat false 9 98 1 (fun j=>[[.i v2.Client,.i v2.Seq,.i v2.Kind,eL105 true v2.Pairs,.i v2.Over.Lo,.i v2.Over.Hi,.i v2.Old,.i ((a0.getD x2_7.toNat api_Entry.z).Time),.b ((a0.getD x2_7.toNat api_Entry.z).Done)]].getD j [])]] (by kernel_rfl) (by kernel_rfl) (by kernel_rfl) (by kernel_rfl) ⟨(opXE (opGE (opGE (opGE (opES (opGE (opGE (opGE (opGE (opGE (opES (opGE (opGE (opGE (opES (opGE (opGE (opES (opGE (opGE (opGE (opGE (opGE opE0 hT) hT) hT) hT) hT) (fun R rest h=>ak_idx0 hT (i:=x2_7) (n:=(a0.length:Int)) h3.1 h3.2 (by kernel_rfl) h)) hT) hT) (fun R rest h=>ak_callD (avs:=[.d (eG48 ((a0.getD x2_7.toNat api_Entry.z).M))]) (dst:=some 96) hP enters_15 (splicelaw04_Ref.says ((a0.getD x2_7.toNat api_Entry.z).M) h4) (by kernel_rfl) (.cons (pass_d _) .nil) (by kernel_rfl) h)) hT) hT) hT) (fun R rest h=>ak_idx0 hT (i:=x2_7) (n:=(a0.length:Int)) h3.1 h3.2 (by kernel_rfl) h)) hT) hT) hT) hT) hT) (fun R rest h=>ak_idx0 hT (i:=x2_7) (n:=(a0.length:Int)) h3.1 h3.2 (by kernel_rfl) h)) hT) hT) hT)),(op_goFK hT),(opXE (opGE (opGE (opGE (opES (opGE (opGE (opGE (opGE (opGE (opES (opGE (opGE (opGE (opES (opGE (opGE (opES (opGE (opGE (opGE (opGE (opGE opE0 hT) hT) hT) hT) hT) (fun R rest h=>ak_idx0 hT (i:=x2_7) (n:=(a0.length:Int)) h3.1 h3.2 (by kernel_rfl) h)) hT) hT) (fun R rest h=>ak_callD (avs:=[.d (eG48 ((a0.getD x2_7.toNat api_Entry.z).M))]) (dst:=some 96) hP enters_15 (splicelaw04_Ref.says ((a0.getD x2_7.toNat api_Entry.z).M) h4) (by kernel_rfl) (.cons (pass_d _) .nil) (by kernel_rfl) h)) hT) hT) hT) (fun R rest h=>ak_idx0 hT (i:=x2_7) (n:=(a0.length:Int)) h3.1 h3.2 (by kernel_rfl) h)) hT) hT) hT) hT) hT) (fun R rest h=>ak_idx0 hT (i:=x2_7) (n:=(a0.length:Int)) h3.1 h3.2 (by kernel_rfl) h)) hT) hT) hT))⟩ ?_
     refine goK hT 0 (K24 11110100100 23) ⟨131,[(1,.ptr 0 0 0 0),(2,.ptr 1 0 0 0),(3,.ptr 2 0 0 0),(7,.i x2_7),(89,.own 3 9 0 x2_r3.length),(110,.own 4 9 0 1)],[.box 89 (splicelaw12_Ref_c8.q2 a0),.box 84 (splicelaw12_Ref_c8.q3),.box 84 (splicelaw12_Ref_c8.q4 v1 x2_r3),eR98 x2_r3,.flat false 9 98 1 (fun j=>[[.i v2.Client,.i v2.Seq,.i v2.Kind,eL105 true v2.Pairs,.i v2.Over.Lo,.i v2.Over.Hi,.i v2.Old,.i ((a0.getD x2_7.toNat api_Entry.z).Time),.b ((a0.getD x2_7.toNat api_Entry.z).Done)]].getD j [])]⟩ ?_
     obtain ⟨h5,H⟩:=sC H
     refine ak_append1 (id:=3) (kk:=9) (by':=88) (t:=33) (e:=98) (z:=[.int .i64 0,.int .i64 0,.int .i64 0,.slice none 0 0,.int .i64 0,.int .i64 0,.int .i64 0,.int .i64 0,.bool false]) (dst:=some 111) (id2:=4) (e2:=98) (fz:=false) (k':=(K24 11110100100 24)) hT spliceref12_Entry.e spliceref12_Entry.z x2_r3 (⟨v2,(a0.getD x2_7.toNat api_Entry.z).Time,(a0.getD x2_7.toNat api_Entry.z).Done⟩:spliceref12_Entry) [1,2,3,7,111] (by kernel_rfl) (by kernel_rfl) (by kernel_rfl) (by kernel_rfl) (by kernel_rfl) (by kernel_rfl) (by kernel_rfl) h5 (by omega) (st':=⟨131,[(1,.ptr 0 0 0 0),(2,.ptr 1 0 0 0),(3,.ptr 2 0 0 0),(7,.i x2_7),(111,.own 5 9 0 ((x2_r3 ++ [(⟨v2,(a0.getD x2_7.toNat api_Entry.z).Time,(a0.getD x2_7.toNat api_Entry.z).Done⟩:spliceref12_Entry)]).length))],[.box 89 (splicelaw12_Ref_c8.q2 a0),.box 84 (splicelaw12_Ref_c8.q3),.box 84 (splicelaw12_Ref_c8.q4 v1 x2_r3),.gone,.flat false 9 98 1 (fun j=>[[.i v2.Client,.i v2.Seq,.i v2.Kind,eL105 true v2.Pairs,.i v2.Over.Lo,.i v2.Over.Hi,.i v2.Old,.i ((a0.getD x2_7.toNat api_Entry.z).Time),.b ((a0.getD x2_7.toNat api_Entry.z).Done)]].getD j []),eR98 (x2_r3 ++ [(⟨v2,(a0.getD x2_7.toNat api_Entry.z).Time,(a0.getD x2_7.toNat api_Entry.z).Done⟩:spliceref12_Entry)])]⟩) (by kernel_rfl) ?_
     refine goCut hT 10 (K24 1111010 0) [0,1,2,5] ⟨131,[(1,.ptr 0 0 0 0),(2,.ptr 1 0 0 0),(3,.ptr 2 0 0 0),(7,.i (IntKind.wrap .i64 (x2_7+1)))],[.box 89 (splicelaw12_Ref_c8.q2 a0),.box 84 (splicelaw12_Ref_c8.q3),.box 84 [.i 0,.i 0,.i 0,.i 0,.b false,.b false,.ns,.d (eL105 true v1),.own 3 9 0 (x2_r3 ++ [(⟨v2,(a0.getD x2_7.toNat api_Entry.z).Time,(a0.getD x2_7.toNat api_Entry.z).Done⟩:spliceref12_Entry)]).length,.ns],eR98 (x2_r3 ++ [(⟨v2,(a0.getD x2_7.toNat api_Entry.z).Time,(a0.getD x2_7.toNat api_Entry.z).Done⟩:spliceref12_Entry)])]⟩ h0 ?_
     exact ih.2.1 (IntKind.wrap .i64 (x2_7+1)) (x2_r3 ++ [(⟨v2,(a0.getD x2_7.toNat api_Entry.z).Time,(a0.getD x2_7.toNat api_Entry.z).Done⟩:spliceref12_Entry)]) H
    ·replace H:=sF c2 H
     rw [decide_eq_false c2]
     refine goK hT 9 (K24 11111010 0) ⟨131,[(1,.ptr 0 0 0 0),(2,.ptr 1 0 0 0),(3,.ptr 2 0 0 0),(8,.i 0)],(splicelaw12_Ref_c8.q1 a0 v1 x2_r3)⟩ ?_
     exact ih.2.2 x2_r3 H
   ·intro x2_r3 H
    refine goK hT 14 (K24 1111110 1) ⟨131,[(2,.ptr 1 0 0 0),(130,.agg [.i 0,.i 0,.i 0,.i 0,.b false,.b false,.ns,.d (eL105 true v1),.own 3 9 0 x2_r3.length,.ns])],(splicelaw12_Ref_c8.q1 a0 v1 x2_r3)⟩ ?_
    refine ak_freeze 3 (kk:=9) (n:=x2_r3.length) (ty:=98) (g:=vec spliceref12_Entry.e spliceref12_Entry.z x2_r3) (by kernel_rfl) (st':=⟨131,[(2,.ptr 1 0 0 0),(130,.agg [.i 0,.i 0,.i 0,.i 0,.b false,.b false,.ns,.d (eL105 true v1),.own 3 9 0 x2_r3.length,.ns])],[.box 89 (splicelaw12_Ref_c8.q2 a0),.box 84 (splicelaw12_Ref_c8.q3),.box 84 (splicelaw12_Ref_c8.q4 v1 x2_r3),eF98 x2_r3]⟩) (by kernel_rfl) ?_
    refine ak_sealS (av:=.agg [.i 0,.i 0,.i 0,.i 0,.b false,.b false,.ns,.d (eL105 true v1),.own 3 9 0 x2_r3.length,.ns]) (y:=.agg [.i 0,.i 0,.i 0,.i 0,.b false,.b false,eL127 true ([]:List spliceref12_Wait),eL105 true v1,eL98 true x2_r3,eL132 true ([]:List spliceref12_Known)]) [2,130] 130 (st':=⟨131,[(2,.ptr 1 0 0 0),(130,.d (.agg [.i 0,.i 0,.i 0,.i 0,.b false,.b false,eL127 true ([]:List spliceref12_Wait),eL105 true v1,eL98 true x2_r3,eL132 true ([]:List spliceref12_Known)]))],[.box 89 (splicelaw12_Ref_c8.q2 a0),.box 84 (splicelaw12_Ref_c8.q3),.box 84 (splicelaw12_Ref_c8.q4 v1 x2_r3),eF98 x2_r3]⟩) (by kernel_rfl) (.agg (.cons (.d _) (.cons (.d _) (.cons (.d _) (.cons (.d _) (.cons (.d _) (.cons (.d _) (.cons (.nil _) (.cons (.d _) (.cons (.own (ty:=98) (k:=9) (by kernel_rfl)) (.cons (.nil _) .nil))))))))))) (by kernel_rfl) ?_
    refine goK hT 2 (K24 111111 1) ⟨131,[(2,.ptr 1 0 0 0)],[.box 89 (splicelaw12_Ref_c8.q2 a0),.box 84 [.i 0,.i 0,.i 0,.i 0,.b false,.b false,.d (eL127 true ([]:List spliceref12_Wait)),.d (eL105 true v1),.d (eL98 true x2_r3),.d (eL132 true ([]:List spliceref12_Known))],.box 84 (splicelaw12_Ref_c8.q4 v1 x2_r3),eF98 x2_r3]⟩ ?_
    obtain rfl:=retC H
    exact ak_retM hT hf hX (av:=.d (.agg [.i 0,.i 0,.i 0,.i 0,.b false,.b false,eL127 true ([]:List spliceref12_Wait),eL105 true v1,eL98 true x2_r3,eL132 true ([]:List spliceref12_Known)])) (by kernel_rfl) [] (sel_of_eq (by kernel_rfl)) (by decide) (by rw [h0];rfl) (by kernel_rfl) (fun _ h=>all_nil h) (.d (.agg (spliceref12_Core.nl _)))
 obtain ⟨n,H⟩:=loopC H
 exact (L n).1 () H


theorem splicelaw24_Entries.says (a0:List api_Entry) {r:List spliceref12_Entry} (H:splicelaw24_Entries a0=some r):Says Try.prog 10 [] [.d (eL74 true a0)] [] (.d (eL98 true r)):=by
 refine says_of Try.func10 rfl (nt:=7) rfl (Nat.le_of_ble_eq_true rfl) fun X hP h0 hX=>?_
 have hT:TabOk X.P T:=hP▸tok
 have hf:X.P.funcs[10]? = some Try.f10:=hP▸Try.func10
 refine goK hT 8 (K10 110 2) ⟨7,[(4,.d (.agg [.i 0,.i 0,.i 0,.i 0,.b false,.b false,.ns,.ns,eL74 true a0,.ns]))],[]⟩ ?_
 obtain ⟨v1,h1,H⟩:=ibC H
 refine ak_callP (avs:=[.d (.agg [.i 0,.i 0,.i 0,.i 0,.b false,.b false,.ns,.ns,eL74 true a0,.ns])]) (dst:=some 5) (k':=(K10 110 3)) [5] [] hP enters_24 (splicelaw12_Ref_c8.says a0 h1) (by kernel_rfl) (hands_none _) (.cons (pass_d _) .nil) (st':=⟨7,[(5,.d (eG84 v1))],[]⟩) (by kernel_rfl) ?_
 refine goK hT 3 (K10 11 1) ⟨7,[(2,.d (eL98 true v1.Log))],[]⟩ ?_
 obtain rfl:=retC H
 exact retK hf hX h0 (.d (eL98 true v1.Log)) [] (fun _ h=>all_nil h) (.d (.sl fun _ _=>spliceref12_Entry.nl _))


noncomputable abbrev splicelaw24_events.q1 (a0:List api_Event) (x1_4:Int) (v1:spliceref04_Mut):=(⟨(a0.getD x1_4.toNat api_Event.z).Kind,(a0.getD x1_4.toNat api_Event.z).Client,v1,(a0.getD x1_4.toNat api_Event.z).Key,(⟨((a0.getD x1_4.toNat api_Event.z).Cell).Val,((a0.getD x1_4.toNat api_Event.z).Cell).Some⟩:spliceref05_Cell),(a0.getD x1_4.toNat api_Event.z).Mark⟩:spliceref24_Event)


theorem splicelaw24_events.says {t0:Bool} (a0:List api_Event) {r:List spliceref24_Event} (H:splicelaw24_events a0=some r):Says Try.prog 11 [] [.d (eL52 t0 a0)] [eR91 r] (.own 0 13 0 r.length):=by
 refine says_of Try.func11 rfl (nt:=47) rfl (Nat.le_of_ble_eq_true rfl) fun X hP h0 hX=>?_
 have hT:TabOk X.P T:=hP▸tok
 have hf:X.P.funcs[11]? = some Try.f11:=hP▸Try.func11
 refine goK hT 15 (K11 111010 0) ⟨47,[(0,.d (eL52 t0 a0)),(3,.ns),(4,.i 0)],[]⟩ ?_
 refine ak_nilS [0,3,4] 3 13 91 (vec spliceref24_Event.e spliceref24_Event.z []) (st':=⟨47,[(0,.d (eL52 t0 a0)),(3,.own 0 13 0 0),(4,.i 0)],[eR91 ([]:List spliceref24_Event)]⟩) (by kernel_rfl) (by kernel_rfl) ?_
 have L:∀ n,(∀ (x1_4:Int) (x1_r0:List spliceref24_Event),iter (splicelaw24_events.step a0) n (.l1 x1_4 x1_r0)=some r→AK X 11 ((K11 111010 0)) (Back X [eR91 r] (.own 0 13 0 r.length)) ⟨47,[(0,.d (eL52 t0 a0)),(3,.own 0 13 0 x1_r0.length),(4,.i x1_4)],[eR91 x1_r0]⟩):=by
  intro n
  induction n with
  | zero=>exact fun _ _ H=>iter0 H
  | succ n ih=>
   ·intro x1_4 x1_r0 H
    refine goK hT 8 (K11 11101000 1) ⟨47,[(0,.d (eL52 t0 a0)),(3,.own 0 13 0 x1_r0.length),(4,.i x1_4),(8,.b (decide (x1_4 < (a0.length:Int))))],[eR91 x1_r0]⟩ ?_
    by_cases c1:x1_4 < (a0.length:Int)
    ·replace H:=sT c1 H
     rw [decide_eq_true c1]
     refine goK hT 2 (K11 1110100 1) ⟨47,[(0,.d (eL52 t0 a0)),(3,.own 0 13 0 x1_r0.length),(4,.i x1_4)],[eR91 x1_r0]⟩ ?_
     refine goK hT 2 (K11 111010010 0) ⟨47,[(0,.d (eL52 t0 a0)),(3,.own 0 13 0 x1_r0.length),(4,.i x1_4)],[eR91 x1_r0]⟩ ?_
     obtain ⟨h2,H⟩:=sC H
     obtain ⟨v1,h3,H⟩:=sbC H
     refine ak_drawAtE (nt:=47) (hP▸mixed) 34 [33] [0,3,4] [(0,.d (eL52 t0 a0)),(3,.own 0 13 0 x1_r0.length),(4,.i x1_4)] [some (.own 0 13 0 x1_r0.length),some (.d (eL52 t0 a0)),some (.i x1_4),some (.d (eP52 t0 a0 x1_4.toNat 0)),some (.d (eP52 t0 a0 x1_4.toNat 0)),some (.i ((a0.getD x1_4.toNat api_Event.z).Kind)),some (.d (eL52 t0 a0)),some (.i x1_4),some (.d (eP52 t0 a0 x1_4.toNat 0)),some (.d (eP52 t0 a0 x1_4.toNat 1)),some (.i ((a0.getD x1_4.toNat api_Event.z).Client)),some (.d (eL52 t0 a0)),some (.i x1_4),some (.d (eP52 t0 a0 x1_4.toNat 0)),some (.d (eP52 t0 a0 x1_4.toNat 2)),some (.d (eG48 ((a0.getD x1_4.toNat api_Event.z).M))),some (.d (eG57 v1)),some (.d (eL52 t0 a0)),some (.i x1_4),some (.d (eP52 t0 a0 x1_4.toNat 0)),some (.d (eP52 t0 a0 x1_4.toNat 9)),some (.i ((a0.getD x1_4.toNat api_Event.z).Key)),some (.d (eL52 t0 a0)),some (.i x1_4),some (.d (eP52 t0 a0 x1_4.toNat 0)),some (.d (eP52 t0 a0 x1_4.toNat 10)),some (.d (eG50 ((a0.getD x1_4.toNat api_Event.z).Cell))),some (.d (eL52 t0 a0)),some (.i x1_4),some (.d (eP52 t0 a0 x1_4.toNat 0)),some (.d (eP52 t0 a0 x1_4.toNat 12)),some (.i ((a0.getD x1_4.toNat api_Event.z).Mark)),some (.d (.agg [.i ((a0.getD x1_4.toNat api_Event.z).Kind),.i ((a0.getD x1_4.toNat api_Event.z).Client),.i v1.Client,.i v1.Seq,.i v1.Kind,eL105 true v1.Pairs,.i v1.Over.Lo,.i v1.Over.Hi,.i v1.Old,.i ((a0.getD x1_4.toNat api_Event.z).Key),.i (((a0.getD x1_4.toNat api_Event.z).Cell).Val),.b (((a0.getD x1_4.toNat api_Event.z).Cell).Some),.i ((a0.getD x1_4.toNat api_Event.z).Mark)])),some (.own 1 13 0 1)] [[eR91 x1_r0],[eR91 x1_r0,.flat false 13 91 1 (fun j=>[[.i ((a0.getD x1_4.toNat api_Event.z).Kind),.i ((a0.getD x1_4.toNat api_Event.z).Client),.i v1.Client,.i v1.Seq,.i v1.Kind,eL105 true v1.Pairs,.i v1.Over.Lo,.i v1.Over.Hi,.i v1.Old,.i ((a0.getD x1_4.toNat api_Event.z).Key),.i (((a0.getD x1_4.toNat api_Event.z).Cell).Val),.b (((a0.getD x1_4.toNat api_Event.z).Cell).Some),.i ((a0.getD x1_4.toNat api_Event.z).Mark)]].getD j [])]] (by kernel_rfl) (by kernel_rfl) (by kernel_rfl) (by kernel_rfl) ⟨(opXE (opGE (opGE (opGE (opES (opGE (opGE (opGE (opGE (opES (opGE (opGE (opGE (opGE (opES (opGE (opGE (opES (opGE (opGE (opES (opGE (opGE (opGE (opGE (opES (opGE (opGE (opGE (opGE (opES (opGE (opGE (opGE opE0 hT) hT) hT) (fun R rest h=>ak_idx0 hT (i:=x1_4) (n:=(a0.length:Int)) h2.1 h2.2 (by kernel_rfl) h)) hT) hT) hT) hT) (fun R rest h=>ak_idx0 hT (i:=x1_4) (n:=(a0.length:Int)) h2.1 h2.2 (by kernel_rfl) h)) hT) hT) hT) hT) (fun R rest h=>ak_idx0 hT (i:=x1_4) (n:=(a0.length:Int)) h2.1 h2.2 (by kernel_rfl) h)) hT) hT) (fun R rest h=>ak_callD (avs:=[.d (eG48 ((a0.getD x1_4.toNat api_Event.z).M))]) (dst:=some 27) hP enters_15 (splicelaw04_Ref.says ((a0.getD x1_4.toNat api_Event.z).M) h3) (by kernel_rfl) (.cons (pass_d _) .nil) (by kernel_rfl) h)) hT) hT) (fun R rest h=>ak_idx0 hT (i:=x1_4) (n:=(a0.length:Int)) h2.1 h2.2 (by kernel_rfl) h)) hT) hT) hT) hT) (fun R rest h=>ak_idx0 hT (i:=x1_4) (n:=(a0.length:Int)) h2.1 h2.2 (by kernel_rfl) h)) hT) hT) hT) hT) (fun R rest h=>ak_idx0 hT (i:=x1_4) (n:=(a0.length:Int)) h2.1 h2.2 (by kernel_rfl) h)) hT) hT) hT)),(op_goFK hT),(opXE (opGE (opGE (opGE (opES (opGE (opGE (opGE (opGE (opES (opGE (opGE (opGE (opGE (opES (opGE (opGE (opES (opGE (opGE (opES (opGE (opGE (opGE (opGE (opES (opGE (opGE (opGE (opGE (opES (opGE (opGE (opGE opE0 hT) hT) hT) (fun R rest h=>ak_idx0 hT (i:=x1_4) (n:=(a0.length:Int)) h2.1 h2.2 (by kernel_rfl) h)) hT) hT) hT) hT) (fun R rest h=>ak_idx0 hT (i:=x1_4) (n:=(a0.length:Int)) h2.1 h2.2 (by kernel_rfl) h)) hT) hT) hT) hT) (fun R rest h=>ak_idx0 hT (i:=x1_4) (n:=(a0.length:Int)) h2.1 h2.2 (by kernel_rfl) h)) hT) hT) (fun R rest h=>ak_callD (avs:=[.d (eG48 ((a0.getD x1_4.toNat api_Event.z).M))]) (dst:=some 27) hP enters_15 (splicelaw04_Ref.says ((a0.getD x1_4.toNat api_Event.z).M) h3) (by kernel_rfl) (.cons (pass_d _) .nil) (by kernel_rfl) h)) hT) hT) (fun R rest h=>ak_idx0 hT (i:=x1_4) (n:=(a0.length:Int)) h2.1 h2.2 (by kernel_rfl) h)) hT) hT) hT) hT) (fun R rest h=>ak_idx0 hT (i:=x1_4) (n:=(a0.length:Int)) h2.1 h2.2 (by kernel_rfl) h)) hT) hT) hT) hT) (fun R rest h=>ak_idx0 hT (i:=x1_4) (n:=(a0.length:Int)) h2.1 h2.2 (by kernel_rfl) h)) hT) hT) hT))⟩ ?_
     refine goK hT 0 (K11 1110100100 34) ⟨47,[(0,.d (eL52 t0 a0)),(4,.i x1_4),(11,.own 0 13 0 x1_r0.length),(44,.own 1 13 0 1)],[eR91 x1_r0,.flat false 13 91 1 (fun j=>[[.i ((a0.getD x1_4.toNat api_Event.z).Kind),.i ((a0.getD x1_4.toNat api_Event.z).Client),.i v1.Client,.i v1.Seq,.i v1.Kind,eL105 true v1.Pairs,.i v1.Over.Lo,.i v1.Over.Hi,.i v1.Old,.i ((a0.getD x1_4.toNat api_Event.z).Key),.i (((a0.getD x1_4.toNat api_Event.z).Cell).Val),.b (((a0.getD x1_4.toNat api_Event.z).Cell).Some),.i ((a0.getD x1_4.toNat api_Event.z).Mark)]].getD j [])]⟩ ?_
     obtain ⟨h4,H⟩:=sC H
     refine ak_append1 (id:=0) (kk:=13) (by':=120) (t:=35) (e:=91) (z:=[.int .i64 0,.int .i64 0,.int .i64 0,.int .i64 0,.int .i64 0,.slice none 0 0,.int .i64 0,.int .i64 0,.int .i64 0,.int .i64 0,.int .i64 0,.bool false,.int .i64 0]) (dst:=some 45) (id2:=1) (e2:=91) (fz:=false) (k':=(K11 1110100100 35)) hT spliceref24_Event.e spliceref24_Event.z x1_r0 (splicelaw24_events.q1 a0 x1_4 v1) [0,4,45] (by kernel_rfl) (by kernel_rfl) (by kernel_rfl) (by kernel_rfl) (by kernel_rfl) (by kernel_rfl) (by kernel_rfl) h4 (by omega) (st':=⟨47,[(0,.d (eL52 t0 a0)),(4,.i x1_4),(45,.own 2 13 0 ((x1_r0 ++ [(splicelaw24_events.q1 a0 x1_4 v1)]).length))],[.gone,.flat false 13 91 1 (fun j=>[[.i ((a0.getD x1_4.toNat api_Event.z).Kind),.i ((a0.getD x1_4.toNat api_Event.z).Client),.i v1.Client,.i v1.Seq,.i v1.Kind,eL105 true v1.Pairs,.i v1.Over.Lo,.i v1.Over.Hi,.i v1.Old,.i ((a0.getD x1_4.toNat api_Event.z).Key),.i (((a0.getD x1_4.toNat api_Event.z).Cell).Val),.b (((a0.getD x1_4.toNat api_Event.z).Cell).Some),.i ((a0.getD x1_4.toNat api_Event.z).Mark)]].getD j []),eR91 (x1_r0 ++ [(splicelaw24_events.q1 a0 x1_4 v1)])]⟩) (by kernel_rfl) ?_
     refine goCut hT 9 (K11 111010 0) [2] ⟨47,[(0,.d (eL52 t0 a0)),(3,.own 0 13 0 (x1_r0 ++ [(splicelaw24_events.q1 a0 x1_4 v1)]).length),(4,.i (IntKind.wrap .i64 (x1_4+1)))],[eR91 (x1_r0 ++ [(splicelaw24_events.q1 a0 x1_4 v1)])]⟩ h0 ?_
     exact ih (IntKind.wrap .i64 (x1_4+1)) (x1_r0 ++ [(splicelaw24_events.q1 a0 x1_4 v1)]) H
    ·replace H:=sF c1 H
     rw [decide_eq_false c1]
     refine goK hT 7 (K11 1111 1) ⟨47,[(2,.own 0 13 0 x1_r0.length)],[eR91 x1_r0]⟩ ?_
     obtain rfl:=retC H
     exact retK hf hX h0 (.own 0 13 0 x1_r0.length) [0] (fun _ h=>all_cons (nr_vec spliceref24_Event.nl) (fun _ h=>all_nil h) h) (.own _ _ _ _)
 refine cutK [0] ⟨47,[(0,.d (eL52 t0 a0)),(3,.own 0 13 0 ([]:List spliceref24_Event).length),(4,.i 0)],[eR91 ([]:List spliceref24_Event)]⟩ h0 ?_
 obtain ⟨n,H⟩:=loopC H
 exact (L n) 0 ([]:List spliceref24_Event) H


theorem spliceref03_One.says (a0:spliceref03_Span):Says Try.prog 30 [] [.d (eG55 a0)] [] (.b (spliceref03_One a0)):=by
 obtain ⟨r,H⟩:∃ r,spliceref03_One a0=r:=⟨_,rfl⟩
 rw [H]
 refine says_of Try.func30 rfl (nt:=18) rfl (Nat.le_of_ble_eq_true rfl) fun X hP h0 hX=>?_
 have hT:TabOk X.P T:=hP▸tok
 have hf:X.P.funcs[30]? = some Try.f30:=hP▸Try.func30
 have Jj1:∀ (y1_2:Bool),(spliceref03_One.j1 y1_2)=r→AK X 30 ((K30 11 1)) (Back X [] (.b r)) ⟨18,[(2,.b y1_2)],[]⟩:=by
  intro y1_2 H
  obtain rfl:=H
  exact retK hf hX h0 (.b y1_2) [] (fun _ h=>all_nil h) (.d (.v _))
 refine goK hT 11 (K30 110 4) ⟨18,[(1,.ptr 0 0 0 0),(6,.b (decide (a0.Lo≥0)))],[.box 55 (eC55 a0)]⟩ ?_
 by_cases c1:a0.Lo≥0
 ·replace H:=iT c1 H
  rw [decide_eq_true c1]
  refine goK hT 7 (K30 110 11) ⟨18,[(1,.ptr 0 0 0 0),(13,.b (decide (a0.Lo < a0.Hi)))],[.box 55 (eC55 a0)]⟩ ?_
  by_cases c2:a0.Lo < a0.Hi
  ·replace H:=iT c2 H
   rw [decide_eq_true c2]
   refine goCut hT 6 (K30 11 1) [] ⟨18,[(2,.b (decide (a0.Hi≤4096)))],[]⟩ h0 ?_
   exact Jj1 (decide (a0.Hi≤4096)) H
  ·replace H:=iF c2 H
   rw [decide_eq_false c2]
   refine goCut hT 6 (K30 11 1) [] ⟨18,[(2,.b false)],[]⟩ h0 ?_
   exact Jj1 false H
 ·replace H:=iF c1 H
  rw [decide_eq_false c1]
  refine goCut hT 13 (K30 11 1) [] ⟨18,[(2,.b false)],[]⟩ h0 ?_
  exact Jj1 false H


theorem spliceref04_value.says (a0:Int):Says Try.prog 32 [] [.i a0] [] (.b (spliceref04_value a0)):=by
 obtain ⟨r,H⟩:∃ r,spliceref04_value a0=r:=⟨_,rfl⟩
 rw [H]
 refine says_of Try.func32 rfl (nt:=9) rfl (Nat.le_of_ble_eq_true rfl) fun X hP h0 hX=>?_
 have hT:TabOk X.P T:=hP▸tok
 have hf:X.P.funcs[32]? = some Try.f32:=hP▸Try.func32
 have Jj1:∀ (y1_2:Bool),(spliceref04_value.j1 y1_2)=r→AK X 32 ((K32 11 1)) (Back X [] (.b r)) ⟨9,[(2,.b y1_2)],[]⟩:=by
  intro y1_2 H
  obtain rfl:=H
  exact retK hf hX h0 (.b y1_2) [] (fun _ h=>all_nil h) (.d (.v _))
 refine goK hT 9 (K32 110 3) ⟨9,[(0,.i a0),(5,.b (decide (a0≥(-1099511627776))))],[]⟩ ?_
 by_cases c1:a0≥(-1099511627776)
 ·replace H:=iT c1 H
  rw [decide_eq_true c1]
  refine goK hT 5 (K32 11 1) ⟨9,[(2,.b (decide (a0≤1099511627776)))],[]⟩ ?_
  exact Jj1 (decide (a0≤1099511627776)) H
 ·replace H:=iF c1 H
  rw [decide_eq_false c1]
  refine goK hT 5 (K32 11 1) ⟨9,[(2,.b false)],[]⟩ ?_
  exact Jj1 false H


theorem spliceref04_pairs.says {t0:Bool} (a0:List spliceref04_Pair) (a1:Int) (a2:Int) {r:Bool} (H:spliceref04_pairs a0 a1 a2=some r):Says Try.prog 31 [] [.d (eL105 t0 a0),.i a1,.i a2] [] (.b r):=by
 refine says_of Try.func31 rfl (nt:=47) rfl (Nat.le_of_ble_eq_true rfl) fun X hP h0 hX=>?_
 have hT:TabOk X.P T:=hP▸tok
 have hf:X.P.funcs[31]? = some Try.f31:=hP▸Try.func31
 have Jj1:∀ (y1_17:Bool),(spliceref04_pairs.j1 a0 y1_17)=some r→AK X 31 ((K31 110 1)) (Back X [] (.b r)) ⟨47,[(0,.d (eL105 t0 a0)),(17,.b y1_17)],[]⟩:=by
  intro y1_17 H
  by_cases c2:y1_17=true
  ·replace H:=iT c2 H
   rw [c2]
   refine goK hT 5 (K31 11010 1) ⟨47,[(6,.b false)],[]⟩ ?_
   obtain rfl:=retC H
   exact retK hf hX h0 (.b false) [] (fun _ h=>all_nil h) (.d (.v _))
  ·replace H:=iF c2 H
   rw [boF c2]
   refine goK hT 2 (K31 11 1) ⟨47,[(0,.d (eL105 t0 a0))],[]⟩ ?_
   refine goK hT 7 (K31 111010 0) ⟨47,[(0,.d (eL105 t0 a0)),(7,.i 0)],[]⟩ ?_
   have L:∀ n,(∀ (x1_7:Int),iter (spliceref04_pairs.step a0) n (.l1 x1_7)=some r→AK X 31 ((K31 111010 0)) (Back X [] (.b r)) ⟨47,[(0,.d (eL105 t0 a0)),(7,.i x1_7)],[]⟩):=by
    intro n
    induction n with
    | zero=>exact fun _ H=>iter0 H
    | succ n ih=>
     ·intro x1_7 H
      refine goK hT 8 (K31 11101000 1) ⟨47,[(0,.d (eL105 t0 a0)),(7,.i x1_7),(21,.b (decide (x1_7 < (a0.length:Int))))],[]⟩ ?_
      by_cases c3:x1_7 < (a0.length:Int)
      ·replace H:=sT c3 H
       rw [decide_eq_true c3]
       refine goK hT 2 (K31 1110100 1) ⟨47,[(0,.d (eL105 t0 a0)),(7,.i x1_7)],[]⟩ ?_
       refine goK hT 6 (K31 11101001000 2) ⟨47,[(0,.d (eL105 t0 a0)),(7,.i x1_7),(24,.d (eL105 t0 a0)),(25,.i x1_7)],[]⟩ ?_
       obtain ⟨h4,H⟩:=sC H
       have Jj2:∀ (y2_46:Bool),stk (spliceref04_pairs.j2 x1_7 y2_46) (iter (spliceref04_pairs.step a0) n)=some r→AK X 31 ((K31 1110100100 1)) (Back X [] (.b r)) ⟨47,[(0,.d (eL105 t0 a0)),(7,.i x1_7),(46,.b y2_46)],[]⟩:=by
        intro y2_46 H
        by_cases c7:y2_46=true
        ·replace H:=sT c7 H
         rw [c7]
         refine goK hT 5 (K31 111010010010 1) ⟨47,[(6,.b false)],[]⟩ ?_
         obtain rfl:=retC H
         exact retK hf hX h0 (.b false) [] (fun _ h=>all_nil h) (.d (.v _))
        ·replace H:=sF c7 H
         rw [boF c7]
         refine goK hT 3 (K31 11101001 1) ⟨47,[(0,.d (eL105 t0 a0)),(7,.i x1_7)],[]⟩ ?_
         refine goK hT 6 (K31 111010 0) ⟨47,[(0,.d (eL105 t0 a0)),(7,.i (IntKind.wrap .i64 (x1_7+1)))],[]⟩ ?_
         exact ih (IntKind.wrap .i64 (x1_7+1)) H
       refine ak_idx hT [0,7,26] (i:=x1_7) (n:=(a0.length:Int)) h4.1 h4.2 (k':=(K31 11101001000 3)) (st':=⟨47,[(0,.d (eL105 t0 a0)),(7,.i x1_7),(26,.d (eP105 t0 a0 x1_7.toNat 0))],[]⟩) (by kernel_rfl) ?_
       refine goK hT 4 (K31 11101001000 7) ⟨47,[(0,.d (eL105 t0 a0)),(7,.i x1_7),(30,.b (decide (((a0.getD x1_7.toNat spliceref04_Pair.z).Key) < 0)))],[]⟩ ?_
       by_cases c5:((a0.getD x1_7.toNat spliceref04_Pair.z).Key) < 0
       ·replace H:=sT c5 H
        rw [decide_eq_true c5]
        refine goK hT 17 (K31 1110100100 1) ⟨47,[(0,.d (eL105 t0 a0)),(7,.i x1_7),(46,.b true)],[]⟩ ?_
        exact Jj2 true H
       ·replace H:=sF c5 H
        rw [decide_eq_false c5]
        refine goK hT 2 (K31 11101001000 9) ⟨47,[(0,.d (eL105 t0 a0)),(7,.i x1_7),(30,.b false),(31,.d (eL105 t0 a0)),(32,.i x1_7)],[]⟩ ?_
        refine ak_idx hT [0,7,30,33] (i:=x1_7) (n:=(a0.length:Int)) h4.1 h4.2 (k':=(K31 11101001000 10)) (st':=⟨47,[(0,.d (eL105 t0 a0)),(7,.i x1_7),(30,.b false),(33,.d (eP105 t0 a0 x1_7.toNat 0))],[]⟩) (by kernel_rfl) ?_
        refine goK hT 5 (K31 11101001000 15) ⟨47,[(0,.d (eL105 t0 a0)),(7,.i x1_7),(38,.b (decide (((a0.getD x1_7.toNat spliceref04_Pair.z).Key) > 4095)))],[]⟩ ?_
        by_cases c6:((a0.getD x1_7.toNat spliceref04_Pair.z).Key) > 4095
        ·replace H:=sT c6 H
         rw [decide_eq_true c6]
         refine goK hT 9 (K31 1110100100 1) ⟨47,[(0,.d (eL105 t0 a0)),(7,.i x1_7),(46,.b true)],[]⟩ ?_
         exact Jj2 true H
        ·replace H:=sF c6 H
         rw [decide_eq_false c6]
         refine goK hT 2 (K31 11101001000 17) ⟨47,[(0,.d (eL105 t0 a0)),(7,.i x1_7),(38,.b false),(39,.d (eL105 t0 a0)),(40,.i x1_7)],[]⟩ ?_
         refine ak_idx hT [0,7,38,41] (i:=x1_7) (n:=(a0.length:Int)) h4.1 h4.2 (k':=(K31 11101001000 18)) (st':=⟨47,[(0,.d (eL105 t0 a0)),(7,.i x1_7),(38,.b false),(41,.d (eP105 t0 a0 x1_7.toNat 0))],[]⟩) (by kernel_rfl) ?_
         refine goK hT 2 (K31 11101001000 20) ⟨47,[(0,.d (eL105 t0 a0)),(7,.i x1_7),(38,.b false),(43,.i ((a0.getD x1_7.toNat spliceref04_Pair.z).Val))],[]⟩ ?_
         refine ak_callP (avs:=[.i ((a0.getD x1_7.toNat spliceref04_Pair.z).Val)]) (dst:=some 44) (k':=(K31 11101001000 21)) [0,7,38,44] [] hP enters_32 (spliceref04_value.says ((a0.getD x1_7.toNat spliceref04_Pair.z).Val)) (by kernel_rfl) (hands_none _) (.cons (pass_d _) .nil) (st':=⟨47,[(0,.d (eL105 t0 a0)),(7,.i x1_7),(38,.b false),(44,.b (spliceref04_value ((a0.getD x1_7.toNat spliceref04_Pair.z).Val)))],[]⟩) (by kernel_rfl) ?_
         refine goK hT 3 (K31 1110100100 1) ⟨47,[(0,.d (eL105 t0 a0)),(7,.i x1_7),(46,.b (!(spliceref04_value ((a0.getD x1_7.toNat spliceref04_Pair.z).Val))))],[]⟩ ?_
         exact Jj2 (!(spliceref04_value ((a0.getD x1_7.toNat spliceref04_Pair.z).Val))) H
      ·replace H:=sF c3 H
       rw [decide_eq_false c3]
       refine goK hT 6 (K31 1111 1) ⟨47,[(6,.b true)],[]⟩ ?_
       obtain rfl:=retC H
       exact retK hf hX h0 (.b true) [] (fun _ h=>all_nil h) (.d (.v _))
   obtain ⟨n,H⟩:=loopC H
   exact (L n) 0 H
 refine goK hT 12 (K31 1100 5) ⟨47,[(0,.d (eL105 t0 a0)),(2,.i a2),(12,.b (decide ((a0.length:Int) < a1)))],[]⟩ ?_
 by_cases c1:(a0.length:Int) < a1
 ·replace H:=iT c1 H
  rw [decide_eq_true c1]
  refine goK hT 6 (K31 110 1) ⟨47,[(0,.d (eL105 t0 a0)),(17,.b true)],[]⟩ ?_
  exact Jj1 true H
 ·replace H:=iF c1 H
  rw [decide_eq_false c1]
  refine goK hT 6 (K31 110 1) ⟨47,[(0,.d (eL105 t0 a0)),(17,.b (decide ((a0.length:Int) > a2)))],[]⟩ ?_
  exact Jj1 (decide ((a0.length:Int) > a2)) H


theorem spliceref04_Check.says (a0:spliceref04_Mut) {r:Bool} (H:spliceref04_Check a0=some r):Says Try.prog 14 [] [.d (eG57 a0)] [] (.b r):=by
 refine says_of Try.func14 rfl (nt:=143) rfl (Nat.le_of_ble_eq_true rfl) fun X hP h0 hX=>?_
 have hT:TabOk X.P T:=hP▸tok
 have hf:X.P.funcs[14]? = some Try.f14:=hP▸Try.func14
 have Jj1:∀ (y1_21:Bool),(spliceref04_Check.j1 a0 y1_21)=some r→AK X 14 ((K14 110 1)) (Back X [] (.b r)) ⟨143,[(1,.ptr 0 0 0 0),(21,.b y1_21)],[.box 57 (eC57 a0)]⟩:=by
  intro y1_21 H
  by_cases c4:y1_21=true
  ·replace H:=iT c4 H
   rw [c4]
   refine goK hT 5 (K14 11010 1) ⟨143,[(2,.b false)],[.box 57 (eC57 a0)]⟩ ?_
   obtain rfl:=retC H
   exact retK hf hX h0 (.b false) [] (fun _ h=>all_nil h) (.d (.v _))
  ·replace H:=iF c4 H
   rw [boF c4]
   refine goK hT 2 (K14 11 1) ⟨143,[(1,.ptr 0 0 0 0)],[.box 57 (eC57 a0)]⟩ ?_
   refine goK hT 7 (K14 1110 1) ⟨143,[(1,.ptr 0 0 0 0),(24,.b (a0.Kind == 2))],[.box 57 (eC57 a0)]⟩ ?_
   by_cases c5:a0.Kind=2
   ·replace H:=iT c5 H
    have Jj2:∀ (y2_2:Bool),(spliceref04_Check.j2 y2_2)=some r→AK X 14 ((K14 111010 1)) (Back X [] (.b r)) ⟨143,[(2,.b y2_2)],[]⟩:=by
     intro y2_2 H
     obtain rfl:=retC H
     exact retK hf hX h0 (.b y2_2) [] (fun _ h=>all_nil h) (.d (.v _))
    rw [eqT c5]
    refine goK hT 8 (K14 1110100 5) ⟨143,[(1,.ptr 0 0 0 0),(29,.b ((a0.Pairs.length:Int) == 0))],[.box 57 (eC57 a0)]⟩ ?_
    by_cases c6:(a0.Pairs.length:Int)=0
    ·replace H:=iT c6 H
     rw [eqT c6]
     refine goK hT 5 (K14 1110100 10) ⟨143,[(1,.ptr 0 0 0 0),(34,.b (a0.Old == 0))],[.box 57 (eC57 a0)]⟩ ?_
     by_cases c7:a0.Old=0
     ·replace H:=iT c7 H
      rw [eqT c7]
      refine goK hT 2 (K14 1110100 12) ⟨143,[(34,.b true),(36,.d (eG55 a0.Over))],[.box 57 (eC57 a0)]⟩ ?_
      refine ak_callP (avs:=[.d (eG55 a0.Over)]) (dst:=some 37) (k':=(K14 1110100 13)) [34,37] [] hP enters_30 (spliceref03_One.says a0.Over) (by kernel_rfl) (hands_none _) (.cons (pass_d _) .nil) (st':=⟨143,[(34,.b true),(37,.b (spliceref03_One a0.Over))],[.box 57 (eC57 a0)]⟩) (by kernel_rfl) ?_
      refine goCut hT 3 (K14 111010 1) [] ⟨143,[(2,.b (spliceref03_One a0.Over))],[]⟩ h0 ?_
      exact Jj2 (spliceref03_One a0.Over) H
     ·replace H:=iF c7 H
      rw [eqF c7]
      refine goCut hT 6 (K14 111010 1) [] ⟨143,[(2,.b false)],[]⟩ h0 ?_
      exact Jj2 false H
    ·replace H:=iF c6 H
     rw [eqF c6]
     refine goCut hT 11 (K14 111010 1) [] ⟨143,[(2,.b false)],[]⟩ h0 ?_
     exact Jj2 false H
   ·replace H:=iF c5 H
    have Jj3:∀ (y3_48:Bool),(spliceref04_Check.j3 a0 y3_48)=some r→AK X 14 ((K14 11110 1)) (Back X [] (.b r)) ⟨143,[(1,.ptr 0 0 0 0),(48,.b y3_48)],[.box 57 (eC57 a0)]⟩:=by
     intro y3_48 H
     by_cases c9:y3_48=true
     ·replace H:=iT c9 H
      rw [c9]
      refine goK hT 5 (K14 1111010 1) ⟨143,[(2,.b false)],[.box 57 (eC57 a0)]⟩ ?_
      obtain rfl:=retC H
      exact retK hf hX h0 (.b false) [] (fun _ h=>all_nil h) (.d (.v _))
     ·replace H:=iF c9 H
      rw [boF c9]
      refine goK hT 2 (K14 1111 1) ⟨143,[(1,.ptr 0 0 0 0)],[.box 57 (eC57 a0)]⟩ ?_
      refine goK hT 7 (K14 111110 1) ⟨143,[(1,.ptr 0 0 0 0),(51,.b (a0.Kind == 4))],[.box 57 (eC57 a0)]⟩ ?_
      by_cases c10:a0.Kind=4
      ·replace H:=iT c10 H
       rw [eqT c10]
       refine goK hT 5 (K14 111110100 2) ⟨143,[(1,.ptr 0 0 0 0),(53,.d (eL105 true a0.Pairs))],[.box 57 (eC57 a0)]⟩ ?_
       obtain ⟨v1,h11,H⟩:=ibC H
       have Jj4:∀ (y4_2:Bool),(spliceref04_Check.j4 y4_2)=some r→AK X 14 ((K14 11111010 1)) (Back X [] (.b r)) ⟨143,[(2,.b y4_2)],[]⟩:=by
        intro y4_2 H
        obtain rfl:=retC H
        exact retK hf hX h0 (.b y4_2) [] (fun _ h=>all_nil h) (.d (.v _))
       refine ak_callP (avs:=[.d (eL105 true a0.Pairs),.i 1,.i 1]) (dst:=some 54) (k':=(K14 111110100 3)) [1,54] [] hP enters_31 (spliceref04_pairs.says (t0:=true) a0.Pairs 1 1 h11) (by kernel_rfl) (hands_none _) (.cons (pass_d _) (.cons (pass_d _) (.cons (pass_d _) .nil))) (st':=⟨143,[(1,.ptr 0 0 0 0),(54,.b v1)],[.box 57 (eC57 a0)]⟩) (by kernel_rfl) ?_
       refine goK hT 1 (K14 111110100 4) ⟨143,[(1,.ptr 0 0 0 0),(55,.b v1)],[.box 57 (eC57 a0)]⟩ ?_
       by_cases c12:v1=true
       ·replace H:=iT c12 H
        rw [c12]
        refine goK hT 2 (K14 111110100 6) ⟨143,[(1,.ptr 0 0 0 0),(55,.b true),(57,.i a0.Old)],[.box 57 (eC57 a0)]⟩ ?_
        refine ak_callP (avs:=[.i a0.Old]) (dst:=some 58) (k':=(K14 111110100 7)) [1,55,58] [] hP enters_32 (spliceref04_value.says a0.Old) (by kernel_rfl) (hands_none _) (.cons (pass_d _) .nil) (st':=⟨143,[(1,.ptr 0 0 0 0),(55,.b true),(58,.b (spliceref04_value a0.Old))],[.box 57 (eC57 a0)]⟩) (by kernel_rfl) ?_
        refine goK hT 1 (K14 111110100 8) ⟨143,[(1,.ptr 0 0 0 0),(55,.b true),(59,.b (spliceref04_value a0.Old))],[.box 57 (eC57 a0)]⟩ ?_
        by_cases c13:(spliceref04_value a0.Old)=true
        ·replace H:=iT c13 H
         rw [c13]
         refine goCut hT 7 (K14 11111010 1) [] ⟨143,[(2,.b true)],[]⟩ h0 ?_
         exact Jj4 true H
        ·replace H:=iF c13 H
         rw [boF c13]
         refine goCut hT 7 (K14 11111010 1) [] ⟨143,[(2,.b (a0.Old == 1099511627777))],[]⟩ h0 ?_
         exact Jj4 (a0.Old == 1099511627777) H
       ·replace H:=iF c12 H
        rw [boF c12]
        refine goCut hT 11 (K14 11111010 1) [] ⟨143,[(2,.b false)],[]⟩ h0 ?_
        exact Jj4 false H
      ·replace H:=iF c10 H
       rw [eqF c10]
       refine goK hT 2 (K14 11111 1) ⟨143,[(1,.ptr 0 0 0 0)],[.box 57 (eC57 a0)]⟩ ?_
       refine goK hT 7 (K14 1111110 1) ⟨143,[(1,.ptr 0 0 0 0),(67,.b (a0.Old != 0))],[.box 57 (eC57 a0)]⟩ ?_
       by_cases c14:a0.Old=0
       ·replace H:=iT c14 H
        rw [neF c14]
        refine goK hT 2 (K14 111111 1) ⟨143,[(1,.ptr 0 0 0 0)],[.box 57 (eC57 a0)]⟩ ?_
        refine goK hT 7 (K14 11111110 1) ⟨143,[(1,.ptr 0 0 0 0),(70,.b (a0.Kind == 1))],[.box 57 (eC57 a0)]⟩ ?_
        by_cases c15:a0.Kind=1
        ·replace H:=iT c15 H
         rw [eqT c15]
         refine goK hT 8 (K14 1111111010010 0) ⟨143,[(1,.ptr 0 0 0 0),(3,.i 1)],[.box 57 (eC57 a0)]⟩ ?_
         have L:∀ n,(∀ (x1_3:Int),iter (spliceref04_Check.step a0) n (.l1 x1_3)=some r→AK X 14 ((K14 1111111010010 0)) (Back X [] (.b r)) ⟨143,[(1,.ptr 0 0 0 0),(3,.i x1_3)],[.box 57 (eC57 a0)]⟩):=by
          intro n
          induction n with
          | zero=>exact fun _ H=>iter0 H
          | succ n ih=>
           ·intro x1_3 H
            refine goK hT 9 (K14 111111101001000 1) ⟨143,[(1,.ptr 0 0 0 0),(3,.i x1_3),(75,.b (decide (x1_3 < (a0.Pairs.length:Int))))],[.box 57 (eC57 a0)]⟩ ?_
            by_cases c16:x1_3 < (a0.Pairs.length:Int)
            ·replace H:=sT c16 H
             rw [decide_eq_true c16]
             refine goK hT 2 (K14 11111110100100 1) ⟨143,[(1,.ptr 0 0 0 0),(3,.i x1_3)],[.box 57 (eC57 a0)]⟩ ?_
             refine goK hT 3 (K14 11111110100100100 0) ⟨143,[(1,.ptr 0 0 0 0),(3,.i x1_3)],[.box 57 (eC57 a0)]⟩ ?_
             obtain ⟨h18,H⟩:=sC H
             obtain ⟨h19,H⟩:=sC H
             refine drawK (hP▸mixed) 14 [1,3] [some (.ptr 0 0 0 3),some (.d (eL105 true a0.Pairs)),some (.i x1_3),some (.i (IntKind.wrap .i64 (x1_3 - 1))),some (.d (eP105 true a0.Pairs ((IntKind.wrap .i64 (x1_3 - 1)).toNat) 0)),some (.d (eP105 true a0.Pairs ((IntKind.wrap .i64 (x1_3 - 1)).toNat) 0)),some (.i ((a0.Pairs.getD ((IntKind.wrap .i64 (x1_3 - 1)).toNat) spliceref04_Pair.z).Key)),some (.ptr 0 0 0 3),some (.d (eL105 true a0.Pairs)),some (.i x1_3),some (.d (eP105 true a0.Pairs x1_3.toNat 0)),some (.d (eP105 true a0.Pairs x1_3.toNat 0)),some (.i ((a0.Pairs.getD x1_3.toNat spliceref04_Pair.z).Key)),some (.b (decide (((a0.Pairs.getD ((IntKind.wrap .i64 (x1_3 - 1)).toNat) spliceref04_Pair.z).Key)≥((a0.Pairs.getD x1_3.toNat spliceref04_Pair.z).Key))))] (opG (opG (opG (opS (opG (opG (opG (opG (opG (opS (opG (opG (opG (opG op0 hT) hT) hT) hT) (fun R rest h=>ak_idx0 hT (i:=IntKind.wrap .i64 (x1_3 - 1)) (n:=(a0.Pairs.length:Int)) h18.1 h18.2 (by kernel_rfl) h)) hT) hT) hT) hT) hT) (fun R rest h=>ak_idx0 hT (i:=x1_3) (n:=(a0.Pairs.length:Int)) h19.1 h19.2 (by kernel_rfl) h)) hT) hT) hT) ?_
             refine goK hT 1 (K14 11111110100100100 1) ⟨143,[(1,.ptr 0 0 0 0),(3,.i x1_3),(91,.b (decide (((a0.Pairs.getD ((IntKind.wrap .i64 (x1_3 - 1)).toNat) spliceref04_Pair.z).Key)≥((a0.Pairs.getD x1_3.toNat spliceref04_Pair.z).Key))))],[.box 57 (eC57 a0)]⟩ ?_
             by_cases c20:((a0.Pairs.getD ((IntKind.wrap .i64 (x1_3 - 1)).toNat) spliceref04_Pair.z).Key)≥((a0.Pairs.getD x1_3.toNat spliceref04_Pair.z).Key)
             ·replace H:=sT c20 H
              rw [decide_eq_true c20]
              refine goK hT 5 (K14 1111111010010010010 1) ⟨143,[(2,.b false)],[.box 57 (eC57 a0)]⟩ ?_
              obtain rfl:=retC H
              exact retK hf hX h0 (.b false) [] (fun _ h=>all_nil h) (.d (.v _))
             ·replace H:=sF c20 H
              rw [decide_eq_false c20]
              refine goK hT 3 (K14 111111101001001 1) ⟨143,[(1,.ptr 0 0 0 0),(3,.i x1_3)],[.box 57 (eC57 a0)]⟩ ?_
              refine goK hT 6 (K14 1111111010010 0) ⟨143,[(1,.ptr 0 0 0 0),(3,.i (IntKind.wrap .i64 (x1_3+1)))],[.box 57 (eC57 a0)]⟩ ?_
              exact ih (IntKind.wrap .i64 (x1_3+1)) H
            ·replace H:=sF c16 H
             rw [decide_eq_false c16]
             refine goK hT 6 (K14 111111101010 2) ⟨143,[(93,.d (eL105 true a0.Pairs))],[.box 57 (eC57 a0)]⟩ ?_
             obtain ⟨v2,h17,H⟩:=sbC H
             refine ak_callP (avs:=[.d (eL105 true a0.Pairs),.i 1,.i 8]) (dst:=some 94) (k':=(K14 111111101010 3)) [94] [] hP enters_31 (spliceref04_pairs.says (t0:=true) a0.Pairs 1 8 h17) (by kernel_rfl) (hands_none _) (.cons (pass_d _) (.cons (pass_d _) (.cons (pass_d _) .nil))) (st':=⟨143,[(94,.b v2)],[.box 57 (eC57 a0)]⟩) (by kernel_rfl) ?_
             refine goK hT 2 (K14 11111110101 1) ⟨143,[(2,.b v2)],[.box 57 (eC57 a0)]⟩ ?_
             obtain rfl:=retC H
             exact retK hf hX h0 (.b v2) [] (fun _ h=>all_nil h) (.d (.v _))
         obtain ⟨n,H⟩:=loopC H
         exact (L n) 1 H
        ·replace H:=iF c15 H
         rw [eqF c15]
         refine goK hT 2 (K14 1111111 1) ⟨143,[(1,.ptr 0 0 0 0)],[.box 57 (eC57 a0)]⟩ ?_
         refine goK hT 7 (K14 111111110 1) ⟨143,[(1,.ptr 0 0 0 0),(97,.b (a0.Kind == 3))],[.box 57 (eC57 a0)]⟩ ?_
         by_cases c21:a0.Kind=3
         ·replace H:=iT c21 H
          rw [eqT c21]
          refine goK hT 5 (K14 111111110100 2) ⟨143,[(99,.d (eL105 true a0.Pairs))],[.box 57 (eC57 a0)]⟩ ?_
          obtain ⟨v3,h22,H⟩:=ibC H
          refine ak_callP (avs:=[.d (eL105 true a0.Pairs),.i 1,.i 1]) (dst:=some 100) (k':=(K14 111111110100 3)) [100] [] hP enters_31 (spliceref04_pairs.says (t0:=true) a0.Pairs 1 1 h22) (by kernel_rfl) (hands_none _) (.cons (pass_d _) (.cons (pass_d _) (.cons (pass_d _) .nil))) (st':=⟨143,[(100,.b v3)],[.box 57 (eC57 a0)]⟩) (by kernel_rfl) ?_
          refine goK hT 2 (K14 11111111010 1) ⟨143,[(2,.b v3)],[.box 57 (eC57 a0)]⟩ ?_
          obtain rfl:=retC H
          exact retK hf hX h0 (.b v3) [] (fun _ h=>all_nil h) (.d (.v _))
         ·replace H:=iF c21 H
          have Jj5:∀ (y5_2:Bool),(spliceref04_Check.j5 y5_2)=some r→AK X 14 ((K14 111111111 1)) (Back X [] (.b r)) ⟨143,[(2,.b y5_2)],[]⟩:=by
           intro y5_2 H
           obtain rfl:=retC H
           exact retK hf hX h0 (.b y5_2) [] (fun _ h=>all_nil h) (.d (.v _))
          rw [eqF c21]
          refine goK hT 2 (K14 11111111 1) ⟨143,[(1,.ptr 0 0 0 0)],[.box 57 (eC57 a0)]⟩ ?_
          refine goK hT 1 (K14 111111111 0) ⟨143,[(1,.ptr 0 0 0 0)],[.box 57 (eC57 a0)]⟩ ?_
          by_cases c23:a0.Kind=5
          ·replace H:=iT c23 H
           obtain ⟨v4,h24,H⟩:=ibC H
           by_cases c25:v4=true
           ·replace H:=iT c25 H
            obtain ⟨h26,H⟩:=iC H
            obtain ⟨h27,H⟩:=iC H
            by_cases c28:((a0.Pairs.getD 0 spliceref04_Pair.z).Key)=((a0.Pairs.getD 1 spliceref04_Pair.z).Key)
            ·replace H:=iT c28 H
             refine drawK (hP▸mixed) 32 [1] [some (.ptr 0 0 0 2),some (.i a0.Kind),some (.b true),some (.b true),some (.ptr 0 0 0 3),some (.d (eL105 true a0.Pairs)),some (.b true),some (.b true),some (.b true),some (.ptr 0 0 0 3),some (.d (eL105 true a0.Pairs)),some (.d (eP105 true a0.Pairs 0 0)),some (.d (eP105 true a0.Pairs 0 0)),some (.i ((a0.Pairs.getD 0 spliceref04_Pair.z).Key)),some (.ptr 0 0 0 3),some (.d (eL105 true a0.Pairs)),some (.d (eP105 true a0.Pairs 1 0)),some (.d (eP105 true a0.Pairs 1 0)),some (.i ((a0.Pairs.getD 1 spliceref04_Pair.z).Key)),some (.b false),some (.b false),some (.b false),some (.tup []),some (.tup []),some (.tup []),some (.tup []),some (.tup []),some (.tup []),some (.tup []),some (.tup []),some (.tup []),some (.tup [])] (opG (opG (opG (opG (opG (opG (opG (opG (opG (opG (opG (opG (opV (opG (opG (opS (opG (opG (opG (opG (opS (opG (opG (opG (opG (opS (opG (opG (opG (opV (opG (opG op0 hT) hT) hT 103 (.b (a0.Kind == 5)) (.b true) (by rw [eqT c23]<;>rfl)) hT) hT) hT) (fun R rest h=>ak_callD (avs:=[.d (eL105 true a0.Pairs),.i 2,.i 2]) (dst:=some 107) hP enters_31 (by have q:=spliceref04_pairs.says (t0:=true) a0.Pairs 2 2 h24;rw [c25] at q;exact q) (by kernel_rfl) (.cons (pass_d _) (.cons (pass_d _) (.cons (pass_d _) .nil))) (by kernel_rfl) h)) hT) hT) hT) hT) (fun R rest h=>ak_idx0 hT (i:=0) (n:=(a0.Pairs.length:Int)) h26.1 h26.2 (by kernel_rfl) h)) hT) hT) hT) hT) (fun R rest h=>ak_idx0 hT (i:=1) (n:=(a0.Pairs.length:Int)) h27.1 h27.2 (by kernel_rfl) h)) hT) hT) hT 120 (.b (((a0.Pairs.getD 0 spliceref04_Pair.z).Key) != ((a0.Pairs.getD 1 spliceref04_Pair.z).Key))) (.b false) (by rw [neF c28]<;>rfl)) hT) hT) hT) hT) hT) hT) hT) hT) hT) hT) hT) hT) ?_
             refine goCut hT 12 (K14 111111111 1) [] ⟨143,[(2,.b false)],[]⟩ h0 ?_
             exact Jj5 false H
            ·replace H:=iF c28 H
             refine drawK (hP▸mixed) 32 [1] [some (.ptr 0 0 0 2),some (.i a0.Kind),some (.b true),some (.b true),some (.ptr 0 0 0 3),some (.d (eL105 true a0.Pairs)),some (.b true),some (.b true),some (.b true),some (.ptr 0 0 0 3),some (.d (eL105 true a0.Pairs)),some (.d (eP105 true a0.Pairs 0 0)),some (.d (eP105 true a0.Pairs 0 0)),some (.i ((a0.Pairs.getD 0 spliceref04_Pair.z).Key)),some (.ptr 0 0 0 3),some (.d (eL105 true a0.Pairs)),some (.d (eP105 true a0.Pairs 1 0)),some (.d (eP105 true a0.Pairs 1 0)),some (.i ((a0.Pairs.getD 1 spliceref04_Pair.z).Key)),some (.b true),some (.b true),some (.b true),some (.ptr 0 0 0 3),some (.d (eL105 true a0.Pairs)),some (.d (eP105 true a0.Pairs 0 0)),some (.d (eP105 true a0.Pairs 0 1)),some (.i ((a0.Pairs.getD 0 spliceref04_Pair.z).Val)),some (.ptr 0 0 0 3),some (.d (eL105 true a0.Pairs)),some (.d (eP105 true a0.Pairs 1 0)),some (.d (eP105 true a0.Pairs 1 1)),some (.i ((a0.Pairs.getD 1 spliceref04_Pair.z).Val))] (opG (opG (opS (opG (opG (opG (opG (opS (opG (opG (opG (opG (opV (opG (opG (opS (opG (opG (opG (opG (opS (opG (opG (opG (opG (opS (opG (opG (opG (opV (opG (opG op0 hT) hT) hT 103 (.b (a0.Kind == 5)) (.b true) (by rw [eqT c23]<;>rfl)) hT) hT) hT) (fun R rest h=>ak_callD (avs:=[.d (eL105 true a0.Pairs),.i 2,.i 2]) (dst:=some 107) hP enters_31 (by have q:=spliceref04_pairs.says (t0:=true) a0.Pairs 2 2 h24;rw [c25] at q;exact q) (by kernel_rfl) (.cons (pass_d _) (.cons (pass_d _) (.cons (pass_d _) .nil))) (by kernel_rfl) h)) hT) hT) hT) hT) (fun R rest h=>ak_idx0 hT (i:=0) (n:=(a0.Pairs.length:Int)) h26.1 h26.2 (by kernel_rfl) h)) hT) hT) hT) hT) (fun R rest h=>ak_idx0 hT (i:=1) (n:=(a0.Pairs.length:Int)) h27.1 h27.2 (by kernel_rfl) h)) hT) hT) hT 120 (.b (((a0.Pairs.getD 0 spliceref04_Pair.z).Key) != ((a0.Pairs.getD 1 spliceref04_Pair.z).Key))) (.b true) (by rw [neT c28]<;>rfl)) hT) hT) hT) hT) (fun R rest h=>ak_idx0 hT (i:=0) (n:=(a0.Pairs.length:Int)) h26.1 h26.2 (by kernel_rfl) h)) hT) hT) hT) hT) (fun R rest h=>ak_idx0 hT (i:=1) (n:=(a0.Pairs.length:Int)) h27.1 h27.2 (by kernel_rfl) h)) hT) hT) ?_
             refine goK hT 3 (K14 1111111110 35) ⟨143,[(1,.ptr 0 0 0 0),(135,.b (((a0.Pairs.getD 0 spliceref04_Pair.z).Val) == ((a0.Pairs.getD 1 spliceref04_Pair.z).Val)))],[.box 57 (eC57 a0)]⟩ ?_
             by_cases c29:((a0.Pairs.getD 0 spliceref04_Pair.z).Val)=((a0.Pairs.getD 1 spliceref04_Pair.z).Val)
             ·replace H:=iT c29 H
              rw [eqT c29]
              refine goK hT 2 (K14 1111111110 37) ⟨143,[(135,.b true),(137,.d (eL105 true a0.Pairs))],[.box 57 (eC57 a0)]⟩ ?_
              refine ak_idx hT [135,138] (i:=0) (n:=(a0.Pairs.length:Int)) h26.1 h26.2 (k':=(K14 1111111110 38)) (st':=⟨143,[(135,.b true),(138,.d (eP105 true a0.Pairs 0 0))],[.box 57 (eC57 a0)]⟩) (by kernel_rfl) ?_
              refine goCut hT 6 (K14 111111111 1) [] ⟨143,[(2,.b (decide (((a0.Pairs.getD 0 spliceref04_Pair.z).Val)≥0)))],[]⟩ h0 ?_
              exact Jj5 (decide (((a0.Pairs.getD 0 spliceref04_Pair.z).Val)≥0)) H
             ·replace H:=iF c29 H
              rw [eqF c29]
              refine goCut hT 9 (K14 111111111 1) [] ⟨143,[(2,.b false)],[]⟩ h0 ?_
              exact Jj5 false H
           ·replace H:=iF c25 H
            refine drawK (hP▸mixed) 32 [1] [some (.ptr 0 0 0 2),some (.i a0.Kind),some (.b true),some (.b true),some (.ptr 0 0 0 3),some (.d (eL105 true a0.Pairs)),some (.b false),some (.b false),some (.b false),some (.tup []),some (.tup []),some (.tup []),some (.tup []),some (.tup []),some (.tup []),some (.tup []),some (.tup []),some (.tup []),some (.tup []),some (.tup []),some (.b false),some (.b false),some (.tup []),some (.tup []),some (.tup []),some (.tup []),some (.tup []),some (.tup []),some (.tup []),some (.tup []),some (.tup []),some (.tup [])] (opG (opG (opG (opG (opG (opG (opG (opG (opG (opG (opG (opG (opG (opG (opG (opG (opG (opG (opG (opG (opG (opG (opG (opG (opG (opS (opG (opG (opG (opV (opG (opG op0 hT) hT) hT 103 (.b (a0.Kind == 5)) (.b true) (by rw [eqT c23]<;>rfl)) hT) hT) hT) (fun R rest h=>ak_callD (avs:=[.d (eL105 true a0.Pairs),.i 2,.i 2]) (dst:=some 107) hP enters_31 (by have q:=spliceref04_pairs.says (t0:=true) a0.Pairs 2 2 h24;rw [boF c25] at q;exact q) (by kernel_rfl) (.cons (pass_d _) (.cons (pass_d _) (.cons (pass_d _) .nil))) (by kernel_rfl) h)) hT) hT) hT) hT) hT) hT) hT) hT) hT) hT) hT) hT) hT) hT) hT) hT) hT) hT) hT) hT) hT) hT) hT) hT) hT) ?_
            refine goCut hT 12 (K14 111111111 1) [] ⟨143,[(2,.b false)],[]⟩ h0 ?_
            exact Jj5 false H
          ·replace H:=iF c23 H
           refine drawK (hP▸mixed) 32 [1] [some (.ptr 0 0 0 2),some (.i a0.Kind),some (.b false),some (.b false),some (.tup []),some (.tup []),some (.tup []),some (.b false),some (.b false),some (.tup []),some (.tup []),some (.tup []),some (.tup []),some (.tup []),some (.tup []),some (.tup []),some (.tup []),some (.tup []),some (.tup []),some (.tup []),some (.b false),some (.b false),some (.tup []),some (.tup []),some (.tup []),some (.tup []),some (.tup []),some (.tup []),some (.tup []),some (.tup []),some (.tup []),some (.tup [])] (opG (opG (opG (opG (opG (opG (opG (opG (opG (opG (opG (opG (opG (opG (opG (opG (opG (opG (opG (opG (opG (opG (opG (opG (opG (opG (opG (opG (opG (opV (opG (opG op0 hT) hT) hT 103 (.b (a0.Kind == 5)) (.b false) (by rw [eqF c23]<;>rfl)) hT) hT) hT) hT) hT) hT) hT) hT) hT) hT) hT) hT) hT) hT) hT) hT) hT) hT) hT) hT) hT) hT) hT) hT) hT) hT) hT) hT) hT) ?_
           refine goCut hT 12 (K14 111111111 1) [] ⟨143,[(2,.b false)],[]⟩ h0 ?_
           exact Jj5 false H
       ·replace H:=iF c14 H
        rw [neT c14]
        refine goK hT 5 (K14 111111010 1) ⟨143,[(2,.b false)],[.box 57 (eC57 a0)]⟩ ?_
        obtain rfl:=retC H
        exact retK hf hX h0 (.b false) [] (fun _ h=>all_nil h) (.d (.v _))
    rw [eqF c5]
    refine goK hT 2 (K14 111 1) ⟨143,[(1,.ptr 0 0 0 0)],[.box 57 (eC57 a0)]⟩ ?_
    refine goK hT 8 (K14 111100 5) ⟨143,[(1,.ptr 0 0 0 0),(43,.b (a0.Over.Lo != 0))],[.box 57 (eC57 a0)]⟩ ?_
    by_cases c8:a0.Over.Lo=0
    ·replace H:=iT c8 H
     rw [neF c8]
     refine goK hT 6 (K14 11110 1) ⟨143,[(1,.ptr 0 0 0 0),(48,.b (a0.Over.Hi != 0))],[.box 57 (eC57 a0)]⟩ ?_
     exact Jj3 (a0.Over.Hi != 0) H
    ·replace H:=iF c8 H
     rw [neT c8]
     refine goK hT 6 (K14 11110 1) ⟨143,[(1,.ptr 0 0 0 0),(48,.b true)],[.box 57 (eC57 a0)]⟩ ?_
     exact Jj3 true H
 refine goK hT 12 (K14 1100 4) ⟨143,[(1,.ptr 0 0 0 0),(7,.b (decide (a0.Client < 1)))],[.box 57 (eC57 a0)]⟩ ?_
 by_cases c1:a0.Client < 1
 ·replace H:=iT c1 H
  rw [decide_eq_true c1]
  refine goK hT 15 (K14 110 1) ⟨143,[(1,.ptr 0 0 0 0),(21,.b true)],[.box 57 (eC57 a0)]⟩ ?_
  exact Jj1 true H
 ·replace H:=iF c1 H
  rw [decide_eq_false c1]
  refine goK hT 5 (K14 1100 9) ⟨143,[(1,.ptr 0 0 0 0),(12,.b (decide (a0.Client > 1048576)))],[.box 57 (eC57 a0)]⟩ ?_
  by_cases c2:a0.Client > 1048576
  ·replace H:=iT c2 H
   rw [decide_eq_true c2]
   refine goK hT 10 (K14 110 1) ⟨143,[(1,.ptr 0 0 0 0),(21,.b true)],[.box 57 (eC57 a0)]⟩ ?_
   exact Jj1 true H
  ·replace H:=iF c2 H
   rw [decide_eq_false c2]
   refine goK hT 5 (K14 1100 14) ⟨143,[(1,.ptr 0 0 0 0),(17,.b (decide (a0.Seq < 1)))],[.box 57 (eC57 a0)]⟩ ?_
   by_cases c3:a0.Seq < 1
   ·replace H:=iT c3 H
    rw [decide_eq_true c3]
    refine goK hT 5 (K14 110 1) ⟨143,[(1,.ptr 0 0 0 0),(21,.b true)],[.box 57 (eC57 a0)]⟩ ?_
    exact Jj1 true H
   ·replace H:=iF c3 H
    rw [decide_eq_false c3]
    refine goK hT 5 (K14 110 1) ⟨143,[(1,.ptr 0 0 0 0),(21,.b (decide (a0.Seq > 1073741824)))],[.box 57 (eC57 a0)]⟩ ?_
    exact Jj1 (decide (a0.Seq > 1073741824)) H


theorem spliceref24_stamp.says (a0:spliceref12_Entry):Says Try.prog 29 [] [.d (eG98 a0)] [] (.d (eG100 (spliceref24_stamp a0))):=by
 obtain ⟨r,H⟩:∃ r,spliceref24_stamp a0=r:=⟨_,rfl⟩
 rw [H]
 refine says_of Try.func29 rfl (nt:=12) rfl (Nat.le_of_ble_eq_true rfl) fun X hP h0 hX=>?_
 have hT:TabOk X.P T:=hP▸tok
 have hf:X.P.funcs[29]? = some Try.f29:=hP▸Try.func29
 refine goK hT 18 (K29 11 1) ⟨12,[(2,.ptr 1 0 0 0)],[.box 98 (eC98 a0),.box 100 [.i a0.Time,.i a0.M.Client,.i a0.M.Seq]]⟩ ?_
 obtain rfl:=H
 exact ak_retM hT hf hX (av:=.d (.agg [.i a0.Time,.i a0.M.Client,.i a0.M.Seq])) (by kernel_rfl) [] (sel_of_eq (by kernel_rfl)) (by decide) (by rw [h0];rfl) (by kernel_rfl) (fun _ h=>all_nil h) (.d (.agg (spliceref04_Stamp.nl _)))


theorem spliceref04_Ahead.says (a0:spliceref04_Stamp) (a1:spliceref04_Stamp):Says Try.prog 28 [] [.d (eG100 a0),.d (eG100 a1)] [] (.b (spliceref04_Ahead a0 a1)):=by
 obtain ⟨r,H⟩:∃ r,spliceref04_Ahead a0 a1=r:=⟨_,rfl⟩
 rw [H]
 refine says_of Try.func28 rfl (nt:=30) rfl (Nat.le_of_ble_eq_true rfl) fun X hP h0 hX=>?_
 have hT:TabOk X.P T:=hP▸tok
 have hf:X.P.funcs[28]? = some Try.f28:=hP▸Try.func28
 refine goK hT 15 (K28 110 1) ⟨30,[(2,.ptr 0 0 0 0),(3,.ptr 1 0 0 0),(9,.b (a0.Time != a1.Time))],[.box 100 (eC100 a0),.box 100 (eC100 a1)]⟩ ?_
 by_cases c1:a0.Time=a1.Time
 ·replace H:=iT c1 H
  rw [neF c1]
  refine goK hT 2 (K28 11 1) ⟨30,[(2,.ptr 0 0 0 0),(3,.ptr 1 0 0 0)],[.box 100 (eC100 a0),.box 100 (eC100 a1)]⟩ ?_
  refine goK hT 9 (K28 1110 1) ⟨30,[(2,.ptr 0 0 0 0),(3,.ptr 1 0 0 0),(19,.b (a0.Client != a1.Client))],[.box 100 (eC100 a0),.box 100 (eC100 a1)]⟩ ?_
  by_cases c2:a0.Client=a1.Client
  ·replace H:=iT c2 H
   rw [neF c2]
   refine goK hT 2 (K28 111 1) ⟨30,[(2,.ptr 0 0 0 0),(3,.ptr 1 0 0 0)],[.box 100 (eC100 a0),.box 100 (eC100 a1)]⟩ ?_
   refine goK hT 9 (K28 1111 1) ⟨30,[(4,.b (decide (a0.Seq < a1.Seq)))],[.box 100 (eC100 a0),.box 100 (eC100 a1)]⟩ ?_
   obtain rfl:=H
   exact retK hf hX h0 (.b (decide (a0.Seq < a1.Seq))) [] (fun _ h=>all_nil h) (.d (.v _))
  ·replace H:=iF c2 H
   rw [neT c2]
   refine goK hT 10 (K28 111010 1) ⟨30,[(4,.b (decide (a0.Client < a1.Client)))],[.box 100 (eC100 a0),.box 100 (eC100 a1)]⟩ ?_
   obtain rfl:=H
   exact retK hf hX h0 (.b (decide (a0.Client < a1.Client))) [] (fun _ h=>all_nil h) (.d (.v _))
 ·replace H:=iF c1 H
  rw [neT c1]
  refine goK hT 10 (K28 11010 1) ⟨30,[(4,.b (decide (a0.Time < a1.Time)))],[.box 100 (eC100 a0),.box 100 (eC100 a1)]⟩ ?_
  obtain rfl:=H
  exact retK hf hX h0 (.b (decide (a0.Time < a1.Time))) [] (fun _ h=>all_nil h) (.d (.v _))


noncomputable abbrev spliceref24_Order.q1 (a0:List spliceref12_Entry) (x1_3:Int):=(spliceref04_Ahead (spliceref24_stamp (a0.getD ((IntKind.wrap .i64 (x1_3 - 1)).toNat) spliceref12_Entry.z)) (spliceref24_stamp (a0.getD x1_3.toNat spliceref12_Entry.z)))


theorem spliceref24_Order.says {t0:Bool} (a0:List spliceref12_Entry) {r:Bool} (H:spliceref24_Order a0=some r):Says Try.prog 13 [] [.d (eL98 t0 a0)] [] (.b r):=by
 refine says_of Try.func13 rfl (nt:=36) rfl (Nat.le_of_ble_eq_true rfl) fun X hP h0 hX=>?_
 have hT:TabOk X.P T:=hP▸tok
 have hf:X.P.funcs[13]? = some Try.f13:=hP▸Try.func13
 refine goK hT 11 (K13 11010 0) ⟨36,[(0,.d (eL98 t0 a0)),(3,.i 0)],[]⟩ ?_
 have L:∀ n,(∀ (x1_3:Int),iter (spliceref24_Order.step a0) n (.l1 x1_3)=some r→AK X 13 ((K13 11010 0)) (Back X [] (.b r)) ⟨36,[(0,.d (eL98 t0 a0)),(3,.i x1_3)],[]⟩):=by
  intro n
  induction n with
  | zero=>exact fun _ H=>iter0 H
  | succ n ih=>
   ·intro x1_3 H
    refine goK hT 8 (K13 1101000 1) ⟨36,[(0,.d (eL98 t0 a0)),(3,.i x1_3),(7,.b (decide (x1_3 < (a0.length:Int))))],[]⟩ ?_
    by_cases c1:x1_3 < (a0.length:Int)
    ·replace H:=sT c1 H
     rw [decide_eq_true c1]
     refine goK hT 2 (K13 110100 1) ⟨36,[(0,.d (eL98 t0 a0)),(3,.i x1_3)],[]⟩ ?_
     refine goK hT 3 (K13 110100100 0) ⟨36,[(0,.d (eL98 t0 a0)),(3,.i x1_3)],[]⟩ ?_
     obtain ⟨h2,H⟩:=sC H
     obtain ⟨v1,h3,H⟩:=sbC H
     have Jj1:∀ (y1_35:Bool),stk (spliceref24_Order.j1 x1_3 y1_35) (iter (spliceref24_Order.step a0) n)=some r→AK X 13 ((K13 110100100 1)) (Back X [] (.b r)) ⟨36,[(0,.d (eL98 t0 a0)),(3,.i x1_3),(35,.b y1_35)],[]⟩:=by
      intro y1_35 H
      by_cases c7:y1_35=true
      ·replace H:=sT c7 H
       rw [c7]
       refine goK hT 5 (K13 11010010010 1) ⟨36,[(2,.b false)],[]⟩ ?_
       obtain rfl:=retC H
       exact retK hf hX h0 (.b false) [] (fun _ h=>all_nil h) (.d (.v _))
      ·replace H:=sF c7 H
       rw [boF c7]
       refine goK hT 3 (K13 1101001 1) ⟨36,[(0,.d (eL98 t0 a0)),(3,.i x1_3)],[]⟩ ?_
       refine goK hT 6 (K13 11010 0) ⟨36,[(0,.d (eL98 t0 a0)),(3,.i (IntKind.wrap .i64 (x1_3+1)))],[]⟩ ?_
       exact ih (IntKind.wrap .i64 (x1_3+1)) H
     by_cases c4:v1=true
     ·replace H:=sT c4 H
      by_cases c5:x1_3 > 0
      ·replace H:=sT c5 H
       obtain ⟨h6,H⟩:=sC H
       refine drawK (hP▸mixed) 26 [0,3] [some (.d (eL98 t0 a0)),some (.i x1_3),some (.d (eP98 t0 a0 x1_3.toNat 0)),some (.d (eP98 t0 a0 x1_3.toNat 0)),some (.d (eG57 ((a0.getD x1_3.toNat spliceref12_Entry.z).M))),some (.b true),some (.b false),some (.b false),some (.i x1_3),some (.b true),some (.b true),some (.d (eL98 t0 a0)),some (.i x1_3),some (.i (IntKind.wrap .i64 (x1_3 - 1))),some (.d (eP98 t0 a0 ((IntKind.wrap .i64 (x1_3 - 1)).toNat) 0)),some (.d (eG98 (a0.getD ((IntKind.wrap .i64 (x1_3 - 1)).toNat) spliceref12_Entry.z))),some (.d (eG100 (spliceref24_stamp (a0.getD ((IntKind.wrap .i64 (x1_3 - 1)).toNat) spliceref12_Entry.z)))),some (.d (eL98 t0 a0)),some (.i x1_3),some (.d (eP98 t0 a0 x1_3.toNat 0)),some (.d (eG98 (a0.getD x1_3.toNat spliceref12_Entry.z))),some (.d (eG100 (spliceref24_stamp (a0.getD x1_3.toNat spliceref12_Entry.z)))),some (.b (spliceref24_Order.q1 a0 x1_3)),some (.b (!(spliceref24_Order.q1 a0 x1_3))),some (.b (!(spliceref24_Order.q1 a0 x1_3))),some (.b (!(spliceref24_Order.q1 a0 x1_3)))] (opG (opG (opG (opS (opS (opG (opS (opG (opG (opS (opG (opS (opG (opG (opG (opG (opV (opG (opG (opG (opS (opG (opG (opS (opG (opG op0 hT) hT) (fun R rest h=>ak_idx0 hT (i:=x1_3) (n:=(a0.length:Int)) h2.1 h2.2 (by kernel_rfl) h)) hT) hT) (fun R rest h=>ak_callD (avs:=[.d (eG57 ((a0.getD x1_3.toNat spliceref12_Entry.z).M))]) (dst:=some 15) hP enters_14 (by have q:=spliceref04_Check.says ((a0.getD x1_3.toNat spliceref12_Entry.z).M) h3;rw [c4] at q;exact q) (by kernel_rfl) (.cons (pass_d _) .nil) (by kernel_rfl) h)) hT) hT) hT) hT 19 (.b (decide (x1_3 > 0))) (.b true) (by rw [decide_eq_true c5]<;>rfl)) hT) hT) hT) hT) (fun R rest h=>ak_idx0 hT (i:=IntKind.wrap .i64 (x1_3 - 1)) (n:=(a0.length:Int)) h6.1 h6.2 (by kernel_rfl) h)) hT) (fun R rest h=>ak_callD (avs:=[.d (eG98 (a0.getD ((IntKind.wrap .i64 (x1_3 - 1)).toNat) spliceref12_Entry.z))]) (dst:=some 26) hP enters_29 (spliceref24_stamp.says (a0.getD ((IntKind.wrap .i64 (x1_3 - 1)).toNat) spliceref12_Entry.z)) (by kernel_rfl) (.cons (pass_d _) .nil) (by kernel_rfl) h)) hT) hT) (fun R rest h=>ak_idx0 hT (i:=x1_3) (n:=(a0.length:Int)) h2.1 h2.2 (by kernel_rfl) h)) hT) (fun R rest h=>ak_callD (avs:=[.d (eG98 (a0.getD x1_3.toNat spliceref12_Entry.z))]) (dst:=some 31) hP enters_29 (spliceref24_stamp.says (a0.getD x1_3.toNat spliceref12_Entry.z)) (by kernel_rfl) (.cons (pass_d _) .nil) (by kernel_rfl) h)) (fun R rest h=>ak_callD (avs:=[.d (eG100 (spliceref24_stamp (a0.getD ((IntKind.wrap .i64 (x1_3 - 1)).toNat) spliceref12_Entry.z))),.d (eG100 (spliceref24_stamp (a0.getD x1_3.toNat spliceref12_Entry.z)))]) (dst:=some 32) hP enters_28 (spliceref04_Ahead.says (spliceref24_stamp (a0.getD ((IntKind.wrap .i64 (x1_3 - 1)).toNat) spliceref12_Entry.z)) (spliceref24_stamp (a0.getD x1_3.toNat spliceref12_Entry.z))) (by kernel_rfl) (.cons (pass_d _) (.cons (pass_d _) .nil)) (by kernel_rfl) h)) hT) hT) hT) ?_
       refine goK hT 1 (K13 110100100 1) ⟨36,[(0,.d (eL98 t0 a0)),(3,.i x1_3),(35,.b (!(spliceref24_Order.q1 a0 x1_3)))],[]⟩ ?_
       exact Jj1 (!(spliceref24_Order.q1 a0 x1_3)) H
      ·replace H:=sF c5 H
       refine drawK (hP▸mixed) 26 [0,3] [some (.d (eL98 t0 a0)),some (.i x1_3),some (.d (eP98 t0 a0 x1_3.toNat 0)),some (.d (eP98 t0 a0 x1_3.toNat 0)),some (.d (eG57 ((a0.getD x1_3.toNat spliceref12_Entry.z).M))),some (.b true),some (.b false),some (.b false),some (.i x1_3),some (.b false),some (.b false),some (.tup []),some (.tup []),some (.tup []),some (.tup []),some (.tup []),some (.tup []),some (.tup []),some (.tup []),some (.tup []),some (.tup []),some (.tup []),some (.tup []),some (.tup []),some (.b false),some (.b false)] (opG (opG (opG (opG (opG (opG (opG (opG (opG (opG (opG (opG (opG (opG (opG (opG (opV (opG (opG (opG (opS (opG (opG (opS (opG (opG op0 hT) hT) (fun R rest h=>ak_idx0 hT (i:=x1_3) (n:=(a0.length:Int)) h2.1 h2.2 (by kernel_rfl) h)) hT) hT) (fun R rest h=>ak_callD (avs:=[.d (eG57 ((a0.getD x1_3.toNat spliceref12_Entry.z).M))]) (dst:=some 15) hP enters_14 (by have q:=spliceref04_Check.says ((a0.getD x1_3.toNat spliceref12_Entry.z).M) h3;rw [c4] at q;exact q) (by kernel_rfl) (.cons (pass_d _) .nil) (by kernel_rfl) h)) hT) hT) hT) hT 19 (.b (decide (x1_3 > 0))) (.b false) (by rw [decide_eq_false c5]<;>rfl)) hT) hT) hT) hT) hT) hT) hT) hT) hT) hT) hT) hT) hT) hT) hT) hT) ?_
       refine goK hT 1 (K13 110100100 1) ⟨36,[(0,.d (eL98 t0 a0)),(3,.i x1_3),(35,.b false)],[]⟩ ?_
       exact Jj1 false H
     ·replace H:=sF c4 H
      refine drawK (hP▸mixed) 26 [0,3] [some (.d (eL98 t0 a0)),some (.i x1_3),some (.d (eP98 t0 a0 x1_3.toNat 0)),some (.d (eP98 t0 a0 x1_3.toNat 0)),some (.d (eG57 ((a0.getD x1_3.toNat spliceref12_Entry.z).M))),some (.b false),some (.b true),some (.b true),some (.tup []),some (.tup []),some (.tup []),some (.tup []),some (.tup []),some (.tup []),some (.tup []),some (.tup []),some (.tup []),some (.tup []),some (.tup []),some (.tup []),some (.tup []),some (.tup []),some (.tup []),some (.tup []),some (.tup []),some (.b true)] (opG (opG (opG (opG (opG (opG (opG (opG (opG (opG (opG (opG (opG (opG (opG (opG (opG (opG (opG (opG (opS (opG (opG (opS (opG (opG op0 hT) hT) (fun R rest h=>ak_idx0 hT (i:=x1_3) (n:=(a0.length:Int)) h2.1 h2.2 (by kernel_rfl) h)) hT) hT) (fun R rest h=>ak_callD (avs:=[.d (eG57 ((a0.getD x1_3.toNat spliceref12_Entry.z).M))]) (dst:=some 15) hP enters_14 (by have q:=spliceref04_Check.says ((a0.getD x1_3.toNat spliceref12_Entry.z).M) h3;rw [boF c4] at q;exact q) (by kernel_rfl) (.cons (pass_d _) .nil) (by kernel_rfl) h)) hT) hT) hT) hT) hT) hT) hT) hT) hT) hT) hT) hT) hT) hT) hT) hT) hT) hT) hT) hT) ?_
      refine goK hT 1 (K13 110100100 1) ⟨36,[(0,.d (eL98 t0 a0)),(3,.i x1_3),(35,.b true)],[]⟩ ?_
      exact Jj1 true H
    ·replace H:=sF c1 H
     rw [decide_eq_false c1]
     refine goK hT 6 (K13 111 1) ⟨36,[(2,.b true)],[]⟩ ?_
     obtain rfl:=retC H
     exact retK hf hX h0 (.b true) [] (fun _ h=>all_nil h) (.d (.v _))
 obtain ⟨n,H⟩:=loopC H
 exact (L n) 0 H


noncomputable abbrev spliceref04_Same.s1 (a0:spliceref04_Mut) (a1:spliceref04_Mut):St:=⟨66,[(2,.ptr 0 0 0 0),(3,.ptr 1 0 0 0),(47,.b true)],[.box 57 (eC57 a0),.box 57 (eC57 a1)]⟩


theorem spliceref04_Same.says (a0:spliceref04_Mut) (a1:spliceref04_Mut) {r:Bool} (H:spliceref04_Same a0 a1=some r):Says Try.prog 19 [] [.d (eG57 a0),.d (eG57 a1)] [] (.b r):=by
 refine says_of Try.func19 rfl (nt:=66) rfl (Nat.le_of_ble_eq_true rfl) fun X hP h0 hX=>?_
 have hT:TabOk X.P T:=hP▸tok
 have hf:X.P.funcs[19]? = some Try.f19:=hP▸Try.func19
 have Jj1:∀ (y1_47:Bool),(spliceref04_Same.j1 a0 a1 y1_47)=some r→AK X 19 ((K19 110 1)) (Back X [] (.b r)) ⟨66,[(2,.ptr 0 0 0 0),(3,.ptr 1 0 0 0),(47,.b y1_47)],[.box 57 (eC57 a0),.box 57 (eC57 a1)]⟩:=by
  intro y1_47 H
  by_cases c8:y1_47=true
  ·replace H:=iT c8 H
   rw [c8]
   refine goK hT 5 (K19 11010 1) ⟨66,[(4,.b false)],[.box 57 (eC57 a0),.box 57 (eC57 a1)]⟩ ?_
   obtain rfl:=retC H
   exact retK hf hX h0 (.b false) [] (fun _ h=>all_nil h) (.d (.v _))
  ·replace H:=iF c8 H
   rw [boF c8]
   refine goK hT 2 (K19 11 1) ⟨66,[(2,.ptr 0 0 0 0),(3,.ptr 1 0 0 0)],[.box 57 (eC57 a0),.box 57 (eC57 a1)]⟩ ?_
   refine goK hT 7 (K19 111010 0) ⟨66,[(2,.ptr 0 0 0 0),(3,.ptr 1 0 0 0),(5,.i 0)],[.box 57 (eC57 a0),.box 57 (eC57 a1)]⟩ ?_
   have L:∀ n,(∀ (x1_5:Int),iter (spliceref04_Same.step a0 a1) n (.l1 x1_5)=some r→AK X 19 ((K19 111010 0)) (Back X [] (.b r)) ⟨66,[(2,.ptr 0 0 0 0),(3,.ptr 1 0 0 0),(5,.i x1_5)],[.box 57 (eC57 a0),.box 57 (eC57 a1)]⟩):=by
    intro n
    induction n with
    | zero=>exact fun _ H=>iter0 H
    | succ n ih=>
     ·intro x1_5 H
      refine goK hT 9 (K19 11101000 1) ⟨66,[(2,.ptr 0 0 0 0),(3,.ptr 1 0 0 0),(5,.i x1_5),(52,.b (decide (x1_5 < (a0.Pairs.length:Int))))],[.box 57 (eC57 a0),.box 57 (eC57 a1)]⟩ ?_
      by_cases c9:x1_5 < (a0.Pairs.length:Int)
      ·replace H:=sT c9 H
       rw [decide_eq_true c9]
       refine goK hT 2 (K19 1110100 1) ⟨66,[(2,.ptr 0 0 0 0),(3,.ptr 1 0 0 0),(5,.i x1_5)],[.box 57 (eC57 a0),.box 57 (eC57 a1)]⟩ ?_
       refine goK hT 3 (K19 1110100100 0) ⟨66,[(2,.ptr 0 0 0 0),(3,.ptr 1 0 0 0),(5,.i x1_5)],[.box 57 (eC57 a0),.box 57 (eC57 a1)]⟩ ?_
       obtain ⟨h10,H⟩:=sC H
       obtain ⟨h11,H⟩:=sC H
       refine drawK (hP▸mixed) 11 [2,3,5] [some (.ptr 0 0 0 3),some (.d (eL105 true a0.Pairs)),some (.i x1_5),some (.d (eP105 true a0.Pairs x1_5.toNat 0)),some (.d (eG105 (a0.Pairs.getD x1_5.toNat spliceref04_Pair.z))),some (.ptr 1 0 0 3),some (.d (eL105 true a1.Pairs)),some (.i x1_5),some (.d (eP105 true a1.Pairs x1_5.toNat 0)),some (.d (eG105 (a1.Pairs.getD x1_5.toNat spliceref04_Pair.z))),some (.b (!((((a0.Pairs.getD x1_5.toNat spliceref04_Pair.z).Key) == ((a1.Pairs.getD x1_5.toNat spliceref04_Pair.z).Key)) && (((a0.Pairs.getD x1_5.toNat spliceref04_Pair.z).Val) == ((a1.Pairs.getD x1_5.toNat spliceref04_Pair.z).Val)))))] (opG (opG (opS (opG (opG (opG (opG (opS (opG (opG (opG op0 hT) hT) hT) (fun R rest h=>ak_idx0 hT (i:=x1_5) (n:=(a0.Pairs.length:Int)) h10.1 h10.2 (by kernel_rfl) h)) hT) hT) hT) hT) (fun R rest h=>ak_idx0 hT (i:=x1_5) (n:=(a1.Pairs.length:Int)) h11.1 h11.2 (by kernel_rfl) h)) hT) hT) ?_
       refine goK hT 1 (K19 1110100100 1) ⟨66,[(2,.ptr 0 0 0 0),(3,.ptr 1 0 0 0),(5,.i x1_5),(65,.b (!((((a0.Pairs.getD x1_5.toNat spliceref04_Pair.z).Key) == ((a1.Pairs.getD x1_5.toNat spliceref04_Pair.z).Key)) && (((a0.Pairs.getD x1_5.toNat spliceref04_Pair.z).Val) == ((a1.Pairs.getD x1_5.toNat spliceref04_Pair.z).Val)))))],[.box 57 (eC57 a0),.box 57 (eC57 a1)]⟩ ?_
       by_cases c12:((a0.Pairs.getD x1_5.toNat spliceref04_Pair.z).Key)=((a1.Pairs.getD x1_5.toNat spliceref04_Pair.z).Key)
       ·replace H:=sT c12 H
        rw [eqT c12]
        by_cases c13:((a0.Pairs.getD x1_5.toNat spliceref04_Pair.z).Val)=((a1.Pairs.getD x1_5.toNat spliceref04_Pair.z).Val)
        ·replace H:=sT c13 H
         rw [eqT c13]
         refine goK hT 3 (K19 11101001 1) ⟨66,[(2,.ptr 0 0 0 0),(3,.ptr 1 0 0 0),(5,.i x1_5)],[.box 57 (eC57 a0),.box 57 (eC57 a1)]⟩ ?_
         refine goK hT 6 (K19 111010 0) ⟨66,[(2,.ptr 0 0 0 0),(3,.ptr 1 0 0 0),(5,.i (IntKind.wrap .i64 (x1_5+1)))],[.box 57 (eC57 a0),.box 57 (eC57 a1)]⟩ ?_
         exact ih (IntKind.wrap .i64 (x1_5+1)) H
        ·replace H:=sF c13 H
         rw [eqF c13]
         refine goK hT 5 (K19 111010010010 1) ⟨66,[(4,.b false)],[.box 57 (eC57 a0),.box 57 (eC57 a1)]⟩ ?_
         obtain rfl:=retC H
         exact retK hf hX h0 (.b false) [] (fun _ h=>all_nil h) (.d (.v _))
       ·replace H:=sF c12 H
        rw [eqF c12]
        by_cases c14:((a0.Pairs.getD x1_5.toNat spliceref04_Pair.z).Val)=((a1.Pairs.getD x1_5.toNat spliceref04_Pair.z).Val)
        ·replace H:=sT c14 H
         rw [eqT c14]
         refine goK hT 5 (K19 111010010010 1) ⟨66,[(4,.b false)],[.box 57 (eC57 a0),.box 57 (eC57 a1)]⟩ ?_
         obtain rfl:=retC H
         exact retK hf hX h0 (.b false) [] (fun _ h=>all_nil h) (.d (.v _))
        ·replace H:=sF c14 H
         rw [eqF c14]
         refine goK hT 5 (K19 111010010010 1) ⟨66,[(4,.b false)],[.box 57 (eC57 a0),.box 57 (eC57 a1)]⟩ ?_
         obtain rfl:=retC H
         exact retK hf hX h0 (.b false) [] (fun _ h=>all_nil h) (.d (.v _))
      ·replace H:=sF c9 H
       rw [decide_eq_false c9]
       refine goK hT 6 (K19 1111 1) ⟨66,[(4,.b true)],[.box 57 (eC57 a0),.box 57 (eC57 a1)]⟩ ?_
       obtain rfl:=retC H
       exact retK hf hX h0 (.b true) [] (fun _ h=>all_nil h) (.d (.v _))
   obtain ⟨n,H⟩:=loopC H
   exact (L n) 0 H
 refine goK hT 15 (K19 1100 6) ⟨66,[(2,.ptr 0 0 0 0),(3,.ptr 1 0 0 0),(11,.b (a0.Client != a1.Client))],[.box 57 (eC57 a0),.box 57 (eC57 a1)]⟩ ?_
 by_cases c1:a0.Client=a1.Client
 ·replace H:=iT c1 H
  rw [neF c1]
  refine goK hT 7 (K19 1100 13) ⟨66,[(2,.ptr 0 0 0 0),(3,.ptr 1 0 0 0),(18,.b (a0.Seq != a1.Seq))],[.box 57 (eC57 a0),.box 57 (eC57 a1)]⟩ ?_
  by_cases c2:a0.Seq=a1.Seq
  ·replace H:=iT c2 H
   rw [neF c2]
   refine goK hT 7 (K19 1100 20) ⟨66,[(2,.ptr 0 0 0 0),(3,.ptr 1 0 0 0),(25,.b (a0.Kind != a1.Kind))],[.box 57 (eC57 a0),.box 57 (eC57 a1)]⟩ ?_
   by_cases c3:a0.Kind=a1.Kind
   ·replace H:=iT c3 H
    rw [neF c3]
    refine goK hT 7 (K19 1100 27) ⟨66,[(2,.ptr 0 0 0 0),(3,.ptr 1 0 0 0),(32,.b (!((a0.Over.Lo == a1.Over.Lo) && (a0.Over.Hi == a1.Over.Hi))))],[.box 57 (eC57 a0),.box 57 (eC57 a1)]⟩ ?_
    by_cases c4:a0.Over.Lo=a1.Over.Lo
    ·replace H:=iT c4 H
     rw [eqT c4]
     by_cases c5:a0.Over.Hi=a1.Over.Hi
     ·replace H:=iT c5 H
      rw [eqT c5]
      refine goK hT 7 (K19 1100 34) ⟨66,[(2,.ptr 0 0 0 0),(3,.ptr 1 0 0 0),(39,.b (a0.Old != a1.Old))],[.box 57 (eC57 a0),.box 57 (eC57 a1)]⟩ ?_
      by_cases c6:a0.Old=a1.Old
      ·replace H:=iT c6 H
       rw [neF c6]
       refine goK hT 9 (K19 110 1) ⟨66,[(2,.ptr 0 0 0 0),(3,.ptr 1 0 0 0),(47,.b ((a0.Pairs.length:Int) != (a1.Pairs.length:Int)))],[.box 57 (eC57 a0),.box 57 (eC57 a1)]⟩ ?_
       exact Jj1 ((a0.Pairs.length:Int) != (a1.Pairs.length:Int)) H
      ·replace H:=iF c6 H
       rw [neT c6]
       refine goK hT 9 (K19 110 1) (spliceref04_Same.s1 a0 a1) ?_
       exact Jj1 true H
     ·replace H:=iF c5 H
      rw [eqF c5]
      refine goK hT 16 (K19 110 1) (spliceref04_Same.s1 a0 a1) ?_
      exact Jj1 true H
    ·replace H:=iF c4 H
     rw [eqF c4]
     by_cases c7:a0.Over.Hi=a1.Over.Hi
     ·replace H:=iT c7 H
      rw [eqT c7]
      refine goK hT 16 (K19 110 1) (spliceref04_Same.s1 a0 a1) ?_
      exact Jj1 true H
     ·replace H:=iF c7 H
      rw [eqF c7]
      refine goK hT 16 (K19 110 1) (spliceref04_Same.s1 a0 a1) ?_
      exact Jj1 true H
   ·replace H:=iF c3 H
    rw [neT c3]
    refine goK hT 23 (K19 110 1) (spliceref04_Same.s1 a0 a1) ?_
    exact Jj1 true H
  ·replace H:=iF c2 H
   rw [neT c2]
   refine goK hT 30 (K19 110 1) (spliceref04_Same.s1 a0 a1) ?_
   exact Jj1 true H
 ·replace H:=iF c1 H
  rw [neT c1]
  refine goK hT 37 (K19 110 1) (spliceref04_Same.s1 a0 a1) ?_
  exact Jj1 true H


noncomputable abbrev spliceref24_formed.s1 (a0:spliceref24_Event):St:=⟨101,[(1,.ptr 0 0 0 0),(73,.b true)],[.box 91 (eC91 a0)]⟩


theorem spliceref24_formed.says (a0:spliceref24_Event) {r:Bool} (H:spliceref24_formed a0=some r):Says Try.prog 43 [] [.d (eG91 a0)] [] (.b r):=by
 refine says_of Try.func43 rfl (nt:=101) rfl (Nat.le_of_ble_eq_true rfl) fun X hP h0 hX=>?_
 have hT:TabOk X.P T:=hP▸tok
 have hf:X.P.funcs[43]? = some Try.f43:=hP▸Try.func43
 refine goK hT 12 (K43 110 1) ⟨101,[(1,.ptr 0 0 0 0),(5,.b (a0.Kind == 1))],[.box 91 (eC91 a0)]⟩ ?_
 by_cases c1:a0.Kind=1
 ·replace H:=iT c1 H
  rw [eqT c1]
  refine goK hT 5 (K43 110100 2) ⟨101,[(1,.ptr 0 0 0 0),(7,.d (eG57 a0.M))],[.box 91 (eC91 a0)]⟩ ?_
  obtain ⟨v1,h2,H⟩:=ibC H
  have Jj1:∀ (y1_2:Bool),(spliceref24_formed.j1 y1_2)=some r→AK X 43 ((K43 11010 1)) (Back X [] (.b r)) ⟨101,[(2,.b y1_2)],[]⟩:=by
   intro y1_2 H
   obtain rfl:=retC H
   exact retK hf hX h0 (.b y1_2) [] (fun _ h=>all_nil h) (.d (.v _))
  refine ak_callP (avs:=[.d (eG57 a0.M)]) (dst:=some 8) (k':=(K43 110100 3)) [1,8] [] hP enters_14 (spliceref04_Check.says a0.M h2) (by kernel_rfl) (hands_none _) (.cons (pass_d _) .nil) (st':=⟨101,[(1,.ptr 0 0 0 0),(8,.b v1)],[.box 91 (eC91 a0)]⟩) (by kernel_rfl) ?_
  refine goK hT 1 (K43 110100 4) ⟨101,[(1,.ptr 0 0 0 0),(9,.b v1)],[.box 91 (eC91 a0)]⟩ ?_
  by_cases c3:v1=true
  ·replace H:=iT c3 H
   rw [c3]
   refine goK hT 8 (K43 110100 12) ⟨101,[(1,.ptr 0 0 0 0),(17,.b (a0.M.Client == a0.Client))],[.box 91 (eC91 a0)]⟩ ?_
   by_cases c4:a0.M.Client=a0.Client
   ·replace H:=iT c4 H
    rw [eqT c4]
    refine goK hT 5 (K43 110100 17) ⟨101,[(1,.ptr 0 0 0 0),(22,.b (a0.Key == 0))],[.box 91 (eC91 a0)]⟩ ?_
    by_cases c5:a0.Key=0
    ·replace H:=iT c5 H
     rw [eqT c5]
     refine goK hT 6 (K43 110100 23) ⟨101,[(1,.ptr 0 0 0 0),(28,.b (!a0.Cell.Some))],[.box 91 (eC91 a0)]⟩ ?_
     by_cases c6:a0.Cell.Some=true
     ·replace H:=iT c6 H
      rw [c6]
      refine goCut hT 12 (K43 11010 1) [] ⟨101,[(2,.b false)],[]⟩ h0 ?_
      exact Jj1 false H
     ·replace H:=iF c6 H
      rw [boF c6]
      refine goK hT 6 (K43 110100 29) ⟨101,[(1,.ptr 0 0 0 0),(34,.b (a0.Cell.Val == 0))],[.box 91 (eC91 a0)]⟩ ?_
      by_cases c7:a0.Cell.Val=0
      ·replace H:=iT c7 H
       rw [eqT c7]
       refine goCut hT 6 (K43 11010 1) [] ⟨101,[(2,.b (a0.Mark == 0))],[]⟩ h0 ?_
       exact Jj1 (a0.Mark == 0) H
      ·replace H:=iF c7 H
       rw [eqF c7]
       refine goCut hT 6 (K43 11010 1) [] ⟨101,[(2,.b false)],[]⟩ h0 ?_
       exact Jj1 false H
    ·replace H:=iF c5 H
     rw [eqF c5]
     refine goCut hT 18 (K43 11010 1) [] ⟨101,[(2,.b false)],[]⟩ h0 ?_
     exact Jj1 false H
   ·replace H:=iF c4 H
    rw [eqF c4]
    refine goCut hT 23 (K43 11010 1) [] ⟨101,[(2,.b false)],[]⟩ h0 ?_
    exact Jj1 false H
  ·replace H:=iF c3 H
   rw [boF c3]
   refine goCut hT 31 (K43 11010 1) [] ⟨101,[(2,.b false)],[]⟩ h0 ?_
   exact Jj1 false H
 ·replace H:=iF c1 H
  have Jj2:∀ (y2_73:Bool),(spliceref24_formed.j2 a0 y2_73)=some r→AK X 43 ((K43 1110 1)) (Back X [] (.b r)) ⟨101,[(1,.ptr 0 0 0 0),(73,.b y2_73)],[.box 91 (eC91 a0)]⟩:=by
   intro y2_73 H
   by_cases c15:y2_73=true
   ·replace H:=iT c15 H
    rw [c15]
    refine goK hT 5 (K43 111010 1) ⟨101,[(2,.b false)],[.box 91 (eC91 a0)]⟩ ?_
    obtain rfl:=retC H
    exact retK hf hX h0 (.b false) [] (fun _ h=>all_nil h) (.d (.v _))
   ·replace H:=iF c15 H
    have Jj3:∀ (y3_2:Bool),(spliceref24_formed.j3 y3_2)=some r→AK X 43 ((K43 1111 1)) (Back X [] (.b r)) ⟨101,[(2,.b y3_2)],[]⟩:=by
     intro y3_2 H
     obtain rfl:=retC H
     exact retK hf hX h0 (.b y3_2) [] (fun _ h=>all_nil h) (.d (.v _))
    rw [boF c15]
    refine goK hT 2 (K43 111 1) ⟨101,[(1,.ptr 0 0 0 0)],[.box 91 (eC91 a0)]⟩ ?_
    refine goK hT 7 (K43 11110 5) ⟨101,[(1,.ptr 0 0 0 0),(78,.b (!a0.Cell.Some))],[.box 91 (eC91 a0)]⟩ ?_
    by_cases c16:a0.Cell.Some=true
    ·replace H:=iT c16 H
     rw [c16]
     refine goK hT 10 (K43 11110 15) ⟨101,[(1,.ptr 0 0 0 0),(84,.b false),(88,.b a0.Cell.Some)],[.box 91 (eC91 a0)]⟩ ?_
     rw [c16]
     refine goK hT 6 (K43 11110 21) ⟨101,[(1,.ptr 0 0 0 0),(84,.b false),(94,.b (decide (a0.Cell.Val≥(-1099511627776))))],[.box 91 (eC91 a0)]⟩ ?_
     by_cases c17:a0.Cell.Val≥(-1099511627776)
     ·replace H:=iT c17 H
      rw [decide_eq_true c17]
      refine goCut hT 8 (K43 1111 1) [] ⟨101,[(2,.b (decide (a0.Cell.Val≤1099511627776)))],[]⟩ h0 ?_
      exact Jj3 (decide (a0.Cell.Val≤1099511627776)) H
     ·replace H:=iF c17 H
      rw [decide_eq_false c17]
      refine goCut hT 8 (K43 1111 1) [] ⟨101,[(2,.b false)],[]⟩ h0 ?_
      exact Jj3 false H
    ·replace H:=iF c16 H
     rw [boF c16]
     refine goK hT 6 (K43 11110 11) ⟨101,[(1,.ptr 0 0 0 0),(84,.b (a0.Cell.Val == 0))],[.box 91 (eC91 a0)]⟩ ?_
     by_cases c18:a0.Cell.Val=0
     ·replace H:=iT c18 H
      rw [eqT c18]
      refine goCut hT 18 (K43 1111 1) [] ⟨101,[(2,.b true)],[]⟩ h0 ?_
      exact Jj3 true H
     ·replace H:=iF c18 H
      rw [eqF c18]
      refine goK hT 4 (K43 11110 15) ⟨101,[(1,.ptr 0 0 0 0),(84,.b false),(88,.b a0.Cell.Some)],[.box 91 (eC91 a0)]⟩ ?_
      rw [boF c16]
      refine goCut hT 14 (K43 1111 1) [] ⟨101,[(2,.b false)],[]⟩ h0 ?_
      exact Jj3 false H
  rw [eqF c1]
  refine goK hT 2 (K43 11 1) ⟨101,[(1,.ptr 0 0 0 0)],[.box 91 (eC91 a0)]⟩ ?_
  refine goK hT 7 (K43 11100 4) ⟨101,[(1,.ptr 0 0 0 0),(42,.b (a0.Kind != 2))],[.box 91 (eC91 a0)]⟩ ?_
  by_cases c8:a0.Kind=2
  ·replace H:=iT c8 H
   rw [neF c8]
   refine goK hT 3 (K43 11100 7) ⟨101,[(1,.ptr 0 0 0 0),(42,.b false),(44,.d (eG57 a0.M)),(45,.d (.agg [.i 0,.i 0,.i 0,.ns,.i 0,.i 0,.i 0]))],[.box 91 (eC91 a0)]⟩ ?_
   obtain ⟨v2,h9,H⟩:=ibC H
   refine ak_callP (avs:=[.d (eG57 a0.M),.d (.agg [.i 0,.i 0,.i 0,.ns,.i 0,.i 0,.i 0])]) (dst:=some 46) (k':=(K43 11100 8)) [1,42,46] [] hP enters_19 (spliceref04_Same.says a0.M (⟨0,0,0,[],(⟨0,0⟩:spliceref03_Span),0⟩:spliceref04_Mut) h9) (by kernel_rfl) (hands_none _) (.cons (pass_d _) (.cons (.aggd (.cons (pass_d _) (.cons (pass_d _) (.cons (pass_d _) (.cons (.nil _ _) (.cons (pass_d _) (.cons (pass_d _) (.cons (pass_d _) .nil)))))))) .nil)) (st':=⟨101,[(1,.ptr 0 0 0 0),(42,.b false),(46,.b v2)],[.box 91 (eC91 a0)]⟩) (by kernel_rfl) ?_
   refine goK hT 3 (K43 11100 11) ⟨101,[(1,.ptr 0 0 0 0),(49,.b (!v2))],[.box 91 (eC91 a0)]⟩ ?_
   by_cases c10:v2=true
   ·replace H:=iT c10 H
    rw [c10]
    refine goK hT 5 (K43 11100 16) ⟨101,[(1,.ptr 0 0 0 0),(54,.b (decide (a0.Client < 1)))],[.box 91 (eC91 a0)]⟩ ?_
    by_cases c11:a0.Client < 1
    ·replace H:=iT c11 H
     rw [decide_eq_true c11]
     refine goK hT 20 (K43 1110 1) (spliceref24_formed.s1 a0) ?_
     exact Jj2 true H
    ·replace H:=iF c11 H
     rw [decide_eq_false c11]
     refine goK hT 5 (K43 11100 21) ⟨101,[(1,.ptr 0 0 0 0),(59,.b (decide (a0.Client > 1048576)))],[.box 91 (eC91 a0)]⟩ ?_
     by_cases c12:a0.Client > 1048576
     ·replace H:=iT c12 H
      rw [decide_eq_true c12]
      refine goK hT 15 (K43 1110 1) (spliceref24_formed.s1 a0) ?_
      exact Jj2 true H
     ·replace H:=iF c12 H
      rw [decide_eq_false c12]
      refine goK hT 5 (K43 11100 26) ⟨101,[(1,.ptr 0 0 0 0),(64,.b (decide (a0.Key < 0)))],[.box 91 (eC91 a0)]⟩ ?_
      by_cases c13:a0.Key < 0
      ·replace H:=iT c13 H
       rw [decide_eq_true c13]
       refine goK hT 10 (K43 1110 1) (spliceref24_formed.s1 a0) ?_
       exact Jj2 true H
      ·replace H:=iF c13 H
       rw [decide_eq_false c13]
       refine goK hT 5 (K43 11100 31) ⟨101,[(1,.ptr 0 0 0 0),(69,.b (decide (a0.Key≥4096)))],[.box 91 (eC91 a0)]⟩ ?_
       by_cases c14:a0.Key≥4096
       ·replace H:=iT c14 H
        rw [decide_eq_true c14]
        refine goK hT 5 (K43 1110 1) (spliceref24_formed.s1 a0) ?_
        exact Jj2 true H
       ·replace H:=iF c14 H
        rw [decide_eq_false c14]
        refine goK hT 5 (K43 1110 1) ⟨101,[(1,.ptr 0 0 0 0),(73,.b (decide (a0.Mark < 0)))],[.box 91 (eC91 a0)]⟩ ?_
        exact Jj2 (decide (a0.Mark < 0)) H
   ·replace H:=iF c10 H
    rw [boF c10]
    refine goK hT 25 (K43 1110 1) (spliceref24_formed.s1 a0) ?_
    exact Jj2 true H
  ·replace H:=iF c8 H
   rw [neT c8]
   refine goK hT 32 (K43 1110 1) (spliceref24_formed.s1 a0) ?_
   exact Jj2 true H


noncomputable abbrev spliceref24_issued.s1 (t0:Bool) (a0:List spliceref24_Event) (a1:Int) (a2:Int) (x1_r0:List spliceref04_Mut) (x1_8:Int):St:=⟨53,[(0,.d (eL91 t0 a0)),(1,.i a1),(2,.i a2),(7,.own 0 7 0 x1_r0.length),(8,.i x1_8),(9,.ptr 1 0 0 0),(46,.b false)],[eR57 x1_r0,.box 91 (eC91 (a0.getD x1_8.toNat spliceref24_Event.z))]⟩


theorem spliceref24_issued.says {t0:Bool} (a0:List spliceref24_Event) (a1:Int) (a2:Int) {r:List spliceref04_Mut} (H:spliceref24_issued a0 a1 a2=some r):Says Try.prog 40 [] [.d (eL91 t0 a0),.i a1,.i a2] [eR57 r] (.own 0 7 0 r.length):=by
 refine says_of Try.func40 rfl (nt:=53) rfl (Nat.le_of_ble_eq_true rfl) fun X hP h0 hX=>?_
 have hT:TabOk X.P T:=hP▸tok
 have hf:X.P.funcs[40]? = some Try.f40:=hP▸Try.func40
 refine goK hT 15 (K40 111010 0) ⟨53,[(0,.d (eL91 t0 a0)),(1,.i a1),(2,.i a2),(7,.ns),(8,.i 0)],[]⟩ ?_
 refine ak_nilS [0,1,2,7,8] 7 7 57 (vec spliceref04_Mut.e spliceref04_Mut.z []) (st':=⟨53,[(0,.d (eL91 t0 a0)),(1,.i a1),(2,.i a2),(7,.own 0 7 0 0),(8,.i 0)],[eR57 ([]:List spliceref04_Mut)]⟩) (by kernel_rfl) (by kernel_rfl) ?_
 have L:∀ n,(∀ (x1_8:Int) (x1_r0:List spliceref04_Mut),iter (spliceref24_issued.step a0 a1 a2) n (.l1 x1_8 x1_r0)=some r→AK X 40 ((K40 111010 0)) (Back X [eR57 r] (.own 0 7 0 r.length)) ⟨53,[(0,.d (eL91 t0 a0)),(1,.i a1),(2,.i a2),(7,.own 0 7 0 x1_r0.length),(8,.i x1_8)],[eR57 x1_r0]⟩):=by
  intro n
  induction n with
  | zero=>exact fun _ _ H=>iter0 H
  | succ n ih=>
   ·intro x1_8 x1_r0 H
    have Jj1:∀ (y1_18:Bool),stk (spliceref24_issued.j1 a0 a2 x1_8 x1_r0 y1_18) (iter (spliceref24_issued.step a0 a1 a2) n)=some r→AK X 40 ((K40 11101000 1)) (Back X [eR57 r] (.own 0 7 0 r.length)) ⟨53,[(0,.d (eL91 t0 a0)),(1,.i a1),(2,.i a2),(7,.own 0 7 0 x1_r0.length),(8,.i x1_8),(18,.b y1_18)],[eR57 x1_r0]⟩:=by
     intro y1_18 H
     by_cases c2:y1_18=true
     ·replace H:=sT c2 H
      rw [c2]
      refine goK hT 2 (K40 1110100 1) ⟨53,[(0,.d (eL91 t0 a0)),(1,.i a1),(2,.i a2),(7,.own 0 7 0 x1_r0.length),(8,.i x1_8)],[eR57 x1_r0]⟩ ?_
      refine goK hT 6 (K40 11101001000 2) ⟨53,[(0,.d (eL91 t0 a0)),(1,.i a1),(2,.i a2),(7,.own 0 7 0 x1_r0.length),(8,.i x1_8),(21,.d (eL91 t0 a0)),(22,.i x1_8)],[eR57 x1_r0]⟩ ?_
      obtain ⟨h3,H⟩:=sC H
      have Jj2:∀ (y2_46:Bool),stk (spliceref24_issued.j2 a0 x1_8 x1_r0 y2_46) (iter (spliceref24_issued.step a0 a1 a2) n)=some r→AK X 40 ((K40 11101001001 1)) (Back X [eR57 r] (.own 0 7 0 r.length)) ⟨53,[(0,.d (eL91 t0 a0)),(1,.i a1),(2,.i a2),(7,.own 0 7 0 x1_r0.length),(8,.i x1_8),(9,.ptr 1 0 0 0),(46,.b y2_46)],[eR57 x1_r0,.box 91 (eC91 (a0.getD x1_8.toNat spliceref24_Event.z))]⟩:=by
       intro y2_46 H
       have Jj3:∀ (y3_r0:List spliceref04_Mut),stk (spliceref24_issued.j3 x1_8 y3_r0) (iter (spliceref24_issued.step a0 a1 a2) n)=some r→AK X 40 ((K40 11101001 1)) (Back X [eR57 r] (.own 0 7 0 r.length)) ⟨53,[(0,.d (eL91 t0 a0)),(1,.i a1),(2,.i a2),(7,.own 0 7 0 y3_r0.length),(8,.i x1_8)],[eR57 y3_r0]⟩:=by
        intro y3_r0 H
        refine goK hT 6 (K40 111010 0) ⟨53,[(0,.d (eL91 t0 a0)),(1,.i a1),(2,.i a2),(7,.own 0 7 0 y3_r0.length),(8,.i (IntKind.wrap .i64 (x1_8+1)))],[eR57 y3_r0]⟩ ?_
        exact ih (IntKind.wrap .i64 (x1_8+1)) y3_r0 H
       by_cases c8:y2_46=true
       ·replace H:=sT c8 H
        rw [c8]
        refine goK hT 6 (K40 1110100100110 4) ⟨53,[(0,.d (eL91 t0 a0)),(1,.i a1),(2,.i a2),(8,.i x1_8),(47,.own 0 7 0 x1_r0.length),(50,.own 2 7 0 1)],[eR57 x1_r0,.box 91 (eC91 (a0.getD x1_8.toNat spliceref24_Event.z)),.flat false 7 57 1 (fun j=>[spliceref04_Mut.e ((a0.getD x1_8.toNat spliceref24_Event.z).M)].getD j [])]⟩ ?_
        obtain ⟨h9,H⟩:=sC H
        refine ak_append1 (id:=0) (kk:=7) (by':=72) (t:=67) (e:=57) (z:=[.int .i64 0,.int .i64 0,.int .i64 0,.slice none 0 0,.int .i64 0,.int .i64 0,.int .i64 0]) (dst:=some 51) (id2:=2) (e2:=57) (fz:=false) (k':=(K40 1110100100110 5)) hT spliceref04_Mut.e spliceref04_Mut.z x1_r0 ((a0.getD x1_8.toNat spliceref24_Event.z).M) [0,1,2,8,51] (by kernel_rfl) (by kernel_rfl) (by kernel_rfl) (by kernel_rfl) (by kernel_rfl) (by kernel_rfl) (by kernel_rfl) h9 (by omega) (st':=⟨53,[(0,.d (eL91 t0 a0)),(1,.i a1),(2,.i a2),(8,.i x1_8),(51,.own 3 7 0 ((x1_r0 ++ [((a0.getD x1_8.toNat spliceref24_Event.z).M)]).length))],[.gone,.box 91 (eC91 (a0.getD x1_8.toNat spliceref24_Event.z)),.flat false 7 57 1 (fun j=>[spliceref04_Mut.e ((a0.getD x1_8.toNat spliceref24_Event.z).M)].getD j []),eR57 (x1_r0 ++ [((a0.getD x1_8.toNat spliceref24_Event.z).M)])]⟩) (by kernel_rfl) ?_
        refine goCut hT 3 (K40 11101001 1) [3] ⟨53,[(0,.d (eL91 t0 a0)),(1,.i a1),(2,.i a2),(7,.own 0 7 0 (x1_r0 ++ [((a0.getD x1_8.toNat spliceref24_Event.z).M)]).length),(8,.i x1_8)],[eR57 (x1_r0 ++ [((a0.getD x1_8.toNat spliceref24_Event.z).M)])]⟩ h0 ?_
        exact Jj3 (x1_r0 ++ [((a0.getD x1_8.toNat spliceref24_Event.z).M)]) H
       ·replace H:=sF c8 H
        rw [boF c8]
        refine goCut hT 3 (K40 11101001 1) [0] ⟨53,[(0,.d (eL91 t0 a0)),(1,.i a1),(2,.i a2),(7,.own 0 7 0 x1_r0.length),(8,.i x1_8)],[eR57 x1_r0]⟩ h0 ?_
        exact Jj3 x1_r0 H
      refine ak_idx hT [0,1,2,7,8,23] (i:=x1_8) (n:=(a0.length:Int)) h3.1 h3.2 (k':=(K40 11101001000 3)) (st':=⟨53,[(0,.d (eL91 t0 a0)),(1,.i a1),(2,.i a2),(7,.own 0 7 0 x1_r0.length),(8,.i x1_8),(23,.d (eP91 t0 a0 x1_8.toNat 0))],[eR57 x1_r0]⟩) (by kernel_rfl) ?_
      refine goK hT 10 (K40 111010010010 4) ⟨53,[(0,.d (eL91 t0 a0)),(1,.i a1),(2,.i a2),(7,.own 0 7 0 x1_r0.length),(8,.i x1_8),(9,.ptr 1 0 0 0),(28,.b (((a0.getD x1_8.toNat spliceref24_Event.z).Kind) == 1))],[eR57 x1_r0,.box 91 (eC91 (a0.getD x1_8.toNat spliceref24_Event.z))]⟩ ?_
      by_cases c4:((a0.getD x1_8.toNat spliceref24_Event.z).Kind)=1
      ·replace H:=sT c4 H
       rw [eqT c4]
       refine goK hT 6 (K40 111010010010 10) ⟨53,[(0,.d (eL91 t0 a0)),(1,.i a1),(2,.i a2),(7,.own 0 7 0 x1_r0.length),(8,.i x1_8),(9,.ptr 1 0 0 0),(34,.b (((a0.getD x1_8.toNat spliceref24_Event.z).Client) == a2))],[eR57 x1_r0,.box 91 (eC91 (a0.getD x1_8.toNat spliceref24_Event.z))]⟩ ?_
       by_cases c5:((a0.getD x1_8.toNat spliceref24_Event.z).Client)=a2
       ·replace H:=sT c5 H
        rw [eqT c5]
        refine goK hT 1 (K40 111010010010 11) ⟨53,[(0,.d (eL91 t0 a0)),(1,.i a1),(2,.i a2),(7,.own 0 7 0 x1_r0.length),(8,.i x1_8),(9,.ptr 1 0 0 0),(34,.b true),(35,.d (eG91 (a0.getD x1_8.toNat spliceref24_Event.z)))],[eR57 x1_r0,.box 91 (eC91 (a0.getD x1_8.toNat spliceref24_Event.z))]⟩ ?_
        obtain ⟨v1,h6,H⟩:=sbC H
        refine ak_callP (avs:=[.d (eG91 (a0.getD x1_8.toNat spliceref24_Event.z))]) (dst:=some 36) (k':=(K40 111010010010 12)) [0,1,2,7,8,9,34,36] [] hP enters_43 (spliceref24_formed.says (a0.getD x1_8.toNat spliceref24_Event.z) h6) (by kernel_rfl) (hands_none _) (.cons (pass_d _) .nil) (st':=⟨53,[(0,.d (eL91 t0 a0)),(1,.i a1),(2,.i a2),(7,.own 0 7 0 x1_r0.length),(8,.i x1_8),(9,.ptr 1 0 0 0),(34,.b true),(36,.b v1)],[eR57 x1_r0,.box 91 (eC91 (a0.getD x1_8.toNat spliceref24_Event.z))]⟩) (by kernel_rfl) ?_
        refine goK hT 2 (K40 111010010010 14) ⟨53,[(0,.d (eL91 t0 a0)),(1,.i a1),(2,.i a2),(7,.own 0 7 0 x1_r0.length),(8,.i x1_8),(9,.ptr 1 0 0 0),(38,.b v1)],[eR57 x1_r0,.box 91 (eC91 (a0.getD x1_8.toNat spliceref24_Event.z))]⟩ ?_
        by_cases c7:v1=true
        ·replace H:=sT c7 H
         rw [c7]
         refine goK hT 9 (K40 11101001001 1) ⟨53,[(0,.d (eL91 t0 a0)),(1,.i a1),(2,.i a2),(7,.own 0 7 0 x1_r0.length),(8,.i x1_8),(9,.ptr 1 0 0 0),(46,.b ((((a0.getD x1_8.toNat spliceref24_Event.z).M).Seq) == (IntKind.wrap .i64 ((x1_r0.length:Int)+1))))],[eR57 x1_r0,.box 91 (eC91 (a0.getD x1_8.toNat spliceref24_Event.z))]⟩ ?_
         exact Jj2 ((((a0.getD x1_8.toNat spliceref24_Event.z).M).Seq) == (IntKind.wrap .i64 ((x1_r0.length:Int)+1))) H
        ·replace H:=sF c7 H
         rw [boF c7]
         refine goK hT 9 (K40 11101001001 1) (spliceref24_issued.s1 t0 a0 a1 a2 x1_r0 x1_8) ?_
         exact Jj2 false H
       ·replace H:=sF c5 H
        rw [eqF c5]
        refine goK hT 13 (K40 11101001001 1) (spliceref24_issued.s1 t0 a0 a1 a2 x1_r0 x1_8) ?_
        exact Jj2 false H
      ·replace H:=sF c4 H
       rw [eqF c4]
       refine goK hT 19 (K40 11101001001 1) (spliceref24_issued.s1 t0 a0 a1 a2 x1_r0 x1_8) ?_
       exact Jj2 false H
     ·replace H:=sF c2 H
      rw [boF c2]
      refine goK hT 7 (K40 1111 1) ⟨53,[(6,.own 0 7 0 x1_r0.length)],[eR57 x1_r0]⟩ ?_
      obtain rfl:=retC H
      exact retK hf hX h0 (.own 0 7 0 x1_r0.length) [0] (fun _ h=>all_cons (nr_vec spliceref04_Mut.nl) (fun _ h=>all_nil h) h) (.own _ _ _ _)
    refine goK hT 7 (K40 111010000 4) ⟨53,[(0,.d (eL91 t0 a0)),(1,.i a1),(2,.i a2),(7,.own 0 7 0 x1_r0.length),(8,.i x1_8),(13,.b (decide (x1_8 < a1)))],[eR57 x1_r0]⟩ ?_
    by_cases c1:x1_8 < a1
    ·replace H:=sT c1 H
     rw [decide_eq_true c1]
     refine goK hT 6 (K40 11101000 1) ⟨53,[(0,.d (eL91 t0 a0)),(1,.i a1),(2,.i a2),(7,.own 0 7 0 x1_r0.length),(8,.i x1_8),(18,.b (decide (x1_8 < (a0.length:Int))))],[eR57 x1_r0]⟩ ?_
     exact Jj1 (decide (x1_8 < (a0.length:Int))) H
    ·replace H:=sF c1 H
     rw [decide_eq_false c1]
     refine goK hT 6 (K40 11101000 1) ⟨53,[(0,.d (eL91 t0 a0)),(1,.i a1),(2,.i a2),(7,.own 0 7 0 x1_r0.length),(8,.i x1_8),(18,.b false)],[eR57 x1_r0]⟩ ?_
     exact Jj1 false H
 refine cutK [0] ⟨53,[(0,.d (eL91 t0 a0)),(1,.i a1),(2,.i a2),(7,.own 0 7 0 ([]:List spliceref04_Mut).length),(8,.i 0)],[eR57 ([]:List spliceref04_Mut)]⟩ h0 ?_
 obtain ⟨n,H⟩:=loopC H
 exact (L n) 0 ([]:List spliceref04_Mut) H


theorem spliceref24_Pending.says {t0:Bool} {t1:Bool} (a0:List spliceref12_Entry) (a1:List spliceref24_Event) (a2:Int) (a3:Int) (a4:Int) {r:List spliceref04_Mut} (H:spliceref24_Pending a0 a1 a2 a3 a4=some r):Says Try.prog 18 [] [.d (eL98 t0 a0),.d (eL91 t1 a1),.i a2,.i a3,.i a4] [eR57 r] (.own 0 7 0 r.length):=by
 refine says_of Try.func18 rfl (nt:=79) rfl (Nat.le_of_ble_eq_true rfl) fun X hP h0 hX=>?_
 have hT:TabOk X.P T:=hP▸tok
 have hf:X.P.funcs[18]? = some Try.f18:=hP▸Try.func18
 refine goK hT 8 (K18 1100 1) ⟨79,[(0,.d (eL98 t0 a0)),(1,.d (eL91 t1 a1)),(2,.i a2),(3,.i a3),(4,.i a4),(16,.d (eL98 t0 a0))],[]⟩ ?_
 obtain ⟨v1,h1,H⟩:=ibC H
 refine ak_callP (avs:=[.d (eL98 t0 a0)]) (dst:=some 17) (k':=(K18 1100 2)) [0,1,2,3,4,17] [] hP enters_13 (spliceref24_Order.says (t0:=t0) a0 h1) (by kernel_rfl) (hands_none _) (.cons (pass_d _) .nil) (st':=⟨79,[(0,.d (eL98 t0 a0)),(1,.d (eL91 t1 a1)),(2,.i a2),(3,.i a3),(4,.i a4),(17,.b v1)],[]⟩) (by kernel_rfl) ?_
 refine goK hT 2 (K18 110 1) ⟨79,[(0,.d (eL98 t0 a0)),(1,.d (eL91 t1 a1)),(2,.i a2),(3,.i a3),(4,.i a4),(18,.b (!v1))],[]⟩ ?_
 by_cases c2:v1=true
 ·replace H:=iT c2 H
  rw [c2]
  refine goK hT 2 (K18 11 1) ⟨79,[(0,.d (eL98 t0 a0)),(1,.d (eL91 t1 a1)),(2,.i a2),(3,.i a3),(4,.i a4)],[]⟩ ?_
  refine goK hT 5 (K18 1110 3) ⟨79,[(0,.d (eL98 t0 a0)),(3,.i a3),(4,.i a4),(19,.d (eL91 t1 a1)),(20,.i a2),(21,.i a3)],[]⟩ ?_
  obtain ⟨v2,h3,H⟩:=ibC H
  refine ak_callP (avs:=[.d (eL91 t1 a1),.i a2,.i a3]) (dst:=some 22) (k':=(K18 1110 4)) [0,3,4,22] [] hP enters_40 (spliceref24_issued.says (t0:=t1) a1 a2 a3 h3) (by kernel_rfl) (hands_none _) (.cons (pass_d _) (.cons (pass_d _) (.cons (pass_d _) .nil))) (st':=⟨79,[(0,.d (eL98 t0 a0)),(3,.i a3),(4,.i a4),(22,.own 0 7 0 v2.length)],[eR57 v2]⟩) (by kernel_rfl) ?_
  refine goK hT 13 (K18 11111010 0) ⟨79,[(0,.d (eL98 t0 a0)),(3,.i a3),(4,.i a4),(11,.own 0 7 0 v2.length),(12,.ns),(13,.i 0)],[eR57 v2]⟩ ?_
  refine ak_nilS [0,3,4,11,12,13] 12 7 57 (vec spliceref04_Mut.e spliceref04_Mut.z []) (st':=⟨79,[(0,.d (eL98 t0 a0)),(3,.i a3),(4,.i a4),(11,.own 0 7 0 v2.length),(12,.own 1 7 0 0),(13,.i 0)],[eR57 v2,eR57 ([]:List spliceref04_Mut)]⟩) (by kernel_rfl) (by kernel_rfl) ?_
  have L:∀ n,(∀ (x1_13:Int) (x1_r1:List spliceref04_Mut),iter (spliceref24_Pending.step a0 a3 a4 v2) n (.l1 x1_13 x1_r1)=some r→AK X 18 ((K18 11111010 0)) (Back X [eR57 r] (.own 0 7 0 r.length)) ⟨79,[(0,.d (eL98 t0 a0)),(3,.i a3),(4,.i a4),(11,.own 0 7 0 v2.length),(12,.own 1 7 0 x1_r1.length),(13,.i x1_13)],[eR57 v2,eR57 x1_r1]⟩)∧(∀ (x2_13:Int) (x2_14:Bool) (x2_15:Int) (x2_r1:List spliceref04_Mut),iter (spliceref24_Pending.step a0 a3 a4 v2) n (.l2 x2_13 x2_14 x2_15 x2_r1)=some r→AK X 18 ((K18 1111101001001010 0)) (Back X [eR57 r] (.own 0 7 0 r.length)) ⟨79,[(0,.d (eL98 t0 a0)),(3,.i a3),(4,.i a4),(11,.own 0 7 0 v2.length),(12,.own 1 7 0 x2_r1.length),(13,.i x2_13),(14,.b x2_14),(15,.i x2_15)],[eR57 v2,eR57 x2_r1]⟩):=by
   intro n
   induction n with
   | zero=>exact ⟨fun _ _ H=>iter0 H,fun _ _ _ _ H=>iter0 H⟩
   | succ n ih=>
    refine ⟨?_, ?_⟩
    ·intro x1_13 x1_r1 H
     refine goK hT 8 (K18 1111101000 1) ⟨79,[(0,.d (eL98 t0 a0)),(3,.i a3),(4,.i a4),(11,.own 0 7 0 v2.length),(12,.own 1 7 0 x1_r1.length),(13,.i x1_13),(26,.b (decide (x1_13 < (v2.length:Int))))],[eR57 v2,eR57 x1_r1]⟩ ?_
     by_cases c4:x1_13 < (v2.length:Int)
     ·replace H:=sT c4 H
      rw [decide_eq_true c4]
      refine goK hT 2 (K18 111110100 1) ⟨79,[(0,.d (eL98 t0 a0)),(3,.i a3),(4,.i a4),(11,.own 0 7 0 v2.length),(12,.own 1 7 0 x1_r1.length),(13,.i x1_13)],[eR57 v2,eR57 x1_r1]⟩ ?_
      refine goK hT 13 (K18 1111101001001010 0) ⟨79,[(0,.d (eL98 t0 a0)),(3,.i a3),(4,.i a4),(11,.own 0 7 0 v2.length),(12,.own 1 7 0 x1_r1.length),(13,.i x1_13),(14,.b false),(15,.i 0)],[eR57 v2,eR57 x1_r1]⟩ ?_
      exact ih.2 x1_13 false 0 x1_r1 H
     ·replace H:=sF c4 H
      rw [decide_eq_false c4]
      refine goK hT 7 (K18 111111 1) ⟨79,[(10,.own 1 7 0 x1_r1.length)],[eR57 v2,eR57 x1_r1]⟩ ?_
      obtain rfl:=retC H
      exact retK hf hX h0 (.own 1 7 0 x1_r1.length) [1] (fun _ h=>all_cons (nr_vec spliceref04_Mut.nl) (fun _ h=>all_nil h) h) (.own _ _ _ _)
    ·intro x2_13 x2_14 x2_15 x2_r1 H
     refine goK hT 8 (K18 111110100100101000 1) ⟨79,[(0,.d (eL98 t0 a0)),(3,.i a3),(4,.i a4),(11,.own 0 7 0 v2.length),(12,.own 1 7 0 x2_r1.length),(13,.i x2_13),(14,.b x2_14),(15,.i x2_15),(32,.b (decide (x2_15 < (a0.length:Int))))],[eR57 v2,eR57 x2_r1]⟩ ?_
     by_cases c5:x2_15 < (a0.length:Int)
     ·replace H:=sT c5 H
      have Jj2:∀ (y2_14:Bool),stk (spliceref24_Pending.j2 x2_13 x2_15 x2_r1 y2_14) (iter (spliceref24_Pending.step a0 a3 a4 v2) n)=some r→AK X 18 ((K18 111110100100101001 1)) (Back X [eR57 r] (.own 0 7 0 r.length)) ⟨79,[(0,.d (eL98 t0 a0)),(3,.i a3),(4,.i a4),(11,.own 0 7 0 v2.length),(12,.own 1 7 0 x2_r1.length),(13,.i x2_13),(14,.b y2_14),(15,.i x2_15)],[eR57 v2,eR57 x2_r1]⟩:=by
       intro y2_14 H
       refine goK hT 6 (K18 1111101001001010 0) ⟨79,[(0,.d (eL98 t0 a0)),(3,.i a3),(4,.i a4),(11,.own 0 7 0 v2.length),(12,.own 1 7 0 x2_r1.length),(13,.i x2_13),(14,.b y2_14),(15,.i (IntKind.wrap .i64 (x2_15+1)))],[eR57 v2,eR57 x2_r1]⟩ ?_
       exact ih.2 x2_13 y2_14 (IntKind.wrap .i64 (x2_15+1)) x2_r1 H
      rw [decide_eq_true c5]
      refine goK hT 2 (K18 11111010010010100 1) ⟨79,[(0,.d (eL98 t0 a0)),(3,.i a3),(4,.i a4),(11,.own 0 7 0 v2.length),(12,.own 1 7 0 x2_r1.length),(13,.i x2_13),(14,.b x2_14),(15,.i x2_15)],[eR57 v2,eR57 x2_r1]⟩ ?_
      refine goK hT 2 (K18 1111101001001010010 0) ⟨79,[(0,.d (eL98 t0 a0)),(3,.i a3),(4,.i a4),(11,.own 0 7 0 v2.length),(12,.own 1 7 0 x2_r1.length),(13,.i x2_13),(14,.b x2_14),(15,.i x2_15)],[eR57 v2,eR57 x2_r1]⟩ ?_
      by_cases c9:x2_14=true
      ·replace H:=sT c9 H
       refine drawK (hP▸mixed) 31 [0,3,4,11,12,13,14,15] [some (.b true),some (.b true),some (.tup []),some (.tup []),some (.tup []),some (.tup []),some (.tup []),some (.tup []),some (.tup []),some (.tup []),some (.tup []),some (.tup []),some (.tup []),some (.tup []),some (.tup []),some (.tup []),some (.tup []),some (.tup []),some (.tup []),some (.tup []),some (.tup []),some (.tup []),some (.tup []),some (.tup []),some (.tup []),some (.tup []),some (.tup []),some (.tup []),some (.tup []),some (.tup []),some (.tup [])] (opG (opG (opG (opG (opG (opG (opG (opG (opG (opG (opG (opG (opG (opG (opG (opG (opG (opG (opG (opG (opG (opG (opG (opG (opG (opG (opG (opG (opG (opG (opV op0 hT 35 (.b x2_14) (.b true) (by rw [c9]<;>rfl)) hT) hT) hT) hT) hT) hT) hT) hT) hT) hT) hT) hT) hT) hT) hT) hT) hT) hT) hT) hT) hT) hT) hT) hT) hT) hT) hT) hT) hT) hT) ?_
       refine goK hT 6 (K18 111110100100101001 1) ⟨79,[(0,.d (eL98 t0 a0)),(3,.i a3),(4,.i a4),(11,.own 0 7 0 v2.length),(12,.own 1 7 0 x2_r1.length),(13,.i x2_13),(14,.b true),(15,.i x2_15)],[eR57 v2,eR57 x2_r1]⟩ ?_
       exact Jj2 true H
      ·replace H:=sF c9 H
       obtain ⟨h10,H⟩:=sC H
       by_cases c11:(((a0.getD x2_15.toNat spliceref12_Entry.z).M).Client)=a3
       ·replace H:=sT c11 H
        obtain ⟨h12,H⟩:=sC H
        by_cases c13:(((a0.getD x2_15.toNat spliceref12_Entry.z).M).Seq)=((v2.getD x2_13.toNat spliceref04_Mut.z).Seq)
        ·replace H:=sT c13 H
         refine drawK (hP▸mixed) 31 [0,3,4,11,12,13,14,15] [some (.b false),some (.b false),some (.d (eL98 t0 a0)),some (.i x2_15),some (.d (eP98 t0 a0 x2_15.toNat 0)),some (.d (eP98 t0 a0 x2_15.toNat 0)),some (.d (eP98 t0 a0 x2_15.toNat 0)),some (.i (((a0.getD x2_15.toNat spliceref12_Entry.z).M).Client)),some (.i a3),some (.b true),some (.b true),some (.d (eL98 t0 a0)),some (.i x2_15),some (.d (eP98 t0 a0 x2_15.toNat 0)),some (.d (eP98 t0 a0 x2_15.toNat 0)),some (.d (eP98 t0 a0 x2_15.toNat 1)),some (.i (((a0.getD x2_15.toNat spliceref12_Entry.z).M).Seq)),some (.own 0 7 0 v2.length),some (.i x2_13),some (.ptr 0 7 x2_13.toNat 0),some (.ptr 0 7 x2_13.toNat 1),some (.i ((v2.getD x2_13.toNat spliceref04_Mut.z).Seq)),some (.b true),some (.b true),some (.b true),some (.d (eL98 t0 a0)),some (.i x2_15),some (.d (eP98 t0 a0 x2_15.toNat 0)),some (.d (eP98 t0 a0 x2_15.toNat 7)),some (.i ((a0.getD x2_15.toNat spliceref12_Entry.z).Time)),some (.i a4)] (opG (opG (opG (opS (opG (opG (opG (opG (opV (opS (opG (opS (opG (opG (opG (opG (opG (opS (opG (opG (opG (opV (opG (opG (opG (opG (opS (opG (opG (opG (opV op0 hT 35 (.b x2_14) (.b false) (by rw [boF c9]<;>rfl)) hT) hT) hT) (fun R rest h=>ak_idx0 hT (i:=x2_15) (n:=(a0.length:Int)) h10.1 h10.2 (by kernel_rfl) h)) hT) hT) hT) hT) hT 44 (.b ((((a0.getD x2_15.toNat spliceref12_Entry.z).M).Client) == a3)) (.b true) (by rw [eqT c11]<;>rfl)) hT) hT) hT) (fun R rest h=>ak_idx0 hT (i:=x2_15) (n:=(a0.length:Int)) h10.1 h10.2 (by kernel_rfl) h)) hT) hT) hT) hT) hT) (fun R rest h=>ak_idx0 hT (i:=x2_13) (n:=(v2.length:Int)) h12.1 h12.2 (by kernel_rfl) h)) hT) (fun R rest h=>ak_ld0 hT (i:=x2_13.toNat) (n:=v2.length) (ltN h12.1 h12.2) (by kernel_rfl) h)) hT 57 (.b ((((a0.getD x2_15.toNat spliceref12_Entry.z).M).Seq) == ((v2.getD x2_13.toNat spliceref04_Mut.z).Seq))) (.b true) (by rw [eqT c13]<;>rfl)) hT) hT) hT) hT) (fun R rest h=>ak_idx0 hT (i:=x2_15) (n:=(a0.length:Int)) h10.1 h10.2 (by kernel_rfl) h)) hT) hT) hT) ?_
         refine goK hT 6 (K18 111110100100101001 1) ⟨79,[(0,.d (eL98 t0 a0)),(3,.i a3),(4,.i a4),(11,.own 0 7 0 v2.length),(12,.own 1 7 0 x2_r1.length),(13,.i x2_13),(14,.b (decide (((a0.getD x2_15.toNat spliceref12_Entry.z).Time)≤a4))),(15,.i x2_15)],[eR57 v2,eR57 x2_r1]⟩ ?_
         exact Jj2 (decide (((a0.getD x2_15.toNat spliceref12_Entry.z).Time)≤a4)) H
        ·replace H:=sF c13 H
         refine drawK (hP▸mixed) 31 [0,3,4,11,12,13,14,15] [some (.b false),some (.b false),some (.d (eL98 t0 a0)),some (.i x2_15),some (.d (eP98 t0 a0 x2_15.toNat 0)),some (.d (eP98 t0 a0 x2_15.toNat 0)),some (.d (eP98 t0 a0 x2_15.toNat 0)),some (.i (((a0.getD x2_15.toNat spliceref12_Entry.z).M).Client)),some (.i a3),some (.b true),some (.b true),some (.d (eL98 t0 a0)),some (.i x2_15),some (.d (eP98 t0 a0 x2_15.toNat 0)),some (.d (eP98 t0 a0 x2_15.toNat 0)),some (.d (eP98 t0 a0 x2_15.toNat 1)),some (.i (((a0.getD x2_15.toNat spliceref12_Entry.z).M).Seq)),some (.own 0 7 0 v2.length),some (.i x2_13),some (.ptr 0 7 x2_13.toNat 0),some (.ptr 0 7 x2_13.toNat 1),some (.i ((v2.getD x2_13.toNat spliceref04_Mut.z).Seq)),some (.b false),some (.b false),some (.b false),some (.tup []),some (.tup []),some (.tup []),some (.tup []),some (.tup []),some (.tup [])] (opG (opG (opG (opG (opG (opG (opG (opG (opV (opS (opG (opS (opG (opG (opG (opG (opG (opS (opG (opG (opG (opV (opG (opG (opG (opG (opS (opG (opG (opG (opV op0 hT 35 (.b x2_14) (.b false) (by rw [boF c9]<;>rfl)) hT) hT) hT) (fun R rest h=>ak_idx0 hT (i:=x2_15) (n:=(a0.length:Int)) h10.1 h10.2 (by kernel_rfl) h)) hT) hT) hT) hT) hT 44 (.b ((((a0.getD x2_15.toNat spliceref12_Entry.z).M).Client) == a3)) (.b true) (by rw [eqT c11]<;>rfl)) hT) hT) hT) (fun R rest h=>ak_idx0 hT (i:=x2_15) (n:=(a0.length:Int)) h10.1 h10.2 (by kernel_rfl) h)) hT) hT) hT) hT) hT) (fun R rest h=>ak_idx0 hT (i:=x2_13) (n:=(v2.length:Int)) h12.1 h12.2 (by kernel_rfl) h)) hT) (fun R rest h=>ak_ld0 hT (i:=x2_13.toNat) (n:=v2.length) (ltN h12.1 h12.2) (by kernel_rfl) h)) hT 57 (.b ((((a0.getD x2_15.toNat spliceref12_Entry.z).M).Seq) == ((v2.getD x2_13.toNat spliceref04_Mut.z).Seq))) (.b false) (by rw [eqF c13]<;>rfl)) hT) hT) hT) hT) hT) hT) hT) hT) ?_
         refine goK hT 6 (K18 111110100100101001 1) ⟨79,[(0,.d (eL98 t0 a0)),(3,.i a3),(4,.i a4),(11,.own 0 7 0 v2.length),(12,.own 1 7 0 x2_r1.length),(13,.i x2_13),(14,.b false),(15,.i x2_15)],[eR57 v2,eR57 x2_r1]⟩ ?_
         exact Jj2 false H
       ·replace H:=sF c11 H
        refine drawK (hP▸mixed) 31 [0,3,4,11,12,13,14,15] [some (.b false),some (.b false),some (.d (eL98 t0 a0)),some (.i x2_15),some (.d (eP98 t0 a0 x2_15.toNat 0)),some (.d (eP98 t0 a0 x2_15.toNat 0)),some (.d (eP98 t0 a0 x2_15.toNat 0)),some (.i (((a0.getD x2_15.toNat spliceref12_Entry.z).M).Client)),some (.i a3),some (.b false),some (.b false),some (.tup []),some (.tup []),some (.tup []),some (.tup []),some (.tup []),some (.tup []),some (.tup []),some (.tup []),some (.tup []),some (.tup []),some (.tup []),some (.tup []),some (.b false),some (.b false),some (.tup []),some (.tup []),some (.tup []),some (.tup []),some (.tup []),some (.tup [])] (opG (opG (opG (opG (opG (opG (opG (opG (opG (opG (opG (opG (opG (opG (opG (opG (opG (opG (opG (opG (opG (opV (opG (opG (opG (opG (opS (opG (opG (opG (opV op0 hT 35 (.b x2_14) (.b false) (by rw [boF c9]<;>rfl)) hT) hT) hT) (fun R rest h=>ak_idx0 hT (i:=x2_15) (n:=(a0.length:Int)) h10.1 h10.2 (by kernel_rfl) h)) hT) hT) hT) hT) hT 44 (.b ((((a0.getD x2_15.toNat spliceref12_Entry.z).M).Client) == a3)) (.b false) (by rw [eqF c11]<;>rfl)) hT) hT) hT) hT) hT) hT) hT) hT) hT) hT) hT) hT) hT) hT) hT) hT) hT) hT) hT) hT) hT) ?_
        refine goK hT 6 (K18 111110100100101001 1) ⟨79,[(0,.d (eL98 t0 a0)),(3,.i a3),(4,.i a4),(11,.own 0 7 0 v2.length),(12,.own 1 7 0 x2_r1.length),(13,.i x2_13),(14,.b false),(15,.i x2_15)],[eR57 v2,eR57 x2_r1]⟩ ?_
        exact Jj2 false H
     ·replace H:=sF c5 H
      have Jj1:∀ (y1_r1:List spliceref04_Mut),stk (spliceref24_Pending.j1 x2_13 y1_r1) (iter (spliceref24_Pending.step a0 a3 a4 v2) n)=some r→AK X 18 ((K18 1111101001 1)) (Back X [eR57 r] (.own 0 7 0 r.length)) ⟨79,[(0,.d (eL98 t0 a0)),(3,.i a3),(4,.i a4),(11,.own 0 7 0 v2.length),(12,.own 1 7 0 y1_r1.length),(13,.i x2_13)],[eR57 v2,eR57 y1_r1]⟩:=by
       intro y1_r1 H
       refine goK hT 6 (K18 11111010 0) ⟨79,[(0,.d (eL98 t0 a0)),(3,.i a3),(4,.i a4),(11,.own 0 7 0 v2.length),(12,.own 1 7 0 y1_r1.length),(13,.i (IntKind.wrap .i64 (x2_13+1)))],[eR57 v2,eR57 y1_r1]⟩ ?_
       exact ih.1 (IntKind.wrap .i64 (x2_13+1)) y1_r1 H
      rw [decide_eq_false c5]
      refine goK hT 7 (K18 11111010010011 1) ⟨79,[(0,.d (eL98 t0 a0)),(3,.i a3),(4,.i a4),(11,.own 0 7 0 v2.length),(12,.own 1 7 0 x2_r1.length),(13,.i x2_13),(70,.b (!x2_14))],[eR57 v2,eR57 x2_r1]⟩ ?_
      by_cases c6:x2_14=true
      ·replace H:=sT c6 H
       rw [c6]
       refine goK hT 3 (K18 1111101001 1) ⟨79,[(0,.d (eL98 t0 a0)),(3,.i a3),(4,.i a4),(11,.own 0 7 0 v2.length),(12,.own 1 7 0 x2_r1.length),(13,.i x2_13)],[eR57 v2,eR57 x2_r1]⟩ ?_
       exact Jj1 x2_r1 H
      ·replace H:=sF c6 H
       rw [boF c6]
       refine goK hT 5 (K18 1111101001001110 3) ⟨79,[(0,.d (eL98 t0 a0)),(3,.i a3),(4,.i a4),(11,.own 0 7 0 v2.length),(13,.i x2_13),(71,.own 1 7 0 x2_r1.length),(72,.own 0 7 0 v2.length),(73,.i x2_13)],[eR57 v2,eR57 x2_r1]⟩ ?_
       obtain ⟨h7,H⟩:=sC H
       refine ak_idx hT [0,3,4,11,13,71,74] (i:=x2_13) (n:=(v2.length:Int)) h7.1 h7.2 (k':=(K18 1111101001001110 4)) (st':=⟨79,[(0,.d (eL98 t0 a0)),(3,.i a3),(4,.i a4),(11,.own 0 7 0 v2.length),(13,.i x2_13),(71,.own 1 7 0 x2_r1.length),(74,.ptr 0 7 x2_13.toNat 0)],[eR57 v2,eR57 x2_r1]⟩) (by kernel_rfl) ?_
       refine ak_ld hT [0,3,4,11,13,71,75] (i:=x2_13.toNat) (n:=v2.length) (ltN h7.1 h7.2) (k':=(K18 1111101001001110 5)) (st':=⟨79,[(0,.d (eL98 t0 a0)),(3,.i a3),(4,.i a4),(11,.own 0 7 0 v2.length),(13,.i x2_13),(71,.own 1 7 0 x2_r1.length),(75,.d (eG57 (v2.getD x2_13.toNat spliceref04_Mut.z)))],[eR57 v2,eR57 x2_r1]⟩) (by kernel_rfl) ?_
       refine goK hT 1 (K18 1111101001001110 6) ⟨79,[(0,.d (eL98 t0 a0)),(3,.i a3),(4,.i a4),(11,.own 0 7 0 v2.length),(13,.i x2_13),(71,.own 1 7 0 x2_r1.length),(76,.own 2 7 0 1)],[eR57 v2,eR57 x2_r1,.flat false 7 57 1 (fun j=>[spliceref04_Mut.e (v2.getD x2_13.toNat spliceref04_Mut.z)].getD j [])]⟩ ?_
       obtain ⟨h8,H⟩:=sC H
       refine ak_append1 (id:=1) (kk:=7) (by':=72) (t:=67) (e:=57) (z:=[.int .i64 0,.int .i64 0,.int .i64 0,.slice none 0 0,.int .i64 0,.int .i64 0,.int .i64 0]) (dst:=some 77) (id2:=2) (e2:=57) (fz:=false) (k':=(K18 1111101001001110 7)) hT spliceref04_Mut.e spliceref04_Mut.z x2_r1 (v2.getD x2_13.toNat spliceref04_Mut.z) [0,3,4,11,13,77] (by kernel_rfl) (by kernel_rfl) (by kernel_rfl) (by kernel_rfl) (by kernel_rfl) (by kernel_rfl) (by kernel_rfl) h8 (by omega) (st':=⟨79,[(0,.d (eL98 t0 a0)),(3,.i a3),(4,.i a4),(11,.own 0 7 0 v2.length),(13,.i x2_13),(77,.own 3 7 0 ((x2_r1 ++ [v2.getD x2_13.toNat spliceref04_Mut.z]).length))],[eR57 v2,.gone,.flat false 7 57 1 (fun j=>[spliceref04_Mut.e (v2.getD x2_13.toNat spliceref04_Mut.z)].getD j []),eR57 (x2_r1 ++ [v2.getD x2_13.toNat spliceref04_Mut.z])]⟩) (by kernel_rfl) ?_
       refine goCut hT 3 (K18 1111101001 1) [0,3] ⟨79,[(0,.d (eL98 t0 a0)),(3,.i a3),(4,.i a4),(11,.own 0 7 0 v2.length),(12,.own 1 7 0 (x2_r1 ++ [v2.getD x2_13.toNat spliceref04_Mut.z]).length),(13,.i x2_13)],[eR57 v2,eR57 (x2_r1 ++ [v2.getD x2_13.toNat spliceref04_Mut.z])]⟩ h0 ?_
       exact Jj1 (x2_r1 ++ [v2.getD x2_13.toNat spliceref04_Mut.z]) H
  refine cutK [0,1] ⟨79,[(0,.d (eL98 t0 a0)),(3,.i a3),(4,.i a4),(11,.own 0 7 0 v2.length),(12,.own 1 7 0 ([]:List spliceref04_Mut).length),(13,.i 0)],[eR57 v2,eR57 ([]:List spliceref04_Mut)]⟩ h0 ?_
  obtain ⟨n,H⟩:=loopC H
  exact (L n).1 0 ([]:List spliceref04_Mut) H
 ·replace H:=iF c2 H
  rw [boF c2]
  refine goK hT 5 (K18 11010 1) ⟨79,[(10,.ns)],[]⟩ ?_
  refine ak_nilS [10] 10 7 57 (vec spliceref04_Mut.e spliceref04_Mut.z []) (st':=⟨79,[(10,.own 0 7 0 0)],[eR57 ([]:List spliceref04_Mut)]⟩) (by kernel_rfl) (by kernel_rfl) ?_
  obtain rfl:=retC H
  exact retK hf hX h0 (.own 0 7 0 0) [0] (fun _ h=>all_cons (nr_vec spliceref04_Mut.nl) (fun _ h=>all_nil h) h) (.own _ _ _ _)


theorem splicelaw24_few.says {t0:Bool} {t1:Bool} (a0:List api_Entry) (a1:List api_Event) {r:Bool} (H:splicelaw24_few a0 a1=some r):Says Try.prog 6 [] [.d (eL74 t0 a0),.d (eL52 t1 a1)] [] (.b r):=by
 refine says_of Try.func6 rfl (nt:=43) rfl (Nat.le_of_ble_eq_true rfl) fun X hP h0 hX=>?_
 have hT:TabOk X.P T:=hP▸tok
 have hf:X.P.funcs[6]? = some Try.f6:=hP▸Try.func6
 refine goK hT 11 (K6 11010 0) ⟨43,[(0,.d (eL74 t0 a0)),(1,.d (eL52 t1 a1)),(5,.i 0)],[]⟩ ?_
 have L:∀ n,(∀ (x1_5:Int),iter (splicelaw24_few.step a0 a1) n (.l1 x1_5)=some r→AK X 6 ((K6 11010 0)) (Back X [] (.b r)) ⟨43,[(0,.d (eL74 t0 a0)),(1,.d (eL52 t1 a1)),(5,.i x1_5)],[]⟩)∧(∀ (x2_6:Int),iter (splicelaw24_few.step a0 a1) n (.l2 x2_6)=some r→AK X 6 ((K6 111010 0)) (Back X [] (.b r)) ⟨43,[(1,.d (eL52 t1 a1)),(6,.i x2_6)],[]⟩):=by
  intro n
  induction n with
  | zero=>exact ⟨fun _ H=>iter0 H,fun _ H=>iter0 H⟩
  | succ n ih=>
   refine ⟨?_, ?_⟩
   ·intro x1_5 H
    refine goK hT 8 (K6 1101000 1) ⟨43,[(0,.d (eL74 t0 a0)),(1,.d (eL52 t1 a1)),(5,.i x1_5),(10,.b (decide (x1_5 < (a0.length:Int))))],[]⟩ ?_
    by_cases c1:x1_5 < (a0.length:Int)
    ·replace H:=sT c1 H
     have Jj1:∀ (y1_24:Bool),stk (splicelaw24_few.j1 x1_5 y1_24) (iter (splicelaw24_few.step a0 a1) n)=some r→AK X 6 ((K6 110100100 1)) (Back X [] (.b r)) ⟨43,[(0,.d (eL74 t0 a0)),(1,.d (eL52 t1 a1)),(5,.i x1_5),(24,.b y1_24)],[]⟩:=by
      intro y1_24 H
      by_cases c4:y1_24=true
      ·replace H:=sT c4 H
       rw [c4]
       refine goK hT 5 (K6 11010010010 1) ⟨43,[(4,.b false)],[]⟩ ?_
       obtain rfl:=retC H
       exact retK hf hX h0 (.b false) [] (fun _ h=>all_nil h) (.d (.v _))
      ·replace H:=sF c4 H
       rw [boF c4]
       refine goK hT 3 (K6 1101001 1) ⟨43,[(0,.d (eL74 t0 a0)),(1,.d (eL52 t1 a1)),(5,.i x1_5)],[]⟩ ?_
       refine goK hT 6 (K6 11010 0) ⟨43,[(0,.d (eL74 t0 a0)),(1,.d (eL52 t1 a1)),(5,.i (IntKind.wrap .i64 (x1_5+1)))],[]⟩ ?_
       exact ih.1 (IntKind.wrap .i64 (x1_5+1)) H
     rw [decide_eq_true c1]
     refine goK hT 2 (K6 110100 1) ⟨43,[(0,.d (eL74 t0 a0)),(1,.d (eL52 t1 a1)),(5,.i x1_5)],[]⟩ ?_
     refine goK hT 7 (K6 1101001000 3) ⟨43,[(0,.d (eL74 t0 a0)),(1,.d (eL52 t1 a1)),(5,.i x1_5),(15,.b (decide (x1_5≥30)))],[]⟩ ?_
     by_cases c2:x1_5≥30
     ·replace H:=sT c2 H
      rw [decide_eq_true c2]
      refine goK hT 10 (K6 110100100 1) ⟨43,[(0,.d (eL74 t0 a0)),(1,.d (eL52 t1 a1)),(5,.i x1_5),(24,.b true)],[]⟩ ?_
      exact Jj1 true H
     ·replace H:=sF c2 H
      rw [decide_eq_false c2]
      refine goK hT 2 (K6 1101001000 5) ⟨43,[(0,.d (eL74 t0 a0)),(1,.d (eL52 t1 a1)),(5,.i x1_5),(15,.b false),(16,.d (eL74 t0 a0)),(17,.i x1_5)],[]⟩ ?_
      obtain ⟨h3,H⟩:=sC H
      refine ak_idx hT [0,1,5,15,18] (i:=x1_5) (n:=(a0.length:Int)) h3.1 h3.2 (k':=(K6 1101001000 6)) (st':=⟨43,[(0,.d (eL74 t0 a0)),(1,.d (eL52 t1 a1)),(5,.i x1_5),(15,.b false),(18,.d (eP74 t0 a0 x1_5.toNat 0))],[]⟩) (by kernel_rfl) ?_
      refine goK hT 7 (K6 110100100 1) ⟨43,[(0,.d (eL74 t0 a0)),(1,.d (eL52 t1 a1)),(5,.i x1_5),(24,.b (decide (((((a0.getD x1_5.toNat api_Entry.z).M).Pairs).length:Int) > 10)))],[]⟩ ?_
      exact Jj1 (decide (((((a0.getD x1_5.toNat api_Entry.z).M).Pairs).length:Int) > 10)) H
    ·replace H:=sF c1 H
     rw [decide_eq_false c1]
     refine goK hT 9 (K6 111010 0) ⟨43,[(1,.d (eL52 t1 a1)),(6,.i 0)],[]⟩ ?_
     exact ih.2 0 H
   ·intro x2_6 H
    refine goK hT 8 (K6 11101000 1) ⟨43,[(1,.d (eL52 t1 a1)),(6,.i x2_6),(28,.b (decide (x2_6 < (a1.length:Int))))],[]⟩ ?_
    by_cases c5:x2_6 < (a1.length:Int)
    ·replace H:=sT c5 H
     have Jj2:∀ (y2_42:Bool),stk (splicelaw24_few.j2 x2_6 y2_42) (iter (splicelaw24_few.step a0 a1) n)=some r→AK X 6 ((K6 1110100100 1)) (Back X [] (.b r)) ⟨43,[(1,.d (eL52 t1 a1)),(6,.i x2_6),(42,.b y2_42)],[]⟩:=by
      intro y2_42 H
      by_cases c8:y2_42=true
      ·replace H:=sT c8 H
       rw [c8]
       refine goK hT 5 (K6 111010010010 1) ⟨43,[(4,.b false)],[]⟩ ?_
       obtain rfl:=retC H
       exact retK hf hX h0 (.b false) [] (fun _ h=>all_nil h) (.d (.v _))
      ·replace H:=sF c8 H
       rw [boF c8]
       refine goK hT 3 (K6 11101001 1) ⟨43,[(1,.d (eL52 t1 a1)),(6,.i x2_6)],[]⟩ ?_
       refine goK hT 6 (K6 111010 0) ⟨43,[(1,.d (eL52 t1 a1)),(6,.i (IntKind.wrap .i64 (x2_6+1)))],[]⟩ ?_
       exact ih.2 (IntKind.wrap .i64 (x2_6+1)) H
     rw [decide_eq_true c5]
     refine goK hT 2 (K6 1110100 1) ⟨43,[(1,.d (eL52 t1 a1)),(6,.i x2_6)],[]⟩ ?_
     refine goK hT 7 (K6 11101001000 3) ⟨43,[(1,.d (eL52 t1 a1)),(6,.i x2_6),(33,.b (decide (x2_6≥30)))],[]⟩ ?_
     by_cases c6:x2_6≥30
     ·replace H:=sT c6 H
      rw [decide_eq_true c6]
      refine goK hT 10 (K6 1110100100 1) ⟨43,[(1,.d (eL52 t1 a1)),(6,.i x2_6),(42,.b true)],[]⟩ ?_
      exact Jj2 true H
     ·replace H:=sF c6 H
      rw [decide_eq_false c6]
      refine goK hT 2 (K6 11101001000 5) ⟨43,[(1,.d (eL52 t1 a1)),(6,.i x2_6),(33,.b false),(34,.d (eL52 t1 a1)),(35,.i x2_6)],[]⟩ ?_
      obtain ⟨h7,H⟩:=sC H
      refine ak_idx hT [1,6,33,36] (i:=x2_6) (n:=(a1.length:Int)) h7.1 h7.2 (k':=(K6 11101001000 6)) (st':=⟨43,[(1,.d (eL52 t1 a1)),(6,.i x2_6),(33,.b false),(36,.d (eP52 t1 a1 x2_6.toNat 0))],[]⟩) (by kernel_rfl) ?_
      refine goK hT 7 (K6 1110100100 1) ⟨43,[(1,.d (eL52 t1 a1)),(6,.i x2_6),(42,.b (decide (((((a1.getD x2_6.toNat api_Event.z).M).Pairs).length:Int) > 10)))],[]⟩ ?_
      exact Jj2 (decide (((((a1.getD x2_6.toNat api_Event.z).M).Pairs).length:Int) > 10)) H
    ·replace H:=sF c5 H
     rw [decide_eq_false c5]
     refine goK hT 6 (K6 1111 1) ⟨43,[(4,.b true)],[]⟩ ?_
     obtain rfl:=retC H
     exact retK hf hX h0 (.b true) [] (fun _ h=>all_nil h) (.d (.v _))
 obtain ⟨n,H⟩:=loopC H
 exact (L n).1 0 H
end Go.SyP
