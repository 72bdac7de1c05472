/- Certificates, printed by gen.py. -/
import Derived.Test.YtdndobkfnmommaaGreatG24zCp0
set_option linter.unusedVariables false
set_option linter.unusedSimpArgs false
namespace Go.SyP
open Go Go.Sy Go.Proofs
noncomputable section
abbrev Qt.p0:List (Nat × AV):=[(1,.ptr 0 0 0 0),(2,.ptr 1 0 0 0),(3,.ptr 2 0 0 0)]
theorem Qt.Wv (a0:List Qe) {r:Qam} (H:Qt a0=some r):Zd Tryz.prog 37 [] [.d (.agg [.i 0,.i 0,.i 0,.i 0,.b false,.b false,.ns,.ns,Xj true a0,.ns])] [] (.d (Qsg r)):=by
 refine Ye Tryz.func37 rfl (nt:=131) rfl (lb rfl) fun X hP h0 hX=>?_
 have hT:Xo X.P T:=hP▸tok
 have hf:X.P.funcs[37]? = some Tryz.f37:=hP▸Tryz.func37
 refine Qh hT 6 (K37 11 0) ⟨131,[(1,.ptr 0 0 0 0),(2,.ptr 1 0 0 0)],[.box 114 (Qt.q2 a0),.box 109 (Qt.q3)]⟩ ?_
 obtain ⟨v1,h1,H⟩:=ibC H
 refine Qcb (nt:=131) (hP▸mixed) 15 [14] [1,2] [(1,.ptr 0 0 0 0),(2,.ptr 1 0 0 0)] (sm [.ptr 0 0 0 0,.i 0,.ptr 0 0 0 1,.d (.agg [.i 0,.i 0]),.ptr 0 0 0 3,.i 0,.ptr 0 0 0 4,.b false,.ptr 0 0 0 5,.b false,.ptr 0 0 0 7,.ns,.d (Yl true v1),.d (.agg [.i 0,.i 0,.i 0,.i 0,.b false,.b false,.ns,Yl true v1,.ns,.ns]),.ptr 2 0 0 0]) [[.box 114 (Qt.q2 a0),.box 109 (Qt.q3)],[.box 114 (Qt.q2 a0),.box 109 (Qt.q3),.box 109 (Qt.q3)]] (by kernel_rfl) (by kernel_rfl) (by kernel_rfl) (by kernel_rfl) ⟨?_,(Qdg hT),?_⟩ ?_
 iterate 2 exact (Qdt (We (Zu (We (We (We (We (We (We (We (We (We (We (We (We Qf2 hT) hT) hT) hT) hT) hT) hT) hT) hT) hT) hT) hT) (fun R rest h=>Zw (Yh:=[.ns]) (dst:=some 21) hP Wck (Zd.Wj1 (Zx.Wv (t0:=true) ([]:List Qa) h1)) (by kernel_rfl) (.cons (.nil _ _) .nil) (by kernel_rfl) h)) hT))
 refine Qh hT 9 (K37 111010 0) ⟨131,(Qt.p0++[(4,.i 0)]),[.box 114 (Qt.q2 a0),.box 109 (Qt.q3),.box 109 [.i 0,.i 0,.i 0,.i 0,.b false,.b false,.ns,.d (Yl true v1),.ns,.ns]]⟩ ?_
 have L:∀ n,(∀ (_:Unit),iter (Qt.step a0 v1) n (.l1)=some r->AK X 37 ((K37 111010 0)) (Yq X [] (.d (Qsg r))) ⟨131,(Qt.p0++[(4,.i 0)]),[.box 114 (Qt.q2 a0),.box 109 (Qt.q3),.box 109 [.i 0,.i 0,.i 0,.i 0,.b false,.b false,.ns,.d (Yl true v1),.ns,.ns]]⟩)/\(∀ (Yp:Int) (Qar:List Qg),iter (Qt.step a0 v1) n (.l2 Yp Qar)=some r->AK X 37 ((K37 1111010 0)) (Yq X [] (.d (Qsg r))) ⟨131,(Qt.p0++[(7,.i Yp)]),(Qt.q1 a0 v1 Qar)⟩)/\(∀ (Qar:List Qg),iter (Qt.step a0 v1) n (.l3 Qar)=some r->AK X 37 ((K37 11111010 0)) (Yq X [] (.d (Qsg r))) ⟨131,(Qt.p0++[(8,.i 0)]),(Qt.q1 a0 v1 Qar)⟩):=by
  intro n
  induction n with
  | zero=>exact ⟨fun _ H=>Qay H,fun _ _ H=>Qay H,fun _ H=>Qay H⟩
  | succ n ih=>
   refine ⟨?_, ?_, ?_⟩
   ·intro _ H
    refine Qh hT 18 (K37 1111010 0) ⟨131,(Qt.p0++[(7,.i 0)]),[.box 114 (Qt.q2 a0),.box 109 (Qt.q3),.box 109 [.i 0,.i 0,.i 0,.i 0,.b false,.b false,.ns,.d (Yl true v1),.ns,.ns]]⟩ ?_
    refine Qom (tb:=109) (cs:=[.i 0,.i 0,.i 0,.i 0,.b false,.b false,.ns,.d (Yl true v1),.ns,.ns]) 2 8 9 56 (vec Qg.e Qg.z []) (st':=⟨131,(Qt.p0++[(7,.i 0)]),[.box 114 (Qt.q2 a0),.box 109 (Qt.q3),.box 109 [.i 0,.i 0,.i 0,.i 0,.b false,.b false,.ns,.d (Yl true v1),.own 3 9 0 0,.ns],Qbg ([]:List Qg)]⟩) (by kernel_rfl) (by kernel_rfl) ?_
    refine Qgo [0,1,2,3] ⟨131,(Qt.p0++[(7,.i 0)]),[.box 114 (Qt.q2 a0),.box 109 (Qt.q3),.box 109 [.i 0,.i 0,.i 0,.i 0,.b false,.b false,.ns,.d (Yl true v1),.own 3 9 0 ([]:List Qg).length,.ns],Qbg ([]:List Qg)]⟩ h0 ?_
    exact ih.2.1 0 ([]:List Qg) H
   ·intro Yp Qar H
    refine Qh hT 9 (K37 111101000 1) ⟨131,(Qt.p0++[(7,.i Yp),(85,.b (decide (Yp < (a0.length:Int))))]),(Qt.q1 a0 v1 Qar)⟩ ?_
    by_cases c2:Yp < (a0.length:Int)
    ·replace H:=sT c2 H
     rw [decide_eq_true c2]
     refine Qh hT 2 (K37 11110100 1) (Qt.s1 Yp a0 v1 Qar) ?_
     refine Qh hT 2 (K37 1111010010 0) (Qt.s1 Yp a0 v1 Qar) ?_
     obtain ⟨h3,H⟩:=sC H
     obtain ⟨v2,h4,H⟩:=sbC H
     refine Qcb (nt:=131) (hP▸mixed) 23 [22] [1,2,3,7] [(1,.ptr 0 0 0 0),(2,.ptr 1 0 0 0),(3,.ptr 2 0 0 0),(7,.i Yp)] (sm [.ptr 2 0 0 8,.own 3 9 0 Qar.length,.ptr 0 0 0 8,.d (Xj true a0),.i Yp,.d (Qjp true a0 Yp.toNat 0),.d (Qjp true a0 Yp.toNat 0),.d (Qa3 ((a0.getD Yp.toNat Qe.z).M)),.d (Qc4 v2),.ptr 0 0 0 8,.d (Xj true a0),.i Yp,.d (Qjp true a0 Yp.toNat 0),.d (Qjp true a0 Yp.toNat 7),.i ((a0.getD Yp.toNat Qe.z).Time),.ptr 0 0 0 8,.d (Xj true a0),.i Yp,.d (Qjp true a0 Yp.toNat 0),.d (Qjp true a0 Yp.toNat 8),.b ((a0.getD Yp.toNat Qe.z).Qai),.d (.agg [.i v2.Client,.i v2.Seq,.i v2.Kind,Yl true v2.Pairs,.i v2.Over.Lo,.i v2.Over.Hi,.i v2.Old,.i ((a0.getD Yp.toNat Qe.z).Time),.b ((a0.getD Yp.toNat Qe.z).Qai)]),.own 4 9 0 1]) [[.box 114 (Qt.q2 a0),.box 109 (Qt.q3),.box 109 (Qt.q4 v1 Qar),Qbg Qar],[.box 114 (Qt.q2 a0),.box 109 (Qt.q3),.box 109 (Qt.q4 v1 Qar),Qbg Qar,.flat false 9 56 1 (fun j=>[[.i v2.Client,.i v2.Seq,.i v2.Kind,Yl true v2.Pairs,.i v2.Over.Lo,.i v2.Over.Hi,.i v2.Old,.i ((a0.getD Yp.toNat Qe.z).Time),.b ((a0.getD Yp.toNat Qe.z).Qai)]].getD j [])]] (by kernel_rfl) (by kernel_rfl) (by kernel_rfl) (by kernel_rfl) ⟨?_,(Qdg hT),?_⟩ ?_
     iterate 2 exact (Qdt (We (We (We (Zu (We (We (We (We (We (Zu (We (We (We (Zu (We (We (Zu (We (We (We (We (We Qf2 hT) hT) hT) hT) hT) (fun R rest h=>Xw hT (i:=Yp) (n:=(a0.length:Int)) h3.1 h3.2 (by kernel_rfl) h)) hT) hT) (fun R rest h=>Zw (Yh:=[.d (Qa3 ((a0.getD Yp.toNat Qe.z).M))]) (dst:=some 96) hP Wbv (Xg.Wv ((a0.getD Yp.toNat Qe.z).M) h4) (by kernel_rfl) (.cons (Qp _) .nil) (by kernel_rfl) h)) hT) hT) hT) (fun R rest h=>Xw hT (i:=Yp) (n:=(a0.length:Int)) h3.1 h3.2 (by kernel_rfl) h)) hT) hT) hT) hT) hT) (fun R rest h=>Xw hT (i:=Yp) (n:=(a0.length:Int)) h3.1 h3.2 (by kernel_rfl) h)) hT) hT) hT))
     refine Qh hT 0 (K37 11110100100 23) ⟨131,(Qt.p0++[(7,.i Yp),(89,.own 3 9 0 Qar.length),(110,.own 4 9 0 1)]),[.box 114 (Qt.q2 a0),.box 109 (Qt.q3),.box 109 (Qt.q4 v1 Qar),Qbg Qar,.flat false 9 56 1 (fun j=>[[.i v2.Client,.i v2.Seq,.i v2.Kind,Yl true v2.Pairs,.i v2.Over.Lo,.i v2.Over.Hi,.i v2.Old,.i ((a0.getD Yp.toNat Qe.z).Time),.b ((a0.getD Yp.toNat Qe.z).Qai)]].getD j [])]⟩ ?_
     obtain ⟨h5,H⟩:=sC H
     refine Qca (id:=3) (kk:=9) (by':=88) (t:=52) (e:=56) (z:=[.int .i64 0,.int .i64 0,.int .i64 0,.slice none 0 0,.int .i64 0,.int .i64 0,.int .i64 0,.int .i64 0,.bool false]) (dst:=some 111) (id2:=4) (e2:=56) (fz:=false) (k':=(K37 11110100100 24)) hT Qg.e Qg.z Qar (⟨v2,(a0.getD Yp.toNat Qe.z).Time,(a0.getD Yp.toNat Qe.z).Qai⟩:Qg) [1,2,3,7,111] (by kernel_rfl) (by kernel_rfl) (by kernel_rfl) (by kernel_rfl) (by kernel_rfl) (by kernel_rfl) (by kernel_rfl) h5 (by omega) (st':=⟨131,(Qt.p0++[(7,.i Yp),(111,.own 5 9 0 ((Qar ++ [(⟨v2,(a0.getD Yp.toNat Qe.z).Time,(a0.getD Yp.toNat Qe.z).Qai⟩:Qg)]).length))]),[.box 114 (Qt.q2 a0),.box 109 (Qt.q3),.box 109 (Qt.q4 v1 Qar),.gone,.flat false 9 56 1 (fun j=>[[.i v2.Client,.i v2.Seq,.i v2.Kind,Yl true v2.Pairs,.i v2.Over.Lo,.i v2.Over.Hi,.i v2.Old,.i ((a0.getD Yp.toNat Qe.z).Time),.b ((a0.getD Yp.toNat Qe.z).Qai)]].getD j []),Qbg (Qar ++ [(⟨v2,(a0.getD Yp.toNat Qe.z).Time,(a0.getD Yp.toNat Qe.z).Qai⟩:Qg)])]⟩) (by kernel_rfl) ?_
     refine Xq hT 10 (K37 1111010 0) [0,1,2,5] ⟨131,(Qt.p0++[(7,.i (IntKind.wrap .i64 (Yp+1)))]),[.box 114 (Qt.q2 a0),.box 109 (Qt.q3),.box 109 [.i 0,.i 0,.i 0,.i 0,.b false,.b false,.ns,.d (Yl true v1),.own 3 9 0 (Qar ++ [(⟨v2,(a0.getD Yp.toNat Qe.z).Time,(a0.getD Yp.toNat Qe.z).Qai⟩:Qg)]).length,.ns],Qbg (Qar ++ [(⟨v2,(a0.getD Yp.toNat Qe.z).Time,(a0.getD Yp.toNat Qe.z).Qai⟩:Qg)])]⟩ h0 ?_
     exact ih.2.1 (IntKind.wrap .i64 (Yp+1)) (Qar ++ [(⟨v2,(a0.getD Yp.toNat Qe.z).Time,(a0.getD Yp.toNat Qe.z).Qai⟩:Qg)]) H
    replace H:=sF c2 H
    rw [decide_eq_false c2]
    refine Qh hT 9 (K37 11111010 0) ⟨131,(Qt.p0++[(8,.i 0)]),(Qt.q1 a0 v1 Qar)⟩ ?_
    exact ih.2.2 Qar H
   intro Qar H
   refine Qh hT 14 (K37 1111110 1) ⟨131,[(2,.ptr 1 0 0 0),(130,.agg [.i 0,.i 0,.i 0,.i 0,.b false,.b false,.ns,.d (Yl true v1),.own 3 9 0 Qar.length,.ns])],(Qt.q1 a0 v1 Qar)⟩ ?_
   refine Qcf 3 (kk:=9) (n:=Qar.length) (ty:=56) (g:=vec Qg.e Qg.z Qar) (by kernel_rfl) (st':=⟨131,[(2,.ptr 1 0 0 0),(130,.agg [.i 0,.i 0,.i 0,.i 0,.b false,.b false,.ns,.d (Yl true v1),.own 3 9 0 Qar.length,.ns])],[.box 114 (Qt.q2 a0),.box 109 (Qt.q3),.box 109 (Qt.q4 v1 Qar),Wfc Qar]⟩) (by kernel_rfl) ?_
   refine Qeu (av:=.agg [.i 0,.i 0,.i 0,.i 0,.b false,.b false,.ns,.d (Yl true v1),.own 3 9 0 Qar.length,.ns]) (y:=.agg [.i 0,.i 0,.i 0,.i 0,.b false,.b false,Qvj true ([]:List Zz),Yl true v1,Yw true Qar,Qvk true ([]:List Ju)]) [2,130] 130 (st':=⟨131,[(2,.ptr 1 0 0 0),(130,.d (.agg [.i 0,.i 0,.i 0,.i 0,.b false,.b false,Qvj true ([]:List Zz),Yl true v1,Yw true Qar,Qvk true ([]:List Ju)]))],[.box 114 (Qt.q2 a0),.box 109 (Qt.q3),.box 109 (Qt.q4 v1 Qar),Wfc Qar]⟩) (by kernel_rfl) (.agg (.cons (.d _) (.cons (.d _) (.cons (.d _) (.cons (.d _) (.cons (.d _) (.cons (.d _) (.cons (.nil _) (.cons (.d _) (.cons (.own (ty:=56) (k:=9) (by kernel_rfl)) (.cons (.nil _) .nil))))))))))) (by kernel_rfl) ?_
   refine Qh hT 2 (K37 111111 1) ⟨131,[(2,.ptr 1 0 0 0)],[.box 114 (Qt.q2 a0),.box 109 [.i 0,.i 0,.i 0,.i 0,.b false,.b false,.d (Qvj true ([]:List Zz)),.d (Yl true v1),.d (Yw true Qar),.d (Qvk true ([]:List Ju))],.box 109 (Qt.q4 v1 Qar),Wfc Qar]⟩ ?_
   obtain rfl:=Yi H
   exact Qen hT hf hX (av:=.d (.agg [.i 0,.i 0,.i 0,.i 0,.b false,.b false,Qvj true ([]:List Zz),Yl true v1,Yw true Qar,Qvk true ([]:List Ju)])) (by kernel_rfl) [] (Jq (by kernel_rfl)) (by decide) (by rw [h0];rfl) (by kernel_rfl) an (.d (.agg (Qam.nl _)))
 obtain ⟨n,H⟩:=Qbu H
 exact (L n).1 () H
theorem Qan.Wv (a0:List Qe) {r:List Qg} (H:Qan a0=some r):Zd Tryz.prog 13 [] [.d (Xj true a0)] [] (.d (Yw true r)):=by
 refine Ye Tryz.func13 rfl (nt:=7) rfl (lb rfl) fun X hP h0 hX=>?_
 have hT:Xo X.P T:=hP▸tok
 have hf:X.P.funcs[13]? = some Tryz.f13:=hP▸Tryz.func13
 refine Qh hT 8 (K13 110 2) ⟨7,[(4,.d (.agg [.i 0,.i 0,.i 0,.i 0,.b false,.b false,.ns,.ns,Xj true a0,.ns]))],[]⟩ ?_
 obtain ⟨v1,h1,H⟩:=ibC H
 refine Wx (Yh:=[.d (.agg [.i 0,.i 0,.i 0,.i 0,.b false,.b false,.ns,.ns,Xj true a0,.ns])]) (dst:=some 5) (k':=(K13 110 3)) [5] [] hP Wb4 (Qt.Wv a0 h1) (by kernel_rfl) (Wh _) (.cons (Qp _) .nil) (st':=⟨7,[(5,.d (Qsg v1))],[]⟩) (by kernel_rfl) ?_
 refine Qh hT 3 (K13 11 1) ⟨7,[(2,.d (Yw true v1.Log))],[]⟩ ?_
 obtain rfl:=Yi H
 exact Ym hf hX h0 (.d (Yw true v1.Log)) [] an (.d (.sl fun _ _=>Qg.nl _))
abbrev Xm.s1 (a0:Xd) (a1:Xd):St:=⟨66,[(2,.ptr 0 0 0 0),(3,.ptr 1 0 0 0),(47,.b true)],[.box 48 (Xr a0),.box 48 (Xr a1)]⟩
abbrev Xm.p0:List (Nat × AV):=[(2,.ptr 0 0 0 0),(3,.ptr 1 0 0 0)]
theorem Xm.Wv (a0:Xd) (a1:Xd) {r:Bool} (H:Xm a0 a1=some r):Zd Tryz.prog 38 [] [.d (Qc4 a0),.d (Qc4 a1)] [] (.b r):=by
 refine Ye Tryz.func38 rfl (nt:=66) rfl (lb rfl) fun X hP h0 hX=>?_
 have hT:Xo X.P T:=hP▸tok
 have hf:X.P.funcs[38]? = some Tryz.f38:=hP▸Tryz.func38
 have Yv:∀ (Qqm:Bool),(Xm.j1 a0 a1 Qqm)=some r->AK X 38 ((K38 110 1)) (Yq X [] (.b r)) ⟨66,(Xm.p0++[(47,.b Qqm)]),[.box 48 (Xr a0),.box 48 (Xr a1)]⟩:=by
  intro Qqm H
  by_cases c8:Qqm=true
  ·replace H:=iT c8 H
   rw [c8]
   refine Qh hT 5 (K38 11010 1) ⟨66,[(4,.b false)],[.box 48 (Xr a0),.box 48 (Xr a1)]⟩ ?_
   obtain rfl:=Yi H
   exact Ym hf hX h0 (.b false) [] an (.d (.v _))
  replace H:=iF c8 H
  rw [Jk c8]
  refine Qh hT 2 (K38 11 1) ⟨66,(Xm.p0),[.box 48 (Xr a0),.box 48 (Xr a1)]⟩ ?_
  refine Qh hT 7 (K38 111010 0) ⟨66,(Xm.p0++[(5,.i 0)]),[.box 48 (Xr a0),.box 48 (Xr a1)]⟩ ?_
  have L:∀ n,(∀ (Wz:Int),iter (Xm.step a0 a1) n (.l1 Wz)=some r->AK X 38 ((K38 111010 0)) (Yq X [] (.b r)) ⟨66,(Xm.p0++[(5,.i Wz)]),[.box 48 (Xr a0),.box 48 (Xr a1)]⟩):=by
   intro n
   induction n with
   | zero=>exact fun _ H=>Qay H
   | succ n ih=>
    ·intro Wz H
     refine Qh hT 9 (K38 11101000 1) ⟨66,(Xm.p0++[(5,.i Wz),(52,.b (decide (Wz < (a0.Pairs.length:Int))))]),[.box 48 (Xr a0),.box 48 (Xr a1)]⟩ ?_
     by_cases c9:Wz < (a0.Pairs.length:Int)
     ·replace H:=sT c9 H
      rw [decide_eq_true c9]
      refine Qh hT 2 (K38 1110100 1) ⟨66,(Xm.p0++[(5,.i Wz)]),[.box 48 (Xr a0),.box 48 (Xr a1)]⟩ ?_
      refine Qh hT 3 (K38 1110100100 0) ⟨66,(Xm.p0++[(5,.i Wz)]),[.box 48 (Xr a0),.box 48 (Xr a1)]⟩ ?_
      obtain ⟨h10,H⟩:=sC H
      obtain ⟨h11,H⟩:=sC H
      refine Qbp (hP▸mixed) 11 [2,3,5] (sm [.ptr 0 0 0 3,.d (Yl true a0.Pairs),.i Wz,.d (Qcn true a0.Pairs Wz.toNat 0),.d (Wiu (a0.Pairs.getD Wz.toNat Qd.z)),.ptr 1 0 0 3,.d (Yl true a1.Pairs),.i Wz,.d (Qcn true a1.Pairs Wz.toNat 0),.d (Wiu (a1.Pairs.getD Wz.toNat Qd.z)),.b (!((((a0.Pairs.getD Wz.toNat Qd.z).Key) == ((a1.Pairs.getD Wz.toNat Qd.z).Key)) && (((a0.Pairs.getD Wz.toNat Qd.z).Val) == ((a1.Pairs.getD Wz.toNat Qd.z).Val))))]) (Qj (Qj (opS (Qj (Qj (Qj (Qj (opS (Qj (Qj (Qj op0 hT) hT) hT) (fun R rest h=>Xw hT (i:=Wz) (n:=(a0.Pairs.length:Int)) h10.1 h10.2 (by kernel_rfl) h)) hT) hT) hT) hT) (fun R rest h=>Xw hT (i:=Wz) (n:=(a1.Pairs.length:Int)) h11.1 h11.2 (by kernel_rfl) h)) hT) hT) ?_
      refine Qh hT 1 (K38 1110100100 1) ⟨66,(Xm.p0++[(5,.i Wz),(65,.b (!((((a0.Pairs.getD Wz.toNat Qd.z).Key) == ((a1.Pairs.getD Wz.toNat Qd.z).Key)) && (((a0.Pairs.getD Wz.toNat Qd.z).Val) == ((a1.Pairs.getD Wz.toNat Qd.z).Val)))))]),[.box 48 (Xr a0),.box 48 (Xr a1)]⟩ ?_
      by_cases c12:((a0.Pairs.getD Wz.toNat Qd.z).Key)=((a1.Pairs.getD Wz.toNat Qd.z).Key)
      ·replace H:=sT c12 H
       rw [eqT c12]
       by_cases c13:((a0.Pairs.getD Wz.toNat Qd.z).Val)=((a1.Pairs.getD Wz.toNat Qd.z).Val)
       ·replace H:=sT c13 H
        rw [eqT c13]
        refine Qh hT 3 (K38 11101001 1) ⟨66,(Xm.p0++[(5,.i Wz)]),[.box 48 (Xr a0),.box 48 (Xr a1)]⟩ ?_
        refine Qh hT 6 (K38 111010 0) ⟨66,(Xm.p0++[(5,.i (IntKind.wrap .i64 (Wz+1)))]),[.box 48 (Xr a0),.box 48 (Xr a1)]⟩ ?_
        exact ih (IntKind.wrap .i64 (Wz+1)) H
       replace H:=sF c13 H
       rw [eqF c13]
       refine Qh hT 5 (K38 111010010010 1) ⟨66,[(4,.b false)],[.box 48 (Xr a0),.box 48 (Xr a1)]⟩ ?_
       obtain rfl:=Yi H
       exact Ym hf hX h0 (.b false) [] an (.d (.v _))
      replace H:=sF c12 H
      rw [eqF c12]
      by_cases c14:((a0.Pairs.getD Wz.toNat Qd.z).Val)=((a1.Pairs.getD Wz.toNat Qd.z).Val)
      ·replace H:=sT c14 H
       rw [eqT c14]
       refine Qh hT 5 (K38 111010010010 1) ⟨66,[(4,.b false)],[.box 48 (Xr a0),.box 48 (Xr a1)]⟩ ?_
       obtain rfl:=Yi H
       exact Ym hf hX h0 (.b false) [] an (.d (.v _))
      replace H:=sF c14 H
      rw [eqF c14]
      refine Qh hT 5 (K38 111010010010 1) ⟨66,[(4,.b false)],[.box 48 (Xr a0),.box 48 (Xr a1)]⟩ ?_
      obtain rfl:=Yi H
      exact Ym hf hX h0 (.b false) [] an (.d (.v _))
     replace H:=sF c9 H
     rw [decide_eq_false c9]
     refine Qh hT 6 (K38 1111 1) ⟨66,[(4,.b true)],[.box 48 (Xr a0),.box 48 (Xr a1)]⟩ ?_
     obtain rfl:=Yi H
     exact Ym hf hX h0 (.b true) [] an (.d (.v _))
  obtain ⟨n,H⟩:=Qbu H
  exact (L n) 0 H
 refine Qh hT 15 (K38 1100 6) ⟨66,(Xm.p0++[(11,.b (a0.Client != a1.Client))]),[.box 48 (Xr a0),.box 48 (Xr a1)]⟩ ?_
 by_cases c1:a0.Client=a1.Client
 ·replace H:=iT c1 H
  rw [neF c1]
  refine Qh hT 7 (K38 1100 13) ⟨66,(Xm.p0++[(18,.b (a0.Seq != a1.Seq))]),[.box 48 (Xr a0),.box 48 (Xr a1)]⟩ ?_
  by_cases c2:a0.Seq=a1.Seq
  ·replace H:=iT c2 H
   rw [neF c2]
   refine Qh hT 7 (K38 1100 20) ⟨66,(Xm.p0++[(25,.b (a0.Kind != a1.Kind))]),[.box 48 (Xr a0),.box 48 (Xr a1)]⟩ ?_
   by_cases c3:a0.Kind=a1.Kind
   ·replace H:=iT c3 H
    rw [neF c3]
    refine Qh hT 7 (K38 1100 27) ⟨66,(Xm.p0++[(32,.b (!((a0.Over.Lo == a1.Over.Lo) && (a0.Over.Hi == a1.Over.Hi))))]),[.box 48 (Xr a0),.box 48 (Xr a1)]⟩ ?_
    by_cases c4:a0.Over.Lo=a1.Over.Lo
    ·replace H:=iT c4 H
     rw [eqT c4]
     by_cases c5:a0.Over.Hi=a1.Over.Hi
     ·replace H:=iT c5 H
      rw [eqT c5]
      refine Qh hT 7 (K38 1100 34) ⟨66,(Xm.p0++[(39,.b (a0.Old != a1.Old))]),[.box 48 (Xr a0),.box 48 (Xr a1)]⟩ ?_
      by_cases c6:a0.Old=a1.Old
      ·replace H:=iT c6 H
       rw [neF c6]
       refine Qh hT 9 (K38 110 1) ⟨66,(Xm.p0++[(47,.b ((a0.Pairs.length:Int) != (a1.Pairs.length:Int)))]),[.box 48 (Xr a0),.box 48 (Xr a1)]⟩ ?_
       exact Yv ((a0.Pairs.length:Int) != (a1.Pairs.length:Int)) H
      replace H:=iF c6 H
      rw [neT c6]
      refine Qh hT 9 (K38 110 1) (Xm.s1 a0 a1) ?_
      exact Yv true H
     replace H:=iF c5 H
     rw [eqF c5]
     refine Qh hT 16 (K38 110 1) (Xm.s1 a0 a1) ?_
     exact Yv true H
    replace H:=iF c4 H
    rw [eqF c4]
    by_cases c7:a0.Over.Hi=a1.Over.Hi
    ·replace H:=iT c7 H
     rw [eqT c7]
     refine Qh hT 16 (K38 110 1) (Xm.s1 a0 a1) ?_
     exact Yv true H
    replace H:=iF c7 H
    rw [eqF c7]
    refine Qh hT 16 (K38 110 1) (Xm.s1 a0 a1) ?_
    exact Yv true H
   replace H:=iF c3 H
   rw [neT c3]
   refine Qh hT 23 (K38 110 1) (Xm.s1 a0 a1) ?_
   exact Yv true H
  replace H:=iF c2 H
  rw [neT c2]
  refine Qh hT 30 (K38 110 1) (Xm.s1 a0 a1) ?_
  exact Yv true H
 replace H:=iF c1 H
 rw [neT c1]
 refine Qh hT 37 (K38 110 1) (Xm.s1 a0 a1) ?_
 exact Yv true H
abbrev Xp.p0 (t0:Bool) (a0:List Qe) (t1:Bool) (a1:List Wn):List (Nat × AV):=[(0,.d (Xj t0 a0)),(1,.d (Qdl t1 a1))]
theorem Xp.Wv {t0:Bool} {t1:Bool} (a0:List Qe) (a1:List Wn) {r:Bool} (H:Xp a0 a1=some r):Zd Tryz.prog 5 [] [.d (Xj t0 a0),.d (Qdl t1 a1)] [] (.b r):=by
 refine Ye Tryz.func5 rfl (nt:=43) rfl (lb rfl) fun X hP h0 hX=>?_
 have hT:Xo X.P T:=hP▸tok
 have hf:X.P.funcs[5]? = some Tryz.f5:=hP▸Tryz.func5
 refine Qh hT 11 (K5 11010 0) ⟨43,(Xp.p0 t0 a0 t1 a1++[(5,.i 0)]),[]⟩ ?_
 have L:∀ n,(∀ (Wz:Int),iter (Xp.step a0 a1) n (.l1 Wz)=some r->AK X 5 ((K5 11010 0)) (Yq X [] (.b r)) ⟨43,(Xp.p0 t0 a0 t1 a1++[(5,.i Wz)]),[]⟩)/\(∀ (Qa4:Int),iter (Xp.step a0 a1) n (.l2 Qa4)=some r->AK X 5 ((K5 111010 0)) (Yq X [] (.b r)) ⟨43,[(1,.d (Qdl t1 a1)),(6,.i Qa4)],[]⟩):=by
  intro n
  induction n with
  | zero=>exact ⟨fun _ H=>Qay H,fun _ H=>Qay H⟩
  | succ n ih=>
   refine ⟨?_, ?_⟩
   ·intro Wz H
    refine Qh hT 8 (K5 1101000 1) ⟨43,(Xp.p0 t0 a0 t1 a1++[(5,.i Wz),(10,.b (decide (Wz < (a0.length:Int))))]),[]⟩ ?_
    by_cases c1:Wz < (a0.length:Int)
    ·replace H:=sT c1 H
     have Yv:∀ (Qh9:Bool),stk (Xp.j1 Wz Qh9) (iter (Xp.step a0 a1) n)=some r->AK X 5 ((K5 110100100 1)) (Yq X [] (.b r)) ⟨43,(Xp.p0 t0 a0 t1 a1++[(5,.i Wz),(24,.b Qh9)]),[]⟩:=by
      intro Qh9 H
      by_cases c4:Qh9=true
      ·replace H:=sT c4 H
       rw [c4]
       refine Qh hT 5 (K5 11010010010 1) ⟨43,[(4,.b false)],[]⟩ ?_
       obtain rfl:=Yi H
       exact Ym hf hX h0 (.b false) [] an (.d (.v _))
      replace H:=sF c4 H
      rw [Jk c4]
      refine Qh hT 3 (K5 1101001 1) ⟨43,(Xp.p0 t0 a0 t1 a1++[(5,.i Wz)]),[]⟩ ?_
      refine Qh hT 6 (K5 11010 0) ⟨43,(Xp.p0 t0 a0 t1 a1++[(5,.i (IntKind.wrap .i64 (Wz+1)))]),[]⟩ ?_
      exact ih.1 (IntKind.wrap .i64 (Wz+1)) H
     rw [decide_eq_true c1]
     refine Qh hT 2 (K5 110100 1) ⟨43,(Xp.p0 t0 a0 t1 a1++[(5,.i Wz)]),[]⟩ ?_
     refine Qh hT 7 (K5 1101001000 3) ⟨43,(Xp.p0 t0 a0 t1 a1++[(5,.i Wz),(15,.b (decide (Wz>=30)))]),[]⟩ ?_
     by_cases c2:Wz>=30
     ·replace H:=sT c2 H
      rw [decide_eq_true c2]
      refine Qh hT 10 (K5 110100100 1) ⟨43,(Xp.p0 t0 a0 t1 a1++[(5,.i Wz),(24,.b true)]),[]⟩ ?_
      exact Yv true H
     replace H:=sF c2 H
     rw [decide_eq_false c2]
     refine Qh hT 2 (K5 1101001000 5) ⟨43,(Xp.p0 t0 a0 t1 a1++[(5,.i Wz),(15,.b false),(16,.d (Xj t0 a0)),(17,.i Wz)]),[]⟩ ?_
     obtain ⟨h3,H⟩:=sC H
     refine Zv hT [0,1,5,15,18] (i:=Wz) (n:=(a0.length:Int)) h3.1 h3.2 (k':=(K5 1101001000 6)) (st':=⟨43,(Xp.p0 t0 a0 t1 a1++[(5,.i Wz),(15,.b false),(18,.d (Qjp t0 a0 Wz.toNat 0))]),[]⟩) (by kernel_rfl) ?_
     refine Qh hT 7 (K5 110100100 1) ⟨43,(Xp.p0 t0 a0 t1 a1++[(5,.i Wz),(24,.b (decide (((((a0.getD Wz.toNat Qe.z).M).Pairs).length:Int) > 10)))]),[]⟩ ?_
     exact Yv (decide (((((a0.getD Wz.toNat Qe.z).M).Pairs).length:Int) > 10)) H
    replace H:=sF c1 H
    rw [decide_eq_false c1]
    refine Qh hT 9 (K5 111010 0) ⟨43,[(1,.d (Qdl t1 a1)),(6,.i 0)],[]⟩ ?_
    exact ih.2 0 H
   intro Qa4 H
   refine Qh hT 8 (K5 11101000 1) ⟨43,[(1,.d (Qdl t1 a1)),(6,.i Qa4),(28,.b (decide (Qa4 < (a1.length:Int))))],[]⟩ ?_
   by_cases c5:Qa4 < (a1.length:Int)
   ·replace H:=sT c5 H
    have Jj2:∀ (Qqr:Bool),stk (Xp.j2 Qa4 Qqr) (iter (Xp.step a0 a1) n)=some r->AK X 5 ((K5 1110100100 1)) (Yq X [] (.b r)) ⟨43,[(1,.d (Qdl t1 a1)),(6,.i Qa4),(42,.b Qqr)],[]⟩:=by
     intro Qqr H
     by_cases c8:Qqr=true
     ·replace H:=sT c8 H
      rw [c8]
      refine Qh hT 5 (K5 111010010010 1) ⟨43,[(4,.b false)],[]⟩ ?_
      obtain rfl:=Yi H
      exact Ym hf hX h0 (.b false) [] an (.d (.v _))
     replace H:=sF c8 H
     rw [Jk c8]
     refine Qh hT 3 (K5 11101001 1) ⟨43,[(1,.d (Qdl t1 a1)),(6,.i Qa4)],[]⟩ ?_
     refine Qh hT 6 (K5 111010 0) ⟨43,[(1,.d (Qdl t1 a1)),(6,.i (IntKind.wrap .i64 (Qa4+1)))],[]⟩ ?_
     exact ih.2 (IntKind.wrap .i64 (Qa4+1)) H
    rw [decide_eq_true c5]
    refine Qh hT 2 (K5 1110100 1) ⟨43,[(1,.d (Qdl t1 a1)),(6,.i Qa4)],[]⟩ ?_
    refine Qh hT 7 (K5 11101001000 3) ⟨43,[(1,.d (Qdl t1 a1)),(6,.i Qa4),(33,.b (decide (Qa4>=30)))],[]⟩ ?_
    by_cases c6:Qa4>=30
    ·replace H:=sT c6 H
     rw [decide_eq_true c6]
     refine Qh hT 10 (K5 1110100100 1) ⟨43,[(1,.d (Qdl t1 a1)),(6,.i Qa4),(42,.b true)],[]⟩ ?_
     exact Jj2 true H
    replace H:=sF c6 H
    rw [decide_eq_false c6]
    refine Qh hT 2 (K5 11101001000 5) ⟨43,[(1,.d (Qdl t1 a1)),(6,.i Qa4),(33,.b false),(34,.d (Qdl t1 a1)),(35,.i Qa4)],[]⟩ ?_
    obtain ⟨h7,H⟩:=sC H
    refine Zv hT [1,6,33,36] (i:=Qa4) (n:=(a1.length:Int)) h7.1 h7.2 (k':=(K5 11101001000 6)) (st':=⟨43,[(1,.d (Qdl t1 a1)),(6,.i Qa4),(33,.b false),(36,.d (Wiv t1 a1 Qa4.toNat 0))],[]⟩) (by kernel_rfl) ?_
    refine Qh hT 7 (K5 1110100100 1) ⟨43,[(1,.d (Qdl t1 a1)),(6,.i Qa4),(42,.b (decide (((((a1.getD Qa4.toNat Wn.z).M).Pairs).length:Int) > 10)))],[]⟩ ?_
    exact Jj2 (decide (((((a1.getD Qa4.toNat Wn.z).M).Pairs).length:Int) > 10)) H
   replace H:=sF c5 H
   rw [decide_eq_false c5]
   refine Qh hT 6 (K5 1111 1) ⟨43,[(4,.b true)],[]⟩ ?_
   obtain rfl:=Yi H
   exact Ym hf hX h0 (.b true) [] an (.d (.v _))
 obtain ⟨n,H⟩:=Qbu H
 exact (L n).1 0 H
theorem Qg7.Wv (a0:Qb):Zd Tryz.prog 103 [] [.d (Qfo a0)] [] (.b (Qg7 a0)):=by
 obtain ⟨r,H⟩:∃ r,Qg7 a0=r:=⟨_,rfl⟩
 rw [H]
 refine Ye Tryz.func103 rfl (nt:=6) rfl (lb rfl) fun X hP h0 hX=>?_
 have hT:Xo X.P T:=hP▸tok
 have hf:X.P.funcs[103]? = some Tryz.f103:=hP▸Tryz.func103
 refine Qh hT 8 (Weo 110 1) ⟨6,[(3,.d (Qfo a0))],[.box 33 (Qe8 a0)]⟩ ?_
 refine Wx (Yh:=[.d (Qfo a0)]) (dst:=some 4) (k':=(Weo 110 2)) [4] [] hP Qis (Qbr.Wv a0) (by kernel_rfl) (Wh _) (.cons (Qp _) .nil) (st':=⟨6,[(4,.b (Qbr a0))],[.box 33 (Qe8 a0)]⟩) (by kernel_rfl) ?_
 refine Qh hT 3 (Weo 11 1) ⟨6,[(2,.b (!(Qbr a0)))],[.box 33 (Qe8 a0)]⟩ ?_
 obtain rfl:=H
 exact Ym hf hX h0 (.b (!(Qbr a0))) [] an (.d (.v _))
theorem Yz.Wv (a0:Qb) (a1:Qb):Zd Tryz.prog 106 [] [.d (Qfo a0),.d (Qfo a1)] [] (.i (Yz a0 a1)):=by
 obtain ⟨r,H⟩:∃ r,Yz a0 a1=r:=⟨_,rfl⟩
 rw [H]
 refine Ye Tryz.func106 rfl (nt:=10) rfl (lb rfl) fun X hP h0 hX=>?_
 have hT:Xo X.P T:=hP▸tok
 have hf:X.P.funcs[106]? = some Tryz.f106:=hP▸Tryz.func106
 refine Qh hT 12 (Wep 110 4) ⟨10,[(6,.i a0.Lo),(8,.i a1.Lo)],[.box 33 (Qe8 a0),.box 33 (Qe8 a1)]⟩ ?_
 refine Wx (Yh:=[.i a0.Lo,.i a1.Lo]) (dst:=some 9) (k':=(Wep 110 5)) [9] [] hP Qkb (Zj.Wv a0.Lo a1.Lo) (by kernel_rfl) (Wh _) (.cons (Qp _) (.cons (Qp _) .nil)) (st':=⟨10,[(9,.i (Zj a0.Lo a1.Lo))],[.box 33 (Qe8 a0),.box 33 (Qe8 a1)]⟩) (by kernel_rfl) ?_
 refine Qh hT 2 (Wep 11 1) ⟨10,[(4,.i (Zj a0.Lo a1.Lo))],[.box 33 (Qe8 a0),.box 33 (Qe8 a1)]⟩ ?_
 obtain rfl:=H
 exact Ym hf hX h0 (.i (Zj a0.Lo a1.Lo)) [] an (.d (.v _))
theorem Qe5.Wv (a0:List Qb):Zd Tryz.prog 107 [] [.d (Wu true a0)] [] (.Qo [.d (Wu true ((Qe5 a0).1)),.i ((Qe5 a0).2)]):=by
 obtain ⟨r,H⟩:∃ r,Qe5 a0=r:=⟨_,rfl⟩
 rw [H]
 refine Ye Tryz.func107 rfl (nt:=8) rfl (lb rfl) fun X hP h0 hX=>?_
 have hT:Xo X.P T:=hP▸tok
 have hf:X.P.funcs[107]? = some Tryz.f107:=hP▸Tryz.func107
 refine Qh hT 12 (Qy3 110 1) ⟨8,[(0,.d (Wu true a0)),(6,.b (decide ((a0.length:Int) > 64)))],[]⟩ ?_
 by_cases c1:(a0.length:Int) > 64
 ·replace H:=iT c1 H
  rw [decide_eq_true c1]
  refine Qh hT 6 (Qy3 11010 1) ⟨8,[(2,.ns),(3,.i 2)],[]⟩ ?_
  refine Qeu (av:=.d (.v (.slice none 0 0))) (y:=Wu true ([]:List Qb)) [2,3] 2 (st':=⟨8,[(2,.d (Wu true ([]:List Qb))),(3,.i 2)],[]⟩) (by kernel_rfl) (.nil _) (by kernel_rfl) ?_
  obtain rfl:=H
  exact Ym hf hX h0 (.Qo [.d (Wu true ([]:List Qb)),.i 2]) [] an (.Qo (.cons (.d (.sl fun _ _=>Qb.nl _)) (.cons (.d (.v _)) .nil)))
 replace H:=iF c1 H
 rw [decide_eq_false c1]
 refine Qh hT 2 (Qy3 11 1) ⟨8,[(0,.d (Wu true a0))],[]⟩ ?_
 refine Qh hT 6 (Qy3 111 1) ⟨8,[(2,.d (Wu true a0)),(3,.i 0)],[]⟩ ?_
 obtain rfl:=H
 exact Ym hf hX h0 (.Qo [.d (Wu true a0),.i 0]) [] an (.Qo (.cons (.d (.sl fun _ _=>Qb.nl _)) (.cons (.d (.v _)) .nil)))
abbrev Qz.q1 (Qi:List Qb) (a0:List Qb) (Jb:Int):=(Qi.set ((IntKind.wrap .i64 ((Qi.length:Int) - 1)).toNat) (⟨(Qi.getD ((IntKind.wrap .i64 ((Qi.length:Int) - 1)).toNat) Qb.z).Lo,Qet ((Qi.getD ((IntKind.wrap .i64 ((Qi.length:Int) - 1)).toNat) Qb.z).Hi) (((Js Qb.z Yz a0).getD Jb.toNat Qb.z).Hi)⟩:Qb))
abbrev Qz.q2 (a0:List Qb) (Jb:Int):=((Js Qb.z Yz a0).getD Jb.toNat Qb.z)
abbrev Qz.q3 (Qi:List Qb):=(IntKind.wrap .i64 ((Qi.length:Int) - 1))
abbrev Qz.q4 (a0:List Qb):=((Js Qb.z Yz a0).length:Int)
abbrev Qz.q5 (a0:List Qb):=((Js Qb.z Yz a0).length)
abbrev Qz.q6 (Qi:List Qb):=((Qi.getD ((Qz.q3 Qi).toNat) Qb.z).Hi)
abbrev Qz.q7 (Qi:List Qb) (a0:List Qb) (Jb:Int):List Row:=[Qav Qi,.box 33 (Qe8 (Qz.q2 a0 Jb)),Qav (Js Qb.z Yz a0)]
theorem Qz.Wv (a0:List Qb) {r:(List Qb) × Int} (H:Qz a0=some r):Zd Tryz.prog 80 [] [.d (Wu true a0)] [] (.Qo [.d (Wu true r.1),.i r.2]):=by
 refine Ye Tryz.func80 rfl (nt:=56) rfl (lb rfl) fun X hP h0 hX=>?_
 have hT:Xo X.P T:=hP▸tok
 have hf:X.P.funcs[80]? = some Tryz.f80:=hP▸Tryz.func80
 refine Qh hT 9 (K80 1100 1) ⟨56,[(0,.d (Wu true a0)),(9,.d (Wu true a0))],[]⟩ ?_
 obtain ⟨v1,h1,H⟩:=ibC H
 refine Wx (Yh:=[.d (Wu true a0),.d (.fn 103 [])]) (dst:=some 10) (k':=(K80 1100 2)) [0,10] [] hP Quk (Qbw.Wv (t0:=true) (Jl:=103) (Jo:=[]) a0 (fun z0=>some (Qg7 z0)) Qzk (fun z0 r h=>by obtain rfl:=Yi h;exact Qg7.Wv z0) h1) (by kernel_rfl) (Wh _) (.cons (Qp _) (.cons (Qp _) .nil)) (st':=⟨56,[(0,.d (Wu true a0)),(10,.b v1)],[]⟩) (by kernel_rfl) ?_
 refine Qh hT 1 (K80 110 1) ⟨56,[(0,.d (Wu true a0)),(10,.b v1)],[]⟩ ?_
 by_cases c2:v1=true
 ·replace H:=iT c2 H
  rw [c2]
  refine Qh hT 6 (K80 11010 1) ⟨56,[(2,.ns),(3,.i 1)],[]⟩ ?_
  refine Qeu (av:=.d (.v (.slice none 0 0))) (y:=Wu true ([]:List Qb)) [2,3] 2 (st':=⟨56,[(2,.d (Wu true ([]:List Qb))),(3,.i 1)],[]⟩) (by kernel_rfl) (.nil _) (by kernel_rfl) ?_
  obtain rfl:=Yi H
  exact Ym hf hX h0 (.Qo [.d (Wu true ([]:List Qb)),.i 1]) [] an (.Qo (.cons (.d (.sl fun _ _=>Qb.nl _)) (.cons (.d (.v _)) .nil)))
 replace H:=iF c2 H
 rw [Jk c2]
 refine Qh hT 2 (K80 11 1) ⟨56,[(0,.d (Wu true a0))],[]⟩ ?_
 refine Qh hT 3 (K80 1110 1) ⟨56,[(11,.d (Wu true a0))],[]⟩ ?_
 refine Wx (Yh:=[.d (Wu true a0)]) (dst:=some 12) (k':=(K80 1110 2)) [12] [] hP Qzm (Wei a0) (by kernel_rfl) (Wh _) (.cons (Qp _) .nil) (st':=⟨56,[(12,.fn 121 [.ptr 0 0 0 0])],[.box 34 [.d (Wu true a0)]]⟩) (by kernel_rfl) ?_
 obtain ⟨h3,H⟩:=iC H
 refine Wx (Yh:=[.fn 121 [.ptr 0 0 0 0],.d (.fn 106 [])]) (dst:=some 13) (k':=(K80 1110 3)) [13] [] hP Qzl (Qve (tg:=true) Qzn Yz Qjg (fun x y=>Yz.Wv x y) a0 h3) (by kernel_rfl) (Wh _) (.cons (.fn 121 (.cons (.look (ty:=34) (cs:=[Wu true a0]) (by kernel_rfl) rfl) .nil)) (.cons (Qp _) .nil)) (st':=⟨56,[(13,.own 1 2 0 (Qz.q5 a0))],[.box 34 [.d (Wu true a0)],Qav (Js Qb.z Yz a0)]⟩) (by kernel_rfl) ?_
 refine Qh hT 15 (K80 11111010 0) ⟨56,[(5,.ns),(14,.own 1 2 0 (Qz.q5 a0)),(15,.i (Qz.q4 a0)),(16,.i 0)],[.box 34 [.d (Wu true a0)],Qav (Js Qb.z Yz a0)]⟩ ?_
 refine Qb8 [5,14,15,16] 5 2 33 (vec Qb.e Qb.z []) (st':=⟨56,[(5,.own 2 2 0 0),(14,.own 1 2 0 (Qz.q5 a0)),(15,.i (Qz.q4 a0)),(16,.i 0)],[.box 34 [.d (Wu true a0)],Qav (Js Qb.z Yz a0),Qav ([]:List Qb)]⟩) (by kernel_rfl) (by kernel_rfl) ?_
 have L:∀ n,(∀ (Jb:Int) (Qi:List Qb),iter (Qz.step a0) n (.l1 Jb Qi)=some r->AK X 80 ((K80 11111010 0)) (Yq X [] (.Qo [.d (Wu true r.1),.i r.2])) ⟨56,[(5,.own 0 2 0 Qi.length),(14,.own 1 2 0 (Qz.q5 a0)),(15,.i (Qz.q4 a0)),(16,.i Jb)],[Qav Qi,Qav (Js Qb.z Yz a0)]⟩):=by
  intro n
  induction n with
  | zero=>exact fun _ _ H=>Qay H
  | succ n ih=>
   ·intro Jb Qi H
    refine Qh hT 5 (K80 1111101001 0) ⟨56,[(5,.own 0 2 0 Qi.length),(14,.own 1 2 0 (Qz.q5 a0)),(15,.i (Qz.q4 a0)),(16,.i Jb),(17,.b (decide (Jb < (Qz.q4 a0))))],[Qav Qi,Qav (Js Qb.z Yz a0)]⟩ ?_
    by_cases c4:Jb < (Qz.q4 a0)
    ·replace H:=sT c4 H
     rw [decide_eq_true c4]
     refine Qh hT 2 (K80 1111101001 1) ⟨56,[(5,.own 0 2 0 Qi.length),(14,.own 1 2 0 (Qz.q5 a0)),(15,.i (Qz.q4 a0)),(16,.i Jb)],[Qav Qi,Qav (Js Qb.z Yz a0)]⟩ ?_
     refine Qh hT 4 (K80 11111010011000 0) ⟨56,[(5,.own 0 2 0 Qi.length),(14,.own 1 2 0 (Qz.q5 a0)),(15,.i (Qz.q4 a0)),(16,.i Jb)],[Qav Qi,Qav (Js Qb.z Yz a0)]⟩ ?_
     obtain ⟨h6,H⟩:=sC H
     have Yv:∀ (Qfx:Bool),stk (Qz.j1 a0 Jb Qi Qfx) (iter (Qz.step a0) n)=some r->AK X 80 ((K80 1111101001100101 1)) (Yq X [] (.Qo [.d (Wu true r.1),.i r.2])) ⟨56,[(5,.own 0 2 0 Qi.length),(7,.ptr 1 0 0 0),(8,.i (Qz.q3 Qi)),(14,.own 2 2 0 (Qz.q5 a0)),(15,.i (Qz.q4 a0)),(16,.i Jb),(34,.b Qfx)],(Qz.q7 Qi a0 Jb)⟩:=by
      intro Qfx H
      by_cases c9:Qfx=true
      ·replace H:=sT c9 H
       rw [c9]
       refine Qh hT 2 (K80 111110100110010110 0) ⟨56,[(5,.own 0 2 0 Qi.length),(7,.ptr 1 0 0 0),(8,.i (Qz.q3 Qi)),(14,.own 2 2 0 (Qz.q5 a0)),(15,.i (Qz.q4 a0)),(16,.i Jb)],(Qz.q7 Qi a0 Jb)⟩ ?_
       obtain ⟨h10,H⟩:=sC H
       refine Qbp (hP▸mixed) 10 [5,7,8,14,15,16] (sm [.own 0 2 0 Qi.length,.i (Qz.q3 Qi),.own 0 2 0 Qi.length,.i (Qz.q3 Qi),.ptr 0 2 ((Qz.q3 Qi).toNat) 0,.ptr 0 2 ((Qz.q3 Qi).toNat) 1,.i (Qz.q6 Qi),.ptr 1 0 0 1,.i ((Qz.q2 a0 Jb).Hi),.i (Qet (Qz.q6 Qi) ((Qz.q2 a0 Jb).Hi))]) (Qj (Qj (Qj (opS (Qj (opS (Qj (Qj (Qj (Qj op0 hT) hT) hT) hT) (fun R rest h=>Xw hT (i:=IntKind.wrap .i64 ((Qi.length:Int) - 1)) (n:=(Qi.length:Int)) h10.1 h10.2 (by kernel_rfl) h)) hT) (fun R rest h=>Qa1 hT (i:=(Qz.q3 Qi).toNat) (n:=Qi.length) (ltN h10.1 h10.2) (by kernel_rfl) h)) hT) hT) hT) ?_
       refine Qh hT 0 (K80 1111101001100101100 10) ⟨56,[(5,.own 0 2 0 Qi.length),(14,.own 2 2 0 (Qz.q5 a0)),(15,.i (Qz.q4 a0)),(16,.i Jb),(35,.own 0 2 0 Qi.length),(36,.i (Qz.q3 Qi)),(44,.i (Qet (Qz.q6 Qi) ((Qz.q2 a0 Jb).Hi)))],(Qz.q7 Qi a0 Jb)⟩ ?_
       refine Zv hT [5,14,15,16,44,45] (i:=IntKind.wrap .i64 ((Qi.length:Int) - 1)) (n:=(Qi.length:Int)) h10.1 h10.2 (k':=(K80 1111101001100101100 11)) (st':=⟨56,[(5,.own 0 2 0 Qi.length),(14,.own 2 2 0 (Qz.q5 a0)),(15,.i (Qz.q4 a0)),(16,.i Jb),(44,.i (Qet (Qz.q6 Qi) ((Qz.q2 a0 Jb).Hi))),(45,.ptr 0 2 ((Qz.q3 Qi).toNat) 0)],(Qz.q7 Qi a0 Jb)⟩) (by kernel_rfl) ?_
       refine Qh hT 1 (K80 1111101001100101100 12) ⟨56,[(5,.own 0 2 0 Qi.length),(14,.own 2 2 0 (Qz.q5 a0)),(15,.i (Qz.q4 a0)),(16,.i Jb),(44,.i (Qet (Qz.q6 Qi) ((Qz.q2 a0 Jb).Hi))),(46,.ptr 0 2 ((Qz.q3 Qi).toNat) 1)],(Qz.q7 Qi a0 Jb)⟩ ?_
       refine Qsa (id:=0) (kk:=2) (i:=((Qz.q3 Qi).toNat)) (off:=1) (s:=1) (n:=Qi.length) (ty:=33) (ds:=[.i (Qet (Qz.q6 Qi) ((Qz.q2 a0 Jb).Hi))]) (g:=vec Qb.e Qb.z Qi) (k':=(K80 1111101001100101100 13)) hT [5,14,15,16] (vec Qb.e Qb.z (Qz.q1 Qi a0 Jb)) (by kernel_rfl) (by kernel_rfl) (ltN h10.1 h10.2) ((Qm2 (ltN h10.1 h10.2)).trans (by kernel_rfl)) Qjh (st':=⟨56,[(5,.own 0 2 0 (Qi.length)),(14,.own 2 2 0 (Qz.q5 a0)),(15,.i (Qz.q4 a0)),(16,.i Jb)],[.flat false 2 33 Qi.length (vec Qb.e Qb.z (Qz.q1 Qi a0 Jb)),.box 33 (Qe8 (Qz.q2 a0 Jb)),.flat false 2 33 (Js Qb.z Yz a0).length (vec Qb.e Qb.z (Js Qb.z Yz a0))]⟩) (by kernel_rfl) ?_
       refine Qpt (show Qi.length=(Qz.q1 Qi a0 Jb).length from (List.length_set ..).symm) (fun nn=>⟨56,[(5,.own 0 2 0 (nn)),(14,.own 2 2 0 (Qz.q5 a0)),(15,.i (Qz.q4 a0)),(16,.i Jb)],[.flat false 2 33 nn (vec Qb.e Qb.z (Qz.q1 Qi a0 Jb)),.box 33 (Qe8 (Qz.q2 a0 Jb)),.flat false 2 33 (Js Qb.z Yz a0).length (vec Qb.e Qb.z (Js Qb.z Yz a0))]⟩) ?_
       refine Xq hT 7 (K80 11111010 0) [0,2] ⟨56,[(5,.own 0 2 0 (Qz.q1 Qi a0 Jb).length),(14,.own 1 2 0 (Qz.q5 a0)),(15,.i (Qz.q4 a0)),(16,.i (IntKind.wrap .i64 (Jb+1)))],[Qav (Qz.q1 Qi a0 Jb),Qav (Js Qb.z Yz a0)]⟩ h0 ?_
       exact ih (IntKind.wrap .i64 (Jb+1)) (Qz.q1 Qi a0 Jb) H
      replace H:=sF c9 H
      rw [Jk c9]
      refine Qh hT 2 (K80 11111010011001 1) ⟨56,[(5,.own 0 2 0 Qi.length),(7,.ptr 1 0 0 0),(14,.own 2 2 0 (Qz.q5 a0)),(15,.i (Qz.q4 a0)),(16,.i Jb)],(Qz.q7 Qi a0 Jb)⟩ ?_
      refine Qh hT 4 (K80 111110100110011 3) ⟨56,[(14,.own 2 2 0 (Qz.q5 a0)),(15,.i (Qz.q4 a0)),(16,.i Jb),(47,.own 0 2 0 Qi.length),(49,.own 3 2 0 1)],[Qav Qi,.box 33 (Qe8 (Qz.q2 a0 Jb)),Qav (Js Qb.z Yz a0),.flat false 2 33 1 (fun j=>[Qb.e (Qz.q2 a0 Jb)].getD j [])]⟩ ?_
      obtain ⟨h11,H⟩:=sC H
      refine Qca (id:=0) (kk:=2) (by':=16) (t:=34) (e:=33) (z:=[.int .i64 0,.int .i64 0]) (dst:=some 50) (id2:=3) (e2:=33) (fz:=false) (k':=(K80 111110100110011 4)) hT Qb.e Qb.z Qi (Qz.q2 a0 Jb) [14,15,16,50] (by kernel_rfl) (by kernel_rfl) (by kernel_rfl) (by kernel_rfl) (by kernel_rfl) (by kernel_rfl) (by kernel_rfl) h11 (by omega) (st':=⟨56,[(14,.own 2 2 0 (Qz.q5 a0)),(15,.i (Qz.q4 a0)),(16,.i Jb),(50,.own 4 2 0 ((Qi ++ [(Qz.q2 a0 Jb)]).length))],[.gone,.box 33 (Qe8 (Qz.q2 a0 Jb)),Qav (Js Qb.z Yz a0),.flat false 2 33 1 (fun j=>[Qb.e (Qz.q2 a0 Jb)].getD j []),Qav (Qi ++ [(Qz.q2 a0 Jb)])]⟩) (by kernel_rfl) ?_
      refine Xq hT 8 (K80 11111010 0) [4,2] ⟨56,[(5,.own 0 2 0 (Qi ++ [(Qz.q2 a0 Jb)]).length),(14,.own 1 2 0 (Qz.q5 a0)),(15,.i (Qz.q4 a0)),(16,.i (IntKind.wrap .i64 (Jb+1)))],[Qav (Qi ++ [(Qz.q2 a0 Jb)]),Qav (Js Qb.z Yz a0)]⟩ h0 ?_
      exact ih (IntKind.wrap .i64 (Jb+1)) (Qi ++ [(Qz.q2 a0 Jb)]) H
     refine Zv hT [5,14,15,16,18] (i:=Jb) (n:=(Qz.q4 a0)) h6.1 h6.2 (k':=(K80 11111010011000 1)) (st':=⟨56,[(5,.own 0 2 0 Qi.length),(14,.own 1 2 0 (Qz.q5 a0)),(15,.i (Qz.q4 a0)),(16,.i Jb),(18,.ptr 1 2 Jb.toNat 0)],[Qav Qi,Qav (Js Qb.z Yz a0)]⟩) (by kernel_rfl) ?_
     refine Qr7 hT [5,14,15,16,19] (i:=Jb.toNat) (n:=(Js Qb.z Yz a0).length) (ltN h6.1 h6.2) (k':=(K80 11111010011000 2)) (st':=⟨56,[(5,.own 0 2 0 Qi.length),(14,.own 1 2 0 (Qz.q5 a0)),(15,.i (Qz.q4 a0)),(16,.i Jb),(19,.d (Qfo (Qz.q2 a0 Jb)))],[Qav Qi,Qav (Js Qb.z Yz a0)]⟩) (by kernel_rfl) ?_
     refine Qh hT 12 (K80 1111101001100101 0) ⟨56,[(5,.own 0 2 0 Qi.length),(7,.ptr 2 0 0 0),(8,.i (Qz.q3 Qi)),(14,.own 1 2 0 (Qz.q5 a0)),(15,.i (Qz.q4 a0)),(16,.i Jb)],[Qav Qi,Qav (Js Qb.z Yz a0),.box 33 (Qe8 (Qz.q2 a0 Jb))]⟩ ?_
     by_cases c7:(Qz.q3 Qi)>=0
     ·replace H:=sT c7 H
      obtain ⟨h8,H⟩:=sC H
      refine Qbp (hP▸mixed) 12 [5,7,8,14,15,16] (sm [.i (Qz.q3 Qi),.b true,.b true,.ptr 2 0 0 0,.i ((Qz.q2 a0 Jb).Lo),.own 0 2 0 Qi.length,.i (Qz.q3 Qi),.ptr 0 2 ((Qz.q3 Qi).toNat) 0,.ptr 0 2 ((Qz.q3 Qi).toNat) 1,.i (Qz.q6 Qi),.b (decide (((Qz.q2 a0 Jb).Lo)<=(Qz.q6 Qi))),.b (decide (((Qz.q2 a0 Jb).Lo)<=(Qz.q6 Qi)))]) (Qj (Qj (opS (Qj (opS (Qj (Qj (Qj (Qj (Qj (opV (Qj op0 hT) hT 24 (.b (decide ((Qz.q3 Qi)>=0))) (.b true) (by rw [decide_eq_true c7]<;>rfl)) hT) hT) hT) hT) hT) (fun R rest h=>Xw hT (i:=IntKind.wrap .i64 ((Qi.length:Int) - 1)) (n:=(Qi.length:Int)) h8.1 h8.2 (by kernel_rfl) h)) hT) (fun R rest h=>Qa1 hT (i:=(Qz.q3 Qi).toNat) (n:=Qi.length) (ltN h8.1 h8.2) (by kernel_rfl) h)) hT) hT) ?_
      refine Xq hT 1 (K80 1111101001100101 1) [0,2,1] ⟨56,[(5,.own 0 2 0 Qi.length),(7,.ptr 1 0 0 0),(8,.i (Qz.q3 Qi)),(14,.own 2 2 0 (Qz.q5 a0)),(15,.i (Qz.q4 a0)),(16,.i Jb),(34,.b (decide (((Qz.q2 a0 Jb).Lo)<=(Qz.q6 Qi))))],(Qz.q7 Qi a0 Jb)⟩ h0 ?_
      exact Yv (decide (((Qz.q2 a0 Jb).Lo)<=(Qz.q6 Qi))) H
     replace H:=sF c7 H
     refine Qbp (hP▸mixed) 12 [5,7,8,14,15,16] (sm [.i (Qz.q3 Qi),.b false,.b false,.Qo [],.Qo [],.Qo [],.Qo [],.Qo [],.Qo [],.Qo [],.Qo [],.b false]) (Qj (Qj (Qj (Qj (Qj (Qj (Qj (Qj (Qj (Qj (opV (Qj op0 hT) hT 24 (.b (decide ((Qz.q3 Qi)>=0))) (.b false) (by rw [decide_eq_false c7]<;>rfl)) hT) hT) hT) hT) hT) hT) hT) hT) hT) hT) ?_
     refine Xq hT 1 (K80 1111101001100101 1) [0,2,1] ⟨56,[(5,.own 0 2 0 Qi.length),(7,.ptr 1 0 0 0),(8,.i (Qz.q3 Qi)),(14,.own 2 2 0 (Qz.q5 a0)),(15,.i (Qz.q4 a0)),(16,.i Jb),(34,.b false)],(Qz.q7 Qi a0 Jb)⟩ h0 ?_
     exact Yv false H
    replace H:=sF c4 H
    rw [decide_eq_false c4]
    refine Qh hT 5 (K80 1111110 1) ⟨56,[(52,.own 0 2 0 Qi.length)],[Qav Qi,Qav (Js Qb.z Yz a0)]⟩ ?_
    refine Qcf 0 (kk:=2) (n:=Qi.length) (ty:=33) (g:=vec Qb.e Qb.z Qi) (by kernel_rfl) (st':=⟨56,[(52,.own 0 2 0 Qi.length)],[Qb9 Qi,Qav (Js Qb.z Yz a0)]⟩) (by kernel_rfl) ?_
    refine Wx (Yh:=[.own 0 2 0 Qi.length]) (dst:=some 53) (k':=(K80 1111110 2)) [53] [] hP Qzo (Qe5.Wv Qi) (by kernel_rfl) (Wh _) (.cons (.Qds (ty:=33) (by kernel_rfl) rfl) .nil) (st':=⟨56,[(53,.Qo [.d (Wu true ((Qe5 Qi).1)),.i ((Qe5 Qi).2)])],[Qb9 Qi,Qav (Js Qb.z Yz a0)]⟩) (by kernel_rfl) ?_
    obtain ⟨v2,h5,H⟩:=sdC H
    rw [<- h5]
    refine Qh hT 5 (K80 111111 1) ⟨56,[(2,.d (Wu true v2.1)),(3,.i v2.2)],[Qb9 Qi,Qav (Js Qb.z Yz a0)]⟩ ?_
    obtain rfl:=Yi H
    exact Ym hf hX h0 (.Qo [.d (Wu true v2.1),.i v2.2]) [] an (.Qo (.cons (.d (.sl fun _ _=>Qb.nl _)) (.cons (.d (.v _)) .nil)))
 refine Qgo [2,1] ⟨56,[(5,.own 0 2 0 ([]:List Qb).length),(14,.own 1 2 0 (Qz.q5 a0)),(15,.i (Qz.q4 a0)),(16,.i 0)],[Qav ([]:List Qb),Qav (Js Qb.z Yz a0)]⟩ h0 ?_
 obtain ⟨n,H⟩:=Qbu H
 exact (L n) 0 ([]:List Qb) H
abbrev Qa9.q1 (a0:Qn) (Jd:Int):=(⟨(a0.Pairs.getD Jd.toNat Qa.z).Key,IntKind.wrap .i64 (((a0.Pairs.getD Jd.toNat Qa.z).Key)+1)⟩:Qb)
theorem Qa9.Wv (a0:Qn) {r:List Qb} (H:Qa9 a0=some r):Zd Tryz.prog 49 [] [.d (Qa3 a0)] [] (.d (Wu true r)):=by
 refine Ye Tryz.func49 rfl (nt:=40) rfl (lb rfl) fun X hP h0 hX=>?_
 have hT:Xo X.P T:=hP▸tok
 have hf:X.P.funcs[49]? = some Tryz.f49:=hP▸Tryz.func49
 refine Qh hT 9 (K49 1100 1) ⟨40,[(1,.ptr 0 0 0 0),(8,.d (Qa3 a0))],[.box 39 (Yg a0)]⟩ ?_
 obtain ⟨v1,h1,H⟩:=ibC H
 refine Wx (Yh:=[.d (Qa3 a0)]) (dst:=some 9) (k':=(K49 1100 2)) [1,9] [] hP Qgy (Qbo.Wv a0 h1) (by kernel_rfl) (Wh _) (.cons (Qp _) .nil) (st':=⟨40,[(1,.ptr 0 0 0 0),(9,.b v1)],[.box 39 (Yg a0)]⟩) (by kernel_rfl) ?_
 refine Qh hT 2 (K49 110 1) ⟨40,[(1,.ptr 0 0 0 0),(10,.b (!v1))],[.box 39 (Yg a0)]⟩ ?_
 by_cases c2:v1=true
 ·replace H:=iT c2 H
  rw [c2]
  refine Qh hT 2 (K49 11 1) ⟨40,[(1,.ptr 0 0 0 0)],[.box 39 (Yg a0)]⟩ ?_
  refine Qh hT 7 (K49 1110 1) ⟨40,[(1,.ptr 0 0 0 0),(13,.b (a0.Kind == 2))],[.box 39 (Yg a0)]⟩ ?_
  by_cases c3:a0.Kind=2
  ·replace H:=iT c3 H
   rw [eqT c3]
   refine Qh hT 8 (K49 111010 1) ⟨40,[(2,.own 1 2 0 1)],[.box 39 (Yg a0),.flat false 2 33 1 (fun j=>[Qb.e a0.Over].getD j [])]⟩ ?_
   refine Qfd 1 (kk:=2) (fz:=false) (ty:=33) (n:=([a0.Over]:List Qb).length) (vec Qb.e Qb.z ([a0.Over]:List Qb)) (by kernel_rfl) Qep (st':=⟨40,[(2,.own 1 2 0 (([a0.Over]:List Qb).length))],[.box 39 (Yg a0),Qav ([a0.Over]:List Qb)]⟩) (by kernel_rfl) ?_
   refine Qcf 1 (kk:=2) (n:=([a0.Over]:List Qb).length) (ty:=33) (g:=vec Qb.e Qb.z ([a0.Over]:List Qb)) (by kernel_rfl) (st':=⟨40,[(2,.own 1 2 0 (([a0.Over]:List Qb).length))],[.box 39 (Yg a0),Qb9 ([a0.Over]:List Qb)]⟩) (by kernel_rfl) ?_
   refine Qeu (av:=.own 1 2 0 1) (y:=Wu true ([a0.Over]:List Qb)) [2] 2 (st':=⟨40,[(2,.d (Wu true ([a0.Over]:List Qb)))],[.box 39 (Yg a0),Qb9 ([a0.Over]:List Qb)]⟩) (by kernel_rfl) (.own (ty:=33) (k:=2) (by kernel_rfl)) (by kernel_rfl) ?_
   obtain rfl:=Yi H
   exact Ym hf hX h0 (.d (Wu true ([a0.Over]:List Qb))) [] an (.d (.sl fun _ _=>Qb.nl _))
  replace H:=iF c3 H
  rw [eqF c3]
  refine Qh hT 2 (K49 111 1) ⟨40,[(1,.ptr 0 0 0 0)],[.box 39 (Yg a0)]⟩ ?_
  refine Qh hT 14 (K49 11111010 0) ⟨40,[(3,.ns),(18,.d (Yb true a0.Pairs)),(19,.i (a0.Pairs.length:Int)),(20,.i 0)],[.box 39 (Yg a0)]⟩ ?_
  refine Qb8 [3,18,19,20] 3 2 33 (vec Qb.e Qb.z []) (st':=⟨40,[(3,.own 1 2 0 0),(18,.d (Yb true a0.Pairs)),(19,.i (a0.Pairs.length:Int)),(20,.i 0)],[.box 39 (Yg a0),Qav ([]:List Qb)]⟩) (by kernel_rfl) (by kernel_rfl) ?_
  have L:∀ n,(∀ (Jd:Int) (Qi:List Qb),iter (Qa9.step a0) n (.l1 Jd Qi)=some r->AK X 49 ((K49 11111010 0)) (Yq X [] (.d (Wu true r))) ⟨40,[(3,.own 0 2 0 Qi.length),(18,.d (Yb true a0.Pairs)),(19,.i (a0.Pairs.length:Int)),(20,.i Jd)],[Qav Qi]⟩):=by
   intro n
   induction n with
   | zero=>exact fun _ _ H=>Qay H
   | succ n ih=>
    ·intro Jd Qi H
     refine Qh hT 5 (K49 1111101001 0) ⟨40,[(3,.own 0 2 0 Qi.length),(18,.d (Yb true a0.Pairs)),(19,.i (a0.Pairs.length:Int)),(20,.i Jd),(21,.b (decide (Jd < (a0.Pairs.length:Int))))],[Qav Qi]⟩ ?_
     by_cases c4:Jd < (a0.Pairs.length:Int)
     ·replace H:=sT c4 H
      rw [decide_eq_true c4]
      refine Qh hT 2 (K49 1111101001 1) ⟨40,[(3,.own 0 2 0 Qi.length),(18,.d (Yb true a0.Pairs)),(19,.i (a0.Pairs.length:Int)),(20,.i Jd)],[Qav Qi]⟩ ?_
      refine Qh hT 4 (K49 11111010011000 0) ⟨40,[(3,.own 0 2 0 Qi.length),(18,.d (Yb true a0.Pairs)),(19,.i (a0.Pairs.length:Int)),(20,.i Jd)],[Qav Qi]⟩ ?_
      obtain ⟨h6,H⟩:=sC H
      refine Zv hT [3,18,19,20,22] (i:=Jd) (n:=(a0.Pairs.length:Int)) h6.1 h6.2 (k':=(K49 11111010011000 1)) (st':=⟨40,[(3,.own 0 2 0 Qi.length),(18,.d (Yb true a0.Pairs)),(19,.i (a0.Pairs.length:Int)),(20,.i Jd),(22,.d (Qer true a0.Pairs Jd.toNat 0))],[Qav Qi]⟩) (by kernel_rfl) ?_
      refine Qh hT 13 (K49 11111010011001 8) ⟨40,[(18,.d (Yb true a0.Pairs)),(19,.i (a0.Pairs.length:Int)),(20,.i Jd),(24,.own 0 2 0 Qi.length),(31,.own 2 2 0 1)],[Qav Qi,.box 81 (Qcd (a0.Pairs.getD Jd.toNat Qa.z)),.flat false 2 33 1 (fun j=>[[.i ((a0.Pairs.getD Jd.toNat Qa.z).Key),.i (IntKind.wrap .i64 (((a0.Pairs.getD Jd.toNat Qa.z).Key)+1))]].getD j [])]⟩ ?_
      obtain ⟨h7,H⟩:=sC H
      refine Qca (id:=0) (kk:=2) (by':=16) (t:=34) (e:=33) (z:=[.int .i64 0,.int .i64 0]) (dst:=some 32) (id2:=2) (e2:=33) (fz:=false) (k':=(K49 11111010011001 9)) hT Qb.e Qb.z Qi (Qa9.q1 a0 Jd) [18,19,20,32] (by kernel_rfl) (by kernel_rfl) (by kernel_rfl) (by kernel_rfl) (by kernel_rfl) (by kernel_rfl) (by kernel_rfl) h7 (by omega) (st':=⟨40,[(18,.d (Yb true a0.Pairs)),(19,.i (a0.Pairs.length:Int)),(20,.i Jd),(32,.own 3 2 0 ((Qi ++ [(Qa9.q1 a0 Jd)]).length))],[.gone,.box 81 (Qcd (a0.Pairs.getD Jd.toNat Qa.z)),.flat false 2 33 1 (fun j=>[[.i ((a0.Pairs.getD Jd.toNat Qa.z).Key),.i (IntKind.wrap .i64 (((a0.Pairs.getD Jd.toNat Qa.z).Key)+1))]].getD j []),Qav (Qi ++ [(Qa9.q1 a0 Jd)])]⟩) (by kernel_rfl) ?_
      refine Xq hT 8 (K49 11111010 0) [3] ⟨40,[(3,.own 0 2 0 (Qi ++ [(Qa9.q1 a0 Jd)]).length),(18,.d (Yb true a0.Pairs)),(19,.i (a0.Pairs.length:Int)),(20,.i (IntKind.wrap .i64 (Jd+1)))],[Qav (Qi ++ [(Qa9.q1 a0 Jd)])]⟩ h0 ?_
      exact ih (IntKind.wrap .i64 (Jd+1)) (Qi ++ [(Qa9.q1 a0 Jd)]) H
     replace H:=sF c4 H
     rw [decide_eq_false c4]
     refine Qh hT 5 (K49 1111110 1) ⟨40,[(35,.own 0 2 0 Qi.length)],[Qav Qi]⟩ ?_
     refine Qcf 0 (kk:=2) (n:=Qi.length) (ty:=33) (g:=vec Qb.e Qb.z Qi) (by kernel_rfl) (st':=⟨40,[(35,.own 0 2 0 Qi.length)],[Qb9 Qi]⟩) (by kernel_rfl) ?_
     obtain ⟨v2,h5,H⟩:=sbC H
     refine Wx (Yh:=[.own 0 2 0 Qi.length]) (dst:=some 36) (k':=(K49 1111110 2)) [36] [] hP Wcs (Qz.Wv Qi h5) (by kernel_rfl) (Wh _) (.cons (.Qds (ty:=33) (by kernel_rfl) rfl) .nil) (st':=⟨40,[(36,.Qo [.d (Wu true v2.1),.i v2.2])],[Qb9 Qi]⟩) (by kernel_rfl) ?_
     refine Qh hT 11 (K49 1111111 1) ⟨40,[(2,.d (Wu true v2.1))],[Qb9 Qi]⟩ ?_
     obtain rfl:=Yi H
     exact Ym hf hX h0 (.d (Wu true v2.1)) [] an (.d (.sl fun _ _=>Qb.nl _))
  refine Qgo [1] ⟨40,[(3,.own 0 2 0 ([]:List Qb).length),(18,.d (Yb true a0.Pairs)),(19,.i (a0.Pairs.length:Int)),(20,.i 0)],[Qav ([]:List Qb)]⟩ h0 ?_
  obtain ⟨n,H⟩:=Qbu H
  exact (L n) 0 ([]:List Qb) H
 replace H:=iF c2 H
 rw [Jk c2]
 refine Qh hT 5 (K49 11010 1) ⟨40,[(2,.ns)],[.box 39 (Yg a0)]⟩ ?_
 refine Qeu (av:=.d (.v (.slice none 0 0))) (y:=Wu true ([]:List Qb)) [2] 2 (st':=⟨40,[(2,.d (Wu true ([]:List Qb)))],[.box 39 (Yg a0)]⟩) (by kernel_rfl) (.nil _) (by kernel_rfl) ?_
 obtain rfl:=Yi H
 exact Ym hf hX h0 (.d (Wu true ([]:List Qb))) [] an (.d (.sl fun _ _=>Qb.nl _))
theorem Qaj.Wv {t0:Bool} {t1:Bool} (a0:List Qb) (a1:List Qb) {r:List Qb} (H:Qaj a0 a1=some r):Zd Tryz.prog 79 [] [.d (Wu t0 a0),.d (Wu t1 a1)] [Qav r] (.own 0 2 0 r.length):=by
 refine Ye Tryz.func79 rfl (nt:=46) rfl (lb rfl) fun X hP h0 hX=>?_
 have hT:Xo X.P T:=hP▸tok
 have hf:X.P.funcs[79]? = some Tryz.f79:=hP▸Tryz.func79
 refine Qh hT 17 (K79 111010 0) ⟨46,[(1,.d (Wu t1 a1)),(5,.ns),(11,.d (Wu t0 a0)),(12,.i (a0.length:Int)),(13,.i 0)],[]⟩ ?_
 refine Qb8 [1,5,11,12,13] 5 2 33 (vec Qb.e Qb.z []) (st':=⟨46,[(1,.d (Wu t1 a1)),(5,.own 0 2 0 0),(11,.d (Wu t0 a0)),(12,.i (a0.length:Int)),(13,.i 0)],[Qav ([]:List Qb)]⟩) (by kernel_rfl) (by kernel_rfl) ?_
 have L:∀ n,(∀ (Jv:Int) (Qi:List Qb),iter (Qaj.step a0 a1) n (.l1 Jv Qi)=some r->AK X 79 ((K79 111010 0)) (Yq X [Qav r] (.own 0 2 0 r.length)) ⟨46,[(1,.d (Wu t1 a1)),(5,.own 0 2 0 Qi.length),(11,.d (Wu t0 a0)),(12,.i (a0.length:Int)),(13,.i Jv)],[Qav Qi]⟩)/\(∀ (Qed:Int) (Qaw:Int) (Xv:List Qb) (Qbd:Int) (Qbe:Int),iter (Qaj.step a0 a1) n (.l2 Qed Qaw Xv Qbd Qbe)=some r->AK X 79 ((K79 11101001100110 0)) (Yq X [Qav r] (.own 0 2 0 r.length)) ⟨46,[(1,.d (Wu t1 a1)),(5,.own 0 2 0 Xv.length),(7,.ptr 1 0 0 0),(11,.d (Wu t0 a0)),(12,.i (a0.length:Int)),(13,.i Qed),(17,.d (Wu t1 a1)),(18,.i (a1.length:Int)),(19,.i Qaw)],[Qav Xv,.box 33 [.i Qbd,.i Qbe]]⟩):=by
  intro n
  induction n with
  | zero=>exact ⟨fun _ _ H=>Qay H,fun _ _ _ _ _ H=>Qay H⟩
  | succ n ih=>
   refine ⟨?_, ?_⟩
   ·intro Jv Qi H
    refine Qh hT 5 (K79 11101001 0) ⟨46,[(1,.d (Wu t1 a1)),(5,.own 0 2 0 Qi.length),(11,.d (Wu t0 a0)),(12,.i (a0.length:Int)),(13,.i Jv),(14,.b (decide (Jv < (a0.length:Int))))],[Qav Qi]⟩ ?_
    by_cases c1:Jv < (a0.length:Int)
    ·replace H:=sT c1 H
     rw [decide_eq_true c1]
     refine Qh hT 2 (K79 11101001 1) ⟨46,[(1,.d (Wu t1 a1)),(5,.own 0 2 0 Qi.length),(11,.d (Wu t0 a0)),(12,.i (a0.length:Int)),(13,.i Jv)],[Qav Qi]⟩ ?_
     refine Qh hT 4 (K79 111010011000 0) ⟨46,[(1,.d (Wu t1 a1)),(5,.own 0 2 0 Qi.length),(11,.d (Wu t0 a0)),(12,.i (a0.length:Int)),(13,.i Jv)],[Qav Qi]⟩ ?_
     obtain ⟨h2,H⟩:=sC H
     refine Zv hT [1,5,11,12,13,15] (i:=Jv) (n:=(a0.length:Int)) h2.1 h2.2 (k':=(K79 111010011000 1)) (st':=⟨46,[(1,.d (Wu t1 a1)),(5,.own 0 2 0 Qi.length),(11,.d (Wu t0 a0)),(12,.i (a0.length:Int)),(13,.i Jv),(15,.d (Qre t0 a0 Jv.toNat 0))],[Qav Qi]⟩) (by kernel_rfl) ?_
     refine Xq hT 12 (K79 11101001100110 0) [0,1] ⟨46,[(1,.d (Wu t1 a1)),(5,.own 0 2 0 Qi.length),(7,.ptr 1 0 0 0),(11,.d (Wu t0 a0)),(12,.i (a0.length:Int)),(13,.i Jv),(17,.d (Wu t1 a1)),(18,.i (a1.length:Int)),(19,.i 0)],[Qav Qi,.box 33 [.i ((a0.getD Jv.toNat Qb.z).Lo),.i ((a0.getD Jv.toNat Qb.z).Hi)]]⟩ h0 ?_
     exact ih.2 Jv 0 Qi ((a0.getD Jv.toNat Qb.z).Lo) ((a0.getD Jv.toNat Qb.z).Hi) H
    replace H:=sF c1 H
    rw [decide_eq_false c1]
    refine Qh hT 7 (K79 1111 1) ⟨46,[(4,.own 0 2 0 Qi.length)],[Qav Qi]⟩ ?_
    obtain rfl:=Yi H
    exact Ym hf hX h0 (.own 0 2 0 Qi.length) [0] (ac (Qat Qb.nl) an) (.own _ _ _ _)
   intro Qed Qaw Xv Qbd Qbe H
   refine Qh hT 5 (K79 1110100110011001 0) ⟨46,[(1,.d (Wu t1 a1)),(5,.own 0 2 0 Xv.length),(7,.ptr 1 0 0 0),(11,.d (Wu t0 a0)),(12,.i (a0.length:Int)),(13,.i Qed),(17,.d (Wu t1 a1)),(18,.i (a1.length:Int)),(19,.i Qaw),(20,.b (decide (Qaw < (a1.length:Int))))],[Qav Xv,.box 33 [.i Qbd,.i Qbe]]⟩ ?_
   by_cases c3:Qaw < (a1.length:Int)
   ·replace H:=sT c3 H
    rw [decide_eq_true c3]
    refine Qh hT 2 (K79 1110100110011001 1) ⟨46,[(1,.d (Wu t1 a1)),(5,.own 0 2 0 Xv.length),(7,.ptr 1 0 0 0),(11,.d (Wu t0 a0)),(12,.i (a0.length:Int)),(13,.i Qed),(17,.d (Wu t1 a1)),(18,.i (a1.length:Int)),(19,.i Qaw)],[Qav Xv,.box 33 [.i Qbd,.i Qbe]]⟩ ?_
    refine Qh hT 4 (K79 11101001100110011000 0) ⟨46,[(1,.d (Wu t1 a1)),(5,.own 0 2 0 Xv.length),(7,.ptr 1 0 0 0),(11,.d (Wu t0 a0)),(12,.i (a0.length:Int)),(13,.i Qed),(17,.d (Wu t1 a1)),(18,.i (a1.length:Int)),(19,.i Qaw)],[Qav Xv,.box 33 [.i Qbd,.i Qbe]]⟩ ?_
    obtain ⟨h4,H⟩:=sC H
    have Yv:∀ (Qd3:List Qb),stk (Qaj.j1 Qed Qaw Qbd Qbe Qd3) (iter (Qaj.step a0 a1) n)=some r->AK X 79 ((K79 11101001100110011 1)) (Yq X [Qav r] (.own 0 2 0 r.length)) ⟨46,[(1,.d (Wu t1 a1)),(5,.own 0 2 0 Qd3.length),(7,.ptr 1 0 0 0),(11,.d (Wu t0 a0)),(12,.i (a0.length:Int)),(13,.i Qed),(17,.d (Wu t1 a1)),(18,.i (a1.length:Int)),(19,.i Qaw)],[Qav Qd3,.box 33 [.i Qbd,.i Qbe]]⟩:=by
     intro Qd3 H
     refine Qh hT 5 (K79 11101001100110 0) ⟨46,[(1,.d (Wu t1 a1)),(5,.own 0 2 0 Qd3.length),(7,.ptr 1 0 0 0),(11,.d (Wu t0 a0)),(12,.i (a0.length:Int)),(13,.i Qed),(17,.d (Wu t1 a1)),(18,.i (a1.length:Int)),(19,.i (IntKind.wrap .i64 (Qaw+1)))],[Qav Qd3,.box 33 [.i Qbd,.i Qbe]]⟩ ?_
     exact ih.2 Qed (IntKind.wrap .i64 (Qaw+1)) Qd3 Qbd Qbe H
    refine Zv hT [1,5,7,11,12,13,17,18,19,21] (i:=Qaw) (n:=(a1.length:Int)) h4.1 h4.2 (k':=(K79 11101001100110011000 1)) (st':=⟨46,[(1,.d (Wu t1 a1)),(5,.own 0 2 0 Xv.length),(7,.ptr 1 0 0 0),(11,.d (Wu t0 a0)),(12,.i (a0.length:Int)),(13,.i Qed),(17,.d (Wu t1 a1)),(18,.i (a1.length:Int)),(19,.i Qaw),(21,.d (Qre t1 a1 Qaw.toNat 0))],[Qav Xv,.box 33 [.i Qbd,.i Qbe]]⟩) (by kernel_rfl) ?_
    refine Qh hT 28 (K79 111010011001100110011 1) ⟨46,[(1,.d (Wu t1 a1)),(5,.own 0 2 0 Xv.length),(7,.ptr 1 0 0 0),(10,.ptr 3 0 0 0),(11,.d (Wu t0 a0)),(12,.i (a0.length:Int)),(13,.i Qed),(17,.d (Wu t1 a1)),(18,.i (a1.length:Int)),(19,.i Qaw),(38,.b (decide ((Qet Qbd ((a1.getD Qaw.toNat Qb.z).Lo)) < (Qgf Qbe ((a1.getD Qaw.toNat Qb.z).Hi)))))],[Qav Xv,.box 33 [.i Qbd,.i Qbe],.box 33 (Qe8 (a1.getD Qaw.toNat Qb.z)),.box 33 [.i (Qet Qbd ((a1.getD Qaw.toNat Qb.z).Lo)),.i (Qgf Qbe ((a1.getD Qaw.toNat Qb.z).Hi))]]⟩ ?_
    by_cases c5:(Qet Qbd ((a1.getD Qaw.toNat Qb.z).Lo)) < (Qgf Qbe ((a1.getD Qaw.toNat Qb.z).Hi))
    ·replace H:=sT c5 H
     rw [decide_eq_true c5]
     refine Qh hT 5 (K79 11101001100110011001110 3) ⟨46,[(1,.d (Wu t1 a1)),(7,.ptr 1 0 0 0),(11,.d (Wu t0 a0)),(12,.i (a0.length:Int)),(13,.i Qed),(17,.d (Wu t1 a1)),(18,.i (a1.length:Int)),(19,.i Qaw),(39,.own 0 2 0 Xv.length),(41,.own 4 2 0 1)],[Qav Xv,.box 33 [.i Qbd,.i Qbe],.box 33 (Qe8 (a1.getD Qaw.toNat Qb.z)),.box 33 [.i (Qet Qbd ((a1.getD Qaw.toNat Qb.z).Lo)),.i (Qgf Qbe ((a1.getD Qaw.toNat Qb.z).Hi))],.flat false 2 33 1 (fun j=>[[.i (Qet Qbd ((a1.getD Qaw.toNat Qb.z).Lo)),.i (Qgf Qbe ((a1.getD Qaw.toNat Qb.z).Hi))]].getD j [])]⟩ ?_
     obtain ⟨h6,H⟩:=sC H
     refine Qca (id:=0) (kk:=2) (by':=16) (t:=34) (e:=33) (z:=[.int .i64 0,.int .i64 0]) (dst:=some 42) (id2:=4) (e2:=33) (fz:=false) (k':=(K79 11101001100110011001110 4)) hT Qb.e Qb.z Xv (⟨Qet Qbd ((a1.getD Qaw.toNat Qb.z).Lo),Qgf Qbe ((a1.getD Qaw.toNat Qb.z).Hi)⟩:Qb) [1,7,11,12,13,17,18,19,42] (by kernel_rfl) (by kernel_rfl) (by kernel_rfl) (by kernel_rfl) (by kernel_rfl) (by kernel_rfl) (by kernel_rfl) h6 (by omega) (st':=⟨46,[(1,.d (Wu t1 a1)),(7,.ptr 1 0 0 0),(11,.d (Wu t0 a0)),(12,.i (a0.length:Int)),(13,.i Qed),(17,.d (Wu t1 a1)),(18,.i (a1.length:Int)),(19,.i Qaw),(42,.own 5 2 0 ((Xv ++ [(⟨Qet Qbd ((a1.getD Qaw.toNat Qb.z).Lo),Qgf Qbe ((a1.getD Qaw.toNat Qb.z).Hi)⟩:Qb)]).length))],[.gone,.box 33 [.i Qbd,.i Qbe],.box 33 (Qe8 (a1.getD Qaw.toNat Qb.z)),.box 33 [.i (Qet Qbd ((a1.getD Qaw.toNat Qb.z).Lo)),.i (Qgf Qbe ((a1.getD Qaw.toNat Qb.z).Hi))],.flat false 2 33 1 (fun j=>[[.i (Qet Qbd ((a1.getD Qaw.toNat Qb.z).Lo)),.i (Qgf Qbe ((a1.getD Qaw.toNat Qb.z).Hi))]].getD j []),Qav (Xv ++ [(⟨Qet Qbd ((a1.getD Qaw.toNat Qb.z).Lo),Qgf Qbe ((a1.getD Qaw.toNat Qb.z).Hi)⟩:Qb)])]⟩) (by kernel_rfl) ?_
     refine Xq hT 3 (K79 11101001100110011 1) [5,1] ⟨46,[(1,.d (Wu t1 a1)),(5,.own 0 2 0 (Xv ++ [(⟨Qet Qbd ((a1.getD Qaw.toNat Qb.z).Lo),Qgf Qbe ((a1.getD Qaw.toNat Qb.z).Hi)⟩:Qb)]).length),(7,.ptr 1 0 0 0),(11,.d (Wu t0 a0)),(12,.i (a0.length:Int)),(13,.i Qed),(17,.d (Wu t1 a1)),(18,.i (a1.length:Int)),(19,.i Qaw)],[Qav (Xv ++ [(⟨Qet Qbd ((a1.getD Qaw.toNat Qb.z).Lo),Qgf Qbe ((a1.getD Qaw.toNat Qb.z).Hi)⟩:Qb)]),.box 33 [.i Qbd,.i Qbe]]⟩ h0 ?_
     exact Yv (Xv ++ [(⟨Qet Qbd ((a1.getD Qaw.toNat Qb.z).Lo),Qgf Qbe ((a1.getD Qaw.toNat Qb.z).Hi)⟩:Qb)]) H
    replace H:=sF c5 H
    rw [decide_eq_false c5]
    refine Xq hT 3 (K79 11101001100110011 1) [0,1] ⟨46,[(1,.d (Wu t1 a1)),(5,.own 0 2 0 Xv.length),(7,.ptr 1 0 0 0),(11,.d (Wu t0 a0)),(12,.i (a0.length:Int)),(13,.i Qed),(17,.d (Wu t1 a1)),(18,.i (a1.length:Int)),(19,.i Qaw)],[Qav Xv,.box 33 [.i Qbd,.i Qbe]]⟩ h0 ?_
    exact Yv Xv H
   replace H:=sF c3 H
   rw [decide_eq_false c3]
   refine Xq hT 8 (K79 111010 0) [0] ⟨46,[(1,.d (Wu t1 a1)),(5,.own 0 2 0 Xv.length),(11,.d (Wu t0 a0)),(12,.i (a0.length:Int)),(13,.i (IntKind.wrap .i64 (Qed+1)))],[Qav Xv]⟩ h0 ?_
   exact ih.1 (IntKind.wrap .i64 (Qed+1)) Xv H
 refine Qgo [0] ⟨46,[(1,.d (Wu t1 a1)),(5,.own 0 2 0 ([]:List Qb).length),(11,.d (Wu t0 a0)),(12,.i (a0.length:Int)),(13,.i 0)],[Qav ([]:List Qb)]⟩ h0 ?_
 obtain ⟨n,H⟩:=Qbu H
 exact (L n).1 0 ([]:List Qb) H
theorem Qe4.Wv {t0:Bool} {t1:Bool} (a0:List Qb) (a1:List Qb) {r:Bool} (H:Qe4 a0 a1=some r):Zd Tryz.prog 48 [] [.d (Wu t0 a0),.d (Wu t1 a1)] [] (.b r):=by
 refine Ye Tryz.func48 rfl (nt:=18) rfl (lb rfl) fun X hP h0 hX=>?_
 have hT:Xo X.P T:=hP▸tok
 have hf:X.P.funcs[48]? = some Tryz.f48:=hP▸Tryz.func48
 refine Qh hT 7 (K48 110 1) ⟨18,[(0,.d (Wu t0 a0)),(1,.d (Wu t1 a1)),(5,.d (Wu t0 a0))],[]⟩ ?_
 obtain ⟨v1,h1,H⟩:=ibC H
 have Yv:∀ (Qdj:Bool),(Qe4.j1 Qdj)=some r->AK X 48 ((K48 11 1)) (Yq X [] (.b r)) ⟨18,[(4,.b Qdj)],[]⟩:=by
  intro Qdj H
  obtain rfl:=Yi H
  exact Ym hf hX h0 (.b Qdj) [] an (.d (.v _))
 refine Wx (Yh:=[.d (Wu t0 a0)]) (dst:=some 6) (k':=(K48 110 2)) [0,1,6] [] hP Qhu (Zb.Wv (t0:=t0) a0 h1) (by kernel_rfl) (Wh _) (.cons (Qp _) .nil) (st':=⟨18,[(0,.d (Wu t0 a0)),(1,.d (Wu t1 a1)),(6,.b v1)],[]⟩) (by kernel_rfl) ?_
 refine Qh hT 1 (K48 110 3) ⟨18,[(0,.d (Wu t0 a0)),(1,.d (Wu t1 a1)),(7,.b v1)],[]⟩ ?_
 by_cases c2:v1=true
 ·replace H:=iT c2 H
  rw [c2]
  refine Qh hT 1 (K48 110 4) ⟨18,[(0,.d (Wu t0 a0)),(1,.d (Wu t1 a1)),(7,.b true),(8,.d (Wu t1 a1))],[]⟩ ?_
  obtain ⟨v2,h3,H⟩:=ibC H
  refine Wx (Yh:=[.d (Wu t1 a1)]) (dst:=some 9) (k':=(K48 110 5)) [0,1,7,9] [] hP Qhu (Zb.Wv (t0:=t1) a1 h3) (by kernel_rfl) (Wh _) (.cons (Qp _) .nil) (st':=⟨18,[(0,.d (Wu t0 a0)),(1,.d (Wu t1 a1)),(7,.b true),(9,.b v2)],[]⟩) (by kernel_rfl) ?_
  refine Qh hT 2 (K48 110 7) ⟨18,[(0,.d (Wu t0 a0)),(1,.d (Wu t1 a1)),(11,.b v2)],[]⟩ ?_
  by_cases c4:v2=true
  ·replace H:=iT c4 H
   rw [c4]
   refine Qh hT 2 (K48 110 9) ⟨18,[(11,.b true),(12,.d (Wu t0 a0)),(13,.d (Wu t1 a1))],[]⟩ ?_
   obtain ⟨v3,h5,H⟩:=ibC H
   refine Wx (Yh:=[.d (Wu t0 a0),.d (Wu t1 a1)]) (dst:=some 14) (k':=(K48 110 10)) [11,14] [] hP Wcr (Qaj.Wv (t0:=t0) (t1:=t1) a0 a1 h5) (by kernel_rfl) (Wh _) (.cons (Qp _) (.cons (Qp _) .nil)) (st':=⟨18,[(11,.b true),(14,.own 0 2 0 v3.length)],[Qav v3]⟩) (by kernel_rfl) ?_
   refine Xq hT 5 (K48 11 1) [] ⟨18,[(4,.b (decide ((v3.length:Int) > 0)))],[]⟩ h0 ?_
   exact Yv (decide ((v3.length:Int) > 0)) H
  replace H:=iF c4 H
  rw [Jk c4]
  refine Qh hT 8 (K48 11 1) ⟨18,[(4,.b false)],[]⟩ ?_
  exact Yv false H
 replace H:=iF c2 H
 rw [Jk c2]
 refine Qh hT 12 (K48 11 1) ⟨18,[(4,.b false)],[]⟩ ?_
 exact Yv false H
theorem Qdv.Wv {t1:Bool} (a0:Qe) (a1:List Qb) {r:Bool} (H:Qdv a0 a1=some r):Zd Tryz.prog 25 [] [.d (Qdr a0),.d (Wu t1 a1)] [] (.b r):=by
 refine Ye Tryz.func25 rfl (nt:=10) rfl (lb rfl) fun X hP h0 hX=>?_
 have hT:Xo X.P T:=hP▸tok
 have hf:X.P.funcs[25]? = some Tryz.f25:=hP▸Tryz.func25
 refine Qh hT 9 (K25 110 2) ⟨10,[(1,.d (Wu t1 a1)),(6,.d (Qa3 a0.M))],[.box 41 (Qb2 a0)]⟩ ?_
 obtain ⟨v1,h1,H⟩:=ibC H
 refine Wx (Yh:=[.d (Qa3 a0.M)]) (dst:=some 7) (k':=(K25 110 3)) [1,7] [] hP Wcc (Qa9.Wv a0.M h1) (by kernel_rfl) (Wh _) (.cons (Qp _) .nil) (st':=⟨10,[(1,.d (Wu t1 a1)),(7,.d (Wu true v1))],[.box 41 (Qb2 a0)]⟩) (by kernel_rfl) ?_
 refine Qh hT 1 (K25 110 4) ⟨10,[(7,.d (Wu true v1)),(8,.d (Wu t1 a1))],[.box 41 (Qb2 a0)]⟩ ?_
 obtain ⟨v2,h2,H⟩:=ibC H
 refine Wx (Yh:=[.d (Wu true v1),.d (Wu t1 a1)]) (dst:=some 9) (k':=(K25 110 5)) [9] [] hP Wcb (Qe4.Wv (t0:=true) (t1:=t1) v1 a1 h2) (by kernel_rfl) (Wh _) (.cons (Qp _) (.cons (Qp _) .nil)) (st':=⟨10,[(9,.b v2)],[.box 41 (Qb2 a0)]⟩) (by kernel_rfl) ?_
 refine Qh hT 2 (K25 11 1) ⟨10,[(4,.b v2)],[.box 41 (Qb2 a0)]⟩ ?_
 obtain rfl:=Yi H
 exact Ym hf hX h0 (.b v2) [] an (.d (.v _))
abbrev Qdo.q1 (a0:Qe):List AV:=[.i a0.M.Client,.i a0.M.Seq,.i a0.M.Kind,.own 2 2 0 a0.M.Pairs.length,.i a0.M.Over.Lo,.i a0.M.Over.Hi,.i a0.M.Old,.i a0.Time,.b a0.Qai]
abbrev Qdo.p0 (a0:Qe):List (Nat × AV):=[(2,.ptr 1 0 0 0),(9,.agg [.i a0.M.Client,.i a0.M.Seq,.i a0.M.Kind,.own 2 2 0 a0.M.Pairs.length,.i a0.M.Over.Lo,.i a0.M.Over.Hi,.i a0.M.Old,.i a0.Time,.b a0.Qai])]
theorem Qdo.Wv (a0:Qe) {r:Qe} (H:Qdo a0=some r):Zd Tryz.prog 26 [] [.d (Qdr a0)] [] (.d (Qdr r)):=by
 refine Ye Tryz.func26 rfl (nt:=10) rfl (lb rfl) fun X hP h0 hX=>?_
 have hT:Xo X.P T:=hP▸tok
 have hf:X.P.funcs[26]? = some Tryz.f26:=hP▸Tryz.func26
 refine Qh hT 10 (K26 110 3) ⟨10,[(1,.ptr 0 0 0 0),(2,.ptr 1 0 0 0),(5,.d (Yb true a0.M.Pairs))],[.box 41 (Qb2 a0),.box 41 [.i 0,.i 0,.i 0,.ns,.i 0,.i 0,.i 0,.i 0,.b false]]⟩ ?_
 obtain ⟨h1,H⟩:=iC H
 refine Wx (Yh:=[.d (Yb true a0.M.Pairs)]) (dst:=some 6) (k':=(K26 110 4)) [1,2,6] [] hP Ql1 (Qpv (tg:=true) a0.M.Pairs h1) (by kernel_rfl) (Wh _) (.cons (Qp _) .nil) (st':=⟨10,[(1,.ptr 0 0 0 0),(2,.ptr 1 0 0 0),(6,.own 2 2 0 a0.M.Pairs.length)],[.box 41 (Qb2 a0),.box 41 [.i 0,.i 0,.i 0,.ns,.i 0,.i 0,.i 0,.i 0,.b false],Xk a0.M.Pairs]⟩) (by kernel_rfl) ?_
 refine Qh hT 7 (K26 1110 1) ⟨10,(Qdo.p0 a0),[.box 41 (Qdo.q1 a0),.box 41 [.i 0,.i 0,.i 0,.ns,.i 0,.i 0,.i 0,.i 0,.b false],Xk a0.M.Pairs]⟩ ?_
 refine Qcf 2 (kk:=2) (n:=a0.M.Pairs.length) (ty:=81) (g:=vec Qa.e Qa.z a0.M.Pairs) (by kernel_rfl) (st':=⟨10,(Qdo.p0 a0),[.box 41 (Qdo.q1 a0),.box 41 [.i 0,.i 0,.i 0,.ns,.i 0,.i 0,.i 0,.i 0,.b false],Qe0 a0.M.Pairs]⟩) (by kernel_rfl) ?_
 refine Qeu (av:=.agg [.i a0.M.Client,.i a0.M.Seq,.i a0.M.Kind,.own 2 2 0 a0.M.Pairs.length,.i a0.M.Over.Lo,.i a0.M.Over.Hi,.i a0.M.Old,.i a0.Time,.b a0.Qai]) (y:=Qdr a0) [2,9] 9 (st':=⟨10,[(2,.ptr 1 0 0 0),(9,.d (Qdr a0))],[.box 41 (Qdo.q1 a0),.box 41 [.i 0,.i 0,.i 0,.ns,.i 0,.i 0,.i 0,.i 0,.b false],Qe0 a0.M.Pairs]⟩) (by kernel_rfl) (.agg (.cons (.d _) (.cons (.d _) (.cons (.d _) (.cons (.own (ty:=81) (k:=2) (by kernel_rfl)) (.cons (.d _) (.cons (.d _) (.cons (.d _) (.cons (.d _) (.cons (.d _) .nil)))))))))) (by kernel_rfl) ?_
 refine Qh hT 2 (K26 111 1) ⟨10,[(2,.ptr 1 0 0 0)],[.box 41 (Qdo.q1 a0),.box 41 (Qb2 a0),Qe0 a0.M.Pairs]⟩ ?_
 obtain rfl:=Yi H
 exact Qen hT hf hX (av:=.d (Qdr a0)) (by kernel_rfl) [] (Jq (by kernel_rfl)) (by decide) (by rw [h0];rfl) (by kernel_rfl) an (.d (.agg (Qe.nl _)))
abbrev Ws.q1 (a1:Int):=([(⟨a1,IntKind.wrap .i64 (a1+1)⟩:Qb)]:List Qb)
abbrev Ws.q2 (v3:Qe) (Qab:Int) (Qac:Bool):List AV:=[.i v3.M.Client,.i v3.M.Seq,.i v3.M.Kind,.d (Yb true v3.M.Pairs),.i v3.M.Over.Lo,.i v3.M.Over.Hi,.i v3.M.Old,.i v3.Time,.b v3.Qai,.i Qab,.b Qac,.i 0,.b false]
abbrev Ws.s1 (a1:Int) (Wm:List Qa) (Yf:List Xe) (t0:Bool) (a0:List Qe) (Qaf:Int) (Qab:Int) (Qac:Bool):St:=⟨75,[(1,.i a1),(6,.own 0 2 0 ((Ws.q1 a1).length)),(7,.own 1 2 0 Wm.length),(8,.own 2 13 0 Yf.length),(9,.ptr 3 0 0 0),(11,.ptr 4 0 0 0),(31,.d (Xj t0 a0)),(32,.i (a0.length:Int)),(33,.i Qaf)],[Qb9 (Ws.q1 a1),Xk Wm,Qae Yf,.box 36 [.i Qab,.b Qac],.box 41 (Qb2 (a0.getD Qaf.toNat Qe.z))]⟩
abbrev Ws.p0 (a1:Int):List (Nat × AV):=[(1,.i a1),(6,.own 0 2 0 ((Ws.q1 a1).length))]
theorem Ws.Wv {t0:Bool} (a0:List Qe) (a1:Int) {r:(List Xe) × Int} (H:Ws a0 a1=some r):Zd Tryz.prog 8 [] [.d (Xj t0 a0),.i a1] [Qae r.1] (.Qo [.own 0 13 0 r.1.length,.i r.2]):=by
 refine Ye Tryz.func8 rfl (nt:=75) rfl (lb rfl) fun X hP h0 hX=>?_
 have hT:Xo X.P T:=hP▸tok
 have hf:X.P.funcs[8]? = some Tryz.f8:=hP▸Tryz.func8
 refine Qh hT 9 (K8 1100 1) ⟨75,[(0,.d (Xj t0 a0)),(1,.i a1),(15,.d (Xj t0 a0))],[]⟩ ?_
 obtain ⟨v1,h1,H⟩:=ibC H
 have Yv:∀ (Qqc:Bool),(Ws.j1 a0 a1 Qqc)=some r->AK X 8 ((K8 110 1)) (Yq X [Qae r.1] (.Qo [.own 0 13 0 r.1.length,.i r.2])) ⟨75,[(0,.d (Xj t0 a0)),(1,.i a1),(25,.b Qqc)],[]⟩:=by
  intro Qqc H
  by_cases c4:Qqc=true
  ·replace H:=iT c4 H
   rw [c4]
   refine Qh hT 6 (K8 11010 1) ⟨75,[(4,.ns),(5,.i 1)],[]⟩ ?_
   refine Qb8 [4,5] 4 13 43 (vec Xe.e Xe.z []) (st':=⟨75,[(4,.own 0 13 0 0),(5,.i 1)],[Qae ([]:List Xe)]⟩) (by kernel_rfl) (by kernel_rfl) ?_
   obtain rfl:=Yi H
   exact Ym hf hX h0 (.Qo [.own 0 13 0 0,.i 1]) [0] (ac (Qat Xe.nl) an) (.Qo (.cons (.own _ _ _ _) (.cons (.d (.v _)) .nil)))
  replace H:=iF c4 H
  rw [Jk c4]
  refine Qh hT 2 (K8 11 1) ⟨75,[(0,.d (Xj t0 a0)),(1,.i a1)],[]⟩ ?_
  refine Qh hT 30 (K8 1111111010 0) ⟨75,[(1,.i a1),(6,.own 0 2 0 1),(7,.ns),(8,.ns),(9,.ptr 1 0 0 0),(31,.d (Xj t0 a0)),(32,.i (a0.length:Int)),(33,.i 0)],[.flat false 2 33 1 (fun j=>[[.i a1,.i (IntKind.wrap .i64 (a1+1))]].getD j []),.box 36 [.i 0,.b false]]⟩ ?_
  refine Qfd 0 (kk:=2) (fz:=false) (ty:=33) (n:=(Ws.q1 a1).length) (vec Qb.e Qb.z (Ws.q1 a1)) (by kernel_rfl) Qep (st':=⟨75,(Ws.p0 a1++[(7,.ns),(8,.ns),(9,.ptr 1 0 0 0),(31,.d (Xj t0 a0)),(32,.i (a0.length:Int)),(33,.i 0)]),[Qav (Ws.q1 a1),.box 36 [.i 0,.b false]]⟩) (by kernel_rfl) ?_
  refine Qcf 0 (kk:=2) (n:=(Ws.q1 a1).length) (ty:=33) (g:=vec Qb.e Qb.z (Ws.q1 a1)) (by kernel_rfl) (st':=⟨75,(Ws.p0 a1++[(7,.ns),(8,.ns),(9,.ptr 1 0 0 0),(31,.d (Xj t0 a0)),(32,.i (a0.length:Int)),(33,.i 0)]),[Qb9 (Ws.q1 a1),.box 36 [.i 0,.b false]]⟩) (by kernel_rfl) ?_
  refine Qb8 [1,6,7,8,9,31,32,33] 7 2 81 (vec Qa.e Qa.z []) (st':=⟨75,(Ws.p0 a1++[(7,.own 2 2 0 0),(8,.ns),(9,.ptr 1 0 0 0),(31,.d (Xj t0 a0)),(32,.i (a0.length:Int)),(33,.i 0)]),[Qb9 (Ws.q1 a1),.box 36 [.i 0,.b false],Xk ([]:List Qa)]⟩) (by kernel_rfl) (by kernel_rfl) ?_
  refine Qb8 [1,6,7,8,9,31,32,33] 8 13 43 (vec Xe.e Xe.z []) (st':=⟨75,(Ws.p0 a1++[(7,.own 2 2 0 0),(8,.own 3 13 0 0),(9,.ptr 1 0 0 0),(31,.d (Xj t0 a0)),(32,.i (a0.length:Int)),(33,.i 0)]),[Qb9 (Ws.q1 a1),.box 36 [.i 0,.b false],Xk ([]:List Qa),Qae ([]:List Xe)]⟩) (by kernel_rfl) (by kernel_rfl) ?_
  have L:∀ n,(∀ (Qaf:Int) (Wm:List Qa) (Yf:List Xe) (Qab:Int) (Qac:Bool),iter (Ws.step a0 a1) n (.l1 Qaf Wm Yf Qab Qac)=some r->AK X 8 ((K8 1111111010 0)) (Yq X [Qae r.1] (.Qo [.own 0 13 0 r.1.length,.i r.2])) ⟨75,(Ws.p0 a1++[(7,.own 1 2 0 Wm.length),(8,.own 2 13 0 Yf.length),(9,.ptr 3 0 0 0),(31,.d (Xj t0 a0)),(32,.i (a0.length:Int)),(33,.i Qaf)]),[Qb9 (Ws.q1 a1),Xk Wm,Qae Yf,.box 36 [.i Qab,.b Qac]]⟩):=by
   intro n
   induction n with
   | zero=>exact fun _ _ _ _ _ H=>Qay H
   | succ n ih=>
    ·intro Qaf Wm Yf Qab Qac H
     refine Qh hT 5 (K8 111111101001 0) ⟨75,(Ws.p0 a1++[(7,.own 1 2 0 Wm.length),(8,.own 2 13 0 Yf.length),(9,.ptr 3 0 0 0),(31,.d (Xj t0 a0)),(32,.i (a0.length:Int)),(33,.i Qaf),(34,.b (decide (Qaf < (a0.length:Int))))]),[Qb9 (Ws.q1 a1),Xk Wm,Qae Yf,.box 36 [.i Qab,.b Qac]]⟩ ?_
     by_cases c5:Qaf < (a0.length:Int)
     ·replace H:=sT c5 H
      rw [decide_eq_true c5]
      refine Qh hT 2 (K8 111111101001 1) ⟨75,(Ws.p0 a1++[(7,.own 1 2 0 Wm.length),(8,.own 2 13 0 Yf.length),(9,.ptr 3 0 0 0),(31,.d (Xj t0 a0)),(32,.i (a0.length:Int)),(33,.i Qaf)]),[Qb9 (Ws.q1 a1),Xk Wm,Qae Yf,.box 36 [.i Qab,.b Qac]]⟩ ?_
      refine Qh hT 4 (K8 1111111010011000 0) ⟨75,(Ws.p0 a1++[(7,.own 1 2 0 Wm.length),(8,.own 2 13 0 Yf.length),(9,.ptr 3 0 0 0),(31,.d (Xj t0 a0)),(32,.i (a0.length:Int)),(33,.i Qaf)]),[Qb9 (Ws.q1 a1),Xk Wm,Qae Yf,.box 36 [.i Qab,.b Qac]]⟩ ?_
      obtain ⟨h6,H⟩:=sC H
      have Jj2:∀ (Qqs:Bool),stk (Ws.j2 a0 a1 Qaf Wm Yf Qab Qac Qqs) (iter (Ws.step a0 a1) n)=some r->AK X 8 ((K8 11111110100110010 1)) (Yq X [Qae r.1] (.Qo [.own 0 13 0 r.1.length,.i r.2])) ⟨75,(Ws.p0 a1++[(7,.own 1 2 0 Wm.length),(8,.own 2 13 0 Yf.length),(9,.ptr 3 0 0 0),(11,.ptr 4 0 0 0),(31,.d (Xj t0 a0)),(32,.i (a0.length:Int)),(33,.i Qaf),(45,.b Qqs)]),[Qb9 (Ws.q1 a1),Xk Wm,Qae Yf,.box 36 [.i Qab,.b Qac],.box 41 (Qb2 (a0.getD Qaf.toNat Qe.z))]⟩:=by
       intro Qqs H
       by_cases c9:Qqs=true
       ·replace H:=sT c9 H
        rw [c9]
        refine Xq hT 7 (K8 1111111010 0) [0,1,2,3] ⟨75,(Ws.p0 a1++[(7,.own 1 2 0 Wm.length),(8,.own 2 13 0 Yf.length),(9,.ptr 3 0 0 0),(31,.d (Xj t0 a0)),(32,.i (a0.length:Int)),(33,.i (IntKind.wrap .i64 (Qaf+1)))]),[Qb9 (Ws.q1 a1),Xk Wm,Qae Yf,.box 36 [.i Qab,.b Qac]]⟩ h0 ?_
        exact ih (IntKind.wrap .i64 (Qaf+1)) Wm Yf Qab Qac H
       replace H:=sF c9 H
       rw [Jk c9]
       refine Qh hT 2 (K8 1111111010011001 1) (Ws.s1 a1 Wm Yf t0 a0 Qaf Qab Qac) ?_
       refine Qh hT 1 (K8 11111110100110011 0) (Ws.s1 a1 Wm Yf t0 a0 Qaf Qab Qac) ?_
       obtain ⟨v3,h10,H⟩:=sbC H
       refine Qcb (nt:=75) (hP▸mixed) 5 [4] [1,6,7,8,9,11,31,32,33] [(1,.i a1),(6,.own 0 2 0 ((Ws.q1 a1).length)),(7,.own 1 2 0 Wm.length),(8,.own 2 13 0 Yf.length),(9,.ptr 3 0 0 0),(11,.ptr 4 0 0 0),(31,.d (Xj t0 a0)),(32,.i (a0.length:Int)),(33,.i Qaf)] (sm [.d (Qdr (a0.getD Qaf.toNat Qe.z)),.d (Qdr v3),.d (.agg [.i Qab,.b Qac]),.d (.agg [.i v3.M.Client,.i v3.M.Seq,.i v3.M.Kind,Yb true v3.M.Pairs,.i v3.M.Over.Lo,.i v3.M.Over.Hi,.i v3.M.Old,.i v3.Time,.b v3.Qai,.i Qab,.b Qac,.i 0,.b false]),.ptr 5 0 0 0]) [[Qb9 (Ws.q1 a1),Xk Wm,Qae Yf,.box 36 [.i Qab,.b Qac],.box 41 (Qb2 (a0.getD Qaf.toNat Qe.z))],[Qb9 (Ws.q1 a1),Xk Wm,Qae Yf,.box 36 [.i Qab,.b Qac],.box 41 (Qb2 (a0.getD Qaf.toNat Qe.z)),.box 43 [.i 0,.i 0,.i 0,.ns,.i 0,.i 0,.i 0,.i 0,.b false,.i 0,.b false,.i 0,.b false]]] (by kernel_rfl) (by kernel_rfl) (by kernel_rfl) (by kernel_rfl) ⟨?_,(Qdg hT),?_⟩ ?_
       iterate 2 exact (Qdt (We (We (Zu (We Qf2 hT) (fun R rest h=>Zw (Yh:=[.d (Qdr (a0.getD Qaf.toNat Qe.z))]) (dst:=some 47) hP Qoq (Qdo.Wv (a0.getD Qaf.toNat Qe.z) h10) (by kernel_rfl) (.cons (Qp _) .nil) (by kernel_rfl) h)) hT) hT))
       refine Qh hT 8 (K8 1111111010011001110 4) ⟨75,(Ws.p0 a1++[(8,.own 2 13 0 Yf.length),(9,.ptr 3 0 0 0),(12,.ptr 5 0 0 0),(31,.d (Xj t0 a0)),(32,.i (a0.length:Int)),(33,.i Qaf),(51,.own 1 2 0 Wm.length),(53,.d (Qa3 ((a0.getD Qaf.toNat Qe.z).M))),(54,.own 0 2 0 ((Ws.q1 a1).length))]),[Qb9 (Ws.q1 a1),Xk Wm,Qae Yf,.box 36 [.i Qab,.b Qac],.box 41 (Qb2 (a0.getD Qaf.toNat Qe.z)),.box 43 (Ws.q2 v3 Qab Qac)]⟩ ?_
       obtain ⟨v4,h11,H⟩:=sbC H
       refine Wx (Yh:=[.own 1 2 0 Wm.length,.d (Qa3 ((a0.getD Qaf.toNat Qe.z).M)),.own 0 2 0 ((Ws.q1 a1).length)]) (dst:=some 55) (k':=(K8 1111111010011001110 5)) [1,6,8,9,12,31,32,33,55] [] hP Qor (Wp.Wv (t0:=false) Wm ((a0.getD Qaf.toNat Qe.z).M) (Ws.q1 a1) h11) (by kernel_rfl) (Wh _) (.cons (.Qds (ty:=81) (by kernel_rfl) rfl) (.cons (Qp _) (.cons (.Qds (ty:=33) (by kernel_rfl) rfl) .nil))) (st':=⟨75,(Ws.p0 a1++[(8,.own 2 13 0 Yf.length),(9,.ptr 3 0 0 0),(12,.ptr 5 0 0 0),(31,.d (Xj t0 a0)),(32,.i (a0.length:Int)),(33,.i Qaf),(55,.Qo [.own 6 2 0 v4.1.length,.b v4.2])]),[Qb9 (Ws.q1 a1),Xk Wm,Qae Yf,.box 36 [.i Qab,.b Qac],.box 41 (Qb2 (a0.getD Qaf.toNat Qe.z)),.box 43 (Ws.q2 v3 Qab Qac),Xk v4.1]⟩) (by kernel_rfl) ?_
       refine Qh hT 9 (K8 11111110100110011110 2) ⟨75,(Ws.p0 a1++[(7,.own 6 2 0 v4.1.length),(8,.own 2 13 0 Yf.length),(9,.ptr 3 0 0 0),(12,.ptr 5 0 0 0),(31,.d (Xj t0 a0)),(32,.i (a0.length:Int)),(33,.i Qaf),(59,.own 6 2 0 v4.1.length),(60,.i a1)]),[Qb9 (Ws.q1 a1),Xk Wm,Qae Yf,.box 36 [.i Qab,.b Qac],.box 41 (Qb2 (a0.getD Qaf.toNat Qe.z)),.box 43 (Ws.q2 v3 Qab Qac),Xk v4.1]⟩ ?_
       obtain ⟨v5,h12,H⟩:=sbC H
       refine Wx (Yh:=[.own 6 2 0 v4.1.length,.i a1]) (dst:=some 61) (k':=(K8 11111110100110011110 3)) [1,6,7,8,9,12,31,32,33,61] [] hP Qub (Qg1.Wv (t0:=false) v4.1 a1 h12) (by kernel_rfl) (Wh _) (.cons (.Qds (ty:=81) (by kernel_rfl) rfl) (.cons (Qp _) .nil)) (st':=⟨75,(Ws.p0 a1++[(7,.own 6 2 0 v4.1.length),(8,.own 2 13 0 Yf.length),(9,.ptr 3 0 0 0),(12,.ptr 5 0 0 0),(31,.d (Xj t0 a0)),(32,.i (a0.length:Int)),(33,.i Qaf),(61,.Qo [.i v5.1,.b v5.2])]),[Qb9 (Ws.q1 a1),Xk Wm,Qae Yf,.box 36 [.i Qab,.b Qac],.box 41 (Qb2 (a0.getD Qaf.toNat Qe.z)),.box 43 (Ws.q2 v3 Qab Qac),Xk v4.1]⟩) (by kernel_rfl) ?_
       refine Qh hT 23 (K8 1111111010011001111111 3) ⟨75,(Ws.p0 a1++[(7,.own 6 2 0 v4.1.length),(9,.ptr 3 0 0 0),(31,.d (Xj t0 a0)),(32,.i (a0.length:Int)),(33,.i Qaf),(69,.own 2 13 0 Yf.length),(71,.own 7 13 0 1)]),[Qb9 (Ws.q1 a1),Xk Wm,Qae Yf,.box 36 [.i v5.1,.b v5.2],.box 41 (Qb2 (a0.getD Qaf.toNat Qe.z)),.box 43 [.i v3.M.Client,.i v3.M.Seq,.i v3.M.Kind,.d (Yb true v3.M.Pairs),.i v3.M.Over.Lo,.i v3.M.Over.Hi,.i v3.M.Old,.i v3.Time,.b v3.Qai,.i Qab,.b Qac,.i v5.1,.b v5.2],Xk v4.1,.flat false 13 43 1 (fun j=>[[.i v3.M.Client,.i v3.M.Seq,.i v3.M.Kind,Yb true v3.M.Pairs,.i v3.M.Over.Lo,.i v3.M.Over.Hi,.i v3.M.Old,.i v3.Time,.b v3.Qai,.i Qab,.b Qac,.i v5.1,.b v5.2]].getD j [])]⟩ ?_
       obtain ⟨h13,H⟩:=sC H
       refine Qca (id:=2) (kk:=13) (by':=120) (t:=26) (e:=43) (z:=[.int .i64 0,.int .i64 0,.int .i64 0,.slice none 0 0,.int .i64 0,.int .i64 0,.int .i64 0,.int .i64 0,.bool false,.int .i64 0,.bool false,.int .i64 0,.bool false]) (dst:=some 72) (id2:=7) (e2:=43) (fz:=false) (k':=(K8 1111111010011001111111 4)) hT Xe.e Xe.z Yf (⟨v3,(⟨Qab,Qac⟩:Ze),(⟨v5.1,v5.2⟩:Ze)⟩:Xe) [1,6,7,9,31,32,33,72] (by kernel_rfl) (by kernel_rfl) (by kernel_rfl) (by kernel_rfl) (by kernel_rfl) (by kernel_rfl) (by kernel_rfl) h13 (by omega) (st':=⟨75,(Ws.p0 a1++[(7,.own 6 2 0 v4.1.length),(9,.ptr 3 0 0 0),(31,.d (Xj t0 a0)),(32,.i (a0.length:Int)),(33,.i Qaf),(72,.own 8 13 0 ((Yf ++ [(⟨v3,(⟨Qab,Qac⟩:Ze),(⟨v5.1,v5.2⟩:Ze)⟩:Xe)]).length))]),[Qb9 (Ws.q1 a1),Xk Wm,.gone,.box 36 [.i v5.1,.b v5.2],.box 41 (Qb2 (a0.getD Qaf.toNat Qe.z)),.box 43 [.i v3.M.Client,.i v3.M.Seq,.i v3.M.Kind,.d (Yb true v3.M.Pairs),.i v3.M.Over.Lo,.i v3.M.Over.Hi,.i v3.M.Old,.i v3.Time,.b v3.Qai,.i Qab,.b Qac,.i v5.1,.b v5.2],Xk v4.1,.flat false 13 43 1 (fun j=>[[.i v3.M.Client,.i v3.M.Seq,.i v3.M.Kind,Yb true v3.M.Pairs,.i v3.M.Over.Lo,.i v3.M.Over.Hi,.i v3.M.Old,.i v3.Time,.b v3.Qai,.i Qab,.b Qac,.i v5.1,.b v5.2]].getD j []),Qae (Yf ++ [(⟨v3,(⟨Qab,Qac⟩:Ze),(⟨v5.1,v5.2⟩:Ze)⟩:Xe)])]⟩) (by kernel_rfl) ?_
       refine Xq hT 8 (K8 1111111010 0) [0,6,8,3] ⟨75,(Ws.p0 a1++[(7,.own 1 2 0 v4.1.length),(8,.own 2 13 0 (Yf ++ [(⟨v3,(⟨Qab,Qac⟩:Ze),(⟨v5.1,v5.2⟩:Ze)⟩:Xe)]).length),(9,.ptr 3 0 0 0),(31,.d (Xj t0 a0)),(32,.i (a0.length:Int)),(33,.i (IntKind.wrap .i64 (Qaf+1)))]),[Qb9 (Ws.q1 a1),Xk v4.1,Qae (Yf ++ [(⟨v3,(⟨Qab,Qac⟩:Ze),(⟨v5.1,v5.2⟩:Ze)⟩:Xe)]),.box 36 [.i v5.1,.b v5.2]]⟩ h0 ?_
       exact ih (IntKind.wrap .i64 (Qaf+1)) v4.1 (Yf ++ [(⟨v3,(⟨Qab,Qac⟩:Ze),(⟨v5.1,v5.2⟩:Ze)⟩:Xe)]) v5.1 v5.2 H
      refine Zv hT [1,6,7,8,9,31,32,33,35] (i:=Qaf) (n:=(a0.length:Int)) h6.1 h6.2 (k':=(K8 1111111010011000 1)) (st':=⟨75,(Ws.p0 a1++[(7,.own 1 2 0 Wm.length),(8,.own 2 13 0 Yf.length),(9,.ptr 3 0 0 0),(31,.d (Xj t0 a0)),(32,.i (a0.length:Int)),(33,.i Qaf),(35,.d (Qjp t0 a0 Qaf.toNat 0))]),[Qb9 (Ws.q1 a1),Xk Wm,Qae Yf,.box 36 [.i Qab,.b Qac]]⟩) (by kernel_rfl) ?_
      refine Qh hT 11 (K8 111111101001100100 4) ⟨75,(Ws.p0 a1++[(7,.own 1 2 0 Wm.length),(8,.own 2 13 0 Yf.length),(9,.ptr 3 0 0 0),(11,.ptr 4 0 0 0),(31,.d (Xj t0 a0)),(32,.i (a0.length:Int)),(33,.i Qaf),(40,.b (!((a0.getD Qaf.toNat Qe.z).Qai)))]),[Qb9 (Ws.q1 a1),Xk Wm,Qae Yf,.box 36 [.i Qab,.b Qac],.box 41 (Qb2 (a0.getD Qaf.toNat Qe.z))]⟩ ?_
      by_cases c7:((a0.getD Qaf.toNat Qe.z).Qai)=true
      ·replace H:=sT c7 H
       rw [c7]
       refine Qh hT 2 (K8 111111101001100100 6) ⟨75,(Ws.p0 a1++[(7,.own 1 2 0 Wm.length),(8,.own 2 13 0 Yf.length),(9,.ptr 3 0 0 0),(11,.ptr 4 0 0 0),(31,.d (Xj t0 a0)),(32,.i (a0.length:Int)),(33,.i Qaf),(40,.b false),(41,.d (Qdr (a0.getD Qaf.toNat Qe.z))),(42,.own 0 2 0 ((Ws.q1 a1).length))]),[Qb9 (Ws.q1 a1),Xk Wm,Qae Yf,.box 36 [.i Qab,.b Qac],.box 41 (Qb2 (a0.getD Qaf.toNat Qe.z))]⟩ ?_
       obtain ⟨v2,h8,H⟩:=sbC H
       refine Wx (Yh:=[.d (Qdr (a0.getD Qaf.toNat Qe.z)),.own 0 2 0 ((Ws.q1 a1).length)]) (dst:=some 43) (k':=(K8 111111101001100100 7)) [1,6,7,8,9,11,31,32,33,40,43] [] hP Qop (Qdv.Wv (t1:=true) (a0.getD Qaf.toNat Qe.z) (Ws.q1 a1) h8) (by kernel_rfl) (Wh _) (.cons (Qp _) (.cons (.Qds (ty:=33) (by kernel_rfl) rfl) .nil)) (st':=⟨75,(Ws.p0 a1++[(7,.own 1 2 0 Wm.length),(8,.own 2 13 0 Yf.length),(9,.ptr 3 0 0 0),(11,.ptr 4 0 0 0),(31,.d (Xj t0 a0)),(32,.i (a0.length:Int)),(33,.i Qaf),(40,.b false),(43,.b v2)]),[Qb9 (Ws.q1 a1),Xk Wm,Qae Yf,.box 36 [.i Qab,.b Qac],.box 41 (Qb2 (a0.getD Qaf.toNat Qe.z))]⟩) (by kernel_rfl) ?_
       refine Xq hT 3 (K8 11111110100110010 1) [0,1,2,3,4] ⟨75,(Ws.p0 a1++[(7,.own 1 2 0 Wm.length),(8,.own 2 13 0 Yf.length),(9,.ptr 3 0 0 0),(11,.ptr 4 0 0 0),(31,.d (Xj t0 a0)),(32,.i (a0.length:Int)),(33,.i Qaf),(45,.b (!v2))]),[Qb9 (Ws.q1 a1),Xk Wm,Qae Yf,.box 36 [.i Qab,.b Qac],.box 41 (Qb2 (a0.getD Qaf.toNat Qe.z))]⟩ h0 ?_
       exact Jj2 (!v2) H
      replace H:=sF c7 H
      rw [Jk c7]
      refine Xq hT 6 (K8 11111110100110010 1) [0,1,2,3,4] ⟨75,(Ws.p0 a1++[(7,.own 1 2 0 Wm.length),(8,.own 2 13 0 Yf.length),(9,.ptr 3 0 0 0),(11,.ptr 4 0 0 0),(31,.d (Xj t0 a0)),(32,.i (a0.length:Int)),(33,.i Qaf),(45,.b true)]),[Qb9 (Ws.q1 a1),Xk Wm,Qae Yf,.box 36 [.i Qab,.b Qac],.box 41 (Qb2 (a0.getD Qaf.toNat Qe.z))]⟩ h0 ?_
      exact Jj2 true H
     replace H:=sF c5 H
     rw [decide_eq_false c5]
     refine Qh hT 8 (K8 11111111 1) ⟨75,[(4,.own 2 13 0 Yf.length),(5,.i 0)],[Qb9 (Ws.q1 a1),Xk Wm,Qae Yf,.box 36 [.i Qab,.b Qac]]⟩ ?_
     obtain rfl:=Yi H
     exact Ym hf hX h0 (.Qo [.own 2 13 0 Yf.length,.i 0]) [2] (ac (Qat Xe.nl) an) (.Qo (.cons (.own _ _ _ _) (.cons (.d (.v _)) .nil)))
  refine Qgo [0,2,3,1] ⟨75,(Ws.p0 a1++[(7,.own 1 2 0 ([]:List Qa).length),(8,.own 2 13 0 ([]:List Xe).length),(9,.ptr 3 0 0 0),(31,.d (Xj t0 a0)),(32,.i (a0.length:Int)),(33,.i 0)]),[Qb9 (Ws.q1 a1),Xk ([]:List Qa),Qae ([]:List Xe),.box 36 [.i 0,.b false]]⟩ h0 ?_
  obtain ⟨n,H⟩:=Qbu H
  exact (L n) 0 ([]:List Qa) ([]:List Xe) 0 false H
 refine Wx (Yh:=[.d (Xj t0 a0)]) (dst:=some 16) (k':=(K8 1100 2)) [0,1,16] [] hP Qnl (Zn.Wv (t0:=t0) a0 h1) (by kernel_rfl) (Wh _) (.cons (Qp _) .nil) (st':=⟨75,[(0,.d (Xj t0 a0)),(1,.i a1),(16,.b v1)],[]⟩) (by kernel_rfl) ?_
 refine Qh hT 2 (K8 1100 4) ⟨75,[(0,.d (Xj t0 a0)),(1,.i a1),(18,.b (!v1))],[]⟩ ?_
 by_cases c2:v1=true
 ·replace H:=iT c2 H
  rw [c2]
  refine Qh hT 4 (K8 1100 8) ⟨75,[(0,.d (Xj t0 a0)),(1,.i a1),(22,.b (decide (a1 < 0)))],[]⟩ ?_
  by_cases c3:a1 < 0
  ·replace H:=iT c3 H
   rw [decide_eq_true c3]
   refine Xq hT 4 (K8 110 1) [] ⟨75,[(0,.d (Xj t0 a0)),(1,.i a1),(25,.b true)],[]⟩ h0 ?_
   exact Yv true H
  replace H:=iF c3 H
  rw [decide_eq_false c3]
  refine Xq hT 4 (K8 110 1) [] ⟨75,[(0,.d (Xj t0 a0)),(1,.i a1),(25,.b (decide (a1>=4096)))],[]⟩ h0 ?_
  exact Yv (decide (a1>=4096)) H
 replace H:=iF c2 H
 rw [Jk c2]
 refine Xq hT 8 (K8 110 1) [] ⟨75,[(0,.d (Xj t0 a0)),(1,.i a1),(25,.b true)],[]⟩ h0 ?_
 exact Yv true H
abbrev Zg.p0 (t1:Bool) (a1:List Qb) (a2:Int):List (Nat × AV):=[(1,.d (Wu t1 a1)),(2,.i a2)]
theorem Zg.Wv {t0:Bool} {t1:Bool} (a0:List Qe) (a1:List Qb) (a2:Int) {r:Int} (H:Zg a0 a1 a2=some r):Zd Tryz.prog 19 [] [.d (Xj t0 a0),.d (Wu t1 a1),.i a2] [] (.i r):=by
 refine Ye Tryz.func19 rfl (nt:=37) rfl (lb rfl) fun X hP h0 hX=>?_
 have hT:Xo X.P T:=hP▸tok
 have hf:X.P.funcs[19]? = some Tryz.f19:=hP▸Tryz.func19
 refine Qh hT 8 (K19 1100 1) ⟨37,[(0,.d (Xj t0 a0)),(1,.d (Wu t1 a1)),(2,.i a2),(10,.d (Xj t0 a0))],[]⟩ ?_
 obtain ⟨v1,h1,H⟩:=ibC H
 have Yv:∀ (Qh8:Bool),(Zg.j1 a0 a1 a2 Qh8)=some r->AK X 19 ((K19 110 1)) (Yq X [] (.i r)) ⟨37,[(0,.d (Xj t0 a0)),(1,.d (Wu t1 a1)),(2,.i a2),(17,.b Qh8)],[]⟩:=by
  intro Qh8 H
  by_cases c4:Qh8=true
  ·replace H:=iT c4 H
   rw [c4]
   refine Qh hT 5 (K19 11010 1) ⟨37,[(6,.i 0)],[]⟩ ?_
   obtain rfl:=Yi H
   exact Ym hf hX h0 (.i 0) [] an (.d (.v _))
  replace H:=iF c4 H
  rw [Jk c4]
  refine Qh hT 2 (K19 11 1) ⟨37,[(0,.d (Xj t0 a0)),(1,.d (Wu t1 a1)),(2,.i a2)],[]⟩ ?_
  refine Qh hT 13 (K19 1111010 0) ⟨37,(Zg.p0 t1 a1 a2++[(7,.i 0),(18,.d (Xj t0 a0)),(19,.i (a0.length:Int)),(20,.i 0)]),[]⟩ ?_
  have L:∀ n,(∀ (Qr:Int) (Jd:Int),iter (Zg.step a0 a1 a2) n (.l1 Qr Jd)=some r->AK X 19 ((K19 1111010 0)) (Yq X [] (.i r)) ⟨37,(Zg.p0 t1 a1 a2++[(7,.i Qr),(18,.d (Xj t0 a0)),(19,.i (a0.length:Int)),(20,.i Jd)]),[]⟩):=by
   intro n
   induction n with
   | zero=>exact fun _ _ H=>Qay H
   | succ n ih=>
    ·intro Qr Jd H
     refine Qh hT 5 (K19 111101001 0) ⟨37,(Zg.p0 t1 a1 a2++[(7,.i Qr),(18,.d (Xj t0 a0)),(19,.i (a0.length:Int)),(20,.i Jd),(21,.b (decide (Jd < (a0.length:Int))))]),[]⟩ ?_
     by_cases c5:Jd < (a0.length:Int)
     ·replace H:=sT c5 H
      rw [decide_eq_true c5]
      refine Qh hT 2 (K19 111101001 1) ⟨37,(Zg.p0 t1 a1 a2++[(7,.i Qr),(18,.d (Xj t0 a0)),(19,.i (a0.length:Int)),(20,.i Jd)]),[]⟩ ?_
      refine Qh hT 4 (K19 1111010011000 0) ⟨37,(Zg.p0 t1 a1 a2++[(7,.i Qr),(18,.d (Xj t0 a0)),(19,.i (a0.length:Int)),(20,.i Jd)]),[]⟩ ?_
      obtain ⟨h6,H⟩:=sC H
      have Jj2:∀ (Qqp:Bool),stk (Zg.j2 Qr Jd Qqp) (iter (Zg.step a0 a1 a2) n)=some r->AK X 19 ((K19 1111010011001 1)) (Yq X [] (.i r)) ⟨37,(Zg.p0 t1 a1 a2++[(7,.i Qr),(18,.d (Xj t0 a0)),(19,.i (a0.length:Int)),(20,.i Jd),(32,.b Qqp)]),[]⟩:=by
       intro Qqp H
       have Jj3:∀ (Qgl:Int),stk (Zg.j3 Jd Qgl) (iter (Zg.step a0 a1 a2) n)=some r->AK X 19 ((K19 1111010011 1)) (Yq X [] (.i r)) ⟨37,(Zg.p0 t1 a1 a2++[(7,.i Qgl),(18,.d (Xj t0 a0)),(19,.i (a0.length:Int)),(20,.i Jd)]),[]⟩:=by
        intro Qgl H
        refine Qh hT 5 (K19 1111010 0) ⟨37,(Zg.p0 t1 a1 a2++[(7,.i Qgl),(18,.d (Xj t0 a0)),(19,.i (a0.length:Int)),(20,.i (IntKind.wrap .i64 (Jd+1)))]),[]⟩ ?_
        exact ih Qgl (IntKind.wrap .i64 (Jd+1)) H
       by_cases c9:Qqp=true
       ·replace H:=sT c9 H
        rw [c9]
        refine Qh hT 7 (K19 1111010011 1) ⟨37,(Zg.p0 t1 a1 a2++[(7,.i (IntKind.wrap .i64 (Qr+1))),(18,.d (Xj t0 a0)),(19,.i (a0.length:Int)),(20,.i Jd)]),[]⟩ ?_
        exact Jj3 (IntKind.wrap .i64 (Qr+1)) H
       replace H:=sF c9 H
       rw [Jk c9]
       refine Qh hT 3 (K19 1111010011 1) ⟨37,(Zg.p0 t1 a1 a2++[(7,.i Qr),(18,.d (Xj t0 a0)),(19,.i (a0.length:Int)),(20,.i Jd)]),[]⟩ ?_
       exact Jj3 Qr H
      refine Zv hT [1,2,7,18,19,20,22] (i:=Jd) (n:=(a0.length:Int)) h6.1 h6.2 (k':=(K19 1111010011000 1)) (st':=⟨37,(Zg.p0 t1 a1 a2++[(7,.i Qr),(18,.d (Xj t0 a0)),(19,.i (a0.length:Int)),(20,.i Jd),(22,.d (Qjp t0 a0 Jd.toNat 0))]),[]⟩) (by kernel_rfl) ?_
      refine Qh hT 11 (K19 11110100110010 5) ⟨37,(Zg.p0 t1 a1 a2++[(7,.i Qr),(9,.ptr 0 0 0 0),(18,.d (Xj t0 a0)),(19,.i (a0.length:Int)),(20,.i Jd),(28,.b (decide (((a0.getD Jd.toNat Qe.z).Time) > a2)))]),[.box 41 (Qb2 (a0.getD Jd.toNat Qe.z))]⟩ ?_
      by_cases c7:((a0.getD Jd.toNat Qe.z).Time) > a2
      ·replace H:=sT c7 H
       rw [decide_eq_true c7]
       refine Qh hT 2 (K19 11110100110010 7) ⟨37,(Zg.p0 t1 a1 a2++[(7,.i Qr),(18,.d (Xj t0 a0)),(19,.i (a0.length:Int)),(20,.i Jd),(28,.b true),(29,.d (Qdr (a0.getD Jd.toNat Qe.z))),(30,.d (Wu t1 a1))]),[.box 41 (Qb2 (a0.getD Jd.toNat Qe.z))]⟩ ?_
       obtain ⟨v3,h8,H⟩:=sbC H
       refine Wx (Yh:=[.d (Qdr (a0.getD Jd.toNat Qe.z)),.d (Wu t1 a1)]) (dst:=some 31) (k':=(K19 11110100110010 8)) [1,2,7,18,19,20,28,31] [] hP Qop (Qdv.Wv (t1:=t1) (a0.getD Jd.toNat Qe.z) a1 h8) (by kernel_rfl) (Wh _) (.cons (Qp _) (.cons (Qp _) .nil)) (st':=⟨37,(Zg.p0 t1 a1 a2++[(7,.i Qr),(18,.d (Xj t0 a0)),(19,.i (a0.length:Int)),(20,.i Jd),(28,.b true),(31,.b v3)]),[.box 41 (Qb2 (a0.getD Jd.toNat Qe.z))]⟩) (by kernel_rfl) ?_
       refine Xq hT 2 (K19 1111010011001 1) [] ⟨37,(Zg.p0 t1 a1 a2++[(7,.i Qr),(18,.d (Xj t0 a0)),(19,.i (a0.length:Int)),(20,.i Jd),(32,.b v3)]),[]⟩ h0 ?_
       exact Jj2 v3 H
      replace H:=sF c7 H
      rw [decide_eq_false c7]
      refine Xq hT 5 (K19 1111010011001 1) [] ⟨37,(Zg.p0 t1 a1 a2++[(7,.i Qr),(18,.d (Xj t0 a0)),(19,.i (a0.length:Int)),(20,.i Jd),(32,.b false)]),[]⟩ h0 ?_
      exact Jj2 false H
     replace H:=sF c5 H
     rw [decide_eq_false c5]
     refine Qh hT 7 (K19 11111 1) ⟨37,[(6,.i Qr)],[]⟩ ?_
     obtain rfl:=Yi H
     exact Ym hf hX h0 (.i Qr) [] an (.d (.v _))
  obtain ⟨n,H⟩:=Qbu H
  exact (L n) 0 0 H
 refine Wx (Yh:=[.d (Xj t0 a0)]) (dst:=some 11) (k':=(K19 1100 2)) [0,1,2,11] [] hP Qnl (Zn.Wv (t0:=t0) a0 h1) (by kernel_rfl) (Wh _) (.cons (Qp _) .nil) (st':=⟨37,[(0,.d (Xj t0 a0)),(1,.d (Wu t1 a1)),(2,.i a2),(11,.b v1)],[]⟩) (by kernel_rfl) ?_
 refine Qh hT 2 (K19 1100 4) ⟨37,[(0,.d (Xj t0 a0)),(1,.d (Wu t1 a1)),(2,.i a2),(13,.b (!v1))],[]⟩ ?_
 by_cases c2:v1=true
 ·replace H:=iT c2 H
  rw [c2]
  refine Qh hT 1 (K19 1100 5) ⟨37,[(0,.d (Xj t0 a0)),(1,.d (Wu t1 a1)),(2,.i a2),(13,.b false),(14,.d (Wu t1 a1))],[]⟩ ?_
  obtain ⟨v2,h3,H⟩:=ibC H
  refine Wx (Yh:=[.d (Wu t1 a1)]) (dst:=some 15) (k':=(K19 1100 6)) [0,1,2,13,15] [] hP Qhu (Zb.Wv (t0:=t1) a1 h3) (by kernel_rfl) (Wh _) (.cons (Qp _) .nil) (st':=⟨37,[(0,.d (Xj t0 a0)),(1,.d (Wu t1 a1)),(2,.i a2),(13,.b false),(15,.b v2)],[]⟩) (by kernel_rfl) ?_
  refine Qh hT 3 (K19 110 1) ⟨37,[(0,.d (Xj t0 a0)),(1,.d (Wu t1 a1)),(2,.i a2),(17,.b (!v2))],[]⟩ ?_
  exact Yv (!v2) H
 replace H:=iF c2 H
 rw [Jk c2]
 refine Qh hT 5 (K19 110 1) ⟨37,[(0,.d (Xj t0 a0)),(1,.d (Wu t1 a1)),(2,.i a2),(17,.b true)],[]⟩ ?_
 exact Yv true H
theorem Zk.Wv (a0:Qf):Zd Tryz.prog 39 [] [.d (Qio a0)] [] (.b (Zk a0)):=by
 obtain ⟨r,H⟩:∃ r,Zk a0=r:=⟨_,rfl⟩
 rw [H]
 refine Ye Tryz.func39 rfl (nt:=18) rfl (lb rfl) fun X hP h0 hX=>?_
 have hT:Xo X.P T:=hP▸tok
 have hf:X.P.funcs[39]? = some Tryz.f39:=hP▸Tryz.func39
 have Yv:∀ (Qbx:Bool),(Zk.j1 Qbx)=r->AK X 39 ((K39 11 1)) (Yq X [] (.b r)) ⟨18,[(2,.b Qbx)],[]⟩:=by
  intro Qbx H
  obtain rfl:=H
  exact Ym hf hX h0 (.b Qbx) [] an (.d (.v _))
 refine Qh hT 11 (K39 110 4) ⟨18,[(1,.ptr 0 0 0 0),(6,.b (decide (a0.Lo>=0)))],[.box 46 (Wit a0)]⟩ ?_
 by_cases c1:a0.Lo>=0
 ·replace H:=iT c1 H
  rw [decide_eq_true c1]
  refine Qh hT 7 (K39 110 11) ⟨18,[(1,.ptr 0 0 0 0),(13,.b (decide (a0.Lo < a0.Hi)))],[.box 46 (Wit a0)]⟩ ?_
  by_cases c2:a0.Lo < a0.Hi
  ·replace H:=iT c2 H
   rw [decide_eq_true c2]
   refine Xq hT 6 (K39 11 1) [] ⟨18,[(2,.b (decide (a0.Hi<=4096)))],[]⟩ h0 ?_
   exact Yv (decide (a0.Hi<=4096)) H
  replace H:=iF c2 H
  rw [decide_eq_false c2]
  refine Xq hT 6 (K39 11 1) [] ⟨18,[(2,.b false)],[]⟩ h0 ?_
  exact Yv false H
 replace H:=iF c1 H
 rw [decide_eq_false c1]
 refine Xq hT 13 (K39 11 1) [] ⟨18,[(2,.b false)],[]⟩ h0 ?_
 exact Yv false H
theorem Qao.Wv (a0:Int):Zd Tryz.prog 89 [] [.i a0] [] (.b (Qao a0)):=by
 obtain ⟨r,H⟩:∃ r,Qao a0=r:=⟨_,rfl⟩
 rw [H]
 refine Ye Tryz.func89 rfl (nt:=9) rfl (lb rfl) fun X hP h0 hX=>?_
 have hT:Xo X.P T:=hP▸tok
 have hf:X.P.funcs[89]? = some Tryz.f89:=hP▸Tryz.func89
 have Yv:∀ (Qbx:Bool),(Qao.j1 Qbx)=r->AK X 89 ((K89 11 1)) (Yq X [] (.b r)) ⟨9,[(2,.b Qbx)],[]⟩:=by
  intro Qbx H
  obtain rfl:=H
  exact Ym hf hX h0 (.b Qbx) [] an (.d (.v _))
 refine Qh hT 9 (K89 110 3) ⟨9,[(0,.i a0),(5,.b (decide (a0>=(-1099511627776))))],[]⟩ ?_
 by_cases c1:a0>=(-1099511627776)
 ·replace H:=iT c1 H
  rw [decide_eq_true c1]
  refine Qh hT 5 (K89 11 1) ⟨9,[(2,.b (decide (a0<=1099511627776)))],[]⟩ ?_
  exact Yv (decide (a0<=1099511627776)) H
 replace H:=iF c1 H
 rw [decide_eq_false c1]
 refine Qh hT 5 (K89 11 1) ⟨9,[(2,.b false)],[]⟩ ?_
 exact Yv false H
abbrev Wy.p0 (t0:Bool) (a0:List Qd):List (Nat × AV):=[(0,.d (Yl t0 a0))]
theorem Wy.Wv {t0:Bool} (a0:List Qd) (a1:Int) (a2:Int) {r:Bool} (H:Wy a0 a1 a2=some r):Zd Tryz.prog 88 [] [.d (Yl t0 a0),.i a1,.i a2] [] (.b r):=by
 refine Ye Tryz.func88 rfl (nt:=47) rfl (lb rfl) fun X hP h0 hX=>?_
 have hT:Xo X.P T:=hP▸tok
 have hf:X.P.funcs[88]? = some Tryz.f88:=hP▸Tryz.func88
 have Yv:∀ (Qh8:Bool),(Wy.j1 a0 Qh8)=some r->AK X 88 ((K88 110 1)) (Yq X [] (.b r)) ⟨47,(Wy.p0 t0 a0++[(17,.b Qh8)]),[]⟩:=by
  intro Qh8 H
  by_cases c2:Qh8=true
  ·replace H:=iT c2 H
   rw [c2]
   refine Qh hT 5 (K88 11010 1) ⟨47,[(6,.b false)],[]⟩ ?_
   obtain rfl:=Yi H
   exact Ym hf hX h0 (.b false) [] an (.d (.v _))
  replace H:=iF c2 H
  rw [Jk c2]
  refine Qh hT 2 (K88 11 1) ⟨47,(Wy.p0 t0 a0),[]⟩ ?_
  refine Qh hT 7 (K88 111010 0) ⟨47,(Wy.p0 t0 a0++[(7,.i 0)]),[]⟩ ?_
  have L:∀ n,(∀ (Qr:Int),iter (Wy.step a0) n (.l1 Qr)=some r->AK X 88 ((K88 111010 0)) (Yq X [] (.b r)) ⟨47,(Wy.p0 t0 a0++[(7,.i Qr)]),[]⟩):=by
   intro n
   induction n with
   | zero=>exact fun _ H=>Qay H
   | succ n ih=>
    ·intro Qr H
     refine Qh hT 8 (K88 11101000 1) ⟨47,(Wy.p0 t0 a0++[(7,.i Qr),(21,.b (decide (Qr < (a0.length:Int))))]),[]⟩ ?_
     by_cases c3:Qr < (a0.length:Int)
     ·replace H:=sT c3 H
      rw [decide_eq_true c3]
      refine Qh hT 2 (K88 1110100 1) ⟨47,(Wy.p0 t0 a0++[(7,.i Qr)]),[]⟩ ?_
      refine Qh hT 6 (K88 11101001000 2) ⟨47,(Wy.p0 t0 a0++[(7,.i Qr),(24,.d (Yl t0 a0)),(25,.i Qr)]),[]⟩ ?_
      obtain ⟨h4,H⟩:=sC H
      have Jj2:∀ (Qqt:Bool),stk (Wy.j2 Qr Qqt) (iter (Wy.step a0) n)=some r->AK X 88 ((K88 1110100100 1)) (Yq X [] (.b r)) ⟨47,(Wy.p0 t0 a0++[(7,.i Qr),(46,.b Qqt)]),[]⟩:=by
       intro Qqt H
       by_cases c7:Qqt=true
       ·replace H:=sT c7 H
        rw [c7]
        refine Qh hT 5 (K88 111010010010 1) ⟨47,[(6,.b false)],[]⟩ ?_
        obtain rfl:=Yi H
        exact Ym hf hX h0 (.b false) [] an (.d (.v _))
       replace H:=sF c7 H
       rw [Jk c7]
       refine Qh hT 3 (K88 11101001 1) ⟨47,(Wy.p0 t0 a0++[(7,.i Qr)]),[]⟩ ?_
       refine Qh hT 6 (K88 111010 0) ⟨47,(Wy.p0 t0 a0++[(7,.i (IntKind.wrap .i64 (Qr+1)))]),[]⟩ ?_
       exact ih (IntKind.wrap .i64 (Qr+1)) H
      refine Zv hT [0,7,26] (i:=Qr) (n:=(a0.length:Int)) h4.1 h4.2 (k':=(K88 11101001000 3)) (st':=⟨47,(Wy.p0 t0 a0++[(7,.i Qr),(26,.d (Qcn t0 a0 Qr.toNat 0))]),[]⟩) (by kernel_rfl) ?_
      refine Qh hT 4 (K88 11101001000 7) ⟨47,(Wy.p0 t0 a0++[(7,.i Qr),(30,.b (decide (((a0.getD Qr.toNat Qd.z).Key) < 0)))]),[]⟩ ?_
      by_cases c5:((a0.getD Qr.toNat Qd.z).Key) < 0
      ·replace H:=sT c5 H
       rw [decide_eq_true c5]
       refine Qh hT 17 (K88 1110100100 1) ⟨47,(Wy.p0 t0 a0++[(7,.i Qr),(46,.b true)]),[]⟩ ?_
       exact Jj2 true H
      replace H:=sF c5 H
      rw [decide_eq_false c5]
      refine Qh hT 2 (K88 11101001000 9) ⟨47,(Wy.p0 t0 a0++[(7,.i Qr),(30,.b false),(31,.d (Yl t0 a0)),(32,.i Qr)]),[]⟩ ?_
      refine Zv hT [0,7,30,33] (i:=Qr) (n:=(a0.length:Int)) h4.1 h4.2 (k':=(K88 11101001000 10)) (st':=⟨47,(Wy.p0 t0 a0++[(7,.i Qr),(30,.b false),(33,.d (Qcn t0 a0 Qr.toNat 0))]),[]⟩) (by kernel_rfl) ?_
      refine Qh hT 5 (K88 11101001000 15) ⟨47,(Wy.p0 t0 a0++[(7,.i Qr),(38,.b (decide (((a0.getD Qr.toNat Qd.z).Key) > 4095)))]),[]⟩ ?_
      by_cases c6:((a0.getD Qr.toNat Qd.z).Key) > 4095
      ·replace H:=sT c6 H
       rw [decide_eq_true c6]
       refine Qh hT 9 (K88 1110100100 1) ⟨47,(Wy.p0 t0 a0++[(7,.i Qr),(46,.b true)]),[]⟩ ?_
       exact Jj2 true H
      replace H:=sF c6 H
      rw [decide_eq_false c6]
      refine Qh hT 2 (K88 11101001000 17) ⟨47,(Wy.p0 t0 a0++[(7,.i Qr),(38,.b false),(39,.d (Yl t0 a0)),(40,.i Qr)]),[]⟩ ?_
      refine Zv hT [0,7,38,41] (i:=Qr) (n:=(a0.length:Int)) h4.1 h4.2 (k':=(K88 11101001000 18)) (st':=⟨47,(Wy.p0 t0 a0++[(7,.i Qr),(38,.b false),(41,.d (Qcn t0 a0 Qr.toNat 0))]),[]⟩) (by kernel_rfl) ?_
      refine Qh hT 2 (K88 11101001000 20) ⟨47,(Wy.p0 t0 a0++[(7,.i Qr),(38,.b false),(43,.i ((a0.getD Qr.toNat Qd.z).Val))]),[]⟩ ?_
      refine Wx (Yh:=[.i ((a0.getD Qr.toNat Qd.z).Val)]) (dst:=some 44) (k':=(K88 11101001000 21)) [0,7,38,44] [] hP Qum (Qao.Wv ((a0.getD Qr.toNat Qd.z).Val)) (by kernel_rfl) (Wh _) (.cons (Qp _) .nil) (st':=⟨47,(Wy.p0 t0 a0++[(7,.i Qr),(38,.b false),(44,.b (Qao ((a0.getD Qr.toNat Qd.z).Val)))]),[]⟩) (by kernel_rfl) ?_
      refine Qh hT 3 (K88 1110100100 1) ⟨47,(Wy.p0 t0 a0++[(7,.i Qr),(46,.b (!(Qao ((a0.getD Qr.toNat Qd.z).Val))))]),[]⟩ ?_
      exact Jj2 (!(Qao ((a0.getD Qr.toNat Qd.z).Val))) H
     replace H:=sF c3 H
     rw [decide_eq_false c3]
     refine Qh hT 6 (K88 1111 1) ⟨47,[(6,.b true)],[]⟩ ?_
     obtain rfl:=Yi H
     exact Ym hf hX h0 (.b true) [] an (.d (.v _))
  obtain ⟨n,H⟩:=Qbu H
  exact (L n) 0 H
 refine Qh hT 12 (K88 1100 5) ⟨47,(Wy.p0 t0 a0++[(2,.i a2),(12,.b (decide ((a0.length:Int) < a1)))]),[]⟩ ?_
 by_cases c1:(a0.length:Int) < a1
 ·replace H:=iT c1 H
  rw [decide_eq_true c1]
  refine Qh hT 6 (K88 110 1) ⟨47,(Wy.p0 t0 a0++[(17,.b true)]),[]⟩ ?_
  exact Yv true H
 replace H:=iF c1 H
 rw [decide_eq_false c1]
 refine Qh hT 6 (K88 110 1) ⟨47,(Wy.p0 t0 a0++[(17,.b (decide ((a0.length:Int) > a2)))]),[]⟩ ?_
 exact Yv (decide ((a0.length:Int) > a2)) H
abbrev Qq.p0:List (Nat × AV):=[(1,.ptr 0 0 0 0)]
theorem Qq.Wv (a0:Xd) {r:Bool} (H:Qq a0=some r):Zd Tryz.prog 64 [] [.d (Qc4 a0)] [] (.b r):=by
 refine Ye Tryz.func64 rfl (nt:=143) rfl (lb rfl) fun X hP h0 hX=>?_
 have hT:Xo X.P T:=hP▸tok
 have hf:X.P.funcs[64]? = some Tryz.f64:=hP▸Tryz.func64
 have Yv:∀ (Qc9:Bool),(Qq.j1 a0 Qc9)=some r->AK X 64 ((K64 110 1)) (Yq X [] (.b r)) ⟨143,(Qq.p0++[(21,.b Qc9)]),[.box 48 (Xr a0)]⟩:=by
  intro Qc9 H
  by_cases c4:Qc9=true
  ·replace H:=iT c4 H
   rw [c4]
   refine Qh hT 5 (K64 11010 1) ⟨143,[(2,.b false)],[.box 48 (Xr a0)]⟩ ?_
   obtain rfl:=Yi H
   exact Ym hf hX h0 (.b false) [] an (.d (.v _))
  replace H:=iF c4 H
  rw [Jk c4]
  refine Qh hT 2 (K64 11 1) ⟨143,(Qq.p0),[.box 48 (Xr a0)]⟩ ?_
  refine Qh hT 7 (K64 1110 1) ⟨143,(Qq.p0++[(24,.b (a0.Kind == 2))]),[.box 48 (Xr a0)]⟩ ?_
  by_cases c5:a0.Kind=2
  ·replace H:=iT c5 H
   have Jj2:∀ (Qhe:Bool),(Qq.j2 Qhe)=some r->AK X 64 ((K64 111010 1)) (Yq X [] (.b r)) ⟨143,[(2,.b Qhe)],[]⟩:=by
    intro Qhe H
    obtain rfl:=Yi H
    exact Ym hf hX h0 (.b Qhe) [] an (.d (.v _))
   rw [eqT c5]
   refine Qh hT 8 (K64 1110100 5) ⟨143,(Qq.p0++[(29,.b ((a0.Pairs.length:Int) == 0))]),[.box 48 (Xr a0)]⟩ ?_
   by_cases c6:(a0.Pairs.length:Int)=0
   ·replace H:=iT c6 H
    rw [eqT c6]
    refine Qh hT 5 (K64 1110100 10) ⟨143,(Qq.p0++[(34,.b (a0.Old == 0))]),[.box 48 (Xr a0)]⟩ ?_
    by_cases c7:a0.Old=0
    ·replace H:=iT c7 H
     rw [eqT c7]
     refine Qh hT 2 (K64 1110100 12) ⟨143,[(34,.b true),(36,.d (Qio a0.Over))],[.box 48 (Xr a0)]⟩ ?_
     refine Wx (Yh:=[.d (Qio a0.Over)]) (dst:=some 37) (k':=(K64 1110100 13)) [34,37] [] hP Qhv (Zk.Wv a0.Over) (by kernel_rfl) (Wh _) (.cons (Qp _) .nil) (st':=⟨143,[(34,.b true),(37,.b (Zk a0.Over))],[.box 48 (Xr a0)]⟩) (by kernel_rfl) ?_
     refine Xq hT 3 (K64 111010 1) [] ⟨143,[(2,.b (Zk a0.Over))],[]⟩ h0 ?_
     exact Jj2 (Zk a0.Over) H
    replace H:=iF c7 H
    rw [eqF c7]
    refine Xq hT 6 (K64 111010 1) [] ⟨143,[(2,.b false)],[]⟩ h0 ?_
    exact Jj2 false H
   replace H:=iF c6 H
   rw [eqF c6]
   refine Xq hT 11 (K64 111010 1) [] ⟨143,[(2,.b false)],[]⟩ h0 ?_
   exact Jj2 false H
  replace H:=iF c5 H
  have Jj3:∀ (Qqy:Bool),(Qq.j3 a0 Qqy)=some r->AK X 64 ((K64 11110 1)) (Yq X [] (.b r)) ⟨143,(Qq.p0++[(48,.b Qqy)]),[.box 48 (Xr a0)]⟩:=by
   intro Qqy H
   by_cases c9:Qqy=true
   ·replace H:=iT c9 H
    rw [c9]
    refine Qh hT 5 (K64 1111010 1) ⟨143,[(2,.b false)],[.box 48 (Xr a0)]⟩ ?_
    obtain rfl:=Yi H
    exact Ym hf hX h0 (.b false) [] an (.d (.v _))
   replace H:=iF c9 H
   rw [Jk c9]
   refine Qh hT 2 (K64 1111 1) ⟨143,(Qq.p0),[.box 48 (Xr a0)]⟩ ?_
   refine Qh hT 7 (K64 111110 1) ⟨143,(Qq.p0++[(51,.b (a0.Kind == 4))]),[.box 48 (Xr a0)]⟩ ?_
   by_cases c10:a0.Kind=4
   ·replace H:=iT c10 H
    rw [eqT c10]
    refine Qh hT 5 (K64 111110100 2) ⟨143,(Qq.p0++[(53,.d (Yl true a0.Pairs))]),[.box 48 (Xr a0)]⟩ ?_
    obtain ⟨v1,h11,H⟩:=ibC H
    have Jj4:∀ (Qjz:Bool),(Qq.j4 Qjz)=some r->AK X 64 ((K64 11111010 1)) (Yq X [] (.b r)) ⟨143,[(2,.b Qjz)],[]⟩:=by
     intro Qjz H
     obtain rfl:=Yi H
     exact Ym hf hX h0 (.b Qjz) [] an (.d (.v _))
    refine Wx (Yh:=[.d (Yl true a0.Pairs),.i 1,.i 1]) (dst:=some 54) (k':=(K64 111110100 3)) [1,54] [] hP Qiv (Wy.Wv (t0:=true) a0.Pairs 1 1 h11) (by kernel_rfl) (Wh _) (.cons (Qp _) (.cons (Qp _) (.cons (Qp _) .nil))) (st':=⟨143,(Qq.p0++[(54,.b v1)]),[.box 48 (Xr a0)]⟩) (by kernel_rfl) ?_
    refine Qh hT 1 (K64 111110100 4) ⟨143,(Qq.p0++[(55,.b v1)]),[.box 48 (Xr a0)]⟩ ?_
    by_cases c12:v1=true
    ·replace H:=iT c12 H
     rw [c12]
     refine Qh hT 2 (K64 111110100 6) ⟨143,(Qq.p0++[(55,.b true),(57,.i a0.Old)]),[.box 48 (Xr a0)]⟩ ?_
     refine Wx (Yh:=[.i a0.Old]) (dst:=some 58) (k':=(K64 111110100 7)) [1,55,58] [] hP Qum (Qao.Wv a0.Old) (by kernel_rfl) (Wh _) (.cons (Qp _) .nil) (st':=⟨143,(Qq.p0++[(55,.b true),(58,.b (Qao a0.Old))]),[.box 48 (Xr a0)]⟩) (by kernel_rfl) ?_
     refine Qh hT 1 (K64 111110100 8) ⟨143,(Qq.p0++[(55,.b true),(59,.b (Qao a0.Old))]),[.box 48 (Xr a0)]⟩ ?_
     by_cases c13:(Qao a0.Old)=true
     ·replace H:=iT c13 H
      rw [c13]
      refine Xq hT 7 (K64 11111010 1) [] ⟨143,[(2,.b true)],[]⟩ h0 ?_
      exact Jj4 true H
     replace H:=iF c13 H
     rw [Jk c13]
     refine Xq hT 7 (K64 11111010 1) [] ⟨143,[(2,.b (a0.Old == 1099511627777))],[]⟩ h0 ?_
     exact Jj4 (a0.Old == 1099511627777) H
    replace H:=iF c12 H
    rw [Jk c12]
    refine Xq hT 11 (K64 11111010 1) [] ⟨143,[(2,.b false)],[]⟩ h0 ?_
    exact Jj4 false H
   replace H:=iF c10 H
   rw [eqF c10]
   refine Qh hT 2 (K64 11111 1) ⟨143,(Qq.p0),[.box 48 (Xr a0)]⟩ ?_
   refine Qh hT 7 (K64 1111110 1) ⟨143,(Qq.p0++[(67,.b (a0.Old != 0))]),[.box 48 (Xr a0)]⟩ ?_
   by_cases c14:a0.Old=0
   ·replace H:=iT c14 H
    rw [neF c14]
    refine Qh hT 2 (K64 111111 1) ⟨143,(Qq.p0),[.box 48 (Xr a0)]⟩ ?_
    refine Qh hT 7 (K64 11111110 1) ⟨143,(Qq.p0++[(70,.b (a0.Kind == 1))]),[.box 48 (Xr a0)]⟩ ?_
    by_cases c15:a0.Kind=1
    ·replace H:=iT c15 H
     rw [eqT c15]
     refine Qh hT 8 (K64 1111111010010 0) ⟨143,(Qq.p0++[(3,.i 1)]),[.box 48 (Xr a0)]⟩ ?_
     have L:∀ n,(∀ (Wi:Int),iter (Qq.step a0) n (.l1 Wi)=some r->AK X 64 ((K64 1111111010010 0)) (Yq X [] (.b r)) ⟨143,(Qq.p0++[(3,.i Wi)]),[.box 48 (Xr a0)]⟩):=by
      intro n
      induction n with
      | zero=>exact fun _ H=>Qay H
      | succ n ih=>
       ·intro Wi H
        refine Qh hT 9 (K64 111111101001000 1) ⟨143,(Qq.p0++[(3,.i Wi),(75,.b (decide (Wi < (a0.Pairs.length:Int))))]),[.box 48 (Xr a0)]⟩ ?_
        by_cases c16:Wi < (a0.Pairs.length:Int)
        ·replace H:=sT c16 H
         rw [decide_eq_true c16]
         refine Qh hT 2 (K64 11111110100100 1) ⟨143,(Qq.p0++[(3,.i Wi)]),[.box 48 (Xr a0)]⟩ ?_
         refine Qh hT 3 (K64 11111110100100100 0) ⟨143,(Qq.p0++[(3,.i Wi)]),[.box 48 (Xr a0)]⟩ ?_
         obtain ⟨h18,H⟩:=sC H
         obtain ⟨h19,H⟩:=sC H
         refine Qbp (hP▸mixed) 14 [1,3] (sm [.ptr 0 0 0 3,.d (Yl true a0.Pairs),.i Wi,.i (IntKind.wrap .i64 (Wi - 1)),.d (Qcn true a0.Pairs ((IntKind.wrap .i64 (Wi - 1)).toNat) 0),.d (Qcn true a0.Pairs ((IntKind.wrap .i64 (Wi - 1)).toNat) 0),.i ((a0.Pairs.getD ((IntKind.wrap .i64 (Wi - 1)).toNat) Qd.z).Key),.ptr 0 0 0 3,.d (Yl true a0.Pairs),.i Wi,.d (Qcn true a0.Pairs Wi.toNat 0),.d (Qcn true a0.Pairs Wi.toNat 0),.i ((a0.Pairs.getD Wi.toNat Qd.z).Key),.b (decide (((a0.Pairs.getD ((IntKind.wrap .i64 (Wi - 1)).toNat) Qd.z).Key)>=((a0.Pairs.getD Wi.toNat Qd.z).Key)))]) (Qj (Qj (Qj (opS (Qj (Qj (Qj (Qj (Qj (opS (Qj (Qj (Qj (Qj op0 hT) hT) hT) hT) (fun R rest h=>Xw hT (i:=IntKind.wrap .i64 (Wi - 1)) (n:=(a0.Pairs.length:Int)) h18.1 h18.2 (by kernel_rfl) h)) hT) hT) hT) hT) hT) (fun R rest h=>Xw hT (i:=Wi) (n:=(a0.Pairs.length:Int)) h19.1 h19.2 (by kernel_rfl) h)) hT) hT) hT) ?_
         refine Qh hT 1 (K64 11111110100100100 1) ⟨143,(Qq.p0++[(3,.i Wi),(91,.b (decide (((a0.Pairs.getD ((IntKind.wrap .i64 (Wi - 1)).toNat) Qd.z).Key)>=((a0.Pairs.getD Wi.toNat Qd.z).Key))))]),[.box 48 (Xr a0)]⟩ ?_
         by_cases c20:((a0.Pairs.getD ((IntKind.wrap .i64 (Wi - 1)).toNat) Qd.z).Key)>=((a0.Pairs.getD Wi.toNat Qd.z).Key)
         ·replace H:=sT c20 H
          rw [decide_eq_true c20]
          refine Qh hT 5 (K64 1111111010010010010 1) ⟨143,[(2,.b false)],[.box 48 (Xr a0)]⟩ ?_
          obtain rfl:=Yi H
          exact Ym hf hX h0 (.b false) [] an (.d (.v _))
         replace H:=sF c20 H
         rw [decide_eq_false c20]
         refine Qh hT 3 (K64 111111101001001 1) ⟨143,(Qq.p0++[(3,.i Wi)]),[.box 48 (Xr a0)]⟩ ?_
         refine Qh hT 6 (K64 1111111010010 0) ⟨143,(Qq.p0++[(3,.i (IntKind.wrap .i64 (Wi+1)))]),[.box 48 (Xr a0)]⟩ ?_
         exact ih (IntKind.wrap .i64 (Wi+1)) H
        replace H:=sF c16 H
        rw [decide_eq_false c16]
        refine Qh hT 6 (K64 111111101010 2) ⟨143,[(93,.d (Yl true a0.Pairs))],[.box 48 (Xr a0)]⟩ ?_
        obtain ⟨v2,h17,H⟩:=sbC H
        refine Wx (Yh:=[.d (Yl true a0.Pairs),.i 1,.i 8]) (dst:=some 94) (k':=(K64 111111101010 3)) [94] [] hP Qiv (Wy.Wv (t0:=true) a0.Pairs 1 8 h17) (by kernel_rfl) (Wh _) (.cons (Qp _) (.cons (Qp _) (.cons (Qp _) .nil))) (st':=⟨143,[(94,.b v2)],[.box 48 (Xr a0)]⟩) (by kernel_rfl) ?_
        refine Qh hT 2 (K64 11111110101 1) ⟨143,[(2,.b v2)],[.box 48 (Xr a0)]⟩ ?_
        obtain rfl:=Yi H
        exact Ym hf hX h0 (.b v2) [] an (.d (.v _))
     obtain ⟨n,H⟩:=Qbu H
     exact (L n) 1 H
    replace H:=iF c15 H
    rw [eqF c15]
    refine Qh hT 2 (K64 1111111 1) ⟨143,(Qq.p0),[.box 48 (Xr a0)]⟩ ?_
    refine Qh hT 7 (K64 111111110 1) ⟨143,(Qq.p0++[(97,.b (a0.Kind == 3))]),[.box 48 (Xr a0)]⟩ ?_
    by_cases c21:a0.Kind=3
    ·replace H:=iT c21 H
     rw [eqT c21]
     refine Qh hT 5 (K64 111111110100 2) ⟨143,[(99,.d (Yl true a0.Pairs))],[.box 48 (Xr a0)]⟩ ?_
     obtain ⟨v3,h22,H⟩:=ibC H
     refine Wx (Yh:=[.d (Yl true a0.Pairs),.i 1,.i 1]) (dst:=some 100) (k':=(K64 111111110100 3)) [100] [] hP Qiv (Wy.Wv (t0:=true) a0.Pairs 1 1 h22) (by kernel_rfl) (Wh _) (.cons (Qp _) (.cons (Qp _) (.cons (Qp _) .nil))) (st':=⟨143,[(100,.b v3)],[.box 48 (Xr a0)]⟩) (by kernel_rfl) ?_
     refine Qh hT 2 (K64 11111111010 1) ⟨143,[(2,.b v3)],[.box 48 (Xr a0)]⟩ ?_
     obtain rfl:=Yi H
     exact Ym hf hX h0 (.b v3) [] an (.d (.v _))
    replace H:=iF c21 H
    have Jj5:∀ (Qj2:Bool),(Qq.j5 Qj2)=some r->AK X 64 ((K64 111111111 1)) (Yq X [] (.b r)) ⟨143,[(2,.b Qj2)],[]⟩:=by
     intro Qj2 H
     obtain rfl:=Yi H
     exact Ym hf hX h0 (.b Qj2) [] an (.d (.v _))
    rw [eqF c21]
    refine Qh hT 2 (K64 11111111 1) ⟨143,(Qq.p0),[.box 48 (Xr a0)]⟩ ?_
    refine Qh hT 1 (K64 111111111 0) ⟨143,(Qq.p0),[.box 48 (Xr a0)]⟩ ?_
    by_cases c23:a0.Kind=5
    ·replace H:=iT c23 H
     obtain ⟨v4,h24,H⟩:=ibC H
     by_cases c25:v4=true
     ·replace H:=iT c25 H
      obtain ⟨h26,H⟩:=iC H
      obtain ⟨h27,H⟩:=iC H
      by_cases c28:((a0.Pairs.getD 0 Qd.z).Key)=((a0.Pairs.getD 1 Qd.z).Key)
      ·replace H:=iT c28 H
       refine Qbp (hP▸mixed) 32 [1] (sm [.ptr 0 0 0 2,.i a0.Kind,.b true,.b true,.ptr 0 0 0 3,.d (Yl true a0.Pairs),.b true,.b true,.b true,.ptr 0 0 0 3,.d (Yl true a0.Pairs),.d (Qcn true a0.Pairs 0 0),.d (Qcn true a0.Pairs 0 0),.i ((a0.Pairs.getD 0 Qd.z).Key),.ptr 0 0 0 3,.d (Yl true a0.Pairs),.d (Qcn true a0.Pairs 1 0),.d (Qcn true a0.Pairs 1 0),.i ((a0.Pairs.getD 1 Qd.z).Key),.b false,.b false,.b false,.Qo [],.Qo [],.Qo [],.Qo [],.Qo [],.Qo [],.Qo [],.Qo [],.Qo [],.Qo []]) (Qj (Qj (Qj (Qj (Qj (Qj (Qj (Qj (Qj (Qj (Qj (Qj (opV (Qj (Qj (opS (Qj (Qj (Qj (Qj (opS (Qj (Qj (Qj (Qj (opS (Qj (Qj (Qj (opV (Qj (Qj op0 hT) hT) hT 103 (.b (a0.Kind == 5)) (.b true) (by rw [eqT c23]<;>rfl)) hT) hT) hT) (fun R rest h=>Zw (Yh:=[.d (Yl true a0.Pairs),.i 2,.i 2]) (dst:=some 107) hP Qiv (by have q:=Wy.Wv (t0:=true) a0.Pairs 2 2 h24;rw [c25] at q;exact q) (by kernel_rfl) (.cons (Qp _) (.cons (Qp _) (.cons (Qp _) .nil))) (by kernel_rfl) h)) hT) hT) hT) hT) (fun R rest h=>Xw hT (i:=0) (n:=(a0.Pairs.length:Int)) h26.1 h26.2 (by kernel_rfl) h)) hT) hT) hT) hT) (fun R rest h=>Xw hT (i:=1) (n:=(a0.Pairs.length:Int)) h27.1 h27.2 (by kernel_rfl) h)) hT) hT) hT 120 (.b (((a0.Pairs.getD 0 Qd.z).Key) != ((a0.Pairs.getD 1 Qd.z).Key))) (.b false) (by rw [neF c28]<;>rfl)) hT) hT) hT) hT) hT) hT) hT) hT) hT) hT) hT) hT) ?_
       refine Xq hT 12 (K64 111111111 1) [] ⟨143,[(2,.b false)],[]⟩ h0 ?_
       exact Jj5 false H
      replace H:=iF c28 H
      refine Qbp (hP▸mixed) 32 [1] (sm [.ptr 0 0 0 2,.i a0.Kind,.b true,.b true,.ptr 0 0 0 3,.d (Yl true a0.Pairs),.b true,.b true,.b true,.ptr 0 0 0 3,.d (Yl true a0.Pairs),.d (Qcn true a0.Pairs 0 0),.d (Qcn true a0.Pairs 0 0),.i ((a0.Pairs.getD 0 Qd.z).Key),.ptr 0 0 0 3,.d (Yl true a0.Pairs),.d (Qcn true a0.Pairs 1 0),.d (Qcn true a0.Pairs 1 0),.i ((a0.Pairs.getD 1 Qd.z).Key),.b true,.b true,.b true,.ptr 0 0 0 3,.d (Yl true a0.Pairs),.d (Qcn true a0.Pairs 0 0),.d (Qcn true a0.Pairs 0 1),.i ((a0.Pairs.getD 0 Qd.z).Val),.ptr 0 0 0 3,.d (Yl true a0.Pairs),.d (Qcn true a0.Pairs 1 0),.d (Qcn true a0.Pairs 1 1),.i ((a0.Pairs.getD 1 Qd.z).Val)]) (Qj (Qj (opS (Qj (Qj (Qj (Qj (opS (Qj (Qj (Qj (Qj (opV (Qj (Qj (opS (Qj (Qj (Qj (Qj (opS (Qj (Qj (Qj (Qj (opS (Qj (Qj (Qj (opV (Qj (Qj op0 hT) hT) hT 103 (.b (a0.Kind == 5)) (.b true) (by rw [eqT c23]<;>rfl)) hT) hT) hT) (fun R rest h=>Zw (Yh:=[.d (Yl true a0.Pairs),.i 2,.i 2]) (dst:=some 107) hP Qiv (by have q:=Wy.Wv (t0:=true) a0.Pairs 2 2 h24;rw [c25] at q;exact q) (by kernel_rfl) (.cons (Qp _) (.cons (Qp _) (.cons (Qp _) .nil))) (by kernel_rfl) h)) hT) hT) hT) hT) (fun R rest h=>Xw hT (i:=0) (n:=(a0.Pairs.length:Int)) h26.1 h26.2 (by kernel_rfl) h)) hT) hT) hT) hT) (fun R rest h=>Xw hT (i:=1) (n:=(a0.Pairs.length:Int)) h27.1 h27.2 (by kernel_rfl) h)) hT) hT) hT 120 (.b (((a0.Pairs.getD 0 Qd.z).Key) != ((a0.Pairs.getD 1 Qd.z).Key))) (.b true) (by rw [neT c28]<;>rfl)) hT) hT) hT) hT) (fun R rest h=>Xw hT (i:=0) (n:=(a0.Pairs.length:Int)) h26.1 h26.2 (by kernel_rfl) h)) hT) hT) hT) hT) (fun R rest h=>Xw hT (i:=1) (n:=(a0.Pairs.length:Int)) h27.1 h27.2 (by kernel_rfl) h)) hT) hT) ?_
      refine Qh hT 3 (K64 1111111110 35) ⟨143,(Qq.p0++[(135,.b (((a0.Pairs.getD 0 Qd.z).Val) == ((a0.Pairs.getD 1 Qd.z).Val)))]),[.box 48 (Xr a0)]⟩ ?_
      by_cases c29:((a0.Pairs.getD 0 Qd.z).Val)=((a0.Pairs.getD 1 Qd.z).Val)
      ·replace H:=iT c29 H
       rw [eqT c29]
       refine Qh hT 2 (K64 1111111110 37) ⟨143,[(135,.b true),(137,.d (Yl true a0.Pairs))],[.box 48 (Xr a0)]⟩ ?_
       refine Zv hT [135,138] (i:=0) (n:=(a0.Pairs.length:Int)) h26.1 h26.2 (k':=(K64 1111111110 38)) (st':=⟨143,[(135,.b true),(138,.d (Qcn true a0.Pairs 0 0))],[.box 48 (Xr a0)]⟩) (by kernel_rfl) ?_
       refine Xq hT 6 (K64 111111111 1) [] ⟨143,[(2,.b (decide (((a0.Pairs.getD 0 Qd.z).Val)>=0)))],[]⟩ h0 ?_
       exact Jj5 (decide (((a0.Pairs.getD 0 Qd.z).Val)>=0)) H
      replace H:=iF c29 H
      rw [eqF c29]
      refine Xq hT 9 (K64 111111111 1) [] ⟨143,[(2,.b false)],[]⟩ h0 ?_
      exact Jj5 false H
     replace H:=iF c25 H
     refine Qbp (hP▸mixed) 32 [1] (sm [.ptr 0 0 0 2,.i a0.Kind,.b true,.b true,.ptr 0 0 0 3,.d (Yl true a0.Pairs),.b false,.b false,.b false,.Qo [],.Qo [],.Qo [],.Qo [],.Qo [],.Qo [],.Qo [],.Qo [],.Qo [],.Qo [],.Qo [],.b false,.b false,.Qo [],.Qo [],.Qo [],.Qo [],.Qo [],.Qo [],.Qo [],.Qo [],.Qo [],.Qo []]) (Qj (Qj (Qj (Qj (Qj (Qj (Qj (Qj (Qj (Qj (Qj (Qj (Qj (Qj (Qj (Qj (Qj (Qj (Qj (Qj (Qj (Qj (Qj (Qj (Qj (opS (Qj (Qj (Qj (opV (Qj (Qj op0 hT) hT) hT 103 (.b (a0.Kind == 5)) (.b true) (by rw [eqT c23]<;>rfl)) hT) hT) hT) (fun R rest h=>Zw (Yh:=[.d (Yl true a0.Pairs),.i 2,.i 2]) (dst:=some 107) hP Qiv (by have q:=Wy.Wv (t0:=true) a0.Pairs 2 2 h24;rw [Jk c25] at q;exact q) (by kernel_rfl) (.cons (Qp _) (.cons (Qp _) (.cons (Qp _) .nil))) (by kernel_rfl) h)) hT) hT) hT) hT) hT) hT) hT) hT) hT) hT) hT) hT) hT) hT) hT) hT) hT) hT) hT) hT) hT) hT) hT) hT) hT) ?_
     refine Xq hT 12 (K64 111111111 1) [] ⟨143,[(2,.b false)],[]⟩ h0 ?_
     exact Jj5 false H
    replace H:=iF c23 H
    refine Qbp (hP▸mixed) 32 [1] (sm [.ptr 0 0 0 2,.i a0.Kind,.b false,.b false,.Qo [],.Qo [],.Qo [],.b false,.b false,.Qo [],.Qo [],.Qo [],.Qo [],.Qo [],.Qo [],.Qo [],.Qo [],.Qo [],.Qo [],.Qo [],.b false,.b false,.Qo [],.Qo [],.Qo [],.Qo [],.Qo [],.Qo [],.Qo [],.Qo [],.Qo [],.Qo []]) (Qj (Qj (Qj (Qj (Qj (Qj (Qj (Qj (Qj (Qj (Qj (Qj (Qj (Qj (Qj (Qj (Qj (Qj (Qj (Qj (Qj (Qj (Qj (Qj (Qj (Qj (Qj (Qj (Qj (opV (Qj (Qj op0 hT) hT) hT 103 (.b (a0.Kind == 5)) (.b false) (by rw [eqF c23]<;>rfl)) hT) hT) hT) hT) hT) hT) hT) hT) hT) hT) hT) hT) hT) hT) hT) hT) hT) hT) hT) hT) hT) hT) hT) hT) hT) hT) hT) hT) hT) ?_
    refine Xq hT 12 (K64 111111111 1) [] ⟨143,[(2,.b false)],[]⟩ h0 ?_
    exact Jj5 false H
   replace H:=iF c14 H
   rw [neT c14]
   refine Qh hT 5 (K64 111111010 1) ⟨143,[(2,.b false)],[.box 48 (Xr a0)]⟩ ?_
   obtain rfl:=Yi H
   exact Ym hf hX h0 (.b false) [] an (.d (.v _))
  rw [eqF c5]
  refine Qh hT 2 (K64 111 1) ⟨143,(Qq.p0),[.box 48 (Xr a0)]⟩ ?_
  refine Qh hT 8 (K64 111100 5) ⟨143,(Qq.p0++[(43,.b (a0.Over.Lo != 0))]),[.box 48 (Xr a0)]⟩ ?_
  by_cases c8:a0.Over.Lo=0
  ·replace H:=iT c8 H
   rw [neF c8]
   refine Qh hT 6 (K64 11110 1) ⟨143,(Qq.p0++[(48,.b (a0.Over.Hi != 0))]),[.box 48 (Xr a0)]⟩ ?_
   exact Jj3 (a0.Over.Hi != 0) H
  replace H:=iF c8 H
  rw [neT c8]
  refine Qh hT 6 (K64 11110 1) ⟨143,(Qq.p0++[(48,.b true)]),[.box 48 (Xr a0)]⟩ ?_
  exact Jj3 true H
 refine Qh hT 12 (K64 1100 4) ⟨143,(Qq.p0++[(7,.b (decide (a0.Client < 1)))]),[.box 48 (Xr a0)]⟩ ?_
 by_cases c1:a0.Client < 1
 ·replace H:=iT c1 H
  rw [decide_eq_true c1]
  refine Qh hT 15 (K64 110 1) ⟨143,(Qq.p0++[(21,.b true)]),[.box 48 (Xr a0)]⟩ ?_
  exact Yv true H
 replace H:=iF c1 H
 rw [decide_eq_false c1]
 refine Qh hT 5 (K64 1100 9) ⟨143,(Qq.p0++[(12,.b (decide (a0.Client > 1048576)))]),[.box 48 (Xr a0)]⟩ ?_
 by_cases c2:a0.Client > 1048576
 ·replace H:=iT c2 H
  rw [decide_eq_true c2]
  refine Qh hT 10 (K64 110 1) ⟨143,(Qq.p0++[(21,.b true)]),[.box 48 (Xr a0)]⟩ ?_
  exact Yv true H
 replace H:=iF c2 H
 rw [decide_eq_false c2]
 refine Qh hT 5 (K64 1100 14) ⟨143,(Qq.p0++[(17,.b (decide (a0.Seq < 1)))]),[.box 48 (Xr a0)]⟩ ?_
 by_cases c3:a0.Seq < 1
 ·replace H:=iT c3 H
  rw [decide_eq_true c3]
  refine Qh hT 5 (K64 110 1) ⟨143,(Qq.p0++[(21,.b true)]),[.box 48 (Xr a0)]⟩ ?_
  exact Yv true H
 replace H:=iF c3 H
 rw [decide_eq_false c3]
 refine Qh hT 5 (K64 110 1) ⟨143,(Qq.p0++[(21,.b (decide (a0.Seq > 1073741824)))]),[.box 48 (Xr a0)]⟩ ?_
 exact Yv (decide (a0.Seq > 1073741824)) H
theorem Qa7.Wv (a0:Qg):Zd Tryz.prog 69 [] [.d (Qcv a0)] [] (.d (Qnj (Qa7 a0))):=by
 obtain ⟨r,H⟩:∃ r,Qa7 a0=r:=⟨_,rfl⟩
 rw [H]
 refine Ye Tryz.func69 rfl (nt:=12) rfl (lb rfl) fun X hP h0 hX=>?_
 have hT:Xo X.P T:=hP▸tok
 have hf:X.P.funcs[69]? = some Tryz.f69:=hP▸Tryz.func69
 refine Qh hT 18 (K69 11 1) ⟨12,[(2,.ptr 1 0 0 0)],[.box 56 (Qni a0),.box 158 [.i a0.Time,.i a0.M.Client,.i a0.M.Seq]]⟩ ?_
 obtain rfl:=H
 exact Qen hT hf hX (av:=.d (.agg [.i a0.Time,.i a0.M.Client,.i a0.M.Seq])) (by kernel_rfl) [] (Jq (by kernel_rfl)) (by decide) (by rw [h0];rfl) (by kernel_rfl) an (.d (.agg (Qbk.nl _)))
theorem Qc3.Wv (a0:Qbk) (a1:Qbk):Zd Tryz.prog 68 [] [.d (Qnj a0),.d (Qnj a1)] [] (.b (Qc3 a0 a1)):=by
 obtain ⟨r,H⟩:∃ r,Qc3 a0 a1=r:=⟨_,rfl⟩
 rw [H]
 refine Ye Tryz.func68 rfl (nt:=30) rfl (lb rfl) fun X hP h0 hX=>?_
 have hT:Xo X.P T:=hP▸tok
 have hf:X.P.funcs[68]? = some Tryz.f68:=hP▸Tryz.func68
 refine Qh hT 15 (K68 110 1) ⟨30,[(2,.ptr 0 0 0 0),(3,.ptr 1 0 0 0),(9,.b (a0.Time != a1.Time))],[.box 158 (Qhn a0),.box 158 (Qhn a1)]⟩ ?_
 by_cases c1:a0.Time=a1.Time
 ·replace H:=iT c1 H
  rw [neF c1]
  refine Qh hT 2 (K68 11 1) ⟨30,[(2,.ptr 0 0 0 0),(3,.ptr 1 0 0 0)],[.box 158 (Qhn a0),.box 158 (Qhn a1)]⟩ ?_
  refine Qh hT 9 (K68 1110 1) ⟨30,[(2,.ptr 0 0 0 0),(3,.ptr 1 0 0 0),(19,.b (a0.Client != a1.Client))],[.box 158 (Qhn a0),.box 158 (Qhn a1)]⟩ ?_
  by_cases c2:a0.Client=a1.Client
  ·replace H:=iT c2 H
   rw [neF c2]
   refine Qh hT 2 (K68 111 1) ⟨30,[(2,.ptr 0 0 0 0),(3,.ptr 1 0 0 0)],[.box 158 (Qhn a0),.box 158 (Qhn a1)]⟩ ?_
   refine Qh hT 9 (K68 1111 1) ⟨30,[(4,.b (decide (a0.Seq < a1.Seq)))],[.box 158 (Qhn a0),.box 158 (Qhn a1)]⟩ ?_
   obtain rfl:=H
   exact Ym hf hX h0 (.b (decide (a0.Seq < a1.Seq))) [] an (.d (.v _))
  replace H:=iF c2 H
  rw [neT c2]
  refine Qh hT 10 (K68 111010 1) ⟨30,[(4,.b (decide (a0.Client < a1.Client)))],[.box 158 (Qhn a0),.box 158 (Qhn a1)]⟩ ?_
  obtain rfl:=H
  exact Ym hf hX h0 (.b (decide (a0.Client < a1.Client))) [] an (.d (.v _))
 replace H:=iF c1 H
 rw [neT c1]
 refine Qh hT 10 (K68 11010 1) ⟨30,[(4,.b (decide (a0.Time < a1.Time)))],[.box 158 (Qhn a0),.box 158 (Qhn a1)]⟩ ?_
 obtain rfl:=H
 exact Ym hf hX h0 (.b (decide (a0.Time < a1.Time))) [] an (.d (.v _))
abbrev Yn.q1 (a0:List Qg) (Wi:Int):=(Qc3 (Qa7 (a0.getD ((IntKind.wrap .i64 (Wi - 1)).toNat) Qg.z)) (Qa7 (a0.getD Wi.toNat Qg.z)))
theorem Yn.Wv {t0:Bool} (a0:List Qg) {r:Bool} (H:Yn a0=some r):Zd Tryz.prog 40 [] [.d (Yw t0 a0)] [] (.b r):=by
 refine Ye Tryz.func40 rfl (nt:=36) rfl (lb rfl) fun X hP h0 hX=>?_
 have hT:Xo X.P T:=hP▸tok
 have hf:X.P.funcs[40]? = some Tryz.f40:=hP▸Tryz.func40
 refine Qh hT 11 (K40 11010 0) ⟨36,[(0,.d (Yw t0 a0)),(3,.i 0)],[]⟩ ?_
 have L:∀ n,(∀ (Wi:Int),iter (Yn.step a0) n (.l1 Wi)=some r->AK X 40 ((K40 11010 0)) (Yq X [] (.b r)) ⟨36,[(0,.d (Yw t0 a0)),(3,.i Wi)],[]⟩):=by
  intro n
  induction n with
  | zero=>exact fun _ H=>Qay H
  | succ n ih=>
   ·intro Wi H
    refine Qh hT 8 (K40 1101000 1) ⟨36,[(0,.d (Yw t0 a0)),(3,.i Wi),(7,.b (decide (Wi < (a0.length:Int))))],[]⟩ ?_
    by_cases c1:Wi < (a0.length:Int)
    ·replace H:=sT c1 H
     rw [decide_eq_true c1]
     refine Qh hT 2 (K40 110100 1) ⟨36,[(0,.d (Yw t0 a0)),(3,.i Wi)],[]⟩ ?_
     refine Qh hT 3 (K40 110100100 0) ⟨36,[(0,.d (Yw t0 a0)),(3,.i Wi)],[]⟩ ?_
     obtain ⟨h2,H⟩:=sC H
     obtain ⟨v1,h3,H⟩:=sbC H
     have Yv:∀ (Qqi:Bool),stk (Yn.j1 Wi Qqi) (iter (Yn.step a0) n)=some r->AK X 40 ((K40 110100100 1)) (Yq X [] (.b r)) ⟨36,[(0,.d (Yw t0 a0)),(3,.i Wi),(35,.b Qqi)],[]⟩:=by
      intro Qqi H
      by_cases c7:Qqi=true
      ·replace H:=sT c7 H
       rw [c7]
       refine Qh hT 5 (K40 11010010010 1) ⟨36,[(2,.b false)],[]⟩ ?_
       obtain rfl:=Yi H
       exact Ym hf hX h0 (.b false) [] an (.d (.v _))
      replace H:=sF c7 H
      rw [Jk c7]
      refine Qh hT 3 (K40 1101001 1) ⟨36,[(0,.d (Yw t0 a0)),(3,.i Wi)],[]⟩ ?_
      refine Qh hT 6 (K40 11010 0) ⟨36,[(0,.d (Yw t0 a0)),(3,.i (IntKind.wrap .i64 (Wi+1)))],[]⟩ ?_
      exact ih (IntKind.wrap .i64 (Wi+1)) H
     by_cases c4:v1=true
     ·replace H:=sT c4 H
      by_cases c5:Wi > 0
      ·replace H:=sT c5 H
       obtain ⟨h6,H⟩:=sC H
       refine Qbp (hP▸mixed) 26 [0,3] (sm [.d (Yw t0 a0),.i Wi,.d (Qdc t0 a0 Wi.toNat 0),.d (Qdc t0 a0 Wi.toNat 0),.d (Qc4 ((a0.getD Wi.toNat Qg.z).M)),.b true,.b false,.b false,.i Wi,.b true,.b true,.d (Yw t0 a0),.i Wi,.i (IntKind.wrap .i64 (Wi - 1)),.d (Qdc t0 a0 ((IntKind.wrap .i64 (Wi - 1)).toNat) 0),.d (Qcv (a0.getD ((IntKind.wrap .i64 (Wi - 1)).toNat) Qg.z)),.d (Qnj (Qa7 (a0.getD ((IntKind.wrap .i64 (Wi - 1)).toNat) Qg.z))),.d (Yw t0 a0),.i Wi,.d (Qdc t0 a0 Wi.toNat 0),.d (Qcv (a0.getD Wi.toNat Qg.z)),.d (Qnj (Qa7 (a0.getD Wi.toNat Qg.z))),.b (Yn.q1 a0 Wi),.b (!(Yn.q1 a0 Wi)),.b (!(Yn.q1 a0 Wi)),.b (!(Yn.q1 a0 Wi))]) (Qj (Qj (Qj (opS (opS (Qj (opS (Qj (Qj (opS (Qj (opS (Qj (Qj (Qj (Qj (opV (Qj (Qj (Qj (opS (Qj (Qj (opS (Qj (Qj op0 hT) hT) (fun R rest h=>Xw hT (i:=Wi) (n:=(a0.length:Int)) h2.1 h2.2 (by kernel_rfl) h)) hT) hT) (fun R rest h=>Zw (Yh:=[.d (Qc4 ((a0.getD Wi.toNat Qg.z).M))]) (dst:=some 15) hP Qit (by have q:=Qq.Wv ((a0.getD Wi.toNat Qg.z).M) h3;rw [c4] at q;exact q) (by kernel_rfl) (.cons (Qp _) .nil) (by kernel_rfl) h)) hT) hT) hT) hT 19 (.b (decide (Wi > 0))) (.b true) (by rw [decide_eq_true c5]<;>rfl)) hT) hT) hT) hT) (fun R rest h=>Xw hT (i:=IntKind.wrap .i64 (Wi - 1)) (n:=(a0.length:Int)) h6.1 h6.2 (by kernel_rfl) h)) hT) (fun R rest h=>Zw (Yh:=[.d (Qcv (a0.getD ((IntKind.wrap .i64 (Wi - 1)).toNat) Qg.z))]) (dst:=some 26) hP Qug (Qa7.Wv (a0.getD ((IntKind.wrap .i64 (Wi - 1)).toNat) Qg.z)) (by kernel_rfl) (.cons (Qp _) .nil) (by kernel_rfl) h)) hT) hT) (fun R rest h=>Xw hT (i:=Wi) (n:=(a0.length:Int)) h2.1 h2.2 (by kernel_rfl) h)) hT) (fun R rest h=>Zw (Yh:=[.d (Qcv (a0.getD Wi.toNat Qg.z))]) (dst:=some 31) hP Qug (Qa7.Wv (a0.getD Wi.toNat Qg.z)) (by kernel_rfl) (.cons (Qp _) .nil) (by kernel_rfl) h)) (fun R rest h=>Zw (Yh:=[.d (Qnj (Qa7 (a0.getD ((IntKind.wrap .i64 (Wi - 1)).toNat) Qg.z))),.d (Qnj (Qa7 (a0.getD Wi.toNat Qg.z)))]) (dst:=some 32) hP Wcl (Qc3.Wv (Qa7 (a0.getD ((IntKind.wrap .i64 (Wi - 1)).toNat) Qg.z)) (Qa7 (a0.getD Wi.toNat Qg.z))) (by kernel_rfl) (.cons (Qp _) (.cons (Qp _) .nil)) (by kernel_rfl) h)) hT) hT) hT) ?_
       refine Qh hT 1 (K40 110100100 1) ⟨36,[(0,.d (Yw t0 a0)),(3,.i Wi),(35,.b (!(Yn.q1 a0 Wi)))],[]⟩ ?_
       exact Yv (!(Yn.q1 a0 Wi)) H
      replace H:=sF c5 H
      refine Qbp (hP▸mixed) 26 [0,3] (sm [.d (Yw t0 a0),.i Wi,.d (Qdc t0 a0 Wi.toNat 0),.d (Qdc t0 a0 Wi.toNat 0),.d (Qc4 ((a0.getD Wi.toNat Qg.z).M)),.b true,.b false,.b false,.i Wi,.b false,.b false,.Qo [],.Qo [],.Qo [],.Qo [],.Qo [],.Qo [],.Qo [],.Qo [],.Qo [],.Qo [],.Qo [],.Qo [],.Qo [],.b false,.b false]) (Qj (Qj (Qj (Qj (Qj (Qj (Qj (Qj (Qj (Qj (Qj (Qj (Qj (Qj (Qj (Qj (opV (Qj (Qj (Qj (opS (Qj (Qj (opS (Qj (Qj op0 hT) hT) (fun R rest h=>Xw hT (i:=Wi) (n:=(a0.length:Int)) h2.1 h2.2 (by kernel_rfl) h)) hT) hT) (fun R rest h=>Zw (Yh:=[.d (Qc4 ((a0.getD Wi.toNat Qg.z).M))]) (dst:=some 15) hP Qit (by have q:=Qq.Wv ((a0.getD Wi.toNat Qg.z).M) h3;rw [c4] at q;exact q) (by kernel_rfl) (.cons (Qp _) .nil) (by kernel_rfl) h)) hT) hT) hT) hT 19 (.b (decide (Wi > 0))) (.b false) (by rw [decide_eq_false c5]<;>rfl)) hT) hT) hT) hT) hT) hT) hT) hT) hT) hT) hT) hT) hT) hT) hT) hT) ?_
      refine Qh hT 1 (K40 110100100 1) ⟨36,[(0,.d (Yw t0 a0)),(3,.i Wi),(35,.b false)],[]⟩ ?_
      exact Yv false H
     replace H:=sF c4 H
     refine Qbp (hP▸mixed) 26 [0,3] (sm [.d (Yw t0 a0),.i Wi,.d (Qdc t0 a0 Wi.toNat 0),.d (Qdc t0 a0 Wi.toNat 0),.d (Qc4 ((a0.getD Wi.toNat Qg.z).M)),.b false,.b true,.b true,.Qo [],.Qo [],.Qo [],.Qo [],.Qo [],.Qo [],.Qo [],.Qo [],.Qo [],.Qo [],.Qo [],.Qo [],.Qo [],.Qo [],.Qo [],.Qo [],.Qo [],.b true]) (Qj (Qj (Qj (Qj (Qj (Qj (Qj (Qj (Qj (Qj (Qj (Qj (Qj (Qj (Qj (Qj (Qj (Qj (Qj (Qj (opS (Qj (Qj (opS (Qj (Qj op0 hT) hT) (fun R rest h=>Xw hT (i:=Wi) (n:=(a0.length:Int)) h2.1 h2.2 (by kernel_rfl) h)) hT) hT) (fun R rest h=>Zw (Yh:=[.d (Qc4 ((a0.getD Wi.toNat Qg.z).M))]) (dst:=some 15) hP Qit (by have q:=Qq.Wv ((a0.getD Wi.toNat Qg.z).M) h3;rw [Jk c4] at q;exact q) (by kernel_rfl) (.cons (Qp _) .nil) (by kernel_rfl) h)) hT) hT) hT) hT) hT) hT) hT) hT) hT) hT) hT) hT) hT) hT) hT) hT) hT) hT) hT) hT) ?_
     refine Qh hT 1 (K40 110100100 1) ⟨36,[(0,.d (Yw t0 a0)),(3,.i Wi),(35,.b true)],[]⟩ ?_
     exact Yv true H
    replace H:=sF c1 H
    rw [decide_eq_false c1]
    refine Qh hT 6 (K40 111 1) ⟨36,[(2,.b true)],[]⟩ ?_
    obtain rfl:=Yi H
    exact Ym hf hX h0 (.b true) [] an (.d (.v _))
 obtain ⟨n,H⟩:=Qbu H
 exact (L n) 0 H
abbrev Xu.p0 (a1:Int):List (Nat × AV):=[(1,.i a1),(2,.ptr 0 0 0 0)]
theorem Xu.Wv (a0:Xd) (a1:Int) {r:Bool} (H:Xu a0 a1=some r):Zd Tryz.prog 10 [] [.d (Qc4 a0),.i a1] [] (.b r):=by
 refine Ye Tryz.func10 rfl (nt:=36) rfl (lb rfl) fun X hP h0 hX=>?_
 have hT:Xo X.P T:=hP▸tok
 have hf:X.P.funcs[10]? = some Tryz.f10:=hP▸Tryz.func10
 refine Qh hT 12 (K10 110 1) ⟨36,(Xu.p0 a1++[(8,.b (a0.Kind == 2))]),[.box 48 (Xr a0)]⟩ ?_
 by_cases c1:a0.Kind=2
 ·replace H:=iT c1 H
  have Yv:∀ (Qdj:Bool),(Xu.j1 Qdj)=some r->AK X 10 ((K10 11010 1)) (Yq X [] (.b r)) ⟨36,[(4,.b Qdj)],[]⟩:=by
   intro Qdj H
   obtain rfl:=Yi H
   exact Ym hf hX h0 (.b Qdj) [] an (.d (.v _))
  rw [eqT c1]
  refine Qh hT 9 (K10 110100 6) ⟨36,(Xu.p0 a1++[(14,.b (decide (a1>=a0.Over.Lo)))]),[.box 48 (Xr a0)]⟩ ?_
  by_cases c2:a1>=a0.Over.Lo
  ·replace H:=iT c2 H
   rw [decide_eq_true c2]
   refine Xq hT 8 (K10 11010 1) [] ⟨36,[(4,.b (decide (a1 < a0.Over.Hi)))],[]⟩ h0 ?_
   exact Yv (decide (a1 < a0.Over.Hi)) H
  replace H:=iF c2 H
  rw [decide_eq_false c2]
  refine Xq hT 8 (K10 11010 1) [] ⟨36,[(4,.b false)],[]⟩ h0 ?_
  exact Yv false H
 replace H:=iF c1 H
 rw [eqF c1]
 refine Qh hT 2 (K10 11 1) ⟨36,(Xu.p0 a1),[.box 48 (Xr a0)]⟩ ?_
 refine Qh hT 7 (K10 111010 0) ⟨36,(Xu.p0 a1++[(5,.i 0)]),[.box 48 (Xr a0)]⟩ ?_
 have L:∀ n,(∀ (Wz:Int),iter (Xu.step a0 a1) n (.l1 Wz)=some r->AK X 10 ((K10 111010 0)) (Yq X [] (.b r)) ⟨36,(Xu.p0 a1++[(5,.i Wz)]),[.box 48 (Xr a0)]⟩):=by
  intro n
  induction n with
  | zero=>exact fun _ H=>Qay H
  | succ n ih=>
   ·intro Wz H
    refine Qh hT 9 (K10 11101000 1) ⟨36,(Xu.p0 a1++[(5,.i Wz),(25,.b (decide (Wz < (a0.Pairs.length:Int))))]),[.box 48 (Xr a0)]⟩ ?_
    by_cases c3:Wz < (a0.Pairs.length:Int)
    ·replace H:=sT c3 H
     rw [decide_eq_true c3]
     refine Qh hT 2 (K10 1110100 1) ⟨36,(Xu.p0 a1++[(5,.i Wz)]),[.box 48 (Xr a0)]⟩ ?_
     refine Qh hT 7 (K10 11101001000 3) ⟨36,(Xu.p0 a1++[(5,.i Wz),(29,.d (Yl true a0.Pairs)),(30,.i Wz)]),[.box 48 (Xr a0)]⟩ ?_
     obtain ⟨h4,H⟩:=sC H
     refine Zv hT [1,2,5,31] (i:=Wz) (n:=(a0.Pairs.length:Int)) h4.1 h4.2 (k':=(K10 11101001000 4)) (st':=⟨36,(Xu.p0 a1++[(5,.i Wz),(31,.d (Qcn true a0.Pairs Wz.toNat 0))]),[.box 48 (Xr a0)]⟩) (by kernel_rfl) ?_
     refine Qh hT 5 (K10 1110100100 1) ⟨36,(Xu.p0 a1++[(5,.i Wz),(35,.b (((a0.Pairs.getD Wz.toNat Qd.z).Key) == a1))]),[.box 48 (Xr a0)]⟩ ?_
     by_cases c5:((a0.Pairs.getD Wz.toNat Qd.z).Key)=a1
     ·replace H:=sT c5 H
      rw [eqT c5]
      refine Qh hT 5 (K10 111010010010 1) ⟨36,[(4,.b true)],[.box 48 (Xr a0)]⟩ ?_
      obtain rfl:=Yi H
      exact Ym hf hX h0 (.b true) [] an (.d (.v _))
     replace H:=sF c5 H
     rw [eqF c5]
     refine Qh hT 3 (K10 11101001 1) ⟨36,(Xu.p0 a1++[(5,.i Wz)]),[.box 48 (Xr a0)]⟩ ?_
     refine Qh hT 6 (K10 111010 0) ⟨36,(Xu.p0 a1++[(5,.i (IntKind.wrap .i64 (Wz+1)))]),[.box 48 (Xr a0)]⟩ ?_
     exact ih (IntKind.wrap .i64 (Wz+1)) H
    replace H:=sF c3 H
    rw [decide_eq_false c3]
    refine Qh hT 6 (K10 1111 1) ⟨36,[(4,.b false)],[.box 48 (Xr a0)]⟩ ?_
    obtain rfl:=Yi H
    exact Ym hf hX h0 (.b false) [] an (.d (.v _))
 obtain ⟨n,H⟩:=Qbu H
 exact (L n) 0 H
theorem Qc7.Wv (a0:Int):Zd Tryz.prog 70 [] [.i a0] [] (.i (Qc7 a0)):=by
 obtain ⟨r,H⟩:∃ r,Qc7 a0=r:=⟨_,rfl⟩
 rw [H]
 refine Ye Tryz.func70 rfl (nt:=8) rfl (lb rfl) fun X hP h0 hX=>?_
 have hT:Xo X.P T:=hP▸tok
 have hf:X.P.funcs[70]? = some Tryz.f70:=hP▸Tryz.func70
 refine Qh hT 10 (K70 110 1) ⟨8,[(0,.i a0),(4,.b (decide (a0 > 1099511627776)))],[]⟩ ?_
 by_cases c1:a0 > 1099511627776
 ·replace H:=iT c1 H
  rw [decide_eq_true c1]
  refine Qh hT 5 (K70 11010 1) ⟨8,[(2,.i 1099511627776)],[]⟩ ?_
  obtain rfl:=H
  exact Ym hf hX h0 (.i 1099511627776) [] an (.d (.v _))
 replace H:=iF c1 H
 rw [decide_eq_false c1]
 refine Qh hT 2 (K70 11 1) ⟨8,[(0,.i a0)],[]⟩ ?_
 refine Qh hT 6 (K70 1110 1) ⟨8,[(0,.i a0),(6,.b (decide (a0 < (-1099511627776))))],[]⟩ ?_
 by_cases c2:a0 < (-1099511627776)
 ·replace H:=iT c2 H
  rw [decide_eq_true c2]
  refine Qh hT 5 (K70 111010 1) ⟨8,[(2,.i (-1099511627776))],[]⟩ ?_
  obtain rfl:=H
  exact Ym hf hX h0 (.i (-1099511627776)) [] an (.d (.v _))
 replace H:=iF c2 H
 rw [decide_eq_false c2]
 refine Qh hT 2 (K70 111 1) ⟨8,[(0,.i a0)],[]⟩ ?_
 refine Qh hT 5 (K70 1111 1) ⟨8,[(2,.i a0)],[]⟩ ?_
 obtain rfl:=H
 exact Ym hf hX h0 (.i a0) [] an (.d (.v _))
abbrev Qv.q1 (a0:Xb) (a1:Xd):List Row:=[.box 50 (Qef a0),.box 48 (Xr a1),.box 50 [.i 0,.b false]]
abbrev Qv.s1 (a2:Int) (a0:Xb) (a1:Xd):St:=⟨116,[(2,.i a2),(3,.ptr 0 0 0 0),(4,.ptr 1 0 0 0),(6,.ptr 2 0 0 0)],(Qv.q1 a0 a1)⟩
abbrev Qv.p0 (a2:Int):List (Nat × AV):=[(2,.i a2),(3,.ptr 0 0 0 0),(4,.ptr 1 0 0 0),(6,.ptr 2 0 0 0)]
theorem Qv.Wv (a0:Xb) (a1:Xd) (a2:Int) {r:Xb × Bool} (H:Qv a0 a1 a2=some r):Zd Tryz.prog 41 [] [.d (Qe1 a0),.d (Qc4 a1),.i a2] [] (.Qo [.d (Qe1 r.1),.b r.2]):=by
 refine Ye Tryz.func41 rfl (nt:=116) rfl (lb rfl) fun X hP h0 hX=>?_
 have hT:Xo X.P T:=hP▸tok
 have hf:X.P.funcs[41]? = some Tryz.f41:=hP▸Tryz.func41
 refine Qh hT 14 (K41 110 1) ⟨116,(Qv.p0 a2++[(12,.b (a1.Kind == 2))]),(Qv.q1 a0 a1)⟩ ?_
 by_cases c1:a1.Kind=2
 ·replace H:=iT c1 H
  rw [eqT c1]
  refine Qh hT 7 (K41 11010 1) ⟨116,[(6,.ptr 2 0 0 0),(7,.b true)],(Qv.q1 a0 a1)⟩ ?_
  obtain rfl:=Yi H
  exact Qen hT hf hX (av:=.Qo [.d (.agg [.i 0,.b false]),.b true]) (by kernel_rfl) [] (Jq (by kernel_rfl)) (by decide) (by rw [h0];rfl) (by kernel_rfl) an (.Qo (.cons (.d (.agg (Xb.nl _))) (.cons (.d (.v _)) .nil)))
 replace H:=iF c1 H
 rw [eqF c1]
 refine Qh hT 2 (K41 11 1) (Qv.s1 a2 a0 a1) ?_
 refine Qh hT 7 (K41 1110 1) ⟨116,(Qv.p0 a2++[(16,.b (a1.Kind == 3))]),(Qv.q1 a0 a1)⟩ ?_
 by_cases c2:a1.Kind=3
 ·replace H:=iT c2 H
  rw [eqT c2]
  refine Qh hT 2 (K41 111010 0) ⟨116,[(3,.ptr 0 0 0 0),(4,.ptr 1 0 0 0),(6,.ptr 2 0 0 0)],(Qv.q1 a0 a1)⟩ ?_
  obtain ⟨h3,H⟩:=iC H
  refine Qbp (hP▸mixed) 7 [3,4,6] (sm [.ptr 0 0 0 0,.i a0.Val,.ptr 1 0 0 3,.d (Yl true a1.Pairs),.d (Qcn true a1.Pairs 0 0),.d (Qcn true a1.Pairs 0 1),.i ((a1.Pairs.getD 0 Qd.z).Val)]) (Qj (Qj (opS (Qj (Qj (Qj (Qj op0 hT) hT) hT) hT) (fun R rest h=>Xw hT (i:=0) (n:=(a1.Pairs.length:Int)) h3.1 h3.2 (by kernel_rfl) h)) hT) hT) ?_
  refine Qh hT 2 (K41 1110100 9) ⟨116,[(3,.ptr 0 0 0 0),(6,.ptr 2 0 0 0),(8,.i (IntKind.wrap .i64 (a0.Val+((a1.Pairs.getD 0 Qd.z).Val))))],(Qv.q1 a0 a1)⟩ ?_
  obtain ⟨v1,h4,H⟩:=idC H
  have Yv:∀ (Qqe:Bool),(Qv.j1 a0 v1 Qqe)=some r->AK X 41 ((K41 11101010 1)) (Yq X [] (.Qo [.d (Qe1 r.1),.b r.2])) ⟨116,[(3,.ptr 0 0 0 0),(6,.ptr 1 0 0 0),(8,.i v1),(30,.b Qqe)],[.box 50 (Qef a0),.box 50 [.i 0,.b false]]⟩:=by
   intro Qqe H
   by_cases c6:Qqe=true
   ·replace H:=iT c6 H
    rw [c6]
    refine Qh hT 7 (K41 1110101010 1) ⟨116,[(6,.ptr 1 0 0 0),(7,.b false)],[.box 50 (Qef a0),.box 50 (Qef a0)]⟩ ?_
    obtain rfl:=Yi H
    exact Qen hT hf hX (av:=.Qo [.d (Qe1 a0),.b false]) (by kernel_rfl) [] (Jq (by kernel_rfl)) (by decide) (by rw [h0];rfl) (by kernel_rfl) an (.Qo (.cons (.d (.agg (Xb.nl _))) (.cons (.d (.v _)) .nil)))
   replace H:=iF c6 H
   rw [Jk c6]
   refine Qh hT 2 (K41 1110101 1) ⟨116,[(6,.ptr 1 0 0 0),(8,.i v1)],[.box 50 (Qef a0),.box 50 [.i 0,.b false]]⟩ ?_
   refine Qh hT 7 (K41 11101011 1) ⟨116,[(6,.ptr 1 0 0 0),(7,.b true)],[.box 50 (Qef a0),.box 50 [.i v1,.b true]]⟩ ?_
   obtain rfl:=Yi H
   exact Qen hT hf hX (av:=.Qo [.d (.agg [.i v1,.b true]),.b true]) (by kernel_rfl) [] (Jq (by kernel_rfl)) (by decide) (by rw [h0];rfl) (by kernel_rfl) an (.Qo (.cons (.d (.agg (Xb.nl _))) (.cons (.d (.v _)) .nil)))
  rw [<- h4]
  refine Qh hT 7 (K41 111010100 3) ⟨116,[(3,.ptr 0 0 0 0),(6,.ptr 2 0 0 0),(8,.i v1),(27,.b (decide (v1 < 0)))],(Qv.q1 a0 a1)⟩ ?_
  by_cases c5:v1 < 0
  ·replace H:=iT c5 H
   rw [decide_eq_true c5]
   refine Xq hT 4 (K41 11101010 1) [0,2] ⟨116,[(3,.ptr 0 0 0 0),(6,.ptr 1 0 0 0),(8,.i v1),(30,.b true)],[.box 50 (Qef a0),.box 50 [.i 0,.b false]]⟩ h0 ?_
   exact Yv true H
  replace H:=iF c5 H
  rw [decide_eq_false c5]
  refine Xq hT 4 (K41 11101010 1) [0,2] ⟨116,[(3,.ptr 0 0 0 0),(6,.ptr 1 0 0 0),(8,.i v1),(30,.b (decide (v1 > 1099511627776)))],[.box 50 (Qef a0),.box 50 [.i 0,.b false]]⟩ h0 ?_
  exact Yv (decide (v1 > 1099511627776)) H
 replace H:=iF c2 H
 rw [eqF c2]
 refine Qh hT 2 (K41 111 1) (Qv.s1 a2 a0 a1) ?_
 refine Qh hT 7 (K41 11110 1) ⟨116,(Qv.p0 a2++[(36,.b (a1.Kind == 4))]),(Qv.q1 a0 a1)⟩ ?_
 by_cases c7:a1.Kind=4
 ·replace H:=iT c7 H
  have Jj2:∀ (Qfy:Bool),(Qv.j2 a0 a1 Qfy)=some r->AK X 41 ((K41 11110100 1)) (Yq X [] (.Qo [.d (Qe1 r.1),.b r.2])) ⟨116,[(3,.ptr 0 0 0 0),(4,.ptr 1 0 0 0),(6,.ptr 2 0 0 0),(55,.b Qfy)],(Qv.q1 a0 a1)⟩:=by
   intro Qfy H
   by_cases c10:Qfy=true
   ·replace H:=iT c10 H
    rw [c10]
    refine Qh hT 7 (K41 1111010010 1) ⟨116,[(6,.ptr 2 0 0 0),(7,.b false)],[.box 50 (Qef a0),.box 48 (Xr a1),.box 50 (Qef a0)]⟩ ?_
    obtain rfl:=Yi H
    exact Qen hT hf hX (av:=.Qo [.d (Qe1 a0),.b false]) (by kernel_rfl) [] (Jq (by kernel_rfl)) (by decide) (by rw [h0];rfl) (by kernel_rfl) an (.Qo (.cons (.d (.agg (Xb.nl _))) (.cons (.d (.v _)) .nil)))
   replace H:=iF c10 H
   rw [Jk c10]
   refine Qh hT 2 (K41 1111010 1) ⟨116,[(4,.ptr 1 0 0 0),(6,.ptr 2 0 0 0)],(Qv.q1 a0 a1)⟩ ?_
   refine Qh hT 4 (K41 111101010 2) ⟨116,[(6,.ptr 2 0 0 0),(58,.d (Yl true a1.Pairs))],(Qv.q1 a0 a1)⟩ ?_
   obtain ⟨h11,H⟩:=iC H
   refine Zv hT [6,59] (i:=0) (n:=(a1.Pairs.length:Int)) h11.1 h11.2 (k':=(K41 111101010 3)) (st':=⟨116,[(6,.ptr 2 0 0 0),(59,.d (Qcn true a1.Pairs 0 0))],(Qv.q1 a0 a1)⟩) (by kernel_rfl) ?_
   refine Qh hT 6 (K41 11110101 1) ⟨116,[(6,.ptr 2 0 0 0),(7,.b true)],[.box 50 (Qef a0),.box 48 (Xr a1),.box 50 [.i ((a1.Pairs.getD 0 Qd.z).Val),.b true]]⟩ ?_
   obtain rfl:=Yi H
   exact Qen hT hf hX (av:=.Qo [.d (.agg [.i ((a1.Pairs.getD 0 Qd.z).Val),.b true]),.b true]) (by kernel_rfl) [] (Jq (by kernel_rfl)) (by decide) (by rw [h0];rfl) (by kernel_rfl) an (.Qo (.cons (.d (.agg (Xb.nl _))) (.cons (.d (.v _)) .nil)))
  rw [eqT c7]
  refine Qh hT 7 (K41 111101000 3) ⟨116,[(3,.ptr 0 0 0 0),(4,.ptr 1 0 0 0),(6,.ptr 2 0 0 0),(39,.b a0.Some)],(Qv.q1 a0 a1)⟩ ?_
  by_cases c8:a0.Some=true
  ·replace H:=iT c8 H
   rw [c8]
   refine Qh hT 7 (K41 111101000 10) ⟨116,[(3,.ptr 0 0 0 0),(4,.ptr 1 0 0 0),(6,.ptr 2 0 0 0),(46,.b (a0.Val != a1.Old))],(Qv.q1 a0 a1)⟩ ?_
   by_cases c9:a0.Val=a1.Old
   ·replace H:=iT c9 H
    rw [neF c9]
    refine Qh hT 4 (K41 111101000 14) ⟨116,[(3,.ptr 0 0 0 0),(4,.ptr 1 0 0 0),(6,.ptr 2 0 0 0),(46,.b false),(50,.b (!a0.Some))],(Qv.q1 a0 a1)⟩ ?_
    rw [c8]
    refine Qh hT 6 (K41 11110100 1) ⟨116,[(3,.ptr 0 0 0 0),(4,.ptr 1 0 0 0),(6,.ptr 2 0 0 0),(55,.b false)],(Qv.q1 a0 a1)⟩ ?_
    exact Jj2 false H
   replace H:=iF c9 H
   rw [neT c9]
   refine Qh hT 10 (K41 11110100 1) ⟨116,[(3,.ptr 0 0 0 0),(4,.ptr 1 0 0 0),(6,.ptr 2 0 0 0),(55,.b true)],(Qv.q1 a0 a1)⟩ ?_
   exact Jj2 true H
  replace H:=iF c8 H
  rw [Jk c8]
  refine Qh hT 11 (K41 111101000 14) ⟨116,[(3,.ptr 0 0 0 0),(4,.ptr 1 0 0 0),(6,.ptr 2 0 0 0),(46,.b false),(50,.b (!a0.Some))],(Qv.q1 a0 a1)⟩ ?_
  rw [Jk c8]
  refine Qh hT 6 (K41 11110100 1) ⟨116,[(3,.ptr 0 0 0 0),(4,.ptr 1 0 0 0),(6,.ptr 2 0 0 0),(55,.b (a1.Old != 1099511627777))],(Qv.q1 a0 a1)⟩ ?_
  exact Jj2 (a1.Old != 1099511627777) H
 replace H:=iF c7 H
 rw [eqF c7]
 refine Qh hT 2 (K41 1111 1) (Qv.s1 a2 a0 a1) ?_
 refine Qh hT 7 (K41 111110 1) ⟨116,(Qv.p0 a2++[(65,.b (a1.Kind == 5))]),(Qv.q1 a0 a1)⟩ ?_
 by_cases c12:a1.Kind=5
 ·replace H:=iT c12 H
  rw [eqT c12]
  refine Qh hT 7 (K41 1111101000 3) ⟨116,[(3,.ptr 0 0 0 0),(4,.ptr 1 0 0 0),(6,.ptr 2 0 0 0),(66,.i a2),(68,.d (Yl true a1.Pairs))],(Qv.q1 a0 a1)⟩ ?_
  obtain ⟨h13,H⟩:=iC H
  refine Zv hT [3,4,6,66,69] (i:=0) (n:=(a1.Pairs.length:Int)) h13.1 h13.2 (k':=(K41 1111101000 4)) (st':=⟨116,[(3,.ptr 0 0 0 0),(4,.ptr 1 0 0 0),(6,.ptr 2 0 0 0),(66,.i a2),(69,.d (Qcn true a1.Pairs 0 0))],(Qv.q1 a0 a1)⟩) (by kernel_rfl) ?_
  refine Qh hT 4 (K41 111110100 1) ⟨116,[(3,.ptr 0 0 0 0),(4,.ptr 1 0 0 0),(6,.ptr 2 0 0 0),(72,.b (a2 == ((a1.Pairs.getD 0 Qd.z).Key)))],(Qv.q1 a0 a1)⟩ ?_
  by_cases c14:a2=((a1.Pairs.getD 0 Qd.z).Key)
  ·replace H:=iT c14 H
   rw [eqT c14]
   refine Qh hT 2 (K41 11111010010 0) ⟨116,[(3,.ptr 0 0 0 0),(4,.ptr 1 0 0 0),(6,.ptr 2 0 0 0)],(Qv.q1 a0 a1)⟩ ?_
   refine Qbp (hP▸mixed) 7 [3,4,6] (sm [.ptr 0 0 0 0,.i a0.Val,.ptr 1 0 0 3,.d (Yl true a1.Pairs),.d (Qcn true a1.Pairs 0 0),.d (Qcn true a1.Pairs 0 1),.i ((a1.Pairs.getD 0 Qd.z).Val)]) (Qj (Qj (opS (Qj (Qj (Qj (Qj op0 hT) hT) hT) hT) (fun R rest h=>Xw hT (i:=0) (n:=(a1.Pairs.length:Int)) h13.1 h13.2 (by kernel_rfl) h)) hT) hT) ?_
   refine Qh hT 1 (K41 111110100100 8) ⟨116,[(6,.ptr 2 0 0 0),(80,.i (IntKind.wrap .i64 (a0.Val - ((a1.Pairs.getD 0 Qd.z).Val))))],(Qv.q1 a0 a1)⟩ ?_
   refine Wx (Yh:=[.i (IntKind.wrap .i64 (a0.Val - ((a1.Pairs.getD 0 Qd.z).Val)))]) (dst:=some 81) (k':=(K41 111110100100 9)) [6,81] [] hP Quh (Qc7.Wv (IntKind.wrap .i64 (a0.Val - ((a1.Pairs.getD 0 Qd.z).Val)))) (by kernel_rfl) (Wh _) (.cons (Qp _) .nil) (st':=⟨116,[(6,.ptr 2 0 0 0),(81,.i (Qc7 (IntKind.wrap .i64 (a0.Val - ((a1.Pairs.getD 0 Qd.z).Val)))))],(Qv.q1 a0 a1)⟩) (by kernel_rfl) ?_
   obtain ⟨v2,h15,H⟩:=idC H
   rw [<- h15]
   refine Qh hT 4 (K41 11111010010 1) ⟨116,[(6,.ptr 2 0 0 0),(7,.b true)],[.box 50 (Qef a0),.box 48 (Xr a1),.box 50 [.i v2,.b true]]⟩ ?_
   obtain rfl:=Yi H
   exact Qen hT hf hX (av:=.Qo [.d (.agg [.i v2,.b true]),.b true]) (by kernel_rfl) [] (Jq (by kernel_rfl)) (by decide) (by rw [h0];rfl) (by kernel_rfl) an (.Qo (.cons (.d (.agg (Xb.nl _))) (.cons (.d (.v _)) .nil)))
  replace H:=iF c14 H
  rw [eqF c14]
  refine Qh hT 2 (K41 11111010 1) ⟨116,[(3,.ptr 0 0 0 0),(4,.ptr 1 0 0 0),(6,.ptr 2 0 0 0)],(Qv.q1 a0 a1)⟩ ?_
  refine Qh hT 1 (K41 111110101 0) ⟨116,[(3,.ptr 0 0 0 0),(4,.ptr 1 0 0 0),(6,.ptr 2 0 0 0)],(Qv.q1 a0 a1)⟩ ?_
  refine Qbp (hP▸mixed) 7 [3,4,6] (sm [.ptr 0 0 0 0,.i a0.Val,.ptr 1 0 0 3,.d (Yl true a1.Pairs),.d (Qcn true a1.Pairs 0 0),.d (Qcn true a1.Pairs 0 1),.i ((a1.Pairs.getD 0 Qd.z).Val)]) (Qj (Qj (opS (Qj (Qj (Qj (Qj op0 hT) hT) hT) hT) (fun R rest h=>Xw hT (i:=0) (n:=(a1.Pairs.length:Int)) h13.1 h13.2 (by kernel_rfl) h)) hT) hT) ?_
  refine Qh hT 1 (K41 1111101010 8) ⟨116,[(6,.ptr 2 0 0 0),(90,.i (IntKind.wrap .i64 (a0.Val+((a1.Pairs.getD 0 Qd.z).Val))))],(Qv.q1 a0 a1)⟩ ?_
  refine Wx (Yh:=[.i (IntKind.wrap .i64 (a0.Val+((a1.Pairs.getD 0 Qd.z).Val)))]) (dst:=some 91) (k':=(K41 1111101010 9)) [6,91] [] hP Quh (Qc7.Wv (IntKind.wrap .i64 (a0.Val+((a1.Pairs.getD 0 Qd.z).Val)))) (by kernel_rfl) (Wh _) (.cons (Qp _) .nil) (st':=⟨116,[(6,.ptr 2 0 0 0),(91,.i (Qc7 (IntKind.wrap .i64 (a0.Val+((a1.Pairs.getD 0 Qd.z).Val)))))],(Qv.q1 a0 a1)⟩) (by kernel_rfl) ?_
  obtain ⟨v3,h16,H⟩:=idC H
  rw [<- h16]
  refine Qh hT 4 (K41 111110101 1) ⟨116,[(6,.ptr 2 0 0 0),(7,.b true)],[.box 50 (Qef a0),.box 48 (Xr a1),.box 50 [.i v3,.b true]]⟩ ?_
  obtain rfl:=Yi H
  exact Qen hT hf hX (av:=.Qo [.d (.agg [.i v3,.b true]),.b true]) (by kernel_rfl) [] (Jq (by kernel_rfl)) (by decide) (by rw [h0];rfl) (by kernel_rfl) an (.Qo (.cons (.d (.agg (Xb.nl _))) (.cons (.d (.v _)) .nil)))
 replace H:=iF c12 H
 rw [eqF c12]
 refine Qh hT 2 (K41 11111 1) (Qv.s1 a2 a0 a1) ?_
 refine Qh hT 7 (K41 111111010 0) ⟨116,(Qv.p0 a2++[(9,.i 0)]),(Qv.q1 a0 a1)⟩ ?_
 have L:∀ n,(∀ (Qau:Int),iter (Qv.step a0 a1 a2) n (.l1 Qau)=some r->AK X 41 ((K41 111111010 0)) (Yq X [] (.Qo [.d (Qe1 r.1),.b r.2])) ⟨116,(Qv.p0 a2++[(9,.i Qau)]),(Qv.q1 a0 a1)⟩):=by
  intro n
  induction n with
  | zero=>exact fun _ H=>Qay H
  | succ n ih=>
   ·intro Qau H
    refine Qh hT 9 (K41 11111101000 1) ⟨116,(Qv.p0 a2++[(9,.i Qau),(97,.b (decide (Qau < (a1.Pairs.length:Int))))]),(Qv.q1 a0 a1)⟩ ?_
    by_cases c17:Qau < (a1.Pairs.length:Int)
    ·replace H:=sT c17 H
     rw [decide_eq_true c17]
     refine Qh hT 2 (K41 1111110100 1) ⟨116,(Qv.p0 a2++[(9,.i Qau)]),(Qv.q1 a0 a1)⟩ ?_
     refine Qh hT 7 (K41 11111101001000 3) ⟨116,(Qv.p0 a2++[(9,.i Qau),(101,.d (Yl true a1.Pairs)),(102,.i Qau)]),(Qv.q1 a0 a1)⟩ ?_
     obtain ⟨h18,H⟩:=sC H
     refine Zv hT [2,3,4,6,9,103] (i:=Qau) (n:=(a1.Pairs.length:Int)) h18.1 h18.2 (k':=(K41 11111101001000 4)) (st':=⟨116,(Qv.p0 a2++[(9,.i Qau),(103,.d (Qcn true a1.Pairs Qau.toNat 0))]),(Qv.q1 a0 a1)⟩) (by kernel_rfl) ?_
     refine Qh hT 5 (K41 1111110100100 1) ⟨116,(Qv.p0 a2++[(9,.i Qau),(107,.b (((a1.Pairs.getD Qau.toNat Qd.z).Key) == a2))]),(Qv.q1 a0 a1)⟩ ?_
     by_cases c19:((a1.Pairs.getD Qau.toNat Qd.z).Key)=a2
     ·replace H:=sT c19 H
      rw [eqT c19]
      refine Qh hT 6 (K41 1111110100100100 3) ⟨116,[(6,.ptr 2 0 0 0),(109,.d (Yl true a1.Pairs)),(110,.i Qau)],(Qv.q1 a0 a1)⟩ ?_
      refine Zv hT [6,111] (i:=Qau) (n:=(a1.Pairs.length:Int)) h18.1 h18.2 (k':=(K41 1111110100100100 4)) (st':=⟨116,[(6,.ptr 2 0 0 0),(111,.d (Qcn true a1.Pairs Qau.toNat 0))],(Qv.q1 a0 a1)⟩) (by kernel_rfl) ?_
      refine Qh hT 6 (K41 111111010010010 1) ⟨116,[(6,.ptr 2 0 0 0),(7,.b true)],[.box 50 (Qef a0),.box 48 (Xr a1),.box 50 [.i ((a1.Pairs.getD Qau.toNat Qd.z).Val),.b true]]⟩ ?_
      obtain rfl:=Yi H
      exact Qen hT hf hX (av:=.Qo [.d (.agg [.i ((a1.Pairs.getD Qau.toNat Qd.z).Val),.b true]),.b true]) (by kernel_rfl) [] (Jq (by kernel_rfl)) (by decide) (by rw [h0];rfl) (by kernel_rfl) an (.Qo (.cons (.d (.agg (Xb.nl _))) (.cons (.d (.v _)) .nil)))
     replace H:=sF c19 H
     rw [eqF c19]
     refine Qh hT 3 (K41 11111101001 1) ⟨116,(Qv.p0 a2++[(9,.i Qau)]),(Qv.q1 a0 a1)⟩ ?_
     refine Qh hT 6 (K41 111111010 0) ⟨116,(Qv.p0 a2++[(9,.i (IntKind.wrap .i64 (Qau+1)))]),(Qv.q1 a0 a1)⟩ ?_
     exact ih (IntKind.wrap .i64 (Qau+1)) H
    replace H:=sF c17 H
    rw [decide_eq_false c17]
    refine Qh hT 8 (K41 1111111 1) ⟨116,[(6,.ptr 2 0 0 0),(7,.b true)],[.box 50 (Qef a0),.box 48 (Xr a1),.box 50 (Qef a0)]⟩ ?_
    obtain rfl:=Yi H
    exact Qen hT hf hX (av:=.Qo [.d (Qe1 a0),.b true]) (by kernel_rfl) [] (Jq (by kernel_rfl)) (by decide) (by rw [h0];rfl) (by kernel_rfl) an (.Qo (.cons (.d (.agg (Xb.nl _))) (.cons (.d (.v _)) .nil)))
 obtain ⟨n,H⟩:=Qbu H
 exact (L n) 0 H
abbrev Qk.q1 (a0:List Qg) (Qy:Int):=(a0.getD Qy.toNat Qg.z)
abbrev Qk.p0 (t0:Bool) (a0:List Qg) (a1:Int):List (Nat × AV):=[(0,.d (Yw t0 a0)),(1,.i a1)]
theorem Qk.Wv {t0:Bool} (a0:List Qg) (a1:Int) {r:(List Xf) × Int} (H:Qk a0 a1=some r):Zd Tryz.prog 16 [] [.d (Yw t0 a0),.i a1] [Jt r.1] (.Qo [.own 0 13 0 r.1.length,.i r.2]):=by
 refine Ye Tryz.func16 rfl (nt:=68) rfl (lb rfl) fun X hP h0 hX=>?_
 have hT:Xo X.P T:=hP▸tok
 have hf:X.P.funcs[16]? = some Tryz.f16:=hP▸Tryz.func16
 refine Qh hT 9 (K16 1100 1) ⟨68,(Qk.p0 t0 a0 a1++[(11,.d (Yw t0 a0))]),[]⟩ ?_
 obtain ⟨v1,h1,H⟩:=ibC H
 have Yv:∀ (Qc9:Bool),(Qk.j1 a0 a1 Qc9)=some r->AK X 16 ((K16 110 1)) (Yq X [Jt r.1] (.Qo [.own 0 13 0 r.1.length,.i r.2])) ⟨68,(Qk.p0 t0 a0 a1++[(21,.b Qc9)]),[]⟩:=by
  intro Qc9 H
  by_cases c4:Qc9=true
  ·replace H:=iT c4 H
   rw [c4]
   refine Qh hT 6 (K16 11010 1) ⟨68,[(4,.ns),(5,.i 1)],[]⟩ ?_
   refine Qb8 [4,5] 4 13 64 (vec Xf.e Xf.z []) (st':=⟨68,[(4,.own 0 13 0 0),(5,.i 1)],[Jt ([]:List Xf)]⟩) (by kernel_rfl) (by kernel_rfl) ?_
   obtain rfl:=Yi H
   exact Ym hf hX h0 (.Qo [.own 0 13 0 0,.i 1]) [0] (ac (Qat Xf.nl) an) (.Qo (.cons (.own _ _ _ _) (.cons (.d (.v _)) .nil)))
  replace H:=iF c4 H
  rw [Jk c4]
  refine Qh hT 2 (K16 11 1) ⟨68,(Qk.p0 t0 a0 a1),[]⟩ ?_
  refine Qh hT 15 (K16 11111010 0) ⟨68,(Qk.p0 t0 a0 a1++[(6,.ns),(7,.ptr 0 0 0 0),(8,.i 0)]),[.box 50 [.i 0,.b false]]⟩ ?_
  refine Qb8 [0,1,6,7,8] 6 13 64 (vec Xf.e Xf.z []) (st':=⟨68,(Qk.p0 t0 a0 a1++[(6,.own 1 13 0 0),(7,.ptr 0 0 0 0),(8,.i 0)]),[.box 50 [.i 0,.b false],Jt ([]:List Xf)]⟩) (by kernel_rfl) (by kernel_rfl) ?_
  have L:∀ n,(∀ (Qy:Int) (Qi:List Xf) (Je:Int) (Jf:Bool),iter (Qk.step a0 a1) n (.l1 Qy Qi Je Jf)=some r->AK X 16 ((K16 11111010 0)) (Yq X [Jt r.1] (.Qo [.own 0 13 0 r.1.length,.i r.2])) ⟨68,(Qk.p0 t0 a0 a1++[(6,.own 0 13 0 Qi.length),(7,.ptr 1 0 0 0),(8,.i Qy)]),[Jt Qi,.box 50 [.i Je,.b Jf]]⟩):=by
   intro n
   induction n with
   | zero=>exact fun _ _ _ _ H=>Qay H
   | succ n ih=>
    ·intro Qy Qi Je Jf H
     refine Qh hT 8 (K16 1111101000 1) ⟨68,(Qk.p0 t0 a0 a1++[(6,.own 0 13 0 Qi.length),(7,.ptr 1 0 0 0),(8,.i Qy),(25,.b (decide (Qy < (a0.length:Int))))]),[Jt Qi,.box 50 [.i Je,.b Jf]]⟩ ?_
     by_cases c5:Qy < (a0.length:Int)
     ·replace H:=sT c5 H
      rw [decide_eq_true c5]
      refine Qh hT 2 (K16 111110100 1) ⟨68,(Qk.p0 t0 a0 a1++[(6,.own 0 13 0 Qi.length),(7,.ptr 1 0 0 0),(8,.i Qy)]),[Jt Qi,.box 50 [.i Je,.b Jf]]⟩ ?_
      refine Qh hT 6 (K16 1111101001000 2) ⟨68,(Qk.p0 t0 a0 a1++[(6,.own 0 13 0 Qi.length),(7,.ptr 1 0 0 0),(8,.i Qy),(28,.d (Yw t0 a0)),(29,.i Qy)]),[Jt Qi,.box 50 [.i Je,.b Jf]]⟩ ?_
      obtain ⟨h6,H⟩:=sC H
      have Jj2:∀ (Qqq:Bool),stk (Qk.j2 a0 a1 Qy Qi Je Jf Qqq) (iter (Qk.step a0 a1) n)=some r->AK X 16 ((K16 111110100100 1)) (Yq X [Jt r.1] (.Qo [.own 0 13 0 r.1.length,.i r.2])) ⟨68,(Qk.p0 t0 a0 a1++[(6,.own 0 13 0 Qi.length),(7,.ptr 1 0 0 0),(8,.i Qy),(41,.b Qqq)]),[Jt Qi,.box 50 [.i Je,.b Jf]]⟩:=by
       intro Qqq H
       have Jj4:∀ (Qd4:List Xf) (Qj0:Int) (Qj1:Bool),stk (Qk.j4 Qy Qd4 Qj0 Qj1) (iter (Qk.step a0 a1) n)=some r->AK X 16 ((K16 1111101001 1)) (Yq X [Jt r.1] (.Qo [.own 0 13 0 r.1.length,.i r.2])) ⟨68,(Qk.p0 t0 a0 a1++[(6,.own 0 13 0 Qd4.length),(7,.ptr 1 0 0 0),(8,.i Qy)]),[Jt Qd4,.box 50 [.i Qj0,.b Qj1]]⟩:=by
        intro Qd4 Qj0 Qj1 H
        refine Qh hT 6 (K16 11111010 0) ⟨68,(Qk.p0 t0 a0 a1++[(6,.own 0 13 0 Qd4.length),(7,.ptr 1 0 0 0),(8,.i (IntKind.wrap .i64 (Qy+1)))]),[Jt Qd4,.box 50 [.i Qj0,.b Qj1]]⟩ ?_
        exact ih (IntKind.wrap .i64 (Qy+1)) Qd4 Qj0 Qj1 H
       by_cases c9:Qqq=true
       ·replace H:=sT c9 H
        rw [c9]
        refine Qh hT 2 (K16 11111010010010 0) ⟨68,(Qk.p0 t0 a0 a1++[(6,.own 0 13 0 Qi.length),(7,.ptr 1 0 0 0),(8,.i Qy)]),[Jt Qi,.box 50 [.i Je,.b Jf]]⟩ ?_
        obtain ⟨v3,h10,H⟩:=sbC H
        have Jj3:∀ (Qda:Int) (Qdb:Bool),stk (Qk.j3 a0 Qy Qi Je Jf Qda Qdb) (iter (Qk.step a0 a1) n)=some r->AK X 16 ((K16 111110100100101 1)) (Yq X [Jt r.1] (.Qo [.own 0 13 0 r.1.length,.i r.2])) ⟨68,(Qk.p0 t0 a0 a1++[(6,.own 0 13 0 Qi.length),(7,.ptr 1 0 0 0),(8,.i Qy),(9,.ptr 2 0 0 0)]),[Jt Qi,.box 50 [.i Je,.b Jf],.box 50 [.i Qda,.b Qdb]]⟩:=by
         intro Qda Qdb H
         refine Qh hT 1 (K16 1111101001001011 0) ⟨68,(Qk.p0 t0 a0 a1++[(6,.own 0 13 0 Qi.length),(7,.ptr 1 0 0 0),(8,.i Qy),(9,.ptr 2 0 0 0)]),[Jt Qi,.box 50 [.i Je,.b Jf],.box 50 [.i Qda,.b Qdb]]⟩ ?_
         refine Qcb (nt:=68) (hP▸mixed) 9 [8] [0,1,6,7,8,9] [(0,.d (Yw t0 a0)),(1,.i a1),(6,.own 0 13 0 Qi.length),(7,.ptr 1 0 0 0),(8,.i Qy),(9,.ptr 2 0 0 0)] (sm [.own 0 13 0 Qi.length,.d (Yw t0 a0),.i Qy,.d (Qdc t0 a0 Qy.toNat 0),.d (Qcv (Qk.q1 a0 Qy)),.d (.agg [.i Je,.b Jf]),.d (.agg [.i Qda,.b Qdb]),.d (.agg [.i (((Qk.q1 a0 Qy).M).Client),.i (((Qk.q1 a0 Qy).M).Seq),.i (((Qk.q1 a0 Qy).M).Kind),Yl true (((Qk.q1 a0 Qy).M).Pairs),.i ((((Qk.q1 a0 Qy).M).Over).Lo),.i ((((Qk.q1 a0 Qy).M).Over).Hi),.i (((Qk.q1 a0 Qy).M).Old),.i ((Qk.q1 a0 Qy).Time),.b ((Qk.q1 a0 Qy).Qai),.i Je,.b Jf,.i Qda,.b Qdb]),.own 3 13 0 1]) [[Jt Qi,.box 50 [.i Je,.b Jf],.box 50 [.i Qda,.b Qdb]],[Jt Qi,.box 50 [.i Je,.b Jf],.box 50 [.i Qda,.b Qdb],.flat false 13 64 1 (fun j=>[[.i (((Qk.q1 a0 Qy).M).Client),.i (((Qk.q1 a0 Qy).M).Seq),.i (((Qk.q1 a0 Qy).M).Kind),Yl true (((Qk.q1 a0 Qy).M).Pairs),.i ((((Qk.q1 a0 Qy).M).Over).Lo),.i ((((Qk.q1 a0 Qy).M).Over).Hi),.i (((Qk.q1 a0 Qy).M).Old),.i ((Qk.q1 a0 Qy).Time),.b ((Qk.q1 a0 Qy).Qai),.i Je,.b Jf,.i Qda,.b Qdb]].getD j [])]] (by kernel_rfl) (by kernel_rfl) (by kernel_rfl) (by kernel_rfl) ⟨(Qdt (We (We (We (We (Zu (We (We (We Qf2 hT) hT) hT) (fun R rest h=>Xw hT (i:=Qy) (n:=(a0.length:Int)) h6.1 h6.2 (by kernel_rfl) h)) hT) hT) hT) hT)),(Qdg hT),(Qdt (We (We (We (We (Zu (We (We (We Qf2 hT) hT) hT) (fun R rest h=>Xw hT (i:=Qy) (n:=(a0.length:Int)) h6.1 h6.2 (by kernel_rfl) h)) hT) hT) hT) hT))⟩ ?_
         refine Qh hT 0 (K16 11111010010010110 9) ⟨68,(Qk.p0 t0 a0 a1++[(7,.ptr 1 0 0 0),(8,.i Qy),(9,.ptr 2 0 0 0),(56,.own 0 13 0 Qi.length),(64,.own 3 13 0 1)]),[Jt Qi,.box 50 [.i Je,.b Jf],.box 50 [.i Qda,.b Qdb],.flat false 13 64 1 (fun j=>[[.i (((Qk.q1 a0 Qy).M).Client),.i (((Qk.q1 a0 Qy).M).Seq),.i (((Qk.q1 a0 Qy).M).Kind),Yl true (((Qk.q1 a0 Qy).M).Pairs),.i ((((Qk.q1 a0 Qy).M).Over).Lo),.i ((((Qk.q1 a0 Qy).M).Over).Hi),.i (((Qk.q1 a0 Qy).M).Old),.i ((Qk.q1 a0 Qy).Time),.b ((Qk.q1 a0 Qy).Qai),.i Je,.b Jf,.i Qda,.b Qdb]].getD j [])]⟩ ?_
         obtain ⟨h12,H⟩:=sC H
         refine Qca (id:=0) (kk:=13) (by':=120) (t:=60) (e:=64) (z:=[.int .i64 0,.int .i64 0,.int .i64 0,.slice none 0 0,.int .i64 0,.int .i64 0,.int .i64 0,.int .i64 0,.bool false,.int .i64 0,.bool false,.int .i64 0,.bool false]) (dst:=some 65) (id2:=3) (e2:=64) (fz:=false) (k':=(K16 11111010010010110 10)) hT Xf.e Xf.z Qi (⟨(Qk.q1 a0 Qy),(⟨Je,Jf⟩:Xb),(⟨Qda,Qdb⟩:Xb)⟩:Xf) [0,1,7,8,9,65] (by kernel_rfl) (by kernel_rfl) (by kernel_rfl) (by kernel_rfl) (by kernel_rfl) (by kernel_rfl) (by kernel_rfl) h12 (by omega) (st':=⟨68,(Qk.p0 t0 a0 a1++[(7,.ptr 1 0 0 0),(8,.i Qy),(9,.ptr 2 0 0 0),(65,.own 4 13 0 ((Qi ++ [(⟨(Qk.q1 a0 Qy),(⟨Je,Jf⟩:Xb),(⟨Qda,Qdb⟩:Xb)⟩:Xf)]).length))]),[.gone,.box 50 [.i Je,.b Jf],.box 50 [.i Qda,.b Qdb],.flat false 13 64 1 (fun j=>[[.i (((Qk.q1 a0 Qy).M).Client),.i (((Qk.q1 a0 Qy).M).Seq),.i (((Qk.q1 a0 Qy).M).Kind),Yl true (((Qk.q1 a0 Qy).M).Pairs),.i ((((Qk.q1 a0 Qy).M).Over).Lo),.i ((((Qk.q1 a0 Qy).M).Over).Hi),.i (((Qk.q1 a0 Qy).M).Old),.i ((Qk.q1 a0 Qy).Time),.b ((Qk.q1 a0 Qy).Qai),.i Je,.b Jf,.i Qda,.b Qdb]].getD j []),Jt (Qi ++ [(⟨(Qk.q1 a0 Qy),(⟨Je,Jf⟩:Xb),(⟨Qda,Qdb⟩:Xb)⟩:Xf)])]⟩) (by kernel_rfl) ?_
         refine Xq hT 7 (K16 1111101001 1) [4,1] ⟨68,(Qk.p0 t0 a0 a1++[(6,.own 0 13 0 (Qi ++ [(⟨(Qk.q1 a0 Qy),(⟨Je,Jf⟩:Xb),(⟨Qda,Qdb⟩:Xb)⟩:Xf)]).length),(7,.ptr 1 0 0 0),(8,.i Qy)]),[Jt (Qi ++ [(⟨(Qk.q1 a0 Qy),(⟨Je,Jf⟩:Xb),(⟨Qda,Qdb⟩:Xb)⟩:Xf)]),.box 50 [.i Qda,.b Qdb]]⟩ h0 ?_
         exact Jj4 (Qi ++ [(⟨(Qk.q1 a0 Qy),(⟨Je,Jf⟩:Xb),(⟨Qda,Qdb⟩:Xb)⟩:Xf)]) Qda Qdb H
        refine Qcb (nt:=68) (hP▸mixed) 13 [11,12] [0,1,6,7,8] [(0,.d (Yw t0 a0)),(1,.i a1),(6,.own 0 13 0 Qi.length),(7,.ptr 1 0 0 0),(8,.i Qy)] [some (.d (.agg [.i Je,.b Jf])),some (.d (Yw t0 a0)),some (.i Qy),some (.d (Qdc t0 a0 Qy.toNat 0)),some (.d (Qdc t0 a0 Qy.toNat 0)),some (.d (Qc4 ((Qk.q1 a0 Qy).M))),some (.i a1),some (.Qo [.d (Qe1 v3.1),.b v3.2]),some (.Qo [.d (Qe1 v3.1),.b v3.2]),some (.d (Qe1 v3.1)),some (.b v3.2),some (.ptr 2 0 0 0),none] [[Jt Qi,.box 50 [.i Je,.b Jf]],[Jt Qi,.box 50 [.i Je,.b Jf],.box 50 [.i 0,.b false]],[Jt Qi,.box 50 [.i Je,.b Jf],.box 50 (Qef v3.1)]] (by kernel_rfl) (by kernel_rfl) (by kernel_rfl) (by kernel_rfl) ⟨?_,(Qdg hT),⟨?_,(Qdg hT),?_⟩⟩ ?_
        iterate 3 exact (Qdt (Qdt (We (We (We (Zu (We (We (We (Zu (We (We (We Qf2 hT) hT) hT) (fun R rest h=>Xw hT (i:=Qy) (n:=(a0.length:Int)) h6.1 h6.2 (by kernel_rfl) h)) hT) hT) hT) (fun R rest h=>Zw (Yh:=[.d (.agg [.i Je,.b Jf]),.d (Qc4 ((Qk.q1 a0 Qy).M)),.i a1]) (dst:=some 50) hP Qud (Qv.Wv (⟨Je,Jf⟩:Xb) ((Qk.q1 a0 Qy).M) a1 h10) (by kernel_rfl) (.cons (Qp _) (.cons (Qp _) (.cons (Qp _) .nil))) (by kernel_rfl) h)) hT) hT) hT)))
        refine Qh hT 8 (K16 1111101001001010 1) ⟨68,(Qk.p0 t0 a0 a1++[(6,.own 0 13 0 Qi.length),(7,.ptr 1 0 0 0),(8,.i Qy),(9,.ptr 2 0 0 0),(54,.b (!v3.2))]),[Jt Qi,.box 50 [.i Je,.b Jf],.box 50 (Qef v3.1)]⟩ ?_
        by_cases c11:v3.2=true
        ·replace H:=sT c11 H
         rw [c11]
         refine Xq hT 2 (K16 111110100100101 1) [0,1,2] ⟨68,(Qk.p0 t0 a0 a1++[(6,.own 0 13 0 Qi.length),(7,.ptr 1 0 0 0),(8,.i Qy),(9,.ptr 2 0 0 0)]),[Jt Qi,.box 50 [.i Je,.b Jf],.box 50 [.i v3.1.Val,.b v3.1.Some]]⟩ h0 ?_
         exact Jj3 v3.1.Val v3.1.Some H
        replace H:=sF c11 H
        rw [Jk c11]
        refine Qh hT 5 (K16 111110100100101 1) ⟨68,(Qk.p0 t0 a0 a1++[(6,.own 0 13 0 Qi.length),(7,.ptr 1 0 0 0),(8,.i Qy),(9,.ptr 2 0 0 0)]),[Jt Qi,.box 50 [.i Je,.b Jf],.box 50 [.i Je,.b Jf]]⟩ ?_
        exact Jj3 Je Jf H
       replace H:=sF c9 H
       rw [Jk c9]
       refine Qh hT 3 (K16 1111101001 1) ⟨68,(Qk.p0 t0 a0 a1++[(6,.own 0 13 0 Qi.length),(7,.ptr 1 0 0 0),(8,.i Qy)]),[Jt Qi,.box 50 [.i Je,.b Jf]]⟩ ?_
       exact Jj4 Qi Je Jf H
      refine Zv hT [0,1,6,7,8,30] (i:=Qy) (n:=(a0.length:Int)) h6.1 h6.2 (k':=(K16 1111101001000 3)) (st':=⟨68,(Qk.p0 t0 a0 a1++[(6,.own 0 13 0 Qi.length),(7,.ptr 1 0 0 0),(8,.i Qy),(30,.d (Qdc t0 a0 Qy.toNat 0))]),[Jt Qi,.box 50 [.i Je,.b Jf]]⟩) (by kernel_rfl) ?_
      refine Qh hT 3 (K16 1111101001000 6) ⟨68,(Qk.p0 t0 a0 a1++[(6,.own 0 13 0 Qi.length),(7,.ptr 1 0 0 0),(8,.i Qy),(33,.b ((Qk.q1 a0 Qy).Qai))]),[Jt Qi,.box 50 [.i Je,.b Jf]]⟩ ?_
      by_cases c7:((Qk.q1 a0 Qy).Qai)=true
      ·replace H:=sT c7 H
       rw [c7]
       refine Qh hT 2 (K16 1111101001000 8) ⟨68,(Qk.p0 t0 a0 a1++[(6,.own 0 13 0 Qi.length),(7,.ptr 1 0 0 0),(8,.i Qy),(33,.b true),(34,.d (Yw t0 a0)),(35,.i Qy)]),[Jt Qi,.box 50 [.i Je,.b Jf]]⟩ ?_
       refine Zv hT [0,1,6,7,8,33,36] (i:=Qy) (n:=(a0.length:Int)) h6.1 h6.2 (k':=(K16 1111101001000 9)) (st':=⟨68,(Qk.p0 t0 a0 a1++[(6,.own 0 13 0 Qi.length),(7,.ptr 1 0 0 0),(8,.i Qy),(33,.b true),(36,.d (Qdc t0 a0 Qy.toNat 0))]),[Jt Qi,.box 50 [.i Je,.b Jf]]⟩) (by kernel_rfl) ?_
       refine Qh hT 3 (K16 1111101001000 12) ⟨68,(Qk.p0 t0 a0 a1++[(6,.own 0 13 0 Qi.length),(7,.ptr 1 0 0 0),(8,.i Qy),(33,.b true),(38,.d (Qc4 ((Qk.q1 a0 Qy).M))),(39,.i a1)]),[Jt Qi,.box 50 [.i Je,.b Jf]]⟩ ?_
       obtain ⟨v2,h8,H⟩:=sbC H
       refine Wx (Yh:=[.d (Qc4 ((Qk.q1 a0 Qy).M)),.i a1]) (dst:=some 40) (k':=(K16 1111101001000 13)) [0,1,6,7,8,33,40] [] hP Qlz (Xu.Wv ((Qk.q1 a0 Qy).M) a1 h8) (by kernel_rfl) (Wh _) (.cons (Qp _) (.cons (Qp _) .nil)) (st':=⟨68,(Qk.p0 t0 a0 a1++[(6,.own 0 13 0 Qi.length),(7,.ptr 1 0 0 0),(8,.i Qy),(33,.b true),(40,.b v2)]),[Jt Qi,.box 50 [.i Je,.b Jf]]⟩) (by kernel_rfl) ?_
       refine Qh hT 2 (K16 111110100100 1) ⟨68,(Qk.p0 t0 a0 a1++[(6,.own 0 13 0 Qi.length),(7,.ptr 1 0 0 0),(8,.i Qy),(41,.b v2)]),[Jt Qi,.box 50 [.i Je,.b Jf]]⟩ ?_
       exact Jj2 v2 H
      replace H:=sF c7 H
      rw [Jk c7]
      refine Qh hT 9 (K16 111110100100 1) ⟨68,(Qk.p0 t0 a0 a1++[(6,.own 0 13 0 Qi.length),(7,.ptr 1 0 0 0),(8,.i Qy),(41,.b false)]),[Jt Qi,.box 50 [.i Je,.b Jf]]⟩ ?_
      exact Jj2 false H
     replace H:=sF c5 H
     rw [decide_eq_false c5]
     refine Qh hT 8 (K16 111111 1) ⟨68,[(4,.own 0 13 0 Qi.length),(5,.i 0)],[Jt Qi,.box 50 [.i Je,.b Jf]]⟩ ?_
     obtain rfl:=Yi H
     exact Ym hf hX h0 (.Qo [.own 0 13 0 Qi.length,.i 0]) [0] (ac (Qat Xf.nl) an) (.Qo (.cons (.own _ _ _ _) (.cons (.d (.v _)) .nil)))
  refine Qgo [1,0] ⟨68,(Qk.p0 t0 a0 a1++[(6,.own 0 13 0 ([]:List Xf).length),(7,.ptr 1 0 0 0),(8,.i 0)]),[Jt ([]:List Xf),.box 50 [.i 0,.b false]]⟩ h0 ?_
  obtain ⟨n,H⟩:=Qbu H
  exact (L n) 0 ([]:List Xf) 0 false H
 refine Wx (Yh:=[.d (Yw t0 a0)]) (dst:=some 12) (k':=(K16 1100 2)) [0,1,12] [] hP Qos (Yn.Wv (t0:=t0) a0 h1) (by kernel_rfl) (Wh _) (.cons (Qp _) .nil) (st':=⟨68,(Qk.p0 t0 a0 a1++[(12,.b v1)]),[]⟩) (by kernel_rfl) ?_
 refine Qh hT 2 (K16 1100 4) ⟨68,(Qk.p0 t0 a0 a1++[(14,.b (!v1))]),[]⟩ ?_
 by_cases c2:v1=true
 ·replace H:=iT c2 H
  rw [c2]
  refine Qh hT 4 (K16 1100 8) ⟨68,(Qk.p0 t0 a0 a1++[(18,.b (decide (a1 < 0)))]),[]⟩ ?_
  by_cases c3:a1 < 0
  ·replace H:=iT c3 H
   rw [decide_eq_true c3]
   refine Qh hT 4 (K16 110 1) ⟨68,(Qk.p0 t0 a0 a1++[(21,.b true)]),[]⟩ ?_
   exact Yv true H
  replace H:=iF c3 H
  rw [decide_eq_false c3]
  refine Qh hT 4 (K16 110 1) ⟨68,(Qk.p0 t0 a0 a1++[(21,.b (decide (a1>=4096)))]),[]⟩ ?_
  exact Yv (decide (a1>=4096)) H
 replace H:=iF c2 H
 rw [Jk c2]
 refine Qh hT 8 (K16 110 1) ⟨68,(Qk.p0 t0 a0 a1++[(21,.b true)]),[]⟩ ?_
 exact Yv true H
theorem Yu.Wv {t0:Bool} (a0:List Qf) {r:Bool} (H:Yu a0=some r):Zd Tryz.prog 15 [] [.d (Qa0 t0 a0)] [] (.b r):=by
 refine Ye Tryz.func15 rfl (nt:=37) rfl (lb rfl) fun X hP h0 hX=>?_
 have hT:Xo X.P T:=hP▸tok
 have hf:X.P.funcs[15]? = some Tryz.f15:=hP▸Tryz.func15
 refine Qh hT 11 (K15 11010 0) ⟨37,[(0,.d (Qa0 t0 a0)),(3,.i 0)],[]⟩ ?_
 have L:∀ n,(∀ (Wi:Int),iter (Yu.step a0) n (.l1 Wi)=some r->AK X 15 ((K15 11010 0)) (Yq X [] (.b r)) ⟨37,[(0,.d (Qa0 t0 a0)),(3,.i Wi)],[]⟩):=by
  intro n
  induction n with
  | zero=>exact fun _ H=>Qay H
  | succ n ih=>
   ·intro Wi H
    refine Qh hT 8 (K15 1101000 1) ⟨37,[(0,.d (Qa0 t0 a0)),(3,.i Wi),(7,.b (decide (Wi < (a0.length:Int))))],[]⟩ ?_
    by_cases c1:Wi < (a0.length:Int)
    ·replace H:=sT c1 H
     rw [decide_eq_true c1]
     refine Qh hT 2 (K15 110100 1) ⟨37,[(0,.d (Qa0 t0 a0)),(3,.i Wi)],[]⟩ ?_
     refine Qh hT 3 (K15 110100100 0) ⟨37,[(0,.d (Qa0 t0 a0)),(3,.i Wi)],[]⟩ ?_
     obtain ⟨h2,H⟩:=sC H
     have Yv:∀ (Qqh:Bool),stk (Yu.j1 Wi Qqh) (iter (Yu.step a0) n)=some r->AK X 15 ((K15 110100100 1)) (Yq X [] (.b r)) ⟨37,[(0,.d (Qa0 t0 a0)),(3,.i Wi),(33,.b Qqh)],[]⟩:=by
      intro Qqh H
      by_cases c6:Qqh=true
      ·replace H:=sT c6 H
       rw [c6]
       refine Qh hT 5 (K15 11010010010 1) ⟨37,[(2,.b false)],[]⟩ ?_
       obtain rfl:=Yi H
       exact Ym hf hX h0 (.b false) [] an (.d (.v _))
      replace H:=sF c6 H
      rw [Jk c6]
      refine Qh hT 3 (K15 1101001 1) ⟨37,[(0,.d (Qa0 t0 a0)),(3,.i Wi)],[]⟩ ?_
      refine Qh hT 6 (K15 11010 0) ⟨37,[(0,.d (Qa0 t0 a0)),(3,.i (IntKind.wrap .i64 (Wi+1)))],[]⟩ ?_
      exact ih (IntKind.wrap .i64 (Wi+1)) H
     by_cases c3:(Zk (a0.getD Wi.toNat Qf.z))=true
     ·replace H:=sT c3 H
      by_cases c4:Wi > 0
      ·replace H:=sT c4 H
       obtain ⟨h5,H⟩:=sC H
       refine Qbp (hP▸mixed) 24 [0,3] (sm [.d (Qa0 t0 a0),.i Wi,.d (Qha t0 a0 Wi.toNat 0),.d (Qio (a0.getD Wi.toNat Qf.z)),.b true,.b false,.b false,.i Wi,.b true,.b true,.d (Qa0 t0 a0),.i Wi,.d (Qha t0 a0 Wi.toNat 0),.d (Qha t0 a0 Wi.toNat 0),.i ((a0.getD Wi.toNat Qf.z).Lo),.d (Qa0 t0 a0),.i Wi,.i (IntKind.wrap .i64 (Wi - 1)),.d (Qha t0 a0 ((IntKind.wrap .i64 (Wi - 1)).toNat) 0),.d (Qha t0 a0 ((IntKind.wrap .i64 (Wi - 1)).toNat) 1),.i ((a0.getD ((IntKind.wrap .i64 (Wi - 1)).toNat) Qf.z).Hi),.b (decide (((a0.getD Wi.toNat Qf.z).Lo)<=((a0.getD ((IntKind.wrap .i64 (Wi - 1)).toNat) Qf.z).Hi))),.b (decide (((a0.getD Wi.toNat Qf.z).Lo)<=((a0.getD ((IntKind.wrap .i64 (Wi - 1)).toNat) Qf.z).Hi))),.b (decide (((a0.getD Wi.toNat Qf.z).Lo)<=((a0.getD ((IntKind.wrap .i64 (Wi - 1)).toNat) Qf.z).Hi)))]) (Qj (Qj (Qj (Qj (Qj (opS (Qj (Qj (Qj (Qj (Qj (opS (Qj (Qj (Qj (opV (Qj (Qj (Qj (opS (Qj (opS (Qj (Qj op0 hT) hT) (fun R rest h=>Xw hT (i:=Wi) (n:=(a0.length:Int)) h2.1 h2.2 (by kernel_rfl) h)) hT) (fun R rest h=>Zw (Yh:=[.d (Qio (a0.getD Wi.toNat Qf.z))]) (dst:=some 14) hP Qhv (by have q:=Zk.Wv (a0.getD Wi.toNat Qf.z);rw [c3] at q;exact q) (by kernel_rfl) (.cons (Qp _) .nil) (by kernel_rfl) h)) hT) hT) hT) hT 18 (.b (decide (Wi > 0))) (.b true) (by rw [decide_eq_true c4]<;>rfl)) hT) hT) hT) (fun R rest h=>Xw hT (i:=Wi) (n:=(a0.length:Int)) h2.1 h2.2 (by kernel_rfl) h)) hT) hT) hT) hT) hT) (fun R rest h=>Xw hT (i:=IntKind.wrap .i64 (Wi - 1)) (n:=(a0.length:Int)) h5.1 h5.2 (by kernel_rfl) h)) hT) hT) hT) hT) hT) ?_
       refine Qh hT 1 (K15 110100100 1) ⟨37,[(0,.d (Qa0 t0 a0)),(3,.i Wi),(33,.b (decide (((a0.getD Wi.toNat Qf.z).Lo)<=((a0.getD ((IntKind.wrap .i64 (Wi - 1)).toNat) Qf.z).Hi))))],[]⟩ ?_
       exact Yv (decide (((a0.getD Wi.toNat Qf.z).Lo)<=((a0.getD ((IntKind.wrap .i64 (Wi - 1)).toNat) Qf.z).Hi))) H
      replace H:=sF c4 H
      refine Qbp (hP▸mixed) 24 [0,3] (sm [.d (Qa0 t0 a0),.i Wi,.d (Qha t0 a0 Wi.toNat 0),.d (Qio (a0.getD Wi.toNat Qf.z)),.b true,.b false,.b false,.i Wi,.b false,.b false,.Qo [],.Qo [],.Qo [],.Qo [],.Qo [],.Qo [],.Qo [],.Qo [],.Qo [],.Qo [],.Qo [],.Qo [],.b false,.b false]) (Qj (Qj (Qj (Qj (Qj (Qj (Qj (Qj (Qj (Qj (Qj (Qj (Qj (Qj (Qj (opV (Qj (Qj (Qj (opS (Qj (opS (Qj (Qj op0 hT) hT) (fun R rest h=>Xw hT (i:=Wi) (n:=(a0.length:Int)) h2.1 h2.2 (by kernel_rfl) h)) hT) (fun R rest h=>Zw (Yh:=[.d (Qio (a0.getD Wi.toNat Qf.z))]) (dst:=some 14) hP Qhv (by have q:=Zk.Wv (a0.getD Wi.toNat Qf.z);rw [c3] at q;exact q) (by kernel_rfl) (.cons (Qp _) .nil) (by kernel_rfl) h)) hT) hT) hT) hT 18 (.b (decide (Wi > 0))) (.b false) (by rw [decide_eq_false c4]<;>rfl)) hT) hT) hT) hT) hT) hT) hT) hT) hT) hT) hT) hT) hT) hT) hT) ?_
      refine Qh hT 1 (K15 110100100 1) ⟨37,[(0,.d (Qa0 t0 a0)),(3,.i Wi),(33,.b false)],[]⟩ ?_
      exact Yv false H
     replace H:=sF c3 H
     refine Qbp (hP▸mixed) 24 [0,3] (sm [.d (Qa0 t0 a0),.i Wi,.d (Qha t0 a0 Wi.toNat 0),.d (Qio (a0.getD Wi.toNat Qf.z)),.b false,.b true,.b true,.Qo [],.Qo [],.Qo [],.Qo [],.Qo [],.Qo [],.Qo [],.Qo [],.Qo [],.Qo [],.Qo [],.Qo [],.Qo [],.Qo [],.Qo [],.Qo [],.b true]) (Qj (Qj (Qj (Qj (Qj (Qj (Qj (Qj (Qj (Qj (Qj (Qj (Qj (Qj (Qj (Qj (Qj (Qj (Qj (opS (Qj (opS (Qj (Qj op0 hT) hT) (fun R rest h=>Xw hT (i:=Wi) (n:=(a0.length:Int)) h2.1 h2.2 (by kernel_rfl) h)) hT) (fun R rest h=>Zw (Yh:=[.d (Qio (a0.getD Wi.toNat Qf.z))]) (dst:=some 14) hP Qhv (by have q:=Zk.Wv (a0.getD Wi.toNat Qf.z);rw [Jk c3] at q;exact q) (by kernel_rfl) (.cons (Qp _) .nil) (by kernel_rfl) h)) hT) hT) hT) hT) hT) hT) hT) hT) hT) hT) hT) hT) hT) hT) hT) hT) hT) hT) hT) ?_
     refine Qh hT 1 (K15 110100100 1) ⟨37,[(0,.d (Qa0 t0 a0)),(3,.i Wi),(33,.b true)],[]⟩ ?_
     exact Yv true H
    replace H:=sF c1 H
    rw [decide_eq_false c1]
    refine Qh hT 9 (K15 111 1) ⟨37,[(2,.b (decide ((a0.length:Int)<=64)))],[]⟩ ?_
    obtain rfl:=Yi H
    exact Ym hf hX h0 (.b (decide ((a0.length:Int)<=64))) [] an (.d (.v _))
 obtain ⟨n,H⟩:=Qbu H
 exact (L n) 0 H
abbrev Wj.p0 (t0:Bool) (a0:List Qf):List (Nat × AV):=[(0,.d (Qa0 t0 a0))]
theorem Wj.Wv {t0:Bool} (a0:List Qf) {r:List Bool} (H:Wj a0=some r):Zd Tryz.prog 94 [] [.d (Qa0 t0 a0)] [eR4 r] (.own 0 1 0 r.length):=by
 refine Ye Tryz.func94 rfl (nt:=45) rfl (lb rfl) fun X hP h0 hX=>?_
 have hT:Xo X.P T:=hP▸tok
 have hf:X.P.funcs[94]? = some Tryz.f94:=hP▸Tryz.func94
 refine Qh hT 15 (K94 111010 0) ⟨45,(Wj.p0 t0 a0++[(3,.ns),(4,.i 0)]),[]⟩ ?_
 refine Qb8 [0,3,4] 3 1 4 (vec eB false []) (st':=⟨45,(Wj.p0 t0 a0++[(3,.own 0 1 0 0),(4,.i 0)]),[eR4 ([]:List Bool)]⟩) (by kernel_rfl) (by kernel_rfl) ?_
 have L:∀ n,(∀ (Xn:Int) (Qi:List Bool),iter (Wj.step a0) n (.l1 Xn Qi)=some r->AK X 94 ((K94 111010 0)) (Yq X [eR4 r] (.own 0 1 0 r.length)) ⟨45,(Wj.p0 t0 a0++[(3,.own 0 1 0 Qi.length),(4,.i Xn)]),[eR4 Qi]⟩)/\(∀ (Qaz:Int) (Xv:List Bool),iter (Wj.step a0) n (.l2 Qaz Xv)=some r->AK X 94 ((K94 1111010 0)) (Yq X [eR4 r] (.own 0 1 0 r.length)) ⟨45,(Wj.p0 t0 a0++[(3,.own 0 1 0 Xv.length),(5,.i Qaz)]),[eR4 Xv]⟩)/\(∀ (Qcp:Int) (Qb5:Int) (Qa2:List Bool),iter (Wj.step a0) n (.l3 Qcp Qb5 Qa2)=some r->AK X 94 ((K94 1111010010010 0)) (Yq X [eR4 r] (.own 0 1 0 r.length)) ⟨45,(Wj.p0 t0 a0++[(3,.own 0 1 0 Qa2.length),(5,.i Qcp),(6,.i Qb5)]),[eR4 Qa2]⟩):=by
  intro n
  induction n with
  | zero=>exact ⟨fun _ _ H=>Qay H,fun _ _ H=>Qay H,fun _ _ _ H=>Qay H⟩
  | succ n ih=>
   refine ⟨?_, ?_, ?_⟩
   ·intro Xn Qi H
    refine Qh hT 6 (K94 11101000 1) ⟨45,(Wj.p0 t0 a0++[(3,.own 0 1 0 Qi.length),(4,.i Xn),(8,.b (decide (Xn < 4096)))]),[eR4 Qi]⟩ ?_
    by_cases c1:Xn < 4096
    ·replace H:=sT c1 H
     rw [decide_eq_true c1]
     refine Qh hT 2 (K94 1110100 1) ⟨45,(Wj.p0 t0 a0++[(3,.own 0 1 0 Qi.length),(4,.i Xn)]),[eR4 Qi]⟩ ?_
     refine Qh hT 5 (K94 1110100100 2) ⟨45,(Wj.p0 t0 a0++[(4,.i Xn),(11,.own 0 1 0 Qi.length),(12,.own 1 1 0 1)]),[eR4 Qi,.flat false 1 4 1 (fun j=>[[.b false]].getD j [])]⟩ ?_
     obtain ⟨h2,H⟩:=sC H
     refine Qca (id:=0) (kk:=1) (by':=1) (t:=188) (e:=4) (z:=[.bool false]) (dst:=some 13) (id2:=1) (e2:=4) (fz:=false) (k':=(K94 1110100100 3)) hT eB false Qi false [0,4,13] (by kernel_rfl) (by kernel_rfl) (by kernel_rfl) (by kernel_rfl) (by kernel_rfl) (by kernel_rfl) (by kernel_rfl) h2 (by omega) (st':=⟨45,(Wj.p0 t0 a0++[(4,.i Xn),(13,.own 2 1 0 ((Qi ++ [false]).length))]),[.gone,.flat false 1 4 1 (fun j=>[[.b false]].getD j []),eR4 (Qi ++ [false])]⟩) (by kernel_rfl) ?_
     refine Xq hT 9 (K94 111010 0) [2] ⟨45,(Wj.p0 t0 a0++[(3,.own 0 1 0 (Qi ++ [false]).length),(4,.i (IntKind.wrap .i64 (Xn+1)))]),[eR4 (Qi ++ [false])]⟩ h0 ?_
     exact ih.1 (IntKind.wrap .i64 (Xn+1)) (Qi ++ [false]) H
    replace H:=sF c1 H
    rw [decide_eq_false c1]
    refine Qh hT 9 (K94 1111010 0) ⟨45,(Wj.p0 t0 a0++[(3,.own 0 1 0 Qi.length),(5,.i 0)]),[eR4 Qi]⟩ ?_
    exact ih.2.1 0 Qi H
   ·intro Qaz Xv H
    refine Qh hT 8 (K94 111101000 1) ⟨45,(Wj.p0 t0 a0++[(3,.own 0 1 0 Xv.length),(5,.i Qaz),(17,.b (decide (Qaz < (a0.length:Int))))]),[eR4 Xv]⟩ ?_
    by_cases c3:Qaz < (a0.length:Int)
    ·replace H:=sT c3 H
     rw [decide_eq_true c3]
     refine Qh hT 2 (K94 11110100 1) ⟨45,(Wj.p0 t0 a0++[(3,.own 0 1 0 Xv.length),(5,.i Qaz)]),[eR4 Xv]⟩ ?_
     refine Qh hT 6 (K94 111101001000 2) ⟨45,(Wj.p0 t0 a0++[(3,.own 0 1 0 Xv.length),(5,.i Qaz),(20,.d (Qa0 t0 a0)),(21,.i Qaz)]),[eR4 Xv]⟩ ?_
     obtain ⟨h4,H⟩:=sC H
     refine Zv hT [0,3,5,22] (i:=Qaz) (n:=(a0.length:Int)) h4.1 h4.2 (k':=(K94 111101001000 3)) (st':=⟨45,(Wj.p0 t0 a0++[(3,.own 0 1 0 Xv.length),(5,.i Qaz),(22,.d (Qha t0 a0 Qaz.toNat 0))]),[eR4 Xv]⟩) (by kernel_rfl) ?_
     refine Qh hT 6 (K94 1111010010010 0) ⟨45,(Wj.p0 t0 a0++[(3,.own 0 1 0 Xv.length),(5,.i Qaz),(6,.i ((a0.getD Qaz.toNat Qf.z).Lo))]),[eR4 Xv]⟩ ?_
     exact ih.2.2 Qaz ((a0.getD Qaz.toNat Qf.z).Lo) Xv H
    replace H:=sF c3 H
    rw [decide_eq_false c3]
    refine Qh hT 7 (K94 11111 1) ⟨45,[(2,.own 0 1 0 Xv.length)],[eR4 Xv]⟩ ?_
    obtain rfl:=Yi H
    exact Ym hf hX h0 (.own 0 1 0 Xv.length) [0] (ac (Qat nlB) an) (.own _ _ _ _)
   intro Qcp Qb5 Qa2 H
   refine Qh hT 5 (K94 1111010010010000 2) ⟨45,(Wj.p0 t0 a0++[(3,.own 0 1 0 Qa2.length),(5,.i Qcp),(6,.i Qb5),(25,.d (Qa0 t0 a0)),(26,.i Qcp)]),[eR4 Qa2]⟩ ?_
   obtain ⟨h5,H⟩:=sC H
   have Yv:∀ (Qqj:Bool),stk (Wj.j1 Qcp Qb5 Qa2 Qqj) (iter (Wj.step a0) n)=some r->AK X 94 ((K94 111101001001000 1)) (Yq X [eR4 r] (.own 0 1 0 r.length)) ⟨45,(Wj.p0 t0 a0++[(3,.own 0 1 0 Qa2.length),(5,.i Qcp),(6,.i Qb5),(38,.b Qqj)]),[eR4 Qa2]⟩:=by
    intro Qqj H
    by_cases c7:Qqj=true
    ·replace H:=sT c7 H
     rw [c7]
     refine Qh hT 2 (K94 11110100100100 1) ⟨45,(Wj.p0 t0 a0++[(3,.own 0 1 0 Qa2.length),(5,.i Qcp),(6,.i Qb5)]),[eR4 Qa2]⟩ ?_
     refine Qh hT 5 (K94 11110100100100100 2) ⟨45,(Wj.p0 t0 a0++[(3,.own 0 1 0 Qa2.length),(5,.i Qcp),(6,.i Qb5),(41,.own 0 1 0 Qa2.length),(42,.i Qb5)]),[eR4 Qa2]⟩ ?_
     obtain ⟨h8,H⟩:=sC H
     refine Zv hT [0,3,5,6,43] (i:=Qb5) (n:=(Qa2.length:Int)) h8.1 h8.2 (k':=(K94 11110100100100100 3)) (st':=⟨45,(Wj.p0 t0 a0++[(3,.own 0 1 0 Qa2.length),(5,.i Qcp),(6,.i Qb5),(43,.ptr 0 1 Qb5.toNat 0)]),[eR4 Qa2]⟩) (by kernel_rfl) ?_
     refine Qsa (id:=0) (kk:=1) (i:=Qb5.toNat) (off:=0) (s:=1) (n:=Qa2.length) (ty:=4) (ds:=[.b true]) (g:=vec eB false Qa2) (k':=(K94 11110100100100100 4)) hT [0,3,5,6] (vec eB false (Qa2.set Qb5.toNat true)) (by kernel_rfl) (by kernel_rfl) (ltN h8.1 h8.2) ((Qm2 (ltN h8.1 h8.2)).trans (by kernel_rfl)) Qjh (st':=⟨45,[(0,.d (.sl t0 a0.length (vec Qf.e Qf.z a0))),(3,.own 0 1 0 (Qa2.length)),(5,.i Qcp),(6,.i Qb5)],[.flat false 1 4 Qa2.length (vec eB false (Qa2.set Qb5.toNat true))]⟩) (by kernel_rfl) ?_
     refine Qpt (show Qa2.length=(Qa2.set Qb5.toNat true).length from (List.length_set ..).symm) (fun nn=>⟨45,[(0,.d (.sl t0 a0.length (vec Qf.e Qf.z a0))),(3,.own 0 1 0 (nn)),(5,.i Qcp),(6,.i Qb5)],[.flat false 1 4 nn (vec eB false (Qa2.set Qb5.toNat true))]⟩) ?_
     refine Xq hT 8 (K94 1111010010010 0) [0] ⟨45,(Wj.p0 t0 a0++[(3,.own 0 1 0 (Qa2.set Qb5.toNat true).length),(5,.i Qcp),(6,.i (IntKind.wrap .i64 (Qb5+1)))]),[eR4 (Qa2.set Qb5.toNat true)]⟩ h0 ?_
     exact ih.2.2 Qcp (IntKind.wrap .i64 (Qb5+1)) (Qa2.set Qb5.toNat true) H
    replace H:=sF c7 H
    rw [Jk c7]
    refine Qh hT 9 (K94 1111010 0) ⟨45,(Wj.p0 t0 a0++[(3,.own 0 1 0 Qa2.length),(5,.i (IntKind.wrap .i64 (Qcp+1)))]),[eR4 Qa2]⟩ ?_
    exact ih.2.1 (IntKind.wrap .i64 (Qcp+1)) Qa2 H
   refine Zv hT [0,3,5,6,27] (i:=Qcp) (n:=(a0.length:Int)) h5.1 h5.2 (k':=(K94 1111010010010000 3)) (st':=⟨45,(Wj.p0 t0 a0++[(3,.own 0 1 0 Qa2.length),(5,.i Qcp),(6,.i Qb5),(27,.d (Qha t0 a0 Qcp.toNat 0))]),[eR4 Qa2]⟩) (by kernel_rfl) ?_
   refine Qh hT 1 (K94 1111010010010000 4) ⟨45,(Wj.p0 t0 a0++[(3,.own 0 1 0 Qa2.length),(5,.i Qcp),(6,.i Qb5),(28,.d (Qio (a0.getD Qcp.toNat Qf.z)))]),[eR4 Qa2]⟩ ?_
   refine Wx (Yh:=[.d (Qio (a0.getD Qcp.toNat Qf.z))]) (dst:=some 29) (k':=(K94 1111010010010000 5)) [0,3,5,6,29] [] hP Qhv (Zk.Wv (a0.getD Qcp.toNat Qf.z)) (by kernel_rfl) (Wh _) (.cons (Qp _) .nil) (st':=⟨45,(Wj.p0 t0 a0++[(3,.own 0 1 0 Qa2.length),(5,.i Qcp),(6,.i Qb5),(29,.b (Zk (a0.getD Qcp.toNat Qf.z)))]),[eR4 Qa2]⟩) (by kernel_rfl) ?_
   refine Qh hT 1 (K94 1111010010010000 6) ⟨45,(Wj.p0 t0 a0++[(3,.own 0 1 0 Qa2.length),(5,.i Qcp),(6,.i Qb5),(30,.b (Zk (a0.getD Qcp.toNat Qf.z)))]),[eR4 Qa2]⟩ ?_
   by_cases c6:(Zk (a0.getD Qcp.toNat Qf.z))=true
   ·replace H:=sT c6 H
    rw [c6]
    refine Qh hT 3 (K94 1111010010010000 9) ⟨45,(Wj.p0 t0 a0++[(3,.own 0 1 0 Qa2.length),(5,.i Qcp),(6,.i Qb5),(30,.b true),(31,.i Qb5),(32,.d (Qa0 t0 a0)),(33,.i Qcp)]),[eR4 Qa2]⟩ ?_
    refine Zv hT [0,3,5,6,30,31,34] (i:=Qcp) (n:=(a0.length:Int)) h5.1 h5.2 (k':=(K94 1111010010010000 10)) (st':=⟨45,(Wj.p0 t0 a0++[(3,.own 0 1 0 Qa2.length),(5,.i Qcp),(6,.i Qb5),(30,.b true),(31,.i Qb5),(34,.d (Qha t0 a0 Qcp.toNat 0))]),[eR4 Qa2]⟩) (by kernel_rfl) ?_
    refine Qh hT 5 (K94 111101001001000 1) ⟨45,(Wj.p0 t0 a0++[(3,.own 0 1 0 Qa2.length),(5,.i Qcp),(6,.i Qb5),(38,.b (decide (Qb5 < ((a0.getD Qcp.toNat Qf.z).Hi))))]),[eR4 Qa2]⟩ ?_
    exact Yv (decide (Qb5 < ((a0.getD Qcp.toNat Qf.z).Hi))) H
   replace H:=sF c6 H
   rw [Jk c6]
   refine Qh hT 9 (K94 111101001001000 1) ⟨45,(Wj.p0 t0 a0++[(3,.own 0 1 0 Qa2.length),(5,.i Qcp),(6,.i Qb5),(38,.b false)]),[eR4 Qa2]⟩ ?_
   exact Yv false H
 refine Qgo [0] ⟨45,(Wj.p0 t0 a0++[(3,.own 0 1 0 ([]:List Bool).length),(4,.i 0)]),[eR4 ([]:List Bool)]⟩ h0 ?_
 obtain ⟨n,H⟩:=Qbu H
 exact (L n).1 0 ([]:List Bool) H
theorem Za.Wv {t0:Bool} (a0:List Bool) {r:(List Qf) × Int} (H:Za a0=some r):Zd Tryz.prog 93 [] [.d (eL4 t0 a0)] [Qag r.1] (.Qo [.own 0 2 0 r.1.length,.i r.2]):=by
 refine Ye Tryz.func93 rfl (nt:=39) rfl (lb rfl) fun X hP h0 hX=>?_
 have hT:Xo X.P T:=hP▸tok
 have hf:X.P.funcs[93]? = some Tryz.f93:=hP▸Tryz.func93
 refine Qh hT 16 (K93 111100 0) ⟨39,[(0,.d (eL4 t0 a0)),(4,.ns),(5,.i 0)],[]⟩ ?_
 refine Qb8 [0,4,5] 4 2 46 (vec Qf.e Qf.z []) (st':=⟨39,[(0,.d (eL4 t0 a0)),(4,.own 0 2 0 0),(5,.i 0)],[Qag ([]:List Qf)]⟩) (by kernel_rfl) (by kernel_rfl) ?_
 have L:∀ n,(∀ (Wz:Int) (Qi:List Qf),iter (Za.step a0) n (.l1 Wz Qi)=some r->AK X 93 ((K93 111100 0)) (Yq X [Qag r.1] (.Qo [.own 0 2 0 r.1.length,.i r.2])) ⟨39,[(0,.d (eL4 t0 a0)),(4,.own 0 2 0 Qi.length),(5,.i Wz)],[Qag Qi]⟩)/\(∀ (Qaz:Int) (Qa4:Int) (Xv:List Qf),iter (Za.step a0) n (.l2 Qaz Qa4 Xv)=some r->AK X 93 ((K93 111100010100 0)) (Yq X [Qag r.1] (.Qo [.own 0 2 0 r.1.length,.i r.2])) ⟨39,[(0,.d (eL4 t0 a0)),(4,.own 0 2 0 Xv.length),(5,.i Qaz),(6,.i Qa4)],[Qag Xv]⟩):=by
  intro n
  induction n with
  | zero=>exact ⟨fun _ _ H=>Qay H,fun _ _ _ H=>Qay H⟩
  | succ n ih=>
   refine ⟨?_, ?_⟩
   ·intro Wz Qi H
    refine Qh hT 8 (K93 11110000 1) ⟨39,[(0,.d (eL4 t0 a0)),(4,.own 0 2 0 Qi.length),(5,.i Wz),(10,.b (decide (Wz < (a0.length:Int))))],[Qag Qi]⟩ ?_
    by_cases c1:Wz < (a0.length:Int)
    ·replace H:=sT c1 H
     rw [decide_eq_true c1]
     refine Qh hT 2 (K93 1111000 1) ⟨39,[(0,.d (eL4 t0 a0)),(4,.own 0 2 0 Qi.length),(5,.i Wz)],[Qag Qi]⟩ ?_
     refine Qh hT 9 (K93 111100010100 0) ⟨39,[(0,.d (eL4 t0 a0)),(4,.own 0 2 0 Qi.length),(5,.i Wz),(6,.i Wz)],[Qag Qi]⟩ ?_
     exact ih.2 Wz Wz Qi H
    replace H:=sF c1 H
    rw [decide_eq_false c1]
    refine Qh hT 9 (K93 111110 1) ⟨39,[(4,.own 0 2 0 Qi.length),(37,.b (decide ((Qi.length:Int) > 64)))],[Qag Qi]⟩ ?_
    by_cases c2:(Qi.length:Int) > 64
    ·replace H:=sT c2 H
     rw [decide_eq_true c2]
     refine Qh hT 6 (K93 11111010 1) ⟨39,[(2,.ns),(3,.i 2)],[Qag Qi]⟩ ?_
     refine Qb8 [2,3] 2 2 46 (vec Qf.e Qf.z []) (st':=⟨39,[(2,.own 1 2 0 0),(3,.i 2)],[Qag Qi,Qag ([]:List Qf)]⟩) (by kernel_rfl) (by kernel_rfl) ?_
     obtain rfl:=Yi H
     exact Ym hf hX h0 (.Qo [.own 1 2 0 0,.i 2]) [1] (ac (Qat Qf.nl) an) (.Qo (.cons (.own _ _ _ _) (.cons (.d (.v _)) .nil)))
    replace H:=sF c2 H
    rw [decide_eq_false c2]
    refine Qh hT 2 (K93 11111 1) ⟨39,[(4,.own 0 2 0 Qi.length)],[Qag Qi]⟩ ?_
    refine Qh hT 6 (K93 111111 1) ⟨39,[(2,.own 0 2 0 Qi.length),(3,.i 0)],[Qag Qi]⟩ ?_
    obtain rfl:=Yi H
    exact Ym hf hX h0 (.Qo [.own 0 2 0 Qi.length,.i 0]) [0] (ac (Qat Qf.nl) an) (.Qo (.cons (.own _ _ _ _) (.cons (.d (.v _)) .nil)))
   intro Qaz Qa4 Xv H
   have Yv:∀ (Qc9:Bool),stk (Za.j1 Qaz Qa4 Xv Qc9) (iter (Za.step a0) n)=some r->AK X 93 ((K93 11110001010000 1)) (Yq X [Qag r.1] (.Qo [.own 0 2 0 r.1.length,.i r.2])) ⟨39,[(0,.d (eL4 t0 a0)),(4,.own 0 2 0 Xv.length),(5,.i Qaz),(6,.i Qa4),(21,.b Qc9)],[Qag Xv]⟩:=by
    intro Qc9 H
    by_cases c5:Qc9=true
    ·replace H:=sT c5 H
     rw [c5]
     refine Qh hT 2 (K93 1111000101000 1) ⟨39,[(0,.d (eL4 t0 a0)),(4,.own 0 2 0 Xv.length),(5,.i Qaz),(6,.i Qa4)],[Qag Xv]⟩ ?_
     refine Qh hT 8 (K93 111100010100 0) ⟨39,[(0,.d (eL4 t0 a0)),(4,.own 0 2 0 Xv.length),(5,.i (IntKind.wrap .i64 (Qaz+1))),(6,.i Qa4)],[Qag Xv]⟩ ?_
     exact ih.2 (IntKind.wrap .i64 (Qaz+1)) Qa4 Xv H
    replace H:=sF c5 H
    rw [Jk c5]
    refine Qh hT 8 (K93 11110001011 1) ⟨39,[(0,.d (eL4 t0 a0)),(4,.own 0 2 0 Xv.length),(5,.i Qaz),(6,.i Qa4),(26,.b (decide (Qaz > Qa4)))],[Qag Xv]⟩ ?_
    by_cases c6:Qaz > Qa4
    ·replace H:=sT c6 H
     rw [decide_eq_true c6]
     refine Qh hT 7 (K93 1111000101110 5) ⟨39,[(0,.d (eL4 t0 a0)),(5,.i Qaz),(27,.own 0 2 0 Xv.length),(31,.own 1 2 0 1)],[Qag Xv,.flat false 2 46 1 (fun j=>[[.i Qa4,.i Qaz]].getD j [])]⟩ ?_
     obtain ⟨h7,H⟩:=sC H
     refine Qca (id:=0) (kk:=2) (by':=16) (t:=67) (e:=46) (z:=[.int .i64 0,.int .i64 0]) (dst:=some 32) (id2:=1) (e2:=46) (fz:=false) (k':=(K93 1111000101110 6)) hT Qf.e Qf.z Xv (⟨Qa4,Qaz⟩:Qf) [0,5,32] (by kernel_rfl) (by kernel_rfl) (by kernel_rfl) (by kernel_rfl) (by kernel_rfl) (by kernel_rfl) (by kernel_rfl) h7 (by omega) (st':=⟨39,[(0,.d (eL4 t0 a0)),(5,.i Qaz),(32,.own 2 2 0 ((Xv ++ [(⟨Qa4,Qaz⟩:Qf)]).length))],[.gone,.flat false 2 46 1 (fun j=>[[.i Qa4,.i Qaz]].getD j []),Qag (Xv ++ [(⟨Qa4,Qaz⟩:Qf)])]⟩) (by kernel_rfl) ?_
     refine Xq hT 4 (K93 111100 0) [2] ⟨39,[(0,.d (eL4 t0 a0)),(4,.own 0 2 0 (Xv ++ [(⟨Qa4,Qaz⟩:Qf)]).length),(5,.i Qaz)],[Qag (Xv ++ [(⟨Qa4,Qaz⟩:Qf)])]⟩ h0 ?_
     exact ih.1 Qaz (Xv ++ [(⟨Qa4,Qaz⟩:Qf)]) H
    replace H:=sF c6 H
    rw [decide_eq_false c6]
    refine Qh hT 8 (K93 111100 0) ⟨39,[(0,.d (eL4 t0 a0)),(4,.own 0 2 0 Xv.length),(5,.i (IntKind.wrap .i64 (Qaz+1)))],[Qag Xv]⟩ ?_
    exact ih.1 (IntKind.wrap .i64 (Qaz+1)) Xv H
   refine Qh hT 8 (K93 111100010100000 5) ⟨39,[(0,.d (eL4 t0 a0)),(4,.own 0 2 0 Xv.length),(5,.i Qaz),(6,.i Qa4),(16,.b (decide (Qaz < (a0.length:Int))))],[Qag Xv]⟩ ?_
   by_cases c3:Qaz < (a0.length:Int)
   ·replace H:=sT c3 H
    rw [decide_eq_true c3]
    refine Qh hT 2 (K93 111100010100000 7) ⟨39,[(0,.d (eL4 t0 a0)),(4,.own 0 2 0 Xv.length),(5,.i Qaz),(6,.i Qa4),(16,.b true),(17,.d (eL4 t0 a0)),(18,.i Qaz)],[Qag Xv]⟩ ?_
    obtain ⟨h4,H⟩:=sC H
    refine Zv hT [0,4,5,6,16,19] (i:=Qaz) (n:=(a0.length:Int)) h4.1 h4.2 (k':=(K93 111100010100000 8)) (st':=⟨39,[(0,.d (eL4 t0 a0)),(4,.own 0 2 0 Xv.length),(5,.i Qaz),(6,.i Qa4),(16,.b true),(19,.d (eP4 t0 a0 Qaz.toNat 0))],[Qag Xv]⟩) (by kernel_rfl) ?_
    refine Qh hT 3 (K93 11110001010000 1) ⟨39,[(0,.d (eL4 t0 a0)),(4,.own 0 2 0 Xv.length),(5,.i Qaz),(6,.i Qa4),(21,.b (a0.getD Qaz.toNat false))],[Qag Xv]⟩ ?_
    exact Yv (a0.getD Qaz.toNat false) H
   replace H:=sF c3 H
   rw [decide_eq_false c3]
   refine Qh hT 6 (K93 11110001010000 1) ⟨39,[(0,.d (eL4 t0 a0)),(4,.own 0 2 0 Xv.length),(5,.i Qaz),(6,.i Qa4),(21,.b false)],[Qag Xv]⟩ ?_
   exact Yv false H
 refine Qgo [0] ⟨39,[(0,.d (eL4 t0 a0)),(4,.own 0 2 0 ([]:List Qf).length),(5,.i 0)],[Qag ([]:List Qf)]⟩ h0 ?_
 obtain ⟨n,H⟩:=Qbu H
 exact (L n).1 0 ([]:List Qf) H
theorem Qal.Wv {t0:Bool} (a0:List Qf) {r:(List Qf) × Int} (H:Qal a0=some r):Zd Tryz.prog 71 [] [.d (Qa0 t0 a0)] [Qag r.1] (.Qo [.own 0 2 0 r.1.length,.i r.2]):=by
 refine Ye Tryz.func71 rfl (nt:=22) rfl (lb rfl) fun X hP h0 hX=>?_
 have hT:Xo X.P T:=hP▸tok
 have hf:X.P.funcs[71]? = some Tryz.f71:=hP▸Tryz.func71
 refine Qh hT 12 (K71 11010 0) ⟨22,[(0,.d (Qa0 t0 a0)),(4,.i 0)],[]⟩ ?_
 have L:∀ n,(∀ (Xn:Int),iter (Qal.step a0) n (.l1 Xn)=some r->AK X 71 ((K71 11010 0)) (Yq X [Qag r.1] (.Qo [.own 0 2 0 r.1.length,.i r.2])) ⟨22,[(0,.d (Qa0 t0 a0)),(4,.i Xn)],[]⟩):=by
  intro n
  induction n with
  | zero=>exact fun _ H=>Qay H
  | succ n ih=>
   ·intro Xn H
    refine Qh hT 8 (K71 1101000 1) ⟨22,[(0,.d (Qa0 t0 a0)),(4,.i Xn),(8,.b (decide (Xn < (a0.length:Int))))],[]⟩ ?_
    by_cases c1:Xn < (a0.length:Int)
    ·replace H:=sT c1 H
     rw [decide_eq_true c1]
     refine Qh hT 2 (K71 110100 1) ⟨22,[(0,.d (Qa0 t0 a0)),(4,.i Xn)],[]⟩ ?_
     refine Qh hT 6 (K71 1101001000 2) ⟨22,[(0,.d (Qa0 t0 a0)),(4,.i Xn),(11,.d (Qa0 t0 a0)),(12,.i Xn)],[]⟩ ?_
     obtain ⟨h4,H⟩:=sC H
     refine Zv hT [0,4,13] (i:=Xn) (n:=(a0.length:Int)) h4.1 h4.2 (k':=(K71 1101001000 3)) (st':=⟨22,[(0,.d (Qa0 t0 a0)),(4,.i Xn),(13,.d (Qha t0 a0 Xn.toNat 0))],[]⟩) (by kernel_rfl) ?_
     refine Qh hT 1 (K71 1101001000 4) ⟨22,[(0,.d (Qa0 t0 a0)),(4,.i Xn),(14,.d (Qio (a0.getD Xn.toNat Qf.z)))],[]⟩ ?_
     refine Wx (Yh:=[.d (Qio (a0.getD Xn.toNat Qf.z))]) (dst:=some 15) (k':=(K71 1101001000 5)) [0,4,15] [] hP Qhv (Zk.Wv (a0.getD Xn.toNat Qf.z)) (by kernel_rfl) (Wh _) (.cons (Qp _) .nil) (st':=⟨22,[(0,.d (Qa0 t0 a0)),(4,.i Xn),(15,.b (Zk (a0.getD Xn.toNat Qf.z)))],[]⟩) (by kernel_rfl) ?_
     refine Qh hT 2 (K71 110100100 1) ⟨22,[(0,.d (Qa0 t0 a0)),(4,.i Xn),(16,.b (!(Zk (a0.getD Xn.toNat Qf.z))))],[]⟩ ?_
     by_cases c5:(Zk (a0.getD Xn.toNat Qf.z))=true
     ·replace H:=sT c5 H
      rw [c5]
      refine Qh hT 3 (K71 1101001 1) ⟨22,[(0,.d (Qa0 t0 a0)),(4,.i Xn)],[]⟩ ?_
      refine Qh hT 6 (K71 11010 0) ⟨22,[(0,.d (Qa0 t0 a0)),(4,.i (IntKind.wrap .i64 (Xn+1)))],[]⟩ ?_
      exact ih (IntKind.wrap .i64 (Xn+1)) H
     replace H:=sF c5 H
     rw [Jk c5]
     refine Qh hT 6 (K71 11010010010 1) ⟨22,[(2,.ns),(3,.i 1)],[]⟩ ?_
     refine Qb8 [2,3] 2 2 46 (vec Qf.e Qf.z []) (st':=⟨22,[(2,.own 0 2 0 0),(3,.i 1)],[Qag ([]:List Qf)]⟩) (by kernel_rfl) (by kernel_rfl) ?_
     obtain rfl:=Yi H
     exact Ym hf hX h0 (.Qo [.own 0 2 0 0,.i 1]) [0] (ac (Qat Qf.nl) an) (.Qo (.cons (.own _ _ _ _) (.cons (.d (.v _)) .nil)))
    replace H:=sF c1 H
    rw [decide_eq_false c1]
    refine Qh hT 5 (K71 1110 1) ⟨22,[(17,.d (Qa0 t0 a0))],[]⟩ ?_
    obtain ⟨v1,h2,H⟩:=sbC H
    refine Wx (Yh:=[.d (Qa0 t0 a0)]) (dst:=some 18) (k':=(K71 1110 2)) [18] [] hP Wc1 (Wj.Wv (t0:=t0) a0 h2) (by kernel_rfl) (Wh _) (.cons (Qp _) .nil) (st':=⟨22,[(18,.own 0 1 0 v1.length)],[eR4 v1]⟩) (by kernel_rfl) ?_
    obtain ⟨v2,h3,H⟩:=sbC H
    refine Wx (Yh:=[.own 0 1 0 v1.length]) (dst:=some 19) (k':=(K71 1110 3)) [19] [] hP Wc0 (Za.Wv (t0:=false) v1 h3) (by kernel_rfl) (Wh _) (.cons (.Qds (ty:=4) (by kernel_rfl) rfl) .nil) (st':=⟨22,[(19,.Qo [.own 1 2 0 v2.1.length,.i v2.2])],[eR4 v1,Qag v2.1]⟩) (by kernel_rfl) ?_
    refine Qh hT 5 (K71 111 1) ⟨22,[(2,.own 1 2 0 v2.1.length),(3,.i v2.2)],[eR4 v1,Qag v2.1]⟩ ?_
    obtain rfl:=Yi H
    exact Ym hf hX h0 (.Qo [.own 1 2 0 v2.1.length,.i v2.2]) [1] (ac (Qat Qf.nl) an) (.Qo (.cons (.own _ _ _ _) (.cons (.d (.v _)) .nil)))
 obtain ⟨n,H⟩:=Qbu H
 exact (L n) 0 H
abbrev Yc.q1 (a0:Xd) (Xn:Int):=(⟨(a0.Pairs.getD Xn.toNat Qd.z).Key,IntKind.wrap .i64 (((a0.Pairs.getD Xn.toNat Qd.z).Key)+1)⟩:Qf)
abbrev Yc.p0:List (Nat × AV):=[(1,.ptr 0 0 0 0)]
theorem Yc.Wv (a0:Xd) {r:List Qf} (H:Yc a0=some r):Zd Tryz.prog 42 [] [.d (Qc4 a0)] [Qag r] (.own 0 2 0 r.length):=by
 refine Ye Tryz.func42 rfl (nt:=46) rfl (lb rfl) fun X hP h0 hX=>?_
 have hT:Xo X.P T:=hP▸tok
 have hf:X.P.funcs[42]? = some Tryz.f42:=hP▸Tryz.func42
 refine Qh hT 9 (K42 1100 1) ⟨46,(Yc.p0++[(7,.d (Qc4 a0))]),[.box 48 (Xr a0)]⟩ ?_
 obtain ⟨v1,h1,H⟩:=ibC H
 refine Wx (Yh:=[.d (Qc4 a0)]) (dst:=some 8) (k':=(K42 1100 2)) [1,8] [] hP Qit (Qq.Wv a0 h1) (by kernel_rfl) (Wh _) (.cons (Qp _) .nil) (st':=⟨46,(Yc.p0++[(8,.b v1)]),[.box 48 (Xr a0)]⟩) (by kernel_rfl) ?_
 refine Qh hT 2 (K42 110 1) ⟨46,(Yc.p0++[(9,.b (!v1))]),[.box 48 (Xr a0)]⟩ ?_
 by_cases c2:v1=true
 ·replace H:=iT c2 H
  rw [c2]
  refine Qh hT 2 (K42 11 1) ⟨46,(Yc.p0),[.box 48 (Xr a0)]⟩ ?_
  refine Qh hT 7 (K42 1110 1) ⟨46,(Yc.p0++[(12,.b (a0.Kind == 2))]),[.box 48 (Xr a0)]⟩ ?_
  by_cases c3:a0.Kind=2
  ·replace H:=iT c3 H
   rw [eqT c3]
   refine Qh hT 8 (K42 111010 1) ⟨46,[(2,.own 1 2 0 1)],[.box 48 (Xr a0),.flat false 2 46 1 (fun j=>[Qf.e a0.Over].getD j [])]⟩ ?_
   refine Qfd 1 (kk:=2) (fz:=false) (ty:=46) (n:=([a0.Over]:List Qf).length) (vec Qf.e Qf.z ([a0.Over]:List Qf)) (by kernel_rfl) Qep (st':=⟨46,[(2,.own 1 2 0 (([a0.Over]:List Qf).length))],[.box 48 (Xr a0),Qag ([a0.Over]:List Qf)]⟩) (by kernel_rfl) ?_
   obtain rfl:=Yi H
   exact Ym hf hX h0 (.own 1 2 0 (([a0.Over]:List Qf).length)) [1] (ac (Qat Qf.nl) an) (.own _ _ _ _)
  replace H:=iF c3 H
  rw [eqF c3]
  refine Qh hT 2 (K42 111 1) ⟨46,(Yc.p0),[.box 48 (Xr a0)]⟩ ?_
  refine Qh hT 11 (K42 11111010 0) ⟨46,(Yc.p0++[(3,.ns),(4,.i 0)]),[.box 48 (Xr a0)]⟩ ?_
  refine Qb8 [1,3,4] 3 2 46 (vec Qf.e Qf.z []) (st':=⟨46,(Yc.p0++[(3,.own 1 2 0 0),(4,.i 0)]),[.box 48 (Xr a0),Qag ([]:List Qf)]⟩) (by kernel_rfl) (by kernel_rfl) ?_
  have L:∀ n,(∀ (Xn:Int) (Wm:List Qf),iter (Yc.step a0) n (.l1 Xn Wm)=some r->AK X 42 ((K42 11111010 0)) (Yq X [Qag r] (.own 0 2 0 r.length)) ⟨46,(Yc.p0++[(3,.own 1 2 0 Wm.length),(4,.i Xn)]),[.box 48 (Xr a0),Qag Wm]⟩):=by
   intro n
   induction n with
   | zero=>exact fun _ _ H=>Qay H
   | succ n ih=>
    ·intro Xn Wm H
     refine Qh hT 9 (K42 1111101000 1) ⟨46,(Yc.p0++[(3,.own 1 2 0 Wm.length),(4,.i Xn),(20,.b (decide (Xn < (a0.Pairs.length:Int))))]),[.box 48 (Xr a0),Qag Wm]⟩ ?_
     by_cases c4:Xn < (a0.Pairs.length:Int)
     ·replace H:=sT c4 H
      rw [decide_eq_true c4]
      refine Qh hT 2 (K42 111110100 1) ⟨46,(Yc.p0++[(3,.own 1 2 0 Wm.length),(4,.i Xn)]),[.box 48 (Xr a0),Qag Wm]⟩ ?_
      refine Qh hT 2 (K42 11111010010 0) ⟨46,(Yc.p0++[(3,.own 1 2 0 Wm.length),(4,.i Xn)]),[.box 48 (Xr a0),Qag Wm]⟩ ?_
      obtain ⟨h6,H⟩:=sC H
      refine Qcb (nt:=46) (hP▸mixed) 16 [15] [1,3,4] [(1,.ptr 0 0 0 0),(3,.own 1 2 0 Wm.length),(4,.i Xn)] (sm [.own 1 2 0 Wm.length,.ptr 0 0 0 3,.d (Yl true a0.Pairs),.i Xn,.d (Qcn true a0.Pairs Xn.toNat 0),.d (Qcn true a0.Pairs Xn.toNat 0),.i ((a0.Pairs.getD Xn.toNat Qd.z).Key),.ptr 0 0 0 3,.d (Yl true a0.Pairs),.i Xn,.d (Qcn true a0.Pairs Xn.toNat 0),.d (Qcn true a0.Pairs Xn.toNat 0),.i ((a0.Pairs.getD Xn.toNat Qd.z).Key),.i (IntKind.wrap .i64 (((a0.Pairs.getD Xn.toNat Qd.z).Key)+1)),.d (.agg [.i ((a0.Pairs.getD Xn.toNat Qd.z).Key),.i (IntKind.wrap .i64 (((a0.Pairs.getD Xn.toNat Qd.z).Key)+1))]),.own 2 2 0 1]) [[.box 48 (Xr a0),Qag Wm],[.box 48 (Xr a0),Qag Wm,.flat false 2 46 1 (fun j=>[[.i ((a0.Pairs.getD Xn.toNat Qd.z).Key),.i (IntKind.wrap .i64 (((a0.Pairs.getD Xn.toNat Qd.z).Key)+1))]].getD j [])]] (by kernel_rfl) (by kernel_rfl) (by kernel_rfl) (by kernel_rfl) ⟨?_,(Qdg hT),?_⟩ ?_
      iterate 2 exact (Qdt (We (We (We (We (Zu (We (We (We (We (We (Zu (We (We (We (We Qf2 hT) hT) hT) hT) (fun R rest h=>Xw hT (i:=Xn) (n:=(a0.Pairs.length:Int)) h6.1 h6.2 (by kernel_rfl) h)) hT) hT) hT) hT) hT) (fun R rest h=>Xw hT (i:=Xn) (n:=(a0.Pairs.length:Int)) h6.1 h6.2 (by kernel_rfl) h)) hT) hT) hT) hT))
      refine Qh hT 0 (K42 111110100100 16) ⟨46,(Yc.p0++[(4,.i Xn),(23,.own 1 2 0 Wm.length),(38,.own 2 2 0 1)]),[.box 48 (Xr a0),Qag Wm,.flat false 2 46 1 (fun j=>[[.i ((a0.Pairs.getD Xn.toNat Qd.z).Key),.i (IntKind.wrap .i64 (((a0.Pairs.getD Xn.toNat Qd.z).Key)+1))]].getD j [])]⟩ ?_
      obtain ⟨h7,H⟩:=sC H
      refine Qca (id:=1) (kk:=2) (by':=16) (t:=67) (e:=46) (z:=[.int .i64 0,.int .i64 0]) (dst:=some 39) (id2:=2) (e2:=46) (fz:=false) (k':=(K42 111110100100 17)) hT Qf.e Qf.z Wm (Yc.q1 a0 Xn) [1,4,39] (by kernel_rfl) (by kernel_rfl) (by kernel_rfl) (by kernel_rfl) (by kernel_rfl) (by kernel_rfl) (by kernel_rfl) h7 (by omega) (st':=⟨46,(Yc.p0++[(4,.i Xn),(39,.own 3 2 0 ((Wm ++ [(Yc.q1 a0 Xn)]).length))]),[.box 48 (Xr a0),.gone,.flat false 2 46 1 (fun j=>[[.i ((a0.Pairs.getD Xn.toNat Qd.z).Key),.i (IntKind.wrap .i64 (((a0.Pairs.getD Xn.toNat Qd.z).Key)+1))]].getD j []),Qag (Wm ++ [(Yc.q1 a0 Xn)])]⟩) (by kernel_rfl) ?_
      refine Xq hT 9 (K42 11111010 0) [0,3] ⟨46,(Yc.p0++[(3,.own 1 2 0 (Wm ++ [(Yc.q1 a0 Xn)]).length),(4,.i (IntKind.wrap .i64 (Xn+1)))]),[.box 48 (Xr a0),Qag (Wm ++ [(Yc.q1 a0 Xn)])]⟩ h0 ?_
      exact ih (IntKind.wrap .i64 (Xn+1)) (Wm ++ [(Yc.q1 a0 Xn)]) H
     replace H:=sF c4 H
     rw [decide_eq_false c4]
     refine Qh hT 5 (K42 1111110 1) ⟨46,[(41,.own 1 2 0 Wm.length)],[.box 48 (Xr a0),Qag Wm]⟩ ?_
     obtain ⟨v2,h5,H⟩:=sbC H
     refine Wx (Yh:=[.own 1 2 0 Wm.length]) (dst:=some 42) (k':=(K42 1111110 2)) [42] [] hP Wcm (Qal.Wv (t0:=false) Wm h5) (by kernel_rfl) (Wh _) (.cons (.Qds (ty:=46) (by kernel_rfl) rfl) .nil) (st':=⟨46,[(42,.Qo [.own 2 2 0 v2.1.length,.i v2.2])],[.box 48 (Xr a0),Qag Wm,Qag v2.1]⟩) (by kernel_rfl) ?_
     refine Qh hT 11 (K42 1111111 1) ⟨46,[(2,.own 2 2 0 v2.1.length)],[.box 48 (Xr a0),Qag Wm,Qag v2.1]⟩ ?_
     obtain rfl:=Yi H
     exact Ym hf hX h0 (.own 2 2 0 v2.1.length) [2] (ac (Qat Qf.nl) an) (.own _ _ _ _)
  refine Qgo [0,1] ⟨46,(Yc.p0++[(3,.own 1 2 0 ([]:List Qf).length),(4,.i 0)]),[.box 48 (Xr a0),Qag ([]:List Qf)]⟩ h0 ?_
  obtain ⟨n,H⟩:=Qbu H
  exact (L n) 0 ([]:List Qf) H
 replace H:=iF c2 H
 rw [Jk c2]
 refine Qh hT 5 (K42 11010 1) ⟨46,[(2,.ns)],[.box 48 (Xr a0)]⟩ ?_
 refine Qb8 [2] 2 2 46 (vec Qf.e Qf.z []) (st':=⟨46,[(2,.own 1 2 0 0)],[.box 48 (Xr a0),Qag ([]:List Qf)]⟩) (by kernel_rfl) (by kernel_rfl) ?_
 obtain rfl:=Yi H
 exact Ym hf hX h0 (.own 1 2 0 0) [1] (ac (Qat Qf.nl) an) (.own _ _ _ _)
end
end Go.SyP
