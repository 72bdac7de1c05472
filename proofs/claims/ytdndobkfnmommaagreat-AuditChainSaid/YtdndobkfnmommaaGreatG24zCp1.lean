/- Certificates, printed by gen.py. -/
import Derived.Test.YtdndobkfnmommaaGreatG24zCp0
set_option linter.unusedVariables false
set_option linter.unusedSimpArgs false
namespace Go.SyP
open Go Go.Sy Go.Proofs
noncomputable section
abbrev Qr.p0:List (Nat × AV):=[(1,.ptr 0 0 0 0),(2,.ptr 1 0 0 0),(3,.ptr 2 0 0 0)]
theorem Qr.Wv (a0:List Qd) {r:Qai} (H:Qr a0=some r):Yy Tryz.prog 37 [] [.d (.agg [.i 0,.i 0,.i 0,.i 0,.b false,.b false,.ns,.ns,Xq true a0,.ns])] [] (.d (Qsi r)):=by
 refine Yc Tryz.func37 rfl (nt:=131) rfl (lb rfl) fun X hP h0 hX=>?_
 have hT:Xo X.P T:=hP▸tok
 have hf:X.P.funcs[37]? = some Tryz.f37:=hP▸Tryz.func37
 refine Qh hT 6 (K37 11 0) ⟨131,[(1,.ptr 0 0 0 0),(2,.ptr 1 0 0 0)],[.box 114 (Qr.q2 a0),.box 109 (Qr.q3)]⟩ ?_
 obtain ⟨v1,h1,H⟩:=ibC H
 refine Qgq (nt:=131) (hP▸mixed) 15 [14] [1,2] [(1,.ptr 0 0 0 0),(2,.ptr 1 0 0 0)] (sm [.ptr 0 0 0 0,.i 0,.ptr 0 0 0 1,.d (.agg [.i 0,.i 0]),.ptr 0 0 0 3,.i 0,.ptr 0 0 0 4,.b false,.ptr 0 0 0 5,.b false,.ptr 0 0 0 7,.ns,.d (Yf true v1),.d (.agg [.i 0,.i 0,.i 0,.i 0,.b false,.b false,.ns,Yf true v1,.ns,.ns]),.ptr 2 0 0 0]) [[.box 114 (Qr.q2 a0),.box 109 (Qr.q3)],[.box 114 (Qr.q2 a0),.box 109 (Qr.q3),.box 109 (Qr.q3)]] (by kernel_rfl) (by kernel_rfl) (by kernel_rfl) (by kernel_rfl) ⟨?_,(Qg7 hT),?_⟩ ?_
 iterate 2 exact (Qit (Qat (Qgd (Qat (Qat (Qat (Qat (Qat (Qat (Qat (Qat (Qat (Qat (Qat (Qat Qlw hT) hT) hT) hT) hT) hT) hT) hT) hT) hT) hT) hT) (fun R rest h=>Ju (Yk:=[.ns]) (dst:=some 21) hP Wch (Yy.Wjz (Zq.Wv (t0:=true) ([]:List Qa) h1)) (by kernel_rfl) (.cons (.nil _ _) .nil) (by kernel_rfl) h)) hT))
 refine Qh hT 9 (K37 111010 0) ⟨131,(Qr.p0++[(4,.i 0)]),[.box 114 (Qr.q2 a0),.box 109 (Qr.q3),.box 109 [.i 0,.i 0,.i 0,.i 0,.b false,.b false,.ns,.d (Yf true v1),.ns,.ns]]⟩ ?_
 have L:∀ n,(∀ (_:Unit),iter (Qr.step a0 v1) n (.l1)=some r->AK X 37 ((K37 111010 0)) (Yt X [] (.d (Qsi r))) ⟨131,(Qr.p0++[(4,.i 0)]),[.box 114 (Qr.q2 a0),.box 109 (Qr.q3),.box 109 [.i 0,.i 0,.i 0,.i 0,.b false,.b false,.ns,.d (Yf true v1),.ns,.ns]]⟩)/\(∀ (Yq:Int) (Qan:List Qe),iter (Qr.step a0 v1) n (.l2 Yq Qan)=some r->AK X 37 ((K37 1111010 0)) (Yt X [] (.d (Qsi r))) ⟨131,(Qr.p0++[(7,.i Yq)]),(Qr.q1 a0 v1 Qan)⟩)/\(∀ (Qan:List Qe),iter (Qr.step a0 v1) n (.l3 Qan)=some r->AK X 37 ((K37 11111010 0)) (Yt X [] (.d (Qsi r))) ⟨131,(Qr.p0++[(8,.i 0)]),(Qr.q1 a0 v1 Qan)⟩):=by
  intro n
  induction n with
  | zero=>exact ⟨fun _ H=>Qbd H,fun _ _ H=>Qbd H,fun _ H=>Qbd H⟩
  | succ n ih=>
   refine ⟨?_, ?_, ?_⟩
   ·intro _ H
    refine Qh hT 18 (K37 1111010 0) ⟨131,(Qr.p0++[(7,.i 0)]),[.box 114 (Qr.q2 a0),.box 109 (Qr.q3),.box 109 [.i 0,.i 0,.i 0,.i 0,.b false,.b false,.ns,.d (Yf true v1),.ns,.ns]]⟩ ?_
    refine Qos (tb:=109) (cs:=[.i 0,.i 0,.i 0,.i 0,.b false,.b false,.ns,.d (Yf true v1),.ns,.ns]) 2 8 9 56 (vec Qe.e Qe.z []) (st':=⟨131,(Qr.p0++[(7,.i 0)]),[.box 114 (Qr.q2 a0),.box 109 (Qr.q3),.box 109 [.i 0,.i 0,.i 0,.i 0,.b false,.b false,.ns,.d (Yf true v1),.own 3 9 0 0,.ns],Qov ([]:List Qe)]⟩) (by kernel_rfl) (by kernel_rfl) ?_
    refine Qhm [0,1,2,3] ⟨131,(Qr.p0++[(7,.i 0)]),[.box 114 (Qr.q2 a0),.box 109 (Qr.q3),.box 109 [.i 0,.i 0,.i 0,.i 0,.b false,.b false,.ns,.d (Yf true v1),.own 3 9 0 ([]:List Qe).length,.ns],Qov ([]:List Qe)]⟩ h0 ?_
    exact ih.2.1 0 ([]:List Qe) H
   ·intro Yq Qan H
    refine Qh hT 9 (K37 111101000 1) ⟨131,(Qr.p0++[(7,.i Yq),(85,.b (decide (Yq < (a0.length:Int))))]),(Qr.q1 a0 v1 Qan)⟩ ?_
    by_cases c2:Yq < (a0.length:Int)
    ·replace H:=sT c2 H
     rw [decide_eq_true c2]
     refine Qh hT 2 (K37 11110100 1) (Qr.s1 Yq a0 v1 Qan) ?_
     refine Qh hT 2 (K37 1111010010 0) (Qr.s1 Yq a0 v1 Qan) ?_
     obtain ⟨h3,H⟩:=sC H
     obtain ⟨v2,h4,H⟩:=sbC H
     refine Qgq (nt:=131) (hP▸mixed) 23 [22] [1,2,3,7] [(1,.ptr 0 0 0 0),(2,.ptr 1 0 0 0),(3,.ptr 2 0 0 0),(7,.i Yq)] (sm [.ptr 2 0 0 8,.own 3 9 0 Qan.length,.ptr 0 0 0 8,.d (Xq true a0),.i Yq,.d (Qjx true a0 Yq.toNat 0),.d (Qjx true a0 Yq.toNat 0),.d (Qas ((a0.getD Yq.toNat Qd.z).M)),.d (Qcb v2),.ptr 0 0 0 8,.d (Xq true a0),.i Yq,.d (Qjx true a0 Yq.toNat 0),.d (Qjx true a0 Yq.toNat 7),.i ((a0.getD Yq.toNat Qd.z).Time),.ptr 0 0 0 8,.d (Xq true a0),.i Yq,.d (Qjx true a0 Yq.toNat 0),.d (Qjx true a0 Yq.toNat 8),.b ((a0.getD Yq.toNat Qd.z).Jt),.d (.agg [.i v2.Client,.i v2.Seq,.i v2.Kind,Yf true v2.Pairs,.i v2.Over.Lo,.i v2.Over.Hi,.i v2.Old,.i ((a0.getD Yq.toNat Qd.z).Time),.b ((a0.getD Yq.toNat Qd.z).Jt)]),.own 4 9 0 1]) [[.box 114 (Qr.q2 a0),.box 109 (Qr.q3),.box 109 (Qr.q4 v1 Qan),Qov Qan],[.box 114 (Qr.q2 a0),.box 109 (Qr.q3),.box 109 (Qr.q4 v1 Qan),Qov Qan,.flat false 9 56 1 (fun j=>[[.i v2.Client,.i v2.Seq,.i v2.Kind,Yf true v2.Pairs,.i v2.Over.Lo,.i v2.Over.Hi,.i v2.Old,.i ((a0.getD Yq.toNat Qd.z).Time),.b ((a0.getD Yq.toNat Qd.z).Jt)]].getD j [])]] (by kernel_rfl) (by kernel_rfl) (by kernel_rfl) (by kernel_rfl) ⟨?_,(Qg7 hT),?_⟩ ?_
     iterate 2 exact (Qit (Qat (Qat (Qat (Qgd (Qat (Qat (Qat (Qat (Qat (Qgd (Qat (Qat (Qat (Qgd (Qat (Qat (Qgd (Qat (Qat (Qat (Qat (Qat Qlw hT) hT) hT) hT) hT) (fun R rest h=>Zd hT (i:=Yq) (n:=(a0.length:Int)) h3.1 h3.2 (by kernel_rfl) h)) hT) hT) (fun R rest h=>Ju (Yk:=[.d (Qas ((a0.getD Yq.toNat Qd.z).M))]) (dst:=some 96) hP Qki (Xa.Wv ((a0.getD Yq.toNat Qd.z).M) h4) (by kernel_rfl) (.cons (Qp _) .nil) (by kernel_rfl) h)) hT) hT) hT) (fun R rest h=>Zd hT (i:=Yq) (n:=(a0.length:Int)) h3.1 h3.2 (by kernel_rfl) h)) hT) hT) hT) hT) hT) (fun R rest h=>Zd hT (i:=Yq) (n:=(a0.length:Int)) h3.1 h3.2 (by kernel_rfl) h)) hT) hT) hT))
     refine Qh hT 0 (K37 11110100100 23) ⟨131,(Qr.p0++[(7,.i Yq),(89,.own 3 9 0 Qan.length),(110,.own 4 9 0 1)]),[.box 114 (Qr.q2 a0),.box 109 (Qr.q3),.box 109 (Qr.q4 v1 Qan),Qov Qan,.flat false 9 56 1 (fun j=>[[.i v2.Client,.i v2.Seq,.i v2.Kind,Yf true v2.Pairs,.i v2.Over.Lo,.i v2.Over.Hi,.i v2.Old,.i ((a0.getD Yq.toNat Qd.z).Time),.b ((a0.getD Yq.toNat Qd.z).Jt)]].getD j [])]⟩ ?_
     obtain ⟨h5,H⟩:=sC H
     refine Qcw (id:=3) (kk:=9) (by':=88) (t:=52) (e:=56) (z:=[.int .i64 0,.int .i64 0,.int .i64 0,.slice none 0 0,.int .i64 0,.int .i64 0,.int .i64 0,.int .i64 0,.bool false]) (dst:=some 111) (id2:=4) (e2:=56) (fz:=false) (k':=(K37 11110100100 24)) hT Qe.e Qe.z Qan (⟨v2,(a0.getD Yq.toNat Qd.z).Time,(a0.getD Yq.toNat Qd.z).Jt⟩:Qe) [1,2,3,7,111] (by kernel_rfl) (by kernel_rfl) (by kernel_rfl) (by kernel_rfl) (by kernel_rfl) (by kernel_rfl) (by kernel_rfl) h5 (by omega) (st':=⟨131,(Qr.p0++[(7,.i Yq),(111,.own 5 9 0 ((Qan ++ [(⟨v2,(a0.getD Yq.toNat Qd.z).Time,(a0.getD Yq.toNat Qd.z).Jt⟩:Qe)]).length))]),[.box 114 (Qr.q2 a0),.box 109 (Qr.q3),.box 109 (Qr.q4 v1 Qan),.gone,.flat false 9 56 1 (fun j=>[[.i v2.Client,.i v2.Seq,.i v2.Kind,Yf true v2.Pairs,.i v2.Over.Lo,.i v2.Over.Hi,.i v2.Old,.i ((a0.getD Yq.toNat Qd.z).Time),.b ((a0.getD Yq.toNat Qd.z).Jt)]].getD j []),Qov (Qan ++ [(⟨v2,(a0.getD Yq.toNat Qd.z).Time,(a0.getD Yq.toNat Qd.z).Jt⟩:Qe)])]⟩) (by kernel_rfl) ?_
     refine Xn hT 10 (K37 1111010 0) [0,1,2,5] ⟨131,(Qr.p0++[(7,.i (IntKind.wrap .i64 (Yq+1)))]),[.box 114 (Qr.q2 a0),.box 109 (Qr.q3),.box 109 [.i 0,.i 0,.i 0,.i 0,.b false,.b false,.ns,.d (Yf true v1),.own 3 9 0 (Qan ++ [(⟨v2,(a0.getD Yq.toNat Qd.z).Time,(a0.getD Yq.toNat Qd.z).Jt⟩:Qe)]).length,.ns],Qov (Qan ++ [(⟨v2,(a0.getD Yq.toNat Qd.z).Time,(a0.getD Yq.toNat Qd.z).Jt⟩:Qe)])]⟩ h0 ?_
     exact ih.2.1 (IntKind.wrap .i64 (Yq+1)) (Qan ++ [(⟨v2,(a0.getD Yq.toNat Qd.z).Time,(a0.getD Yq.toNat Qd.z).Jt⟩:Qe)]) H
    replace H:=sF c2 H
    rw [decide_eq_false c2]
    refine Qh hT 9 (K37 11111010 0) ⟨131,(Qr.p0++[(8,.i 0)]),(Qr.q1 a0 v1 Qan)⟩ ?_
    exact ih.2.2 Qan H
   intro Qan H
   refine Qh hT 14 (K37 1111110 1) ⟨131,[(2,.ptr 1 0 0 0),(130,.agg [.i 0,.i 0,.i 0,.i 0,.b false,.b false,.ns,.d (Yf true v1),.own 3 9 0 Qan.length,.ns])],(Qr.q1 a0 v1 Qan)⟩ ?_
   refine Qdp 3 (kk:=9) (n:=Qan.length) (ty:=56) (g:=vec Qe.e Qe.z Qan) (by kernel_rfl) (st':=⟨131,[(2,.ptr 1 0 0 0),(130,.agg [.i 0,.i 0,.i 0,.i 0,.b false,.b false,.ns,.d (Yf true v1),.own 3 9 0 Qan.length,.ns])],[.box 114 (Qr.q2 a0),.box 109 (Qr.q3),.box 109 (Qr.q4 v1 Qan),We9 Qan]⟩) (by kernel_rfl) ?_
   refine Qdt (av:=.agg [.i 0,.i 0,.i 0,.i 0,.b false,.b false,.ns,.d (Yf true v1),.own 3 9 0 Qan.length,.ns]) (y:=.agg [.i 0,.i 0,.i 0,.i 0,.b false,.b false,Qvm true ([]:List Zr),Yf true v1,Qbq true Qan,Qvn true ([]:List Jo)]) [2,130] 130 (st':=⟨131,[(2,.ptr 1 0 0 0),(130,.d (.agg [.i 0,.i 0,.i 0,.i 0,.b false,.b false,Qvm true ([]:List Zr),Yf true v1,Qbq true Qan,Qvn true ([]:List Jo)]))],[.box 114 (Qr.q2 a0),.box 109 (Qr.q3),.box 109 (Qr.q4 v1 Qan),We9 Qan]⟩) (by kernel_rfl) (.agg (.cons (.d _) (.cons (.d _) (.cons (.d _) (.cons (.d _) (.cons (.d _) (.cons (.d _) (.cons (.nil _) (.cons (.d _) (.cons (.own (ty:=56) (k:=9) (by kernel_rfl)) (.cons (.nil _) .nil))))))))))) (by kernel_rfl) ?_
   refine Qh hT 2 (K37 111111 1) ⟨131,[(2,.ptr 1 0 0 0)],[.box 114 (Qr.q2 a0),.box 109 [.i 0,.i 0,.i 0,.i 0,.b false,.b false,.d (Qvm true ([]:List Zr)),.d (Yf true v1),.d (Qbq true Qan),.d (Qvn true ([]:List Jo))],.box 109 (Qr.q4 v1 Qan),We9 Qan]⟩ ?_
   obtain rfl:=Yg H
   exact Qdz hT hf hX (av:=.d (.agg [.i 0,.i 0,.i 0,.i 0,.b false,.b false,Qvm true ([]:List Zr),Yf true v1,Qbq true Qan,Qvn true ([]:List Jo)])) (by kernel_rfl) [] (Jh (by kernel_rfl)) (by decide) (by rw [h0];rfl) (by kernel_rfl) an (.d (.agg (Qai.nl _)))
 obtain ⟨n,H⟩:=Qbz H
 exact (L n).1 () H
theorem Qa2.Wv (a0:List Qd) {r:List Qe} (H:Qa2 a0=some r):Yy Tryz.prog 13 [] [.d (Xq true a0)] [] (.d (Qbq true r)):=by
 refine Yc Tryz.func13 rfl (nt:=7) rfl (lb rfl) fun X hP h0 hX=>?_
 have hT:Xo X.P T:=hP▸tok
 have hf:X.P.funcs[13]? = some Tryz.f13:=hP▸Tryz.func13
 refine Qh hT 8 (K13 110 2) ⟨7,[(4,.d (.agg [.i 0,.i 0,.i 0,.i 0,.b false,.b false,.ns,.ns,Xq true a0,.ns]))],[]⟩ ?_
 obtain ⟨v1,h1,H⟩:=ibC H
 refine Ws (Yk:=[.d (.agg [.i 0,.i 0,.i 0,.i 0,.b false,.b false,.ns,.ns,Xq true a0,.ns])]) (dst:=some 5) (k':=(K13 110 3)) [5] [] hP Wb2 (Qr.Wv a0 h1) (by kernel_rfl) (Qz _) (.cons (Qp _) .nil) (st':=⟨7,[(5,.d (Qsi v1))],[]⟩) (by kernel_rfl) ?_
 refine Qh hT 3 (K13 11 1) ⟨7,[(2,.d (Qbq true v1.Log))],[]⟩ ?_
 obtain rfl:=Yg H
 exact Yi hf hX h0 (.d (Qbq true v1.Log)) [] an (.d (.sl fun _ _=>Qe.nl _))
abbrev Xh.s1 (a0:Qk) (a1:Qk):St:=⟨66,[(2,.ptr 0 0 0 0),(3,.ptr 1 0 0 0),(47,.b true)],[.box 48 (Xx a0),.box 48 (Xx a1)]⟩
abbrev Xh.p0:List (Nat × AV):=[(2,.ptr 0 0 0 0),(3,.ptr 1 0 0 0)]
theorem Xh.Wv (a0:Qk) (a1:Qk) {r:Bool} (H:Xh a0 a1=some r):Yy Tryz.prog 38 [] [.d (Qcb a0),.d (Qcb a1)] [] (.b r):=by
 refine Yc Tryz.func38 rfl (nt:=66) rfl (lb rfl) fun X hP h0 hX=>?_
 have hT:Xo X.P T:=hP▸tok
 have hf:X.P.funcs[38]? = some Tryz.f38:=hP▸Tryz.func38
 have Yn:∀ (Qqv:Bool),(Xh.j1 a0 a1 Qqv)=some r->AK X 38 ((K38 110 1)) (Yt X [] (.b r)) ⟨66,(Xh.p0++[(47,.b Qqv)]),[.box 48 (Xx a0),.box 48 (Xx a1)]⟩:=by
  intro Qqv H
  by_cases c8:Qqv=true
  ·replace H:=iT c8 H
   rw [c8]
   refine Qh hT 5 (K38 11010 1) ⟨66,[(4,.b false)],[.box 48 (Xx a0),.box 48 (Xx a1)]⟩ ?_
   obtain rfl:=Yg H
   exact Yi hf hX h0 (.b false) [] an (.d (.v _))
  replace H:=iF c8 H
  rw [Zz c8]
  refine Qh hT 2 (K38 11 1) ⟨66,(Xh.p0),[.box 48 (Xx a0),.box 48 (Xx a1)]⟩ ?_
  refine Qh hT 7 (K38 111010 0) ⟨66,(Xh.p0++[(5,.i 0)]),[.box 48 (Xx a0),.box 48 (Xx a1)]⟩ ?_
  have L:∀ n,(∀ (Xb:Int),iter (Xh.step a0 a1) n (.l1 Xb)=some r->AK X 38 ((K38 111010 0)) (Yt X [] (.b r)) ⟨66,(Xh.p0++[(5,.i Xb)]),[.box 48 (Xx a0),.box 48 (Xx a1)]⟩):=by
   intro n
   induction n with
   | zero=>exact fun _ H=>Qbd H
   | succ n ih=>
    ·intro Xb H
     refine Qh hT 9 (K38 11101000 1) ⟨66,(Xh.p0++[(5,.i Xb),(52,.b (decide (Xb < (a0.Pairs.length:Int))))]),[.box 48 (Xx a0),.box 48 (Xx a1)]⟩ ?_
     by_cases c9:Xb < (a0.Pairs.length:Int)
     ·replace H:=sT c9 H
      rw [decide_eq_true c9]
      refine Qh hT 2 (K38 1110100 1) ⟨66,(Xh.p0++[(5,.i Xb)]),[.box 48 (Xx a0),.box 48 (Xx a1)]⟩ ?_
      refine Qh hT 3 (K38 1110100100 0) ⟨66,(Xh.p0++[(5,.i Xb)]),[.box 48 (Xx a0),.box 48 (Xx a1)]⟩ ?_
      obtain ⟨h10,H⟩:=sC H
      obtain ⟨h11,H⟩:=sC H
      refine Qax (hP▸mixed) 11 [2,3,5] (sm [.ptr 0 0 0 3,.d (Yf true a0.Pairs),.i Xb,.d (Qcv true a0.Pairs Xb.toNat 0),.d (Wih (a0.Pairs.getD Xb.toNat Qc.z)),.ptr 1 0 0 3,.d (Yf true a1.Pairs),.i Xb,.d (Qcv true a1.Pairs Xb.toNat 0),.d (Wih (a1.Pairs.getD Xb.toNat Qc.z)),.b (!((((a0.Pairs.getD Xb.toNat Qc.z).Key) == ((a1.Pairs.getD Xb.toNat Qc.z).Key)) && (((a0.Pairs.getD Xb.toNat Qc.z).Val) == ((a1.Pairs.getD Xb.toNat Qc.z).Val))))]) (Qg (Qg (Jn (Qg (Qg (Qg (Qg (Jn (Qg (Qg (Qg op0 hT) hT) hT) (fun R rest h=>Zd hT (i:=Xb) (n:=(a0.Pairs.length:Int)) h10.1 h10.2 (by kernel_rfl) h)) hT) hT) hT) hT) (fun R rest h=>Zd hT (i:=Xb) (n:=(a1.Pairs.length:Int)) h11.1 h11.2 (by kernel_rfl) h)) hT) hT) ?_
      refine Qh hT 1 (K38 1110100100 1) ⟨66,(Xh.p0++[(5,.i Xb),(65,.b (!((((a0.Pairs.getD Xb.toNat Qc.z).Key) == ((a1.Pairs.getD Xb.toNat Qc.z).Key)) && (((a0.Pairs.getD Xb.toNat Qc.z).Val) == ((a1.Pairs.getD Xb.toNat Qc.z).Val)))))]),[.box 48 (Xx a0),.box 48 (Xx a1)]⟩ ?_
      by_cases c12:((a0.Pairs.getD Xb.toNat Qc.z).Key)=((a1.Pairs.getD Xb.toNat Qc.z).Key)
      ·replace H:=sT c12 H
       rw [eqT c12]
       by_cases c13:((a0.Pairs.getD Xb.toNat Qc.z).Val)=((a1.Pairs.getD Xb.toNat Qc.z).Val)
       ·replace H:=sT c13 H
        rw [eqT c13]
        refine Qh hT 3 (K38 11101001 1) ⟨66,(Xh.p0++[(5,.i Xb)]),[.box 48 (Xx a0),.box 48 (Xx a1)]⟩ ?_
        refine Qh hT 6 (K38 111010 0) ⟨66,(Xh.p0++[(5,.i (IntKind.wrap .i64 (Xb+1)))]),[.box 48 (Xx a0),.box 48 (Xx a1)]⟩ ?_
        exact ih (IntKind.wrap .i64 (Xb+1)) H
       replace H:=sF c13 H
       rw [eqF c13]
       refine Qh hT 5 (K38 111010010010 1) ⟨66,[(4,.b false)],[.box 48 (Xx a0),.box 48 (Xx a1)]⟩ ?_
       obtain rfl:=Yg H
       exact Yi hf hX h0 (.b false) [] an (.d (.v _))
      replace H:=sF c12 H
      rw [eqF c12]
      by_cases c14:((a0.Pairs.getD Xb.toNat Qc.z).Val)=((a1.Pairs.getD Xb.toNat Qc.z).Val)
      ·replace H:=sT c14 H
       rw [eqT c14]
       refine Qh hT 5 (K38 111010010010 1) ⟨66,[(4,.b false)],[.box 48 (Xx a0),.box 48 (Xx a1)]⟩ ?_
       obtain rfl:=Yg H
       exact Yi hf hX h0 (.b false) [] an (.d (.v _))
      replace H:=sF c14 H
      rw [eqF c14]
      refine Qh hT 5 (K38 111010010010 1) ⟨66,[(4,.b false)],[.box 48 (Xx a0),.box 48 (Xx a1)]⟩ ?_
      obtain rfl:=Yg H
      exact Yi hf hX h0 (.b false) [] an (.d (.v _))
     replace H:=sF c9 H
     rw [decide_eq_false c9]
     refine Qh hT 6 (K38 1111 1) ⟨66,[(4,.b true)],[.box 48 (Xx a0),.box 48 (Xx a1)]⟩ ?_
     obtain rfl:=Yg H
     exact Yi hf hX h0 (.b true) [] an (.d (.v _))
  obtain ⟨n,H⟩:=Qbz H
  exact (L n) 0 H
 refine Qh hT 15 (K38 1100 6) ⟨66,(Xh.p0++[(11,.b (a0.Client != a1.Client))]),[.box 48 (Xx a0),.box 48 (Xx a1)]⟩ ?_
 by_cases c1:a0.Client=a1.Client
 ·replace H:=iT c1 H
  rw [neF c1]
  refine Qh hT 7 (K38 1100 13) ⟨66,(Xh.p0++[(18,.b (a0.Seq != a1.Seq))]),[.box 48 (Xx a0),.box 48 (Xx a1)]⟩ ?_
  by_cases c2:a0.Seq=a1.Seq
  ·replace H:=iT c2 H
   rw [neF c2]
   refine Qh hT 7 (K38 1100 20) ⟨66,(Xh.p0++[(25,.b (a0.Kind != a1.Kind))]),[.box 48 (Xx a0),.box 48 (Xx a1)]⟩ ?_
   by_cases c3:a0.Kind=a1.Kind
   ·replace H:=iT c3 H
    rw [neF c3]
    refine Qh hT 7 (K38 1100 27) ⟨66,(Xh.p0++[(32,.b (!((a0.Over.Lo == a1.Over.Lo) && (a0.Over.Hi == a1.Over.Hi))))]),[.box 48 (Xx a0),.box 48 (Xx a1)]⟩ ?_
    by_cases c4:a0.Over.Lo=a1.Over.Lo
    ·replace H:=iT c4 H
     rw [eqT c4]
     by_cases c5:a0.Over.Hi=a1.Over.Hi
     ·replace H:=iT c5 H
      rw [eqT c5]
      refine Qh hT 7 (K38 1100 34) ⟨66,(Xh.p0++[(39,.b (a0.Old != a1.Old))]),[.box 48 (Xx a0),.box 48 (Xx a1)]⟩ ?_
      by_cases c6:a0.Old=a1.Old
      ·replace H:=iT c6 H
       rw [neF c6]
       refine Qh hT 9 (K38 110 1) ⟨66,(Xh.p0++[(47,.b ((a0.Pairs.length:Int) != (a1.Pairs.length:Int)))]),[.box 48 (Xx a0),.box 48 (Xx a1)]⟩ ?_
       exact Yn ((a0.Pairs.length:Int) != (a1.Pairs.length:Int)) H
      replace H:=iF c6 H
      rw [neT c6]
      refine Qh hT 9 (K38 110 1) (Xh.s1 a0 a1) ?_
      exact Yn true H
     replace H:=iF c5 H
     rw [eqF c5]
     refine Qh hT 16 (K38 110 1) (Xh.s1 a0 a1) ?_
     exact Yn true H
    replace H:=iF c4 H
    rw [eqF c4]
    by_cases c7:a0.Over.Hi=a1.Over.Hi
    ·replace H:=iT c7 H
     rw [eqT c7]
     refine Qh hT 16 (K38 110 1) (Xh.s1 a0 a1) ?_
     exact Yn true H
    replace H:=iF c7 H
    rw [eqF c7]
    refine Qh hT 16 (K38 110 1) (Xh.s1 a0 a1) ?_
    exact Yn true H
   replace H:=iF c3 H
   rw [neT c3]
   refine Qh hT 23 (K38 110 1) (Xh.s1 a0 a1) ?_
   exact Yn true H
  replace H:=iF c2 H
  rw [neT c2]
  refine Qh hT 30 (K38 110 1) (Xh.s1 a0 a1) ?_
  exact Yn true H
 replace H:=iF c1 H
 rw [neT c1]
 refine Qh hT 37 (K38 110 1) (Xh.s1 a0 a1) ?_
 exact Yn true H
abbrev Xm.p0 (t0:Bool) (a0:List Qd) (t1:Bool) (a1:List Qy):List (Nat × AV):=[(0,.d (Xq t0 a0)),(1,.d (Qdb t1 a1))]
theorem Xm.Wv {t0:Bool} {t1:Bool} (a0:List Qd) (a1:List Qy) {r:Bool} (H:Xm a0 a1=some r):Yy Tryz.prog 5 [] [.d (Xq t0 a0),.d (Qdb t1 a1)] [] (.b r):=by
 refine Yc Tryz.func5 rfl (nt:=43) rfl (lb rfl) fun X hP h0 hX=>?_
 have hT:Xo X.P T:=hP▸tok
 have hf:X.P.funcs[5]? = some Tryz.f5:=hP▸Tryz.func5
 refine Qh hT 11 (K5 11010 0) ⟨43,(Xm.p0 t0 a0 t1 a1++[(5,.i 0)]),[]⟩ ?_
 have L:∀ n,(∀ (Xb:Int),iter (Xm.step a0 a1) n (.l1 Xb)=some r->AK X 5 ((K5 11010 0)) (Yt X [] (.b r)) ⟨43,(Xm.p0 t0 a0 t1 a1++[(5,.i Xb)]),[]⟩)/\(∀ (Qco:Int),iter (Xm.step a0 a1) n (.l2 Qco)=some r->AK X 5 ((K5 111010 0)) (Yt X [] (.b r)) ⟨43,[(1,.d (Qdb t1 a1)),(6,.i Qco)],[]⟩):=by
  intro n
  induction n with
  | zero=>exact ⟨fun _ H=>Qbd H,fun _ H=>Qbd H⟩
  | succ n ih=>
   refine ⟨?_, ?_⟩
   ·intro Xb H
    refine Qh hT 8 (K5 1101000 1) ⟨43,(Xm.p0 t0 a0 t1 a1++[(5,.i Xb),(10,.b (decide (Xb < (a0.length:Int))))]),[]⟩ ?_
    by_cases c1:Xb < (a0.length:Int)
    ·replace H:=sT c1 H
     have Yn:∀ (Qhk:Bool),stk (Xm.j1 Xb Qhk) (iter (Xm.step a0 a1) n)=some r->AK X 5 ((K5 110100100 1)) (Yt X [] (.b r)) ⟨43,(Xm.p0 t0 a0 t1 a1++[(5,.i Xb),(24,.b Qhk)]),[]⟩:=by
      intro Qhk H
      by_cases c4:Qhk=true
      ·replace H:=sT c4 H
       rw [c4]
       refine Qh hT 5 (K5 11010010010 1) ⟨43,[(4,.b false)],[]⟩ ?_
       obtain rfl:=Yg H
       exact Yi hf hX h0 (.b false) [] an (.d (.v _))
      replace H:=sF c4 H
      rw [Zz c4]
      refine Qh hT 3 (K5 1101001 1) ⟨43,(Xm.p0 t0 a0 t1 a1++[(5,.i Xb)]),[]⟩ ?_
      refine Qh hT 6 (K5 11010 0) ⟨43,(Xm.p0 t0 a0 t1 a1++[(5,.i (IntKind.wrap .i64 (Xb+1)))]),[]⟩ ?_
      exact ih.1 (IntKind.wrap .i64 (Xb+1)) H
     rw [decide_eq_true c1]
     refine Qh hT 2 (K5 110100 1) ⟨43,(Xm.p0 t0 a0 t1 a1++[(5,.i Xb)]),[]⟩ ?_
     refine Qh hT 7 (K5 1101001000 3) ⟨43,(Xm.p0 t0 a0 t1 a1++[(5,.i Xb),(15,.b (decide (Xb>=30)))]),[]⟩ ?_
     by_cases c2:Xb>=30
     ·replace H:=sT c2 H
      rw [decide_eq_true c2]
      refine Qh hT 10 (K5 110100100 1) ⟨43,(Xm.p0 t0 a0 t1 a1++[(5,.i Xb),(24,.b true)]),[]⟩ ?_
      exact Yn true H
     replace H:=sF c2 H
     rw [decide_eq_false c2]
     refine Qh hT 2 (K5 1101001000 5) ⟨43,(Xm.p0 t0 a0 t1 a1++[(5,.i Xb),(15,.b false),(16,.d (Xq t0 a0)),(17,.i Xb)]),[]⟩ ?_
     obtain ⟨h3,H⟩:=sC H
     refine Jf hT [0,1,5,15,18] (i:=Xb) (n:=(a0.length:Int)) h3.1 h3.2 (k':=(K5 1101001000 6)) (st':=⟨43,(Xm.p0 t0 a0 t1 a1++[(5,.i Xb),(15,.b false),(18,.d (Qjx t0 a0 Xb.toNat 0))]),[]⟩) (by kernel_rfl) ?_
     refine Qh hT 7 (K5 110100100 1) ⟨43,(Xm.p0 t0 a0 t1 a1++[(5,.i Xb),(24,.b (decide (((((a0.getD Xb.toNat Qd.z).M).Pairs).length:Int) > 10)))]),[]⟩ ?_
     exact Yn (decide (((((a0.getD Xb.toNat Qd.z).M).Pairs).length:Int) > 10)) H
    replace H:=sF c1 H
    rw [decide_eq_false c1]
    refine Qh hT 9 (K5 111010 0) ⟨43,[(1,.d (Qdb t1 a1)),(6,.i 0)],[]⟩ ?_
    exact ih.2 0 H
   intro Qco H
   refine Qh hT 8 (K5 11101000 1) ⟨43,[(1,.d (Qdb t1 a1)),(6,.i Qco),(28,.b (decide (Qco < (a1.length:Int))))],[]⟩ ?_
   by_cases c5:Qco < (a1.length:Int)
   ·replace H:=sT c5 H
    have Jj2:∀ (Qqy:Bool),stk (Xm.j2 Qco Qqy) (iter (Xm.step a0 a1) n)=some r->AK X 5 ((K5 1110100100 1)) (Yt X [] (.b r)) ⟨43,[(1,.d (Qdb t1 a1)),(6,.i Qco),(42,.b Qqy)],[]⟩:=by
     intro Qqy H
     by_cases c8:Qqy=true
     ·replace H:=sT c8 H
      rw [c8]
      refine Qh hT 5 (K5 111010010010 1) ⟨43,[(4,.b false)],[]⟩ ?_
      obtain rfl:=Yg H
      exact Yi hf hX h0 (.b false) [] an (.d (.v _))
     replace H:=sF c8 H
     rw [Zz c8]
     refine Qh hT 3 (K5 11101001 1) ⟨43,[(1,.d (Qdb t1 a1)),(6,.i Qco)],[]⟩ ?_
     refine Qh hT 6 (K5 111010 0) ⟨43,[(1,.d (Qdb t1 a1)),(6,.i (IntKind.wrap .i64 (Qco+1)))],[]⟩ ?_
     exact ih.2 (IntKind.wrap .i64 (Qco+1)) H
    rw [decide_eq_true c5]
    refine Qh hT 2 (K5 1110100 1) ⟨43,[(1,.d (Qdb t1 a1)),(6,.i Qco)],[]⟩ ?_
    refine Qh hT 7 (K5 11101001000 3) ⟨43,[(1,.d (Qdb t1 a1)),(6,.i Qco),(33,.b (decide (Qco>=30)))],[]⟩ ?_
    by_cases c6:Qco>=30
    ·replace H:=sT c6 H
     rw [decide_eq_true c6]
     refine Qh hT 10 (K5 1110100100 1) ⟨43,[(1,.d (Qdb t1 a1)),(6,.i Qco),(42,.b true)],[]⟩ ?_
     exact Jj2 true H
    replace H:=sF c6 H
    rw [decide_eq_false c6]
    refine Qh hT 2 (K5 11101001000 5) ⟨43,[(1,.d (Qdb t1 a1)),(6,.i Qco),(33,.b false),(34,.d (Qdb t1 a1)),(35,.i Qco)],[]⟩ ?_
    obtain ⟨h7,H⟩:=sC H
    refine Jf hT [1,6,33,36] (i:=Qco) (n:=(a1.length:Int)) h7.1 h7.2 (k':=(K5 11101001000 6)) (st':=⟨43,[(1,.d (Qdb t1 a1)),(6,.i Qco),(33,.b false),(36,.d (Wij t1 a1 Qco.toNat 0))],[]⟩) (by kernel_rfl) ?_
    refine Qh hT 7 (K5 1110100100 1) ⟨43,[(1,.d (Qdb t1 a1)),(6,.i Qco),(42,.b (decide (((((a1.getD Qco.toNat Qy.z).M).Pairs).length:Int) > 10)))],[]⟩ ?_
    exact Jj2 (decide (((((a1.getD Qco.toNat Qy.z).M).Pairs).length:Int) > 10)) H
   replace H:=sF c5 H
   rw [decide_eq_false c5]
   refine Qh hT 6 (K5 1111 1) ⟨43,[(4,.b true)],[]⟩ ?_
   obtain rfl:=Yg H
   exact Yi hf hX h0 (.b true) [] an (.d (.v _))
 obtain ⟨n,H⟩:=Qbz H
 exact (L n).1 0 H
theorem Qg0.Wv (a0:Qb):Yy Tryz.prog 103 [] [.d (Qfg a0)] [] (.b (Qg0 a0)):=by
 obtain ⟨r,H⟩:∃ r,Qg0 a0=r:=⟨_,rfl⟩
 rw [H]
 refine Yc Tryz.func103 rfl (nt:=6) rfl (lb rfl) fun X hP h0 hX=>?_
 have hT:Xo X.P T:=hP▸tok
 have hf:X.P.funcs[103]? = some Tryz.f103:=hP▸Tryz.func103
 refine Qh hT 8 (Wel 110 1) ⟨6,[(3,.d (Qfg a0))],[.box 33 (Qez a0)]⟩ ?_
 refine Ws (Yk:=[.d (Qfg a0)]) (dst:=some 4) (k':=(Wel 110 2)) [4] [] hP Qi0 (Qbj.Wv a0) (by kernel_rfl) (Qz _) (.cons (Qp _) .nil) (st':=⟨6,[(4,.b (Qbj a0))],[.box 33 (Qez a0)]⟩) (by kernel_rfl) ?_
 refine Qh hT 3 (Wel 11 1) ⟨6,[(2,.b (!(Qbj a0)))],[.box 33 (Qez a0)]⟩ ?_
 obtain rfl:=H
 exact Yi hf hX h0 (.b (!(Qbj a0))) [] an (.d (.v _))
theorem Yr.Wv (a0:Qb) (a1:Qb):Yy Tryz.prog 106 [] [.d (Qfg a0),.d (Qfg a1)] [] (.i (Yr a0 a1)):=by
 obtain ⟨r,H⟩:∃ r,Yr a0 a1=r:=⟨_,rfl⟩
 rw [H]
 refine Yc Tryz.func106 rfl (nt:=10) rfl (lb rfl) fun X hP h0 hX=>?_
 have hT:Xo X.P T:=hP▸tok
 have hf:X.P.funcs[106]? = some Tryz.f106:=hP▸Tryz.func106
 refine Qh hT 12 (Wem 110 4) ⟨10,[(6,.i a0.Lo),(8,.i a1.Lo)],[.box 33 (Qez a0),.box 33 (Qez a1)]⟩ ?_
 refine Ws (Yk:=[.i a0.Lo,.i a1.Lo]) (dst:=some 9) (k':=(Wem 110 5)) [9] [] hP Qkl (Zc.Wv a0.Lo a1.Lo) (by kernel_rfl) (Qz _) (.cons (Qp _) (.cons (Qp _) .nil)) (st':=⟨10,[(9,.i (Zc a0.Lo a1.Lo))],[.box 33 (Qez a0),.box 33 (Qez a1)]⟩) (by kernel_rfl) ?_
 refine Qh hT 2 (Wem 11 1) ⟨10,[(4,.i (Zc a0.Lo a1.Lo))],[.box 33 (Qez a0),.box 33 (Qez a1)]⟩ ?_
 obtain rfl:=H
 exact Yi hf hX h0 (.i (Zc a0.Lo a1.Lo)) [] an (.d (.v _))
theorem Qew.Wv (a0:List Qb):Yy Tryz.prog 107 [] [.d (Xd true a0)] [] (.Qn [.d (Xd true ((Qew a0).1)),.i ((Qew a0).2)]):=by
 obtain ⟨r,H⟩:∃ r,Qew a0=r:=⟨_,rfl⟩
 rw [H]
 refine Yc Tryz.func107 rfl (nt:=8) rfl (lb rfl) fun X hP h0 hX=>?_
 have hT:Xo X.P T:=hP▸tok
 have hf:X.P.funcs[107]? = some Tryz.f107:=hP▸Tryz.func107
 refine Qh hT 12 (Qzb 110 1) ⟨8,[(0,.d (Xd true a0)),(6,.b (decide ((a0.length:Int) > 64)))],[]⟩ ?_
 by_cases c1:(a0.length:Int) > 64
 ·replace H:=iT c1 H
  rw [decide_eq_true c1]
  refine Qh hT 6 (Qzb 11010 1) ⟨8,[(2,.ns),(3,.i 2)],[]⟩ ?_
  refine Qdt (av:=.d (.v (.slice none 0 0))) (y:=Xd true ([]:List Qb)) [2,3] 2 (st':=⟨8,[(2,.d (Xd true ([]:List Qb))),(3,.i 2)],[]⟩) (by kernel_rfl) (.nil _) (by kernel_rfl) ?_
  obtain rfl:=H
  exact Yi hf hX h0 (.Qn [.d (Xd true ([]:List Qb)),.i 2]) [] an (.Qn (.cons (.d (.sl fun _ _=>Qb.nl _)) (.cons (.d (.v _)) .nil)))
 replace H:=iF c1 H
 rw [decide_eq_false c1]
 refine Qh hT 2 (Qzb 11 1) ⟨8,[(0,.d (Xd true a0))],[]⟩ ?_
 refine Qh hT 6 (Qzb 111 1) ⟨8,[(2,.d (Xd true a0)),(3,.i 0)],[]⟩ ?_
 obtain rfl:=H
 exact Yi hf hX h0 (.Qn [.d (Xd true a0),.i 0]) [] an (.Qn (.cons (.d (.sl fun _ _=>Qb.nl _)) (.cons (.d (.v _)) .nil)))
abbrev Qx.q1 (Qj:List Qb) (a0:List Qb) (Zv:Int):=(Qj.set ((IntKind.wrap .i64 ((Qj.length:Int) - 1)).toNat) (⟨(Qj.getD ((IntKind.wrap .i64 ((Qj.length:Int) - 1)).toNat) Qb.z).Lo,Qeh ((Qj.getD ((IntKind.wrap .i64 ((Qj.length:Int) - 1)).toNat) Qb.z).Hi) (((Jm Qb.z Yr a0).getD Zv.toNat Qb.z).Hi)⟩:Qb))
abbrev Qx.q2 (a0:List Qb) (Zv:Int):=((Jm Qb.z Yr a0).getD Zv.toNat Qb.z)
abbrev Qx.q3 (Qj:List Qb):=(IntKind.wrap .i64 ((Qj.length:Int) - 1))
abbrev Qx.q4 (a0:List Qb):=((Jm Qb.z Yr a0).length:Int)
abbrev Qx.q5 (a0:List Qb):=((Jm Qb.z Yr a0).length)
abbrev Qx.q6 (Qj:List Qb):=((Qj.getD ((Qx.q3 Qj).toNat) Qb.z).Hi)
abbrev Qx.q7 (Qj:List Qb) (a0:List Qb) (Zv:Int):List Row:=[Qap Qj,.box 33 (Qez (Qx.q2 a0 Zv)),Qap (Jm Qb.z Yr a0)]
theorem Qx.Wv (a0:List Qb) {r:(List Qb) × Int} (H:Qx a0=some r):Yy Tryz.prog 80 [] [.d (Xd true a0)] [] (.Qn [.d (Xd true r.1),.i r.2]):=by
 refine Yc Tryz.func80 rfl (nt:=56) rfl (lb rfl) fun X hP h0 hX=>?_
 have hT:Xo X.P T:=hP▸tok
 have hf:X.P.funcs[80]? = some Tryz.f80:=hP▸Tryz.func80
 refine Qh hT 9 (K80 1100 1) ⟨56,[(0,.d (Xd true a0)),(9,.d (Xd true a0))],[]⟩ ?_
 obtain ⟨v1,h1,H⟩:=ibC H
 refine Ws (Yk:=[.d (Xd true a0),.d (.fn 103 [])]) (dst:=some 10) (k':=(K80 1100 2)) [0,10] [] hP Qum (Qbn.Wv (t0:=true) (Jc:=103) (Jk:=[]) a0 (fun z0=>some (Qg0 z0)) Qzp (fun z0 r h=>by obtain rfl:=Yg h;exact Qg0.Wv z0) h1) (by kernel_rfl) (Qz _) (.cons (Qp _) (.cons (Qp _) .nil)) (st':=⟨56,[(0,.d (Xd true a0)),(10,.b v1)],[]⟩) (by kernel_rfl) ?_
 refine Qh hT 1 (K80 110 1) ⟨56,[(0,.d (Xd true a0)),(10,.b v1)],[]⟩ ?_
 by_cases c2:v1=true
 ·replace H:=iT c2 H
  rw [c2]
  refine Qh hT 6 (K80 11010 1) ⟨56,[(2,.ns),(3,.i 1)],[]⟩ ?_
  refine Qdt (av:=.d (.v (.slice none 0 0))) (y:=Xd true ([]:List Qb)) [2,3] 2 (st':=⟨56,[(2,.d (Xd true ([]:List Qb))),(3,.i 1)],[]⟩) (by kernel_rfl) (.nil _) (by kernel_rfl) ?_
  obtain rfl:=Yg H
  exact Yi hf hX h0 (.Qn [.d (Xd true ([]:List Qb)),.i 1]) [] an (.Qn (.cons (.d (.sl fun _ _=>Qb.nl _)) (.cons (.d (.v _)) .nil)))
 replace H:=iF c2 H
 rw [Zz c2]
 refine Qh hT 2 (K80 11 1) ⟨56,[(0,.d (Xd true a0))],[]⟩ ?_
 refine Qh hT 3 (K80 1110 1) ⟨56,[(11,.d (Xd true a0))],[]⟩ ?_
 refine Ws (Yk:=[.d (Xd true a0)]) (dst:=some 12) (k':=(K80 1110 2)) [12] [] hP Qzr (Weg a0) (by kernel_rfl) (Qz _) (.cons (Qp _) .nil) (st':=⟨56,[(12,.fn 121 [.ptr 0 0 0 0])],[.box 34 [.d (Xd true a0)]]⟩) (by kernel_rfl) ?_
 obtain ⟨h3,H⟩:=iC H
 refine Ws (Yk:=[.fn 121 [.ptr 0 0 0 0],.d (.fn 106 [])]) (dst:=some 13) (k':=(K80 1110 3)) [13] [] hP Qzq (Qvh (tg:=true) Qzs Yr Qjj (fun x y=>Yr.Wv x y) a0 h3) (by kernel_rfl) (Qz _) (.cons (.fn 121 (.cons (.look (ty:=34) (cs:=[Xd true a0]) (by kernel_rfl) rfl) .nil)) (.cons (Qp _) .nil)) (st':=⟨56,[(13,.own 1 2 0 (Qx.q5 a0))],[.box 34 [.d (Xd true a0)],Qap (Jm Qb.z Yr a0)]⟩) (by kernel_rfl) ?_
 refine Qh hT 15 (K80 11111010 0) ⟨56,[(5,.ns),(14,.own 1 2 0 (Qx.q5 a0)),(15,.i (Qx.q4 a0)),(16,.i 0)],[.box 34 [.d (Xd true a0)],Qap (Jm Qb.z Yr a0)]⟩ ?_
 refine Qc6 [5,14,15,16] 5 2 33 (vec Qb.e Qb.z []) (st':=⟨56,[(5,.own 2 2 0 0),(14,.own 1 2 0 (Qx.q5 a0)),(15,.i (Qx.q4 a0)),(16,.i 0)],[.box 34 [.d (Xd true a0)],Qap (Jm Qb.z Yr a0),Qap ([]:List Qb)]⟩) (by kernel_rfl) (by kernel_rfl) ?_
 have L:∀ n,(∀ (Zv:Int) (Qj:List Qb),iter (Qx.step a0) n (.l1 Zv Qj)=some r->AK X 80 ((K80 11111010 0)) (Yt X [] (.Qn [.d (Xd true r.1),.i r.2])) ⟨56,[(5,.own 0 2 0 Qj.length),(14,.own 1 2 0 (Qx.q5 a0)),(15,.i (Qx.q4 a0)),(16,.i Zv)],[Qap Qj,Qap (Jm Qb.z Yr a0)]⟩):=by
  intro n
  induction n with
  | zero=>exact fun _ _ H=>Qbd H
  | succ n ih=>
   ·intro Zv Qj H
    refine Qh hT 5 (K80 1111101001 0) ⟨56,[(5,.own 0 2 0 Qj.length),(14,.own 1 2 0 (Qx.q5 a0)),(15,.i (Qx.q4 a0)),(16,.i Zv),(17,.b (decide (Zv < (Qx.q4 a0))))],[Qap Qj,Qap (Jm Qb.z Yr a0)]⟩ ?_
    by_cases c4:Zv < (Qx.q4 a0)
    ·replace H:=sT c4 H
     rw [decide_eq_true c4]
     refine Qh hT 2 (K80 1111101001 1) ⟨56,[(5,.own 0 2 0 Qj.length),(14,.own 1 2 0 (Qx.q5 a0)),(15,.i (Qx.q4 a0)),(16,.i Zv)],[Qap Qj,Qap (Jm Qb.z Yr a0)]⟩ ?_
     refine Qh hT 4 (K80 11111010011000 0) ⟨56,[(5,.own 0 2 0 Qj.length),(14,.own 1 2 0 (Qx.q5 a0)),(15,.i (Qx.q4 a0)),(16,.i Zv)],[Qap Qj,Qap (Jm Qb.z Yr a0)]⟩ ?_
     obtain ⟨h6,H⟩:=sC H
     have Yn:∀ (Qfo:Bool),stk (Qx.j1 a0 Zv Qj Qfo) (iter (Qx.step a0) n)=some r->AK X 80 ((K80 1111101001100101 1)) (Yt X [] (.Qn [.d (Xd true r.1),.i r.2])) ⟨56,[(5,.own 0 2 0 Qj.length),(7,.ptr 1 0 0 0),(8,.i (Qx.q3 Qj)),(14,.own 2 2 0 (Qx.q5 a0)),(15,.i (Qx.q4 a0)),(16,.i Zv),(34,.b Qfo)],(Qx.q7 Qj a0 Zv)⟩:=by
      intro Qfo H
      by_cases c9:Qfo=true
      ·replace H:=sT c9 H
       rw [c9]
       refine Qh hT 2 (K80 111110100110010110 0) ⟨56,[(5,.own 0 2 0 Qj.length),(7,.ptr 1 0 0 0),(8,.i (Qx.q3 Qj)),(14,.own 2 2 0 (Qx.q5 a0)),(15,.i (Qx.q4 a0)),(16,.i Zv)],(Qx.q7 Qj a0 Zv)⟩ ?_
       obtain ⟨h10,H⟩:=sC H
       refine Qax (hP▸mixed) 10 [5,7,8,14,15,16] (sm [.own 0 2 0 Qj.length,.i (Qx.q3 Qj),.own 0 2 0 Qj.length,.i (Qx.q3 Qj),.ptr 0 2 ((Qx.q3 Qj).toNat) 0,.ptr 0 2 ((Qx.q3 Qj).toNat) 1,.i (Qx.q6 Qj),.ptr 1 0 0 1,.i ((Qx.q2 a0 Zv).Hi),.i (Qeh (Qx.q6 Qj) ((Qx.q2 a0 Zv).Hi))]) (Qg (Qg (Qg (Jn (Qg (Jn (Qg (Qg (Qg (Qg op0 hT) hT) hT) hT) (fun R rest h=>Zd hT (i:=IntKind.wrap .i64 ((Qj.length:Int) - 1)) (n:=(Qj.length:Int)) h10.1 h10.2 (by kernel_rfl) h)) hT) (fun R rest h=>Qc5 hT (i:=(Qx.q3 Qj).toNat) (n:=Qj.length) (ltN h10.1 h10.2) (by kernel_rfl) h)) hT) hT) hT) ?_
       refine Qh hT 0 (K80 1111101001100101100 10) ⟨56,[(5,.own 0 2 0 Qj.length),(14,.own 2 2 0 (Qx.q5 a0)),(15,.i (Qx.q4 a0)),(16,.i Zv),(35,.own 0 2 0 Qj.length),(36,.i (Qx.q3 Qj)),(44,.i (Qeh (Qx.q6 Qj) ((Qx.q2 a0 Zv).Hi)))],(Qx.q7 Qj a0 Zv)⟩ ?_
       refine Jf hT [5,14,15,16,44,45] (i:=IntKind.wrap .i64 ((Qj.length:Int) - 1)) (n:=(Qj.length:Int)) h10.1 h10.2 (k':=(K80 1111101001100101100 11)) (st':=⟨56,[(5,.own 0 2 0 Qj.length),(14,.own 2 2 0 (Qx.q5 a0)),(15,.i (Qx.q4 a0)),(16,.i Zv),(44,.i (Qeh (Qx.q6 Qj) ((Qx.q2 a0 Zv).Hi))),(45,.ptr 0 2 ((Qx.q3 Qj).toNat) 0)],(Qx.q7 Qj a0 Zv)⟩) (by kernel_rfl) ?_
       refine Qh hT 1 (K80 1111101001100101100 12) ⟨56,[(5,.own 0 2 0 Qj.length),(14,.own 2 2 0 (Qx.q5 a0)),(15,.i (Qx.q4 a0)),(16,.i Zv),(44,.i (Qeh (Qx.q6 Qj) ((Qx.q2 a0 Zv).Hi))),(46,.ptr 0 2 ((Qx.q3 Qj).toNat) 1)],(Qx.q7 Qj a0 Zv)⟩ ?_
       refine Qvk (id:=0) (kk:=2) (i:=((Qx.q3 Qj).toNat)) (off:=1) (s:=1) (n:=Qj.length) (ty:=33) (ds:=[.i (Qeh (Qx.q6 Qj) ((Qx.q2 a0 Zv).Hi))]) (g:=vec Qb.e Qb.z Qj) (k':=(K80 1111101001100101100 13)) hT [5,14,15,16] (vec Qb.e Qb.z (Qx.q1 Qj a0 Zv)) (by kernel_rfl) (by kernel_rfl) (ltN h10.1 h10.2) ((Qqc (ltN h10.1 h10.2)).trans (by kernel_rfl)) Qk8 (st':=⟨56,[(5,.own 0 2 0 (Qj.length)),(14,.own 2 2 0 (Qx.q5 a0)),(15,.i (Qx.q4 a0)),(16,.i Zv)],[.flat false 2 33 Qj.length (vec Qb.e Qb.z (Qx.q1 Qj a0 Zv)),.box 33 (Qez (Qx.q2 a0 Zv)),.flat false 2 33 (Jm Qb.z Yr a0).length (vec Qb.e Qb.z (Jm Qb.z Yr a0))]⟩) (by kernel_rfl) ?_
       refine Qr9 (show Qj.length=(Qx.q1 Qj a0 Zv).length from (List.length_set ..).symm) (fun nn=>⟨56,[(5,.own 0 2 0 (nn)),(14,.own 2 2 0 (Qx.q5 a0)),(15,.i (Qx.q4 a0)),(16,.i Zv)],[.flat false 2 33 nn (vec Qb.e Qb.z (Qx.q1 Qj a0 Zv)),.box 33 (Qez (Qx.q2 a0 Zv)),.flat false 2 33 (Jm Qb.z Yr a0).length (vec Qb.e Qb.z (Jm Qb.z Yr a0))]⟩) ?_
       refine Xn hT 7 (K80 11111010 0) [0,2] ⟨56,[(5,.own 0 2 0 (Qx.q1 Qj a0 Zv).length),(14,.own 1 2 0 (Qx.q5 a0)),(15,.i (Qx.q4 a0)),(16,.i (IntKind.wrap .i64 (Zv+1)))],[Qap (Qx.q1 Qj a0 Zv),Qap (Jm Qb.z Yr a0)]⟩ h0 ?_
       exact ih (IntKind.wrap .i64 (Zv+1)) (Qx.q1 Qj a0 Zv) H
      replace H:=sF c9 H
      rw [Zz c9]
      refine Qh hT 2 (K80 11111010011001 1) ⟨56,[(5,.own 0 2 0 Qj.length),(7,.ptr 1 0 0 0),(14,.own 2 2 0 (Qx.q5 a0)),(15,.i (Qx.q4 a0)),(16,.i Zv)],(Qx.q7 Qj a0 Zv)⟩ ?_
      refine Qh hT 4 (K80 111110100110011 3) ⟨56,[(14,.own 2 2 0 (Qx.q5 a0)),(15,.i (Qx.q4 a0)),(16,.i Zv),(47,.own 0 2 0 Qj.length),(49,.own 3 2 0 1)],[Qap Qj,.box 33 (Qez (Qx.q2 a0 Zv)),Qap (Jm Qb.z Yr a0),.flat false 2 33 1 (fun j=>[Qb.e (Qx.q2 a0 Zv)].getD j [])]⟩ ?_
      obtain ⟨h11,H⟩:=sC H
      refine Qcw (id:=0) (kk:=2) (by':=16) (t:=34) (e:=33) (z:=[.int .i64 0,.int .i64 0]) (dst:=some 50) (id2:=3) (e2:=33) (fz:=false) (k':=(K80 111110100110011 4)) hT Qb.e Qb.z Qj (Qx.q2 a0 Zv) [14,15,16,50] (by kernel_rfl) (by kernel_rfl) (by kernel_rfl) (by kernel_rfl) (by kernel_rfl) (by kernel_rfl) (by kernel_rfl) h11 (by omega) (st':=⟨56,[(14,.own 2 2 0 (Qx.q5 a0)),(15,.i (Qx.q4 a0)),(16,.i Zv),(50,.own 4 2 0 ((Qj ++ [(Qx.q2 a0 Zv)]).length))],[.gone,.box 33 (Qez (Qx.q2 a0 Zv)),Qap (Jm Qb.z Yr a0),.flat false 2 33 1 (fun j=>[Qb.e (Qx.q2 a0 Zv)].getD j []),Qap (Qj ++ [(Qx.q2 a0 Zv)])]⟩) (by kernel_rfl) ?_
      refine Xn hT 8 (K80 11111010 0) [4,2] ⟨56,[(5,.own 0 2 0 (Qj ++ [(Qx.q2 a0 Zv)]).length),(14,.own 1 2 0 (Qx.q5 a0)),(15,.i (Qx.q4 a0)),(16,.i (IntKind.wrap .i64 (Zv+1)))],[Qap (Qj ++ [(Qx.q2 a0 Zv)]),Qap (Jm Qb.z Yr a0)]⟩ h0 ?_
      exact ih (IntKind.wrap .i64 (Zv+1)) (Qj ++ [(Qx.q2 a0 Zv)]) H
     refine Jf hT [5,14,15,16,18] (i:=Zv) (n:=(Qx.q4 a0)) h6.1 h6.2 (k':=(K80 11111010011000 1)) (st':=⟨56,[(5,.own 0 2 0 Qj.length),(14,.own 1 2 0 (Qx.q5 a0)),(15,.i (Qx.q4 a0)),(16,.i Zv),(18,.ptr 1 2 Zv.toNat 0)],[Qap Qj,Qap (Jm Qb.z Yr a0)]⟩) (by kernel_rfl) ?_
     refine Qni hT [5,14,15,16,19] (i:=Zv.toNat) (n:=(Jm Qb.z Yr a0).length) (ltN h6.1 h6.2) (k':=(K80 11111010011000 2)) (st':=⟨56,[(5,.own 0 2 0 Qj.length),(14,.own 1 2 0 (Qx.q5 a0)),(15,.i (Qx.q4 a0)),(16,.i Zv),(19,.d (Qfg (Qx.q2 a0 Zv)))],[Qap Qj,Qap (Jm Qb.z Yr a0)]⟩) (by kernel_rfl) ?_
     refine Qh hT 12 (K80 1111101001100101 0) ⟨56,[(5,.own 0 2 0 Qj.length),(7,.ptr 2 0 0 0),(8,.i (Qx.q3 Qj)),(14,.own 1 2 0 (Qx.q5 a0)),(15,.i (Qx.q4 a0)),(16,.i Zv)],[Qap Qj,Qap (Jm Qb.z Yr a0),.box 33 (Qez (Qx.q2 a0 Zv))]⟩ ?_
     by_cases c7:(Qx.q3 Qj)>=0
     ·replace H:=sT c7 H
      obtain ⟨h8,H⟩:=sC H
      refine Qax (hP▸mixed) 12 [5,7,8,14,15,16] (sm [.i (Qx.q3 Qj),.b true,.b true,.ptr 2 0 0 0,.i ((Qx.q2 a0 Zv).Lo),.own 0 2 0 Qj.length,.i (Qx.q3 Qj),.ptr 0 2 ((Qx.q3 Qj).toNat) 0,.ptr 0 2 ((Qx.q3 Qj).toNat) 1,.i (Qx.q6 Qj),.b (decide (((Qx.q2 a0 Zv).Lo)<=(Qx.q6 Qj))),.b (decide (((Qx.q2 a0 Zv).Lo)<=(Qx.q6 Qj)))]) (Qg (Qg (Jn (Qg (Jn (Qg (Qg (Qg (Qg (Qg (opV (Qg op0 hT) hT 24 (.b (decide ((Qx.q3 Qj)>=0))) (.b true) (by rw [decide_eq_true c7]<;>rfl)) hT) hT) hT) hT) hT) (fun R rest h=>Zd hT (i:=IntKind.wrap .i64 ((Qj.length:Int) - 1)) (n:=(Qj.length:Int)) h8.1 h8.2 (by kernel_rfl) h)) hT) (fun R rest h=>Qc5 hT (i:=(Qx.q3 Qj).toNat) (n:=Qj.length) (ltN h8.1 h8.2) (by kernel_rfl) h)) hT) hT) ?_
      refine Xn hT 1 (K80 1111101001100101 1) [0,2,1] ⟨56,[(5,.own 0 2 0 Qj.length),(7,.ptr 1 0 0 0),(8,.i (Qx.q3 Qj)),(14,.own 2 2 0 (Qx.q5 a0)),(15,.i (Qx.q4 a0)),(16,.i Zv),(34,.b (decide (((Qx.q2 a0 Zv).Lo)<=(Qx.q6 Qj))))],(Qx.q7 Qj a0 Zv)⟩ h0 ?_
      exact Yn (decide (((Qx.q2 a0 Zv).Lo)<=(Qx.q6 Qj))) H
     replace H:=sF c7 H
     refine Qax (hP▸mixed) 12 [5,7,8,14,15,16] (sm [.i (Qx.q3 Qj),.b false,.b false,.Qn [],.Qn [],.Qn [],.Qn [],.Qn [],.Qn [],.Qn [],.Qn [],.b false]) (Qg (Qg (Qg (Qg (Qg (Qg (Qg (Qg (Qg (Qg (opV (Qg op0 hT) hT 24 (.b (decide ((Qx.q3 Qj)>=0))) (.b false) (by rw [decide_eq_false c7]<;>rfl)) hT) hT) hT) hT) hT) hT) hT) hT) hT) hT) ?_
     refine Xn hT 1 (K80 1111101001100101 1) [0,2,1] ⟨56,[(5,.own 0 2 0 Qj.length),(7,.ptr 1 0 0 0),(8,.i (Qx.q3 Qj)),(14,.own 2 2 0 (Qx.q5 a0)),(15,.i (Qx.q4 a0)),(16,.i Zv),(34,.b false)],(Qx.q7 Qj a0 Zv)⟩ h0 ?_
     exact Yn false H
    replace H:=sF c4 H
    rw [decide_eq_false c4]
    refine Qh hT 5 (K80 1111110 1) ⟨56,[(52,.own 0 2 0 Qj.length)],[Qap Qj,Qap (Jm Qb.z Yr a0)]⟩ ?_
    refine Qdp 0 (kk:=2) (n:=Qj.length) (ty:=33) (g:=vec Qb.e Qb.z Qj) (by kernel_rfl) (st':=⟨56,[(52,.own 0 2 0 Qj.length)],[Qbt Qj,Qap (Jm Qb.z Yr a0)]⟩) (by kernel_rfl) ?_
    refine Ws (Yk:=[.own 0 2 0 Qj.length]) (dst:=some 53) (k':=(K80 1111110 2)) [53] [] hP Qzt (Qew.Wv Qj) (by kernel_rfl) (Qz _) (.cons (.Qek (ty:=33) (by kernel_rfl) rfl) .nil) (st':=⟨56,[(53,.Qn [.d (Xd true ((Qew Qj).1)),.i ((Qew Qj).2)])],[Qbt Qj,Qap (Jm Qb.z Yr a0)]⟩) (by kernel_rfl) ?_
    obtain ⟨v2,h5,H⟩:=sdC H
    rw [<- h5]
    refine Qh hT 5 (K80 111111 1) ⟨56,[(2,.d (Xd true v2.1)),(3,.i v2.2)],[Qbt Qj,Qap (Jm Qb.z Yr a0)]⟩ ?_
    obtain rfl:=Yg H
    exact Yi hf hX h0 (.Qn [.d (Xd true v2.1),.i v2.2]) [] an (.Qn (.cons (.d (.sl fun _ _=>Qb.nl _)) (.cons (.d (.v _)) .nil)))
 refine Qhm [2,1] ⟨56,[(5,.own 0 2 0 ([]:List Qb).length),(14,.own 1 2 0 (Qx.q5 a0)),(15,.i (Qx.q4 a0)),(16,.i 0)],[Qap ([]:List Qb),Qap (Jm Qb.z Yr a0)]⟩ h0 ?_
 obtain ⟨n,H⟩:=Qbz H
 exact (L n) 0 ([]:List Qb) H
abbrev Qba.q1 (a0:Ql) (Qa3:Int):=(⟨(a0.Pairs.getD Qa3.toNat Qa.z).Key,IntKind.wrap .i64 (((a0.Pairs.getD Qa3.toNat Qa.z).Key)+1)⟩:Qb)
theorem Qba.Wv (a0:Ql) {r:List Qb} (H:Qba a0=some r):Yy Tryz.prog 49 [] [.d (Qas a0)] [] (.d (Xd true r)):=by
 refine Yc Tryz.func49 rfl (nt:=40) rfl (lb rfl) fun X hP h0 hX=>?_
 have hT:Xo X.P T:=hP▸tok
 have hf:X.P.funcs[49]? = some Tryz.f49:=hP▸Tryz.func49
 refine Qh hT 9 (K49 1100 1) ⟨40,[(1,.ptr 0 0 0 0),(8,.d (Qas a0))],[.box 39 (Ya a0)]⟩ ?_
 obtain ⟨v1,h1,H⟩:=ibC H
 refine Ws (Yk:=[.d (Qas a0)]) (dst:=some 9) (k':=(K49 1100 2)) [1,9] [] hP Qgs (Qbg.Wv a0 h1) (by kernel_rfl) (Qz _) (.cons (Qp _) .nil) (st':=⟨40,[(1,.ptr 0 0 0 0),(9,.b v1)],[.box 39 (Ya a0)]⟩) (by kernel_rfl) ?_
 refine Qh hT 2 (K49 110 1) ⟨40,[(1,.ptr 0 0 0 0),(10,.b (!v1))],[.box 39 (Ya a0)]⟩ ?_
 by_cases c2:v1=true
 ·replace H:=iT c2 H
  rw [c2]
  refine Qh hT 2 (K49 11 1) ⟨40,[(1,.ptr 0 0 0 0)],[.box 39 (Ya a0)]⟩ ?_
  refine Qh hT 7 (K49 1110 1) ⟨40,[(1,.ptr 0 0 0 0),(13,.b (a0.Kind == 2))],[.box 39 (Ya a0)]⟩ ?_
  by_cases c3:a0.Kind=2
  ·replace H:=iT c3 H
   rw [eqT c3]
   refine Qh hT 8 (K49 111010 1) ⟨40,[(2,.own 1 2 0 1)],[.box 39 (Ya a0),.flat false 2 33 1 (fun j=>[Qb.e a0.Over].getD j [])]⟩ ?_
   refine Qhq 1 (kk:=2) (fz:=false) (ty:=33) (n:=([a0.Over]:List Qb).length) (vec Qb.e Qb.z ([a0.Over]:List Qb)) (by kernel_rfl) Qha (st':=⟨40,[(2,.own 1 2 0 (([a0.Over]:List Qb).length))],[.box 39 (Ya a0),Qap ([a0.Over]:List Qb)]⟩) (by kernel_rfl) ?_
   refine Qdp 1 (kk:=2) (n:=([a0.Over]:List Qb).length) (ty:=33) (g:=vec Qb.e Qb.z ([a0.Over]:List Qb)) (by kernel_rfl) (st':=⟨40,[(2,.own 1 2 0 (([a0.Over]:List Qb).length))],[.box 39 (Ya a0),Qbt ([a0.Over]:List Qb)]⟩) (by kernel_rfl) ?_
   refine Qdt (av:=.own 1 2 0 1) (y:=Xd true ([a0.Over]:List Qb)) [2] 2 (st':=⟨40,[(2,.d (Xd true ([a0.Over]:List Qb)))],[.box 39 (Ya a0),Qbt ([a0.Over]:List Qb)]⟩) (by kernel_rfl) (.own (ty:=33) (k:=2) (by kernel_rfl)) (by kernel_rfl) ?_
   obtain rfl:=Yg H
   exact Yi hf hX h0 (.d (Xd true ([a0.Over]:List Qb))) [] an (.d (.sl fun _ _=>Qb.nl _))
  replace H:=iF c3 H
  rw [eqF c3]
  refine Qh hT 2 (K49 111 1) ⟨40,[(1,.ptr 0 0 0 0)],[.box 39 (Ya a0)]⟩ ?_
  refine Qh hT 14 (K49 11111010 0) ⟨40,[(3,.ns),(18,.d (Xw true a0.Pairs)),(19,.i (a0.Pairs.length:Int)),(20,.i 0)],[.box 39 (Ya a0)]⟩ ?_
  refine Qc6 [3,18,19,20] 3 2 33 (vec Qb.e Qb.z []) (st':=⟨40,[(3,.own 1 2 0 0),(18,.d (Xw true a0.Pairs)),(19,.i (a0.Pairs.length:Int)),(20,.i 0)],[.box 39 (Ya a0),Qap ([]:List Qb)]⟩) (by kernel_rfl) (by kernel_rfl) ?_
  have L:∀ n,(∀ (Qa3:Int) (Qj:List Qb),iter (Qba.step a0) n (.l1 Qa3 Qj)=some r->AK X 49 ((K49 11111010 0)) (Yt X [] (.d (Xd true r))) ⟨40,[(3,.own 0 2 0 Qj.length),(18,.d (Xw true a0.Pairs)),(19,.i (a0.Pairs.length:Int)),(20,.i Qa3)],[Qap Qj]⟩):=by
   intro n
   induction n with
   | zero=>exact fun _ _ H=>Qbd H
   | succ n ih=>
    ·intro Qa3 Qj H
     refine Qh hT 5 (K49 1111101001 0) ⟨40,[(3,.own 0 2 0 Qj.length),(18,.d (Xw true a0.Pairs)),(19,.i (a0.Pairs.length:Int)),(20,.i Qa3),(21,.b (decide (Qa3 < (a0.Pairs.length:Int))))],[Qap Qj]⟩ ?_
     by_cases c4:Qa3 < (a0.Pairs.length:Int)
     ·replace H:=sT c4 H
      rw [decide_eq_true c4]
      refine Qh hT 2 (K49 1111101001 1) ⟨40,[(3,.own 0 2 0 Qj.length),(18,.d (Xw true a0.Pairs)),(19,.i (a0.Pairs.length:Int)),(20,.i Qa3)],[Qap Qj]⟩ ?_
      refine Qh hT 4 (K49 11111010011000 0) ⟨40,[(3,.own 0 2 0 Qj.length),(18,.d (Xw true a0.Pairs)),(19,.i (a0.Pairs.length:Int)),(20,.i Qa3)],[Qap Qj]⟩ ?_
      obtain ⟨h6,H⟩:=sC H
      refine Jf hT [3,18,19,20,22] (i:=Qa3) (n:=(a0.Pairs.length:Int)) h6.1 h6.2 (k':=(K49 11111010011000 1)) (st':=⟨40,[(3,.own 0 2 0 Qj.length),(18,.d (Xw true a0.Pairs)),(19,.i (a0.Pairs.length:Int)),(20,.i Qa3),(22,.d (Qef true a0.Pairs Qa3.toNat 0))],[Qap Qj]⟩) (by kernel_rfl) ?_
      refine Qh hT 13 (K49 11111010011001 8) ⟨40,[(18,.d (Xw true a0.Pairs)),(19,.i (a0.Pairs.length:Int)),(20,.i Qa3),(24,.own 0 2 0 Qj.length),(31,.own 2 2 0 1)],[Qap Qj,.box 81 (Qb2 (a0.Pairs.getD Qa3.toNat Qa.z)),.flat false 2 33 1 (fun j=>[[.i ((a0.Pairs.getD Qa3.toNat Qa.z).Key),.i (IntKind.wrap .i64 (((a0.Pairs.getD Qa3.toNat Qa.z).Key)+1))]].getD j [])]⟩ ?_
      obtain ⟨h7,H⟩:=sC H
      refine Qcw (id:=0) (kk:=2) (by':=16) (t:=34) (e:=33) (z:=[.int .i64 0,.int .i64 0]) (dst:=some 32) (id2:=2) (e2:=33) (fz:=false) (k':=(K49 11111010011001 9)) hT Qb.e Qb.z Qj (Qba.q1 a0 Qa3) [18,19,20,32] (by kernel_rfl) (by kernel_rfl) (by kernel_rfl) (by kernel_rfl) (by kernel_rfl) (by kernel_rfl) (by kernel_rfl) h7 (by omega) (st':=⟨40,[(18,.d (Xw true a0.Pairs)),(19,.i (a0.Pairs.length:Int)),(20,.i Qa3),(32,.own 3 2 0 ((Qj ++ [(Qba.q1 a0 Qa3)]).length))],[.gone,.box 81 (Qb2 (a0.Pairs.getD Qa3.toNat Qa.z)),.flat false 2 33 1 (fun j=>[[.i ((a0.Pairs.getD Qa3.toNat Qa.z).Key),.i (IntKind.wrap .i64 (((a0.Pairs.getD Qa3.toNat Qa.z).Key)+1))]].getD j []),Qap (Qj ++ [(Qba.q1 a0 Qa3)])]⟩) (by kernel_rfl) ?_
      refine Xn hT 8 (K49 11111010 0) [3] ⟨40,[(3,.own 0 2 0 (Qj ++ [(Qba.q1 a0 Qa3)]).length),(18,.d (Xw true a0.Pairs)),(19,.i (a0.Pairs.length:Int)),(20,.i (IntKind.wrap .i64 (Qa3+1)))],[Qap (Qj ++ [(Qba.q1 a0 Qa3)])]⟩ h0 ?_
      exact ih (IntKind.wrap .i64 (Qa3+1)) (Qj ++ [(Qba.q1 a0 Qa3)]) H
     replace H:=sF c4 H
     rw [decide_eq_false c4]
     refine Qh hT 5 (K49 1111110 1) ⟨40,[(35,.own 0 2 0 Qj.length)],[Qap Qj]⟩ ?_
     refine Qdp 0 (kk:=2) (n:=Qj.length) (ty:=33) (g:=vec Qb.e Qb.z Qj) (by kernel_rfl) (st':=⟨40,[(35,.own 0 2 0 Qj.length)],[Qbt Qj]⟩) (by kernel_rfl) ?_
     obtain ⟨v2,h5,H⟩:=sbC H
     refine Ws (Yk:=[.own 0 2 0 Qj.length]) (dst:=some 36) (k':=(K49 1111110 2)) [36] [] hP Wco (Qx.Wv Qj h5) (by kernel_rfl) (Qz _) (.cons (.Qek (ty:=33) (by kernel_rfl) rfl) .nil) (st':=⟨40,[(36,.Qn [.d (Xd true v2.1),.i v2.2])],[Qbt Qj]⟩) (by kernel_rfl) ?_
     refine Qh hT 11 (K49 1111111 1) ⟨40,[(2,.d (Xd true v2.1))],[Qbt Qj]⟩ ?_
     obtain rfl:=Yg H
     exact Yi hf hX h0 (.d (Xd true v2.1)) [] an (.d (.sl fun _ _=>Qb.nl _))
  refine Qhm [1] ⟨40,[(3,.own 0 2 0 ([]:List Qb).length),(18,.d (Xw true a0.Pairs)),(19,.i (a0.Pairs.length:Int)),(20,.i 0)],[Qap ([]:List Qb)]⟩ h0 ?_
  obtain ⟨n,H⟩:=Qbz H
  exact (L n) 0 ([]:List Qb) H
 replace H:=iF c2 H
 rw [Zz c2]
 refine Qh hT 5 (K49 11010 1) ⟨40,[(2,.ns)],[.box 39 (Ya a0)]⟩ ?_
 refine Qdt (av:=.d (.v (.slice none 0 0))) (y:=Xd true ([]:List Qb)) [2] 2 (st':=⟨40,[(2,.d (Xd true ([]:List Qb)))],[.box 39 (Ya a0)]⟩) (by kernel_rfl) (.nil _) (by kernel_rfl) ?_
 obtain rfl:=Yg H
 exact Yi hf hX h0 (.d (Xd true ([]:List Qb))) [] an (.d (.sl fun _ _=>Qb.nl _))
theorem Qah.Wv {t0:Bool} {t1:Bool} (a0:List Qb) (a1:List Qb) {r:List Qb} (H:Qah a0 a1=some r):Yy Tryz.prog 79 [] [.d (Xd t0 a0),.d (Xd t1 a1)] [Qap r] (.own 0 2 0 r.length):=by
 refine Yc Tryz.func79 rfl (nt:=46) rfl (lb rfl) fun X hP h0 hX=>?_
 have hT:Xo X.P T:=hP▸tok
 have hf:X.P.funcs[79]? = some Tryz.f79:=hP▸Tryz.func79
 refine Qh hT 17 (K79 111010 0) ⟨46,[(1,.d (Xd t1 a1)),(5,.ns),(11,.d (Xd t0 a0)),(12,.i (a0.length:Int)),(13,.i 0)],[]⟩ ?_
 refine Qc6 [1,5,11,12,13] 5 2 33 (vec Qb.e Qb.z []) (st':=⟨46,[(1,.d (Xd t1 a1)),(5,.own 0 2 0 0),(11,.d (Xd t0 a0)),(12,.i (a0.length:Int)),(13,.i 0)],[Qap ([]:List Qb)]⟩) (by kernel_rfl) (by kernel_rfl) ?_
 have L:∀ n,(∀ (Zt:Int) (Qj:List Qb),iter (Qah.step a0 a1) n (.l1 Zt Qj)=some r->AK X 79 ((K79 111010 0)) (Yt X [Qap r] (.own 0 2 0 r.length)) ⟨46,[(1,.d (Xd t1 a1)),(5,.own 0 2 0 Qj.length),(11,.d (Xd t0 a0)),(12,.i (a0.length:Int)),(13,.i Zt)],[Qap Qj]⟩)/\(∀ (Zk:Int) (Qar:Int) (Qam:List Qb) (Qa6:Int) (Qa7:Int),iter (Qah.step a0 a1) n (.l2 Zk Qar Qam Qa6 Qa7)=some r->AK X 79 ((K79 11101001100110 0)) (Yt X [Qap r] (.own 0 2 0 r.length)) ⟨46,[(1,.d (Xd t1 a1)),(5,.own 0 2 0 Qam.length),(7,.ptr 1 0 0 0),(11,.d (Xd t0 a0)),(12,.i (a0.length:Int)),(13,.i Zk),(17,.d (Xd t1 a1)),(18,.i (a1.length:Int)),(19,.i Qar)],[Qap Qam,.box 33 [.i Qa6,.i Qa7]]⟩):=by
  intro n
  induction n with
  | zero=>exact ⟨fun _ _ H=>Qbd H,fun _ _ _ _ _ H=>Qbd H⟩
  | succ n ih=>
   refine ⟨?_, ?_⟩
   ·intro Zt Qj H
    refine Qh hT 5 (K79 11101001 0) ⟨46,[(1,.d (Xd t1 a1)),(5,.own 0 2 0 Qj.length),(11,.d (Xd t0 a0)),(12,.i (a0.length:Int)),(13,.i Zt),(14,.b (decide (Zt < (a0.length:Int))))],[Qap Qj]⟩ ?_
    by_cases c1:Zt < (a0.length:Int)
    ·replace H:=sT c1 H
     rw [decide_eq_true c1]
     refine Qh hT 2 (K79 11101001 1) ⟨46,[(1,.d (Xd t1 a1)),(5,.own 0 2 0 Qj.length),(11,.d (Xd t0 a0)),(12,.i (a0.length:Int)),(13,.i Zt)],[Qap Qj]⟩ ?_
     refine Qh hT 4 (K79 111010011000 0) ⟨46,[(1,.d (Xd t1 a1)),(5,.own 0 2 0 Qj.length),(11,.d (Xd t0 a0)),(12,.i (a0.length:Int)),(13,.i Zt)],[Qap Qj]⟩ ?_
     obtain ⟨h2,H⟩:=sC H
     refine Jf hT [1,5,11,12,13,15] (i:=Zt) (n:=(a0.length:Int)) h2.1 h2.2 (k':=(K79 111010011000 1)) (st':=⟨46,[(1,.d (Xd t1 a1)),(5,.own 0 2 0 Qj.length),(11,.d (Xd t0 a0)),(12,.i (a0.length:Int)),(13,.i Zt),(15,.d (Qth t0 a0 Zt.toNat 0))],[Qap Qj]⟩) (by kernel_rfl) ?_
     refine Xn hT 12 (K79 11101001100110 0) [0,1] ⟨46,[(1,.d (Xd t1 a1)),(5,.own 0 2 0 Qj.length),(7,.ptr 1 0 0 0),(11,.d (Xd t0 a0)),(12,.i (a0.length:Int)),(13,.i Zt),(17,.d (Xd t1 a1)),(18,.i (a1.length:Int)),(19,.i 0)],[Qap Qj,.box 33 [.i ((a0.getD Zt.toNat Qb.z).Lo),.i ((a0.getD Zt.toNat Qb.z).Hi)]]⟩ h0 ?_
     exact ih.2 Zt 0 Qj ((a0.getD Zt.toNat Qb.z).Lo) ((a0.getD Zt.toNat Qb.z).Hi) H
    replace H:=sF c1 H
    rw [decide_eq_false c1]
    refine Qh hT 7 (K79 1111 1) ⟨46,[(4,.own 0 2 0 Qj.length)],[Qap Qj]⟩ ?_
    obtain rfl:=Yg H
    exact Yi hf hX h0 (.own 0 2 0 Qj.length) [0] (ac (Qa1 Qb.nl) an) (.own _ _ _ _)
   intro Zk Qar Qam Qa6 Qa7 H
   refine Qh hT 5 (K79 1110100110011001 0) ⟨46,[(1,.d (Xd t1 a1)),(5,.own 0 2 0 Qam.length),(7,.ptr 1 0 0 0),(11,.d (Xd t0 a0)),(12,.i (a0.length:Int)),(13,.i Zk),(17,.d (Xd t1 a1)),(18,.i (a1.length:Int)),(19,.i Qar),(20,.b (decide (Qar < (a1.length:Int))))],[Qap Qam,.box 33 [.i Qa6,.i Qa7]]⟩ ?_
   by_cases c3:Qar < (a1.length:Int)
   ·replace H:=sT c3 H
    rw [decide_eq_true c3]
    refine Qh hT 2 (K79 1110100110011001 1) ⟨46,[(1,.d (Xd t1 a1)),(5,.own 0 2 0 Qam.length),(7,.ptr 1 0 0 0),(11,.d (Xd t0 a0)),(12,.i (a0.length:Int)),(13,.i Zk),(17,.d (Xd t1 a1)),(18,.i (a1.length:Int)),(19,.i Qar)],[Qap Qam,.box 33 [.i Qa6,.i Qa7]]⟩ ?_
    refine Qh hT 4 (K79 11101001100110011000 0) ⟨46,[(1,.d (Xd t1 a1)),(5,.own 0 2 0 Qam.length),(7,.ptr 1 0 0 0),(11,.d (Xd t0 a0)),(12,.i (a0.length:Int)),(13,.i Zk),(17,.d (Xd t1 a1)),(18,.i (a1.length:Int)),(19,.i Qar)],[Qap Qam,.box 33 [.i Qa6,.i Qa7]]⟩ ?_
    obtain ⟨h4,H⟩:=sC H
    have Yn:∀ (Qds:List Qb),stk (Qah.j1 Zk Qar Qa6 Qa7 Qds) (iter (Qah.step a0 a1) n)=some r->AK X 79 ((K79 11101001100110011 1)) (Yt X [Qap r] (.own 0 2 0 r.length)) ⟨46,[(1,.d (Xd t1 a1)),(5,.own 0 2 0 Qds.length),(7,.ptr 1 0 0 0),(11,.d (Xd t0 a0)),(12,.i (a0.length:Int)),(13,.i Zk),(17,.d (Xd t1 a1)),(18,.i (a1.length:Int)),(19,.i Qar)],[Qap Qds,.box 33 [.i Qa6,.i Qa7]]⟩:=by
     intro Qds H
     refine Qh hT 5 (K79 11101001100110 0) ⟨46,[(1,.d (Xd t1 a1)),(5,.own 0 2 0 Qds.length),(7,.ptr 1 0 0 0),(11,.d (Xd t0 a0)),(12,.i (a0.length:Int)),(13,.i Zk),(17,.d (Xd t1 a1)),(18,.i (a1.length:Int)),(19,.i (IntKind.wrap .i64 (Qar+1)))],[Qap Qds,.box 33 [.i Qa6,.i Qa7]]⟩ ?_
     exact ih.2 Zk (IntKind.wrap .i64 (Qar+1)) Qds Qa6 Qa7 H
    refine Jf hT [1,5,7,11,12,13,17,18,19,21] (i:=Qar) (n:=(a1.length:Int)) h4.1 h4.2 (k':=(K79 11101001100110011000 1)) (st':=⟨46,[(1,.d (Xd t1 a1)),(5,.own 0 2 0 Qam.length),(7,.ptr 1 0 0 0),(11,.d (Xd t0 a0)),(12,.i (a0.length:Int)),(13,.i Zk),(17,.d (Xd t1 a1)),(18,.i (a1.length:Int)),(19,.i Qar),(21,.d (Qth t1 a1 Qar.toNat 0))],[Qap Qam,.box 33 [.i Qa6,.i Qa7]]⟩) (by kernel_rfl) ?_
    refine Qh hT 28 (K79 111010011001100110011 1) ⟨46,[(1,.d (Xd t1 a1)),(5,.own 0 2 0 Qam.length),(7,.ptr 1 0 0 0),(10,.ptr 3 0 0 0),(11,.d (Xd t0 a0)),(12,.i (a0.length:Int)),(13,.i Zk),(17,.d (Xd t1 a1)),(18,.i (a1.length:Int)),(19,.i Qar),(38,.b (decide ((Qeh Qa6 ((a1.getD Qar.toNat Qb.z).Lo)) < (Qf9 Qa7 ((a1.getD Qar.toNat Qb.z).Hi)))))],[Qap Qam,.box 33 [.i Qa6,.i Qa7],.box 33 (Qez (a1.getD Qar.toNat Qb.z)),.box 33 [.i (Qeh Qa6 ((a1.getD Qar.toNat Qb.z).Lo)),.i (Qf9 Qa7 ((a1.getD Qar.toNat Qb.z).Hi))]]⟩ ?_
    by_cases c5:(Qeh Qa6 ((a1.getD Qar.toNat Qb.z).Lo)) < (Qf9 Qa7 ((a1.getD Qar.toNat Qb.z).Hi))
    ·replace H:=sT c5 H
     rw [decide_eq_true c5]
     refine Qh hT 5 (K79 11101001100110011001110 3) ⟨46,[(1,.d (Xd t1 a1)),(7,.ptr 1 0 0 0),(11,.d (Xd t0 a0)),(12,.i (a0.length:Int)),(13,.i Zk),(17,.d (Xd t1 a1)),(18,.i (a1.length:Int)),(19,.i Qar),(39,.own 0 2 0 Qam.length),(41,.own 4 2 0 1)],[Qap Qam,.box 33 [.i Qa6,.i Qa7],.box 33 (Qez (a1.getD Qar.toNat Qb.z)),.box 33 [.i (Qeh Qa6 ((a1.getD Qar.toNat Qb.z).Lo)),.i (Qf9 Qa7 ((a1.getD Qar.toNat Qb.z).Hi))],.flat false 2 33 1 (fun j=>[[.i (Qeh Qa6 ((a1.getD Qar.toNat Qb.z).Lo)),.i (Qf9 Qa7 ((a1.getD Qar.toNat Qb.z).Hi))]].getD j [])]⟩ ?_
     obtain ⟨h6,H⟩:=sC H
     refine Qcw (id:=0) (kk:=2) (by':=16) (t:=34) (e:=33) (z:=[.int .i64 0,.int .i64 0]) (dst:=some 42) (id2:=4) (e2:=33) (fz:=false) (k':=(K79 11101001100110011001110 4)) hT Qb.e Qb.z Qam (⟨Qeh Qa6 ((a1.getD Qar.toNat Qb.z).Lo),Qf9 Qa7 ((a1.getD Qar.toNat Qb.z).Hi)⟩:Qb) [1,7,11,12,13,17,18,19,42] (by kernel_rfl) (by kernel_rfl) (by kernel_rfl) (by kernel_rfl) (by kernel_rfl) (by kernel_rfl) (by kernel_rfl) h6 (by omega) (st':=⟨46,[(1,.d (Xd t1 a1)),(7,.ptr 1 0 0 0),(11,.d (Xd t0 a0)),(12,.i (a0.length:Int)),(13,.i Zk),(17,.d (Xd t1 a1)),(18,.i (a1.length:Int)),(19,.i Qar),(42,.own 5 2 0 ((Qam ++ [(⟨Qeh Qa6 ((a1.getD Qar.toNat Qb.z).Lo),Qf9 Qa7 ((a1.getD Qar.toNat Qb.z).Hi)⟩:Qb)]).length))],[.gone,.box 33 [.i Qa6,.i Qa7],.box 33 (Qez (a1.getD Qar.toNat Qb.z)),.box 33 [.i (Qeh Qa6 ((a1.getD Qar.toNat Qb.z).Lo)),.i (Qf9 Qa7 ((a1.getD Qar.toNat Qb.z).Hi))],.flat false 2 33 1 (fun j=>[[.i (Qeh Qa6 ((a1.getD Qar.toNat Qb.z).Lo)),.i (Qf9 Qa7 ((a1.getD Qar.toNat Qb.z).Hi))]].getD j []),Qap (Qam ++ [(⟨Qeh Qa6 ((a1.getD Qar.toNat Qb.z).Lo),Qf9 Qa7 ((a1.getD Qar.toNat Qb.z).Hi)⟩:Qb)])]⟩) (by kernel_rfl) ?_
     refine Xn hT 3 (K79 11101001100110011 1) [5,1] ⟨46,[(1,.d (Xd t1 a1)),(5,.own 0 2 0 (Qam ++ [(⟨Qeh Qa6 ((a1.getD Qar.toNat Qb.z).Lo),Qf9 Qa7 ((a1.getD Qar.toNat Qb.z).Hi)⟩:Qb)]).length),(7,.ptr 1 0 0 0),(11,.d (Xd t0 a0)),(12,.i (a0.length:Int)),(13,.i Zk),(17,.d (Xd t1 a1)),(18,.i (a1.length:Int)),(19,.i Qar)],[Qap (Qam ++ [(⟨Qeh Qa6 ((a1.getD Qar.toNat Qb.z).Lo),Qf9 Qa7 ((a1.getD Qar.toNat Qb.z).Hi)⟩:Qb)]),.box 33 [.i Qa6,.i Qa7]]⟩ h0 ?_
     exact Yn (Qam ++ [(⟨Qeh Qa6 ((a1.getD Qar.toNat Qb.z).Lo),Qf9 Qa7 ((a1.getD Qar.toNat Qb.z).Hi)⟩:Qb)]) H
    replace H:=sF c5 H
    rw [decide_eq_false c5]
    refine Xn hT 3 (K79 11101001100110011 1) [0,1] ⟨46,[(1,.d (Xd t1 a1)),(5,.own 0 2 0 Qam.length),(7,.ptr 1 0 0 0),(11,.d (Xd t0 a0)),(12,.i (a0.length:Int)),(13,.i Zk),(17,.d (Xd t1 a1)),(18,.i (a1.length:Int)),(19,.i Qar)],[Qap Qam,.box 33 [.i Qa6,.i Qa7]]⟩ h0 ?_
    exact Yn Qam H
   replace H:=sF c3 H
   rw [decide_eq_false c3]
   refine Xn hT 8 (K79 111010 0) [0] ⟨46,[(1,.d (Xd t1 a1)),(5,.own 0 2 0 Qam.length),(11,.d (Xd t0 a0)),(12,.i (a0.length:Int)),(13,.i (IntKind.wrap .i64 (Zk+1)))],[Qap Qam]⟩ h0 ?_
   exact ih.1 (IntKind.wrap .i64 (Zk+1)) Qam H
 refine Qhm [0] ⟨46,[(1,.d (Xd t1 a1)),(5,.own 0 2 0 ([]:List Qb).length),(11,.d (Xd t0 a0)),(12,.i (a0.length:Int)),(13,.i 0)],[Qap ([]:List Qb)]⟩ h0 ?_
 obtain ⟨n,H⟩:=Qbz H
 exact (L n).1 0 ([]:List Qb) H
theorem Qev.Wv {t0:Bool} {t1:Bool} (a0:List Qb) (a1:List Qb) {r:Bool} (H:Qev a0 a1=some r):Yy Tryz.prog 48 [] [.d (Xd t0 a0),.d (Xd t1 a1)] [] (.b r):=by
 refine Yc Tryz.func48 rfl (nt:=18) rfl (lb rfl) fun X hP h0 hX=>?_
 have hT:Xo X.P T:=hP▸tok
 have hf:X.P.funcs[48]? = some Tryz.f48:=hP▸Tryz.func48
 refine Qh hT 7 (K48 110 1) ⟨18,[(0,.d (Xd t0 a0)),(1,.d (Xd t1 a1)),(5,.d (Xd t0 a0))],[]⟩ ?_
 obtain ⟨v1,h1,H⟩:=ibC H
 have Yn:∀ (Qc9:Bool),(Qev.j1 Qc9)=some r->AK X 48 ((K48 11 1)) (Yt X [] (.b r)) ⟨18,[(4,.b Qc9)],[]⟩:=by
  intro Qc9 H
  obtain rfl:=Yg H
  exact Yi hf hX h0 (.b Qc9) [] an (.d (.v _))
 refine Ws (Yk:=[.d (Xd t0 a0)]) (dst:=some 6) (k':=(K48 110 2)) [0,1,6] [] hP Qiz (Yw.Wv (t0:=t0) a0 h1) (by kernel_rfl) (Qz _) (.cons (Qp _) .nil) (st':=⟨18,[(0,.d (Xd t0 a0)),(1,.d (Xd t1 a1)),(6,.b v1)],[]⟩) (by kernel_rfl) ?_
 refine Qh hT 1 (K48 110 3) ⟨18,[(0,.d (Xd t0 a0)),(1,.d (Xd t1 a1)),(7,.b v1)],[]⟩ ?_
 by_cases c2:v1=true
 ·replace H:=iT c2 H
  rw [c2]
  refine Qh hT 1 (K48 110 4) ⟨18,[(0,.d (Xd t0 a0)),(1,.d (Xd t1 a1)),(7,.b true),(8,.d (Xd t1 a1))],[]⟩ ?_
  obtain ⟨v2,h3,H⟩:=ibC H
  refine Ws (Yk:=[.d (Xd t1 a1)]) (dst:=some 9) (k':=(K48 110 5)) [0,1,7,9] [] hP Qiz (Yw.Wv (t0:=t1) a1 h3) (by kernel_rfl) (Qz _) (.cons (Qp _) .nil) (st':=⟨18,[(0,.d (Xd t0 a0)),(1,.d (Xd t1 a1)),(7,.b true),(9,.b v2)],[]⟩) (by kernel_rfl) ?_
  refine Qh hT 2 (K48 110 7) ⟨18,[(0,.d (Xd t0 a0)),(1,.d (Xd t1 a1)),(11,.b v2)],[]⟩ ?_
  by_cases c4:v2=true
  ·replace H:=iT c4 H
   rw [c4]
   refine Qh hT 2 (K48 110 9) ⟨18,[(11,.b true),(12,.d (Xd t0 a0)),(13,.d (Xd t1 a1))],[]⟩ ?_
   obtain ⟨v3,h5,H⟩:=ibC H
   refine Ws (Yk:=[.d (Xd t0 a0),.d (Xd t1 a1)]) (dst:=some 14) (k':=(K48 110 10)) [11,14] [] hP Wcn (Qah.Wv (t0:=t0) (t1:=t1) a0 a1 h5) (by kernel_rfl) (Qz _) (.cons (Qp _) (.cons (Qp _) .nil)) (st':=⟨18,[(11,.b true),(14,.own 0 2 0 v3.length)],[Qap v3]⟩) (by kernel_rfl) ?_
   refine Xn hT 5 (K48 11 1) [] ⟨18,[(4,.b (decide ((v3.length:Int) > 0)))],[]⟩ h0 ?_
   exact Yn (decide ((v3.length:Int) > 0)) H
  replace H:=iF c4 H
  rw [Zz c4]
  refine Qh hT 8 (K48 11 1) ⟨18,[(4,.b false)],[]⟩ ?_
  exact Yn false H
 replace H:=iF c2 H
 rw [Zz c2]
 refine Qh hT 12 (K48 11 1) ⟨18,[(4,.b false)],[]⟩ ?_
 exact Yn false H
theorem Qdy.Wv {t1:Bool} (a0:Qd) (a1:List Qb) {r:Bool} (H:Qdy a0 a1=some r):Yy Tryz.prog 25 [] [.d (Qes a0),.d (Xd t1 a1)] [] (.b r):=by
 refine Yc Tryz.func25 rfl (nt:=10) rfl (lb rfl) fun X hP h0 hX=>?_
 have hT:Xo X.P T:=hP▸tok
 have hf:X.P.funcs[25]? = some Tryz.f25:=hP▸Tryz.func25
 refine Qh hT 9 (K25 110 2) ⟨10,[(1,.d (Xd t1 a1)),(6,.d (Qas a0.M))],[.box 41 (Qb0 a0)]⟩ ?_
 obtain ⟨v1,h1,H⟩:=ibC H
 refine Ws (Yk:=[.d (Qas a0.M)]) (dst:=some 7) (k':=(K25 110 3)) [1,7] [] hP Wca (Qba.Wv a0.M h1) (by kernel_rfl) (Qz _) (.cons (Qp _) .nil) (st':=⟨10,[(1,.d (Xd t1 a1)),(7,.d (Xd true v1))],[.box 41 (Qb0 a0)]⟩) (by kernel_rfl) ?_
 refine Qh hT 1 (K25 110 4) ⟨10,[(7,.d (Xd true v1)),(8,.d (Xd t1 a1))],[.box 41 (Qb0 a0)]⟩ ?_
 obtain ⟨v2,h2,H⟩:=ibC H
 refine Ws (Yk:=[.d (Xd true v1),.d (Xd t1 a1)]) (dst:=some 9) (k':=(K25 110 5)) [9] [] hP Wb9 (Qev.Wv (t0:=true) (t1:=t1) v1 a1 h2) (by kernel_rfl) (Qz _) (.cons (Qp _) (.cons (Qp _) .nil)) (st':=⟨10,[(9,.b v2)],[.box 41 (Qb0 a0)]⟩) (by kernel_rfl) ?_
 refine Qh hT 2 (K25 11 1) ⟨10,[(4,.b v2)],[.box 41 (Qb0 a0)]⟩ ?_
 obtain rfl:=Yg H
 exact Yi hf hX h0 (.b v2) [] an (.d (.v _))
abbrev Qde.q1 (a0:Qd):List AV:=[.i a0.M.Client,.i a0.M.Seq,.i a0.M.Kind,.own 2 2 0 a0.M.Pairs.length,.i a0.M.Over.Lo,.i a0.M.Over.Hi,.i a0.M.Old,.i a0.Time,.b a0.Jt]
abbrev Qde.p0 (a0:Qd):List (Nat × AV):=[(2,.ptr 1 0 0 0),(9,.agg [.i a0.M.Client,.i a0.M.Seq,.i a0.M.Kind,.own 2 2 0 a0.M.Pairs.length,.i a0.M.Over.Lo,.i a0.M.Over.Hi,.i a0.M.Old,.i a0.Time,.b a0.Jt])]
theorem Qde.Wv (a0:Qd) {r:Qd} (H:Qde a0=some r):Yy Tryz.prog 26 [] [.d (Qes a0)] [] (.d (Qes r)):=by
 refine Yc Tryz.func26 rfl (nt:=10) rfl (lb rfl) fun X hP h0 hX=>?_
 have hT:Xo X.P T:=hP▸tok
 have hf:X.P.funcs[26]? = some Tryz.f26:=hP▸Tryz.func26
 refine Qh hT 10 (K26 110 3) ⟨10,[(1,.ptr 0 0 0 0),(2,.ptr 1 0 0 0),(5,.d (Xw true a0.M.Pairs))],[.box 41 (Qb0 a0),.box 41 [.i 0,.i 0,.i 0,.ns,.i 0,.i 0,.i 0,.i 0,.b false]]⟩ ?_
 obtain ⟨h1,H⟩:=iC H
 refine Ws (Yk:=[.d (Xw true a0.M.Pairs)]) (dst:=some 6) (k':=(K26 110 4)) [1,2,6] [] hP Qmb (Qp2 (tg:=true) a0.M.Pairs h1) (by kernel_rfl) (Qz _) (.cons (Qp _) .nil) (st':=⟨10,[(1,.ptr 0 0 0 0),(2,.ptr 1 0 0 0),(6,.own 2 2 0 a0.M.Pairs.length)],[.box 41 (Qb0 a0),.box 41 [.i 0,.i 0,.i 0,.ns,.i 0,.i 0,.i 0,.i 0,.b false],Xj a0.M.Pairs]⟩) (by kernel_rfl) ?_
 refine Qh hT 7 (K26 1110 1) ⟨10,(Qde.p0 a0),[.box 41 (Qde.q1 a0),.box 41 [.i 0,.i 0,.i 0,.ns,.i 0,.i 0,.i 0,.i 0,.b false],Xj a0.M.Pairs]⟩ ?_
 refine Qdp 2 (kk:=2) (n:=a0.M.Pairs.length) (ty:=81) (g:=vec Qa.e Qa.z a0.M.Pairs) (by kernel_rfl) (st':=⟨10,(Qde.p0 a0),[.box 41 (Qde.q1 a0),.box 41 [.i 0,.i 0,.i 0,.ns,.i 0,.i 0,.i 0,.i 0,.b false],Qer a0.M.Pairs]⟩) (by kernel_rfl) ?_
 refine Qdt (av:=.agg [.i a0.M.Client,.i a0.M.Seq,.i a0.M.Kind,.own 2 2 0 a0.M.Pairs.length,.i a0.M.Over.Lo,.i a0.M.Over.Hi,.i a0.M.Old,.i a0.Time,.b a0.Jt]) (y:=Qes a0) [2,9] 9 (st':=⟨10,[(2,.ptr 1 0 0 0),(9,.d (Qes a0))],[.box 41 (Qde.q1 a0),.box 41 [.i 0,.i 0,.i 0,.ns,.i 0,.i 0,.i 0,.i 0,.b false],Qer a0.M.Pairs]⟩) (by kernel_rfl) (.agg (.cons (.d _) (.cons (.d _) (.cons (.d _) (.cons (.own (ty:=81) (k:=2) (by kernel_rfl)) (.cons (.d _) (.cons (.d _) (.cons (.d _) (.cons (.d _) (.cons (.d _) .nil)))))))))) (by kernel_rfl) ?_
 refine Qh hT 2 (K26 111 1) ⟨10,[(2,.ptr 1 0 0 0)],[.box 41 (Qde.q1 a0),.box 41 (Qb0 a0),Qer a0.M.Pairs]⟩ ?_
 obtain rfl:=Yg H
 exact Qdz hT hf hX (av:=.d (Qes a0)) (by kernel_rfl) [] (Jh (by kernel_rfl)) (by decide) (by rw [h0];rfl) (by kernel_rfl) an (.d (.agg (Qd.nl _)))
abbrev Wt.q1 (a1:Int):=([(⟨a1,IntKind.wrap .i64 (a1+1)⟩:Qb)]:List Qb)
abbrev Wt.q2 (v3:Qd) (Qab:Int) (Qac:Bool):List AV:=[.i v3.M.Client,.i v3.M.Seq,.i v3.M.Kind,.d (Xw true v3.M.Pairs),.i v3.M.Over.Lo,.i v3.M.Over.Hi,.i v3.M.Old,.i v3.Time,.b v3.Jt,.i Qab,.b Qac,.i 0,.b false]
abbrev Wt.s1 (a1:Int) (Wl:List Qa) (Xz:List Wq) (t0:Bool) (a0:List Qd) (Qaf:Int) (Qab:Int) (Qac:Bool):St:=⟨75,[(1,.i a1),(6,.own 0 2 0 ((Wt.q1 a1).length)),(7,.own 1 2 0 Wl.length),(8,.own 2 13 0 Xz.length),(9,.ptr 3 0 0 0),(11,.ptr 4 0 0 0),(31,.d (Xq t0 a0)),(32,.i (a0.length:Int)),(33,.i Qaf)],[Qbt (Wt.q1 a1),Xj Wl,Jw Xz,.box 36 [.i Qab,.b Qac],.box 41 (Qb0 (a0.getD Qaf.toNat Qd.z))]⟩
abbrev Wt.p0 (a1:Int):List (Nat × AV):=[(1,.i a1),(6,.own 0 2 0 ((Wt.q1 a1).length))]
theorem Wt.Wv {t0:Bool} (a0:List Qd) (a1:Int) {r:(List Wq) × Int} (H:Wt a0 a1=some r):Yy Tryz.prog 8 [] [.d (Xq t0 a0),.i a1] [Jw r.1] (.Qn [.own 0 13 0 r.1.length,.i r.2]):=by
 refine Yc Tryz.func8 rfl (nt:=75) rfl (lb rfl) fun X hP h0 hX=>?_
 have hT:Xo X.P T:=hP▸tok
 have hf:X.P.funcs[8]? = some Tryz.f8:=hP▸Tryz.func8
 refine Qh hT 9 (K8 1100 1) ⟨75,[(0,.d (Xq t0 a0)),(1,.i a1),(15,.d (Xq t0 a0))],[]⟩ ?_
 obtain ⟨v1,h1,H⟩:=ibC H
 have Yn:∀ (Qqm:Bool),(Wt.j1 a0 a1 Qqm)=some r->AK X 8 ((K8 110 1)) (Yt X [Jw r.1] (.Qn [.own 0 13 0 r.1.length,.i r.2])) ⟨75,[(0,.d (Xq t0 a0)),(1,.i a1),(25,.b Qqm)],[]⟩:=by
  intro Qqm H
  by_cases c4:Qqm=true
  ·replace H:=iT c4 H
   rw [c4]
   refine Qh hT 6 (K8 11010 1) ⟨75,[(4,.ns),(5,.i 1)],[]⟩ ?_
   refine Qc6 [4,5] 4 13 43 (vec Wq.e Wq.z []) (st':=⟨75,[(4,.own 0 13 0 0),(5,.i 1)],[Jw ([]:List Wq)]⟩) (by kernel_rfl) (by kernel_rfl) ?_
   obtain rfl:=Yg H
   exact Yi hf hX h0 (.Qn [.own 0 13 0 0,.i 1]) [0] (ac (Qa1 Wq.nl) an) (.Qn (.cons (.own _ _ _ _) (.cons (.d (.v _)) .nil)))
  replace H:=iF c4 H
  rw [Zz c4]
  refine Qh hT 2 (K8 11 1) ⟨75,[(0,.d (Xq t0 a0)),(1,.i a1)],[]⟩ ?_
  refine Qh hT 30 (K8 1111111010 0) ⟨75,[(1,.i a1),(6,.own 0 2 0 1),(7,.ns),(8,.ns),(9,.ptr 1 0 0 0),(31,.d (Xq t0 a0)),(32,.i (a0.length:Int)),(33,.i 0)],[.flat false 2 33 1 (fun j=>[[.i a1,.i (IntKind.wrap .i64 (a1+1))]].getD j []),.box 36 [.i 0,.b false]]⟩ ?_
  refine Qhq 0 (kk:=2) (fz:=false) (ty:=33) (n:=(Wt.q1 a1).length) (vec Qb.e Qb.z (Wt.q1 a1)) (by kernel_rfl) Qha (st':=⟨75,(Wt.p0 a1++[(7,.ns),(8,.ns),(9,.ptr 1 0 0 0),(31,.d (Xq t0 a0)),(32,.i (a0.length:Int)),(33,.i 0)]),[Qap (Wt.q1 a1),.box 36 [.i 0,.b false]]⟩) (by kernel_rfl) ?_
  refine Qdp 0 (kk:=2) (n:=(Wt.q1 a1).length) (ty:=33) (g:=vec Qb.e Qb.z (Wt.q1 a1)) (by kernel_rfl) (st':=⟨75,(Wt.p0 a1++[(7,.ns),(8,.ns),(9,.ptr 1 0 0 0),(31,.d (Xq t0 a0)),(32,.i (a0.length:Int)),(33,.i 0)]),[Qbt (Wt.q1 a1),.box 36 [.i 0,.b false]]⟩) (by kernel_rfl) ?_
  refine Qc6 [1,6,7,8,9,31,32,33] 7 2 81 (vec Qa.e Qa.z []) (st':=⟨75,(Wt.p0 a1++[(7,.own 2 2 0 0),(8,.ns),(9,.ptr 1 0 0 0),(31,.d (Xq t0 a0)),(32,.i (a0.length:Int)),(33,.i 0)]),[Qbt (Wt.q1 a1),.box 36 [.i 0,.b false],Xj ([]:List Qa)]⟩) (by kernel_rfl) (by kernel_rfl) ?_
  refine Qc6 [1,6,7,8,9,31,32,33] 8 13 43 (vec Wq.e Wq.z []) (st':=⟨75,(Wt.p0 a1++[(7,.own 2 2 0 0),(8,.own 3 13 0 0),(9,.ptr 1 0 0 0),(31,.d (Xq t0 a0)),(32,.i (a0.length:Int)),(33,.i 0)]),[Qbt (Wt.q1 a1),.box 36 [.i 0,.b false],Xj ([]:List Qa),Jw ([]:List Wq)]⟩) (by kernel_rfl) (by kernel_rfl) ?_
  have L:∀ n,(∀ (Qaf:Int) (Wl:List Qa) (Xz:List Wq) (Qab:Int) (Qac:Bool),iter (Wt.step a0 a1) n (.l1 Qaf Wl Xz Qab Qac)=some r->AK X 8 ((K8 1111111010 0)) (Yt X [Jw r.1] (.Qn [.own 0 13 0 r.1.length,.i r.2])) ⟨75,(Wt.p0 a1++[(7,.own 1 2 0 Wl.length),(8,.own 2 13 0 Xz.length),(9,.ptr 3 0 0 0),(31,.d (Xq t0 a0)),(32,.i (a0.length:Int)),(33,.i Qaf)]),[Qbt (Wt.q1 a1),Xj Wl,Jw Xz,.box 36 [.i Qab,.b Qac]]⟩):=by
   intro n
   induction n with
   | zero=>exact fun _ _ _ _ _ H=>Qbd H
   | succ n ih=>
    ·intro Qaf Wl Xz Qab Qac H
     refine Qh hT 5 (K8 111111101001 0) ⟨75,(Wt.p0 a1++[(7,.own 1 2 0 Wl.length),(8,.own 2 13 0 Xz.length),(9,.ptr 3 0 0 0),(31,.d (Xq t0 a0)),(32,.i (a0.length:Int)),(33,.i Qaf),(34,.b (decide (Qaf < (a0.length:Int))))]),[Qbt (Wt.q1 a1),Xj Wl,Jw Xz,.box 36 [.i Qab,.b Qac]]⟩ ?_
     by_cases c5:Qaf < (a0.length:Int)
     ·replace H:=sT c5 H
      rw [decide_eq_true c5]
      refine Qh hT 2 (K8 111111101001 1) ⟨75,(Wt.p0 a1++[(7,.own 1 2 0 Wl.length),(8,.own 2 13 0 Xz.length),(9,.ptr 3 0 0 0),(31,.d (Xq t0 a0)),(32,.i (a0.length:Int)),(33,.i Qaf)]),[Qbt (Wt.q1 a1),Xj Wl,Jw Xz,.box 36 [.i Qab,.b Qac]]⟩ ?_
      refine Qh hT 4 (K8 1111111010011000 0) ⟨75,(Wt.p0 a1++[(7,.own 1 2 0 Wl.length),(8,.own 2 13 0 Xz.length),(9,.ptr 3 0 0 0),(31,.d (Xq t0 a0)),(32,.i (a0.length:Int)),(33,.i Qaf)]),[Qbt (Wt.q1 a1),Xj Wl,Jw Xz,.box 36 [.i Qab,.b Qac]]⟩ ?_
      obtain ⟨h6,H⟩:=sC H
      have Jj2:∀ (Qqz:Bool),stk (Wt.j2 a0 a1 Qaf Wl Xz Qab Qac Qqz) (iter (Wt.step a0 a1) n)=some r->AK X 8 ((K8 11111110100110010 1)) (Yt X [Jw r.1] (.Qn [.own 0 13 0 r.1.length,.i r.2])) ⟨75,(Wt.p0 a1++[(7,.own 1 2 0 Wl.length),(8,.own 2 13 0 Xz.length),(9,.ptr 3 0 0 0),(11,.ptr 4 0 0 0),(31,.d (Xq t0 a0)),(32,.i (a0.length:Int)),(33,.i Qaf),(45,.b Qqz)]),[Qbt (Wt.q1 a1),Xj Wl,Jw Xz,.box 36 [.i Qab,.b Qac],.box 41 (Qb0 (a0.getD Qaf.toNat Qd.z))]⟩:=by
       intro Qqz H
       by_cases c9:Qqz=true
       ·replace H:=sT c9 H
        rw [c9]
        refine Xn hT 7 (K8 1111111010 0) [0,1,2,3] ⟨75,(Wt.p0 a1++[(7,.own 1 2 0 Wl.length),(8,.own 2 13 0 Xz.length),(9,.ptr 3 0 0 0),(31,.d (Xq t0 a0)),(32,.i (a0.length:Int)),(33,.i (IntKind.wrap .i64 (Qaf+1)))]),[Qbt (Wt.q1 a1),Xj Wl,Jw Xz,.box 36 [.i Qab,.b Qac]]⟩ h0 ?_
        exact ih (IntKind.wrap .i64 (Qaf+1)) Wl Xz Qab Qac H
       replace H:=sF c9 H
       rw [Zz c9]
       refine Qh hT 2 (K8 1111111010011001 1) (Wt.s1 a1 Wl Xz t0 a0 Qaf Qab Qac) ?_
       refine Qh hT 1 (K8 11111110100110011 0) (Wt.s1 a1 Wl Xz t0 a0 Qaf Qab Qac) ?_
       obtain ⟨v3,h10,H⟩:=sbC H
       refine Qgq (nt:=75) (hP▸mixed) 5 [4] [1,6,7,8,9,11,31,32,33] [(1,.i a1),(6,.own 0 2 0 ((Wt.q1 a1).length)),(7,.own 1 2 0 Wl.length),(8,.own 2 13 0 Xz.length),(9,.ptr 3 0 0 0),(11,.ptr 4 0 0 0),(31,.d (Xq t0 a0)),(32,.i (a0.length:Int)),(33,.i Qaf)] (sm [.d (Qes (a0.getD Qaf.toNat Qd.z)),.d (Qes v3),.d (.agg [.i Qab,.b Qac]),.d (.agg [.i v3.M.Client,.i v3.M.Seq,.i v3.M.Kind,Xw true v3.M.Pairs,.i v3.M.Over.Lo,.i v3.M.Over.Hi,.i v3.M.Old,.i v3.Time,.b v3.Jt,.i Qab,.b Qac,.i 0,.b false]),.ptr 5 0 0 0]) [[Qbt (Wt.q1 a1),Xj Wl,Jw Xz,.box 36 [.i Qab,.b Qac],.box 41 (Qb0 (a0.getD Qaf.toNat Qd.z))],[Qbt (Wt.q1 a1),Xj Wl,Jw Xz,.box 36 [.i Qab,.b Qac],.box 41 (Qb0 (a0.getD Qaf.toNat Qd.z)),.box 43 [.i 0,.i 0,.i 0,.ns,.i 0,.i 0,.i 0,.i 0,.b false,.i 0,.b false,.i 0,.b false]]] (by kernel_rfl) (by kernel_rfl) (by kernel_rfl) (by kernel_rfl) ⟨?_,(Qg7 hT),?_⟩ ?_
       iterate 2 exact (Qit (Qat (Qat (Qgd (Qat Qlw hT) (fun R rest h=>Ju (Yk:=[.d (Qes (a0.getD Qaf.toNat Qd.z))]) (dst:=some 47) hP Qox (Qde.Wv (a0.getD Qaf.toNat Qd.z) h10) (by kernel_rfl) (.cons (Qp _) .nil) (by kernel_rfl) h)) hT) hT))
       refine Qh hT 8 (K8 1111111010011001110 4) ⟨75,(Wt.p0 a1++[(8,.own 2 13 0 Xz.length),(9,.ptr 3 0 0 0),(12,.ptr 5 0 0 0),(31,.d (Xq t0 a0)),(32,.i (a0.length:Int)),(33,.i Qaf),(51,.own 1 2 0 Wl.length),(53,.d (Qas ((a0.getD Qaf.toNat Qd.z).M))),(54,.own 0 2 0 ((Wt.q1 a1).length))]),[Qbt (Wt.q1 a1),Xj Wl,Jw Xz,.box 36 [.i Qab,.b Qac],.box 41 (Qb0 (a0.getD Qaf.toNat Qd.z)),.box 43 (Wt.q2 v3 Qab Qac)]⟩ ?_
       obtain ⟨v4,h11,H⟩:=sbC H
       refine Ws (Yk:=[.own 1 2 0 Wl.length,.d (Qas ((a0.getD Qaf.toNat Qd.z).M)),.own 0 2 0 ((Wt.q1 a1).length)]) (dst:=some 55) (k':=(K8 1111111010011001110 5)) [1,6,8,9,12,31,32,33,55] [] hP Qoy (Wm.Wv (t0:=false) Wl ((a0.getD Qaf.toNat Qd.z).M) (Wt.q1 a1) h11) (by kernel_rfl) (Qz _) (.cons (.Qek (ty:=81) (by kernel_rfl) rfl) (.cons (Qp _) (.cons (.Qek (ty:=33) (by kernel_rfl) rfl) .nil))) (st':=⟨75,(Wt.p0 a1++[(8,.own 2 13 0 Xz.length),(9,.ptr 3 0 0 0),(12,.ptr 5 0 0 0),(31,.d (Xq t0 a0)),(32,.i (a0.length:Int)),(33,.i Qaf),(55,.Qn [.own 6 2 0 v4.1.length,.b v4.2])]),[Qbt (Wt.q1 a1),Xj Wl,Jw Xz,.box 36 [.i Qab,.b Qac],.box 41 (Qb0 (a0.getD Qaf.toNat Qd.z)),.box 43 (Wt.q2 v3 Qab Qac),Xj v4.1]⟩) (by kernel_rfl) ?_
       refine Qh hT 9 (K8 11111110100110011110 2) ⟨75,(Wt.p0 a1++[(7,.own 6 2 0 v4.1.length),(8,.own 2 13 0 Xz.length),(9,.ptr 3 0 0 0),(12,.ptr 5 0 0 0),(31,.d (Xq t0 a0)),(32,.i (a0.length:Int)),(33,.i Qaf),(59,.own 6 2 0 v4.1.length),(60,.i a1)]),[Qbt (Wt.q1 a1),Xj Wl,Jw Xz,.box 36 [.i Qab,.b Qac],.box 41 (Qb0 (a0.getD Qaf.toNat Qd.z)),.box 43 (Wt.q2 v3 Qab Qac),Xj v4.1]⟩ ?_
       obtain ⟨v5,h12,H⟩:=sbC H
       refine Ws (Yk:=[.own 6 2 0 v4.1.length,.i a1]) (dst:=some 61) (k':=(K8 11111110100110011110 3)) [1,6,7,8,9,12,31,32,33,61] [] hP Qt9 (Qgv.Wv (t0:=false) v4.1 a1 h12) (by kernel_rfl) (Qz _) (.cons (.Qek (ty:=81) (by kernel_rfl) rfl) (.cons (Qp _) .nil)) (st':=⟨75,(Wt.p0 a1++[(7,.own 6 2 0 v4.1.length),(8,.own 2 13 0 Xz.length),(9,.ptr 3 0 0 0),(12,.ptr 5 0 0 0),(31,.d (Xq t0 a0)),(32,.i (a0.length:Int)),(33,.i Qaf),(61,.Qn [.i v5.1,.b v5.2])]),[Qbt (Wt.q1 a1),Xj Wl,Jw Xz,.box 36 [.i Qab,.b Qac],.box 41 (Qb0 (a0.getD Qaf.toNat Qd.z)),.box 43 (Wt.q2 v3 Qab Qac),Xj v4.1]⟩) (by kernel_rfl) ?_
       refine Qh hT 23 (K8 1111111010011001111111 3) ⟨75,(Wt.p0 a1++[(7,.own 6 2 0 v4.1.length),(9,.ptr 3 0 0 0),(31,.d (Xq t0 a0)),(32,.i (a0.length:Int)),(33,.i Qaf),(69,.own 2 13 0 Xz.length),(71,.own 7 13 0 1)]),[Qbt (Wt.q1 a1),Xj Wl,Jw Xz,.box 36 [.i v5.1,.b v5.2],.box 41 (Qb0 (a0.getD Qaf.toNat Qd.z)),.box 43 [.i v3.M.Client,.i v3.M.Seq,.i v3.M.Kind,.d (Xw true v3.M.Pairs),.i v3.M.Over.Lo,.i v3.M.Over.Hi,.i v3.M.Old,.i v3.Time,.b v3.Jt,.i Qab,.b Qac,.i v5.1,.b v5.2],Xj v4.1,.flat false 13 43 1 (fun j=>[[.i v3.M.Client,.i v3.M.Seq,.i v3.M.Kind,Xw true v3.M.Pairs,.i v3.M.Over.Lo,.i v3.M.Over.Hi,.i v3.M.Old,.i v3.Time,.b v3.Jt,.i Qab,.b Qac,.i v5.1,.b v5.2]].getD j [])]⟩ ?_
       obtain ⟨h13,H⟩:=sC H
       refine Qcw (id:=2) (kk:=13) (by':=120) (t:=26) (e:=43) (z:=[.int .i64 0,.int .i64 0,.int .i64 0,.slice none 0 0,.int .i64 0,.int .i64 0,.int .i64 0,.int .i64 0,.bool false,.int .i64 0,.bool false,.int .i64 0,.bool false]) (dst:=some 72) (id2:=7) (e2:=43) (fz:=false) (k':=(K8 1111111010011001111111 4)) hT Wq.e Wq.z Xz (⟨v3,(⟨Qab,Qac⟩:Yv),(⟨v5.1,v5.2⟩:Yv)⟩:Wq) [1,6,7,9,31,32,33,72] (by kernel_rfl) (by kernel_rfl) (by kernel_rfl) (by kernel_rfl) (by kernel_rfl) (by kernel_rfl) (by kernel_rfl) h13 (by omega) (st':=⟨75,(Wt.p0 a1++[(7,.own 6 2 0 v4.1.length),(9,.ptr 3 0 0 0),(31,.d (Xq t0 a0)),(32,.i (a0.length:Int)),(33,.i Qaf),(72,.own 8 13 0 ((Xz ++ [(⟨v3,(⟨Qab,Qac⟩:Yv),(⟨v5.1,v5.2⟩:Yv)⟩:Wq)]).length))]),[Qbt (Wt.q1 a1),Xj Wl,.gone,.box 36 [.i v5.1,.b v5.2],.box 41 (Qb0 (a0.getD Qaf.toNat Qd.z)),.box 43 [.i v3.M.Client,.i v3.M.Seq,.i v3.M.Kind,.d (Xw true v3.M.Pairs),.i v3.M.Over.Lo,.i v3.M.Over.Hi,.i v3.M.Old,.i v3.Time,.b v3.Jt,.i Qab,.b Qac,.i v5.1,.b v5.2],Xj v4.1,.flat false 13 43 1 (fun j=>[[.i v3.M.Client,.i v3.M.Seq,.i v3.M.Kind,Xw true v3.M.Pairs,.i v3.M.Over.Lo,.i v3.M.Over.Hi,.i v3.M.Old,.i v3.Time,.b v3.Jt,.i Qab,.b Qac,.i v5.1,.b v5.2]].getD j []),Jw (Xz ++ [(⟨v3,(⟨Qab,Qac⟩:Yv),(⟨v5.1,v5.2⟩:Yv)⟩:Wq)])]⟩) (by kernel_rfl) ?_
       refine Xn hT 8 (K8 1111111010 0) [0,6,8,3] ⟨75,(Wt.p0 a1++[(7,.own 1 2 0 v4.1.length),(8,.own 2 13 0 (Xz ++ [(⟨v3,(⟨Qab,Qac⟩:Yv),(⟨v5.1,v5.2⟩:Yv)⟩:Wq)]).length),(9,.ptr 3 0 0 0),(31,.d (Xq t0 a0)),(32,.i (a0.length:Int)),(33,.i (IntKind.wrap .i64 (Qaf+1)))]),[Qbt (Wt.q1 a1),Xj v4.1,Jw (Xz ++ [(⟨v3,(⟨Qab,Qac⟩:Yv),(⟨v5.1,v5.2⟩:Yv)⟩:Wq)]),.box 36 [.i v5.1,.b v5.2]]⟩ h0 ?_
       exact ih (IntKind.wrap .i64 (Qaf+1)) v4.1 (Xz ++ [(⟨v3,(⟨Qab,Qac⟩:Yv),(⟨v5.1,v5.2⟩:Yv)⟩:Wq)]) v5.1 v5.2 H
      refine Jf hT [1,6,7,8,9,31,32,33,35] (i:=Qaf) (n:=(a0.length:Int)) h6.1 h6.2 (k':=(K8 1111111010011000 1)) (st':=⟨75,(Wt.p0 a1++[(7,.own 1 2 0 Wl.length),(8,.own 2 13 0 Xz.length),(9,.ptr 3 0 0 0),(31,.d (Xq t0 a0)),(32,.i (a0.length:Int)),(33,.i Qaf),(35,.d (Qjx t0 a0 Qaf.toNat 0))]),[Qbt (Wt.q1 a1),Xj Wl,Jw Xz,.box 36 [.i Qab,.b Qac]]⟩) (by kernel_rfl) ?_
      refine Qh hT 11 (K8 111111101001100100 4) ⟨75,(Wt.p0 a1++[(7,.own 1 2 0 Wl.length),(8,.own 2 13 0 Xz.length),(9,.ptr 3 0 0 0),(11,.ptr 4 0 0 0),(31,.d (Xq t0 a0)),(32,.i (a0.length:Int)),(33,.i Qaf),(40,.b (!((a0.getD Qaf.toNat Qd.z).Jt)))]),[Qbt (Wt.q1 a1),Xj Wl,Jw Xz,.box 36 [.i Qab,.b Qac],.box 41 (Qb0 (a0.getD Qaf.toNat Qd.z))]⟩ ?_
      by_cases c7:((a0.getD Qaf.toNat Qd.z).Jt)=true
      ·replace H:=sT c7 H
       rw [c7]
       refine Qh hT 2 (K8 111111101001100100 6) ⟨75,(Wt.p0 a1++[(7,.own 1 2 0 Wl.length),(8,.own 2 13 0 Xz.length),(9,.ptr 3 0 0 0),(11,.ptr 4 0 0 0),(31,.d (Xq t0 a0)),(32,.i (a0.length:Int)),(33,.i Qaf),(40,.b false),(41,.d (Qes (a0.getD Qaf.toNat Qd.z))),(42,.own 0 2 0 ((Wt.q1 a1).length))]),[Qbt (Wt.q1 a1),Xj Wl,Jw Xz,.box 36 [.i Qab,.b Qac],.box 41 (Qb0 (a0.getD Qaf.toNat Qd.z))]⟩ ?_
       obtain ⟨v2,h8,H⟩:=sbC H
       refine Ws (Yk:=[.d (Qes (a0.getD Qaf.toNat Qd.z)),.own 0 2 0 ((Wt.q1 a1).length)]) (dst:=some 43) (k':=(K8 111111101001100100 7)) [1,6,7,8,9,11,31,32,33,40,43] [] hP Qt8 (Qdy.Wv (t1:=true) (a0.getD Qaf.toNat Qd.z) (Wt.q1 a1) h8) (by kernel_rfl) (Qz _) (.cons (Qp _) (.cons (.Qek (ty:=33) (by kernel_rfl) rfl) .nil)) (st':=⟨75,(Wt.p0 a1++[(7,.own 1 2 0 Wl.length),(8,.own 2 13 0 Xz.length),(9,.ptr 3 0 0 0),(11,.ptr 4 0 0 0),(31,.d (Xq t0 a0)),(32,.i (a0.length:Int)),(33,.i Qaf),(40,.b false),(43,.b v2)]),[Qbt (Wt.q1 a1),Xj Wl,Jw Xz,.box 36 [.i Qab,.b Qac],.box 41 (Qb0 (a0.getD Qaf.toNat Qd.z))]⟩) (by kernel_rfl) ?_
       refine Xn hT 3 (K8 11111110100110010 1) [0,1,2,3,4] ⟨75,(Wt.p0 a1++[(7,.own 1 2 0 Wl.length),(8,.own 2 13 0 Xz.length),(9,.ptr 3 0 0 0),(11,.ptr 4 0 0 0),(31,.d (Xq t0 a0)),(32,.i (a0.length:Int)),(33,.i Qaf),(45,.b (!v2))]),[Qbt (Wt.q1 a1),Xj Wl,Jw Xz,.box 36 [.i Qab,.b Qac],.box 41 (Qb0 (a0.getD Qaf.toNat Qd.z))]⟩ h0 ?_
       exact Jj2 (!v2) H
      replace H:=sF c7 H
      rw [Zz c7]
      refine Xn hT 6 (K8 11111110100110010 1) [0,1,2,3,4] ⟨75,(Wt.p0 a1++[(7,.own 1 2 0 Wl.length),(8,.own 2 13 0 Xz.length),(9,.ptr 3 0 0 0),(11,.ptr 4 0 0 0),(31,.d (Xq t0 a0)),(32,.i (a0.length:Int)),(33,.i Qaf),(45,.b true)]),[Qbt (Wt.q1 a1),Xj Wl,Jw Xz,.box 36 [.i Qab,.b Qac],.box 41 (Qb0 (a0.getD Qaf.toNat Qd.z))]⟩ h0 ?_
      exact Jj2 true H
     replace H:=sF c5 H
     rw [decide_eq_false c5]
     refine Qh hT 8 (K8 11111111 1) ⟨75,[(4,.own 2 13 0 Xz.length),(5,.i 0)],[Qbt (Wt.q1 a1),Xj Wl,Jw Xz,.box 36 [.i Qab,.b Qac]]⟩ ?_
     obtain rfl:=Yg H
     exact Yi hf hX h0 (.Qn [.own 2 13 0 Xz.length,.i 0]) [2] (ac (Qa1 Wq.nl) an) (.Qn (.cons (.own _ _ _ _) (.cons (.d (.v _)) .nil)))
  refine Qhm [0,2,3,1] ⟨75,(Wt.p0 a1++[(7,.own 1 2 0 ([]:List Qa).length),(8,.own 2 13 0 ([]:List Wq).length),(9,.ptr 3 0 0 0),(31,.d (Xq t0 a0)),(32,.i (a0.length:Int)),(33,.i 0)]),[Qbt (Wt.q1 a1),Xj ([]:List Qa),Jw ([]:List Wq),.box 36 [.i 0,.b false]]⟩ h0 ?_
  obtain ⟨n,H⟩:=Qbz H
  exact (L n) 0 ([]:List Qa) ([]:List Wq) 0 false H
 refine Ws (Yk:=[.d (Xq t0 a0)]) (dst:=some 16) (k':=(K8 1100 2)) [0,1,16] [] hP Qnr (Zb.Wv (t0:=t0) a0 h1) (by kernel_rfl) (Qz _) (.cons (Qp _) .nil) (st':=⟨75,[(0,.d (Xq t0 a0)),(1,.i a1),(16,.b v1)],[]⟩) (by kernel_rfl) ?_
 refine Qh hT 2 (K8 1100 4) ⟨75,[(0,.d (Xq t0 a0)),(1,.i a1),(18,.b (!v1))],[]⟩ ?_
 by_cases c2:v1=true
 ·replace H:=iT c2 H
  rw [c2]
  refine Qh hT 4 (K8 1100 8) ⟨75,[(0,.d (Xq t0 a0)),(1,.i a1),(22,.b (decide (a1 < 0)))],[]⟩ ?_
  by_cases c3:a1 < 0
  ·replace H:=iT c3 H
   rw [decide_eq_true c3]
   refine Xn hT 4 (K8 110 1) [] ⟨75,[(0,.d (Xq t0 a0)),(1,.i a1),(25,.b true)],[]⟩ h0 ?_
   exact Yn true H
  replace H:=iF c3 H
  rw [decide_eq_false c3]
  refine Xn hT 4 (K8 110 1) [] ⟨75,[(0,.d (Xq t0 a0)),(1,.i a1),(25,.b (decide (a1>=4096)))],[]⟩ h0 ?_
  exact Yn (decide (a1>=4096)) H
 replace H:=iF c2 H
 rw [Zz c2]
 refine Xn hT 8 (K8 110 1) [] ⟨75,[(0,.d (Xq t0 a0)),(1,.i a1),(25,.b true)],[]⟩ h0 ?_
 exact Yn true H
theorem Ja.Wv (a0:Qi):Yy Tryz.prog 39 [] [.d (Qlo a0)] [] (.b (Ja a0)):=by
 obtain ⟨r,H⟩:∃ r,Ja a0=r:=⟨_,rfl⟩
 rw [H]
 refine Yc Tryz.func39 rfl (nt:=18) rfl (lb rfl) fun X hP h0 hX=>?_
 have hT:Xo X.P T:=hP▸tok
 have hf:X.P.funcs[39]? = some Tryz.f39:=hP▸Tryz.func39
 have Yn:∀ (Qa8:Bool),(Ja.j1 Qa8)=r->AK X 39 ((K39 11 1)) (Yt X [] (.b r)) ⟨18,[(2,.b Qa8)],[]⟩:=by
  intro Qa8 H
  obtain rfl:=H
  exact Yi hf hX h0 (.b Qa8) [] an (.d (.v _))
 refine Qh hT 11 (K39 110 4) ⟨18,[(1,.ptr 0 0 0 0),(6,.b (decide (a0.Lo>=0)))],[.box 46 (Wig a0)]⟩ ?_
 by_cases c1:a0.Lo>=0
 ·replace H:=iT c1 H
  rw [decide_eq_true c1]
  refine Qh hT 7 (K39 110 11) ⟨18,[(1,.ptr 0 0 0 0),(13,.b (decide (a0.Lo < a0.Hi)))],[.box 46 (Wig a0)]⟩ ?_
  by_cases c2:a0.Lo < a0.Hi
  ·replace H:=iT c2 H
   rw [decide_eq_true c2]
   refine Xn hT 6 (K39 11 1) [] ⟨18,[(2,.b (decide (a0.Hi<=4096)))],[]⟩ h0 ?_
   exact Yn (decide (a0.Hi<=4096)) H
  replace H:=iF c2 H
  rw [decide_eq_false c2]
  refine Xn hT 6 (K39 11 1) [] ⟨18,[(2,.b false)],[]⟩ h0 ?_
  exact Yn false H
 replace H:=iF c1 H
 rw [decide_eq_false c1]
 refine Xn hT 13 (K39 11 1) [] ⟨18,[(2,.b false)],[]⟩ h0 ?_
 exact Yn false H
theorem Qaj.Wv (a0:Int):Yy Tryz.prog 89 [] [.i a0] [] (.b (Qaj a0)):=by
 obtain ⟨r,H⟩:∃ r,Qaj a0=r:=⟨_,rfl⟩
 rw [H]
 refine Yc Tryz.func89 rfl (nt:=9) rfl (lb rfl) fun X hP h0 hX=>?_
 have hT:Xo X.P T:=hP▸tok
 have hf:X.P.funcs[89]? = some Tryz.f89:=hP▸Tryz.func89
 have Yn:∀ (Qa8:Bool),(Qaj.j1 Qa8)=r->AK X 89 ((K89 11 1)) (Yt X [] (.b r)) ⟨9,[(2,.b Qa8)],[]⟩:=by
  intro Qa8 H
  obtain rfl:=H
  exact Yi hf hX h0 (.b Qa8) [] an (.d (.v _))
 refine Qh hT 9 (K89 110 3) ⟨9,[(0,.i a0),(5,.b (decide (a0>=(-1099511627776))))],[]⟩ ?_
 by_cases c1:a0>=(-1099511627776)
 ·replace H:=iT c1 H
  rw [decide_eq_true c1]
  refine Qh hT 5 (K89 11 1) ⟨9,[(2,.b (decide (a0<=1099511627776)))],[]⟩ ?_
  exact Yn (decide (a0<=1099511627776)) H
 replace H:=iF c1 H
 rw [decide_eq_false c1]
 refine Qh hT 5 (K89 11 1) ⟨9,[(2,.b false)],[]⟩ ?_
 exact Yn false H
abbrev Wu.p0 (t0:Bool) (a0:List Qc):List (Nat × AV):=[(0,.d (Yf t0 a0))]
theorem Wu.Wv {t0:Bool} (a0:List Qc) (a1:Int) (a2:Int) {r:Bool} (H:Wu a0 a1 a2=some r):Yy Tryz.prog 88 [] [.d (Yf t0 a0),.i a1,.i a2] [] (.b r):=by
 refine Yc Tryz.func88 rfl (nt:=47) rfl (lb rfl) fun X hP h0 hX=>?_
 have hT:Xo X.P T:=hP▸tok
 have hf:X.P.funcs[88]? = some Tryz.f88:=hP▸Tryz.func88
 have Yn:∀ (Qmo:Bool),(Wu.j1 a0 Qmo)=some r->AK X 88 ((K88 110 1)) (Yt X [] (.b r)) ⟨47,(Wu.p0 t0 a0++[(17,.b Qmo)]),[]⟩:=by
  intro Qmo H
  by_cases c2:Qmo=true
  ·replace H:=iT c2 H
   rw [c2]
   refine Qh hT 5 (K88 11010 1) ⟨47,[(6,.b false)],[]⟩ ?_
   obtain rfl:=Yg H
   exact Yi hf hX h0 (.b false) [] an (.d (.v _))
  replace H:=iF c2 H
  rw [Zz c2]
  refine Qh hT 2 (K88 11 1) ⟨47,(Wu.p0 t0 a0),[]⟩ ?_
  refine Qh hT 7 (K88 111010 0) ⟨47,(Wu.p0 t0 a0++[(7,.i 0)]),[]⟩ ?_
  have L:∀ n,(∀ (Qq:Int),iter (Wu.step a0) n (.l1 Qq)=some r->AK X 88 ((K88 111010 0)) (Yt X [] (.b r)) ⟨47,(Wu.p0 t0 a0++[(7,.i Qq)]),[]⟩):=by
   intro n
   induction n with
   | zero=>exact fun _ H=>Qbd H
   | succ n ih=>
    ·intro Qq H
     refine Qh hT 8 (K88 11101000 1) ⟨47,(Wu.p0 t0 a0++[(7,.i Qq),(21,.b (decide (Qq < (a0.length:Int))))]),[]⟩ ?_
     by_cases c3:Qq < (a0.length:Int)
     ·replace H:=sT c3 H
      rw [decide_eq_true c3]
      refine Qh hT 2 (K88 1110100 1) ⟨47,(Wu.p0 t0 a0++[(7,.i Qq)]),[]⟩ ?_
      refine Qh hT 6 (K88 11101001000 2) ⟨47,(Wu.p0 t0 a0++[(7,.i Qq),(24,.d (Yf t0 a0)),(25,.i Qq)]),[]⟩ ?_
      obtain ⟨h4,H⟩:=sC H
      have Jj2:∀ (Qic:Bool),stk (Wu.j2 Qq Qic) (iter (Wu.step a0) n)=some r->AK X 88 ((K88 1110100100 1)) (Yt X [] (.b r)) ⟨47,(Wu.p0 t0 a0++[(7,.i Qq),(46,.b Qic)]),[]⟩:=by
       intro Qic H
       by_cases c7:Qic=true
       ·replace H:=sT c7 H
        rw [c7]
        refine Qh hT 5 (K88 111010010010 1) ⟨47,[(6,.b false)],[]⟩ ?_
        obtain rfl:=Yg H
        exact Yi hf hX h0 (.b false) [] an (.d (.v _))
       replace H:=sF c7 H
       rw [Zz c7]
       refine Qh hT 3 (K88 11101001 1) ⟨47,(Wu.p0 t0 a0++[(7,.i Qq)]),[]⟩ ?_
       refine Qh hT 6 (K88 111010 0) ⟨47,(Wu.p0 t0 a0++[(7,.i (IntKind.wrap .i64 (Qq+1)))]),[]⟩ ?_
       exact ih (IntKind.wrap .i64 (Qq+1)) H
      refine Jf hT [0,7,26] (i:=Qq) (n:=(a0.length:Int)) h4.1 h4.2 (k':=(K88 11101001000 3)) (st':=⟨47,(Wu.p0 t0 a0++[(7,.i Qq),(26,.d (Qcv t0 a0 Qq.toNat 0))]),[]⟩) (by kernel_rfl) ?_
      refine Qh hT 4 (K88 11101001000 7) ⟨47,(Wu.p0 t0 a0++[(7,.i Qq),(30,.b (decide (((a0.getD Qq.toNat Qc.z).Key) < 0)))]),[]⟩ ?_
      by_cases c5:((a0.getD Qq.toNat Qc.z).Key) < 0
      ·replace H:=sT c5 H
       rw [decide_eq_true c5]
       refine Qh hT 17 (K88 1110100100 1) ⟨47,(Wu.p0 t0 a0++[(7,.i Qq),(46,.b true)]),[]⟩ ?_
       exact Jj2 true H
      replace H:=sF c5 H
      rw [decide_eq_false c5]
      refine Qh hT 2 (K88 11101001000 9) ⟨47,(Wu.p0 t0 a0++[(7,.i Qq),(30,.b false),(31,.d (Yf t0 a0)),(32,.i Qq)]),[]⟩ ?_
      refine Jf hT [0,7,30,33] (i:=Qq) (n:=(a0.length:Int)) h4.1 h4.2 (k':=(K88 11101001000 10)) (st':=⟨47,(Wu.p0 t0 a0++[(7,.i Qq),(30,.b false),(33,.d (Qcv t0 a0 Qq.toNat 0))]),[]⟩) (by kernel_rfl) ?_
      refine Qh hT 5 (K88 11101001000 15) ⟨47,(Wu.p0 t0 a0++[(7,.i Qq),(38,.b (decide (((a0.getD Qq.toNat Qc.z).Key) > 4095)))]),[]⟩ ?_
      by_cases c6:((a0.getD Qq.toNat Qc.z).Key) > 4095
      ·replace H:=sT c6 H
       rw [decide_eq_true c6]
       refine Qh hT 9 (K88 1110100100 1) ⟨47,(Wu.p0 t0 a0++[(7,.i Qq),(46,.b true)]),[]⟩ ?_
       exact Jj2 true H
      replace H:=sF c6 H
      rw [decide_eq_false c6]
      refine Qh hT 2 (K88 11101001000 17) ⟨47,(Wu.p0 t0 a0++[(7,.i Qq),(38,.b false),(39,.d (Yf t0 a0)),(40,.i Qq)]),[]⟩ ?_
      refine Jf hT [0,7,38,41] (i:=Qq) (n:=(a0.length:Int)) h4.1 h4.2 (k':=(K88 11101001000 18)) (st':=⟨47,(Wu.p0 t0 a0++[(7,.i Qq),(38,.b false),(41,.d (Qcv t0 a0 Qq.toNat 0))]),[]⟩) (by kernel_rfl) ?_
      refine Qh hT 2 (K88 11101001000 20) ⟨47,(Wu.p0 t0 a0++[(7,.i Qq),(38,.b false),(43,.i ((a0.getD Qq.toNat Qc.z).Val))]),[]⟩ ?_
      refine Ws (Yk:=[.i ((a0.getD Qq.toNat Qc.z).Val)]) (dst:=some 44) (k':=(K88 11101001000 21)) [0,7,38,44] [] hP Quo (Qaj.Wv ((a0.getD Qq.toNat Qc.z).Val)) (by kernel_rfl) (Qz _) (.cons (Qp _) .nil) (st':=⟨47,(Wu.p0 t0 a0++[(7,.i Qq),(38,.b false),(44,.b (Qaj ((a0.getD Qq.toNat Qc.z).Val)))]),[]⟩) (by kernel_rfl) ?_
      refine Qh hT 3 (K88 1110100100 1) ⟨47,(Wu.p0 t0 a0++[(7,.i Qq),(46,.b (!(Qaj ((a0.getD Qq.toNat Qc.z).Val))))]),[]⟩ ?_
      exact Jj2 (!(Qaj ((a0.getD Qq.toNat Qc.z).Val))) H
     replace H:=sF c3 H
     rw [decide_eq_false c3]
     refine Qh hT 6 (K88 1111 1) ⟨47,[(6,.b true)],[]⟩ ?_
     obtain rfl:=Yg H
     exact Yi hf hX h0 (.b true) [] an (.d (.v _))
  obtain ⟨n,H⟩:=Qbz H
  exact (L n) 0 H
 refine Qh hT 12 (K88 1100 5) ⟨47,(Wu.p0 t0 a0++[(2,.i a2),(12,.b (decide ((a0.length:Int) < a1)))]),[]⟩ ?_
 by_cases c1:(a0.length:Int) < a1
 ·replace H:=iT c1 H
  rw [decide_eq_true c1]
  refine Qh hT 6 (K88 110 1) ⟨47,(Wu.p0 t0 a0++[(17,.b true)]),[]⟩ ?_
  exact Yn true H
 replace H:=iF c1 H
 rw [decide_eq_false c1]
 refine Qh hT 6 (K88 110 1) ⟨47,(Wu.p0 t0 a0++[(17,.b (decide ((a0.length:Int) > a2)))]),[]⟩ ?_
 exact Yn (decide ((a0.length:Int) > a2)) H
abbrev Qo.p0:List (Nat × AV):=[(1,.ptr 0 0 0 0)]
theorem Qo.Wv (a0:Qk) {r:Bool} (H:Qo a0=some r):Yy Tryz.prog 64 [] [.d (Qcb a0)] [] (.b r):=by
 refine Yc Tryz.func64 rfl (nt:=143) rfl (lb rfl) fun X hP h0 hX=>?_
 have hT:Xo X.P T:=hP▸tok
 have hf:X.P.funcs[64]? = some Tryz.f64:=hP▸Tryz.func64
 have Yn:∀ (Qep:Bool),(Qo.j1 a0 Qep)=some r->AK X 64 ((K64 110 1)) (Yt X [] (.b r)) ⟨143,(Qo.p0++[(21,.b Qep)]),[.box 48 (Xx a0)]⟩:=by
  intro Qep H
  by_cases c4:Qep=true
  ·replace H:=iT c4 H
   rw [c4]
   refine Qh hT 5 (K64 11010 1) ⟨143,[(2,.b false)],[.box 48 (Xx a0)]⟩ ?_
   obtain rfl:=Yg H
   exact Yi hf hX h0 (.b false) [] an (.d (.v _))
  replace H:=iF c4 H
  rw [Zz c4]
  refine Qh hT 2 (K64 11 1) ⟨143,(Qo.p0),[.box 48 (Xx a0)]⟩ ?_
  refine Qh hT 7 (K64 1110 1) ⟨143,(Qo.p0++[(24,.b (a0.Kind == 2))]),[.box 48 (Xx a0)]⟩ ?_
  by_cases c5:a0.Kind=2
  ·replace H:=iT c5 H
   have Jj2:∀ (Qhb:Bool),(Qo.j2 Qhb)=some r->AK X 64 ((K64 111010 1)) (Yt X [] (.b r)) ⟨143,[(2,.b Qhb)],[]⟩:=by
    intro Qhb H
    obtain rfl:=Yg H
    exact Yi hf hX h0 (.b Qhb) [] an (.d (.v _))
   rw [eqT c5]
   refine Qh hT 8 (K64 1110100 5) ⟨143,(Qo.p0++[(29,.b ((a0.Pairs.length:Int) == 0))]),[.box 48 (Xx a0)]⟩ ?_
   by_cases c6:(a0.Pairs.length:Int)=0
   ·replace H:=iT c6 H
    rw [eqT c6]
    refine Qh hT 5 (K64 1110100 10) ⟨143,(Qo.p0++[(34,.b (a0.Old == 0))]),[.box 48 (Xx a0)]⟩ ?_
    by_cases c7:a0.Old=0
    ·replace H:=iT c7 H
     rw [eqT c7]
     refine Qh hT 2 (K64 1110100 12) ⟨143,[(34,.b true),(36,.d (Qlo a0.Over))],[.box 48 (Xx a0)]⟩ ?_
     refine Ws (Yk:=[.d (Qlo a0.Over)]) (dst:=some 37) (k':=(K64 1110100 13)) [34,37] [] hP Qkk (Ja.Wv a0.Over) (by kernel_rfl) (Qz _) (.cons (Qp _) .nil) (st':=⟨143,[(34,.b true),(37,.b (Ja a0.Over))],[.box 48 (Xx a0)]⟩) (by kernel_rfl) ?_
     refine Xn hT 3 (K64 111010 1) [] ⟨143,[(2,.b (Ja a0.Over))],[]⟩ h0 ?_
     exact Jj2 (Ja a0.Over) H
    replace H:=iF c7 H
    rw [eqF c7]
    refine Xn hT 6 (K64 111010 1) [] ⟨143,[(2,.b false)],[]⟩ h0 ?_
    exact Jj2 false H
   replace H:=iF c6 H
   rw [eqF c6]
   refine Xn hT 11 (K64 111010 1) [] ⟨143,[(2,.b false)],[]⟩ h0 ?_
   exact Jj2 false H
  replace H:=iF c5 H
  have Jj3:∀ (Qq4:Bool),(Qo.j3 a0 Qq4)=some r->AK X 64 ((K64 11110 1)) (Yt X [] (.b r)) ⟨143,(Qo.p0++[(48,.b Qq4)]),[.box 48 (Xx a0)]⟩:=by
   intro Qq4 H
   by_cases c9:Qq4=true
   ·replace H:=iT c9 H
    rw [c9]
    refine Qh hT 5 (K64 1111010 1) ⟨143,[(2,.b false)],[.box 48 (Xx a0)]⟩ ?_
    obtain rfl:=Yg H
    exact Yi hf hX h0 (.b false) [] an (.d (.v _))
   replace H:=iF c9 H
   rw [Zz c9]
   refine Qh hT 2 (K64 1111 1) ⟨143,(Qo.p0),[.box 48 (Xx a0)]⟩ ?_
   refine Qh hT 7 (K64 111110 1) ⟨143,(Qo.p0++[(51,.b (a0.Kind == 4))]),[.box 48 (Xx a0)]⟩ ?_
   by_cases c10:a0.Kind=4
   ·replace H:=iT c10 H
    rw [eqT c10]
    refine Qh hT 5 (K64 111110100 2) ⟨143,(Qo.p0++[(53,.d (Yf true a0.Pairs))]),[.box 48 (Xx a0)]⟩ ?_
    obtain ⟨v1,h11,H⟩:=ibC H
    have Jj4:∀ (Qj7:Bool),(Qo.j4 Qj7)=some r->AK X 64 ((K64 11111010 1)) (Yt X [] (.b r)) ⟨143,[(2,.b Qj7)],[]⟩:=by
     intro Qj7 H
     obtain rfl:=Yg H
     exact Yi hf hX h0 (.b Qj7) [] an (.d (.v _))
    refine Ws (Yk:=[.d (Yf true a0.Pairs),.i 1,.i 1]) (dst:=some 54) (k':=(K64 111110100 3)) [1,54] [] hP Qi2 (Wu.Wv (t0:=true) a0.Pairs 1 1 h11) (by kernel_rfl) (Qz _) (.cons (Qp _) (.cons (Qp _) (.cons (Qp _) .nil))) (st':=⟨143,(Qo.p0++[(54,.b v1)]),[.box 48 (Xx a0)]⟩) (by kernel_rfl) ?_
    refine Qh hT 1 (K64 111110100 4) ⟨143,(Qo.p0++[(55,.b v1)]),[.box 48 (Xx a0)]⟩ ?_
    by_cases c12:v1=true
    ·replace H:=iT c12 H
     rw [c12]
     refine Qh hT 2 (K64 111110100 6) ⟨143,(Qo.p0++[(55,.b true),(57,.i a0.Old)]),[.box 48 (Xx a0)]⟩ ?_
     refine Ws (Yk:=[.i a0.Old]) (dst:=some 58) (k':=(K64 111110100 7)) [1,55,58] [] hP Quo (Qaj.Wv a0.Old) (by kernel_rfl) (Qz _) (.cons (Qp _) .nil) (st':=⟨143,(Qo.p0++[(55,.b true),(58,.b (Qaj a0.Old))]),[.box 48 (Xx a0)]⟩) (by kernel_rfl) ?_
     refine Qh hT 1 (K64 111110100 8) ⟨143,(Qo.p0++[(55,.b true),(59,.b (Qaj a0.Old))]),[.box 48 (Xx a0)]⟩ ?_
     by_cases c13:(Qaj a0.Old)=true
     ·replace H:=iT c13 H
      rw [c13]
      refine Xn hT 7 (K64 11111010 1) [] ⟨143,[(2,.b true)],[]⟩ h0 ?_
      exact Jj4 true H
     replace H:=iF c13 H
     rw [Zz c13]
     refine Xn hT 7 (K64 11111010 1) [] ⟨143,[(2,.b (a0.Old == 1099511627777))],[]⟩ h0 ?_
     exact Jj4 (a0.Old == 1099511627777) H
    replace H:=iF c12 H
    rw [Zz c12]
    refine Xn hT 11 (K64 11111010 1) [] ⟨143,[(2,.b false)],[]⟩ h0 ?_
    exact Jj4 false H
   replace H:=iF c10 H
   rw [eqF c10]
   refine Qh hT 2 (K64 11111 1) ⟨143,(Qo.p0),[.box 48 (Xx a0)]⟩ ?_
   refine Qh hT 7 (K64 1111110 1) ⟨143,(Qo.p0++[(67,.b (a0.Old != 0))]),[.box 48 (Xx a0)]⟩ ?_
   by_cases c14:a0.Old=0
   ·replace H:=iT c14 H
    rw [neF c14]
    refine Qh hT 2 (K64 111111 1) ⟨143,(Qo.p0),[.box 48 (Xx a0)]⟩ ?_
    refine Qh hT 7 (K64 11111110 1) ⟨143,(Qo.p0++[(70,.b (a0.Kind == 1))]),[.box 48 (Xx a0)]⟩ ?_
    by_cases c15:a0.Kind=1
    ·replace H:=iT c15 H
     rw [eqT c15]
     refine Qh hT 8 (K64 1111111010010 0) ⟨143,(Qo.p0++[(3,.i 1)]),[.box 48 (Xx a0)]⟩ ?_
     have L:∀ n,(∀ (We:Int),iter (Qo.step a0) n (.l1 We)=some r->AK X 64 ((K64 1111111010010 0)) (Yt X [] (.b r)) ⟨143,(Qo.p0++[(3,.i We)]),[.box 48 (Xx a0)]⟩):=by
      intro n
      induction n with
      | zero=>exact fun _ H=>Qbd H
      | succ n ih=>
       ·intro We H
        refine Qh hT 9 (K64 111111101001000 1) ⟨143,(Qo.p0++[(3,.i We),(75,.b (decide (We < (a0.Pairs.length:Int))))]),[.box 48 (Xx a0)]⟩ ?_
        by_cases c16:We < (a0.Pairs.length:Int)
        ·replace H:=sT c16 H
         rw [decide_eq_true c16]
         refine Qh hT 2 (K64 11111110100100 1) ⟨143,(Qo.p0++[(3,.i We)]),[.box 48 (Xx a0)]⟩ ?_
         refine Qh hT 3 (K64 11111110100100100 0) ⟨143,(Qo.p0++[(3,.i We)]),[.box 48 (Xx a0)]⟩ ?_
         obtain ⟨h18,H⟩:=sC H
         obtain ⟨h19,H⟩:=sC H
         refine Qax (hP▸mixed) 14 [1,3] (sm [.ptr 0 0 0 3,.d (Yf true a0.Pairs),.i We,.i (IntKind.wrap .i64 (We - 1)),.d (Qcv true a0.Pairs ((IntKind.wrap .i64 (We - 1)).toNat) 0),.d (Qcv true a0.Pairs ((IntKind.wrap .i64 (We - 1)).toNat) 0),.i ((a0.Pairs.getD ((IntKind.wrap .i64 (We - 1)).toNat) Qc.z).Key),.ptr 0 0 0 3,.d (Yf true a0.Pairs),.i We,.d (Qcv true a0.Pairs We.toNat 0),.d (Qcv true a0.Pairs We.toNat 0),.i ((a0.Pairs.getD We.toNat Qc.z).Key),.b (decide (((a0.Pairs.getD ((IntKind.wrap .i64 (We - 1)).toNat) Qc.z).Key)>=((a0.Pairs.getD We.toNat Qc.z).Key)))]) (Qg (Qg (Qg (Jn (Qg (Qg (Qg (Qg (Qg (Jn (Qg (Qg (Qg (Qg op0 hT) hT) hT) hT) (fun R rest h=>Zd hT (i:=IntKind.wrap .i64 (We - 1)) (n:=(a0.Pairs.length:Int)) h18.1 h18.2 (by kernel_rfl) h)) hT) hT) hT) hT) hT) (fun R rest h=>Zd hT (i:=We) (n:=(a0.Pairs.length:Int)) h19.1 h19.2 (by kernel_rfl) h)) hT) hT) hT) ?_
         refine Qh hT 1 (K64 11111110100100100 1) ⟨143,(Qo.p0++[(3,.i We),(91,.b (decide (((a0.Pairs.getD ((IntKind.wrap .i64 (We - 1)).toNat) Qc.z).Key)>=((a0.Pairs.getD We.toNat Qc.z).Key))))]),[.box 48 (Xx a0)]⟩ ?_
         by_cases c20:((a0.Pairs.getD ((IntKind.wrap .i64 (We - 1)).toNat) Qc.z).Key)>=((a0.Pairs.getD We.toNat Qc.z).Key)
         ·replace H:=sT c20 H
          rw [decide_eq_true c20]
          refine Qh hT 5 (K64 1111111010010010010 1) ⟨143,[(2,.b false)],[.box 48 (Xx a0)]⟩ ?_
          obtain rfl:=Yg H
          exact Yi hf hX h0 (.b false) [] an (.d (.v _))
         replace H:=sF c20 H
         rw [decide_eq_false c20]
         refine Qh hT 3 (K64 111111101001001 1) ⟨143,(Qo.p0++[(3,.i We)]),[.box 48 (Xx a0)]⟩ ?_
         refine Qh hT 6 (K64 1111111010010 0) ⟨143,(Qo.p0++[(3,.i (IntKind.wrap .i64 (We+1)))]),[.box 48 (Xx a0)]⟩ ?_
         exact ih (IntKind.wrap .i64 (We+1)) H
        replace H:=sF c16 H
        rw [decide_eq_false c16]
        refine Qh hT 6 (K64 111111101010 2) ⟨143,[(93,.d (Yf true a0.Pairs))],[.box 48 (Xx a0)]⟩ ?_
        obtain ⟨v2,h17,H⟩:=sbC H
        refine Ws (Yk:=[.d (Yf true a0.Pairs),.i 1,.i 8]) (dst:=some 94) (k':=(K64 111111101010 3)) [94] [] hP Qi2 (Wu.Wv (t0:=true) a0.Pairs 1 8 h17) (by kernel_rfl) (Qz _) (.cons (Qp _) (.cons (Qp _) (.cons (Qp _) .nil))) (st':=⟨143,[(94,.b v2)],[.box 48 (Xx a0)]⟩) (by kernel_rfl) ?_
        refine Qh hT 2 (K64 11111110101 1) ⟨143,[(2,.b v2)],[.box 48 (Xx a0)]⟩ ?_
        obtain rfl:=Yg H
        exact Yi hf hX h0 (.b v2) [] an (.d (.v _))
     obtain ⟨n,H⟩:=Qbz H
     exact (L n) 1 H
    replace H:=iF c15 H
    rw [eqF c15]
    refine Qh hT 2 (K64 1111111 1) ⟨143,(Qo.p0),[.box 48 (Xx a0)]⟩ ?_
    refine Qh hT 7 (K64 111111110 1) ⟨143,(Qo.p0++[(97,.b (a0.Kind == 3))]),[.box 48 (Xx a0)]⟩ ?_
    by_cases c21:a0.Kind=3
    ·replace H:=iT c21 H
     rw [eqT c21]
     refine Qh hT 5 (K64 111111110100 2) ⟨143,[(99,.d (Yf true a0.Pairs))],[.box 48 (Xx a0)]⟩ ?_
     obtain ⟨v3,h22,H⟩:=ibC H
     refine Ws (Yk:=[.d (Yf true a0.Pairs),.i 1,.i 1]) (dst:=some 100) (k':=(K64 111111110100 3)) [100] [] hP Qi2 (Wu.Wv (t0:=true) a0.Pairs 1 1 h22) (by kernel_rfl) (Qz _) (.cons (Qp _) (.cons (Qp _) (.cons (Qp _) .nil))) (st':=⟨143,[(100,.b v3)],[.box 48 (Xx a0)]⟩) (by kernel_rfl) ?_
     refine Qh hT 2 (K64 11111111010 1) ⟨143,[(2,.b v3)],[.box 48 (Xx a0)]⟩ ?_
     obtain rfl:=Yg H
     exact Yi hf hX h0 (.b v3) [] an (.d (.v _))
    replace H:=iF c21 H
    have Jj5:∀ (Qj8:Bool),(Qo.j5 Qj8)=some r->AK X 64 ((K64 111111111 1)) (Yt X [] (.b r)) ⟨143,[(2,.b Qj8)],[]⟩:=by
     intro Qj8 H
     obtain rfl:=Yg H
     exact Yi hf hX h0 (.b Qj8) [] an (.d (.v _))
    rw [eqF c21]
    refine Qh hT 2 (K64 11111111 1) ⟨143,(Qo.p0),[.box 48 (Xx a0)]⟩ ?_
    refine Qh hT 1 (K64 111111111 0) ⟨143,(Qo.p0),[.box 48 (Xx a0)]⟩ ?_
    by_cases c23:a0.Kind=5
    ·replace H:=iT c23 H
     obtain ⟨v4,h24,H⟩:=ibC H
     by_cases c25:v4=true
     ·replace H:=iT c25 H
      obtain ⟨h26,H⟩:=iC H
      obtain ⟨h27,H⟩:=iC H
      by_cases c28:((a0.Pairs.getD 0 Qc.z).Key)=((a0.Pairs.getD 1 Qc.z).Key)
      ·replace H:=iT c28 H
       refine Qax (hP▸mixed) 32 [1] (sm [.ptr 0 0 0 2,.i a0.Kind,.b true,.b true,.ptr 0 0 0 3,.d (Yf true a0.Pairs),.b true,.b true,.b true,.ptr 0 0 0 3,.d (Yf true a0.Pairs),.d (Qcv true a0.Pairs 0 0),.d (Qcv true a0.Pairs 0 0),.i ((a0.Pairs.getD 0 Qc.z).Key),.ptr 0 0 0 3,.d (Yf true a0.Pairs),.d (Qcv true a0.Pairs 1 0),.d (Qcv true a0.Pairs 1 0),.i ((a0.Pairs.getD 1 Qc.z).Key),.b false,.b false,.b false,.Qn [],.Qn [],.Qn [],.Qn [],.Qn [],.Qn [],.Qn [],.Qn [],.Qn [],.Qn []]) (Qg (Qg (Qg (Qg (Qg (Qg (Qg (Qg (Qg (Qg (Qg (Qg (opV (Qg (Qg (Jn (Qg (Qg (Qg (Qg (Jn (Qg (Qg (Qg (Qg (Jn (Qg (Qg (Qg (opV (Qg (Qg op0 hT) hT) hT 103 (.b (a0.Kind == 5)) (.b true) (by rw [eqT c23]<;>rfl)) hT) hT) hT) (fun R rest h=>Ju (Yk:=[.d (Yf true a0.Pairs),.i 2,.i 2]) (dst:=some 107) hP Qi2 (by have q:=Wu.Wv (t0:=true) a0.Pairs 2 2 h24;rw [c25] at q;exact q) (by kernel_rfl) (.cons (Qp _) (.cons (Qp _) (.cons (Qp _) .nil))) (by kernel_rfl) h)) hT) hT) hT) hT) (fun R rest h=>Zd hT (i:=0) (n:=(a0.Pairs.length:Int)) h26.1 h26.2 (by kernel_rfl) h)) hT) hT) hT) hT) (fun R rest h=>Zd hT (i:=1) (n:=(a0.Pairs.length:Int)) h27.1 h27.2 (by kernel_rfl) h)) hT) hT) hT 120 (.b (((a0.Pairs.getD 0 Qc.z).Key) != ((a0.Pairs.getD 1 Qc.z).Key))) (.b false) (by rw [neF c28]<;>rfl)) hT) hT) hT) hT) hT) hT) hT) hT) hT) hT) hT) hT) ?_
       refine Xn hT 12 (K64 111111111 1) [] ⟨143,[(2,.b false)],[]⟩ h0 ?_
       exact Jj5 false H
      replace H:=iF c28 H
      refine Qax (hP▸mixed) 32 [1] (sm [.ptr 0 0 0 2,.i a0.Kind,.b true,.b true,.ptr 0 0 0 3,.d (Yf true a0.Pairs),.b true,.b true,.b true,.ptr 0 0 0 3,.d (Yf true a0.Pairs),.d (Qcv true a0.Pairs 0 0),.d (Qcv true a0.Pairs 0 0),.i ((a0.Pairs.getD 0 Qc.z).Key),.ptr 0 0 0 3,.d (Yf true a0.Pairs),.d (Qcv true a0.Pairs 1 0),.d (Qcv true a0.Pairs 1 0),.i ((a0.Pairs.getD 1 Qc.z).Key),.b true,.b true,.b true,.ptr 0 0 0 3,.d (Yf true a0.Pairs),.d (Qcv true a0.Pairs 0 0),.d (Qcv true a0.Pairs 0 1),.i ((a0.Pairs.getD 0 Qc.z).Val),.ptr 0 0 0 3,.d (Yf true a0.Pairs),.d (Qcv true a0.Pairs 1 0),.d (Qcv true a0.Pairs 1 1),.i ((a0.Pairs.getD 1 Qc.z).Val)]) (Qg (Qg (Jn (Qg (Qg (Qg (Qg (Jn (Qg (Qg (Qg (Qg (opV (Qg (Qg (Jn (Qg (Qg (Qg (Qg (Jn (Qg (Qg (Qg (Qg (Jn (Qg (Qg (Qg (opV (Qg (Qg op0 hT) hT) hT 103 (.b (a0.Kind == 5)) (.b true) (by rw [eqT c23]<;>rfl)) hT) hT) hT) (fun R rest h=>Ju (Yk:=[.d (Yf true a0.Pairs),.i 2,.i 2]) (dst:=some 107) hP Qi2 (by have q:=Wu.Wv (t0:=true) a0.Pairs 2 2 h24;rw [c25] at q;exact q) (by kernel_rfl) (.cons (Qp _) (.cons (Qp _) (.cons (Qp _) .nil))) (by kernel_rfl) h)) hT) hT) hT) hT) (fun R rest h=>Zd hT (i:=0) (n:=(a0.Pairs.length:Int)) h26.1 h26.2 (by kernel_rfl) h)) hT) hT) hT) hT) (fun R rest h=>Zd hT (i:=1) (n:=(a0.Pairs.length:Int)) h27.1 h27.2 (by kernel_rfl) h)) hT) hT) hT 120 (.b (((a0.Pairs.getD 0 Qc.z).Key) != ((a0.Pairs.getD 1 Qc.z).Key))) (.b true) (by rw [neT c28]<;>rfl)) hT) hT) hT) hT) (fun R rest h=>Zd hT (i:=0) (n:=(a0.Pairs.length:Int)) h26.1 h26.2 (by kernel_rfl) h)) hT) hT) hT) hT) (fun R rest h=>Zd hT (i:=1) (n:=(a0.Pairs.length:Int)) h27.1 h27.2 (by kernel_rfl) h)) hT) hT) ?_
      refine Qh hT 3 (K64 1111111110 35) ⟨143,(Qo.p0++[(135,.b (((a0.Pairs.getD 0 Qc.z).Val) == ((a0.Pairs.getD 1 Qc.z).Val)))]),[.box 48 (Xx a0)]⟩ ?_
      by_cases c29:((a0.Pairs.getD 0 Qc.z).Val)=((a0.Pairs.getD 1 Qc.z).Val)
      ·replace H:=iT c29 H
       rw [eqT c29]
       refine Qh hT 2 (K64 1111111110 37) ⟨143,[(135,.b true),(137,.d (Yf true a0.Pairs))],[.box 48 (Xx a0)]⟩ ?_
       refine Jf hT [135,138] (i:=0) (n:=(a0.Pairs.length:Int)) h26.1 h26.2 (k':=(K64 1111111110 38)) (st':=⟨143,[(135,.b true),(138,.d (Qcv true a0.Pairs 0 0))],[.box 48 (Xx a0)]⟩) (by kernel_rfl) ?_
       refine Xn hT 6 (K64 111111111 1) [] ⟨143,[(2,.b (decide (((a0.Pairs.getD 0 Qc.z).Val)>=0)))],[]⟩ h0 ?_
       exact Jj5 (decide (((a0.Pairs.getD 0 Qc.z).Val)>=0)) H
      replace H:=iF c29 H
      rw [eqF c29]
      refine Xn hT 9 (K64 111111111 1) [] ⟨143,[(2,.b false)],[]⟩ h0 ?_
      exact Jj5 false H
     replace H:=iF c25 H
     refine Qax (hP▸mixed) 32 [1] (sm [.ptr 0 0 0 2,.i a0.Kind,.b true,.b true,.ptr 0 0 0 3,.d (Yf true a0.Pairs),.b false,.b false,.b false,.Qn [],.Qn [],.Qn [],.Qn [],.Qn [],.Qn [],.Qn [],.Qn [],.Qn [],.Qn [],.Qn [],.b false,.b false,.Qn [],.Qn [],.Qn [],.Qn [],.Qn [],.Qn [],.Qn [],.Qn [],.Qn [],.Qn []]) (Qg (Qg (Qg (Qg (Qg (Qg (Qg (Qg (Qg (Qg (Qg (Qg (Qg (Qg (Qg (Qg (Qg (Qg (Qg (Qg (Qg (Qg (Qg (Qg (Qg (Jn (Qg (Qg (Qg (opV (Qg (Qg op0 hT) hT) hT 103 (.b (a0.Kind == 5)) (.b true) (by rw [eqT c23]<;>rfl)) hT) hT) hT) (fun R rest h=>Ju (Yk:=[.d (Yf true a0.Pairs),.i 2,.i 2]) (dst:=some 107) hP Qi2 (by have q:=Wu.Wv (t0:=true) a0.Pairs 2 2 h24;rw [Zz c25] at q;exact q) (by kernel_rfl) (.cons (Qp _) (.cons (Qp _) (.cons (Qp _) .nil))) (by kernel_rfl) h)) hT) hT) hT) hT) hT) hT) hT) hT) hT) hT) hT) hT) hT) hT) hT) hT) hT) hT) hT) hT) hT) hT) hT) hT) hT) ?_
     refine Xn hT 12 (K64 111111111 1) [] ⟨143,[(2,.b false)],[]⟩ h0 ?_
     exact Jj5 false H
    replace H:=iF c23 H
    refine Qax (hP▸mixed) 32 [1] (sm [.ptr 0 0 0 2,.i a0.Kind,.b false,.b false,.Qn [],.Qn [],.Qn [],.b false,.b false,.Qn [],.Qn [],.Qn [],.Qn [],.Qn [],.Qn [],.Qn [],.Qn [],.Qn [],.Qn [],.Qn [],.b false,.b false,.Qn [],.Qn [],.Qn [],.Qn [],.Qn [],.Qn [],.Qn [],.Qn [],.Qn [],.Qn []]) (Qg (Qg (Qg (Qg (Qg (Qg (Qg (Qg (Qg (Qg (Qg (Qg (Qg (Qg (Qg (Qg (Qg (Qg (Qg (Qg (Qg (Qg (Qg (Qg (Qg (Qg (Qg (Qg (Qg (opV (Qg (Qg op0 hT) hT) hT 103 (.b (a0.Kind == 5)) (.b false) (by rw [eqF c23]<;>rfl)) hT) hT) hT) hT) hT) hT) hT) hT) hT) hT) hT) hT) hT) hT) hT) hT) hT) hT) hT) hT) hT) hT) hT) hT) hT) hT) hT) hT) hT) ?_
    refine Xn hT 12 (K64 111111111 1) [] ⟨143,[(2,.b false)],[]⟩ h0 ?_
    exact Jj5 false H
   replace H:=iF c14 H
   rw [neT c14]
   refine Qh hT 5 (K64 111111010 1) ⟨143,[(2,.b false)],[.box 48 (Xx a0)]⟩ ?_
   obtain rfl:=Yg H
   exact Yi hf hX h0 (.b false) [] an (.d (.v _))
  rw [eqF c5]
  refine Qh hT 2 (K64 111 1) ⟨143,(Qo.p0),[.box 48 (Xx a0)]⟩ ?_
  refine Qh hT 8 (K64 111100 5) ⟨143,(Qo.p0++[(43,.b (a0.Over.Lo != 0))]),[.box 48 (Xx a0)]⟩ ?_
  by_cases c8:a0.Over.Lo=0
  ·replace H:=iT c8 H
   rw [neF c8]
   refine Qh hT 6 (K64 11110 1) ⟨143,(Qo.p0++[(48,.b (a0.Over.Hi != 0))]),[.box 48 (Xx a0)]⟩ ?_
   exact Jj3 (a0.Over.Hi != 0) H
  replace H:=iF c8 H
  rw [neT c8]
  refine Qh hT 6 (K64 11110 1) ⟨143,(Qo.p0++[(48,.b true)]),[.box 48 (Xx a0)]⟩ ?_
  exact Jj3 true H
 refine Qh hT 12 (K64 1100 4) ⟨143,(Qo.p0++[(7,.b (decide (a0.Client < 1)))]),[.box 48 (Xx a0)]⟩ ?_
 by_cases c1:a0.Client < 1
 ·replace H:=iT c1 H
  rw [decide_eq_true c1]
  refine Qh hT 15 (K64 110 1) ⟨143,(Qo.p0++[(21,.b true)]),[.box 48 (Xx a0)]⟩ ?_
  exact Yn true H
 replace H:=iF c1 H
 rw [decide_eq_false c1]
 refine Qh hT 5 (K64 1100 9) ⟨143,(Qo.p0++[(12,.b (decide (a0.Client > 1048576)))]),[.box 48 (Xx a0)]⟩ ?_
 by_cases c2:a0.Client > 1048576
 ·replace H:=iT c2 H
  rw [decide_eq_true c2]
  refine Qh hT 10 (K64 110 1) ⟨143,(Qo.p0++[(21,.b true)]),[.box 48 (Xx a0)]⟩ ?_
  exact Yn true H
 replace H:=iF c2 H
 rw [decide_eq_false c2]
 refine Qh hT 5 (K64 1100 14) ⟨143,(Qo.p0++[(17,.b (decide (a0.Seq < 1)))]),[.box 48 (Xx a0)]⟩ ?_
 by_cases c3:a0.Seq < 1
 ·replace H:=iT c3 H
  rw [decide_eq_true c3]
  refine Qh hT 5 (K64 110 1) ⟨143,(Qo.p0++[(21,.b true)]),[.box 48 (Xx a0)]⟩ ?_
  exact Yn true H
 replace H:=iF c3 H
 rw [decide_eq_false c3]
 refine Qh hT 5 (K64 110 1) ⟨143,(Qo.p0++[(21,.b (decide (a0.Seq > 1073741824)))]),[.box 48 (Xx a0)]⟩ ?_
 exact Yn (decide (a0.Seq > 1073741824)) H
theorem Qaz.Wv (a0:Qe):Yy Tryz.prog 69 [] [.d (Qjv a0)] [] (.d (Qnp (Qaz a0))):=by
 obtain ⟨r,H⟩:∃ r,Qaz a0=r:=⟨_,rfl⟩
 rw [H]
 refine Yc Tryz.func69 rfl (nt:=12) rfl (lb rfl) fun X hP h0 hX=>?_
 have hT:Xo X.P T:=hP▸tok
 have hf:X.P.funcs[69]? = some Tryz.f69:=hP▸Tryz.func69
 refine Qh hT 18 (K69 11 1) ⟨12,[(2,.ptr 1 0 0 0)],[.box 56 (Qno a0),.box 158 [.i a0.Time,.i a0.M.Client,.i a0.M.Seq]]⟩ ?_
 obtain rfl:=H
 exact Qdz hT hf hX (av:=.d (.agg [.i a0.Time,.i a0.M.Client,.i a0.M.Seq])) (by kernel_rfl) [] (Jh (by kernel_rfl)) (by decide) (by rw [h0];rfl) (by kernel_rfl) an (.d (.agg (Qbc.nl _)))
theorem Qcu.Wv (a0:Qbc) (a1:Qbc):Yy Tryz.prog 68 [] [.d (Qnp a0),.d (Qnp a1)] [] (.b (Qcu a0 a1)):=by
 obtain ⟨r,H⟩:∃ r,Qcu a0 a1=r:=⟨_,rfl⟩
 rw [H]
 refine Yc Tryz.func68 rfl (nt:=30) rfl (lb rfl) fun X hP h0 hX=>?_
 have hT:Xo X.P T:=hP▸tok
 have hf:X.P.funcs[68]? = some Tryz.f68:=hP▸Tryz.func68
 refine Qh hT 15 (K68 110 1) ⟨30,[(2,.ptr 0 0 0 0),(3,.ptr 1 0 0 0),(9,.b (a0.Time != a1.Time))],[.box 158 (Qhn a0),.box 158 (Qhn a1)]⟩ ?_
 by_cases c1:a0.Time=a1.Time
 ·replace H:=iT c1 H
  rw [neF c1]
  refine Qh hT 2 (K68 11 1) ⟨30,[(2,.ptr 0 0 0 0),(3,.ptr 1 0 0 0)],[.box 158 (Qhn a0),.box 158 (Qhn a1)]⟩ ?_
  refine Qh hT 9 (K68 1110 1) ⟨30,[(2,.ptr 0 0 0 0),(3,.ptr 1 0 0 0),(19,.b (a0.Client != a1.Client))],[.box 158 (Qhn a0),.box 158 (Qhn a1)]⟩ ?_
  by_cases c2:a0.Client=a1.Client
  ·replace H:=iT c2 H
   rw [neF c2]
   refine Qh hT 2 (K68 111 1) ⟨30,[(2,.ptr 0 0 0 0),(3,.ptr 1 0 0 0)],[.box 158 (Qhn a0),.box 158 (Qhn a1)]⟩ ?_
   refine Qh hT 9 (K68 1111 1) ⟨30,[(4,.b (decide (a0.Seq < a1.Seq)))],[.box 158 (Qhn a0),.box 158 (Qhn a1)]⟩ ?_
   obtain rfl:=H
   exact Yi hf hX h0 (.b (decide (a0.Seq < a1.Seq))) [] an (.d (.v _))
  replace H:=iF c2 H
  rw [neT c2]
  refine Qh hT 10 (K68 111010 1) ⟨30,[(4,.b (decide (a0.Client < a1.Client)))],[.box 158 (Qhn a0),.box 158 (Qhn a1)]⟩ ?_
  obtain rfl:=H
  exact Yi hf hX h0 (.b (decide (a0.Client < a1.Client))) [] an (.d (.v _))
 replace H:=iF c1 H
 rw [neT c1]
 refine Qh hT 10 (K68 11010 1) ⟨30,[(4,.b (decide (a0.Time < a1.Time)))],[.box 158 (Qhn a0),.box 158 (Qhn a1)]⟩ ?_
 obtain rfl:=H
 exact Yi hf hX h0 (.b (decide (a0.Time < a1.Time))) [] an (.d (.v _))
abbrev Yj.q1 (a0:List Qe) (We:Int):=(Qcu (Qaz (a0.getD ((IntKind.wrap .i64 (We - 1)).toNat) Qe.z)) (Qaz (a0.getD We.toNat Qe.z)))
theorem Yj.Wv {t0:Bool} (a0:List Qe) {r:Bool} (H:Yj a0=some r):Yy Tryz.prog 40 [] [.d (Qbq t0 a0)] [] (.b r):=by
 refine Yc Tryz.func40 rfl (nt:=36) rfl (lb rfl) fun X hP h0 hX=>?_
 have hT:Xo X.P T:=hP▸tok
 have hf:X.P.funcs[40]? = some Tryz.f40:=hP▸Tryz.func40
 refine Qh hT 11 (K40 11010 0) ⟨36,[(0,.d (Qbq t0 a0)),(3,.i 0)],[]⟩ ?_
 have L:∀ n,(∀ (We:Int),iter (Yj.step a0) n (.l1 We)=some r->AK X 40 ((K40 11010 0)) (Yt X [] (.b r)) ⟨36,[(0,.d (Qbq t0 a0)),(3,.i We)],[]⟩):=by
  intro n
  induction n with
  | zero=>exact fun _ H=>Qbd H
  | succ n ih=>
   ·intro We H
    refine Qh hT 8 (K40 1101000 1) ⟨36,[(0,.d (Qbq t0 a0)),(3,.i We),(7,.b (decide (We < (a0.length:Int))))],[]⟩ ?_
    by_cases c1:We < (a0.length:Int)
    ·replace H:=sT c1 H
     rw [decide_eq_true c1]
     refine Qh hT 2 (K40 110100 1) ⟨36,[(0,.d (Qbq t0 a0)),(3,.i We)],[]⟩ ?_
     refine Qh hT 3 (K40 110100100 0) ⟨36,[(0,.d (Qbq t0 a0)),(3,.i We)],[]⟩ ?_
     obtain ⟨h2,H⟩:=sC H
     obtain ⟨v1,h3,H⟩:=sbC H
     have Yn:∀ (Qqs:Bool),stk (Yj.j1 We Qqs) (iter (Yj.step a0) n)=some r->AK X 40 ((K40 110100100 1)) (Yt X [] (.b r)) ⟨36,[(0,.d (Qbq t0 a0)),(3,.i We),(35,.b Qqs)],[]⟩:=by
      intro Qqs H
      by_cases c7:Qqs=true
      ·replace H:=sT c7 H
       rw [c7]
       refine Qh hT 5 (K40 11010010010 1) ⟨36,[(2,.b false)],[]⟩ ?_
       obtain rfl:=Yg H
       exact Yi hf hX h0 (.b false) [] an (.d (.v _))
      replace H:=sF c7 H
      rw [Zz c7]
      refine Qh hT 3 (K40 1101001 1) ⟨36,[(0,.d (Qbq t0 a0)),(3,.i We)],[]⟩ ?_
      refine Qh hT 6 (K40 11010 0) ⟨36,[(0,.d (Qbq t0 a0)),(3,.i (IntKind.wrap .i64 (We+1)))],[]⟩ ?_
      exact ih (IntKind.wrap .i64 (We+1)) H
     by_cases c4:v1=true
     ·replace H:=sT c4 H
      by_cases c5:We > 0
      ·replace H:=sT c5 H
       obtain ⟨h6,H⟩:=sC H
       refine Qax (hP▸mixed) 26 [0,3] (sm [.d (Qbq t0 a0),.i We,.d (Qej t0 a0 We.toNat 0),.d (Qej t0 a0 We.toNat 0),.d (Qcb ((a0.getD We.toNat Qe.z).M)),.b true,.b false,.b false,.i We,.b true,.b true,.d (Qbq t0 a0),.i We,.i (IntKind.wrap .i64 (We - 1)),.d (Qej t0 a0 ((IntKind.wrap .i64 (We - 1)).toNat) 0),.d (Qjv (a0.getD ((IntKind.wrap .i64 (We - 1)).toNat) Qe.z)),.d (Qnp (Qaz (a0.getD ((IntKind.wrap .i64 (We - 1)).toNat) Qe.z))),.d (Qbq t0 a0),.i We,.d (Qej t0 a0 We.toNat 0),.d (Qjv (a0.getD We.toNat Qe.z)),.d (Qnp (Qaz (a0.getD We.toNat Qe.z))),.b (Yj.q1 a0 We),.b (!(Yj.q1 a0 We)),.b (!(Yj.q1 a0 We)),.b (!(Yj.q1 a0 We))]) (Qg (Qg (Qg (Jn (Jn (Qg (Jn (Qg (Qg (Jn (Qg (Jn (Qg (Qg (Qg (Qg (opV (Qg (Qg (Qg (Jn (Qg (Qg (Jn (Qg (Qg op0 hT) hT) (fun R rest h=>Zd hT (i:=We) (n:=(a0.length:Int)) h2.1 h2.2 (by kernel_rfl) h)) hT) hT) (fun R rest h=>Ju (Yk:=[.d (Qcb ((a0.getD We.toNat Qe.z).M))]) (dst:=some 15) hP Qhv (by have q:=Qo.Wv ((a0.getD We.toNat Qe.z).M) h3;rw [c4] at q;exact q) (by kernel_rfl) (.cons (Qp _) .nil) (by kernel_rfl) h)) hT) hT) hT) hT 19 (.b (decide (We > 0))) (.b true) (by rw [decide_eq_true c5]<;>rfl)) hT) hT) hT) hT) (fun R rest h=>Zd hT (i:=IntKind.wrap .i64 (We - 1)) (n:=(a0.length:Int)) h6.1 h6.2 (by kernel_rfl) h)) hT) (fun R rest h=>Ju (Yk:=[.d (Qjv (a0.getD ((IntKind.wrap .i64 (We - 1)).toNat) Qe.z))]) (dst:=some 26) hP Qui (Qaz.Wv (a0.getD ((IntKind.wrap .i64 (We - 1)).toNat) Qe.z)) (by kernel_rfl) (.cons (Qp _) .nil) (by kernel_rfl) h)) hT) hT) (fun R rest h=>Zd hT (i:=We) (n:=(a0.length:Int)) h2.1 h2.2 (by kernel_rfl) h)) hT) (fun R rest h=>Ju (Yk:=[.d (Qjv (a0.getD We.toNat Qe.z))]) (dst:=some 31) hP Qui (Qaz.Wv (a0.getD We.toNat Qe.z)) (by kernel_rfl) (.cons (Qp _) .nil) (by kernel_rfl) h)) (fun R rest h=>Ju (Yk:=[.d (Qnp (Qaz (a0.getD ((IntKind.wrap .i64 (We - 1)).toNat) Qe.z))),.d (Qnp (Qaz (a0.getD We.toNat Qe.z)))]) (dst:=some 32) hP Wci (Qcu.Wv (Qaz (a0.getD ((IntKind.wrap .i64 (We - 1)).toNat) Qe.z)) (Qaz (a0.getD We.toNat Qe.z))) (by kernel_rfl) (.cons (Qp _) (.cons (Qp _) .nil)) (by kernel_rfl) h)) hT) hT) hT) ?_
       refine Qh hT 1 (K40 110100100 1) ⟨36,[(0,.d (Qbq t0 a0)),(3,.i We),(35,.b (!(Yj.q1 a0 We)))],[]⟩ ?_
       exact Yn (!(Yj.q1 a0 We)) H
      replace H:=sF c5 H
      refine Qax (hP▸mixed) 26 [0,3] (sm [.d (Qbq t0 a0),.i We,.d (Qej t0 a0 We.toNat 0),.d (Qej t0 a0 We.toNat 0),.d (Qcb ((a0.getD We.toNat Qe.z).M)),.b true,.b false,.b false,.i We,.b false,.b false,.Qn [],.Qn [],.Qn [],.Qn [],.Qn [],.Qn [],.Qn [],.Qn [],.Qn [],.Qn [],.Qn [],.Qn [],.Qn [],.b false,.b false]) (Qg (Qg (Qg (Qg (Qg (Qg (Qg (Qg (Qg (Qg (Qg (Qg (Qg (Qg (Qg (Qg (opV (Qg (Qg (Qg (Jn (Qg (Qg (Jn (Qg (Qg op0 hT) hT) (fun R rest h=>Zd hT (i:=We) (n:=(a0.length:Int)) h2.1 h2.2 (by kernel_rfl) h)) hT) hT) (fun R rest h=>Ju (Yk:=[.d (Qcb ((a0.getD We.toNat Qe.z).M))]) (dst:=some 15) hP Qhv (by have q:=Qo.Wv ((a0.getD We.toNat Qe.z).M) h3;rw [c4] at q;exact q) (by kernel_rfl) (.cons (Qp _) .nil) (by kernel_rfl) h)) hT) hT) hT) hT 19 (.b (decide (We > 0))) (.b false) (by rw [decide_eq_false c5]<;>rfl)) hT) hT) hT) hT) hT) hT) hT) hT) hT) hT) hT) hT) hT) hT) hT) hT) ?_
      refine Qh hT 1 (K40 110100100 1) ⟨36,[(0,.d (Qbq t0 a0)),(3,.i We),(35,.b false)],[]⟩ ?_
      exact Yn false H
     replace H:=sF c4 H
     refine Qax (hP▸mixed) 26 [0,3] (sm [.d (Qbq t0 a0),.i We,.d (Qej t0 a0 We.toNat 0),.d (Qej t0 a0 We.toNat 0),.d (Qcb ((a0.getD We.toNat Qe.z).M)),.b false,.b true,.b true,.Qn [],.Qn [],.Qn [],.Qn [],.Qn [],.Qn [],.Qn [],.Qn [],.Qn [],.Qn [],.Qn [],.Qn [],.Qn [],.Qn [],.Qn [],.Qn [],.Qn [],.b true]) (Qg (Qg (Qg (Qg (Qg (Qg (Qg (Qg (Qg (Qg (Qg (Qg (Qg (Qg (Qg (Qg (Qg (Qg (Qg (Qg (Jn (Qg (Qg (Jn (Qg (Qg op0 hT) hT) (fun R rest h=>Zd hT (i:=We) (n:=(a0.length:Int)) h2.1 h2.2 (by kernel_rfl) h)) hT) hT) (fun R rest h=>Ju (Yk:=[.d (Qcb ((a0.getD We.toNat Qe.z).M))]) (dst:=some 15) hP Qhv (by have q:=Qo.Wv ((a0.getD We.toNat Qe.z).M) h3;rw [Zz c4] at q;exact q) (by kernel_rfl) (.cons (Qp _) .nil) (by kernel_rfl) h)) hT) hT) hT) hT) hT) hT) hT) hT) hT) hT) hT) hT) hT) hT) hT) hT) hT) hT) hT) hT) ?_
     refine Qh hT 1 (K40 110100100 1) ⟨36,[(0,.d (Qbq t0 a0)),(3,.i We),(35,.b true)],[]⟩ ?_
     exact Yn true H
    replace H:=sF c1 H
    rw [decide_eq_false c1]
    refine Qh hT 6 (K40 111 1) ⟨36,[(2,.b true)],[]⟩ ?_
    obtain rfl:=Yg H
    exact Yi hf hX h0 (.b true) [] an (.d (.v _))
 obtain ⟨n,H⟩:=Qbz H
 exact (L n) 0 H
abbrev Xl.p0 (a1:Int):List (Nat × AV):=[(1,.i a1),(2,.ptr 0 0 0 0)]
theorem Xl.Wv (a0:Qk) (a1:Int) {r:Bool} (H:Xl a0 a1=some r):Yy Tryz.prog 10 [] [.d (Qcb a0),.i a1] [] (.b r):=by
 refine Yc Tryz.func10 rfl (nt:=36) rfl (lb rfl) fun X hP h0 hX=>?_
 have hT:Xo X.P T:=hP▸tok
 have hf:X.P.funcs[10]? = some Tryz.f10:=hP▸Tryz.func10
 refine Qh hT 12 (K10 110 1) ⟨36,(Xl.p0 a1++[(8,.b (a0.Kind == 2))]),[.box 48 (Xx a0)]⟩ ?_
 by_cases c1:a0.Kind=2
 ·replace H:=iT c1 H
  have Yn:∀ (Qc9:Bool),(Xl.j1 Qc9)=some r->AK X 10 ((K10 11010 1)) (Yt X [] (.b r)) ⟨36,[(4,.b Qc9)],[]⟩:=by
   intro Qc9 H
   obtain rfl:=Yg H
   exact Yi hf hX h0 (.b Qc9) [] an (.d (.v _))
  rw [eqT c1]
  refine Qh hT 9 (K10 110100 6) ⟨36,(Xl.p0 a1++[(14,.b (decide (a1>=a0.Over.Lo)))]),[.box 48 (Xx a0)]⟩ ?_
  by_cases c2:a1>=a0.Over.Lo
  ·replace H:=iT c2 H
   rw [decide_eq_true c2]
   refine Xn hT 8 (K10 11010 1) [] ⟨36,[(4,.b (decide (a1 < a0.Over.Hi)))],[]⟩ h0 ?_
   exact Yn (decide (a1 < a0.Over.Hi)) H
  replace H:=iF c2 H
  rw [decide_eq_false c2]
  refine Xn hT 8 (K10 11010 1) [] ⟨36,[(4,.b false)],[]⟩ h0 ?_
  exact Yn false H
 replace H:=iF c1 H
 rw [eqF c1]
 refine Qh hT 2 (K10 11 1) ⟨36,(Xl.p0 a1),[.box 48 (Xx a0)]⟩ ?_
 refine Qh hT 7 (K10 111010 0) ⟨36,(Xl.p0 a1++[(5,.i 0)]),[.box 48 (Xx a0)]⟩ ?_
 have L:∀ n,(∀ (Xb:Int),iter (Xl.step a0 a1) n (.l1 Xb)=some r->AK X 10 ((K10 111010 0)) (Yt X [] (.b r)) ⟨36,(Xl.p0 a1++[(5,.i Xb)]),[.box 48 (Xx a0)]⟩):=by
  intro n
  induction n with
  | zero=>exact fun _ H=>Qbd H
  | succ n ih=>
   ·intro Xb H
    refine Qh hT 9 (K10 11101000 1) ⟨36,(Xl.p0 a1++[(5,.i Xb),(25,.b (decide (Xb < (a0.Pairs.length:Int))))]),[.box 48 (Xx a0)]⟩ ?_
    by_cases c3:Xb < (a0.Pairs.length:Int)
    ·replace H:=sT c3 H
     rw [decide_eq_true c3]
     refine Qh hT 2 (K10 1110100 1) ⟨36,(Xl.p0 a1++[(5,.i Xb)]),[.box 48 (Xx a0)]⟩ ?_
     refine Qh hT 7 (K10 11101001000 3) ⟨36,(Xl.p0 a1++[(5,.i Xb),(29,.d (Yf true a0.Pairs)),(30,.i Xb)]),[.box 48 (Xx a0)]⟩ ?_
     obtain ⟨h4,H⟩:=sC H
     refine Jf hT [1,2,5,31] (i:=Xb) (n:=(a0.Pairs.length:Int)) h4.1 h4.2 (k':=(K10 11101001000 4)) (st':=⟨36,(Xl.p0 a1++[(5,.i Xb),(31,.d (Qcv true a0.Pairs Xb.toNat 0))]),[.box 48 (Xx a0)]⟩) (by kernel_rfl) ?_
     refine Qh hT 5 (K10 1110100100 1) ⟨36,(Xl.p0 a1++[(5,.i Xb),(35,.b (((a0.Pairs.getD Xb.toNat Qc.z).Key) == a1))]),[.box 48 (Xx a0)]⟩ ?_
     by_cases c5:((a0.Pairs.getD Xb.toNat Qc.z).Key)=a1
     ·replace H:=sT c5 H
      rw [eqT c5]
      refine Qh hT 5 (K10 111010010010 1) ⟨36,[(4,.b true)],[.box 48 (Xx a0)]⟩ ?_
      obtain rfl:=Yg H
      exact Yi hf hX h0 (.b true) [] an (.d (.v _))
     replace H:=sF c5 H
     rw [eqF c5]
     refine Qh hT 3 (K10 11101001 1) ⟨36,(Xl.p0 a1++[(5,.i Xb)]),[.box 48 (Xx a0)]⟩ ?_
     refine Qh hT 6 (K10 111010 0) ⟨36,(Xl.p0 a1++[(5,.i (IntKind.wrap .i64 (Xb+1)))]),[.box 48 (Xx a0)]⟩ ?_
     exact ih (IntKind.wrap .i64 (Xb+1)) H
    replace H:=sF c3 H
    rw [decide_eq_false c3]
    refine Qh hT 6 (K10 1111 1) ⟨36,[(4,.b false)],[.box 48 (Xx a0)]⟩ ?_
    obtain rfl:=Yg H
    exact Yi hf hX h0 (.b false) [] an (.d (.v _))
 obtain ⟨n,H⟩:=Qbz H
 exact (L n) 0 H
theorem Qcy.Wv (a0:Int):Yy Tryz.prog 70 [] [.i a0] [] (.i (Qcy a0)):=by
 obtain ⟨r,H⟩:∃ r,Qcy a0=r:=⟨_,rfl⟩
 rw [H]
 refine Yc Tryz.func70 rfl (nt:=8) rfl (lb rfl) fun X hP h0 hX=>?_
 have hT:Xo X.P T:=hP▸tok
 have hf:X.P.funcs[70]? = some Tryz.f70:=hP▸Tryz.func70
 refine Qh hT 10 (K70 110 1) ⟨8,[(0,.i a0),(4,.b (decide (a0 > 1099511627776)))],[]⟩ ?_
 by_cases c1:a0 > 1099511627776
 ·replace H:=iT c1 H
  rw [decide_eq_true c1]
  refine Qh hT 5 (K70 11010 1) ⟨8,[(2,.i 1099511627776)],[]⟩ ?_
  obtain rfl:=H
  exact Yi hf hX h0 (.i 1099511627776) [] an (.d (.v _))
 replace H:=iF c1 H
 rw [decide_eq_false c1]
 refine Qh hT 2 (K70 11 1) ⟨8,[(0,.i a0)],[]⟩ ?_
 refine Qh hT 6 (K70 1110 1) ⟨8,[(0,.i a0),(6,.b (decide (a0 < (-1099511627776))))],[]⟩ ?_
 by_cases c2:a0 < (-1099511627776)
 ·replace H:=iT c2 H
  rw [decide_eq_true c2]
  refine Qh hT 5 (K70 111010 1) ⟨8,[(2,.i (-1099511627776))],[]⟩ ?_
  obtain rfl:=H
  exact Yi hf hX h0 (.i (-1099511627776)) [] an (.d (.v _))
 replace H:=iF c2 H
 rw [decide_eq_false c2]
 refine Qh hT 2 (K70 111 1) ⟨8,[(0,.i a0)],[]⟩ ?_
 refine Qh hT 5 (K70 1111 1) ⟨8,[(2,.i a0)],[]⟩ ?_
 obtain rfl:=H
 exact Yi hf hX h0 (.i a0) [] an (.d (.v _))
abbrev Qv.q1 (a0:Xf) (a1:Qk):List Row:=[.box 50 (Qd6 a0),.box 48 (Xx a1),.box 50 [.i 0,.b false]]
abbrev Qv.s1 (a2:Int) (a0:Xf) (a1:Qk):St:=⟨116,[(2,.i a2),(3,.ptr 0 0 0 0),(4,.ptr 1 0 0 0),(6,.ptr 2 0 0 0)],(Qv.q1 a0 a1)⟩
abbrev Qv.p0 (a2:Int):List (Nat × AV):=[(2,.i a2),(3,.ptr 0 0 0 0),(4,.ptr 1 0 0 0),(6,.ptr 2 0 0 0)]
theorem Qv.Wv (a0:Xf) (a1:Qk) (a2:Int) {r:Xf × Bool} (H:Qv a0 a1 a2=some r):Yy Tryz.prog 41 [] [.d (Qg4 a0),.d (Qcb a1),.i a2] [] (.Qn [.d (Qg4 r.1),.b r.2]):=by
 refine Yc Tryz.func41 rfl (nt:=116) rfl (lb rfl) fun X hP h0 hX=>?_
 have hT:Xo X.P T:=hP▸tok
 have hf:X.P.funcs[41]? = some Tryz.f41:=hP▸Tryz.func41
 refine Qh hT 14 (K41 110 1) ⟨116,(Qv.p0 a2++[(12,.b (a1.Kind == 2))]),(Qv.q1 a0 a1)⟩ ?_
 by_cases c1:a1.Kind=2
 ·replace H:=iT c1 H
  rw [eqT c1]
  refine Qh hT 7 (K41 11010 1) ⟨116,[(6,.ptr 2 0 0 0),(7,.b true)],(Qv.q1 a0 a1)⟩ ?_
  obtain rfl:=Yg H
  exact Qdz hT hf hX (av:=.Qn [.d (.agg [.i 0,.b false]),.b true]) (by kernel_rfl) [] (Jh (by kernel_rfl)) (by decide) (by rw [h0];rfl) (by kernel_rfl) an (.Qn (.cons (.d (.agg (Xf.nl _))) (.cons (.d (.v _)) .nil)))
 replace H:=iF c1 H
 rw [eqF c1]
 refine Qh hT 2 (K41 11 1) (Qv.s1 a2 a0 a1) ?_
 refine Qh hT 7 (K41 1110 1) ⟨116,(Qv.p0 a2++[(16,.b (a1.Kind == 3))]),(Qv.q1 a0 a1)⟩ ?_
 by_cases c2:a1.Kind=3
 ·replace H:=iT c2 H
  rw [eqT c2]
  refine Qh hT 2 (K41 111010 0) ⟨116,[(3,.ptr 0 0 0 0),(4,.ptr 1 0 0 0),(6,.ptr 2 0 0 0)],(Qv.q1 a0 a1)⟩ ?_
  obtain ⟨h3,H⟩:=iC H
  refine Qax (hP▸mixed) 7 [3,4,6] (sm [.ptr 0 0 0 0,.i a0.Val,.ptr 1 0 0 3,.d (Yf true a1.Pairs),.d (Qcv true a1.Pairs 0 0),.d (Qcv true a1.Pairs 0 1),.i ((a1.Pairs.getD 0 Qc.z).Val)]) (Qg (Qg (Jn (Qg (Qg (Qg (Qg op0 hT) hT) hT) hT) (fun R rest h=>Zd hT (i:=0) (n:=(a1.Pairs.length:Int)) h3.1 h3.2 (by kernel_rfl) h)) hT) hT) ?_
  refine Qh hT 2 (K41 1110100 9) ⟨116,[(3,.ptr 0 0 0 0),(6,.ptr 2 0 0 0),(8,.i (IntKind.wrap .i64 (a0.Val+((a1.Pairs.getD 0 Qc.z).Val))))],(Qv.q1 a0 a1)⟩ ?_
  obtain ⟨v1,h4,H⟩:=idC H
  have Yn:∀ (Qqo:Bool),(Qv.j1 a0 v1 Qqo)=some r->AK X 41 ((K41 11101010 1)) (Yt X [] (.Qn [.d (Qg4 r.1),.b r.2])) ⟨116,[(3,.ptr 0 0 0 0),(6,.ptr 1 0 0 0),(8,.i v1),(30,.b Qqo)],[.box 50 (Qd6 a0),.box 50 [.i 0,.b false]]⟩:=by
   intro Qqo H
   by_cases c6:Qqo=true
   ·replace H:=iT c6 H
    rw [c6]
    refine Qh hT 7 (K41 1110101010 1) ⟨116,[(6,.ptr 1 0 0 0),(7,.b false)],[.box 50 (Qd6 a0),.box 50 (Qd6 a0)]⟩ ?_
    obtain rfl:=Yg H
    exact Qdz hT hf hX (av:=.Qn [.d (Qg4 a0),.b false]) (by kernel_rfl) [] (Jh (by kernel_rfl)) (by decide) (by rw [h0];rfl) (by kernel_rfl) an (.Qn (.cons (.d (.agg (Xf.nl _))) (.cons (.d (.v _)) .nil)))
   replace H:=iF c6 H
   rw [Zz c6]
   refine Qh hT 2 (K41 1110101 1) ⟨116,[(6,.ptr 1 0 0 0),(8,.i v1)],[.box 50 (Qd6 a0),.box 50 [.i 0,.b false]]⟩ ?_
   refine Qh hT 7 (K41 11101011 1) ⟨116,[(6,.ptr 1 0 0 0),(7,.b true)],[.box 50 (Qd6 a0),.box 50 [.i v1,.b true]]⟩ ?_
   obtain rfl:=Yg H
   exact Qdz hT hf hX (av:=.Qn [.d (.agg [.i v1,.b true]),.b true]) (by kernel_rfl) [] (Jh (by kernel_rfl)) (by decide) (by rw [h0];rfl) (by kernel_rfl) an (.Qn (.cons (.d (.agg (Xf.nl _))) (.cons (.d (.v _)) .nil)))
  rw [<- h4]
  refine Qh hT 7 (K41 111010100 3) ⟨116,[(3,.ptr 0 0 0 0),(6,.ptr 2 0 0 0),(8,.i v1),(27,.b (decide (v1 < 0)))],(Qv.q1 a0 a1)⟩ ?_
  by_cases c5:v1 < 0
  ·replace H:=iT c5 H
   rw [decide_eq_true c5]
   refine Xn hT 4 (K41 11101010 1) [0,2] ⟨116,[(3,.ptr 0 0 0 0),(6,.ptr 1 0 0 0),(8,.i v1),(30,.b true)],[.box 50 (Qd6 a0),.box 50 [.i 0,.b false]]⟩ h0 ?_
   exact Yn true H
  replace H:=iF c5 H
  rw [decide_eq_false c5]
  refine Xn hT 4 (K41 11101010 1) [0,2] ⟨116,[(3,.ptr 0 0 0 0),(6,.ptr 1 0 0 0),(8,.i v1),(30,.b (decide (v1 > 1099511627776)))],[.box 50 (Qd6 a0),.box 50 [.i 0,.b false]]⟩ h0 ?_
  exact Yn (decide (v1 > 1099511627776)) H
 replace H:=iF c2 H
 rw [eqF c2]
 refine Qh hT 2 (K41 111 1) (Qv.s1 a2 a0 a1) ?_
 refine Qh hT 7 (K41 11110 1) ⟨116,(Qv.p0 a2++[(36,.b (a1.Kind == 4))]),(Qv.q1 a0 a1)⟩ ?_
 by_cases c7:a1.Kind=4
 ·replace H:=iT c7 H
  have Jj2:∀ (Qfp:Bool),(Qv.j2 a0 a1 Qfp)=some r->AK X 41 ((K41 11110100 1)) (Yt X [] (.Qn [.d (Qg4 r.1),.b r.2])) ⟨116,[(3,.ptr 0 0 0 0),(4,.ptr 1 0 0 0),(6,.ptr 2 0 0 0),(55,.b Qfp)],(Qv.q1 a0 a1)⟩:=by
   intro Qfp H
   by_cases c10:Qfp=true
   ·replace H:=iT c10 H
    rw [c10]
    refine Qh hT 7 (K41 1111010010 1) ⟨116,[(6,.ptr 2 0 0 0),(7,.b false)],[.box 50 (Qd6 a0),.box 48 (Xx a1),.box 50 (Qd6 a0)]⟩ ?_
    obtain rfl:=Yg H
    exact Qdz hT hf hX (av:=.Qn [.d (Qg4 a0),.b false]) (by kernel_rfl) [] (Jh (by kernel_rfl)) (by decide) (by rw [h0];rfl) (by kernel_rfl) an (.Qn (.cons (.d (.agg (Xf.nl _))) (.cons (.d (.v _)) .nil)))
   replace H:=iF c10 H
   rw [Zz c10]
   refine Qh hT 2 (K41 1111010 1) ⟨116,[(4,.ptr 1 0 0 0),(6,.ptr 2 0 0 0)],(Qv.q1 a0 a1)⟩ ?_
   refine Qh hT 4 (K41 111101010 2) ⟨116,[(6,.ptr 2 0 0 0),(58,.d (Yf true a1.Pairs))],(Qv.q1 a0 a1)⟩ ?_
   obtain ⟨h11,H⟩:=iC H
   refine Jf hT [6,59] (i:=0) (n:=(a1.Pairs.length:Int)) h11.1 h11.2 (k':=(K41 111101010 3)) (st':=⟨116,[(6,.ptr 2 0 0 0),(59,.d (Qcv true a1.Pairs 0 0))],(Qv.q1 a0 a1)⟩) (by kernel_rfl) ?_
   refine Qh hT 6 (K41 11110101 1) ⟨116,[(6,.ptr 2 0 0 0),(7,.b true)],[.box 50 (Qd6 a0),.box 48 (Xx a1),.box 50 [.i ((a1.Pairs.getD 0 Qc.z).Val),.b true]]⟩ ?_
   obtain rfl:=Yg H
   exact Qdz hT hf hX (av:=.Qn [.d (.agg [.i ((a1.Pairs.getD 0 Qc.z).Val),.b true]),.b true]) (by kernel_rfl) [] (Jh (by kernel_rfl)) (by decide) (by rw [h0];rfl) (by kernel_rfl) an (.Qn (.cons (.d (.agg (Xf.nl _))) (.cons (.d (.v _)) .nil)))
  rw [eqT c7]
  refine Qh hT 7 (K41 111101000 3) ⟨116,[(3,.ptr 0 0 0 0),(4,.ptr 1 0 0 0),(6,.ptr 2 0 0 0),(39,.b a0.Some)],(Qv.q1 a0 a1)⟩ ?_
  by_cases c8:a0.Some=true
  ·replace H:=iT c8 H
   rw [c8]
   refine Qh hT 7 (K41 111101000 10) ⟨116,[(3,.ptr 0 0 0 0),(4,.ptr 1 0 0 0),(6,.ptr 2 0 0 0),(46,.b (a0.Val != a1.Old))],(Qv.q1 a0 a1)⟩ ?_
   by_cases c9:a0.Val=a1.Old
   ·replace H:=iT c9 H
    rw [neF c9]
    refine Qh hT 4 (K41 111101000 14) ⟨116,[(3,.ptr 0 0 0 0),(4,.ptr 1 0 0 0),(6,.ptr 2 0 0 0),(46,.b false),(50,.b (!a0.Some))],(Qv.q1 a0 a1)⟩ ?_
    rw [c8]
    refine Qh hT 6 (K41 11110100 1) ⟨116,[(3,.ptr 0 0 0 0),(4,.ptr 1 0 0 0),(6,.ptr 2 0 0 0),(55,.b false)],(Qv.q1 a0 a1)⟩ ?_
    exact Jj2 false H
   replace H:=iF c9 H
   rw [neT c9]
   refine Qh hT 10 (K41 11110100 1) ⟨116,[(3,.ptr 0 0 0 0),(4,.ptr 1 0 0 0),(6,.ptr 2 0 0 0),(55,.b true)],(Qv.q1 a0 a1)⟩ ?_
   exact Jj2 true H
  replace H:=iF c8 H
  rw [Zz c8]
  refine Qh hT 11 (K41 111101000 14) ⟨116,[(3,.ptr 0 0 0 0),(4,.ptr 1 0 0 0),(6,.ptr 2 0 0 0),(46,.b false),(50,.b (!a0.Some))],(Qv.q1 a0 a1)⟩ ?_
  rw [Zz c8]
  refine Qh hT 6 (K41 11110100 1) ⟨116,[(3,.ptr 0 0 0 0),(4,.ptr 1 0 0 0),(6,.ptr 2 0 0 0),(55,.b (a1.Old != 1099511627777))],(Qv.q1 a0 a1)⟩ ?_
  exact Jj2 (a1.Old != 1099511627777) H
 replace H:=iF c7 H
 rw [eqF c7]
 refine Qh hT 2 (K41 1111 1) (Qv.s1 a2 a0 a1) ?_
 refine Qh hT 7 (K41 111110 1) ⟨116,(Qv.p0 a2++[(65,.b (a1.Kind == 5))]),(Qv.q1 a0 a1)⟩ ?_
 by_cases c12:a1.Kind=5
 ·replace H:=iT c12 H
  rw [eqT c12]
  refine Qh hT 7 (K41 1111101000 3) ⟨116,[(3,.ptr 0 0 0 0),(4,.ptr 1 0 0 0),(6,.ptr 2 0 0 0),(66,.i a2),(68,.d (Yf true a1.Pairs))],(Qv.q1 a0 a1)⟩ ?_
  obtain ⟨h13,H⟩:=iC H
  refine Jf hT [3,4,6,66,69] (i:=0) (n:=(a1.Pairs.length:Int)) h13.1 h13.2 (k':=(K41 1111101000 4)) (st':=⟨116,[(3,.ptr 0 0 0 0),(4,.ptr 1 0 0 0),(6,.ptr 2 0 0 0),(66,.i a2),(69,.d (Qcv true a1.Pairs 0 0))],(Qv.q1 a0 a1)⟩) (by kernel_rfl) ?_
  refine Qh hT 4 (K41 111110100 1) ⟨116,[(3,.ptr 0 0 0 0),(4,.ptr 1 0 0 0),(6,.ptr 2 0 0 0),(72,.b (a2 == ((a1.Pairs.getD 0 Qc.z).Key)))],(Qv.q1 a0 a1)⟩ ?_
  by_cases c14:a2=((a1.Pairs.getD 0 Qc.z).Key)
  ·replace H:=iT c14 H
   rw [eqT c14]
   refine Qh hT 2 (K41 11111010010 0) ⟨116,[(3,.ptr 0 0 0 0),(4,.ptr 1 0 0 0),(6,.ptr 2 0 0 0)],(Qv.q1 a0 a1)⟩ ?_
   refine Qax (hP▸mixed) 7 [3,4,6] (sm [.ptr 0 0 0 0,.i a0.Val,.ptr 1 0 0 3,.d (Yf true a1.Pairs),.d (Qcv true a1.Pairs 0 0),.d (Qcv true a1.Pairs 0 1),.i ((a1.Pairs.getD 0 Qc.z).Val)]) (Qg (Qg (Jn (Qg (Qg (Qg (Qg op0 hT) hT) hT) hT) (fun R rest h=>Zd hT (i:=0) (n:=(a1.Pairs.length:Int)) h13.1 h13.2 (by kernel_rfl) h)) hT) hT) ?_
   refine Qh hT 1 (K41 111110100100 8) ⟨116,[(6,.ptr 2 0 0 0),(80,.i (IntKind.wrap .i64 (a0.Val - ((a1.Pairs.getD 0 Qc.z).Val))))],(Qv.q1 a0 a1)⟩ ?_
   refine Ws (Yk:=[.i (IntKind.wrap .i64 (a0.Val - ((a1.Pairs.getD 0 Qc.z).Val)))]) (dst:=some 81) (k':=(K41 111110100100 9)) [6,81] [] hP Quj (Qcy.Wv (IntKind.wrap .i64 (a0.Val - ((a1.Pairs.getD 0 Qc.z).Val)))) (by kernel_rfl) (Qz _) (.cons (Qp _) .nil) (st':=⟨116,[(6,.ptr 2 0 0 0),(81,.i (Qcy (IntKind.wrap .i64 (a0.Val - ((a1.Pairs.getD 0 Qc.z).Val)))))],(Qv.q1 a0 a1)⟩) (by kernel_rfl) ?_
   obtain ⟨v2,h15,H⟩:=idC H
   rw [<- h15]
   refine Qh hT 4 (K41 11111010010 1) ⟨116,[(6,.ptr 2 0 0 0),(7,.b true)],[.box 50 (Qd6 a0),.box 48 (Xx a1),.box 50 [.i v2,.b true]]⟩ ?_
   obtain rfl:=Yg H
   exact Qdz hT hf hX (av:=.Qn [.d (.agg [.i v2,.b true]),.b true]) (by kernel_rfl) [] (Jh (by kernel_rfl)) (by decide) (by rw [h0];rfl) (by kernel_rfl) an (.Qn (.cons (.d (.agg (Xf.nl _))) (.cons (.d (.v _)) .nil)))
  replace H:=iF c14 H
  rw [eqF c14]
  refine Qh hT 2 (K41 11111010 1) ⟨116,[(3,.ptr 0 0 0 0),(4,.ptr 1 0 0 0),(6,.ptr 2 0 0 0)],(Qv.q1 a0 a1)⟩ ?_
  refine Qh hT 1 (K41 111110101 0) ⟨116,[(3,.ptr 0 0 0 0),(4,.ptr 1 0 0 0),(6,.ptr 2 0 0 0)],(Qv.q1 a0 a1)⟩ ?_
  refine Qax (hP▸mixed) 7 [3,4,6] (sm [.ptr 0 0 0 0,.i a0.Val,.ptr 1 0 0 3,.d (Yf true a1.Pairs),.d (Qcv true a1.Pairs 0 0),.d (Qcv true a1.Pairs 0 1),.i ((a1.Pairs.getD 0 Qc.z).Val)]) (Qg (Qg (Jn (Qg (Qg (Qg (Qg op0 hT) hT) hT) hT) (fun R rest h=>Zd hT (i:=0) (n:=(a1.Pairs.length:Int)) h13.1 h13.2 (by kernel_rfl) h)) hT) hT) ?_
  refine Qh hT 1 (K41 1111101010 8) ⟨116,[(6,.ptr 2 0 0 0),(90,.i (IntKind.wrap .i64 (a0.Val+((a1.Pairs.getD 0 Qc.z).Val))))],(Qv.q1 a0 a1)⟩ ?_
  refine Ws (Yk:=[.i (IntKind.wrap .i64 (a0.Val+((a1.Pairs.getD 0 Qc.z).Val)))]) (dst:=some 91) (k':=(K41 1111101010 9)) [6,91] [] hP Quj (Qcy.Wv (IntKind.wrap .i64 (a0.Val+((a1.Pairs.getD 0 Qc.z).Val)))) (by kernel_rfl) (Qz _) (.cons (Qp _) .nil) (st':=⟨116,[(6,.ptr 2 0 0 0),(91,.i (Qcy (IntKind.wrap .i64 (a0.Val+((a1.Pairs.getD 0 Qc.z).Val)))))],(Qv.q1 a0 a1)⟩) (by kernel_rfl) ?_
  obtain ⟨v3,h16,H⟩:=idC H
  rw [<- h16]
  refine Qh hT 4 (K41 111110101 1) ⟨116,[(6,.ptr 2 0 0 0),(7,.b true)],[.box 50 (Qd6 a0),.box 48 (Xx a1),.box 50 [.i v3,.b true]]⟩ ?_
  obtain rfl:=Yg H
  exact Qdz hT hf hX (av:=.Qn [.d (.agg [.i v3,.b true]),.b true]) (by kernel_rfl) [] (Jh (by kernel_rfl)) (by decide) (by rw [h0];rfl) (by kernel_rfl) an (.Qn (.cons (.d (.agg (Xf.nl _))) (.cons (.d (.v _)) .nil)))
 replace H:=iF c12 H
 rw [eqF c12]
 refine Qh hT 2 (K41 11111 1) (Qv.s1 a2 a0 a1) ?_
 refine Qh hT 7 (K41 111111010 0) ⟨116,(Qv.p0 a2++[(9,.i 0)]),(Qv.q1 a0 a1)⟩ ?_
 have L:∀ n,(∀ (Qao:Int),iter (Qv.step a0 a1 a2) n (.l1 Qao)=some r->AK X 41 ((K41 111111010 0)) (Yt X [] (.Qn [.d (Qg4 r.1),.b r.2])) ⟨116,(Qv.p0 a2++[(9,.i Qao)]),(Qv.q1 a0 a1)⟩):=by
  intro n
  induction n with
  | zero=>exact fun _ H=>Qbd H
  | succ n ih=>
   ·intro Qao H
    refine Qh hT 9 (K41 11111101000 1) ⟨116,(Qv.p0 a2++[(9,.i Qao),(97,.b (decide (Qao < (a1.Pairs.length:Int))))]),(Qv.q1 a0 a1)⟩ ?_
    by_cases c17:Qao < (a1.Pairs.length:Int)
    ·replace H:=sT c17 H
     rw [decide_eq_true c17]
     refine Qh hT 2 (K41 1111110100 1) ⟨116,(Qv.p0 a2++[(9,.i Qao)]),(Qv.q1 a0 a1)⟩ ?_
     refine Qh hT 7 (K41 11111101001000 3) ⟨116,(Qv.p0 a2++[(9,.i Qao),(101,.d (Yf true a1.Pairs)),(102,.i Qao)]),(Qv.q1 a0 a1)⟩ ?_
     obtain ⟨h18,H⟩:=sC H
     refine Jf hT [2,3,4,6,9,103] (i:=Qao) (n:=(a1.Pairs.length:Int)) h18.1 h18.2 (k':=(K41 11111101001000 4)) (st':=⟨116,(Qv.p0 a2++[(9,.i Qao),(103,.d (Qcv true a1.Pairs Qao.toNat 0))]),(Qv.q1 a0 a1)⟩) (by kernel_rfl) ?_
     refine Qh hT 5 (K41 1111110100100 1) ⟨116,(Qv.p0 a2++[(9,.i Qao),(107,.b (((a1.Pairs.getD Qao.toNat Qc.z).Key) == a2))]),(Qv.q1 a0 a1)⟩ ?_
     by_cases c19:((a1.Pairs.getD Qao.toNat Qc.z).Key)=a2
     ·replace H:=sT c19 H
      rw [eqT c19]
      refine Qh hT 6 (K41 1111110100100100 3) ⟨116,[(6,.ptr 2 0 0 0),(109,.d (Yf true a1.Pairs)),(110,.i Qao)],(Qv.q1 a0 a1)⟩ ?_
      refine Jf hT [6,111] (i:=Qao) (n:=(a1.Pairs.length:Int)) h18.1 h18.2 (k':=(K41 1111110100100100 4)) (st':=⟨116,[(6,.ptr 2 0 0 0),(111,.d (Qcv true a1.Pairs Qao.toNat 0))],(Qv.q1 a0 a1)⟩) (by kernel_rfl) ?_
      refine Qh hT 6 (K41 111111010010010 1) ⟨116,[(6,.ptr 2 0 0 0),(7,.b true)],[.box 50 (Qd6 a0),.box 48 (Xx a1),.box 50 [.i ((a1.Pairs.getD Qao.toNat Qc.z).Val),.b true]]⟩ ?_
      obtain rfl:=Yg H
      exact Qdz hT hf hX (av:=.Qn [.d (.agg [.i ((a1.Pairs.getD Qao.toNat Qc.z).Val),.b true]),.b true]) (by kernel_rfl) [] (Jh (by kernel_rfl)) (by decide) (by rw [h0];rfl) (by kernel_rfl) an (.Qn (.cons (.d (.agg (Xf.nl _))) (.cons (.d (.v _)) .nil)))
     replace H:=sF c19 H
     rw [eqF c19]
     refine Qh hT 3 (K41 11111101001 1) ⟨116,(Qv.p0 a2++[(9,.i Qao)]),(Qv.q1 a0 a1)⟩ ?_
     refine Qh hT 6 (K41 111111010 0) ⟨116,(Qv.p0 a2++[(9,.i (IntKind.wrap .i64 (Qao+1)))]),(Qv.q1 a0 a1)⟩ ?_
     exact ih (IntKind.wrap .i64 (Qao+1)) H
    replace H:=sF c17 H
    rw [decide_eq_false c17]
    refine Qh hT 8 (K41 1111111 1) ⟨116,[(6,.ptr 2 0 0 0),(7,.b true)],[.box 50 (Qd6 a0),.box 48 (Xx a1),.box 50 (Qd6 a0)]⟩ ?_
    obtain rfl:=Yg H
    exact Qdz hT hf hX (av:=.Qn [.d (Qg4 a0),.b true]) (by kernel_rfl) [] (Jh (by kernel_rfl)) (by decide) (by rw [h0];rfl) (by kernel_rfl) an (.Qn (.cons (.d (.agg (Xf.nl _))) (.cons (.d (.v _)) .nil)))
 obtain ⟨n,H⟩:=Qbz H
 exact (L n) 0 H
theorem Yd.Wv {t0:Bool} (a0:List Qi) {r:Bool} (H:Yd a0=some r):Yy Tryz.prog 15 [] [.d (Qcc t0 a0)] [] (.b r):=by
 refine Yc Tryz.func15 rfl (nt:=37) rfl (lb rfl) fun X hP h0 hX=>?_
 have hT:Xo X.P T:=hP▸tok
 have hf:X.P.funcs[15]? = some Tryz.f15:=hP▸Tryz.func15
 refine Qh hT 11 (K15 11010 0) ⟨37,[(0,.d (Qcc t0 a0)),(3,.i 0)],[]⟩ ?_
 have L:∀ n,(∀ (We:Int),iter (Yd.step a0) n (.l1 We)=some r->AK X 15 ((K15 11010 0)) (Yt X [] (.b r)) ⟨37,[(0,.d (Qcc t0 a0)),(3,.i We)],[]⟩):=by
  intro n
  induction n with
  | zero=>exact fun _ H=>Qbd H
  | succ n ih=>
   ·intro We H
    refine Qh hT 8 (K15 1101000 1) ⟨37,[(0,.d (Qcc t0 a0)),(3,.i We),(7,.b (decide (We < (a0.length:Int))))],[]⟩ ?_
    by_cases c1:We < (a0.length:Int)
    ·replace H:=sT c1 H
     rw [decide_eq_true c1]
     refine Qh hT 2 (K15 110100 1) ⟨37,[(0,.d (Qcc t0 a0)),(3,.i We)],[]⟩ ?_
     refine Qh hT 3 (K15 110100100 0) ⟨37,[(0,.d (Qcc t0 a0)),(3,.i We)],[]⟩ ?_
     obtain ⟨h2,H⟩:=sC H
     have Yn:∀ (Qqr:Bool),stk (Yd.j1 We Qqr) (iter (Yd.step a0) n)=some r->AK X 15 ((K15 110100100 1)) (Yt X [] (.b r)) ⟨37,[(0,.d (Qcc t0 a0)),(3,.i We),(33,.b Qqr)],[]⟩:=by
      intro Qqr H
      by_cases c6:Qqr=true
      ·replace H:=sT c6 H
       rw [c6]
       refine Qh hT 5 (K15 11010010010 1) ⟨37,[(2,.b false)],[]⟩ ?_
       obtain rfl:=Yg H
       exact Yi hf hX h0 (.b false) [] an (.d (.v _))
      replace H:=sF c6 H
      rw [Zz c6]
      refine Qh hT 3 (K15 1101001 1) ⟨37,[(0,.d (Qcc t0 a0)),(3,.i We)],[]⟩ ?_
      refine Qh hT 6 (K15 11010 0) ⟨37,[(0,.d (Qcc t0 a0)),(3,.i (IntKind.wrap .i64 (We+1)))],[]⟩ ?_
      exact ih (IntKind.wrap .i64 (We+1)) H
     by_cases c3:(Ja (a0.getD We.toNat Qi.z))=true
     ·replace H:=sT c3 H
      by_cases c4:We > 0
      ·replace H:=sT c4 H
       obtain ⟨h5,H⟩:=sC H
       refine Qax (hP▸mixed) 24 [0,3] (sm [.d (Qcc t0 a0),.i We,.d (Qmt t0 a0 We.toNat 0),.d (Qlo (a0.getD We.toNat Qi.z)),.b true,.b false,.b false,.i We,.b true,.b true,.d (Qcc t0 a0),.i We,.d (Qmt t0 a0 We.toNat 0),.d (Qmt t0 a0 We.toNat 0),.i ((a0.getD We.toNat Qi.z).Lo),.d (Qcc t0 a0),.i We,.i (IntKind.wrap .i64 (We - 1)),.d (Qmt t0 a0 ((IntKind.wrap .i64 (We - 1)).toNat) 0),.d (Qmt t0 a0 ((IntKind.wrap .i64 (We - 1)).toNat) 1),.i ((a0.getD ((IntKind.wrap .i64 (We - 1)).toNat) Qi.z).Hi),.b (decide (((a0.getD We.toNat Qi.z).Lo)<=((a0.getD ((IntKind.wrap .i64 (We - 1)).toNat) Qi.z).Hi))),.b (decide (((a0.getD We.toNat Qi.z).Lo)<=((a0.getD ((IntKind.wrap .i64 (We - 1)).toNat) Qi.z).Hi))),.b (decide (((a0.getD We.toNat Qi.z).Lo)<=((a0.getD ((IntKind.wrap .i64 (We - 1)).toNat) Qi.z).Hi)))]) (Qg (Qg (Qg (Qg (Qg (Jn (Qg (Qg (Qg (Qg (Qg (Jn (Qg (Qg (Qg (opV (Qg (Qg (Qg (Jn (Qg (Jn (Qg (Qg op0 hT) hT) (fun R rest h=>Zd hT (i:=We) (n:=(a0.length:Int)) h2.1 h2.2 (by kernel_rfl) h)) hT) (fun R rest h=>Ju (Yk:=[.d (Qlo (a0.getD We.toNat Qi.z))]) (dst:=some 14) hP Qkk (by have q:=Ja.Wv (a0.getD We.toNat Qi.z);rw [c3] at q;exact q) (by kernel_rfl) (.cons (Qp _) .nil) (by kernel_rfl) h)) hT) hT) hT) hT 18 (.b (decide (We > 0))) (.b true) (by rw [decide_eq_true c4]<;>rfl)) hT) hT) hT) (fun R rest h=>Zd hT (i:=We) (n:=(a0.length:Int)) h2.1 h2.2 (by kernel_rfl) h)) hT) hT) hT) hT) hT) (fun R rest h=>Zd hT (i:=IntKind.wrap .i64 (We - 1)) (n:=(a0.length:Int)) h5.1 h5.2 (by kernel_rfl) h)) hT) hT) hT) hT) hT) ?_
       refine Qh hT 1 (K15 110100100 1) ⟨37,[(0,.d (Qcc t0 a0)),(3,.i We),(33,.b (decide (((a0.getD We.toNat Qi.z).Lo)<=((a0.getD ((IntKind.wrap .i64 (We - 1)).toNat) Qi.z).Hi))))],[]⟩ ?_
       exact Yn (decide (((a0.getD We.toNat Qi.z).Lo)<=((a0.getD ((IntKind.wrap .i64 (We - 1)).toNat) Qi.z).Hi))) H
      replace H:=sF c4 H
      refine Qax (hP▸mixed) 24 [0,3] (sm [.d (Qcc t0 a0),.i We,.d (Qmt t0 a0 We.toNat 0),.d (Qlo (a0.getD We.toNat Qi.z)),.b true,.b false,.b false,.i We,.b false,.b false,.Qn [],.Qn [],.Qn [],.Qn [],.Qn [],.Qn [],.Qn [],.Qn [],.Qn [],.Qn [],.Qn [],.Qn [],.b false,.b false]) (Qg (Qg (Qg (Qg (Qg (Qg (Qg (Qg (Qg (Qg (Qg (Qg (Qg (Qg (Qg (opV (Qg (Qg (Qg (Jn (Qg (Jn (Qg (Qg op0 hT) hT) (fun R rest h=>Zd hT (i:=We) (n:=(a0.length:Int)) h2.1 h2.2 (by kernel_rfl) h)) hT) (fun R rest h=>Ju (Yk:=[.d (Qlo (a0.getD We.toNat Qi.z))]) (dst:=some 14) hP Qkk (by have q:=Ja.Wv (a0.getD We.toNat Qi.z);rw [c3] at q;exact q) (by kernel_rfl) (.cons (Qp _) .nil) (by kernel_rfl) h)) hT) hT) hT) hT 18 (.b (decide (We > 0))) (.b false) (by rw [decide_eq_false c4]<;>rfl)) hT) hT) hT) hT) hT) hT) hT) hT) hT) hT) hT) hT) hT) hT) hT) ?_
      refine Qh hT 1 (K15 110100100 1) ⟨37,[(0,.d (Qcc t0 a0)),(3,.i We),(33,.b false)],[]⟩ ?_
      exact Yn false H
     replace H:=sF c3 H
     refine Qax (hP▸mixed) 24 [0,3] (sm [.d (Qcc t0 a0),.i We,.d (Qmt t0 a0 We.toNat 0),.d (Qlo (a0.getD We.toNat Qi.z)),.b false,.b true,.b true,.Qn [],.Qn [],.Qn [],.Qn [],.Qn [],.Qn [],.Qn [],.Qn [],.Qn [],.Qn [],.Qn [],.Qn [],.Qn [],.Qn [],.Qn [],.Qn [],.b true]) (Qg (Qg (Qg (Qg (Qg (Qg (Qg (Qg (Qg (Qg (Qg (Qg (Qg (Qg (Qg (Qg (Qg (Qg (Qg (Jn (Qg (Jn (Qg (Qg op0 hT) hT) (fun R rest h=>Zd hT (i:=We) (n:=(a0.length:Int)) h2.1 h2.2 (by kernel_rfl) h)) hT) (fun R rest h=>Ju (Yk:=[.d (Qlo (a0.getD We.toNat Qi.z))]) (dst:=some 14) hP Qkk (by have q:=Ja.Wv (a0.getD We.toNat Qi.z);rw [Zz c3] at q;exact q) (by kernel_rfl) (.cons (Qp _) .nil) (by kernel_rfl) h)) hT) hT) hT) hT) hT) hT) hT) hT) hT) hT) hT) hT) hT) hT) hT) hT) hT) hT) hT) ?_
     refine Qh hT 1 (K15 110100100 1) ⟨37,[(0,.d (Qcc t0 a0)),(3,.i We),(33,.b true)],[]⟩ ?_
     exact Yn true H
    replace H:=sF c1 H
    rw [decide_eq_false c1]
    refine Qh hT 9 (K15 111 1) ⟨37,[(2,.b (decide ((a0.length:Int)<=64)))],[]⟩ ?_
    obtain rfl:=Yg H
    exact Yi hf hX h0 (.b (decide ((a0.length:Int)<=64))) [] an (.d (.v _))
 obtain ⟨n,H⟩:=Qbz H
 exact (L n) 0 H
theorem Qbr.Wv (a0:Qe) (a1:Qe) {r:Bool} (H:Qbr a0 a1=some r):Yy Tryz.prog 14 [] [.d (Qjv a0),.d (Qjv a1)] [] (.b r):=by
 refine Yc Tryz.func14 rfl (nt:=24) rfl (lb rfl) fun X hP h0 hX=>?_
 have hT:Xo X.P T:=hP▸tok
 have hf:X.P.funcs[14]? = some Tryz.f14:=hP▸Tryz.func14
 refine Qh hT 12 (K14 110 4) ⟨24,[(2,.ptr 0 0 0 0),(3,.ptr 1 0 0 0),(6,.d (Qcb a0.M)),(8,.d (Qcb a1.M))],[.box 56 (Qno a0),.box 56 (Qno a1)]⟩ ?_
 obtain ⟨v1,h1,H⟩:=ibC H
 have Yn:∀ (Qc9:Bool),(Qbr.j1 Qc9)=some r->AK X 14 ((K14 11 1)) (Yt X [] (.b r)) ⟨24,[(4,.b Qc9)],[]⟩:=by
  intro Qc9 H
  obtain rfl:=Yg H
  exact Yi hf hX h0 (.b Qc9) [] an (.d (.v _))
 refine Ws (Yk:=[.d (Qcb a0.M),.d (Qcb a1.M)]) (dst:=some 9) (k':=(K14 110 5)) [2,3,9] [] hP Qud (Xh.Wv a0.M a1.M h1) (by kernel_rfl) (Qz _) (.cons (Qp _) (.cons (Qp _) .nil)) (st':=⟨24,[(2,.ptr 0 0 0 0),(3,.ptr 1 0 0 0),(9,.b v1)],[.box 56 (Qno a0),.box 56 (Qno a1)]⟩) (by kernel_rfl) ?_
 refine Qh hT 1 (K14 110 6) ⟨24,[(2,.ptr 0 0 0 0),(3,.ptr 1 0 0 0),(10,.b v1)],[.box 56 (Qno a0),.box 56 (Qno a1)]⟩ ?_
 by_cases c2:v1=true
 ·replace H:=iT c2 H
  rw [c2]
  refine Qh hT 7 (K14 110 13) ⟨24,[(2,.ptr 0 0 0 0),(3,.ptr 1 0 0 0),(17,.b (a0.Time == a1.Time))],[.box 56 (Qno a0),.box 56 (Qno a1)]⟩ ?_
  by_cases c3:a0.Time=a1.Time
  ·replace H:=iT c3 H
   rw [eqT c3]
   refine Xn hT 8 (K14 11 1) [] ⟨24,[(4,.b (a0.Jt == a1.Jt))],[]⟩ h0 ?_
   exact Yn (a0.Jt == a1.Jt) H
  replace H:=iF c3 H
  rw [eqF c3]
  refine Xn hT 8 (K14 11 1) [] ⟨24,[(4,.b false)],[]⟩ h0 ?_
  exact Yn false H
 replace H:=iF c2 H
 rw [Zz c2]
 refine Xn hT 15 (K14 11 1) [] ⟨24,[(4,.b false)],[]⟩ h0 ?_
 exact Yn false H
end
end Go.SyP
