/- Certificates, printed by gen.py. -/
import Derived.Test.YtdndobkfnmommaaGreatG24zCp1
set_option linter.unusedVariables false
set_option linter.unusedSimpArgs false
namespace Go.SyP
open Go Go.Sy Go.Proofs
abbrev Qs.p0 (t0:Bool) (a0:List Qg) (t1:Bool) (a1:List Qf) (a2:Int):List (Nat × AV):=[(0,.d (Yw t0 a0)),(1,.d (Qa0 t1 a1)),(2,.i a2)]
theorem Qs.Wv {t0:Bool} {t1:Bool} (a0:List Qg) (a1:List Qf) (a2:Int) {r:Int} (H:Qs a0 a1 a2=some r):Zd Tryz.prog 20 [] [.d (Yw t0 a0),.d (Qa0 t1 a1),.i a2] [] (.i r):=by
 refine Ye Tryz.func20 rfl (nt:=85) rfl (lb rfl) fun X hP h0 hX=>?_
 have hT:Xo X.P T:=hP▸tok
 have hf:X.P.funcs[20]? = some Tryz.f20:=hP▸Tryz.func20
 refine Qh hT 15 (K20 111010 0) ⟨85,(Qs.p0 t0 a0 t1 a1 a2++[(7,.i 0),(8,.i 0)]),[]⟩ ?_
 have L:∀ n,(∀ (Qr:Int) (Qy:Int),iter (Qs.step a0 a1 a2) n (.l1 Qr Qy)=some r->AK X 20 ((K20 111010 0)) (Yq X [] (.i r)) ⟨85,(Qs.p0 t0 a0 t1 a1 a2++[(7,.i Qr),(8,.i Qy)]),[]⟩)/\(∀ (v3:List Qf) (Yp:Int) (Qdm:Int) (Qap:Bool) (Qba:Int),iter (Qs.step a0 a1 a2) n (.l2 v3 Yp Qdm Qap Qba)=some r->AK X 20 ((K20 111010010011010 0)) (Yq X [] (.i r)) ⟨85,(Qs.p0 t0 a0 t1 a1 a2++[(7,.i Yp),(8,.i Qdm),(9,.own 0 2 0 v3.length),(10,.b Qap),(11,.i Qba)]),[Qag v3]⟩)/\(∀ (v3:List Qf) (Qf3:Int) (Qf4:Int) (Qgn:Bool) (Qbn:Int) (Qbz:Int),iter (Qs.step a0 a1 a2) n (.l3 v3 Qf3 Qf4 Qgn Qbn Qbz)=some r->AK X 20 ((K20 111010010011010010010 0)) (Yq X [] (.i r)) ⟨85,(Qs.p0 t0 a0 t1 a1 a2++[(7,.i Qf3),(8,.i Qf4),(9,.own 0 2 0 v3.length),(10,.b Qgn),(11,.i Qbn),(12,.i Qbz)]),[Qag v3]⟩):=by
  intro n
  induction n with
  | zero=>exact ⟨fun _ _ H=>Qay H,fun _ _ _ _ _ H=>Qay H,fun _ _ _ _ _ _ H=>Qay H⟩
  | succ n ih=>
   refine ⟨?_, ?_, ?_⟩
   ·intro Qr Qy H
    have Yv:∀ (Qh9:Bool),stk (Qs.j1 a0 Qr Qy Qh9) (iter (Qs.step a0 a1 a2) n)=some r->AK X 20 ((K20 11101000 1)) (Yq X [] (.i r)) ⟨85,(Qs.p0 t0 a0 t1 a1 a2++[(7,.i Qr),(8,.i Qy),(24,.b Qh9)]),[]⟩:=by
     intro Qh9 H
     by_cases c5:Qh9=true
     ·replace H:=sT c5 H
      rw [c5]
      refine Qh hT 2 (K20 1110100 1) ⟨85,(Qs.p0 t0 a0 t1 a1 a2++[(7,.i Qr),(8,.i Qy)]),[]⟩ ?_
      refine Qh hT 6 (K20 11101001000 2) ⟨85,(Qs.p0 t0 a0 t1 a1 a2++[(7,.i Qr),(8,.i Qy),(27,.d (Yw t0 a0)),(28,.i Qy)]),[]⟩ ?_
      obtain ⟨h6,H⟩:=sC H
      refine Zv hT [0,1,2,7,8,29] (i:=Qy) (n:=(a0.length:Int)) h6.1 h6.2 (k':=(K20 11101001000 3)) (st':=⟨85,(Qs.p0 t0 a0 t1 a1 a2++[(7,.i Qr),(8,.i Qy),(29,.d (Qdc t0 a0 Qy.toNat 0))]),[]⟩) (by kernel_rfl) ?_
      refine Qh hT 2 (K20 11101001000 5) ⟨85,(Qs.p0 t0 a0 t1 a1 a2++[(7,.i Qr),(8,.i Qy),(31,.d (Qc4 ((a0.getD Qy.toNat Qg.z).M)))]),[]⟩ ?_
      obtain ⟨v3,h7,H⟩:=sbC H
      refine Wx (Yh:=[.d (Qc4 ((a0.getD Qy.toNat Qg.z).M))]) (dst:=some 32) (k':=(K20 11101001000 6)) [0,1,2,7,8,32] [] hP Wb6 (Yc.Wv ((a0.getD Qy.toNat Qg.z).M) h7) (by kernel_rfl) (Wh _) (.cons (Qp _) .nil) (st':=⟨85,(Qs.p0 t0 a0 t1 a1 a2++[(7,.i Qr),(8,.i Qy),(32,.own 0 2 0 v3.length)]),[Qag v3]⟩) (by kernel_rfl) ?_
      refine Qh hT 13 (K20 111010010011010 0) ⟨85,(Qs.p0 t0 a0 t1 a1 a2++[(7,.i Qr),(8,.i Qy),(9,.own 0 2 0 v3.length),(10,.b false),(11,.i 0)]),[Qag v3]⟩ ?_
      exact ih.2.1 v3 Qr Qy false 0 H
     replace H:=sF c5 H
     rw [Jk c5]
     refine Qh hT 7 (K20 1111 1) ⟨85,[(6,.i Qr)],[]⟩ ?_
     obtain rfl:=Yi H
     exact Ym hf hX h0 (.i Qr) [] an (.d (.v _))
    refine Qh hT 8 (K20 111010000 5) ⟨85,(Qs.p0 t0 a0 t1 a1 a2++[(7,.i Qr),(8,.i Qy),(17,.b (decide (Qy < (a0.length:Int))))]),[]⟩ ?_
    by_cases c1:Qy < (a0.length:Int)
    ·replace H:=sT c1 H
     rw [decide_eq_true c1]
     refine Qh hT 1 (K20 111010000 6) ⟨85,(Qs.p0 t0 a0 t1 a1 a2++[(7,.i Qr),(8,.i Qy),(17,.b true),(18,.d (Yw t0 a0))]),[]⟩ ?_
     obtain ⟨v1,h2,H⟩:=sbC H
     refine Wx (Yh:=[.d (Yw t0 a0)]) (dst:=some 19) (k':=(K20 111010000 7)) [0,1,2,7,8,17,19] [] hP Qos (Yn.Wv (t0:=t0) a0 h2) (by kernel_rfl) (Wh _) (.cons (Qp _) .nil) (st':=⟨85,(Qs.p0 t0 a0 t1 a1 a2++[(7,.i Qr),(8,.i Qy),(17,.b true),(19,.b v1)]),[]⟩) (by kernel_rfl) ?_
     refine Qh hT 2 (K20 111010000 9) ⟨85,(Qs.p0 t0 a0 t1 a1 a2++[(7,.i Qr),(8,.i Qy),(21,.b v1)]),[]⟩ ?_
     by_cases c3:v1=true
     ·replace H:=sT c3 H
      rw [c3]
      refine Qh hT 1 (K20 111010000 10) ⟨85,(Qs.p0 t0 a0 t1 a1 a2++[(7,.i Qr),(8,.i Qy),(21,.b true),(22,.d (Qa0 t1 a1))]),[]⟩ ?_
      obtain ⟨v2,h4,H⟩:=sbC H
      refine Wx (Yh:=[.d (Qa0 t1 a1)]) (dst:=some 23) (k':=(K20 111010000 11)) [0,1,2,7,8,21,23] [] hP Ql0 (Yu.Wv (t0:=t1) a1 h4) (by kernel_rfl) (Wh _) (.cons (Qp _) .nil) (st':=⟨85,(Qs.p0 t0 a0 t1 a1 a2++[(7,.i Qr),(8,.i Qy),(21,.b true),(23,.b v2)]),[]⟩) (by kernel_rfl) ?_
      refine Qh hT 2 (K20 11101000 1) ⟨85,(Qs.p0 t0 a0 t1 a1 a2++[(7,.i Qr),(8,.i Qy),(24,.b v2)]),[]⟩ ?_
      exact Yv v2 H
     replace H:=sF c3 H
     rw [Jk c3]
     refine Qh hT 4 (K20 11101000 1) ⟨85,(Qs.p0 t0 a0 t1 a1 a2++[(7,.i Qr),(8,.i Qy),(24,.b false)]),[]⟩ ?_
     exact Yv false H
    replace H:=sF c1 H
    rw [decide_eq_false c1]
    refine Qh hT 8 (K20 11101000 1) ⟨85,(Qs.p0 t0 a0 t1 a1 a2++[(7,.i Qr),(8,.i Qy),(24,.b false)]),[]⟩ ?_
    exact Yv false H
   ·intro v3 Yp Qdm Qap Qba H
    refine Qh hT 8 (K20 11101001001101000 1) ⟨85,(Qs.p0 t0 a0 t1 a1 a2++[(7,.i Yp),(8,.i Qdm),(9,.own 0 2 0 v3.length),(10,.b Qap),(11,.i Qba),(36,.b (decide (Qba < (v3.length:Int))))]),[Qag v3]⟩ ?_
    by_cases c8:Qba < (v3.length:Int)
    ·replace H:=sT c8 H
     rw [decide_eq_true c8]
     refine Qh hT 2 (K20 1110100100110100 1) ⟨85,(Qs.p0 t0 a0 t1 a1 a2++[(7,.i Yp),(8,.i Qdm),(9,.own 0 2 0 v3.length),(10,.b Qap),(11,.i Qba)]),[Qag v3]⟩ ?_
     refine Qh hT 8 (K20 111010010011010010010 0) ⟨85,(Qs.p0 t0 a0 t1 a1 a2++[(7,.i Yp),(8,.i Qdm),(9,.own 0 2 0 v3.length),(10,.b Qap),(11,.i Qba),(12,.i 0)]),[Qag v3]⟩ ?_
     exact ih.2.2 v3 Yp Qdm Qap Qba 0 H
    replace H:=sF c8 H
    have Jj2:∀ (Qqw:Bool),stk (Qs.j2 Yp Qdm Qqw) (iter (Qs.step a0 a1 a2) n)=some r->AK X 20 ((K20 1110100100111 1)) (Yq X [] (.i r)) ⟨85,(Qs.p0 t0 a0 t1 a1 a2++[(7,.i Yp),(8,.i Qdm),(81,.b Qqw)]),[]⟩:=by
     intro Qqw H
     have Jj3:∀ (Qgl:Int),stk (Qs.j3 Qdm Qgl) (iter (Qs.step a0 a1 a2) n)=some r->AK X 20 ((K20 11101001 1)) (Yq X [] (.i r)) ⟨85,(Qs.p0 t0 a0 t1 a1 a2++[(7,.i Qgl),(8,.i Qdm)]),[]⟩:=by
      intro Qgl H
      refine Qh hT 6 (K20 111010 0) ⟨85,(Qs.p0 t0 a0 t1 a1 a2++[(7,.i Qgl),(8,.i (IntKind.wrap .i64 (Qdm+1)))]),[]⟩ ?_
      exact ih.1 Qgl (IntKind.wrap .i64 (Qdm+1)) H
     by_cases c11:Qqw=true
     ·replace H:=sT c11 H
      rw [c11]
      refine Qh hT 7 (K20 11101001 1) ⟨85,(Qs.p0 t0 a0 t1 a1 a2++[(7,.i (IntKind.wrap .i64 (Yp+1))),(8,.i Qdm)]),[]⟩ ?_
      exact Jj3 (IntKind.wrap .i64 (Yp+1)) H
     replace H:=sF c11 H
     rw [Jk c11]
     refine Qh hT 3 (K20 11101001 1) ⟨85,(Qs.p0 t0 a0 t1 a1 a2++[(7,.i Yp),(8,.i Qdm)]),[]⟩ ?_
     exact Jj3 Yp H
    rw [decide_eq_false c8]
    refine Qh hT 6 (K20 11101001001110 2) ⟨85,(Qs.p0 t0 a0 t1 a1 a2++[(7,.i Yp),(8,.i Qdm),(73,.b Qap)]),[Qag v3]⟩ ?_
    by_cases c9:Qap=true
    ·replace H:=sT c9 H
     rw [c9]
     refine Qh hT 2 (K20 11101001001110 4) ⟨85,(Qs.p0 t0 a0 t1 a1 a2++[(7,.i Yp),(8,.i Qdm),(73,.b true),(74,.d (Yw t0 a0)),(75,.i Qdm)]),[Qag v3]⟩ ?_
     obtain ⟨h10,H⟩:=sC H
     refine Zv hT [0,1,2,7,8,73,76] (i:=Qdm) (n:=(a0.length:Int)) h10.1 h10.2 (k':=(K20 11101001001110 5)) (st':=⟨85,(Qs.p0 t0 a0 t1 a1 a2++[(7,.i Yp),(8,.i Qdm),(73,.b true),(76,.d (Qdc t0 a0 Qdm.toNat 0))]),[Qag v3]⟩) (by kernel_rfl) ?_
     refine Xq hT 6 (K20 1110100100111 1) [] ⟨85,(Qs.p0 t0 a0 t1 a1 a2++[(7,.i Yp),(8,.i Qdm),(81,.b (decide (((a0.getD Qdm.toNat Qg.z).Time) > a2)))]),[]⟩ h0 ?_
     exact Jj2 (decide (((a0.getD Qdm.toNat Qg.z).Time) > a2)) H
    replace H:=sF c9 H
    rw [Jk c9]
    refine Xq hT 9 (K20 1110100100111 1) [] ⟨85,(Qs.p0 t0 a0 t1 a1 a2++[(7,.i Yp),(8,.i Qdm),(81,.b false)]),[]⟩ h0 ?_
    exact Jj2 false H
   intro v3 Qf3 Qf4 Qgn Qbn Qbz H
   refine Qh hT 8 (K20 11101001001101001001000 1) ⟨85,(Qs.p0 t0 a0 t1 a1 a2++[(7,.i Qf3),(8,.i Qf4),(9,.own 0 2 0 v3.length),(10,.b Qgn),(11,.i Qbn),(12,.i Qbz),(42,.b (decide (Qbz < (a1.length:Int))))]),[Qag v3]⟩ ?_
   by_cases c12:Qbz < (a1.length:Int)
   ·replace H:=sT c12 H
    have Jj4:∀ (Qn8:Bool),stk (Qs.j4 Qf3 Qf4 Qbn Qbz v3 Qn8) (iter (Qs.step a0 a1 a2) n)=some r->AK X 20 ((K20 11101001001101001001001 1)) (Yq X [] (.i r)) ⟨85,(Qs.p0 t0 a0 t1 a1 a2++[(7,.i Qf3),(8,.i Qf4),(9,.own 0 2 0 v3.length),(10,.b Qn8),(11,.i Qbn),(12,.i Qbz)]),[Qag v3]⟩:=by
     intro Qn8 H
     refine Qh hT 6 (K20 111010010011010010010 0) ⟨85,(Qs.p0 t0 a0 t1 a1 a2++[(7,.i Qf3),(8,.i Qf4),(9,.own 0 2 0 v3.length),(10,.b Qn8),(11,.i Qbn),(12,.i (IntKind.wrap .i64 (Qbz+1)))]),[Qag v3]⟩ ?_
     exact ih.2.2 v3 Qf3 Qf4 Qn8 Qbn (IntKind.wrap .i64 (Qbz+1)) H
    rw [decide_eq_true c12]
    refine Qh hT 2 (K20 1110100100110100100100 1) ⟨85,(Qs.p0 t0 a0 t1 a1 a2++[(7,.i Qf3),(8,.i Qf4),(9,.own 0 2 0 v3.length),(10,.b Qgn),(11,.i Qbn),(12,.i Qbz)]),[Qag v3]⟩ ?_
    refine Qh hT 2 (K20 111010010011010010010010 0) ⟨85,(Qs.p0 t0 a0 t1 a1 a2++[(7,.i Qf3),(8,.i Qf4),(9,.own 0 2 0 v3.length),(10,.b Qgn),(11,.i Qbn),(12,.i Qbz)]),[Qag v3]⟩ ?_
    by_cases c13:Qgn=true
    ·replace H:=sT c13 H
     refine Qbp (hP▸mixed) 24 [0,1,2,7,8,9,10,11,12] (sm [.b true,.b true,.Qo [],.Qo [],.Qo [],.Qo [],.Qo [],.Qo [],.Qo [],.Qo [],.Qo [],.Qo [],.Qo [],.Qo [],.Qo [],.Qo [],.Qo [],.Qo [],.Qo [],.Qo [],.Qo [],.Qo [],.Qo [],.Qo []]) (Qj (Qj (Qj (Qj (Qj (Qj (Qj (Qj (Qj (Qj (Qj (Qj (Qj (Qj (Qj (Qj (Qj (Qj (Qj (Qj (Qj (Qj (Qj (opV op0 hT 45 (.b Qgn) (.b true) (by rw [c13]<;>rfl)) hT) hT) hT) hT) hT) hT) hT) hT) hT) hT) hT) hT) hT) hT) hT) hT) hT) hT) hT) hT) hT) hT) hT) ?_
     refine Qh hT 6 (K20 11101001001101001001001 1) ⟨85,(Qs.p0 t0 a0 t1 a1 a2++[(7,.i Qf3),(8,.i Qf4),(9,.own 0 2 0 v3.length),(10,.b true),(11,.i Qbn),(12,.i Qbz)]),[Qag v3]⟩ ?_
     exact Jj4 true H
    replace H:=sF c13 H
    obtain ⟨h14,H⟩:=sC H
    obtain ⟨h15,H⟩:=sC H
    by_cases c16:((v3.getD Qbn.toNat Qf.z).Lo) < ((a1.getD Qbz.toNat Qf.z).Hi)
    ·replace H:=sT c16 H
     refine Qbp (hP▸mixed) 24 [0,1,2,7,8,9,10,11,12] (sm [.b false,.b false,.own 0 2 0 v3.length,.i Qbn,.ptr 0 2 Qbn.toNat 0,.ptr 0 2 Qbn.toNat 0,.i ((v3.getD Qbn.toNat Qf.z).Lo),.d (Qa0 t1 a1),.i Qbz,.d (Qha t1 a1 Qbz.toNat 0),.d (Qha t1 a1 Qbz.toNat 1),.i ((a1.getD Qbz.toNat Qf.z).Hi),.b true,.b true,.d (Qa0 t1 a1),.i Qbz,.d (Qha t1 a1 Qbz.toNat 0),.d (Qha t1 a1 Qbz.toNat 0),.i ((a1.getD Qbz.toNat Qf.z).Lo),.own 0 2 0 v3.length,.i Qbn,.ptr 0 2 Qbn.toNat 0,.ptr 0 2 Qbn.toNat 1,.i ((v3.getD Qbn.toNat Qf.z).Hi)]) (opS (Qj (opS (Qj (Qj (Qj (Qj (opS (Qj (Qj (Qj (opV (Qj (Qj (opS (Qj (Qj (opS (Qj (opS (Qj (Qj (Qj (opV op0 hT 45 (.b Qgn) (.b false) (by rw [Jk c13]<;>rfl)) hT) hT) hT) (fun R rest h=>Xw hT (i:=Qbn) (n:=(v3.length:Int)) h14.1 h14.2 (by kernel_rfl) h)) hT) (fun R rest h=>Qa1 hT (i:=Qbn.toNat) (n:=v3.length) (ltN h14.1 h14.2) (by kernel_rfl) h)) hT) hT) (fun R rest h=>Xw hT (i:=Qbz) (n:=(a1.length:Int)) h15.1 h15.2 (by kernel_rfl) h)) hT) hT) hT 57 (.b (decide (((v3.getD Qbn.toNat Qf.z).Lo) < ((a1.getD Qbz.toNat Qf.z).Hi)))) (.b true) (by rw [decide_eq_true c16]<;>rfl)) hT) hT) hT) (fun R rest h=>Xw hT (i:=Qbz) (n:=(a1.length:Int)) h15.1 h15.2 (by kernel_rfl) h)) hT) hT) hT) hT) (fun R rest h=>Xw hT (i:=Qbn) (n:=(v3.length:Int)) h14.1 h14.2 (by kernel_rfl) h)) hT) (fun R rest h=>Qa1 hT (i:=Qbn.toNat) (n:=v3.length) (ltN h14.1 h14.2) (by kernel_rfl) h)) ?_
     refine Qh hT 6 (K20 11101001001101001001001 1) ⟨85,(Qs.p0 t0 a0 t1 a1 a2++[(7,.i Qf3),(8,.i Qf4),(9,.own 0 2 0 v3.length),(10,.b (decide (((a1.getD Qbz.toNat Qf.z).Lo) < ((v3.getD Qbn.toNat Qf.z).Hi)))),(11,.i Qbn),(12,.i Qbz)]),[Qag v3]⟩ ?_
     exact Jj4 (decide (((a1.getD Qbz.toNat Qf.z).Lo) < ((v3.getD Qbn.toNat Qf.z).Hi))) H
    replace H:=sF c16 H
    refine Qbp (hP▸mixed) 24 [0,1,2,7,8,9,10,11,12] (sm [.b false,.b false,.own 0 2 0 v3.length,.i Qbn,.ptr 0 2 Qbn.toNat 0,.ptr 0 2 Qbn.toNat 0,.i ((v3.getD Qbn.toNat Qf.z).Lo),.d (Qa0 t1 a1),.i Qbz,.d (Qha t1 a1 Qbz.toNat 0),.d (Qha t1 a1 Qbz.toNat 1),.i ((a1.getD Qbz.toNat Qf.z).Hi),.b false,.b false,.Qo [],.Qo [],.Qo [],.Qo [],.Qo [],.Qo [],.Qo [],.Qo [],.Qo [],.Qo []]) (Qj (Qj (Qj (Qj (Qj (Qj (Qj (Qj (Qj (Qj (Qj (opV (Qj (Qj (opS (Qj (Qj (opS (Qj (opS (Qj (Qj (Qj (opV op0 hT 45 (.b Qgn) (.b false) (by rw [Jk c13]<;>rfl)) hT) hT) hT) (fun R rest h=>Xw hT (i:=Qbn) (n:=(v3.length:Int)) h14.1 h14.2 (by kernel_rfl) h)) hT) (fun R rest h=>Qa1 hT (i:=Qbn.toNat) (n:=v3.length) (ltN h14.1 h14.2) (by kernel_rfl) h)) hT) hT) (fun R rest h=>Xw hT (i:=Qbz) (n:=(a1.length:Int)) h15.1 h15.2 (by kernel_rfl) h)) hT) hT) hT 57 (.b (decide (((v3.getD Qbn.toNat Qf.z).Lo) < ((a1.getD Qbz.toNat Qf.z).Hi)))) (.b false) (by rw [decide_eq_false c16]<;>rfl)) hT) hT) hT) hT) hT) hT) hT) hT) hT) hT) hT) ?_
    refine Qh hT 6 (K20 11101001001101001001001 1) ⟨85,(Qs.p0 t0 a0 t1 a1 a2++[(7,.i Qf3),(8,.i Qf4),(9,.own 0 2 0 v3.length),(10,.b false),(11,.i Qbn),(12,.i Qbz)]),[Qag v3]⟩ ?_
    exact Jj4 false H
   replace H:=sF c12 H
   rw [decide_eq_false c12]
   refine Qh hT 9 (K20 111010010011010 0) ⟨85,(Qs.p0 t0 a0 t1 a1 a2++[(7,.i Qf3),(8,.i Qf4),(9,.own 0 2 0 v3.length),(10,.b Qgn),(11,.i (IntKind.wrap .i64 (Qbn+1)))]),[Qag v3]⟩ ?_
   exact ih.2.1 v3 Qf3 Qf4 Qgn (IntKind.wrap .i64 (Qbn+1)) H
 obtain ⟨n,H⟩:=Qbu H
 exact (L n).1 0 0 H
theorem Qak.Wv (a0:Qg) (a1:Qg) {r:Bool} (H:Qak a0 a1=some r):Zd Tryz.prog 14 [] [.d (Qcv a0),.d (Qcv a1)] [] (.b r):=by
 refine Ye Tryz.func14 rfl (nt:=24) rfl (lb rfl) fun X hP h0 hX=>?_
 have hT:Xo X.P T:=hP▸tok
 have hf:X.P.funcs[14]? = some Tryz.f14:=hP▸Tryz.func14
 refine Qh hT 12 (K14 110 4) ⟨24,[(2,.ptr 0 0 0 0),(3,.ptr 1 0 0 0),(6,.d (Qc4 a0.M)),(8,.d (Qc4 a1.M))],[.box 56 (Qni a0),.box 56 (Qni a1)]⟩ ?_
 obtain ⟨v1,h1,H⟩:=ibC H
 have Yv:∀ (Qdj:Bool),(Qak.j1 Qdj)=some r->AK X 14 ((K14 11 1)) (Yq X [] (.b r)) ⟨24,[(4,.b Qdj)],[]⟩:=by
  intro Qdj H
  obtain rfl:=Yi H
  exact Ym hf hX h0 (.b Qdj) [] an (.d (.v _))
 refine Wx (Yh:=[.d (Qc4 a0.M),.d (Qc4 a1.M)]) (dst:=some 9) (k':=(K14 110 5)) [2,3,9] [] hP Wb5 (Xm.Wv a0.M a1.M h1) (by kernel_rfl) (Wh _) (.cons (Qp _) (.cons (Qp _) .nil)) (st':=⟨24,[(2,.ptr 0 0 0 0),(3,.ptr 1 0 0 0),(9,.b v1)],[.box 56 (Qni a0),.box 56 (Qni a1)]⟩) (by kernel_rfl) ?_
 refine Qh hT 1 (K14 110 6) ⟨24,[(2,.ptr 0 0 0 0),(3,.ptr 1 0 0 0),(10,.b v1)],[.box 56 (Qni a0),.box 56 (Qni a1)]⟩ ?_
 by_cases c2:v1=true
 ·replace H:=iT c2 H
  rw [c2]
  refine Qh hT 7 (K14 110 13) ⟨24,[(2,.ptr 0 0 0 0),(3,.ptr 1 0 0 0),(17,.b (a0.Time == a1.Time))],[.box 56 (Qni a0),.box 56 (Qni a1)]⟩ ?_
  by_cases c3:a0.Time=a1.Time
  ·replace H:=iT c3 H
   rw [eqT c3]
   refine Xq hT 8 (K14 11 1) [] ⟨24,[(4,.b (a0.Qai == a1.Qai))],[]⟩ h0 ?_
   exact Yv (a0.Qai == a1.Qai) H
  replace H:=iF c3 H
  rw [eqF c3]
  refine Xq hT 8 (K14 11 1) [] ⟨24,[(4,.b false)],[]⟩ h0 ?_
  exact Yv false H
 replace H:=iF c2 H
 rw [Jk c2]
 refine Xq hT 15 (K14 11 1) [] ⟨24,[(4,.b false)],[]⟩ h0 ?_
 exact Yv false H
noncomputable abbrev Zq.q1 (a0:List Qb) (Xn:Int):=(⟨(a0.getD Xn.toNat Qb.z).Lo,(a0.getD Xn.toNat Qb.z).Hi⟩:Qf)
theorem Zq.Wv {t0:Bool} (a0:List Qb) {r:List Qf} (H:Zq a0=some r):Zd Tryz.prog 18 [] [.d (Wu t0 a0)] [Qag r] (.own 0 2 0 r.length):=by
 refine Ye Tryz.func18 rfl (nt:=19) rfl (lb rfl) fun X hP h0 hX=>?_
 have hT:Xo X.P T:=hP▸tok
 have hf:X.P.funcs[18]? = some Tryz.f18:=hP▸Tryz.func18
 refine Qh hT 15 (K18 111010 0) ⟨19,[(0,.d (Wu t0 a0)),(3,.ns),(4,.i 0)],[]⟩ ?_
 refine Qb8 [0,3,4] 3 2 46 (vec Qf.e Qf.z []) (st':=⟨19,[(0,.d (Wu t0 a0)),(3,.own 0 2 0 0),(4,.i 0)],[Qag ([]:List Qf)]⟩) (by kernel_rfl) (by kernel_rfl) ?_
 have L:∀ n,(∀ (Xn:Int) (Qi:List Qf),iter (Zq.step a0) n (.l1 Xn Qi)=some r->AK X 18 ((K18 111010 0)) (Yq X [Qag r] (.own 0 2 0 r.length)) ⟨19,[(0,.d (Wu t0 a0)),(3,.own 0 2 0 Qi.length),(4,.i Xn)],[Qag Qi]⟩):=by
  intro n
  induction n with
  | zero=>exact fun _ _ H=>Qay H
  | succ n ih=>
   ·intro Xn Qi H
    refine Qh hT 8 (K18 11101000 1) ⟨19,[(0,.d (Wu t0 a0)),(3,.own 0 2 0 Qi.length),(4,.i Xn),(8,.b (decide (Xn < (a0.length:Int))))],[Qag Qi]⟩ ?_
    by_cases c1:Xn < (a0.length:Int)
    ·replace H:=sT c1 H
     rw [decide_eq_true c1]
     refine Qh hT 2 (K18 1110100 1) ⟨19,[(0,.d (Wu t0 a0)),(3,.own 0 2 0 Qi.length),(4,.i Xn)],[Qag Qi]⟩ ?_
     refine Qh hT 6 (K18 1110100100 3) ⟨19,[(0,.d (Wu t0 a0)),(4,.i Xn),(11,.own 0 2 0 Qi.length),(12,.d (Wu t0 a0)),(13,.i Xn)],[Qag Qi]⟩ ?_
     obtain ⟨h2,H⟩:=sC H
     refine Zv hT [0,4,11,14] (i:=Xn) (n:=(a0.length:Int)) h2.1 h2.2 (k':=(K18 1110100100 4)) (st':=⟨19,[(0,.d (Wu t0 a0)),(4,.i Xn),(11,.own 0 2 0 Qi.length),(14,.d (Qre t0 a0 Xn.toNat 0))],[Qag Qi]⟩) (by kernel_rfl) ?_
     refine Qh hT 2 (K18 1110100100 6) ⟨19,[(0,.d (Wu t0 a0)),(4,.i Xn),(11,.own 0 2 0 Qi.length),(16,.own 1 2 0 1)],[Qag Qi,.flat false 2 46 1 (fun j=>[Qb.e (a0.getD Xn.toNat Qb.z)].getD j [])]⟩ ?_
     obtain ⟨h3,H⟩:=sC H
     refine Qca (id:=0) (kk:=2) (by':=16) (t:=67) (e:=46) (z:=[.int .i64 0,.int .i64 0]) (dst:=some 17) (id2:=1) (e2:=46) (fz:=false) (k':=(K18 1110100100 7)) hT Qf.e Qf.z Qi (Zq.q1 a0 Xn) [0,4,17] (by kernel_rfl) (by kernel_rfl) (by kernel_rfl) (by kernel_rfl) (by kernel_rfl) (by kernel_rfl) (by kernel_rfl) h3 (by omega) (st':=⟨19,[(0,.d (Wu t0 a0)),(4,.i Xn),(17,.own 2 2 0 ((Qi ++ [(Zq.q1 a0 Xn)]).length))],[.gone,.flat false 2 46 1 (fun j=>[Qb.e (a0.getD Xn.toNat Qb.z)].getD j []),Qag (Qi ++ [(Zq.q1 a0 Xn)])]⟩) (by kernel_rfl) ?_
     refine Xq hT 9 (K18 111010 0) [2] ⟨19,[(0,.d (Wu t0 a0)),(3,.own 0 2 0 (Qi ++ [(Zq.q1 a0 Xn)]).length),(4,.i (IntKind.wrap .i64 (Xn+1)))],[Qag (Qi ++ [(Zq.q1 a0 Xn)])]⟩ h0 ?_
     exact ih (IntKind.wrap .i64 (Xn+1)) (Qi ++ [(Zq.q1 a0 Xn)]) H
    replace H:=sF c1 H
    rw [decide_eq_false c1]
    refine Qh hT 7 (K18 1111 1) ⟨19,[(2,.own 0 2 0 Qi.length)],[Qag Qi]⟩ ?_
    obtain rfl:=Yi H
    exact Ym hf hX h0 (.own 0 2 0 Qi.length) [0] (ac (Qat Qf.nl) an) (.own _ _ _ _)
 refine Qgo [0] ⟨19,[(0,.d (Wu t0 a0)),(3,.own 0 2 0 ([]:List Qf).length),(4,.i 0)],[Qag ([]:List Qf)]⟩ h0 ?_
 obtain ⟨n,H⟩:=Qbu H
 exact (L n) 0 ([]:List Qf) H
end Go.SyP
