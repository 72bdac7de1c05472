/- Certificates, printed by gen.py. -/
import Derived.Test.YtdndobkfnmommaaGreatG24zD
import Derived.Test.YtdndobkfnmommaaGreatG24zI
import Derived.Test.YtdndobkfnmommaaGreatG24zW
set_option linter.unusedVariables false
set_option linter.unusedSimpArgs false
namespace Go.SyP
open Go Go.Sy Go.Proofs
noncomputable section
abbrev Zq.q1 (a0:List Qa) (Zm:Int):=(⟨(a0.getD Zm.toNat Qa.z).Key,(a0.getD Zm.toNat Qa.z).Val⟩:Qc)
theorem Zq.Wv {t0:Bool} (a0:List Qa) {r:List Qc} (H:Zq a0=some r):Yy Tryz.prog 67 [] [.d (Xw t0 a0)] [Qbu r] (.own 0 2 0 r.length):=by
 refine Yc Tryz.func67 rfl (nt:=19) rfl (lb rfl) fun X hP h0 hX=>?_
 have hT:Xo X.P T:=hP▸tok
 have hf:X.P.funcs[67]? = some Tryz.f67:=hP▸Tryz.func67
 refine Qh hT 15 (K67 111010 0) ⟨19,[(0,.d (Xw t0 a0)),(3,.ns),(4,.i 0)],[]⟩ ?_
 refine Qc6 [0,3,4] 3 2 98 (vec Qc.e Qc.z []) (st':=⟨19,[(0,.d (Xw t0 a0)),(3,.own 0 2 0 0),(4,.i 0)],[Qbu ([]:List Qc)]⟩) (by kernel_rfl) (by kernel_rfl) ?_
 have L:∀ n,(∀ (Zm:Int) (Qj:List Qc),iter (Zq.step a0) n (.l1 Zm Qj)=some r->AK X 67 ((K67 111010 0)) (Yt X [Qbu r] (.own 0 2 0 r.length)) ⟨19,[(0,.d (Xw t0 a0)),(3,.own 0 2 0 Qj.length),(4,.i Zm)],[Qbu Qj]⟩):=by
  intro n
  induction n with
  | zero=>exact fun _ _ H=>Qbd H
  | succ n ih=>
   ·intro Zm Qj H
    refine Qh hT 8 (K67 11101000 1) ⟨19,[(0,.d (Xw t0 a0)),(3,.own 0 2 0 Qj.length),(4,.i Zm),(8,.b (decide (Zm < (a0.length:Int))))],[Qbu Qj]⟩ ?_
    by_cases c1:Zm < (a0.length:Int)
    ·replace H:=sT c1 H
     rw [decide_eq_true c1]
     refine Qh hT 2 (K67 1110100 1) ⟨19,[(0,.d (Xw t0 a0)),(3,.own 0 2 0 Qj.length),(4,.i Zm)],[Qbu Qj]⟩ ?_
     refine Qh hT 6 (K67 1110100100 3) ⟨19,[(0,.d (Xw t0 a0)),(4,.i Zm),(11,.own 0 2 0 Qj.length),(12,.d (Xw t0 a0)),(13,.i Zm)],[Qbu Qj]⟩ ?_
     obtain ⟨h2,H⟩:=sC H
     refine Jf hT [0,4,11,14] (i:=Zm) (n:=(a0.length:Int)) h2.1 h2.2 (k':=(K67 1110100100 4)) (st':=⟨19,[(0,.d (Xw t0 a0)),(4,.i Zm),(11,.own 0 2 0 Qj.length),(14,.d (Qef t0 a0 Zm.toNat 0))],[Qbu Qj]⟩) (by kernel_rfl) ?_
     refine Qh hT 2 (K67 1110100100 6) ⟨19,[(0,.d (Xw t0 a0)),(4,.i Zm),(11,.own 0 2 0 Qj.length),(16,.own 1 2 0 1)],[Qbu Qj,.flat false 2 98 1 (fun j=>[Qa.e (a0.getD Zm.toNat Qa.z)].getD j [])]⟩ ?_
     obtain ⟨h3,H⟩:=sC H
     refine Qcw (id:=0) (kk:=2) (by':=16) (t:=45) (e:=98) (z:=[.int .i64 0,.int .i64 0]) (dst:=some 17) (id2:=1) (e2:=98) (fz:=false) (k':=(K67 1110100100 7)) hT Qc.e Qc.z Qj (Zq.q1 a0 Zm) [0,4,17] (by kernel_rfl) (by kernel_rfl) (by kernel_rfl) (by kernel_rfl) (by kernel_rfl) (by kernel_rfl) (by kernel_rfl) h3 (by omega) (st':=⟨19,[(0,.d (Xw t0 a0)),(4,.i Zm),(17,.own 2 2 0 ((Qj ++ [(Zq.q1 a0 Zm)]).length))],[.gone,.flat false 2 98 1 (fun j=>[Qa.e (a0.getD Zm.toNat Qa.z)].getD j []),Qbu (Qj ++ [(Zq.q1 a0 Zm)])]⟩) (by kernel_rfl) ?_
     refine Xn hT 9 (K67 111010 0) [2] ⟨19,[(0,.d (Xw t0 a0)),(3,.own 0 2 0 (Qj ++ [(Zq.q1 a0 Zm)]).length),(4,.i (IntKind.wrap .i64 (Zm+1)))],[Qbu (Qj ++ [(Zq.q1 a0 Zm)])]⟩ h0 ?_
     exact ih (IntKind.wrap .i64 (Zm+1)) (Qj ++ [(Zq.q1 a0 Zm)]) H
    replace H:=sF c1 H
    rw [decide_eq_false c1]
    refine Qh hT 7 (K67 1111 1) ⟨19,[(2,.own 0 2 0 Qj.length)],[Qbu Qj]⟩ ?_
    obtain rfl:=Yg H
    exact Yi hf hX h0 (.own 0 2 0 Qj.length) [0] (ac (Qa1 Qc.nl) an) (.own _ _ _ _)
 refine Qhm [0] ⟨19,[(0,.d (Xw t0 a0)),(3,.own 0 2 0 ([]:List Qc).length),(4,.i 0)],[Qbu ([]:List Qc)]⟩ h0 ?_
 obtain ⟨n,H⟩:=Qbz H
 exact (L n) 0 ([]:List Qc) H
abbrev Xa.q1 (a0:Ql) (Yl:List Qc):List AV:=[.i a0.Client,.i a0.Seq,.i a0.Kind,.own 3 2 0 Yl.length,.i a0.Over.Lo,.i a0.Over.Hi,.i a0.Old]
abbrev Xa.q2 (a0:Ql) (Zm:Int):=(⟨(a0.Pairs.getD Zm.toNat Qa.z).Key,(a0.Pairs.getD Zm.toNat Qa.z).Val⟩:Qc)
abbrev Xa.q3:List AV:=[.i 0,.i 0,.i 0,.ns,.i 0,.i 0,.i 0]
abbrev Xa.s1 (Zm:Int) (a0:Ql) (Yl:List Qc):St:=⟨34,[(1,.ptr 0 0 0 0),(2,.ptr 1 0 0 0),(3,.ptr 2 0 0 0),(4,.i Zm)],[.box 39 (Ya a0),.box 48 (Xa.q3),.box 48 (Xa.q1 a0 Yl),Qbu Yl]⟩
abbrev Xa.p0:List (Nat × AV):=[(1,.ptr 0 0 0 0),(2,.ptr 1 0 0 0),(3,.ptr 2 0 0 0)]
theorem Xa.Wv (a0:Ql) {r:Qk} (H:Xa a0=some r):Yy Tryz.prog 11 [] [.d (Qas a0)] [] (.d (Qcb r)):=by
 refine Yc Tryz.func11 rfl (nt:=34) rfl (lb rfl) fun X hP h0 hX=>?_
 have hT:Xo X.P T:=hP▸tok
 have hf:X.P.funcs[11]? = some Tryz.f11:=hP▸Tryz.func11
 refine Qh hT 28 (K11 111010 0) ⟨34,(Xa.p0++[(4,.i 0)]),[.box 39 (Ya a0),.box 48 (Xa.q3),.box 48 [.i a0.Client,.i a0.Seq,.i a0.Kind,.ns,.i a0.Over.Lo,.i a0.Over.Hi,.i a0.Old]]⟩ ?_
 refine Qos (tb:=48) (cs:=[.i a0.Client,.i a0.Seq,.i a0.Kind,.ns,.i a0.Over.Lo,.i a0.Over.Hi,.i a0.Old]) 2 3 2 98 (vec Qc.e Qc.z []) (st':=⟨34,(Xa.p0++[(4,.i 0)]),[.box 39 (Ya a0),.box 48 (Xa.q3),.box 48 [.i a0.Client,.i a0.Seq,.i a0.Kind,.own 3 2 0 0,.i a0.Over.Lo,.i a0.Over.Hi,.i a0.Old],Qbu ([]:List Qc)]⟩) (by kernel_rfl) (by kernel_rfl) ?_
 have L:∀ n,(∀ (Zm:Int) (Yl:List Qc),iter (Xa.step a0) n (.l1 Zm Yl)=some r->AK X 11 ((K11 111010 0)) (Yt X [] (.d (Qcb r))) ⟨34,(Xa.p0++[(4,.i Zm)]),[.box 39 (Ya a0),.box 48 (Xa.q3),.box 48 (Xa.q1 a0 Yl),Qbu Yl]⟩):=by
  intro n
  induction n with
  | zero=>exact fun _ _ H=>Qbd H
  | succ n ih=>
   ·intro Zm Yl H
    refine Qh hT 9 (K11 11101000 1) ⟨34,(Xa.p0++[(4,.i Zm),(20,.b (decide (Zm < (a0.Pairs.length:Int))))]),[.box 39 (Ya a0),.box 48 (Xa.q3),.box 48 (Xa.q1 a0 Yl),Qbu Yl]⟩ ?_
    by_cases c1:Zm < (a0.Pairs.length:Int)
    ·replace H:=sT c1 H
     rw [decide_eq_true c1]
     refine Qh hT 2 (K11 1110100 1) (Xa.s1 Zm a0 Yl) ?_
     refine Qh hT 2 (K11 111010010 0) (Xa.s1 Zm a0 Yl) ?_
     obtain ⟨h2,H⟩:=sC H
     refine Qgq (nt:=34) (hP▸mixed) 8 [7] [1,2,3,4] [(1,.ptr 0 0 0 0),(2,.ptr 1 0 0 0),(3,.ptr 2 0 0 0),(4,.i Zm)] (sm [.ptr 2 0 0 3,.own 3 2 0 Yl.length,.ptr 0 0 0 3,.d (Xw true a0.Pairs),.i Zm,.d (Qef true a0.Pairs Zm.toNat 0),.d (Qfr (a0.Pairs.getD Zm.toNat Qa.z)),.own 4 2 0 1]) [[.box 39 (Ya a0),.box 48 (Xa.q3),.box 48 (Xa.q1 a0 Yl),Qbu Yl],[.box 39 (Ya a0),.box 48 (Xa.q3),.box 48 (Xa.q1 a0 Yl),Qbu Yl,.flat false 2 98 1 (fun j=>[Qa.e (a0.Pairs.getD Zm.toNat Qa.z)].getD j [])]] (by kernel_rfl) (by kernel_rfl) (by kernel_rfl) (by kernel_rfl) ⟨(Qit (Qat (Qgd (Qat (Qat (Qat (Qat (Qat Qlw hT) hT) hT) hT) hT) (fun R rest h=>Zd hT (i:=Zm) (n:=(a0.Pairs.length:Int)) h2.1 h2.2 (by kernel_rfl) h)) hT)),(Qg7 hT),(Qit (Qat (Qgd (Qat (Qat (Qat (Qat (Qat Qlw hT) hT) hT) hT) hT) (fun R rest h=>Zd hT (i:=Zm) (n:=(a0.Pairs.length:Int)) h2.1 h2.2 (by kernel_rfl) h)) hT))⟩ ?_
     refine Qh hT 0 (K11 1110100100 8) ⟨34,(Xa.p0++[(4,.i Zm),(24,.own 3 2 0 Yl.length),(30,.own 4 2 0 1)]),[.box 39 (Ya a0),.box 48 (Xa.q3),.box 48 (Xa.q1 a0 Yl),Qbu Yl,.flat false 2 98 1 (fun j=>[Qa.e (a0.Pairs.getD Zm.toNat Qa.z)].getD j [])]⟩ ?_
     obtain ⟨h3,H⟩:=sC H
     refine Qcw (id:=3) (kk:=2) (by':=16) (t:=45) (e:=98) (z:=[.int .i64 0,.int .i64 0]) (dst:=some 31) (id2:=4) (e2:=98) (fz:=false) (k':=(K11 1110100100 9)) hT Qc.e Qc.z Yl (Xa.q2 a0 Zm) [1,2,3,4,31] (by kernel_rfl) (by kernel_rfl) (by kernel_rfl) (by kernel_rfl) (by kernel_rfl) (by kernel_rfl) (by kernel_rfl) h3 (by omega) (st':=⟨34,(Xa.p0++[(4,.i Zm),(31,.own 5 2 0 ((Yl ++ [(Xa.q2 a0 Zm)]).length))]),[.box 39 (Ya a0),.box 48 (Xa.q3),.box 48 (Xa.q1 a0 Yl),.gone,.flat false 2 98 1 (fun j=>[Qa.e (a0.Pairs.getD Zm.toNat Qa.z)].getD j []),Qbu (Yl ++ [(Xa.q2 a0 Zm)])]⟩) (by kernel_rfl) ?_
     refine Xn hT 10 (K11 111010 0) [0,1,2,5] ⟨34,(Xa.p0++[(4,.i (IntKind.wrap .i64 (Zm+1)))]),[.box 39 (Ya a0),.box 48 (Xa.q3),.box 48 [.i a0.Client,.i a0.Seq,.i a0.Kind,.own 3 2 0 (Yl ++ [(Xa.q2 a0 Zm)]).length,.i a0.Over.Lo,.i a0.Over.Hi,.i a0.Old],Qbu (Yl ++ [(Xa.q2 a0 Zm)])]⟩ h0 ?_
     exact ih (IntKind.wrap .i64 (Zm+1)) (Yl ++ [(Xa.q2 a0 Zm)]) H
    replace H:=sF c1 H
    rw [decide_eq_false c1]
    refine Qh hT 5 (K11 11110 1) ⟨34,[(2,.ptr 1 0 0 0),(33,.agg [.i a0.Client,.i a0.Seq,.i a0.Kind,.own 3 2 0 Yl.length,.i a0.Over.Lo,.i a0.Over.Hi,.i a0.Old])],[.box 39 (Ya a0),.box 48 (Xa.q3),.box 48 (Xa.q1 a0 Yl),Qbu Yl]⟩ ?_
    refine Qdp 3 (kk:=2) (n:=Yl.length) (ty:=98) (g:=vec Qc.e Qc.z Yl) (by kernel_rfl) (st':=⟨34,[(2,.ptr 1 0 0 0),(33,.agg [.i a0.Client,.i a0.Seq,.i a0.Kind,.own 3 2 0 Yl.length,.i a0.Over.Lo,.i a0.Over.Hi,.i a0.Old])],[.box 39 (Ya a0),.box 48 (Xa.q3),.box 48 (Xa.q1 a0 Yl),Qwf Yl]⟩) (by kernel_rfl) ?_
    refine Qdt (av:=.agg [.i a0.Client,.i a0.Seq,.i a0.Kind,.own 3 2 0 Yl.length,.i a0.Over.Lo,.i a0.Over.Hi,.i a0.Old]) (y:=.agg [.i a0.Client,.i a0.Seq,.i a0.Kind,Yf true Yl,.i a0.Over.Lo,.i a0.Over.Hi,.i a0.Old]) [2,33] 33 (st':=⟨34,[(2,.ptr 1 0 0 0),(33,.d (.agg [.i a0.Client,.i a0.Seq,.i a0.Kind,Yf true Yl,.i a0.Over.Lo,.i a0.Over.Hi,.i a0.Old]))],[.box 39 (Ya a0),.box 48 (Xa.q3),.box 48 (Xa.q1 a0 Yl),Qwf Yl]⟩) (by kernel_rfl) (.agg (.cons (.d _) (.cons (.d _) (.cons (.d _) (.cons (.own (ty:=98) (k:=2) (by kernel_rfl)) (.cons (.d _) (.cons (.d _) (.cons (.d _) .nil)))))))) (by kernel_rfl) ?_
    refine Qh hT 2 (K11 1111 1) ⟨34,[(2,.ptr 1 0 0 0)],[.box 39 (Ya a0),.box 48 [.i a0.Client,.i a0.Seq,.i a0.Kind,.d (Yf true Yl),.i a0.Over.Lo,.i a0.Over.Hi,.i a0.Old],.box 48 (Xa.q1 a0 Yl),Qwf Yl]⟩ ?_
    obtain rfl:=Yg H
    exact Qdz hT hf hX (av:=.d (.agg [.i a0.Client,.i a0.Seq,.i a0.Kind,Yf true Yl,.i a0.Over.Lo,.i a0.Over.Hi,.i a0.Old])) (by kernel_rfl) [] (Jh (by kernel_rfl)) (by decide) (by rw [h0];rfl) (by kernel_rfl) an (.d (.agg (Qk.nl _)))
 refine Qhm [0,1,2,3] ⟨34,(Xa.p0++[(4,.i 0)]),[.box 39 (Ya a0),.box 48 (Xa.q3),.box 48 [.i a0.Client,.i a0.Seq,.i a0.Kind,.own 3 2 0 ([]:List Qc).length,.i a0.Over.Lo,.i a0.Over.Hi,.i a0.Old],Qbu ([]:List Qc)]⟩ h0 ?_
 obtain ⟨n,H⟩:=Qbz H
 exact (L n) 0 ([]:List Qc) H
theorem Za.Wv {t0:Bool} {Jc:FuncId} {Jk:List DV} (a0:List Qa) (p1:Qa->Option Bool) (he1:Sy.Enters Tryz.prog Jc) (hp1:∀ (z0:Qa) r,p1 z0=some r->Yy Tryz.prog Jc [] ([.d (Qfr z0)] ++ List.map AV.d Jk) [] (.b r)) {r:Int} (H:Za a0 p1=some r):Yy Tryz.prog 108 [] [.d (Xw t0 a0),.d (.fn Jc Jk)] [] (.i r):=by
 refine Yc Tryz.func108 rfl (nt:=19) rfl (lb rfl) fun X hP h0 hX=>?_
 have hT:Xo X.P T:=hP▸tok
 have hf:X.P.funcs[108]? = some Tryz.f108:=hP▸Tryz.func108
 refine Qh hT 13 (Qjl 11010 0) ⟨19,[(0,.d (Xw t0 a0)),(1,.d (.fn Jc Jk)),(7,.i (a0.length:Int)),(8,.i 0)],[]⟩ ?_
 have L:∀ n,(∀ (Wi:Int),iter (Za.step a0 p1) n (.l1 Wi)=some r->AK X 108 ((Qjl 11010 0)) (Yt X [] (.i r)) ⟨19,[(0,.d (Xw t0 a0)),(1,.d (.fn Jc Jk)),(7,.i (a0.length:Int)),(8,.i Wi)],[]⟩):=by
  intro n
  induction n with
  | zero=>exact fun _ H=>Qbd H
  | succ n ih=>
   ·intro Wi H
    refine Qh hT 5 (Qjl 1101001 0) ⟨19,[(0,.d (Xw t0 a0)),(1,.d (.fn Jc Jk)),(7,.i (a0.length:Int)),(8,.i Wi),(9,.b (decide (Wi < (a0.length:Int))))],[]⟩ ?_
    by_cases c1:Wi < (a0.length:Int)
    ·replace H:=sT c1 H
     rw [decide_eq_true c1]
     refine Qh hT 2 (Qjl 1101001 1) ⟨19,[(0,.d (Xw t0 a0)),(1,.d (.fn Jc Jk)),(7,.i (a0.length:Int)),(8,.i Wi)],[]⟩ ?_
     refine Qh hT 12 (Qjl 110100110010 3) ⟨19,[(0,.d (Xw t0 a0)),(1,.d (.fn Jc Jk)),(5,.i Wi),(7,.i (a0.length:Int)),(8,.i Wi),(11,.d (.fn Jc Jk)),(12,.d (Xw t0 a0)),(13,.i Wi)],[]⟩ ?_
     obtain ⟨h2,H⟩:=sC H
     refine Jf hT [0,1,5,7,8,11,14] (i:=Wi) (n:=(a0.length:Int)) h2.1 h2.2 (k':=(Qjl 110100110010 4)) (st':=⟨19,[(0,.d (Xw t0 a0)),(1,.d (.fn Jc Jk)),(5,.i Wi),(7,.i (a0.length:Int)),(8,.i Wi),(11,.d (.fn Jc Jk)),(14,.d (Qef t0 a0 Wi.toNat 0))],[]⟩) (by kernel_rfl) ?_
     refine Qh hT 1 (Qjl 110100110010 5) ⟨19,[(0,.d (Xw t0 a0)),(1,.d (.fn Jc Jk)),(5,.i Wi),(7,.i (a0.length:Int)),(8,.i Wi),(11,.d (.fn Jc Jk)),(15,.d (Qfr (a0.getD Wi.toNat Qa.z)))],[]⟩ ?_
     obtain ⟨v1,h3,H⟩:=sbC H
     refine Ws (Yk:=[.d (Qfr (a0.getD Wi.toNat Qa.z))] ++ List.map AV.d Jk) (dst:=some 16) (k':=(Qjl 110100110010 6)) [0,1,5,7,8,16] [] hP he1 (hp1 (a0.getD Wi.toNat Qa.z) v1 h3) (by kernel_rfl) (Qz _) (.cons (Qp _) (Qh1 _)) (st':=⟨19,[(0,.d (Xw t0 a0)),(1,.d (.fn Jc Jk)),(5,.i Wi),(7,.i (a0.length:Int)),(8,.i Wi),(16,.b v1)],[]⟩) (by kernel_rfl) ?_
     refine Qh hT 1 (Qjl 11010011001 1) ⟨19,[(0,.d (Xw t0 a0)),(1,.d (.fn Jc Jk)),(5,.i Wi),(7,.i (a0.length:Int)),(8,.i Wi),(16,.b v1)],[]⟩ ?_
     by_cases c4:v1=true
     ·replace H:=sT c4 H
      rw [c4]
      refine Qh hT 6 (Qjl 1101001100110 1) ⟨19,[(4,.i Wi)],[]⟩ ?_
      obtain rfl:=Yg H
      exact Yi hf hX h0 (.i Wi) [] an (.d (.v _))
     replace H:=sF c4 H
     rw [Zz c4]
     refine Qh hT 3 (Qjl 11010011 1) ⟨19,[(0,.d (Xw t0 a0)),(1,.d (.fn Jc Jk)),(7,.i (a0.length:Int)),(8,.i Wi)],[]⟩ ?_
     refine Qh hT 5 (Qjl 11010 0) ⟨19,[(0,.d (Xw t0 a0)),(1,.d (.fn Jc Jk)),(7,.i (a0.length:Int)),(8,.i (IntKind.wrap .i64 (Wi+1)))],[]⟩ ?_
     exact ih (IntKind.wrap .i64 (Wi+1)) H
    replace H:=sF c1 H
    rw [decide_eq_false c1]
    refine Qh hT 6 (Qjl 111 1) ⟨19,[(4,.i (-1))],[]⟩ ?_
    obtain rfl:=Yg H
    exact Yi hf hX h0 (.i (-1)) [] an (.d (.v _))
 obtain ⟨n,H⟩:=Qbz H
 exact (L n) 0 H
theorem Qcm.Wv {t0:Bool} {Jc:FuncId} {Jk:List DV} (a0:List Qa) (p1:Qa->Option Bool) (he1:Sy.Enters Tryz.prog Jc) (hp1:∀ (z0:Qa) r,p1 z0=some r->Yy Tryz.prog Jc [] ([.d (Qfr z0)] ++ List.map AV.d Jk) [] (.b r)) {r:Bool} (H:Qcm a0 p1=some r):Yy Tryz.prog 95 [] [.d (Xw t0 a0),.d (.fn Jc Jk)] [] (.b r):=by
 refine Yc Tryz.func95 rfl (nt:=9) rfl (lb rfl) fun X hP h0 hX=>?_
 have hT:Xo X.P T:=hP▸tok
 have hf:X.P.funcs[95]? = some Tryz.f95:=hP▸Tryz.func95
 refine Qh hT 8 (K95 110 2) ⟨9,[(5,.d (Xw t0 a0)),(6,.d (.fn Jc Jk))],[]⟩ ?_
 obtain ⟨v1,h1,H⟩:=ibC H
 refine Ws (Yk:=[.d (Xw t0 a0),.d (.fn Jc Jk)]) (dst:=some 7) (k':=(K95 110 3)) [7] [] hP Qsk (Za.Wv (t0:=t0) (Jc:=Jc) (Jk:=Jk) a0 p1 he1 hp1 h1) (by kernel_rfl) (Qz _) (.cons (Qp _) (.cons (Qp _) .nil)) (st':=⟨9,[(7,.i v1)],[]⟩) (by kernel_rfl) ?_
 refine Qh hT 3 (K95 11 1) ⟨9,[(4,.b (decide (v1>=0)))],[]⟩ ?_
 obtain rfl:=Yg H
 exact Yi hf hX h0 (.b (decide (v1>=0))) [] an (.d (.v _))
theorem Qct.Wv (a0:Int):Yy Tryz.prog 74 [] [.i a0] [] (.b (Qct a0)):=by
 obtain ⟨r,H⟩:∃ r,Qct a0=r:=⟨_,rfl⟩
 rw [H]
 refine Yc Tryz.func74 rfl (nt:=9) rfl (lb rfl) fun X hP h0 hX=>?_
 have hT:Xo X.P T:=hP▸tok
 have hf:X.P.funcs[74]? = some Tryz.f74:=hP▸Tryz.func74
 have Yn:∀ (Qa8:Bool),(Qct.j1 Qa8)=r->AK X 74 ((K74 11 1)) (Yt X [] (.b r)) ⟨9,[(2,.b Qa8)],[]⟩:=by
  intro Qa8 H
  obtain rfl:=H
  exact Yi hf hX h0 (.b Qa8) [] an (.d (.v _))
 refine Qh hT 9 (K74 110 3) ⟨9,[(0,.i a0),(5,.b (decide (a0>=(-1099511627776))))],[]⟩ ?_
 by_cases c1:a0>=(-1099511627776)
 ·replace H:=iT c1 H
  rw [decide_eq_true c1]
  refine Qh hT 5 (K74 11 1) ⟨9,[(2,.b (decide (a0<=1099511627776)))],[]⟩ ?_
  exact Yn (decide (a0<=1099511627776)) H
 replace H:=iF c1 H
 rw [decide_eq_false c1]
 refine Qh hT 5 (K74 11 1) ⟨9,[(2,.b false)],[]⟩ ?_
 exact Yn false H
theorem Qd9.Wv (a0:Qa):Yy Tryz.prog 97 [] [.d (Qfr a0)] [] (.b (Qd9 a0)):=by
 obtain ⟨r,H⟩:∃ r,Qd9 a0=r:=⟨_,rfl⟩
 rw [H]
 refine Yc Tryz.func97 rfl (nt:=16) rfl (lb rfl) fun X hP h0 hX=>?_
 have hT:Xo X.P T:=hP▸tok
 have hf:X.P.funcs[97]? = some Tryz.f97:=hP▸Tryz.func97
 have Yn:∀ (Qa8:Bool),(Qd9.j1 Qa8)=r->AK X 97 ((K97 11 1)) (Yt X [] (.b r)) ⟨16,[(2,.b Qa8)],[]⟩:=by
  intro Qa8 H
  obtain rfl:=H
  exact Yi hf hX h0 (.b Qa8) [] an (.d (.v _))
 refine Qh hT 11 (K97 110 4) ⟨16,[(1,.ptr 0 0 0 0),(6,.b (decide (a0.Key>=0)))],[.box 81 (Qb2 a0)]⟩ ?_
 by_cases c1:a0.Key>=0
 ·replace H:=iT c1 H
  rw [decide_eq_true c1]
  refine Qh hT 5 (K97 110 9) ⟨16,[(1,.ptr 0 0 0 0),(11,.b (decide (a0.Key < 4096)))],[.box 81 (Qb2 a0)]⟩ ?_
  by_cases c2:a0.Key < 4096
  ·replace H:=iT c2 H
   rw [decide_eq_true c2]
   refine Qh hT 2 (K97 110 11) ⟨16,[(11,.b true),(13,.i a0.Val)],[.box 81 (Qb2 a0)]⟩ ?_
   refine Ws (Yk:=[.i a0.Val]) (dst:=some 14) (k':=(K97 110 12)) [11,14] [] hP Quk (Qct.Wv a0.Val) (by kernel_rfl) (Qz _) (.cons (Qp _) .nil) (st':=⟨16,[(11,.b true),(14,.b (Qct a0.Val))],[.box 81 (Qb2 a0)]⟩) (by kernel_rfl) ?_
   refine Xn hT 3 (K97 11 1) [] ⟨16,[(2,.b (Qct a0.Val))],[]⟩ h0 ?_
   exact Yn (Qct a0.Val) H
  replace H:=iF c2 H
  rw [decide_eq_false c2]
  refine Xn hT 6 (K97 11 1) [] ⟨16,[(2,.b false)],[]⟩ h0 ?_
  exact Yn false H
 replace H:=iF c1 H
 rw [decide_eq_false c1]
 refine Xn hT 11 (K97 11 1) [] ⟨16,[(2,.b false)],[]⟩ h0 ?_
 exact Yn false H
theorem Qf2.Wv (a0:Qa):Yy Tryz.prog 96 [] [.d (Qfr a0)] [] (.b (Qf2 a0)):=by
 obtain ⟨r,H⟩:∃ r,Qf2 a0=r:=⟨_,rfl⟩
 rw [H]
 refine Yc Tryz.func96 rfl (nt:=6) rfl (lb rfl) fun X hP h0 hX=>?_
 have hT:Xo X.P T:=hP▸tok
 have hf:X.P.funcs[96]? = some Tryz.f96:=hP▸Tryz.func96
 refine Qh hT 8 (K96 110 1) ⟨6,[(3,.d (Qfr a0))],[.box 81 (Qb2 a0)]⟩ ?_
 refine Ws (Yk:=[.d (Qfr a0)]) (dst:=some 4) (k':=(K96 110 2)) [4] [] hP Wcz (Qd9.Wv a0) (by kernel_rfl) (Qz _) (.cons (Qp _) .nil) (st':=⟨6,[(4,.b (Qd9 a0))],[.box 81 (Qb2 a0)]⟩) (by kernel_rfl) ?_
 refine Qh hT 3 (K96 11 1) ⟨6,[(2,.b (!(Qd9 a0)))],[.box 81 (Qb2 a0)]⟩ ?_
 obtain rfl:=H
 exact Yi hf hX h0 (.b (!(Qd9 a0))) [] an (.d (.v _))
theorem Qcj.Wv (a0:Ql) (a1:Int) (a2:Int) {r:Bool} (H:Qcj a0 a1 a2=some r):Yy Tryz.prog 72 [] [.d (Qas a0),.i a1,.i a2] [] (.b r):=by
 refine Yc Tryz.func72 rfl (nt:=25) rfl (lb rfl) fun X hP h0 hX=>?_
 have hT:Xo X.P T:=hP▸tok
 have hf:X.P.funcs[72]? = some Tryz.f72:=hP▸Tryz.func72
 have Yn:∀ (Qtv:Bool),(Qcj.j1 Qtv)=some r->AK X 72 ((K72 11 1)) (Yt X [] (.b r)) ⟨25,[(6,.b Qtv)],[]⟩:=by
  intro Qtv H
  obtain rfl:=Yg H
  exact Yi hf hX h0 (.b Qtv) [] an (.d (.v _))
 refine Qh hT 13 (K72 110 6) ⟨25,[(2,.i a2),(3,.ptr 0 0 0 0),(12,.b (decide ((a0.Pairs.length:Int)>=a1)))],[.box 39 (Ya a0)]⟩ ?_
 by_cases c1:(a0.Pairs.length:Int)>=a1
 ·replace H:=iT c1 H
  rw [decide_eq_true c1]
  refine Qh hT 7 (K72 110 13) ⟨25,[(3,.ptr 0 0 0 0),(19,.b (decide ((a0.Pairs.length:Int)<=a2)))],[.box 39 (Ya a0)]⟩ ?_
  by_cases c2:(a0.Pairs.length:Int)<=a2
  ·replace H:=iT c2 H
   rw [decide_eq_true c2]
   refine Qh hT 2 (K72 110 15) ⟨25,[(19,.b true),(21,.d (Xw true a0.Pairs))],[.box 39 (Ya a0)]⟩ ?_
   obtain ⟨v1,h3,H⟩:=ibC H
   refine Ws (Yk:=[.d (Xw true a0.Pairs),.d (.fn 96 [])]) (dst:=some 22) (k':=(K72 110 16)) [19,22] [] hP Wcx (Qcm.Wv (t0:=true) (Jc:=96) (Jk:=[]) a0.Pairs (fun z0=>some (Qf2 z0)) Wcy (fun z0 r h=>by obtain rfl:=Yg h;exact Qf2.Wv z0) h3) (by kernel_rfl) (Qz _) (.cons (Qp _) (.cons (Qp _) .nil)) (st':=⟨25,[(19,.b true),(22,.b v1)],[.box 39 (Ya a0)]⟩) (by kernel_rfl) ?_
   refine Xn hT 4 (K72 11 1) [] ⟨25,[(6,.b (!v1))],[]⟩ h0 ?_
   exact Yn (!v1) H
  replace H:=iF c2 H
  rw [decide_eq_false c2]
  refine Xn hT 7 (K72 11 1) [] ⟨25,[(6,.b false)],[]⟩ h0 ?_
  exact Yn false H
 replace H:=iF c1 H
 rw [decide_eq_false c1]
 refine Xn hT 14 (K72 11 1) [] ⟨25,[(6,.b false)],[]⟩ h0 ?_
 exact Yn false H
theorem Qb3.Wv {t0:Bool} (a0:List Qa) {r:Bool} (H:Qb3 a0=some r):Yy Tryz.prog 73 [] [.d (Xw t0 a0)] [] (.b r):=by
 refine Yc Tryz.func73 rfl (nt:=22) rfl (lb rfl) fun X hP h0 hX=>?_
 have hT:Xo X.P T:=hP▸tok
 have hf:X.P.funcs[73]? = some Tryz.f73:=hP▸Tryz.func73
 refine Qh hT 11 (K73 11010 0) ⟨22,[(0,.d (Xw t0 a0)),(3,.i 1)],[]⟩ ?_
 have L:∀ n,(∀ (We:Int),iter (Qb3.step a0) n (.l1 We)=some r->AK X 73 ((K73 11010 0)) (Yt X [] (.b r)) ⟨22,[(0,.d (Xw t0 a0)),(3,.i We)],[]⟩):=by
  intro n
  induction n with
  | zero=>exact fun _ H=>Qbd H
  | succ n ih=>
   ·intro We H
    refine Qh hT 8 (K73 1101000 1) ⟨22,[(0,.d (Xw t0 a0)),(3,.i We),(7,.b (decide (We < (a0.length:Int))))],[]⟩ ?_
    by_cases c1:We < (a0.length:Int)
    ·replace H:=sT c1 H
     rw [decide_eq_true c1]
     refine Qh hT 2 (K73 110100 1) ⟨22,[(0,.d (Xw t0 a0)),(3,.i We)],[]⟩ ?_
     refine Qh hT 3 (K73 110100100 0) ⟨22,[(0,.d (Xw t0 a0)),(3,.i We)],[]⟩ ?_
     obtain ⟨h2,H⟩:=sC H
     obtain ⟨h3,H⟩:=sC H
     refine Qax (hP▸mixed) 12 [0,3] (sm [.d (Xw t0 a0),.i We,.i (IntKind.wrap .i64 (We - 1)),.d (Qef t0 a0 ((IntKind.wrap .i64 (We - 1)).toNat) 0),.d (Qef t0 a0 ((IntKind.wrap .i64 (We - 1)).toNat) 0),.i ((a0.getD ((IntKind.wrap .i64 (We - 1)).toNat) Qa.z).Key),.d (Xw t0 a0),.i We,.d (Qef t0 a0 We.toNat 0),.d (Qef t0 a0 We.toNat 0),.i ((a0.getD We.toNat Qa.z).Key),.b (decide (((a0.getD ((IntKind.wrap .i64 (We - 1)).toNat) Qa.z).Key)>=((a0.getD We.toNat Qa.z).Key)))]) (Qg (Qg (Qg (Jn (Qg (Qg (Qg (Qg (Jn (Qg (Qg (Qg op0 hT) hT) hT) (fun R rest h=>Zd hT (i:=IntKind.wrap .i64 (We - 1)) (n:=(a0.length:Int)) h2.1 h2.2 (by kernel_rfl) h)) hT) hT) hT) hT) (fun R rest h=>Zd hT (i:=We) (n:=(a0.length:Int)) h3.1 h3.2 (by kernel_rfl) h)) hT) hT) hT) ?_
     refine Qh hT 1 (K73 110100100 1) ⟨22,[(0,.d (Xw t0 a0)),(3,.i We),(21,.b (decide (((a0.getD ((IntKind.wrap .i64 (We - 1)).toNat) Qa.z).Key)>=((a0.getD We.toNat Qa.z).Key))))],[]⟩ ?_
     by_cases c4:((a0.getD ((IntKind.wrap .i64 (We - 1)).toNat) Qa.z).Key)>=((a0.getD We.toNat Qa.z).Key)
     ·replace H:=sT c4 H
      rw [decide_eq_true c4]
      refine Qh hT 5 (K73 11010010010 1) ⟨22,[(2,.b false)],[]⟩ ?_
      obtain rfl:=Yg H
      exact Yi hf hX h0 (.b false) [] an (.d (.v _))
     replace H:=sF c4 H
     rw [decide_eq_false c4]
     refine Qh hT 3 (K73 1101001 1) ⟨22,[(0,.d (Xw t0 a0)),(3,.i We)],[]⟩ ?_
     refine Qh hT 6 (K73 11010 0) ⟨22,[(0,.d (Xw t0 a0)),(3,.i (IntKind.wrap .i64 (We+1)))],[]⟩ ?_
     exact ih (IntKind.wrap .i64 (We+1)) H
    replace H:=sF c1 H
    rw [decide_eq_false c1]
    refine Qh hT 6 (K73 111 1) ⟨22,[(2,.b true)],[]⟩ ?_
    obtain rfl:=Yg H
    exact Yi hf hX h0 (.b true) [] an (.d (.v _))
 obtain ⟨n,H⟩:=Qbz H
 exact (L n) 1 H
theorem Qbj.Wv (a0:Qb):Yy Tryz.prog 59 [] [.d (Qfg a0)] [] (.b (Qbj a0)):=by
 obtain ⟨r,H⟩:∃ r,Qbj a0=r:=⟨_,rfl⟩
 rw [H]
 refine Yc Tryz.func59 rfl (nt:=18) rfl (lb rfl) fun X hP h0 hX=>?_
 have hT:Xo X.P T:=hP▸tok
 have hf:X.P.funcs[59]? = some Tryz.f59:=hP▸Tryz.func59
 have Yn:∀ (Qa8:Bool),(Qbj.j1 Qa8)=r->AK X 59 ((K59 11 1)) (Yt X [] (.b r)) ⟨18,[(2,.b Qa8)],[]⟩:=by
  intro Qa8 H
  obtain rfl:=H
  exact Yi hf hX h0 (.b Qa8) [] an (.d (.v _))
 refine Qh hT 11 (K59 110 4) ⟨18,[(1,.ptr 0 0 0 0),(6,.b (decide (a0.Lo>=0)))],[.box 33 (Qez a0)]⟩ ?_
 by_cases c1:a0.Lo>=0
 ·replace H:=iT c1 H
  rw [decide_eq_true c1]
  refine Qh hT 7 (K59 110 11) ⟨18,[(1,.ptr 0 0 0 0),(13,.b (decide (a0.Lo < a0.Hi)))],[.box 33 (Qez a0)]⟩ ?_
  by_cases c2:a0.Lo < a0.Hi
  ·replace H:=iT c2 H
   rw [decide_eq_true c2]
   refine Xn hT 6 (K59 11 1) [] ⟨18,[(2,.b (decide (a0.Hi<=4096)))],[]⟩ h0 ?_
   exact Yn (decide (a0.Hi<=4096)) H
  replace H:=iF c2 H
  rw [decide_eq_false c2]
  refine Xn hT 6 (K59 11 1) [] ⟨18,[(2,.b false)],[]⟩ h0 ?_
  exact Yn false H
 replace H:=iF c1 H
 rw [decide_eq_false c1]
 refine Xn hT 13 (K59 11 1) [] ⟨18,[(2,.b false)],[]⟩ h0 ?_
 exact Yn false H
abbrev Yz.p0:List (Nat × AV):=[(1,.ptr 0 0 0 0)]
theorem Yz.Wv (a0:Ql) {r:Bool} (H:Yz a0=some r):Yy Tryz.prog 43 [] [.d (Qas a0)] [] (.b r):=by
 refine Yc Tryz.func43 rfl (nt:=102) rfl (lb rfl) fun X hP h0 hX=>?_
 have hT:Xo X.P T:=hP▸tok
 have hf:X.P.funcs[43]? = some Tryz.f43:=hP▸Tryz.func43
 have Yn:∀ (Qql:Bool),(Yz.j1 a0 Qql)=some r->AK X 43 ((K43 1110 1)) (Yt X [] (.b r)) ⟨102,(Yz.p0++[(23,.b Qql)]),[.box 39 (Ya a0)]⟩:=by
  intro Qql H
  by_cases c7:Qql=true
  ·replace H:=iT c7 H
   rw [c7]
   refine Qh hT 5 (K43 111010 1) ⟨102,[(2,.b false)],[.box 39 (Ya a0)]⟩ ?_
   obtain rfl:=Yg H
   exact Yi hf hX h0 (.b false) [] an (.d (.v _))
  replace H:=iF c7 H
  rw [Zz c7]
  refine Qh hT 2 (K43 111 1) ⟨102,(Yz.p0),[.box 39 (Ya a0)]⟩ ?_
  refine Qh hT 12 (K43 1111010 1) ⟨102,(Yz.p0++[(25,.i a0.Kind),(26,.b (a0.Kind == 1))]),[.box 39 (Ya a0)]⟩ ?_
  by_cases c8:a0.Kind=1
  ·replace H:=iT c8 H
   rw [eqT c8]
   refine Qh hT 4 (K43 1111010100 1) ⟨102,(Yz.p0++[(28,.d (Qas a0))]),[.box 39 (Ya a0)]⟩ ?_
   obtain ⟨v1,h9,H⟩:=ibC H
   have Jj2:∀ (Qhb:Bool),(Yz.j2 Qhb)=some r->AK X 43 ((K43 111101010 1)) (Yt X [] (.b r)) ⟨102,[(2,.b Qhb)],[]⟩:=by
    intro Qhb H
    obtain rfl:=Yg H
    exact Yi hf hX h0 (.b Qhb) [] an (.d (.v _))
   refine Ws (Yk:=[.d (Qas a0),.i 1,.i 8]) (dst:=some 29) (k':=(K43 1111010100 2)) [1,29] [] hP Qi1 (Qcj.Wv a0 1 8 h9) (by kernel_rfl) (Qz _) (.cons (Qp _) (.cons (Qp _) (.cons (Qp _) .nil))) (st':=⟨102,(Yz.p0++[(29,.b v1)]),[.box 39 (Ya a0)]⟩) (by kernel_rfl) ?_
   refine Qh hT 1 (K43 1111010100 3) ⟨102,(Yz.p0++[(30,.b v1)]),[.box 39 (Ya a0)]⟩ ?_
   by_cases c10:v1=true
   ·replace H:=iT c10 H
    rw [c10]
    refine Qh hT 2 (K43 1111010100 5) ⟨102,[(30,.b true),(32,.d (Xw true a0.Pairs))],[.box 39 (Ya a0)]⟩ ?_
    obtain ⟨v2,h11,H⟩:=ibC H
    refine Ws (Yk:=[.d (Xw true a0.Pairs)]) (dst:=some 33) (k':=(K43 1111010100 6)) [30,33] [] hP Wcj (Qb3.Wv (t0:=true) a0.Pairs h11) (by kernel_rfl) (Qz _) (.cons (Qp _) .nil) (st':=⟨102,[(30,.b true),(33,.b v2)],[.box 39 (Ya a0)]⟩) (by kernel_rfl) ?_
    refine Xn hT 3 (K43 111101010 1) [] ⟨102,[(2,.b v2)],[]⟩ h0 ?_
    exact Jj2 v2 H
   replace H:=iF c10 H
   rw [Zz c10]
   refine Xn hT 6 (K43 111101010 1) [] ⟨102,[(2,.b false)],[]⟩ h0 ?_
   exact Jj2 false H
  replace H:=iF c8 H
  rw [eqF c8]
  refine Qh hT 6 (K43 111101011 1) ⟨102,(Yz.p0++[(25,.i a0.Kind),(35,.b (a0.Kind == 2))]),[.box 39 (Ya a0)]⟩ ?_
  by_cases c12:a0.Kind=2
  ·replace H:=iT c12 H
   have Jj3:∀ (Qj6:Bool),(Yz.j3 Qj6)=some r->AK X 43 ((K43 11110101110 1)) (Yt X [] (.b r)) ⟨102,[(2,.b Qj6)],[]⟩:=by
    intro Qj6 H
    obtain rfl:=Yg H
    exact Yi hf hX h0 (.b Qj6) [] an (.d (.v _))
   rw [eqT c12]
   refine Qh hT 8 (K43 111101011100 5) ⟨102,(Yz.p0++[(41,.b ((a0.Pairs.length:Int) == 0))]),[.box 39 (Ya a0)]⟩ ?_
   by_cases c13:(a0.Pairs.length:Int)=0
   ·replace H:=iT c13 H
    rw [eqT c13]
    refine Qh hT 2 (K43 111101011100 7) ⟨102,[(41,.b true),(43,.d (Qfg a0.Over))],[.box 39 (Ya a0)]⟩ ?_
    refine Ws (Yk:=[.d (Qfg a0.Over)]) (dst:=some 44) (k':=(K43 111101011100 8)) [41,44] [] hP Qi0 (Qbj.Wv a0.Over) (by kernel_rfl) (Qz _) (.cons (Qp _) .nil) (st':=⟨102,[(41,.b true),(44,.b (Qbj a0.Over))],[.box 39 (Ya a0)]⟩) (by kernel_rfl) ?_
    refine Xn hT 3 (K43 11110101110 1) [] ⟨102,[(2,.b (Qbj a0.Over))],[]⟩ h0 ?_
    exact Jj3 (Qbj a0.Over) H
   replace H:=iF c13 H
   rw [eqF c13]
   refine Xn hT 6 (K43 11110101110 1) [] ⟨102,[(2,.b false)],[]⟩ h0 ?_
   exact Jj3 false H
  replace H:=iF c12 H
  rw [eqF c12]
  refine Qh hT 6 (K43 11110101111 1) ⟨102,(Yz.p0++[(25,.i a0.Kind),(46,.b (a0.Kind == 3))]),[.box 39 (Ya a0)]⟩ ?_
  by_cases c14:a0.Kind=3
  ·replace H:=iT c14 H
   rw [eqT c14]
   refine Qh hT 4 (K43 11110101111100 1) ⟨102,[(48,.d (Qas a0))],[.box 39 (Ya a0)]⟩ ?_
   obtain ⟨v3,h15,H⟩:=ibC H
   refine Ws (Yk:=[.d (Qas a0),.i 1,.i 1]) (dst:=some 49) (k':=(K43 11110101111100 2)) [49] [] hP Qi1 (Qcj.Wv a0 1 1 h15) (by kernel_rfl) (Qz _) (.cons (Qp _) (.cons (Qp _) (.cons (Qp _) .nil))) (st':=⟨102,[(49,.b v3)],[.box 39 (Ya a0)]⟩) (by kernel_rfl) ?_
   refine Qh hT 2 (K43 1111010111110 1) ⟨102,[(2,.b v3)],[.box 39 (Ya a0)]⟩ ?_
   obtain rfl:=Yg H
   exact Yi hf hX h0 (.b v3) [] an (.d (.v _))
  replace H:=iF c14 H
  rw [eqF c14]
  refine Qh hT 6 (K43 1111010111111 1) ⟨102,(Yz.p0++[(25,.i a0.Kind),(50,.b (a0.Kind == 4))]),[.box 39 (Ya a0)]⟩ ?_
  by_cases c16:a0.Kind=4
  ·replace H:=iT c16 H
   rw [eqT c16]
   refine Qh hT 4 (K43 1111010111111100 1) ⟨102,(Yz.p0++[(52,.d (Qas a0))]),[.box 39 (Ya a0)]⟩ ?_
   obtain ⟨v4,h17,H⟩:=ibC H
   have Jj4:∀ (Qj7:Bool),(Yz.j4 Qj7)=some r->AK X 43 ((K43 111101011111110 1)) (Yt X [] (.b r)) ⟨102,[(2,.b Qj7)],[]⟩:=by
    intro Qj7 H
    obtain rfl:=Yg H
    exact Yi hf hX h0 (.b Qj7) [] an (.d (.v _))
   refine Ws (Yk:=[.d (Qas a0),.i 1,.i 1]) (dst:=some 53) (k':=(K43 1111010111111100 2)) [1,53] [] hP Qi1 (Qcj.Wv a0 1 1 h17) (by kernel_rfl) (Qz _) (.cons (Qp _) (.cons (Qp _) (.cons (Qp _) .nil))) (st':=⟨102,(Yz.p0++[(53,.b v4)]),[.box 39 (Ya a0)]⟩) (by kernel_rfl) ?_
   refine Qh hT 1 (K43 1111010111111100 3) ⟨102,(Yz.p0++[(54,.b v4)]),[.box 39 (Ya a0)]⟩ ?_
   by_cases c18:v4=true
   ·replace H:=iT c18 H
    rw [c18]
    refine Qh hT 2 (K43 1111010111111100 5) ⟨102,(Yz.p0++[(54,.b true),(56,.i a0.Old)]),[.box 39 (Ya a0)]⟩ ?_
    refine Ws (Yk:=[.i a0.Old]) (dst:=some 57) (k':=(K43 1111010111111100 6)) [1,54,57] [] hP Quk (Qct.Wv a0.Old) (by kernel_rfl) (Qz _) (.cons (Qp _) .nil) (st':=⟨102,(Yz.p0++[(54,.b true),(57,.b (Qct a0.Old))]),[.box 39 (Ya a0)]⟩) (by kernel_rfl) ?_
    refine Qh hT 1 (K43 1111010111111100 7) ⟨102,(Yz.p0++[(54,.b true),(58,.b (Qct a0.Old))]),[.box 39 (Ya a0)]⟩ ?_
    by_cases c19:(Qct a0.Old)=true
    ·replace H:=iT c19 H
     rw [c19]
     refine Xn hT 7 (K43 111101011111110 1) [] ⟨102,[(2,.b true)],[]⟩ h0 ?_
     exact Jj4 true H
    replace H:=iF c19 H
    rw [Zz c19]
    refine Xn hT 7 (K43 111101011111110 1) [] ⟨102,[(2,.b (a0.Old == 1099511627777))],[]⟩ h0 ?_
    exact Jj4 (a0.Old == 1099511627777) H
   replace H:=iF c18 H
   rw [Zz c18]
   refine Xn hT 11 (K43 111101011111110 1) [] ⟨102,[(2,.b false)],[]⟩ h0 ?_
   exact Jj4 false H
  replace H:=iF c16 H
  rw [eqF c16]
  refine Qh hT 6 (K43 111101011111111 1) ⟨102,(Yz.p0++[(64,.b (a0.Kind == 5))]),[.box 39 (Ya a0)]⟩ ?_
  by_cases c20:a0.Kind=5
  ·replace H:=iT c20 H
   rw [eqT c20]
   refine Qh hT 2 (K43 11110101111111110 0) ⟨102,(Yz.p0),[.box 39 (Ya a0)]⟩ ?_
   obtain ⟨v5,h21,H⟩:=ibC H
   have Jj5:∀ (Qj8:Bool),(Yz.j5 Qj8)=some r->AK X 43 ((K43 11110101111111110 1)) (Yt X [] (.b r)) ⟨102,[(2,.b Qj8)],[]⟩:=by
    intro Qj8 H
    obtain rfl:=Yg H
    exact Yi hf hX h0 (.b Qj8) [] an (.d (.v _))
   by_cases c22:v5=true
   ·replace H:=iT c22 H
    obtain ⟨h23,H⟩:=iC H
    obtain ⟨h24,H⟩:=iC H
    by_cases c25:((a0.Pairs.getD 0 Qa.z).Key)=((a0.Pairs.getD 1 Qa.z).Key)
    ·replace H:=iT c25 H
     refine Qax (hP▸mixed) 26 [1] (sm [.d (Qas a0),.b true,.b true,.ptr 0 0 0 3,.d (Xw true a0.Pairs),.d (Qef true a0.Pairs 0 0),.d (Qef true a0.Pairs 0 0),.i ((a0.Pairs.getD 0 Qa.z).Key),.ptr 0 0 0 3,.d (Xw true a0.Pairs),.d (Qef true a0.Pairs 1 0),.d (Qef true a0.Pairs 1 0),.i ((a0.Pairs.getD 1 Qa.z).Key),.b false,.b false,.b false,.Qn [],.Qn [],.Qn [],.Qn [],.Qn [],.Qn [],.Qn [],.Qn [],.Qn [],.Qn []]) (Qg (Qg (Qg (Qg (Qg (Qg (Qg (Qg (Qg (Qg (Qg (Qg (opV (Qg (Qg (Jn (Qg (Qg (Qg (Qg (Jn (Qg (Qg (Qg (Jn (Qg op0 hT) (fun R rest h=>Ju (Yk:=[.d (Qas a0),.i 2,.i 2]) (dst:=some 67) hP Qi1 (by have q:=Qcj.Wv a0 2 2 h21;rw [c22] at q;exact q) (by kernel_rfl) (.cons (Qp _) (.cons (Qp _) (.cons (Qp _) .nil))) (by kernel_rfl) h)) hT) hT) hT) (fun R rest h=>Zd hT (i:=0) (n:=(a0.Pairs.length:Int)) h23.1 h23.2 (by kernel_rfl) h)) hT) hT) hT) hT) (fun R rest h=>Zd hT (i:=1) (n:=(a0.Pairs.length:Int)) h24.1 h24.2 (by kernel_rfl) h)) hT) hT) hT 79 (.b (((a0.Pairs.getD 0 Qa.z).Key) != ((a0.Pairs.getD 1 Qa.z).Key))) (.b false) (by rw [neF c25]<;>rfl)) hT) hT) hT) hT) hT) hT) hT) hT) hT) hT) hT) hT) ?_
     refine Xn hT 12 (K43 11110101111111110 1) [] ⟨102,[(2,.b false)],[]⟩ h0 ?_
     exact Jj5 false H
    replace H:=iF c25 H
    refine Qax (hP▸mixed) 26 [1] (sm [.d (Qas a0),.b true,.b true,.ptr 0 0 0 3,.d (Xw true a0.Pairs),.d (Qef true a0.Pairs 0 0),.d (Qef true a0.Pairs 0 0),.i ((a0.Pairs.getD 0 Qa.z).Key),.ptr 0 0 0 3,.d (Xw true a0.Pairs),.d (Qef true a0.Pairs 1 0),.d (Qef true a0.Pairs 1 0),.i ((a0.Pairs.getD 1 Qa.z).Key),.b true,.b true,.b true,.ptr 0 0 0 3,.d (Xw true a0.Pairs),.d (Qef true a0.Pairs 0 0),.d (Qef true a0.Pairs 0 1),.i ((a0.Pairs.getD 0 Qa.z).Val),.ptr 0 0 0 3,.d (Xw true a0.Pairs),.d (Qef true a0.Pairs 1 0),.d (Qef true a0.Pairs 1 1),.i ((a0.Pairs.getD 1 Qa.z).Val)]) (Qg (Qg (Jn (Qg (Qg (Qg (Qg (Jn (Qg (Qg (Qg (Qg (opV (Qg (Qg (Jn (Qg (Qg (Qg (Qg (Jn (Qg (Qg (Qg (Jn (Qg op0 hT) (fun R rest h=>Ju (Yk:=[.d (Qas a0),.i 2,.i 2]) (dst:=some 67) hP Qi1 (by have q:=Qcj.Wv a0 2 2 h21;rw [c22] at q;exact q) (by kernel_rfl) (.cons (Qp _) (.cons (Qp _) (.cons (Qp _) .nil))) (by kernel_rfl) h)) hT) hT) hT) (fun R rest h=>Zd hT (i:=0) (n:=(a0.Pairs.length:Int)) h23.1 h23.2 (by kernel_rfl) h)) hT) hT) hT) hT) (fun R rest h=>Zd hT (i:=1) (n:=(a0.Pairs.length:Int)) h24.1 h24.2 (by kernel_rfl) h)) hT) hT) hT 79 (.b (((a0.Pairs.getD 0 Qa.z).Key) != ((a0.Pairs.getD 1 Qa.z).Key))) (.b true) (by rw [neT c25]<;>rfl)) hT) hT) hT) hT) (fun R rest h=>Zd hT (i:=0) (n:=(a0.Pairs.length:Int)) h23.1 h23.2 (by kernel_rfl) h)) hT) hT) hT) hT) (fun R rest h=>Zd hT (i:=1) (n:=(a0.Pairs.length:Int)) h24.1 h24.2 (by kernel_rfl) h)) hT) hT) ?_
    refine Qh hT 3 (K43 111101011111111100 29) ⟨102,(Yz.p0++[(94,.b (((a0.Pairs.getD 0 Qa.z).Val) == ((a0.Pairs.getD 1 Qa.z).Val)))]),[.box 39 (Ya a0)]⟩ ?_
    by_cases c26:((a0.Pairs.getD 0 Qa.z).Val)=((a0.Pairs.getD 1 Qa.z).Val)
    ·replace H:=iT c26 H
     rw [eqT c26]
     refine Qh hT 2 (K43 111101011111111100 31) ⟨102,[(94,.b true),(96,.d (Xw true a0.Pairs))],[.box 39 (Ya a0)]⟩ ?_
     refine Jf hT [94,97] (i:=0) (n:=(a0.Pairs.length:Int)) h23.1 h23.2 (k':=(K43 111101011111111100 32)) (st':=⟨102,[(94,.b true),(97,.d (Qef true a0.Pairs 0 0))],[.box 39 (Ya a0)]⟩) (by kernel_rfl) ?_
     refine Xn hT 6 (K43 11110101111111110 1) [] ⟨102,[(2,.b (decide (((a0.Pairs.getD 0 Qa.z).Val)>=0)))],[]⟩ h0 ?_
     exact Jj5 (decide (((a0.Pairs.getD 0 Qa.z).Val)>=0)) H
    replace H:=iF c26 H
    rw [eqF c26]
    refine Xn hT 9 (K43 11110101111111110 1) [] ⟨102,[(2,.b false)],[]⟩ h0 ?_
    exact Jj5 false H
   replace H:=iF c22 H
   refine Qax (hP▸mixed) 26 [1] (sm [.d (Qas a0),.b false,.b false,.Qn [],.Qn [],.Qn [],.Qn [],.Qn [],.Qn [],.Qn [],.Qn [],.Qn [],.Qn [],.Qn [],.b false,.b false,.Qn [],.Qn [],.Qn [],.Qn [],.Qn [],.Qn [],.Qn [],.Qn [],.Qn [],.Qn []]) (Qg (Qg (Qg (Qg (Qg (Qg (Qg (Qg (Qg (Qg (Qg (Qg (Qg (Qg (Qg (Qg (Qg (Qg (Qg (Qg (Qg (Qg (Qg (Qg (Jn (Qg op0 hT) (fun R rest h=>Ju (Yk:=[.d (Qas a0),.i 2,.i 2]) (dst:=some 67) hP Qi1 (by have q:=Qcj.Wv a0 2 2 h21;rw [Zz c22] at q;exact q) (by kernel_rfl) (.cons (Qp _) (.cons (Qp _) (.cons (Qp _) .nil))) (by kernel_rfl) h)) hT) hT) hT) hT) hT) hT) hT) hT) hT) hT) hT) hT) hT) hT) hT) hT) hT) hT) hT) hT) hT) hT) hT) hT) ?_
   refine Xn hT 12 (K43 11110101111111110 1) [] ⟨102,[(2,.b false)],[]⟩ h0 ?_
   exact Jj5 false H
  replace H:=iF c20 H
  rw [eqF c20]
  refine Qh hT 3 (K43 1111 1) ⟨102,[],[.box 39 (Ya a0)]⟩ ?_
  refine Qh hT 4 (K43 11111 1) ⟨102,[(2,.b false)],[.box 39 (Ya a0)]⟩ ?_
  obtain rfl:=Yg H
  exact Yi hf hX h0 (.b false) [] an (.d (.v _))
 refine Qh hT 18 (K43 11100 4) ⟨102,(Yz.p0++[(3,.ptr 1 0 0 0),(8,.b (a0.Kind != 2))]),[.box 39 (Ya a0),.box 33 [.i 0,.i 0]]⟩ ?_
 by_cases c1:a0.Kind=2
 ·replace H:=iT c1 H
  rw [neF c1]
  refine Qh hT 10 (K43 11100 14) ⟨102,(Yz.p0++[(14,.b false),(18,.b (a0.Kind != 4))]),[.box 39 (Ya a0),.box 33 [.i 0,.i 0]]⟩ ?_
  by_cases c2:a0.Kind=4
  ·replace H:=iT c2 H
   rw [neF c2]
   refine Xn hT 6 (K43 1110 1) [0] ⟨102,(Yz.p0++[(23,.b false)]),[.box 39 (Ya a0)]⟩ h0 ?_
   exact Yn false H
  replace H:=iF c2 H
  rw [neT c2]
  refine Xn hT 6 (K43 1110 1) [0] ⟨102,(Yz.p0++[(23,.b (a0.Old != 0))]),[.box 39 (Ya a0)]⟩ h0 ?_
  exact Yn (a0.Old != 0) H
 replace H:=iF c1 H
 rw [neT c1]
 refine Qh hT 6 (K43 11100 10) ⟨102,(Yz.p0++[(14,.b (!((a0.Over.Lo == 0) && (a0.Over.Hi == 0))))]),[.box 39 (Ya a0),.box 33 [.i 0,.i 0]]⟩ ?_
 by_cases c3:a0.Over.Lo=0
 ·replace H:=iT c3 H
  rw [eqT c3]
  by_cases c4:a0.Over.Hi=0
  ·replace H:=iT c4 H
   rw [eqT c4]
   refine Qh hT 4 (K43 11100 14) ⟨102,(Yz.p0++[(14,.b false),(18,.b (a0.Kind != 4))]),[.box 39 (Ya a0),.box 33 [.i 0,.i 0]]⟩ ?_
   by_cases c5:a0.Kind=4
   ·replace H:=iT c5 H
    rw [neF c5]
    refine Xn hT 6 (K43 1110 1) [0] ⟨102,(Yz.p0++[(23,.b false)]),[.box 39 (Ya a0)]⟩ h0 ?_
    exact Yn false H
   replace H:=iF c5 H
   rw [neT c5]
   refine Xn hT 6 (K43 1110 1) [0] ⟨102,(Yz.p0++[(23,.b (a0.Old != 0))]),[.box 39 (Ya a0)]⟩ h0 ?_
   exact Yn (a0.Old != 0) H
  replace H:=iF c4 H
  rw [eqF c4]
  refine Xn hT 10 (K43 1110 1) [0] ⟨102,(Yz.p0++[(23,.b true)]),[.box 39 (Ya a0)]⟩ h0 ?_
  exact Yn true H
 replace H:=iF c3 H
 rw [eqF c3]
 by_cases c6:a0.Over.Hi=0
 ·replace H:=iT c6 H
  rw [eqT c6]
  refine Xn hT 10 (K43 1110 1) [0] ⟨102,(Yz.p0++[(23,.b true)]),[.box 39 (Ya a0)]⟩ h0 ?_
  exact Yn true H
 replace H:=iF c6 H
 rw [eqF c6]
 refine Xn hT 10 (K43 1110 1) [0] ⟨102,(Yz.p0++[(23,.b true)]),[.box 39 (Ya a0)]⟩ h0 ?_
 exact Yn true H
theorem Qbg.Wv (a0:Ql) {r:Bool} (H:Qbg a0=some r):Yy Tryz.prog 21 [] [.d (Qas a0)] [] (.b r):=by
 refine Yc Tryz.func21 rfl (nt:=25) rfl (lb rfl) fun X hP h0 hX=>?_
 have hT:Xo X.P T:=hP▸tok
 have hf:X.P.funcs[21]? = some Tryz.f21:=hP▸Tryz.func21
 have Yn:∀ (Qa8:Bool),(Qbg.j1 Qa8)=some r->AK X 21 ((K21 11 1)) (Yt X [] (.b r)) ⟨25,[(2,.b Qa8)],[]⟩:=by
  intro Qa8 H
  obtain rfl:=Yg H
  exact Yi hf hX h0 (.b Qa8) [] an (.d (.v _))
 refine Qh hT 11 (K21 110 4) ⟨25,[(1,.ptr 0 0 0 0),(6,.b (decide (a0.Client>=1)))],[.box 39 (Ya a0)]⟩ ?_
 by_cases c1:a0.Client>=1
 ·replace H:=iT c1 H
  rw [decide_eq_true c1]
  refine Qh hT 5 (K21 110 9) ⟨25,[(1,.ptr 0 0 0 0),(11,.b (decide (a0.Client<=1048576)))],[.box 39 (Ya a0)]⟩ ?_
  by_cases c2:a0.Client<=1048576
  ·replace H:=iT c2 H
   rw [decide_eq_true c2]
   refine Qh hT 5 (K21 110 14) ⟨25,[(1,.ptr 0 0 0 0),(16,.b (decide (a0.Seq>=1)))],[.box 39 (Ya a0)]⟩ ?_
   by_cases c3:a0.Seq>=1
   ·replace H:=iT c3 H
    rw [decide_eq_true c3]
    refine Qh hT 5 (K21 110 19) ⟨25,[(1,.ptr 0 0 0 0),(21,.b (decide (a0.Seq<=1073741824)))],[.box 39 (Ya a0)]⟩ ?_
    by_cases c4:a0.Seq<=1073741824
    ·replace H:=iT c4 H
     rw [decide_eq_true c4]
     refine Qh hT 1 (K21 110 20) ⟨25,[(21,.b true),(22,.d (Qas a0))],[.box 39 (Ya a0)]⟩ ?_
     obtain ⟨v1,h5,H⟩:=ibC H
     refine Ws (Yk:=[.d (Qas a0)]) (dst:=some 23) (k':=(K21 110 21)) [21,23] [] hP Wb5 (Yz.Wv a0 h5) (by kernel_rfl) (Qz _) (.cons (Qp _) .nil) (st':=⟨25,[(21,.b true),(23,.b v1)],[.box 39 (Ya a0)]⟩) (by kernel_rfl) ?_
     refine Xn hT 3 (K21 11 1) [] ⟨25,[(2,.b v1)],[]⟩ h0 ?_
     exact Yn v1 H
    replace H:=iF c4 H
    rw [decide_eq_false c4]
    refine Xn hT 5 (K21 11 1) [] ⟨25,[(2,.b false)],[]⟩ h0 ?_
    exact Yn false H
   replace H:=iF c3 H
   rw [decide_eq_false c3]
   refine Xn hT 10 (K21 11 1) [] ⟨25,[(2,.b false)],[]⟩ h0 ?_
   exact Yn false H
  replace H:=iF c2 H
  rw [decide_eq_false c2]
  refine Xn hT 15 (K21 11 1) [] ⟨25,[(2,.b false)],[]⟩ h0 ?_
  exact Yn false H
 replace H:=iF c1 H
 rw [decide_eq_false c1]
 refine Xn hT 20 (K21 11 1) [] ⟨25,[(2,.b false)],[]⟩ h0 ?_
 exact Yn false H
theorem Qi3.Wv (a0:Int) (a1:Ql):Yy Tryz.prog 46 [] [.i a0,.d (Qas a1)] [] (.d (Qms (Qi3 a0 a1))):=by
 obtain ⟨r,H⟩:∃ r,Qi3 a0 a1=r:=⟨_,rfl⟩
 rw [H]
 refine Yc Tryz.func46 rfl (nt:=11) rfl (lb rfl) fun X hP h0 hX=>?_
 have hT:Xo X.P T:=hP▸tok
 have hf:X.P.funcs[46]? = some Tryz.f46:=hP▸Tryz.func46
 refine Qh hT 15 (K46 11 1) ⟨11,[(4,.ptr 1 0 0 0)],[.box 39 (Ya a1),.box 78 [.i a0,.i a1.Client,.i a1.Seq]]⟩ ?_
 obtain rfl:=H
 exact Qdz hT hf hX (av:=.d (.agg [.i a0,.i a1.Client,.i a1.Seq])) (by kernel_rfl) [] (Jh (by kernel_rfl)) (by decide) (by rw [h0];rfl) (by kernel_rfl) an (.d (.agg (Qa9.nl _)))
theorem Qda.Wv (a0:Qd):Yy Tryz.prog 23 [] [.d (Qes a0)] [] (.d (Qms (Qda a0))):=by
 obtain ⟨r,H⟩:∃ r,Qda a0=r:=⟨_,rfl⟩
 rw [H]
 refine Yc Tryz.func23 rfl (nt:=8) rfl (lb rfl) fun X hP h0 hX=>?_
 have hT:Xo X.P T:=hP▸tok
 have hf:X.P.funcs[23]? = some Tryz.f23:=hP▸Tryz.func23
 refine Qh hT 11 (K23 110 4) ⟨8,[(2,.ptr 1 0 0 0),(4,.i a0.Time),(6,.d (Qas a0.M))],[.box 41 (Qb0 a0),.box 78 [.i 0,.i 0,.i 0]]⟩ ?_
 refine Ws (Yk:=[.i a0.Time,.d (Qas a0.M)]) (dst:=some 7) (k':=(K23 110 5)) [2,7] [] hP Wb7 (Qi3.Wv a0.Time a0.M) (by kernel_rfl) (Qz _) (.cons (Qp _) (.cons (Qp _) .nil)) (st':=⟨8,[(2,.ptr 1 0 0 0),(7,.d (Qms (Qi3 a0.Time a0.M)))],[.box 41 (Qb0 a0),.box 78 [.i 0,.i 0,.i 0]]⟩) (by kernel_rfl) ?_
 obtain ⟨v1,h1,H⟩:=idC H
 rw [<- h1]
 refine Qh hT 2 (K23 11 1) ⟨8,[(2,.ptr 1 0 0 0)],[.box 41 (Qb0 a0),.box 78 (Qir v1)]⟩ ?_
 obtain rfl:=H
 exact Qdz hT hf hX (av:=.d (Qms v1)) (by kernel_rfl) [] (Jh (by kernel_rfl)) (by decide) (by rw [h0];rfl) (by kernel_rfl) an (.d (.agg (Qa9.nl _)))
theorem cmp_isNaN_int.Wv (a0:Int):Yy Tryz.prog 75 [] [.i a0] [] (.b (cmp_isNaN_int a0)):=by
 obtain ⟨r,H⟩:∃ r,cmp_isNaN_int a0=r:=⟨_,rfl⟩
 rw [H]
 refine Yc Tryz.func75 rfl (nt:=6) rfl (lb rfl) fun X hP h0 hX=>?_
 have hT:Xo X.P T:=hP▸tok
 have hf:X.P.funcs[75]? = some Tryz.f75:=hP▸Tryz.func75
 refine Qh hT 11 (K75 11 1) ⟨6,[(2,.b (a0 != a0))],[]⟩ ?_
 obtain rfl:=H
 exact Yi hf hX h0 (.b (a0 != a0)) [] an (.d (.v _))
theorem Zc.Wv (a0:Int) (a1:Int):Yy Tryz.prog 45 [] [.i a0,.i a1] [] (.i (Zc a0 a1)):=by
 obtain ⟨r,H⟩:∃ r,Zc a0 a1=r:=⟨_,rfl⟩
 rw [H]
 refine Yc Tryz.func45 rfl (nt:=20) rfl (lb rfl) fun X hP h0 hX=>?_
 have hT:Xo X.P T:=hP▸tok
 have hf:X.P.funcs[45]? = some Tryz.f45:=hP▸Tryz.func45
 refine Qh hT 7 (K45 110 1) ⟨20,[(0,.i a0),(1,.i a1),(7,.i a0)],[]⟩ ?_
 refine Ws (Yk:=[.i a0]) (dst:=some 8) (k':=(K45 110 2)) [0,1,8] [] hP Qul (cmp_isNaN_int.Wv a0) (by kernel_rfl) (Qz _) (.cons (Qp _) .nil) (st':=⟨20,[(0,.i a0),(1,.i a1),(8,.b (cmp_isNaN_int a0))],[]⟩) (by kernel_rfl) ?_
 refine Qh hT 5 (K45 1110 1) ⟨20,[(0,.i a0),(1,.i a1),(5,.b (cmp_isNaN_int a0)),(9,.i a1)],[]⟩ ?_
 refine Ws (Yk:=[.i a1]) (dst:=some 10) (k':=(K45 1110 2)) [0,1,5,10] [] hP Qul (cmp_isNaN_int.Wv a1) (by kernel_rfl) (Qz _) (.cons (Qp _) .nil) (st':=⟨20,[(0,.i a0),(1,.i a1),(5,.b (cmp_isNaN_int a0)),(10,.b (cmp_isNaN_int a1))],[]⟩) (by kernel_rfl) ?_
 refine Qh hT 7 (K45 11110 1) ⟨20,[(0,.i a0),(1,.i a1),(6,.b (cmp_isNaN_int a1)),(11,.b (cmp_isNaN_int a0))],[]⟩ ?_
 by_cases c1:(cmp_isNaN_int a0)=true
 ·replace H:=iT c1 H
  rw [c1]
  refine Qh hT 6 (K45 11110100 1) ⟨20,[(12,.b (cmp_isNaN_int a1))],[]⟩ ?_
  by_cases c2:(cmp_isNaN_int a1)=true
  ·replace H:=iT c2 H
   rw [c2]
   refine Qh hT 5 (K45 1111010010 1) ⟨20,[(4,.i 0)],[]⟩ ?_
   obtain rfl:=H
   exact Yi hf hX h0 (.i 0) [] an (.d (.v _))
  replace H:=iF c2 H
  rw [Zz c2]
  refine Qh hT 2 (K45 1111010 1) ⟨20,[],[]⟩ ?_
  refine Qh hT 4 (K45 11110101 1) ⟨20,[(4,.i (-1))],[]⟩ ?_
  obtain rfl:=H
  exact Yi hf hX h0 (.i (-1)) [] an (.d (.v _))
 replace H:=iF c1 H
 rw [Zz c1]
 refine Qh hT 2 (K45 1111 1) ⟨20,[(0,.i a0),(1,.i a1),(6,.b (cmp_isNaN_int a1))],[]⟩ ?_
 refine Qh hT 5 (K45 111110 1) ⟨20,[(0,.i a0),(1,.i a1),(13,.b (cmp_isNaN_int a1))],[]⟩ ?_
 by_cases c3:(cmp_isNaN_int a1)=true
 ·replace H:=iT c3 H
  rw [c3]
  refine Qh hT 5 (K45 11111010 1) ⟨20,[(4,.i 1)],[]⟩ ?_
  obtain rfl:=H
  exact Yi hf hX h0 (.i 1) [] an (.d (.v _))
 replace H:=iF c3 H
 rw [Zz c3]
 refine Qh hT 2 (K45 11111 1) ⟨20,[(0,.i a0),(1,.i a1)],[]⟩ ?_
 refine Qh hT 7 (K45 1111110 1) ⟨20,[(0,.i a0),(1,.i a1),(16,.b (decide (a0 < a1)))],[]⟩ ?_
 by_cases c4:a0 < a1
 ·replace H:=iT c4 H
  rw [decide_eq_true c4]
  refine Qh hT 5 (K45 111111010 1) ⟨20,[(4,.i (-1))],[]⟩ ?_
  obtain rfl:=H
  exact Yi hf hX h0 (.i (-1)) [] an (.d (.v _))
 replace H:=iF c4 H
 rw [decide_eq_false c4]
 refine Qh hT 2 (K45 111111 1) ⟨20,[(0,.i a0),(1,.i a1)],[]⟩ ?_
 refine Qh hT 7 (K45 11111110 1) ⟨20,[(19,.b (decide (a0 > a1)))],[]⟩ ?_
 by_cases c5:a0 > a1
 ·replace H:=iT c5 H
  rw [decide_eq_true c5]
  refine Qh hT 5 (K45 1111111010 1) ⟨20,[(4,.i 1)],[]⟩ ?_
  obtain rfl:=H
  exact Yi hf hX h0 (.i 1) [] an (.d (.v _))
 replace H:=iF c5 H
 rw [decide_eq_false c5]
 refine Qh hT 2 (K45 1111111 1) ⟨20,[],[]⟩ ?_
 refine Qh hT 4 (K45 11111111 1) ⟨20,[(4,.i 0)],[]⟩ ?_
 obtain rfl:=H
 exact Yi hf hX h0 (.i 0) [] an (.d (.v _))
abbrev Qav.p0 (t0:Bool) (a0:List Int):List (Nat × AV):=[(3,.i 0),(6,.d (eL3 t0 a0)),(7,.i (a0.length:Int))]
theorem Qav.Wv {t0:Bool} (a0:List Int) {r:Int} (H:Qav a0=some r):Yy Tryz.prog 44 [] [.d (eL3 t0 a0)] [] (.i r):=by
 refine Yc Tryz.func44 rfl (nt:=18) rfl (lb rfl) fun X hP h0 hX=>?_
 have hT:Xo X.P T:=hP▸tok
 have hf:X.P.funcs[44]? = some Tryz.f44:=hP▸Tryz.func44
 refine Qh hT 17 (K44 111010 0) ⟨18,(Qav.p0 t0 a0++[(8,.i 0)]),[]⟩ ?_
 have L:∀ n,(∀ (Wi:Int),iter (Qav.step a0) n (.l1 Wi)=some r->AK X 44 ((K44 111010 0)) (Yt X [] (.i r)) ⟨18,(Qav.p0 t0 a0++[(8,.i Wi)]),[]⟩):=by
  intro n
  induction n with
  | zero=>exact fun _ H=>Qbd H
  | succ n ih=>
   ·intro Wi H
    refine Qh hT 5 (K44 11101001 0) ⟨18,(Qav.p0 t0 a0++[(8,.i Wi),(9,.b (decide (Wi < (a0.length:Int))))]),[]⟩ ?_
    by_cases c1:Wi < (a0.length:Int)
    ·replace H:=sT c1 H
     rw [decide_eq_true c1]
     refine Qh hT 2 (K44 11101001 1) ⟨18,(Qav.p0 t0 a0++[(8,.i Wi)]),[]⟩ ?_
     refine Qh hT 4 (K44 111010011000 0) ⟨18,(Qav.p0 t0 a0++[(8,.i Wi)]),[]⟩ ?_
     obtain ⟨h2,H⟩:=sC H
     refine Jf hT [3,6,7,8,10] (i:=Wi) (n:=(a0.length:Int)) h2.1 h2.2 (k':=(K44 111010011000 1)) (st':=⟨18,(Qav.p0 t0 a0++[(8,.i Wi),(10,.d (eP3 t0 a0 Wi.toNat 0))]),[]⟩) (by kernel_rfl) ?_
     refine Qh hT 9 (K44 111010011001 1) ⟨18,[(3,.i 0),(5,.i (a0.getD Wi.toNat 0)),(6,.d (eL3 t0 a0)),(7,.i (a0.length:Int)),(8,.i Wi),(14,.b ((a0.getD Wi.toNat 0) != 0))],[]⟩ ?_
     by_cases c3:(a0.getD Wi.toNat 0)=0
     ·replace H:=sT c3 H
      rw [neF c3]
      refine Qh hT 3 (K44 111010011 1) ⟨18,(Qav.p0 t0 a0++[(8,.i Wi)]),[]⟩ ?_
      refine Qh hT 5 (K44 111010 0) ⟨18,(Qav.p0 t0 a0++[(8,.i (IntKind.wrap .i64 (Wi+1)))]),[]⟩ ?_
      exact ih (IntKind.wrap .i64 (Wi+1)) H
     replace H:=sF c3 H
     rw [neT c3]
     refine Qh hT 6 (K44 11101001100110 1) ⟨18,[(2,.i (a0.getD Wi.toNat 0))],[]⟩ ?_
     obtain rfl:=Yg H
     exact Yi hf hX h0 (.i (a0.getD Wi.toNat 0)) [] an (.d (.v _))
    replace H:=sF c1 H
    rw [decide_eq_false c1]
    refine Qh hT 7 (K44 1111 1) ⟨18,[(2,.i 0)],[]⟩ ?_
    obtain rfl:=Yg H
    exact Yi hf hX h0 (.i 0) [] an (.d (.v _))
 obtain ⟨n,H⟩:=Qbz H
 exact (L n) 0 H
abbrev Qcz.q1 (a0:Qa9) (a1:Qa9):=([Zc a0.Time a1.Time,Zc a0.Client a1.Client,Zc a0.Seq a1.Seq]:List Int)
theorem Qcz.Wv (a0:Qa9) (a1:Qa9) {r:Int} (H:Qcz a0 a1=some r):Yy Tryz.prog 22 [] [.d (Qms a0),.d (Qms a1)] [] (.i r):=by
 refine Yc Tryz.func22 rfl (nt:=22) rfl (lb rfl) fun X hP h0 hX=>?_
 have hT:Xo X.P T:=hP▸tok
 have hf:X.P.funcs[22]? = some Tryz.f22:=hP▸Tryz.func22
 refine Qh hT 7 (K22 11 0) ⟨22,[(2,.ptr 0 0 0 0),(3,.ptr 1 0 0 0)],[.box 78 (Qir a0),.box 78 (Qir a1)]⟩ ?_
 refine Qax (hP▸mixed) 14 [2,3] (sm [.ptr 0 0 0 0,.i a0.Time,.ptr 1 0 0 0,.i a1.Time,.i (Zc a0.Time a1.Time),.ptr 0 0 0 1,.i a0.Client,.ptr 1 0 0 1,.i a1.Client,.i (Zc a0.Client a1.Client),.ptr 0 0 0 2,.i a0.Seq,.ptr 1 0 0 2,.i a1.Seq]) (Qg (Qg (Qg (Qg (Jn (Qg (Qg (Qg (Qg (Jn (Qg (Qg (Qg (Qg op0 hT) hT) hT) hT) (fun R rest h=>Ju (Yk:=[.i a0.Time,.i a1.Time]) (dst:=some 9) hP Qkl (Zc.Wv a0.Time a1.Time) (by kernel_rfl) (.cons (Qp _) (.cons (Qp _) .nil)) (by kernel_rfl) h)) hT) hT) hT) hT) (fun R rest h=>Ju (Yk:=[.i a0.Client,.i a1.Client]) (dst:=some 14) hP Qkl (Zc.Wv a0.Client a1.Client) (by kernel_rfl) (.cons (Qp _) (.cons (Qp _) .nil)) (by kernel_rfl) h)) hT) hT) hT) hT) ?_
 refine Qh hT 0 (K22 110 14) ⟨22,[(9,.i (Zc a0.Time a1.Time)),(14,.i (Zc a0.Client a1.Client)),(16,.i a0.Seq),(18,.i a1.Seq)],[.box 78 (Qir a0),.box 78 (Qir a1)]⟩ ?_
 refine Ws (Yk:=[.i a0.Seq,.i a1.Seq]) (dst:=some 19) (k':=(K22 110 15)) [9,14,19] [] hP Qkl (Zc.Wv a0.Seq a1.Seq) (by kernel_rfl) (Qz _) (.cons (Qp _) (.cons (Qp _) .nil)) (st':=⟨22,[(9,.i (Zc a0.Time a1.Time)),(14,.i (Zc a0.Client a1.Client)),(19,.i (Zc a0.Seq a1.Seq))],[.box 78 (Qir a0),.box 78 (Qir a1)]⟩) (by kernel_rfl) ?_
 refine Qh hT 1 (K22 110 16) ⟨22,[(20,.own 2 1 0 3)],[.box 78 (Qir a0),.box 78 (Qir a1),.flat false 1 3 3 (fun j=>[[.i (Zc a0.Time a1.Time)],[.i (Zc a0.Client a1.Client)],[.i (Zc a0.Seq a1.Seq)]].getD j [])]⟩ ?_
 refine Qhq 2 (kk:=1) (fz:=false) (ty:=3) (n:=(Qcz.q1 a0 a1).length) (vec (eI .i64) 0 (Qcz.q1 a0 a1)) (by kernel_rfl) Qha (st':=⟨22,[(20,.own 2 1 0 ((Qcz.q1 a0 a1).length))],[.box 78 (Qir a0),.box 78 (Qir a1),eR3 (Qcz.q1 a0 a1)]⟩) (by kernel_rfl) ?_
 obtain ⟨v1,h1,H⟩:=ibC H
 refine Ws (Yk:=[.own 2 1 0 ((Qcz.q1 a0 a1).length)]) (dst:=some 21) (k':=(K22 110 17)) [21] [] hP Wb6 (Qav.Wv (t0:=false) (Qcz.q1 a0 a1) h1) (by kernel_rfl) (Qz _) (.cons (.Qek (ty:=3) (by kernel_rfl) rfl) .nil) (st':=⟨22,[(21,.i v1)],[.box 78 (Qir a0),.box 78 (Qir a1),eR3 (Qcz.q1 a0 a1)]⟩) (by kernel_rfl) ?_
 refine Qh hT 2 (K22 11 1) ⟨22,[(4,.i v1)],[.box 78 (Qir a0),.box 78 (Qir a1),eR3 (Qcz.q1 a0 a1)]⟩ ?_
 obtain rfl:=Yg H
 exact Yi hf hX h0 (.i v1) [] an (.d (.v _))
abbrev Zb.p0 (t0:Bool) (a0:List Qd):List (Nat × AV):=[(0,.d (Xq t0 a0)),(5,.d (Xq t0 a0)),(6,.i (a0.length:Int))]
theorem Zb.Wv {t0:Bool} (a0:List Qd) {r:Bool} (H:Zb a0=some r):Yy Tryz.prog 6 [] [.d (Xq t0 a0)] [] (.b r):=by
 refine Yc Tryz.func6 rfl (nt:=33) rfl (lb rfl) fun X hP h0 hX=>?_
 have hT:Xo X.P T:=hP▸tok
 have hf:X.P.funcs[6]? = some Tryz.f6:=hP▸Tryz.func6
 refine Qh hT 13 (K6 11010 0) ⟨33,(Zb.p0 t0 a0++[(7,.i 0)]),[]⟩ ?_
 have L:∀ n,(∀ (Qq:Int),iter (Zb.step a0) n (.l1 Qq)=some r->AK X 6 ((K6 11010 0)) (Yt X [] (.b r)) ⟨33,(Zb.p0 t0 a0++[(7,.i Qq)]),[]⟩):=by
  intro n
  induction n with
  | zero=>exact fun _ H=>Qbd H
  | succ n ih=>
   ·intro Qq H
    refine Qh hT 5 (K6 1101001 0) ⟨33,(Zb.p0 t0 a0++[(7,.i Qq),(8,.b (decide (Qq < (a0.length:Int))))]),[]⟩ ?_
    by_cases c1:Qq < (a0.length:Int)
    ·replace H:=sT c1 H
     rw [decide_eq_true c1]
     refine Qh hT 2 (K6 1101001 1) ⟨33,(Zb.p0 t0 a0++[(7,.i Qq)]),[]⟩ ?_
     refine Qh hT 5 (K6 11010011000 1) ⟨33,(Zb.p0 t0 a0++[(7,.i Qq),(9,.i Qq)]),[]⟩ ?_
     obtain ⟨h2,H⟩:=sC H
     refine Jf hT [0,5,6,7,9,10] (i:=Qq) (n:=(a0.length:Int)) h2.1 h2.2 (k':=(K6 11010011000 2)) (st':=⟨33,(Zb.p0 t0 a0++[(7,.i Qq),(9,.i Qq),(10,.d (Qjx t0 a0 Qq.toNat 0))]),[]⟩) (by kernel_rfl) ?_
     refine Qh hT 6 (K6 11010011001 0) ⟨33,[(0,.d (Xq t0 a0)),(3,.i Qq),(4,.ptr 0 0 0 0),(5,.d (Xq t0 a0)),(6,.i (a0.length:Int)),(7,.i Qq)],[.box 41 (Qb0 (a0.getD Qq.toNat Qd.z))]⟩ ?_
     obtain ⟨v1,h3,H⟩:=sbC H
     have Yn:∀ (Qqp:Bool),stk (Zb.j1 Qq Qqp) (iter (Zb.step a0) n)=some r->AK X 6 ((K6 11010011001 1)) (Yt X [] (.b r)) ⟨33,(Zb.p0 t0 a0++[(7,.i Qq),(31,.b Qqp)]),[]⟩:=by
      intro Qqp H
      by_cases c8:Qqp=true
      ·replace H:=sT c8 H
       rw [c8]
       refine Qh hT 5 (K6 1101001100110 1) ⟨33,[(2,.b false)],[]⟩ ?_
       obtain rfl:=Yg H
       exact Yi hf hX h0 (.b false) [] an (.d (.v _))
      replace H:=sF c8 H
      rw [Zz c8]
      refine Qh hT 3 (K6 11010011 1) ⟨33,(Zb.p0 t0 a0++[(7,.i Qq)]),[]⟩ ?_
      refine Qh hT 5 (K6 11010 0) ⟨33,(Zb.p0 t0 a0++[(7,.i (IntKind.wrap .i64 (Qq+1)))]),[]⟩ ?_
      exact ih (IntKind.wrap .i64 (Qq+1)) H
     by_cases c4:v1=true
     ·replace H:=sT c4 H
      by_cases c5:Qq > 0
      ·replace H:=sT c5 H
       obtain ⟨h6,H⟩:=sC H
       obtain ⟨v2,h7,H⟩:=sbC H
       refine Qax (hP▸mixed) 20 [0,3,4,5,6,7] (sm [.ptr 0 0 0 0,.d (Qas ((a0.getD Qq.toNat Qd.z).M)),.b true,.b false,.b false,.i Qq,.b true,.b true,.d (Xq t0 a0),.i Qq,.i (IntKind.wrap .i64 (Qq - 1)),.d (Qjx t0 a0 ((IntKind.wrap .i64 (Qq - 1)).toNat) 0),.d (Qes (a0.getD ((IntKind.wrap .i64 (Qq - 1)).toNat) Qd.z)),.d (Qms (Qda (a0.getD ((IntKind.wrap .i64 (Qq - 1)).toNat) Qd.z))),.d (Qes (a0.getD Qq.toNat Qd.z)),.d (Qms (Qda (a0.getD Qq.toNat Qd.z))),.i v2,.b (decide (v2>=0)),.b (decide (v2>=0)),.b (decide (v2>=0))]) (Qg (Qg (Qg (Jn (Jn (Qg (Jn (Qg (Jn (Qg (Qg (Qg (Qg (opV (Qg (Qg (Qg (Jn (Qg (Qg op0 hT) hT) (fun R rest h=>Ju (Yk:=[.d (Qas ((a0.getD Qq.toNat Qd.z).M))]) (dst:=some 14) hP Qgs (by have q:=Qbg.Wv ((a0.getD Qq.toNat Qd.z).M) h3;rw [c4] at q;exact q) (by kernel_rfl) (.cons (Qp _) .nil) (by kernel_rfl) h)) hT) hT) hT) hT 18 (.b (decide (Qq > 0))) (.b true) (by rw [decide_eq_true c5]<;>rfl)) hT) hT) hT) hT) (fun R rest h=>Zd hT (i:=IntKind.wrap .i64 (Qq - 1)) (n:=(a0.length:Int)) h6.1 h6.2 (by kernel_rfl) h)) hT) (fun R rest h=>Ju (Yk:=[.d (Qes (a0.getD ((IntKind.wrap .i64 (Qq - 1)).toNat) Qd.z))]) (dst:=some 25) hP Qt6 (Qda.Wv (a0.getD ((IntKind.wrap .i64 (Qq - 1)).toNat) Qd.z)) (by kernel_rfl) (.cons (Qp _) .nil) (by kernel_rfl) h)) hT) (fun R rest h=>Ju (Yk:=[.d (Qes (a0.getD Qq.toNat Qd.z))]) (dst:=some 27) hP Qt6 (Qda.Wv (a0.getD Qq.toNat Qd.z)) (by kernel_rfl) (.cons (Qp _) .nil) (by kernel_rfl) h)) (fun R rest h=>Ju (Yk:=[.d (Qms (Qda (a0.getD ((IntKind.wrap .i64 (Qq - 1)).toNat) Qd.z))),.d (Qms (Qda (a0.getD Qq.toNat Qd.z)))]) (dst:=some 28) hP Wbx (Qcz.Wv (Qda (a0.getD ((IntKind.wrap .i64 (Qq - 1)).toNat) Qd.z)) (Qda (a0.getD Qq.toNat Qd.z)) h7) (by kernel_rfl) (.cons (Qp _) (.cons (Qp _) .nil)) (by kernel_rfl) h)) hT) hT) hT) ?_
       refine Xn hT 1 (K6 11010011001 1) [] ⟨33,(Zb.p0 t0 a0++[(7,.i Qq),(31,.b (decide (v2>=0)))]),[]⟩ h0 ?_
       exact Yn (decide (v2>=0)) H
      replace H:=sF c5 H
      refine Qax (hP▸mixed) 20 [0,3,4,5,6,7] (sm [.ptr 0 0 0 0,.d (Qas ((a0.getD Qq.toNat Qd.z).M)),.b true,.b false,.b false,.i Qq,.b false,.b false,.Qn [],.Qn [],.Qn [],.Qn [],.Qn [],.Qn [],.Qn [],.Qn [],.Qn [],.Qn [],.b false,.b false]) (Qg (Qg (Qg (Qg (Qg (Qg (Qg (Qg (Qg (Qg (Qg (Qg (Qg (opV (Qg (Qg (Qg (Jn (Qg (Qg op0 hT) hT) (fun R rest h=>Ju (Yk:=[.d (Qas ((a0.getD Qq.toNat Qd.z).M))]) (dst:=some 14) hP Qgs (by have q:=Qbg.Wv ((a0.getD Qq.toNat Qd.z).M) h3;rw [c4] at q;exact q) (by kernel_rfl) (.cons (Qp _) .nil) (by kernel_rfl) h)) hT) hT) hT) hT 18 (.b (decide (Qq > 0))) (.b false) (by rw [decide_eq_false c5]<;>rfl)) hT) hT) hT) hT) hT) hT) hT) hT) hT) hT) hT) hT) hT) ?_
      refine Xn hT 1 (K6 11010011001 1) [] ⟨33,(Zb.p0 t0 a0++[(7,.i Qq),(31,.b false)]),[]⟩ h0 ?_
      exact Yn false H
     replace H:=sF c4 H
     refine Qax (hP▸mixed) 20 [0,3,4,5,6,7] (sm [.ptr 0 0 0 0,.d (Qas ((a0.getD Qq.toNat Qd.z).M)),.b false,.b true,.b true,.Qn [],.Qn [],.Qn [],.Qn [],.Qn [],.Qn [],.Qn [],.Qn [],.Qn [],.Qn [],.Qn [],.Qn [],.Qn [],.Qn [],.b true]) (Qg (Qg (Qg (Qg (Qg (Qg (Qg (Qg (Qg (Qg (Qg (Qg (Qg (Qg (Qg (Qg (Qg (Jn (Qg (Qg op0 hT) hT) (fun R rest h=>Ju (Yk:=[.d (Qas ((a0.getD Qq.toNat Qd.z).M))]) (dst:=some 14) hP Qgs (by have q:=Qbg.Wv ((a0.getD Qq.toNat Qd.z).M) h3;rw [Zz c4] at q;exact q) (by kernel_rfl) (.cons (Qp _) .nil) (by kernel_rfl) h)) hT) hT) hT) hT) hT) hT) hT) hT) hT) hT) hT) hT) hT) hT) hT) hT) hT) ?_
     refine Xn hT 1 (K6 11010011001 1) [] ⟨33,(Zb.p0 t0 a0++[(7,.i Qq),(31,.b true)]),[]⟩ h0 ?_
     exact Yn true H
    replace H:=sF c1 H
    rw [decide_eq_false c1]
    refine Qh hT 6 (K6 111 1) ⟨33,[(2,.b true)],[]⟩ ?_
    obtain rfl:=Yg H
    exact Yi hf hX h0 (.b true) [] an (.d (.v _))
 obtain ⟨n,H⟩:=Qbz H
 exact (L n) 0 H
abbrev Yu.p0 (t0:Bool) (a0:List Qa) (t1:Bool) (a1:List Qa):List (Nat × AV):=[(0,.d (Xw t0 a0)),(1,.d (Xw t1 a1)),(12,.i (a0.length:Int))]
theorem Yu.Wv {t0:Bool} {t1:Bool} (a0:List Qa) (a1:List Qa) {r:Bool} (H:Yu a0 a1=some r):Yy Tryz.prog 115 [] [.d (Xw t0 a0),.d (Xw t1 a1)] [] (.b r):=by
 refine Yc Tryz.func115 rfl (nt:=26) rfl (lb rfl) fun X hP h0 hX=>?_
 have hT:Xo X.P T:=hP▸tok
 have hf:X.P.funcs[115]? = some Tryz.f115:=hP▸Tryz.func115
 refine Qh hT 13 (Qio 110 1) ⟨26,[(0,.d (Xw t0 a0)),(1,.d (Xw t1 a1)),(10,.b ((a0.length:Int) != (a1.length:Int)))],[]⟩ ?_
 by_cases c1:(a0.length:Int)=(a1.length:Int)
 ·replace H:=iT c1 H
  rw [neF c1]
  refine Qh hT 2 (Qio 11 1) ⟨26,[(0,.d (Xw t0 a0)),(1,.d (Xw t1 a1))],[]⟩ ?_
  refine Qh hT 9 (Qio 111010 0) ⟨26,(Yu.p0 t0 a0 t1 a1++[(13,.i 0)]),[]⟩ ?_
  have L:∀ n,(∀ (Zt:Int),iter (Yu.step a0 a1) n (.l1 Zt)=some r->AK X 115 ((Qio 111010 0)) (Yt X [] (.b r)) ⟨26,(Yu.p0 t0 a0 t1 a1++[(13,.i Zt)]),[]⟩):=by
   intro n
   induction n with
   | zero=>exact fun _ H=>Qbd H
   | succ n ih=>
    ·intro Zt H
     refine Qh hT 5 (Qio 11101001 0) ⟨26,(Yu.p0 t0 a0 t1 a1++[(13,.i Zt),(14,.b (decide (Zt < (a0.length:Int))))]),[]⟩ ?_
     by_cases c2:Zt < (a0.length:Int)
     ·replace H:=sT c2 H
      rw [decide_eq_true c2]
      refine Qh hT 2 (Qio 11101001 1) ⟨26,(Yu.p0 t0 a0 t1 a1++[(13,.i Zt)]),[]⟩ ?_
      refine Qh hT 8 (Qio 111010011001 0) ⟨26,[(0,.d (Xw t0 a0)),(1,.d (Xw t1 a1)),(5,.i Zt),(12,.i (a0.length:Int)),(13,.i Zt)],[]⟩ ?_
      obtain ⟨h3,H⟩:=sC H
      obtain ⟨h4,H⟩:=sC H
      refine Qax (hP▸mixed) 9 [0,1,5,12,13] (sm [.d (Xw t0 a0),.i Zt,.d (Qef t0 a0 Zt.toNat 0),.d (Qfr (a0.getD Zt.toNat Qa.z)),.d (Xw t1 a1),.i Zt,.d (Qef t1 a1 Zt.toNat 0),.d (Qfr (a1.getD Zt.toNat Qa.z)),.b (!((((a0.getD Zt.toNat Qa.z).Key) == ((a1.getD Zt.toNat Qa.z).Key)) && (((a0.getD Zt.toNat Qa.z).Val) == ((a1.getD Zt.toNat Qa.z).Val))))]) (Qg (Qg (Jn (Qg (Qg (Qg (Jn (Qg (Qg op0 hT) hT) (fun R rest h=>Zd hT (i:=Zt) (n:=(a0.length:Int)) h3.1 h3.2 (by kernel_rfl) h)) hT) hT) hT) (fun R rest h=>Zd hT (i:=Zt) (n:=(a1.length:Int)) h4.1 h4.2 (by kernel_rfl) h)) hT) hT) ?_
      refine Qh hT 1 (Qio 111010011001 1) ⟨26,(Yu.p0 t0 a0 t1 a1++[(13,.i Zt),(24,.b (!((((a0.getD Zt.toNat Qa.z).Key) == ((a1.getD Zt.toNat Qa.z).Key)) && (((a0.getD Zt.toNat Qa.z).Val) == ((a1.getD Zt.toNat Qa.z).Val)))))]),[]⟩ ?_
      by_cases c5:((a0.getD Zt.toNat Qa.z).Key)=((a1.getD Zt.toNat Qa.z).Key)
      ·replace H:=sT c5 H
       rw [eqT c5]
       by_cases c6:((a0.getD Zt.toNat Qa.z).Val)=((a1.getD Zt.toNat Qa.z).Val)
       ·replace H:=sT c6 H
        rw [eqT c6]
        refine Qh hT 3 (Qio 111010011 1) ⟨26,(Yu.p0 t0 a0 t1 a1++[(13,.i Zt)]),[]⟩ ?_
        refine Qh hT 5 (Qio 111010 0) ⟨26,(Yu.p0 t0 a0 t1 a1++[(13,.i (IntKind.wrap .i64 (Zt+1)))]),[]⟩ ?_
        exact ih (IntKind.wrap .i64 (Zt+1)) H
       replace H:=sF c6 H
       rw [eqF c6]
       refine Qh hT 5 (Qio 11101001100110 1) ⟨26,[(4,.b false)],[]⟩ ?_
       obtain rfl:=Yg H
       exact Yi hf hX h0 (.b false) [] an (.d (.v _))
      replace H:=sF c5 H
      rw [eqF c5]
      by_cases c7:((a0.getD Zt.toNat Qa.z).Val)=((a1.getD Zt.toNat Qa.z).Val)
      ·replace H:=sT c7 H
       rw [eqT c7]
       refine Qh hT 5 (Qio 11101001100110 1) ⟨26,[(4,.b false)],[]⟩ ?_
       obtain rfl:=Yg H
       exact Yi hf hX h0 (.b false) [] an (.d (.v _))
      replace H:=sF c7 H
      rw [eqF c7]
      refine Qh hT 5 (Qio 11101001100110 1) ⟨26,[(4,.b false)],[]⟩ ?_
      obtain rfl:=Yg H
      exact Yi hf hX h0 (.b false) [] an (.d (.v _))
     replace H:=sF c2 H
     rw [decide_eq_false c2]
     refine Qh hT 6 (Qio 1111 1) ⟨26,[(4,.b true)],[]⟩ ?_
     obtain rfl:=Yg H
     exact Yi hf hX h0 (.b true) [] an (.d (.v _))
  obtain ⟨n,H⟩:=Qbz H
  exact (L n) 0 H
 replace H:=iF c1 H
 rw [neT c1]
 refine Qh hT 5 (Qio 11010 1) ⟨26,[(4,.b false)],[]⟩ ?_
 obtain rfl:=Yg H
 exact Yi hf hX h0 (.b false) [] an (.d (.v _))
abbrev Qcn.p0:List (Nat × AV):=[(2,.ptr 0 0 0 0),(3,.ptr 1 0 0 0)]
theorem Qcn.Wv (a0:Ql) (a1:Ql) {r:Bool} (H:Qcn a0 a1=some r):Yy Tryz.prog 98 [] [.d (Qas a0),.d (Qas a1)] [] (.b r):=by
 refine Yc Tryz.func98 rfl (nt:=45) rfl (lb rfl) fun X hP h0 hX=>?_
 have hT:Xo X.P T:=hP▸tok
 have hf:X.P.funcs[98]? = some Tryz.f98:=hP▸Tryz.func98
 have Yn:∀ (Qc9:Bool),(Qcn.j1 Qc9)=some r->AK X 98 ((K98 11 1)) (Yt X [] (.b r)) ⟨45,[(4,.b Qc9)],[]⟩:=by
  intro Qc9 H
  obtain rfl:=Yg H
  exact Yi hf hX h0 (.b Qc9) [] an (.d (.v _))
 refine Qh hT 14 (K98 110 6) ⟨45,(Qcn.p0++[(10,.b (a0.Client == a1.Client))]),[.box 39 (Ya a0),.box 39 (Ya a1)]⟩ ?_
 by_cases c1:a0.Client=a1.Client
 ·replace H:=iT c1 H
  rw [eqT c1]
  refine Qh hT 7 (K98 110 13) ⟨45,(Qcn.p0++[(17,.b (a0.Seq == a1.Seq))]),[.box 39 (Ya a0),.box 39 (Ya a1)]⟩ ?_
  by_cases c2:a0.Seq=a1.Seq
  ·replace H:=iT c2 H
   rw [eqT c2]
   refine Qh hT 7 (K98 110 20) ⟨45,(Qcn.p0++[(24,.b (a0.Kind == a1.Kind))]),[.box 39 (Ya a0),.box 39 (Ya a1)]⟩ ?_
   by_cases c3:a0.Kind=a1.Kind
   ·replace H:=iT c3 H
    rw [eqT c3]
    refine Qh hT 7 (K98 110 27) ⟨45,(Qcn.p0++[(31,.b ((a0.Over.Lo == a1.Over.Lo) && (a0.Over.Hi == a1.Over.Hi)))]),[.box 39 (Ya a0),.box 39 (Ya a1)]⟩ ?_
    by_cases c4:a0.Over.Lo=a1.Over.Lo
    ·replace H:=iT c4 H
     rw [eqT c4]
     by_cases c5:a0.Over.Hi=a1.Over.Hi
     ·replace H:=iT c5 H
      rw [eqT c5]
      refine Qh hT 7 (K98 110 34) ⟨45,(Qcn.p0++[(38,.b (a0.Old == a1.Old))]),[.box 39 (Ya a0),.box 39 (Ya a1)]⟩ ?_
      by_cases c6:a0.Old=a1.Old
      ·replace H:=iT c6 H
       rw [eqT c6]
       refine Qh hT 4 (K98 110 38) ⟨45,[(38,.b true),(40,.d (Xw true a0.Pairs)),(42,.d (Xw true a1.Pairs))],[.box 39 (Ya a0),.box 39 (Ya a1)]⟩ ?_
       obtain ⟨v1,h7,H⟩:=ibC H
       refine Ws (Yk:=[.d (Xw true a0.Pairs),.d (Xw true a1.Pairs)]) (dst:=some 43) (k':=(K98 110 39)) [38,43] [] hP Qzx (Yu.Wv (t0:=true) (t1:=true) a0.Pairs a1.Pairs h7) (by kernel_rfl) (Qz _) (.cons (Qp _) (.cons (Qp _) .nil)) (st':=⟨45,[(38,.b true),(43,.b v1)],[.box 39 (Ya a0),.box 39 (Ya a1)]⟩) (by kernel_rfl) ?_
       refine Xn hT 3 (K98 11 1) [] ⟨45,[(4,.b v1)],[]⟩ h0 ?_
       exact Yn v1 H
      replace H:=iF c6 H
      rw [eqF c6]
      refine Xn hT 8 (K98 11 1) [] ⟨45,[(4,.b false)],[]⟩ h0 ?_
      exact Yn false H
     replace H:=iF c5 H
     rw [eqF c5]
     refine Xn hT 15 (K98 11 1) [] ⟨45,[(4,.b false)],[]⟩ h0 ?_
     exact Yn false H
    replace H:=iF c4 H
    rw [eqF c4]
    by_cases c8:a0.Over.Hi=a1.Over.Hi
    ·replace H:=iT c8 H
     rw [eqT c8]
     refine Xn hT 15 (K98 11 1) [] ⟨45,[(4,.b false)],[]⟩ h0 ?_
     exact Yn false H
    replace H:=iF c8 H
    rw [eqF c8]
    refine Xn hT 15 (K98 11 1) [] ⟨45,[(4,.b false)],[]⟩ h0 ?_
    exact Yn false H
   replace H:=iF c3 H
   rw [eqF c3]
   refine Xn hT 22 (K98 11 1) [] ⟨45,[(4,.b false)],[]⟩ h0 ?_
   exact Yn false H
  replace H:=iF c2 H
  rw [eqF c2]
  refine Xn hT 29 (K98 11 1) [] ⟨45,[(4,.b false)],[]⟩ h0 ?_
  exact Yn false H
 replace H:=iF c1 H
 rw [eqF c1]
 refine Xn hT 36 (K98 11 1) [] ⟨45,[(4,.b false)],[]⟩ h0 ?_
 exact Yn false H
theorem Qdg.Wv (a0:Yv):Yy Tryz.prog 99 [] [.d (Qht a0)] [] (.b (Qdg a0)):=by
 obtain ⟨r,H⟩:∃ r,Qdg a0=r:=⟨_,rfl⟩
 rw [H]
 refine Yc Tryz.func99 rfl (nt:=17) rfl (lb rfl) fun X hP h0 hX=>?_
 have hT:Xo X.P T:=hP▸tok
 have hf:X.P.funcs[99]? = some Tryz.f99:=hP▸Tryz.func99
 refine Qh hT 12 (K99 110 1) ⟨17,[(1,.ptr 0 0 0 0),(5,.b (!a0.Some))],[.box 36 (Qzk a0)]⟩ ?_
 by_cases c1:a0.Some=true
 ·replace H:=iT c1 H
  have Yn:∀ (Qa8:Bool),(Qdg.j1 Qa8)=r->AK X 99 ((K99 111 1)) (Yt X [] (.b r)) ⟨17,[(2,.b Qa8)],[]⟩:=by
   intro Qa8 H
   obtain rfl:=H
   exact Yi hf hX h0 (.b Qa8) [] an (.d (.v _))
  rw [c1]
  refine Qh hT 2 (K99 11 1) ⟨17,[(1,.ptr 0 0 0 0)],[.box 36 (Qzk a0)]⟩ ?_
  refine Qh hT 6 (K99 1110 4) ⟨17,[(1,.ptr 0 0 0 0),(12,.b (decide (a0.Val>=(-1099511627776))))],[.box 36 (Qzk a0)]⟩ ?_
  by_cases c2:a0.Val>=(-1099511627776)
  ·replace H:=iT c2 H
   rw [decide_eq_true c2]
   refine Xn hT 6 (K99 111 1) [] ⟨17,[(2,.b (decide (a0.Val<=1099511627776)))],[]⟩ h0 ?_
   exact Yn (decide (a0.Val<=1099511627776)) H
  replace H:=iF c2 H
  rw [decide_eq_false c2]
  refine Xn hT 6 (K99 111 1) [] ⟨17,[(2,.b false)],[]⟩ h0 ?_
  exact Yn false H
 replace H:=iF c1 H
 rw [Zz c1]
 refine Qh hT 8 (K99 11010 1) ⟨17,[(2,.b (a0.Val == 0))],[.box 36 (Qzk a0)]⟩ ?_
 obtain rfl:=H
 exact Yi hf hX h0 (.b (a0.Val == 0)) [] an (.d (.v _))
abbrev Ze.p0:List (Nat × AV):=[(1,.ptr 0 0 0 0)]
theorem Ze.Wv (a0:Qy) {r:Bool} (H:Ze a0=some r):Yy Tryz.prog 76 [] [.d (Qrj a0)] [] (.b r):=by
 refine Yc Tryz.func76 rfl (nt:=70) rfl (lb rfl) fun X hP h0 hX=>?_
 have hT:Xo X.P T:=hP▸tok
 have hf:X.P.funcs[76]? = some Tryz.f76:=hP▸Tryz.func76
 refine Qh hT 17 (K76 11010 1) ⟨70,(Ze.p0++[(4,.i a0.Kind),(5,.b (a0.Kind == 1))]),[.box 74 (Qa4 a0)]⟩ ?_
 by_cases c1:a0.Kind=1
 ·replace H:=iT c1 H
  rw [eqT c1]
  refine Qh hT 5 (K76 11010100 2) ⟨70,(Ze.p0++[(8,.d (Qas a0.M))]),[.box 74 (Qa4 a0)]⟩ ?_
  obtain ⟨v1,h2,H⟩:=ibC H
  have Yn:∀ (Qa8:Bool),(Ze.j1 Qa8)=some r->AK X 76 ((K76 1101010 1)) (Yt X [] (.b r)) ⟨70,[(2,.b Qa8)],[]⟩:=by
   intro Qa8 H
   obtain rfl:=Yg H
   exact Yi hf hX h0 (.b Qa8) [] an (.d (.v _))
  refine Ws (Yk:=[.d (Qas a0.M)]) (dst:=some 9) (k':=(K76 11010100 3)) [1,9] [] hP Qgs (Qbg.Wv a0.M h2) (by kernel_rfl) (Qz _) (.cons (Qp _) .nil) (st':=⟨70,(Ze.p0++[(9,.b v1)]),[.box 74 (Qa4 a0)]⟩) (by kernel_rfl) ?_
  refine Qh hT 1 (K76 11010100 4) ⟨70,(Ze.p0++[(10,.b v1)]),[.box 74 (Qa4 a0)]⟩ ?_
  by_cases c3:v1=true
  ·replace H:=iT c3 H
   rw [c3]
   refine Qh hT 8 (K76 11010100 12) ⟨70,(Ze.p0++[(18,.b (a0.M.Client == a0.Client))]),[.box 74 (Qa4 a0)]⟩ ?_
   by_cases c4:a0.M.Client=a0.Client
   ·replace H:=iT c4 H
    rw [eqT c4]
    refine Qh hT 5 (K76 11010100 17) ⟨70,(Ze.p0++[(23,.b (a0.Key == 0))]),[.box 74 (Qa4 a0)]⟩ ?_
    by_cases c5:a0.Key=0
    ·replace H:=iT c5 H
     rw [eqT c5]
     refine Qh hT 6 (K76 11010100 23) ⟨70,(Ze.p0++[(29,.b ((a0.Cell.Val == 0) && (a0.Cell.Some == false)))]),[.box 74 (Qa4 a0)]⟩ ?_
     by_cases c6:a0.Cell.Val=0
     ·replace H:=iT c6 H
      rw [eqT c6]
      by_cases c7:a0.Cell.Some=true
      ·replace H:=iT c7 H
       rw [c7]
       refine Xn hT 6 (K76 1101010 1) [] ⟨70,[(2,.b false)],[]⟩ h0 ?_
       exact Yn false H
      replace H:=iF c7 H
      rw [Zz c7]
      refine Xn hT 6 (K76 1101010 1) [] ⟨70,[(2,.b (a0.Mark == 0))],[]⟩ h0 ?_
      exact Yn (a0.Mark == 0) H
     replace H:=iF c6 H
     rw [eqF c6]
     by_cases c8:a0.Cell.Some=true
     ·replace H:=iT c8 H
      rw [c8]
      refine Xn hT 6 (K76 1101010 1) [] ⟨70,[(2,.b false)],[]⟩ h0 ?_
      exact Yn false H
     replace H:=iF c8 H
     rw [Zz c8]
     refine Xn hT 6 (K76 1101010 1) [] ⟨70,[(2,.b false)],[]⟩ h0 ?_
     exact Yn false H
    replace H:=iF c5 H
    rw [eqF c5]
    refine Xn hT 12 (K76 1101010 1) [] ⟨70,[(2,.b false)],[]⟩ h0 ?_
    exact Yn false H
   replace H:=iF c4 H
   rw [eqF c4]
   refine Xn hT 17 (K76 1101010 1) [] ⟨70,[(2,.b false)],[]⟩ h0 ?_
   exact Yn false H
  replace H:=iF c3 H
  rw [Zz c3]
  refine Xn hT 25 (K76 1101010 1) [] ⟨70,[(2,.b false)],[]⟩ h0 ?_
  exact Yn false H
 replace H:=iF c1 H
 rw [eqF c1]
 refine Qh hT 6 (K76 1101011 1) ⟨70,(Ze.p0++[(34,.b (a0.Kind == 2))]),[.box 74 (Qa4 a0)]⟩ ?_
 by_cases c9:a0.Kind=2
 ·replace H:=iT c9 H
  rw [eqT c9]
  refine Qh hT 6 (K76 1101011100 3) ⟨70,(Ze.p0++[(37,.d (Qas a0.M)),(38,.d (.agg [.i 0,.i 0,.i 0,.ns,.i 0,.i 0,.i 0]))]),[.box 74 (Qa4 a0)]⟩ ?_
  obtain ⟨v2,h10,H⟩:=ibC H
  have Jj2:∀ (Qhb:Bool),(Ze.j2 Qhb)=some r->AK X 76 ((K76 110101110 1)) (Yt X [] (.b r)) ⟨70,[(2,.b Qhb)],[]⟩:=by
   intro Qhb H
   obtain rfl:=Yg H
   exact Yi hf hX h0 (.b Qhb) [] an (.d (.v _))
  refine Ws (Yk:=[.d (Qas a0.M),.d (.agg [.i 0,.i 0,.i 0,.ns,.i 0,.i 0,.i 0])]) (dst:=some 39) (k':=(K76 1101011100 4)) [1,39] [] hP Wc0 (Qcn.Wv a0.M (⟨0,0,0,[],(⟨0,0⟩:Qb),0⟩:Ql) h10) (by kernel_rfl) (Qz _) (.cons (Qp _) (.cons (.Qrg (.cons (Qp _) (.cons (Qp _) (.cons (Qp _) (.cons (.nil _ _) (.cons (Qp _) (.cons (Qp _) (.cons (Qp _) .nil)))))))) .nil)) (st':=⟨70,(Ze.p0++[(39,.b v2)]),[.box 74 (Qa4 a0)]⟩) (by kernel_rfl) ?_
  refine Qh hT 1 (K76 1101011100 5) ⟨70,(Ze.p0++[(40,.b v2)]),[.box 74 (Qa4 a0)]⟩ ?_
  by_cases c11:v2=true
  ·replace H:=iT c11 H
   rw [c11]
   refine Qh hT 5 (K76 1101011100 10) ⟨70,(Ze.p0++[(45,.b (decide (a0.Client>=1)))]),[.box 74 (Qa4 a0)]⟩ ?_
   by_cases c12:a0.Client>=1
   ·replace H:=iT c12 H
    rw [decide_eq_true c12]
    refine Qh hT 5 (K76 1101011100 15) ⟨70,(Ze.p0++[(50,.b (decide (a0.Client<=1048576)))]),[.box 74 (Qa4 a0)]⟩ ?_
    by_cases c13:a0.Client<=1048576
    ·replace H:=iT c13 H
     rw [decide_eq_true c13]
     refine Qh hT 5 (K76 1101011100 20) ⟨70,(Ze.p0++[(55,.b (decide (a0.Key>=0)))]),[.box 74 (Qa4 a0)]⟩ ?_
     by_cases c14:a0.Key>=0
     ·replace H:=iT c14 H
      rw [decide_eq_true c14]
      refine Qh hT 5 (K76 1101011100 25) ⟨70,(Ze.p0++[(60,.b (decide (a0.Key < 4096)))]),[.box 74 (Qa4 a0)]⟩ ?_
      by_cases c15:a0.Key < 4096
      ·replace H:=iT c15 H
       rw [decide_eq_true c15]
       refine Qh hT 2 (K76 1101011100 27) ⟨70,(Ze.p0++[(60,.b true),(62,.d (Qht a0.Cell))]),[.box 74 (Qa4 a0)]⟩ ?_
       refine Ws (Yk:=[.d (Qht a0.Cell)]) (dst:=some 63) (k':=(K76 1101011100 28)) [1,60,63] [] hP Wc1 (Qdg.Wv a0.Cell) (by kernel_rfl) (Qz _) (.cons (Qp _) .nil) (st':=⟨70,(Ze.p0++[(60,.b true),(63,.b (Qdg a0.Cell))]),[.box 74 (Qa4 a0)]⟩) (by kernel_rfl) ?_
       refine Qh hT 2 (K76 1101011100 30) ⟨70,(Ze.p0++[(65,.b (Qdg a0.Cell))]),[.box 74 (Qa4 a0)]⟩ ?_
       by_cases c16:(Qdg a0.Cell)=true
       ·replace H:=iT c16 H
        rw [c16]
        refine Xn hT 6 (K76 110101110 1) [] ⟨70,[(2,.b (decide (a0.Mark>=0)))],[]⟩ h0 ?_
        exact Jj2 (decide (a0.Mark>=0)) H
       replace H:=iF c16 H
       rw [Zz c16]
       refine Xn hT 6 (K76 110101110 1) [] ⟨70,[(2,.b false)],[]⟩ h0 ?_
       exact Jj2 false H
      replace H:=iF c15 H
      rw [decide_eq_false c15]
      refine Xn hT 11 (K76 110101110 1) [] ⟨70,[(2,.b false)],[]⟩ h0 ?_
      exact Jj2 false H
     replace H:=iF c14 H
     rw [decide_eq_false c14]
     refine Xn hT 16 (K76 110101110 1) [] ⟨70,[(2,.b false)],[]⟩ h0 ?_
     exact Jj2 false H
    replace H:=iF c13 H
    rw [decide_eq_false c13]
    refine Xn hT 21 (K76 110101110 1) [] ⟨70,[(2,.b false)],[]⟩ h0 ?_
    exact Jj2 false H
   replace H:=iF c12 H
   rw [decide_eq_false c12]
   refine Xn hT 26 (K76 110101110 1) [] ⟨70,[(2,.b false)],[]⟩ h0 ?_
   exact Jj2 false H
  replace H:=iF c11 H
  rw [Zz c11]
  refine Xn hT 31 (K76 110101110 1) [] ⟨70,[(2,.b false)],[]⟩ h0 ?_
  exact Jj2 false H
 replace H:=iF c9 H
 rw [eqF c9]
 refine Qh hT 3 (K76 11 1) ⟨70,[],[.box 74 (Qa4 a0)]⟩ ?_
 refine Qh hT 4 (K76 111 1) ⟨70,[(2,.b false)],[.box 74 (Qa4 a0)]⟩ ?_
 obtain rfl:=Yg H
 exact Yi hf hX h0 (.b false) [] an (.d (.v _))
theorem Zg.Wv {t0:Bool} {Jc:FuncId} {Jk:List DV} (a0:List Qd) (p1:Qd->Option Bool) (he1:Sy.Enters Tryz.prog Jc) (hp1:∀ (z0:Qd) r,p1 z0=some r->Yy Tryz.prog Jc [] ([.d (Qes z0)] ++ List.map AV.d Jk) [] (.b r)) {r:Int} (H:Zg a0 p1=some r):Yy Tryz.prog 87 [] [.d (Xq t0 a0),.d (.fn Jc Jk)] [] (.i r):=by
 refine Yc Tryz.func87 rfl (nt:=19) rfl (lb rfl) fun X hP h0 hX=>?_
 have hT:Xo X.P T:=hP▸tok
 have hf:X.P.funcs[87]? = some Tryz.f87:=hP▸Tryz.func87
 refine Qh hT 13 (K87 11010 0) ⟨19,[(0,.d (Xq t0 a0)),(1,.d (.fn Jc Jk)),(7,.i (a0.length:Int)),(8,.i 0)],[]⟩ ?_
 have L:∀ n,(∀ (Wi:Int),iter (Zg.step a0 p1) n (.l1 Wi)=some r->AK X 87 ((K87 11010 0)) (Yt X [] (.i r)) ⟨19,[(0,.d (Xq t0 a0)),(1,.d (.fn Jc Jk)),(7,.i (a0.length:Int)),(8,.i Wi)],[]⟩):=by
  intro n
  induction n with
  | zero=>exact fun _ H=>Qbd H
  | succ n ih=>
   ·intro Wi H
    refine Qh hT 5 (K87 1101001 0) ⟨19,[(0,.d (Xq t0 a0)),(1,.d (.fn Jc Jk)),(7,.i (a0.length:Int)),(8,.i Wi),(9,.b (decide (Wi < (a0.length:Int))))],[]⟩ ?_
    by_cases c1:Wi < (a0.length:Int)
    ·replace H:=sT c1 H
     rw [decide_eq_true c1]
     refine Qh hT 2 (K87 1101001 1) ⟨19,[(0,.d (Xq t0 a0)),(1,.d (.fn Jc Jk)),(7,.i (a0.length:Int)),(8,.i Wi)],[]⟩ ?_
     refine Qh hT 12 (K87 110100110010 3) ⟨19,[(0,.d (Xq t0 a0)),(1,.d (.fn Jc Jk)),(5,.i Wi),(7,.i (a0.length:Int)),(8,.i Wi),(11,.d (.fn Jc Jk)),(12,.d (Xq t0 a0)),(13,.i Wi)],[]⟩ ?_
     obtain ⟨h2,H⟩:=sC H
     refine Jf hT [0,1,5,7,8,11,14] (i:=Wi) (n:=(a0.length:Int)) h2.1 h2.2 (k':=(K87 110100110010 4)) (st':=⟨19,[(0,.d (Xq t0 a0)),(1,.d (.fn Jc Jk)),(5,.i Wi),(7,.i (a0.length:Int)),(8,.i Wi),(11,.d (.fn Jc Jk)),(14,.d (Qjx t0 a0 Wi.toNat 0))],[]⟩) (by kernel_rfl) ?_
     refine Qh hT 1 (K87 110100110010 5) ⟨19,[(0,.d (Xq t0 a0)),(1,.d (.fn Jc Jk)),(5,.i Wi),(7,.i (a0.length:Int)),(8,.i Wi),(11,.d (.fn Jc Jk)),(15,.d (Qes (a0.getD Wi.toNat Qd.z)))],[]⟩ ?_
     obtain ⟨v1,h3,H⟩:=sbC H
     refine Ws (Yk:=[.d (Qes (a0.getD Wi.toNat Qd.z))] ++ List.map AV.d Jk) (dst:=some 16) (k':=(K87 110100110010 6)) [0,1,5,7,8,16] [] hP he1 (hp1 (a0.getD Wi.toNat Qd.z) v1 h3) (by kernel_rfl) (Qz _) (.cons (Qp _) (Qh1 _)) (st':=⟨19,[(0,.d (Xq t0 a0)),(1,.d (.fn Jc Jk)),(5,.i Wi),(7,.i (a0.length:Int)),(8,.i Wi),(16,.b v1)],[]⟩) (by kernel_rfl) ?_
     refine Qh hT 1 (K87 11010011001 1) ⟨19,[(0,.d (Xq t0 a0)),(1,.d (.fn Jc Jk)),(5,.i Wi),(7,.i (a0.length:Int)),(8,.i Wi),(16,.b v1)],[]⟩ ?_
     by_cases c4:v1=true
     ·replace H:=sT c4 H
      rw [c4]
      refine Qh hT 6 (K87 1101001100110 1) ⟨19,[(4,.i Wi)],[]⟩ ?_
      obtain rfl:=Yg H
      exact Yi hf hX h0 (.i Wi) [] an (.d (.v _))
     replace H:=sF c4 H
     rw [Zz c4]
     refine Qh hT 3 (K87 11010011 1) ⟨19,[(0,.d (Xq t0 a0)),(1,.d (.fn Jc Jk)),(7,.i (a0.length:Int)),(8,.i Wi)],[]⟩ ?_
     refine Qh hT 5 (K87 11010 0) ⟨19,[(0,.d (Xq t0 a0)),(1,.d (.fn Jc Jk)),(7,.i (a0.length:Int)),(8,.i (IntKind.wrap .i64 (Wi+1)))],[]⟩ ?_
     exact ih (IntKind.wrap .i64 (Wi+1)) H
    replace H:=sF c1 H
    rw [decide_eq_false c1]
    refine Qh hT 6 (K87 111 1) ⟨19,[(4,.i (-1))],[]⟩ ?_
    obtain rfl:=Yg H
    exact Yi hf hX h0 (.i (-1)) [] an (.d (.v _))
 obtain ⟨n,H⟩:=Qbz H
 exact (L n) 0 H
theorem Qay.Wv {t0:Bool} {Jc:FuncId} {Jk:List DV} (a0:List Qd) (p1:Qd->Option Bool) (he1:Sy.Enters Tryz.prog Jc) (hp1:∀ (z0:Qd) r,p1 z0=some r->Yy Tryz.prog Jc [] ([.d (Qes z0)] ++ List.map AV.d Jk) [] (.b r)) {r:Bool} (H:Qay a0 p1=some r):Yy Tryz.prog 60 [] [.d (Xq t0 a0),.d (.fn Jc Jk)] [] (.b r):=by
 refine Yc Tryz.func60 rfl (nt:=9) rfl (lb rfl) fun X hP h0 hX=>?_
 have hT:Xo X.P T:=hP▸tok
 have hf:X.P.funcs[60]? = some Tryz.f60:=hP▸Tryz.func60
 refine Qh hT 8 (K60 110 2) ⟨9,[(5,.d (Xq t0 a0)),(6,.d (.fn Jc Jk))],[]⟩ ?_
 obtain ⟨v1,h1,H⟩:=ibC H
 refine Ws (Yk:=[.d (Xq t0 a0),.d (.fn Jc Jk)]) (dst:=some 7) (k':=(K60 110 3)) [7] [] hP Wct (Zg.Wv (t0:=t0) (Jc:=Jc) (Jk:=Jk) a0 p1 he1 hp1 h1) (by kernel_rfl) (Qz _) (.cons (Qp _) (.cons (Qp _) .nil)) (st':=⟨9,[(7,.i v1)],[]⟩) (by kernel_rfl) ?_
 refine Qh hT 3 (K60 11 1) ⟨9,[(4,.b (decide (v1>=0)))],[]⟩ ?_
 obtain rfl:=Yg H
 exact Yi hf hX h0 (.b (decide (v1>=0))) [] an (.d (.v _))
theorem Qbs.Wv (a0:Qd) (k0:Ql) (k1:Int):Yy Tryz.prog 124 [] [.d (Qes a0),.d (.rop false 1 (fun _=>[.i k0.Client,.i k0.Seq,.i k0.Kind,Xw true k0.Pairs,.i k0.Over.Lo,.i k0.Over.Hi,.i k0.Old]) 0 0),.d (.rop false 1 (fun _=>[.i k1]) 0 0)] [] (.b (Qbs a0 k0 k1)):=by
 obtain ⟨r,H⟩:∃ r,Qbs a0 k0 k1=r:=⟨_,rfl⟩
 rw [H]
 refine Yc Tryz.func124 rfl (nt:=25) rfl (lb rfl) fun X hP h0 hX=>?_
 have hT:Xo X.P T:=hP▸tok
 have hf:X.P.funcs[124]? = some Tryz.f124:=hP▸Tryz.func124
 have Yn:∀ (Qc9:Bool),(Qbs.j1 Qc9)=r->AK X 124 ((Qs9 11 1)) (Yt X [] (.b r)) ⟨25,[(4,.b Qc9)],[]⟩:=by
  intro Qc9 H
  obtain rfl:=H
  exact Yi hf hX h0 (.b Qc9) [] an (.d (.v _))
 refine Qh hT 14 (Qs9 110 7) ⟨25,[(1,.d (.rop false 1 (fun _=>[.i k0.Client,.i k0.Seq,.i k0.Kind,Xw true k0.Pairs,.i k0.Over.Lo,.i k0.Over.Hi,.i k0.Old]) 0 0)),(2,.d (.rop false 1 (fun _=>[.i k1]) 0 0)),(3,.ptr 0 0 0 0),(11,.b (a0.M.Client == k0.Client))],[.box 41 (Qb0 a0)]⟩ ?_
 by_cases c1:a0.M.Client=k0.Client
 ·replace H:=iT c1 H
  rw [eqT c1]
  refine Qh hT 8 (Qs9 110 15) ⟨25,[(2,.d (.rop false 1 (fun _=>[.i k1]) 0 0)),(3,.ptr 0 0 0 0),(19,.b (a0.M.Seq == k0.Seq))],[.box 41 (Qb0 a0)]⟩ ?_
  by_cases c2:a0.M.Seq=k0.Seq
  ·replace H:=iT c2 H
   rw [eqT c2]
   refine Xn hT 7 (Qs9 11 1) [] ⟨25,[(4,.b (decide (a0.Time<=k1)))],[]⟩ h0 ?_
   exact Yn (decide (a0.Time<=k1)) H
  replace H:=iF c2 H
  rw [eqF c2]
  refine Xn hT 7 (Qs9 11 1) [] ⟨25,[(4,.b false)],[]⟩ h0 ?_
  exact Yn false H
 replace H:=iF c1 H
 rw [eqF c1]
 refine Xn hT 15 (Qs9 11 1) [] ⟨25,[(4,.b false)],[]⟩ h0 ?_
 exact Yn false H
theorem Qfm.Wv {t0:Bool} (a0:List Qd) (a1:Ql) (a2:Int) {r:Bool} (H:Qfm a0 a1 a2=some r):Yy Tryz.prog 118 [] [.d (Xq t0 a0),.d (Qas a1),.i a2] [] (.b r):=by
 refine Yc Tryz.func118 rfl (nt:=10) rfl (lb rfl) fun X hP h0 hX=>?_
 have hT:Xo X.P T:=hP▸tok
 have hf:X.P.funcs[118]? = some Tryz.f118:=hP▸Tryz.func118
 refine Qh hT 10 (Weq 110 2) ⟨10,[(7,.d (Xq t0 a0)),(8,.fn 124 [.ptr 0 0 0 0,.ptr 1 0 0 0])],[.box 39 (Ya a1),.box 3 [.i a2]]⟩ ?_
 obtain ⟨v1,h1,H⟩:=ibC H
 refine Ws (Yk:=[.d (Xq t0 a0),.fn 124 [.ptr 0 0 0 0,.ptr 1 0 0 0]]) (dst:=some 9) (k':=(Weq 110 3)) [9] [] hP Quf (Qay.Wv (t0:=t0) (Jc:=124) (Jk:=[.rop false 1 (fun _=>[.i a1.Client,.i a1.Seq,.i a1.Kind,Xw true a1.Pairs,.i a1.Over.Lo,.i a1.Over.Hi,.i a1.Old]) 0 0,.rop false 1 (fun _=>[.i a2]) 0 0]) a0 (fun z0=>some (Qbs z0 a1 a2)) Qz5 (fun z0 r h=>by obtain rfl:=Yg h;exact Qbs.Wv z0 a1 a2) h1) (by kernel_rfl) (Qz _) (.cons (Qp _) (.cons (.fn 124 (.cons (.look (ty:=39) (cs:=[.i a1.Client,.i a1.Seq,.i a1.Kind,Xw true a1.Pairs,.i a1.Over.Lo,.i a1.Over.Hi,.i a1.Old]) (by kernel_rfl) rfl) (.cons (.look (ty:=3) (cs:=[.i a2]) (by kernel_rfl) rfl) .nil))) .nil)) (st':=⟨10,[(9,.b v1)],[.box 39 (Ya a1),.box 3 [.i a2]]⟩) (by kernel_rfl) ?_
 refine Qh hT 2 (Weq 11 1) ⟨10,[(6,.b v1)],[.box 39 (Ya a1),.box 3 [.i a2]]⟩ ?_
 obtain rfl:=Yg H
 exact Yi hf hX h0 (.b v1) [] an (.d (.v _))
theorem Qem.Wv:Yy Tryz.prog 101 [] [] [Qap (Qem)] (.own 0 2 0 ((Qem).length)):=by
 obtain ⟨r,H⟩:∃ r,Qem=r:=⟨_,rfl⟩
 rw [H]
 refine Yc Tryz.func101 rfl (nt:=3) rfl (lb rfl) fun X hP h0 hX=>?_
 have hT:Xo X.P T:=hP▸tok
 have hf:X.P.funcs[101]? = some Tryz.f101:=hP▸Tryz.func101
 refine Qh hT 10 (Wjo 11 1) ⟨3,[(0,.own 0 2 0 1)],[.flat false 2 33 1 (fun j=>[[.i 0,.i 4096]].getD j [])]⟩ ?_
 refine Qhq 0 (kk:=2) (fz:=false) (ty:=33) (n:=([(⟨0,4096⟩:Qb)]:List Qb).length) (vec Qb.e Qb.z ([(⟨0,4096⟩:Qb)]:List Qb)) (by kernel_rfl) Qha (st':=⟨3,[(0,.own 0 2 0 (([(⟨0,4096⟩:Qb)]:List Qb).length))],[Qap ([(⟨0,4096⟩:Qb)]:List Qb)]⟩) (by kernel_rfl) ?_
 obtain rfl:=H
 exact Yi hf hX h0 (.own 0 2 0 (([(⟨0,4096⟩:Qb)]:List Qb).length)) [0] (ac (Qa1 Qb.nl) an) (.own _ _ _ _)
abbrev Xu.p0 (t0:Bool) (a0:List Qd) (a2:Int):List (Nat × AV):=[(0,.d (Xq t0 a0)),(2,.i a2)]
theorem Xu.Wv {t0:Bool} (a0:List Qd) (a1:Qft) (a2:Int) {r:List Ql} (H:Xu a0 a1 a2=some r):Yy Tryz.prog 102 [] [.d (Xq t0 a0),.d (.rop false 1 (fun _=>[Qb4 false a1.l,.i a1.mark]) 0 0),.i a2] [Qd7 r] (.own 0 7 0 r.length):=by
 refine Yc Tryz.func102 rfl (nt:=32) rfl (lb rfl) fun X hP h0 hX=>?_
 have hT:Xo X.P T:=hP▸tok
 have hf:X.P.funcs[102]? = some Tryz.f102:=hP▸Tryz.func102
 refine Qh hT 28 (Qid 1111010 0) ⟨32,(Xu.p0 t0 a0 a2++[(7,.ns),(15,.d (Qb4 false a1.l)),(16,.i (a1.l.length:Int)),(17,.i 0)]),[]⟩ ?_
 refine Qc6 [0,2,7,15,16,17] 7 7 39 (vec Ql.e Ql.z []) (st':=⟨32,(Xu.p0 t0 a0 a2++[(7,.own 0 7 0 0),(15,.d (Qb4 false a1.l)),(16,.i (a1.l.length:Int)),(17,.i 0)]),[Qd7 ([]:List Ql)]⟩) (by kernel_rfl) (by kernel_rfl) ?_
 have L:∀ n,(∀ (Zf:Int) (Qj:List Ql),iter (Xu.step a0 a1 a2) n (.l1 Zf Qj)=some r->AK X 102 ((Qid 1111010 0)) (Yt X [Qd7 r] (.own 0 7 0 r.length)) ⟨32,(Xu.p0 t0 a0 a2++[(7,.own 0 7 0 Qj.length),(15,.d (Qb4 false a1.l)),(16,.i (a1.l.length:Int)),(17,.i Zf)]),[Qd7 Qj]⟩):=by
  intro n
  induction n with
  | zero=>exact fun _ _ H=>Qbd H
  | succ n ih=>
   ·intro Zf Qj H
    refine Qh hT 5 (Qid 111101001 0) ⟨32,(Xu.p0 t0 a0 a2++[(7,.own 0 7 0 Qj.length),(15,.d (Qb4 false a1.l)),(16,.i (a1.l.length:Int)),(17,.i Zf),(18,.b (decide (Zf < (a1.l.length:Int))))]),[Qd7 Qj]⟩ ?_
    by_cases c1:Zf < (a1.l.length:Int)
    ·replace H:=sT c1 H
     rw [decide_eq_true c1]
     refine Qh hT 2 (Qid 111101001 1) ⟨32,(Xu.p0 t0 a0 a2++[(7,.own 0 7 0 Qj.length),(15,.d (Qb4 false a1.l)),(16,.i (a1.l.length:Int)),(17,.i Zf)]),[Qd7 Qj]⟩ ?_
     refine Qh hT 4 (Qid 1111010011000 0) ⟨32,(Xu.p0 t0 a0 a2++[(7,.own 0 7 0 Qj.length),(15,.d (Qb4 false a1.l)),(16,.i (a1.l.length:Int)),(17,.i Zf)]),[Qd7 Qj]⟩ ?_
     obtain ⟨h2,H⟩:=sC H
     refine Jf hT [0,2,7,15,16,17,19] (i:=Zf) (n:=(a1.l.length:Int)) h2.1 h2.2 (k':=(Qid 1111010011000 1)) (st':=⟨32,(Xu.p0 t0 a0 a2++[(7,.own 0 7 0 Qj.length),(15,.d (Qb4 false a1.l)),(16,.i (a1.l.length:Int)),(17,.i Zf),(19,.d (Wfa false a1.l Zf.toNat 0))]),[Qd7 Qj]⟩) (by kernel_rfl) ?_
     refine Qh hT 9 (Qid 11110100110010 3) ⟨32,(Xu.p0 t0 a0 a2++[(7,.own 0 7 0 Qj.length),(9,.ptr 1 0 0 0),(15,.d (Qb4 false a1.l)),(16,.i (a1.l.length:Int)),(17,.i Zf),(21,.d (Xq t0 a0)),(22,.d (Qas (a1.l.getD Zf.toNat Ql.z))),(23,.i a2)]),[Qd7 Qj,.box 39 (Ya (a1.l.getD Zf.toNat Ql.z))]⟩ ?_
     obtain ⟨v1,h3,H⟩:=sbC H
     have Yn:∀ (Qds:List Ql),stk (Xu.j1 Zf Qds) (iter (Xu.step a0 a1 a2) n)=some r->AK X 102 ((Qid 1111010011 1)) (Yt X [Qd7 r] (.own 0 7 0 r.length)) ⟨32,(Xu.p0 t0 a0 a2++[(7,.own 0 7 0 Qds.length),(15,.d (Qb4 false a1.l)),(16,.i (a1.l.length:Int)),(17,.i Zf)]),[Qd7 Qds]⟩:=by
      intro Qds H
      refine Qh hT 5 (Qid 1111010 0) ⟨32,(Xu.p0 t0 a0 a2++[(7,.own 0 7 0 Qds.length),(15,.d (Qb4 false a1.l)),(16,.i (a1.l.length:Int)),(17,.i (IntKind.wrap .i64 (Zf+1)))]),[Qd7 Qds]⟩ ?_
      exact ih (IntKind.wrap .i64 (Zf+1)) Qds H
     refine Ws (Yk:=[.d (Xq t0 a0),.d (Qas (a1.l.getD Zf.toNat Ql.z)),.i a2]) (dst:=some 24) (k':=(Qid 11110100110010 4)) [0,2,7,9,15,16,17,24] [] hP Qz0 (Qfm.Wv (t0:=t0) a0 (a1.l.getD Zf.toNat Ql.z) a2 h3) (by kernel_rfl) (Qz _) (.cons (Qp _) (.cons (Qp _) (.cons (Qp _) .nil))) (st':=⟨32,(Xu.p0 t0 a0 a2++[(7,.own 0 7 0 Qj.length),(9,.ptr 1 0 0 0),(15,.d (Qb4 false a1.l)),(16,.i (a1.l.length:Int)),(17,.i Zf),(24,.b v1)]),[Qd7 Qj,.box 39 (Ya (a1.l.getD Zf.toNat Ql.z))]⟩) (by kernel_rfl) ?_
     refine Qh hT 2 (Qid 1111010011001 1) ⟨32,(Xu.p0 t0 a0 a2++[(7,.own 0 7 0 Qj.length),(9,.ptr 1 0 0 0),(15,.d (Qb4 false a1.l)),(16,.i (a1.l.length:Int)),(17,.i Zf),(25,.b (!v1))]),[Qd7 Qj,.box 39 (Ya (a1.l.getD Zf.toNat Ql.z))]⟩ ?_
     by_cases c4:v1=true
     ·replace H:=sT c4 H
      rw [c4]
      refine Xn hT 3 (Qid 1111010011 1) [0] ⟨32,(Xu.p0 t0 a0 a2++[(7,.own 0 7 0 Qj.length),(15,.d (Qb4 false a1.l)),(16,.i (a1.l.length:Int)),(17,.i Zf)]),[Qd7 Qj]⟩ h0 ?_
      exact Yn Qj H
     replace H:=sF c4 H
     rw [Zz c4]
     refine Qh hT 5 (Qid 111101001100110 3) ⟨32,(Xu.p0 t0 a0 a2++[(15,.d (Qb4 false a1.l)),(16,.i (a1.l.length:Int)),(17,.i Zf),(26,.own 0 7 0 Qj.length),(28,.own 2 7 0 1)]),[Qd7 Qj,.box 39 (Ya (a1.l.getD Zf.toNat Ql.z)),.flat false 7 39 1 (fun j=>[Ql.e (a1.l.getD Zf.toNat Ql.z)].getD j [])]⟩ ?_
     obtain ⟨h5,H⟩:=sC H
     refine Qcw (id:=0) (kk:=7) (by':=72) (t:=169) (e:=39) (z:=[.int .i64 0,.int .i64 0,.int .i64 0,.slice none 0 0,.int .i64 0,.int .i64 0,.int .i64 0]) (dst:=some 29) (id2:=2) (e2:=39) (fz:=false) (k':=(Qid 111101001100110 4)) hT Ql.e Ql.z Qj (a1.l.getD Zf.toNat Ql.z) [0,2,15,16,17,29] (by kernel_rfl) (by kernel_rfl) (by kernel_rfl) (by kernel_rfl) (by kernel_rfl) (by kernel_rfl) (by kernel_rfl) h5 (by omega) (st':=⟨32,(Xu.p0 t0 a0 a2++[(15,.d (Qb4 false a1.l)),(16,.i (a1.l.length:Int)),(17,.i Zf),(29,.own 3 7 0 ((Qj ++ [(a1.l.getD Zf.toNat Ql.z)]).length))]),[.gone,.box 39 (Ya (a1.l.getD Zf.toNat Ql.z)),.flat false 7 39 1 (fun j=>[Ql.e (a1.l.getD Zf.toNat Ql.z)].getD j []),Qd7 (Qj ++ [(a1.l.getD Zf.toNat Ql.z)])]⟩) (by kernel_rfl) ?_
     refine Xn hT 3 (Qid 1111010011 1) [3] ⟨32,(Xu.p0 t0 a0 a2++[(7,.own 0 7 0 (Qj ++ [(a1.l.getD Zf.toNat Ql.z)]).length),(15,.d (Qb4 false a1.l)),(16,.i (a1.l.length:Int)),(17,.i Zf)]),[Qd7 (Qj ++ [(a1.l.getD Zf.toNat Ql.z)])]⟩ h0 ?_
     exact Yn (Qj ++ [(a1.l.getD Zf.toNat Ql.z)]) H
    replace H:=sF c1 H
    rw [decide_eq_false c1]
    refine Qh hT 7 (Qid 11111 1) ⟨32,[(6,.own 0 7 0 Qj.length)],[Qd7 Qj]⟩ ?_
    obtain rfl:=Yg H
    exact Yi hf hX h0 (.own 0 7 0 Qj.length) [0] (ac (Qa1 Ql.nl) an) (.own _ _ _ _)
 refine Qhm [0] ⟨32,(Xu.p0 t0 a0 a2++[(7,.own 0 7 0 ([]:List Ql).length),(15,.d (Qb4 false a1.l)),(16,.i (a1.l.length:Int)),(17,.i 0)]),[Qd7 ([]:List Ql)]⟩ h0 ?_
 obtain ⟨n,H⟩:=Qbz H
 exact (L n) 0 ([]:List Ql) H
abbrev Yw.p0 (t0:Bool) (a0:List Qb):List (Nat × AV):=[(0,.d (Xd t0 a0)),(5,.d (Xd t0 a0)),(6,.i (a0.length:Int))]
theorem Yw.Wv {t0:Bool} (a0:List Qb) {r:Bool} (H:Yw a0=some r):Yy Tryz.prog 29 [] [.d (Xd t0 a0)] [] (.b r):=by
 refine Yc Tryz.func29 rfl (nt:=34) rfl (lb rfl) fun X hP h0 hX=>?_
 have hT:Xo X.P T:=hP▸tok
 have hf:X.P.funcs[29]? = some Tryz.f29:=hP▸Tryz.func29
 refine Qh hT 13 (K29 11010 0) ⟨34,(Yw.p0 t0 a0++[(7,.i 0)]),[]⟩ ?_
 have L:∀ n,(∀ (Qq:Int),iter (Yw.step a0) n (.l1 Qq)=some r->AK X 29 ((K29 11010 0)) (Yt X [] (.b r)) ⟨34,(Yw.p0 t0 a0++[(7,.i Qq)]),[]⟩):=by
  intro n
  induction n with
  | zero=>exact fun _ H=>Qbd H
  | succ n ih=>
   ·intro Qq H
    refine Qh hT 5 (K29 1101001 0) ⟨34,(Yw.p0 t0 a0++[(7,.i Qq),(8,.b (decide (Qq < (a0.length:Int))))]),[]⟩ ?_
    by_cases c1:Qq < (a0.length:Int)
    ·replace H:=sT c1 H
     rw [decide_eq_true c1]
     refine Qh hT 2 (K29 1101001 1) ⟨34,(Yw.p0 t0 a0++[(7,.i Qq)]),[]⟩ ?_
     refine Qh hT 5 (K29 11010011000 1) ⟨34,(Yw.p0 t0 a0++[(7,.i Qq),(9,.i Qq)]),[]⟩ ?_
     obtain ⟨h2,H⟩:=sC H
     have Yn:∀ (Qqn:Bool),stk (Yw.j1 Qq Qqn) (iter (Yw.step a0) n)=some r->AK X 29 ((K29 11010011001 1)) (Yt X [] (.b r)) ⟨34,(Yw.p0 t0 a0++[(7,.i Qq),(29,.b Qqn)]),[]⟩:=by
      intro Qqn H
      by_cases c6:Qqn=true
      ·replace H:=sT c6 H
       rw [c6]
       refine Qh hT 5 (K29 1101001100110 1) ⟨34,[(2,.b false)],[]⟩ ?_
       obtain rfl:=Yg H
       exact Yi hf hX h0 (.b false) [] an (.d (.v _))
      replace H:=sF c6 H
      rw [Zz c6]
      refine Qh hT 3 (K29 11010011 1) ⟨34,(Yw.p0 t0 a0++[(7,.i Qq)]),[]⟩ ?_
      refine Qh hT 5 (K29 11010 0) ⟨34,(Yw.p0 t0 a0++[(7,.i (IntKind.wrap .i64 (Qq+1)))]),[]⟩ ?_
      exact ih (IntKind.wrap .i64 (Qq+1)) H
     refine Jf hT [0,5,6,7,9,10] (i:=Qq) (n:=(a0.length:Int)) h2.1 h2.2 (k':=(K29 11010011000 2)) (st':=⟨34,(Yw.p0 t0 a0++[(7,.i Qq),(9,.i Qq),(10,.d (Qth t0 a0 Qq.toNat 0))]),[]⟩) (by kernel_rfl) ?_
     refine Qh hT 6 (K29 11010011001 0) ⟨34,[(0,.d (Xd t0 a0)),(3,.i Qq),(4,.ptr 0 0 0 0),(5,.d (Xd t0 a0)),(6,.i (a0.length:Int)),(7,.i Qq)],[.box 33 (Qez (a0.getD Qq.toNat Qb.z))]⟩ ?_
     by_cases c3:(Qbj (a0.getD Qq.toNat Qb.z))=true
     ·replace H:=sT c3 H
      by_cases c4:Qq > 0
      ·replace H:=sT c4 H
       obtain ⟨h5,H⟩:=sC H
       refine Qax (hP▸mixed) 18 [0,3,4,5,6,7] (sm [.d (Qfg (a0.getD Qq.toNat Qb.z)),.b true,.b false,.b false,.i Qq,.b true,.b true,.ptr 0 0 0 0,.i ((a0.getD Qq.toNat Qb.z).Lo),.d (Xd t0 a0),.i Qq,.i (IntKind.wrap .i64 (Qq - 1)),.d (Qth t0 a0 ((IntKind.wrap .i64 (Qq - 1)).toNat) 0),.d (Qth t0 a0 ((IntKind.wrap .i64 (Qq - 1)).toNat) 1),.i ((a0.getD ((IntKind.wrap .i64 (Qq - 1)).toNat) Qb.z).Hi),.b (decide (((a0.getD Qq.toNat Qb.z).Lo)<=((a0.getD ((IntKind.wrap .i64 (Qq - 1)).toNat) Qb.z).Hi))),.b (decide (((a0.getD Qq.toNat Qb.z).Lo)<=((a0.getD ((IntKind.wrap .i64 (Qq - 1)).toNat) Qb.z).Hi))),.b (decide (((a0.getD Qq.toNat Qb.z).Lo)<=((a0.getD ((IntKind.wrap .i64 (Qq - 1)).toNat) Qb.z).Hi)))]) (Qg (Qg (Qg (Qg (Qg (Jn (Qg (Qg (Qg (Qg (Qg (Qg (opV (Qg (Qg (Qg (Jn (Qg op0 hT) (fun R rest h=>Ju (Yk:=[.d (Qfg (a0.getD Qq.toNat Qb.z))]) (dst:=some 13) hP Qi0 (by have q:=Qbj.Wv (a0.getD Qq.toNat Qb.z);rw [c3] at q;exact q) (by kernel_rfl) (.cons (Qp _) .nil) (by kernel_rfl) h)) hT) hT) hT) hT 17 (.b (decide (Qq > 0))) (.b true) (by rw [decide_eq_true c4]<;>rfl)) hT) hT) hT) hT) hT) hT) (fun R rest h=>Zd hT (i:=IntKind.wrap .i64 (Qq - 1)) (n:=(a0.length:Int)) h5.1 h5.2 (by kernel_rfl) h)) hT) hT) hT) hT) hT) ?_
       refine Xn hT 1 (K29 11010011001 1) [] ⟨34,(Yw.p0 t0 a0++[(7,.i Qq),(29,.b (decide (((a0.getD Qq.toNat Qb.z).Lo)<=((a0.getD ((IntKind.wrap .i64 (Qq - 1)).toNat) Qb.z).Hi))))]),[]⟩ h0 ?_
       exact Yn (decide (((a0.getD Qq.toNat Qb.z).Lo)<=((a0.getD ((IntKind.wrap .i64 (Qq - 1)).toNat) Qb.z).Hi))) H
      replace H:=sF c4 H
      refine Qax (hP▸mixed) 18 [0,3,4,5,6,7] (sm [.d (Qfg (a0.getD Qq.toNat Qb.z)),.b true,.b false,.b false,.i Qq,.b false,.b false,.Qn [],.Qn [],.Qn [],.Qn [],.Qn [],.Qn [],.Qn [],.Qn [],.Qn [],.b false,.b false]) (Qg (Qg (Qg (Qg (Qg (Qg (Qg (Qg (Qg (Qg (Qg (Qg (opV (Qg (Qg (Qg (Jn (Qg op0 hT) (fun R rest h=>Ju (Yk:=[.d (Qfg (a0.getD Qq.toNat Qb.z))]) (dst:=some 13) hP Qi0 (by have q:=Qbj.Wv (a0.getD Qq.toNat Qb.z);rw [c3] at q;exact q) (by kernel_rfl) (.cons (Qp _) .nil) (by kernel_rfl) h)) hT) hT) hT) hT 17 (.b (decide (Qq > 0))) (.b false) (by rw [decide_eq_false c4]<;>rfl)) hT) hT) hT) hT) hT) hT) hT) hT) hT) hT) hT) hT) ?_
      refine Xn hT 1 (K29 11010011001 1) [] ⟨34,(Yw.p0 t0 a0++[(7,.i Qq),(29,.b false)]),[]⟩ h0 ?_
      exact Yn false H
     replace H:=sF c3 H
     refine Qax (hP▸mixed) 18 [0,3,4,5,6,7] (sm [.d (Qfg (a0.getD Qq.toNat Qb.z)),.b false,.b true,.b true,.Qn [],.Qn [],.Qn [],.Qn [],.Qn [],.Qn [],.Qn [],.Qn [],.Qn [],.Qn [],.Qn [],.Qn [],.Qn [],.b true]) (Qg (Qg (Qg (Qg (Qg (Qg (Qg (Qg (Qg (Qg (Qg (Qg (Qg (Qg (Qg (Qg (Jn (Qg op0 hT) (fun R rest h=>Ju (Yk:=[.d (Qfg (a0.getD Qq.toNat Qb.z))]) (dst:=some 13) hP Qi0 (by have q:=Qbj.Wv (a0.getD Qq.toNat Qb.z);rw [Zz c3] at q;exact q) (by kernel_rfl) (.cons (Qp _) .nil) (by kernel_rfl) h)) hT) hT) hT) hT) hT) hT) hT) hT) hT) hT) hT) hT) hT) hT) hT) hT) ?_
     refine Xn hT 1 (K29 11010011001 1) [] ⟨34,(Yw.p0 t0 a0++[(7,.i Qq),(29,.b true)]),[]⟩ h0 ?_
     exact Yn true H
    replace H:=sF c1 H
    rw [decide_eq_false c1]
    refine Qh hT 9 (K29 111 1) ⟨34,[(2,.b (decide ((a0.length:Int)<=64)))],[]⟩ ?_
    obtain rfl:=Yg H
    exact Yi hf hX h0 (.b (decide ((a0.length:Int)<=64))) [] an (.d (.v _))
 obtain ⟨n,H⟩:=Qbz H
 exact (L n) 0 H
theorem Qga.Wv (a0:Qd) {r:Bool} (H:Qga a0=some r):Yy Tryz.prog 61 [] [.d (Qes a0)] [] (.b r):=by
 refine Yc Tryz.func61 rfl (nt:=7) rfl (lb rfl) fun X hP h0 hX=>?_
 have hT:Xo X.P T:=hP▸tok
 have hf:X.P.funcs[61]? = some Tryz.f61:=hP▸Tryz.func61
 refine Qh hT 9 (K61 110 2) ⟨7,[(4,.d (Qas a0.M))],[.box 41 (Qb0 a0)]⟩ ?_
 obtain ⟨v1,h1,H⟩:=ibC H
 refine Ws (Yk:=[.d (Qas a0.M)]) (dst:=some 5) (k':=(K61 110 3)) [5] [] hP Qgs (Qbg.Wv a0.M h1) (by kernel_rfl) (Qz _) (.cons (Qp _) .nil) (st':=⟨7,[(5,.b v1)],[.box 41 (Qb0 a0)]⟩) (by kernel_rfl) ?_
 refine Qh hT 3 (K61 11 1) ⟨7,[(2,.b (!v1))],[.box 41 (Qb0 a0)]⟩ ?_
 obtain rfl:=Yg H
 exact Yi hf hX h0 (.b (!v1)) [] an (.d (.v _))
abbrev Xk.q1 (a0:List Qa) (Qq:Int):=((a0.getD Qq.toNat Qa.z).Key)
abbrev Xk.p0 (t0:Bool) (a0:List Qa):List (Nat × AV):=[(0,.d (Xw t0 a0)),(5,.d (Xw t0 a0)),(6,.i (a0.length:Int))]
theorem Xk.Wv {t0:Bool} (a0:List Qa) {r:Bool} (H:Xk a0=some r):Yy Tryz.prog 51 [] [.d (Xw t0 a0)] [] (.b r):=by
 refine Yc Tryz.func51 rfl (nt:=46) rfl (lb rfl) fun X hP h0 hX=>?_
 have hT:Xo X.P T:=hP▸tok
 have hf:X.P.funcs[51]? = some Tryz.f51:=hP▸Tryz.func51
 refine Qh hT 13 (K51 11010 0) ⟨46,(Xk.p0 t0 a0++[(7,.i 0)]),[]⟩ ?_
 have L:∀ n,(∀ (Qq:Int),iter (Xk.step a0) n (.l1 Qq)=some r->AK X 51 ((K51 11010 0)) (Yt X [] (.b r)) ⟨46,(Xk.p0 t0 a0++[(7,.i Qq)]),[]⟩):=by
  intro n
  induction n with
  | zero=>exact fun _ H=>Qbd H
  | succ n ih=>
   ·intro Qq H
    refine Qh hT 5 (K51 1101001 0) ⟨46,(Xk.p0 t0 a0++[(7,.i Qq),(8,.b (decide (Qq < (a0.length:Int))))]),[]⟩ ?_
    by_cases c1:Qq < (a0.length:Int)
    ·replace H:=sT c1 H
     rw [decide_eq_true c1]
     refine Qh hT 2 (K51 1101001 1) ⟨46,(Xk.p0 t0 a0++[(7,.i Qq)]),[]⟩ ?_
     refine Qh hT 5 (K51 11010011000 1) ⟨46,(Xk.p0 t0 a0++[(7,.i Qq),(9,.i Qq)]),[]⟩ ?_
     obtain ⟨h2,H⟩:=sC H
     have Yn:∀ (Qqu:Bool),stk (Xk.j1 Qq Qqu) (iter (Xk.step a0) n)=some r->AK X 51 ((K51 11010011001 1)) (Yt X [] (.b r)) ⟨46,(Xk.p0 t0 a0++[(7,.i Qq),(44,.b Qqu)]),[]⟩:=by
      intro Qqu H
      by_cases c9:Qqu=true
      ·replace H:=sT c9 H
       rw [c9]
       refine Qh hT 5 (K51 1101001100110 1) ⟨46,[(2,.b false)],[]⟩ ?_
       obtain rfl:=Yg H
       exact Yi hf hX h0 (.b false) [] an (.d (.v _))
      replace H:=sF c9 H
      rw [Zz c9]
      refine Qh hT 3 (K51 11010011 1) ⟨46,(Xk.p0 t0 a0++[(7,.i Qq)]),[]⟩ ?_
      refine Qh hT 5 (K51 11010 0) ⟨46,(Xk.p0 t0 a0++[(7,.i (IntKind.wrap .i64 (Qq+1)))]),[]⟩ ?_
      exact ih (IntKind.wrap .i64 (Qq+1)) H
     refine Jf hT [0,5,6,7,9,10] (i:=Qq) (n:=(a0.length:Int)) h2.1 h2.2 (k':=(K51 11010011000 2)) (st':=⟨46,(Xk.p0 t0 a0++[(7,.i Qq),(9,.i Qq),(10,.d (Qef t0 a0 Qq.toNat 0))]),[]⟩) (by kernel_rfl) ?_
     refine Qh hT 6 (K51 11010011001 0) ⟨46,[(0,.d (Xw t0 a0)),(3,.i Qq),(4,.ptr 0 0 0 0),(5,.d (Xw t0 a0)),(6,.i (a0.length:Int)),(7,.i Qq)],[.box 81 (Qb2 (a0.getD Qq.toNat Qa.z))]⟩ ?_
     by_cases c3:(Xk.q1 a0 Qq) < 0
     ·replace H:=sT c3 H
      refine Qax (hP▸mixed) 33 [0,3,4,5,6,7] (sm [.ptr 0 0 0 0,.i (Xk.q1 a0 Qq),.b true,.b true,.Qn [],.Qn [],.Qn [],.b true,.b true,.Qn [],.Qn [],.Qn [],.b true,.b true,.Qn [],.Qn [],.Qn [],.b true,.b true,.Qn [],.Qn [],.Qn [],.Qn [],.Qn [],.Qn [],.Qn [],.Qn [],.Qn [],.Qn [],.Qn [],.Qn [],.Qn [],.b true]) (Qg (Qg (Qg (Qg (Qg (Qg (Qg (Qg (Qg (Qg (Qg (Qg (Qg (Qg (Qg (Qg (Qg (Qg (Qg (Qg (Qg (Qg (Qg (Qg (Qg (Qg (Qg (Qg (Qg (Qg (opV (Qg (Qg op0 hT) hT) hT 14 (.b (decide ((Xk.q1 a0 Qq) < 0))) (.b true) (by rw [decide_eq_true c3]<;>rfl)) hT) hT) hT) hT) hT) hT) hT) hT) hT) hT) hT) hT) hT) hT) hT) hT) hT) hT) hT) hT) hT) hT) hT) hT) hT) hT) hT) hT) hT) hT) ?_
      refine Xn hT 1 (K51 11010011001 1) [] ⟨46,(Xk.p0 t0 a0++[(7,.i Qq),(44,.b true)]),[]⟩ h0 ?_
      exact Yn true H
     replace H:=sF c3 H
     by_cases c4:(Xk.q1 a0 Qq)>=4096
     ·replace H:=sT c4 H
      refine Qax (hP▸mixed) 33 [0,3,4,5,6,7] (sm [.ptr 0 0 0 0,.i (Xk.q1 a0 Qq),.b false,.b false,.ptr 0 0 0 0,.i (Xk.q1 a0 Qq),.b true,.b true,.b true,.Qn [],.Qn [],.Qn [],.b true,.b true,.Qn [],.Qn [],.Qn [],.b true,.b true,.Qn [],.Qn [],.Qn [],.Qn [],.Qn [],.Qn [],.Qn [],.Qn [],.Qn [],.Qn [],.Qn [],.Qn [],.Qn [],.b true]) (Qg (Qg (Qg (Qg (Qg (Qg (Qg (Qg (Qg (Qg (Qg (Qg (Qg (Qg (Qg (Qg (Qg (Qg (Qg (Qg (Qg (Qg (Qg (Qg (Qg (Qg (opV (Qg (Qg (Qg (opV (Qg (Qg op0 hT) hT) hT 14 (.b (decide ((Xk.q1 a0 Qq) < 0))) (.b false) (by rw [decide_eq_false c3]<;>rfl)) hT) hT) hT) hT 18 (.b (decide ((Xk.q1 a0 Qq)>=4096))) (.b true) (by rw [decide_eq_true c4]<;>rfl)) hT) hT) hT) hT) hT) hT) hT) hT) hT) hT) hT) hT) hT) hT) hT) hT) hT) hT) hT) hT) hT) hT) hT) hT) hT) hT) ?_
      refine Xn hT 1 (K51 11010011001 1) [] ⟨46,(Xk.p0 t0 a0++[(7,.i Qq),(44,.b true)]),[]⟩ h0 ?_
      exact Yn true H
     replace H:=sF c4 H
     by_cases c5:((a0.getD Qq.toNat Qa.z).Val) < (-1099511627776)
     ·replace H:=sT c5 H
      refine Qax (hP▸mixed) 33 [0,3,4,5,6,7] (sm [.ptr 0 0 0 0,.i (Xk.q1 a0 Qq),.b false,.b false,.ptr 0 0 0 0,.i (Xk.q1 a0 Qq),.b false,.b false,.b false,.ptr 0 0 0 1,.i ((a0.getD Qq.toNat Qa.z).Val),.b true,.b true,.b true,.Qn [],.Qn [],.Qn [],.b true,.b true,.Qn [],.Qn [],.Qn [],.Qn [],.Qn [],.Qn [],.Qn [],.Qn [],.Qn [],.Qn [],.Qn [],.Qn [],.Qn [],.b true]) (Qg (Qg (Qg (Qg (Qg (Qg (Qg (Qg (Qg (Qg (Qg (Qg (Qg (Qg (Qg (Qg (Qg (Qg (Qg (Qg (Qg (opV (Qg (Qg (Qg (Qg (opV (Qg (Qg (Qg (opV (Qg (Qg op0 hT) hT) hT 14 (.b (decide ((Xk.q1 a0 Qq) < 0))) (.b false) (by rw [decide_eq_false c3]<;>rfl)) hT) hT) hT) hT 18 (.b (decide ((Xk.q1 a0 Qq)>=4096))) (.b false) (by rw [decide_eq_false c4]<;>rfl)) hT) hT) hT) hT) hT 23 (.b (decide (((a0.getD Qq.toNat Qa.z).Val) < (-1099511627776)))) (.b true) (by rw [decide_eq_true c5]<;>rfl)) hT) hT) hT) hT) hT) hT) hT) hT) hT) hT) hT) hT) hT) hT) hT) hT) hT) hT) hT) hT) hT) ?_
      refine Xn hT 1 (K51 11010011001 1) [] ⟨46,(Xk.p0 t0 a0++[(7,.i Qq),(44,.b true)]),[]⟩ h0 ?_
      exact Yn true H
     replace H:=sF c5 H
     by_cases c6:((a0.getD Qq.toNat Qa.z).Val) > 1099511627776
     ·replace H:=sT c6 H
      refine Qax (hP▸mixed) 33 [0,3,4,5,6,7] (sm [.ptr 0 0 0 0,.i (Xk.q1 a0 Qq),.b false,.b false,.ptr 0 0 0 0,.i (Xk.q1 a0 Qq),.b false,.b false,.b false,.ptr 0 0 0 1,.i ((a0.getD Qq.toNat Qa.z).Val),.b false,.b false,.b false,.ptr 0 0 0 1,.i ((a0.getD Qq.toNat Qa.z).Val),.b true,.b true,.b true,.Qn [],.Qn [],.Qn [],.Qn [],.Qn [],.Qn [],.Qn [],.Qn [],.Qn [],.Qn [],.Qn [],.Qn [],.Qn [],.b true]) (Qg (Qg (Qg (Qg (Qg (Qg (Qg (Qg (Qg (Qg (Qg (Qg (Qg (Qg (Qg (Qg (opV (Qg (Qg (Qg (Qg (opV (Qg (Qg (Qg (Qg (opV (Qg (Qg (Qg (opV (Qg (Qg op0 hT) hT) hT 14 (.b (decide ((Xk.q1 a0 Qq) < 0))) (.b false) (by rw [decide_eq_false c3]<;>rfl)) hT) hT) hT) hT 18 (.b (decide ((Xk.q1 a0 Qq)>=4096))) (.b false) (by rw [decide_eq_false c4]<;>rfl)) hT) hT) hT) hT) hT 23 (.b (decide (((a0.getD Qq.toNat Qa.z).Val) < (-1099511627776)))) (.b false) (by rw [decide_eq_false c5]<;>rfl)) hT) hT) hT) hT) hT 28 (.b (decide (((a0.getD Qq.toNat Qa.z).Val) > 1099511627776))) (.b true) (by rw [decide_eq_true c6]<;>rfl)) hT) hT) hT) hT) hT) hT) hT) hT) hT) hT) hT) hT) hT) hT) hT) hT) ?_
      refine Xn hT 1 (K51 11010011001 1) [] ⟨46,(Xk.p0 t0 a0++[(7,.i Qq),(44,.b true)]),[]⟩ h0 ?_
      exact Yn true H
     replace H:=sF c6 H
     by_cases c7:Qq > 0
     ·replace H:=sT c7 H
      obtain ⟨h8,H⟩:=sC H
      refine Qax (hP▸mixed) 33 [0,3,4,5,6,7] (sm [.ptr 0 0 0 0,.i (Xk.q1 a0 Qq),.b false,.b false,.ptr 0 0 0 0,.i (Xk.q1 a0 Qq),.b false,.b false,.b false,.ptr 0 0 0 1,.i ((a0.getD Qq.toNat Qa.z).Val),.b false,.b false,.b false,.ptr 0 0 0 1,.i ((a0.getD Qq.toNat Qa.z).Val),.b false,.b false,.b false,.i Qq,.b true,.b true,.d (Xw t0 a0),.i Qq,.i (IntKind.wrap .i64 (Qq - 1)),.d (Qef t0 a0 ((IntKind.wrap .i64 (Qq - 1)).toNat) 0),.d (Qef t0 a0 ((IntKind.wrap .i64 (Qq - 1)).toNat) 0),.i ((a0.getD ((IntKind.wrap .i64 (Qq - 1)).toNat) Qa.z).Key),.ptr 0 0 0 0,.i (Xk.q1 a0 Qq),.b (decide (((a0.getD ((IntKind.wrap .i64 (Qq - 1)).toNat) Qa.z).Key)>=(Xk.q1 a0 Qq))),.b (decide (((a0.getD ((IntKind.wrap .i64 (Qq - 1)).toNat) Qa.z).Key)>=(Xk.q1 a0 Qq))),.b (decide (((a0.getD ((IntKind.wrap .i64 (Qq - 1)).toNat) Qa.z).Key)>=(Xk.q1 a0 Qq)))]) (Qg (Qg (Qg (Qg (Qg (Qg (Qg (Jn (Qg (Qg (Qg (Qg (opV (Qg (Qg (Qg (opV (Qg (Qg (Qg (Qg (opV (Qg (Qg (Qg (Qg (opV (Qg (Qg (Qg (opV (Qg (Qg op0 hT) hT) hT 14 (.b (decide ((Xk.q1 a0 Qq) < 0))) (.b false) (by rw [decide_eq_false c3]<;>rfl)) hT) hT) hT) hT 18 (.b (decide ((Xk.q1 a0 Qq)>=4096))) (.b false) (by rw [decide_eq_false c4]<;>rfl)) hT) hT) hT) hT) hT 23 (.b (decide (((a0.getD Qq.toNat Qa.z).Val) < (-1099511627776)))) (.b false) (by rw [decide_eq_false c5]<;>rfl)) hT) hT) hT) hT) hT 28 (.b (decide (((a0.getD Qq.toNat Qa.z).Val) > 1099511627776))) (.b false) (by rw [decide_eq_false c6]<;>rfl)) hT) hT) hT) hT 32 (.b (decide (Qq > 0))) (.b true) (by rw [decide_eq_true c7]<;>rfl)) hT) hT) hT) hT) (fun R rest h=>Zd hT (i:=IntKind.wrap .i64 (Qq - 1)) (n:=(a0.length:Int)) h8.1 h8.2 (by kernel_rfl) h)) hT) hT) hT) hT) hT) hT) hT) ?_
      refine Xn hT 1 (K51 11010011001 1) [] ⟨46,(Xk.p0 t0 a0++[(7,.i Qq),(44,.b (decide (((a0.getD ((IntKind.wrap .i64 (Qq - 1)).toNat) Qa.z).Key)>=(Xk.q1 a0 Qq))))]),[]⟩ h0 ?_
      exact Yn (decide (((a0.getD ((IntKind.wrap .i64 (Qq - 1)).toNat) Qa.z).Key)>=(Xk.q1 a0 Qq))) H
     replace H:=sF c7 H
     refine Qax (hP▸mixed) 33 [0,3,4,5,6,7] (sm [.ptr 0 0 0 0,.i (Xk.q1 a0 Qq),.b false,.b false,.ptr 0 0 0 0,.i (Xk.q1 a0 Qq),.b false,.b false,.b false,.ptr 0 0 0 1,.i ((a0.getD Qq.toNat Qa.z).Val),.b false,.b false,.b false,.ptr 0 0 0 1,.i ((a0.getD Qq.toNat Qa.z).Val),.b false,.b false,.b false,.i Qq,.b false,.b false,.Qn [],.Qn [],.Qn [],.Qn [],.Qn [],.Qn [],.Qn [],.Qn [],.Qn [],.b false,.b false]) (Qg (Qg (Qg (Qg (Qg (Qg (Qg (Qg (Qg (Qg (Qg (Qg (opV (Qg (Qg (Qg (opV (Qg (Qg (Qg (Qg (opV (Qg (Qg (Qg (Qg (opV (Qg (Qg (Qg (opV (Qg (Qg op0 hT) hT) hT 14 (.b (decide ((Xk.q1 a0 Qq) < 0))) (.b false) (by rw [decide_eq_false c3]<;>rfl)) hT) hT) hT) hT 18 (.b (decide ((Xk.q1 a0 Qq)>=4096))) (.b false) (by rw [decide_eq_false c4]<;>rfl)) hT) hT) hT) hT) hT 23 (.b (decide (((a0.getD Qq.toNat Qa.z).Val) < (-1099511627776)))) (.b false) (by rw [decide_eq_false c5]<;>rfl)) hT) hT) hT) hT) hT 28 (.b (decide (((a0.getD Qq.toNat Qa.z).Val) > 1099511627776))) (.b false) (by rw [decide_eq_false c6]<;>rfl)) hT) hT) hT) hT 32 (.b (decide (Qq > 0))) (.b false) (by rw [decide_eq_false c7]<;>rfl)) hT) hT) hT) hT) hT) hT) hT) hT) hT) hT) hT) hT) ?_
     refine Xn hT 1 (K51 11010011001 1) [] ⟨46,(Xk.p0 t0 a0++[(7,.i Qq),(44,.b false)]),[]⟩ h0 ?_
     exact Yn false H
    replace H:=sF c1 H
    rw [decide_eq_false c1]
    refine Qh hT 6 (K51 111 1) ⟨46,[(2,.b true)],[]⟩ ?_
    obtain rfl:=Yg H
    exact Yi hf hX h0 (.b true) [] an (.d (.v _))
 obtain ⟨n,H⟩:=Qbz H
 exact (L n) 0 H
theorem Xy.Wv {Jc:FuncId} {Jk:List DV} (a0:List Qa) (p1:Qa->Option Bool) (he1:Sy.Enters Tryz.prog Jc) (hp1:∀ (z0:Qa) r,p1 z0=some r->Yy Tryz.prog Jc [] ([.d (Qfr z0)] ++ List.map AV.d Jk) [] (.b r)) {r:List Qa} (H:Xy a0 p1=some r):Yy Tryz.prog 81 [Xj a0] [.own 0 2 0 a0.length,.d (.fn Jc Jk)] [.gone,Xj r] (.own 1 2 0 r.length):=by
 refine Yc Tryz.func81 rfl (nt:=42) rfl (lb rfl) fun X hP h0 hX=>?_
 have hT:Xo X.P T:=hP▸tok
 have hf:X.P.funcs[81]? = some Tryz.f81:=hP▸Tryz.func81
 refine Qlj 0 (r:=Xj a0) rfl rfl (st':=⟨42,[(0,.own 1 2 0 a0.length),(1,.d (.fn Jc Jk))],[.gone,Xj a0]⟩) (by kernel_rfl) (by kernel_rfl) rfl ?_
 refine Qh hT 8 (K81 110 2) ⟨42,[(0,.own 1 2 0 a0.length),(1,.d (.fn Jc Jk)),(8,.own 1 2 0 a0.length),(9,.d (.fn Jc Jk))],[.gone,Xj a0]⟩ ?_
 obtain ⟨v1,h1,H⟩:=ibC H
 refine Ws (Yk:=[.own 1 2 0 a0.length,.d (.fn Jc Jk)]) (dst:=some 10) (k':=(K81 110 3)) [0,1,10] [] hP Qsk (Za.Wv (t0:=false) (Jc:=Jc) (Jk:=Jk) a0 p1 he1 hp1 h1) (by kernel_rfl) (Qz _) (.cons (.Qek (ty:=81) (by kernel_rfl) rfl) (.cons (Qp _) .nil)) (st':=⟨42,[(0,.own 1 2 0 a0.length),(1,.d (.fn Jc Jk)),(10,.i v1)],[.gone,Xj a0]⟩) (by kernel_rfl) ?_
 refine Qh hT 8 (K81 1110 1) ⟨42,[(0,.own 1 2 0 a0.length),(1,.d (.fn Jc Jk)),(5,.i v1),(12,.b (v1 == (-1)))],[.gone,Xj a0]⟩ ?_
 by_cases c2:v1=(-1)
 ·replace H:=iT c2 H
  rw [eqT c2]
  refine Qh hT 6 (K81 111010 1) ⟨42,[(4,.own 1 2 0 a0.length)],[.gone,Xj a0]⟩ ?_
  obtain rfl:=Yg H
  exact Yi hf hX h0 (.own 1 2 0 a0.length) [0,1] (ac .gone (ac (Qa1 Qa.nl) an)) (.own _ _ _ _)
 replace H:=iF c2 H
 rw [eqF c2]
 refine Qh hT 2 (K81 111 1) ⟨42,[(0,.own 1 2 0 a0.length),(1,.d (.fn Jc Jk)),(5,.i v1)],[.gone,Xj a0]⟩ ?_
 refine Qh hT 9 (K81 1111010 0) ⟨42,[(0,.own 1 2 0 a0.length),(1,.d (.fn Jc Jk)),(5,.i v1),(6,.i (IntKind.wrap .i64 (v1+1)))],[.gone,Xj a0]⟩ ?_
 have L:∀ n,(∀ (Xb:Int) (Zx:Int) (Wl:List Qa),iter (Xy.step p1) n (.l1 Xb Zx Wl)=some r->AK X 81 ((K81 1111010 0)) (Yt X [.gone,Xj r] (.own 1 2 0 r.length)) ⟨42,[(0,.own 1 2 0 Wl.length),(1,.d (.fn Jc Jk)),(5,.i Xb),(6,.i Zx)],[.gone,Xj Wl]⟩):=by
  intro n
  induction n with
  | zero=>exact fun _ _ _ H=>Qbd H
  | succ n ih=>
   ·intro Xb Zx Wl H
    refine Qh hT 8 (K81 111101000 1) ⟨42,[(0,.own 1 2 0 Wl.length),(1,.d (.fn Jc Jk)),(5,.i Xb),(6,.i Zx),(19,.b (decide (Zx < (Wl.length:Int))))],[.gone,Xj Wl]⟩ ?_
    by_cases c3:Zx < (Wl.length:Int)
    ·replace H:=sT c3 H
     rw [decide_eq_true c3]
     refine Qh hT 2 (K81 11110100 1) ⟨42,[(0,.own 1 2 0 Wl.length),(1,.d (.fn Jc Jk)),(5,.i Xb),(6,.i Zx)],[.gone,Xj Wl]⟩ ?_
     refine Qh hT 6 (K81 111101001000 2) ⟨42,[(0,.own 1 2 0 Wl.length),(1,.d (.fn Jc Jk)),(5,.i Xb),(6,.i Zx),(22,.own 1 2 0 Wl.length),(23,.i Zx)],[.gone,Xj Wl]⟩ ?_
     obtain ⟨h5,H⟩:=sC H
     refine Jf hT [0,1,5,6,24] (i:=Zx) (n:=(Wl.length:Int)) h5.1 h5.2 (k':=(K81 111101001000 3)) (st':=⟨42,[(0,.own 1 2 0 Wl.length),(1,.d (.fn Jc Jk)),(5,.i Xb),(6,.i Zx),(24,.ptr 1 2 Zx.toNat 0)],[.gone,Xj Wl]⟩) (by kernel_rfl) ?_
     refine Qni hT [0,1,5,6,25] (i:=Zx.toNat) (n:=Wl.length) (ltN h5.1 h5.2) (k':=(K81 111101001000 4)) (st':=⟨42,[(0,.own 1 2 0 Wl.length),(1,.d (.fn Jc Jk)),(5,.i Xb),(6,.i Zx),(25,.d (Qfr (Wl.getD Zx.toNat Qa.z)))],[.gone,Xj Wl]⟩) (by kernel_rfl) ?_
     refine Qh hT 7 (K81 1111010010010 2) ⟨42,[(0,.own 1 2 0 Wl.length),(1,.d (.fn Jc Jk)),(5,.i Xb),(6,.i Zx),(7,.ptr 2 0 0 0),(26,.d (.fn Jc Jk)),(27,.d (Qfr (Wl.getD Zx.toNat Qa.z)))],[.gone,Xj Wl,.box 81 (Qb2 (Wl.getD Zx.toNat Qa.z))]⟩ ?_
     obtain ⟨v2,h6,H⟩:=sbC H
     have Yn:∀ (Qr3:Int) (Qfz:List Qa),stk (Xy.j1 Zx Qr3 Qfz) (iter (Xy.step p1) n)=some r->AK X 81 ((K81 111101001 1)) (Yt X [.gone,Xj r] (.own 1 2 0 r.length)) ⟨42,[(0,.own 1 2 0 Qfz.length),(1,.d (.fn Jc Jk)),(5,.i Qr3),(6,.i Zx)],[.gone,Xj Qfz]⟩:=by
      intro Qr3 Qfz H
      refine Qh hT 6 (K81 1111010 0) ⟨42,[(0,.own 1 2 0 Qfz.length),(1,.d (.fn Jc Jk)),(5,.i Qr3),(6,.i (IntKind.wrap .i64 (Zx+1)))],[.gone,Xj Qfz]⟩ ?_
      exact ih Qr3 (IntKind.wrap .i64 (Zx+1)) Qfz H
     refine Ws (Yk:=[.d (Qfr (Wl.getD Zx.toNat Qa.z))] ++ List.map AV.d Jk) (dst:=some 28) (k':=(K81 1111010010010 3)) [0,1,5,6,7,28] [] hP he1 (hp1 (Wl.getD Zx.toNat Qa.z) v2 h6) (by kernel_rfl) (Qz _) (.cons (Qp _) (Qh1 _)) (st':=⟨42,[(0,.own 1 2 0 Wl.length),(1,.d (.fn Jc Jk)),(5,.i Xb),(6,.i Zx),(7,.ptr 2 0 0 0),(28,.b v2)],[.gone,Xj Wl,.box 81 (Qb2 (Wl.getD Zx.toNat Qa.z))]⟩) (by kernel_rfl) ?_
     refine Qh hT 2 (K81 111101001001 1) ⟨42,[(0,.own 1 2 0 Wl.length),(1,.d (.fn Jc Jk)),(5,.i Xb),(6,.i Zx),(7,.ptr 2 0 0 0),(29,.b (!v2))],[.gone,Xj Wl,.box 81 (Qb2 (Wl.getD Zx.toNat Qa.z))]⟩ ?_
     by_cases c7:v2=true
     ·replace H:=sT c7 H
      rw [c7]
      refine Xn hT 3 (K81 111101001 1) [0,1] ⟨42,[(0,.own 1 2 0 Wl.length),(1,.d (.fn Jc Jk)),(5,.i Xb),(6,.i Zx)],[.gone,Xj Wl]⟩ h0 ?_
      exact Yn Xb Wl H
     replace H:=sF c7 H
     rw [Zz c7]
     refine Qh hT 6 (K81 111101001001100 3) ⟨42,[(0,.own 1 2 0 Wl.length),(1,.d (.fn Jc Jk)),(5,.i Xb),(6,.i Zx),(30,.own 1 2 0 Wl.length),(31,.i Xb),(32,.d (Qfr (Wl.getD Zx.toNat Qa.z)))],[.gone,Xj Wl,.box 81 (Qb2 (Wl.getD Zx.toNat Qa.z))]⟩ ?_
     obtain ⟨h8,H⟩:=sC H
     refine Jf hT [0,1,5,6,32,33] (i:=Xb) (n:=(Wl.length:Int)) h8.1 h8.2 (k':=(K81 111101001001100 4)) (st':=⟨42,[(0,.own 1 2 0 Wl.length),(1,.d (.fn Jc Jk)),(5,.i Xb),(6,.i Zx),(32,.d (Qfr (Wl.getD Zx.toNat Qa.z))),(33,.ptr 1 2 Xb.toNat 0)],[.gone,Xj Wl,.box 81 (Qb2 (Wl.getD Zx.toNat Qa.z))]⟩) (by kernel_rfl) ?_
     refine Qvk (id:=1) (kk:=2) (i:=Xb.toNat) (off:=0) (s:=2) (n:=Wl.length) (ty:=81) (ds:=[.i ((Wl.getD Zx.toNat Qa.z).Key),.i ((Wl.getD Zx.toNat Qa.z).Val)]) (g:=vec Qa.e Qa.z Wl) (k':=(K81 111101001001100 5)) hT [0,1,5,6] (vec Qa.e Qa.z (Wl.set Xb.toNat (Wl.getD Zx.toNat Qa.z))) (by kernel_rfl) (by kernel_rfl) (ltN h8.1 h8.2) ((Qqc (ltN h8.1 h8.2)).trans (by kernel_rfl)) Qk8 (st':=⟨42,[(0,.own 1 2 0 (Wl.length)),(1,.d (.fn Jc Jk)),(5,.i Xb),(6,.i Zx)],[.gone,.flat false 2 81 Wl.length (vec Qa.e Qa.z (Wl.set Xb.toNat (Wl.getD Zx.toNat Qa.z))),.box 81 (Qb2 (Wl.getD Zx.toNat Qa.z))]⟩) (by kernel_rfl) ?_
     refine Qr9 (show Wl.length=(Wl.set Xb.toNat (Wl.getD Zx.toNat Qa.z)).length from (List.length_set ..).symm) (fun nn=>⟨42,[(0,.own 1 2 0 (nn)),(1,.d (.fn Jc Jk)),(5,.i Xb),(6,.i Zx)],[.gone,.flat false 2 81 nn (vec Qa.e Qa.z (Wl.set Xb.toNat (Wl.getD Zx.toNat Qa.z))),.box 81 (Qb2 (Wl.getD Zx.toNat Qa.z))]⟩) ?_
     refine Xn hT 7 (K81 111101001 1) [0,1] ⟨42,[(0,.own 1 2 0 (Wl.set Xb.toNat (Wl.getD Zx.toNat Qa.z)).length),(1,.d (.fn Jc Jk)),(5,.i (IntKind.wrap .i64 (Xb+1))),(6,.i Zx)],[.gone,Xj (Wl.set Xb.toNat (Wl.getD Zx.toNat Qa.z))]⟩ h0 ?_
     exact Yn (IntKind.wrap .i64 (Xb+1)) (Wl.set Xb.toNat (Wl.getD Zx.toNat Qa.z)) H
    replace H:=sF c3 H
    rw [decide_eq_false c3]
    refine Qh hT 6 (K81 111110 2) ⟨42,[(0,.own 1 2 0 Wl.length),(5,.i Xb),(36,.own 1 2 0 Wl.length),(37,.i Xb)],[.gone,Xj Wl]⟩ ?_
    obtain ⟨h4,H⟩:=sC H
    refine Wew (id:=1) (s:=2) (off:=0) (n:=Wl.length) (N:=Wl.length) (kk:=.i64) (l:=Xb) (d:=38) (ty:=81) (g:=vec Qa.e Qa.z Wl) (k':=(K81 111110 4)) hT [0,5] (by kernel_rfl) (by kernel_rfl) h4.1 h4.2 rfl rfl (by decide) (by decide) (st':=⟨42,[(0,.own 1 2 0 Wl.length),(5,.i Xb)],[.gone,.flat false 2 81 Xb.toNat (vec Qa.e Qa.z Wl)]⟩) (by kernel_rfl) ?_
    refine Wez 1 (kk:=2) (n:=Xb.toNat) (m:=(Wl.take Xb.toNat).length) (fz:=false) (ty:=81) (g:=vec Qa.e Qa.z Wl) (vec Qa.e Qa.z (Wl.take Xb.toNat)) (by kernel_rfl) (by simp only [List.length_take];omega) Wgj (st':=⟨42,[(0,.own 1 2 0 Wl.length),(5,.i Xb)],[.gone,Xj (Wl.take Xb.toNat)]⟩) (by kernel_rfl) ?_
    refine Qh hT 5 (K81 1111110 2) ⟨42,[(39,.own 1 2 0 Wl.length),(40,.i Xb)],[.gone,Xj (Wl.take Xb.toNat)]⟩ ?_
    refine Wbl (id:=1) (s:=2) (off:=0) (n:=Wl.length) (kk:=.i64) (i:=Xb) (dst:=some 41) (k':=(K81 1111110 3)) hT [41] (by kernel_rfl) h4.1 h4.2 (st':=⟨42,[(41,.own 1 2 0 Xb.toNat)],[.gone,Xj (Wl.take Xb.toNat)]⟩) (by kernel_rfl) ?_
    refine Qr9 (show Xb.toNat=(Wl.take Xb.toNat).length from by simp only [List.length_take];omega) (fun nn=>⟨42,[(41,.own 1 2 0 nn)],[.gone,Xj (Wl.take Xb.toNat)]⟩) ?_
    refine Qh hT 2 (K81 111111 1) ⟨42,[(4,.own 1 2 0 ((Wl.take Xb.toNat).length))],[.gone,Xj (Wl.take Xb.toNat)]⟩ ?_
    obtain rfl:=Yg H
    exact Yi hf hX h0 (.own 1 2 0 ((Wl.take Xb.toNat).length)) [0,1] (ac .gone (ac (Qa1 Qa.nl) an)) (.own _ _ _ _)
 obtain ⟨n,H⟩:=Qbz H
 exact (L n) v1 (IntKind.wrap .i64 (v1+1)) a0 H
theorem Zh.Wv {t0:Bool} {Jc:FuncId} {Jk:List DV} (a0:List Qb) (p1:Qb->Option Bool) (he1:Sy.Enters Tryz.prog Jc) (hp1:∀ (z0:Qb) r,p1 z0=some r->Yy Tryz.prog Jc [] ([.d (Qfg z0)] ++ List.map AV.d Jk) [] (.b r)) {r:Int} (H:Zh a0 p1=some r):Yy Tryz.prog 109 [] [.d (Xd t0 a0),.d (.fn Jc Jk)] [] (.i r):=by
 refine Yc Tryz.func109 rfl (nt:=19) rfl (lb rfl) fun X hP h0 hX=>?_
 have hT:Xo X.P T:=hP▸tok
 have hf:X.P.funcs[109]? = some Tryz.f109:=hP▸Tryz.func109
 refine Qh hT 13 (Qjm 11010 0) ⟨19,[(0,.d (Xd t0 a0)),(1,.d (.fn Jc Jk)),(7,.i (a0.length:Int)),(8,.i 0)],[]⟩ ?_
 have L:∀ n,(∀ (Wi:Int),iter (Zh.step a0 p1) n (.l1 Wi)=some r->AK X 109 ((Qjm 11010 0)) (Yt X [] (.i r)) ⟨19,[(0,.d (Xd t0 a0)),(1,.d (.fn Jc Jk)),(7,.i (a0.length:Int)),(8,.i Wi)],[]⟩):=by
  intro n
  induction n with
  | zero=>exact fun _ H=>Qbd H
  | succ n ih=>
   ·intro Wi H
    refine Qh hT 5 (Qjm 1101001 0) ⟨19,[(0,.d (Xd t0 a0)),(1,.d (.fn Jc Jk)),(7,.i (a0.length:Int)),(8,.i Wi),(9,.b (decide (Wi < (a0.length:Int))))],[]⟩ ?_
    by_cases c1:Wi < (a0.length:Int)
    ·replace H:=sT c1 H
     rw [decide_eq_true c1]
     refine Qh hT 2 (Qjm 1101001 1) ⟨19,[(0,.d (Xd t0 a0)),(1,.d (.fn Jc Jk)),(7,.i (a0.length:Int)),(8,.i Wi)],[]⟩ ?_
     refine Qh hT 12 (Qjm 110100110010 3) ⟨19,[(0,.d (Xd t0 a0)),(1,.d (.fn Jc Jk)),(5,.i Wi),(7,.i (a0.length:Int)),(8,.i Wi),(11,.d (.fn Jc Jk)),(12,.d (Xd t0 a0)),(13,.i Wi)],[]⟩ ?_
     obtain ⟨h2,H⟩:=sC H
     refine Jf hT [0,1,5,7,8,11,14] (i:=Wi) (n:=(a0.length:Int)) h2.1 h2.2 (k':=(Qjm 110100110010 4)) (st':=⟨19,[(0,.d (Xd t0 a0)),(1,.d (.fn Jc Jk)),(5,.i Wi),(7,.i (a0.length:Int)),(8,.i Wi),(11,.d (.fn Jc Jk)),(14,.d (Qth t0 a0 Wi.toNat 0))],[]⟩) (by kernel_rfl) ?_
     refine Qh hT 1 (Qjm 110100110010 5) ⟨19,[(0,.d (Xd t0 a0)),(1,.d (.fn Jc Jk)),(5,.i Wi),(7,.i (a0.length:Int)),(8,.i Wi),(11,.d (.fn Jc Jk)),(15,.d (Qfg (a0.getD Wi.toNat Qb.z)))],[]⟩ ?_
     obtain ⟨v1,h3,H⟩:=sbC H
     refine Ws (Yk:=[.d (Qfg (a0.getD Wi.toNat Qb.z))] ++ List.map AV.d Jk) (dst:=some 16) (k':=(Qjm 110100110010 6)) [0,1,5,7,8,16] [] hP he1 (hp1 (a0.getD Wi.toNat Qb.z) v1 h3) (by kernel_rfl) (Qz _) (.cons (Qp _) (Qh1 _)) (st':=⟨19,[(0,.d (Xd t0 a0)),(1,.d (.fn Jc Jk)),(5,.i Wi),(7,.i (a0.length:Int)),(8,.i Wi),(16,.b v1)],[]⟩) (by kernel_rfl) ?_
     refine Qh hT 1 (Qjm 11010011001 1) ⟨19,[(0,.d (Xd t0 a0)),(1,.d (.fn Jc Jk)),(5,.i Wi),(7,.i (a0.length:Int)),(8,.i Wi),(16,.b v1)],[]⟩ ?_
     by_cases c4:v1=true
     ·replace H:=sT c4 H
      rw [c4]
      refine Qh hT 6 (Qjm 1101001100110 1) ⟨19,[(4,.i Wi)],[]⟩ ?_
      obtain rfl:=Yg H
      exact Yi hf hX h0 (.i Wi) [] an (.d (.v _))
     replace H:=sF c4 H
     rw [Zz c4]
     refine Qh hT 3 (Qjm 11010011 1) ⟨19,[(0,.d (Xd t0 a0)),(1,.d (.fn Jc Jk)),(7,.i (a0.length:Int)),(8,.i Wi)],[]⟩ ?_
     refine Qh hT 5 (Qjm 11010 0) ⟨19,[(0,.d (Xd t0 a0)),(1,.d (.fn Jc Jk)),(7,.i (a0.length:Int)),(8,.i (IntKind.wrap .i64 (Wi+1)))],[]⟩ ?_
     exact ih (IntKind.wrap .i64 (Wi+1)) H
    replace H:=sF c1 H
    rw [decide_eq_false c1]
    refine Qh hT 6 (Qjm 111 1) ⟨19,[(4,.i (-1))],[]⟩ ?_
    obtain rfl:=Yg H
    exact Yi hf hX h0 (.i (-1)) [] an (.d (.v _))
 obtain ⟨n,H⟩:=Qbz H
 exact (L n) 0 H
theorem Qbn.Wv {t0:Bool} {Jc:FuncId} {Jk:List DV} (a0:List Qb) (p1:Qb->Option Bool) (he1:Sy.Enters Tryz.prog Jc) (hp1:∀ (z0:Qb) r,p1 z0=some r->Yy Tryz.prog Jc [] ([.d (Qfg z0)] ++ List.map AV.d Jk) [] (.b r)) {r:Bool} (H:Qbn a0 p1=some r):Yy Tryz.prog 83 [] [.d (Xd t0 a0),.d (.fn Jc Jk)] [] (.b r):=by
 refine Yc Tryz.func83 rfl (nt:=9) rfl (lb rfl) fun X hP h0 hX=>?_
 have hT:Xo X.P T:=hP▸tok
 have hf:X.P.funcs[83]? = some Tryz.f83:=hP▸Tryz.func83
 refine Qh hT 8 (K83 110 2) ⟨9,[(5,.d (Xd t0 a0)),(6,.d (.fn Jc Jk))],[]⟩ ?_
 obtain ⟨v1,h1,H⟩:=ibC H
 refine Ws (Yk:=[.d (Xd t0 a0),.d (.fn Jc Jk)]) (dst:=some 7) (k':=(K83 110 3)) [7] [] hP Qzu (Zh.Wv (t0:=t0) (Jc:=Jc) (Jk:=Jk) a0 p1 he1 hp1 h1) (by kernel_rfl) (Qz _) (.cons (Qp _) (.cons (Qp _) .nil)) (st':=⟨9,[(7,.i v1)],[]⟩) (by kernel_rfl) ?_
 refine Qh hT 3 (K83 11 1) ⟨9,[(4,.b (decide (v1>=0)))],[]⟩ ?_
 obtain rfl:=Yg H
 exact Yi hf hX h0 (.b (decide (v1>=0))) [] an (.d (.v _))
abbrev Qcq.p0 (k0:Int):List (Nat × AV):=[(1,.d (.rop false 1 (fun _=>[.i k0]) 0 0)),(2,.ptr 0 0 0 0)]
theorem Qcq.Wv (a0:Qb) (k0:Int):Yy Tryz.prog 84 [] [.d (Qfg a0),.d (.rop false 1 (fun _=>[.i k0]) 0 0)] [] (.b (Qcq a0 k0)):=by
 obtain ⟨r,H⟩:∃ r,Qcq a0 k0=r:=⟨_,rfl⟩
 rw [H]
 refine Yc Tryz.func84 rfl (nt:=18) rfl (lb rfl) fun X hP h0 hX=>?_
 have hT:Xo X.P T:=hP▸tok
 have hf:X.P.funcs[84]? = some Tryz.f84:=hP▸Tryz.func84
 have Yn:∀ (Qtu:Bool),(Qcq.j1 Qtu)=r->AK X 84 ((K84 11 1)) (Yt X [] (.b r)) ⟨18,[(3,.b Qtu)],[]⟩:=by
  intro Qtu H
  obtain rfl:=H
  exact Yi hf hX h0 (.b Qtu) [] an (.d (.v _))
 refine Qh hT 8 (K84 110 1) ⟨18,(Qcq.p0 k0++[(4,.d (Qfg a0))]),[.box 33 (Qez a0)]⟩ ?_
 refine Ws (Yk:=[.d (Qfg a0)]) (dst:=some 5) (k':=(K84 110 2)) [1,2,5] [] hP Qi0 (Qbj.Wv a0) (by kernel_rfl) (Qz _) (.cons (Qp _) .nil) (st':=⟨18,(Qcq.p0 k0++[(5,.b (Qbj a0))]),[.box 33 (Qez a0)]⟩) (by kernel_rfl) ?_
 refine Qh hT 1 (K84 110 3) ⟨18,(Qcq.p0 k0++[(6,.b (Qbj a0))]),[.box 33 (Qez a0)]⟩ ?_
 by_cases c1:(Qbj a0)=true
 ·replace H:=iT c1 H
  rw [c1]
  refine Qh hT 6 (K84 110 9) ⟨18,(Qcq.p0 k0++[(12,.b (decide (k0>=a0.Lo)))]),[.box 33 (Qez a0)]⟩ ?_
  by_cases c2:k0>=a0.Lo
  ·replace H:=iT c2 H
   rw [decide_eq_true c2]
   refine Xn hT 7 (K84 11 1) [] ⟨18,[(3,.b (decide (k0 < a0.Hi)))],[]⟩ h0 ?_
   exact Yn (decide (k0 < a0.Hi)) H
  replace H:=iF c2 H
  rw [decide_eq_false c2]
  refine Xn hT 7 (K84 11 1) [] ⟨18,[(3,.b false)],[]⟩ h0 ?_
  exact Yn false H
 replace H:=iF c1 H
 rw [Zz c1]
 refine Xn hT 13 (K84 11 1) [] ⟨18,[(3,.b false)],[]⟩ h0 ?_
 exact Yn false H
theorem Qge.Wv {t0:Bool} (a0:List Qb) (a1:Int) {r:Bool} (H:Qge a0 a1=some r):Yy Tryz.prog 54 [] [.d (Xd t0 a0),.i a1] [] (.b r):=by
 refine Yc Tryz.func54 rfl (nt:=8) rfl (lb rfl) fun X hP h0 hX=>?_
 have hT:Xo X.P T:=hP▸tok
 have hf:X.P.funcs[54]? = some Tryz.f54:=hP▸Tryz.func54
 refine Qh hT 9 (K54 110 2) ⟨8,[(5,.d (Xd t0 a0)),(6,.fn 84 [.ptr 0 0 0 0])],[.box 3 [.i a1]]⟩ ?_
 obtain ⟨v1,h1,H⟩:=ibC H
 refine Ws (Yk:=[.d (Xd t0 a0),.fn 84 [.ptr 0 0 0 0]]) (dst:=some 7) (k':=(K54 110 3)) [7] [] hP Qum (Qbn.Wv (t0:=t0) (Jc:=84) (Jk:=[.rop false 1 (fun _=>[.i a1]) 0 0]) a0 (fun z0=>some (Qcq z0 a1)) Wcr (fun z0 r h=>by obtain rfl:=Yg h;exact Qcq.Wv z0 a1) h1) (by kernel_rfl) (Qz _) (.cons (Qp _) (.cons (.fn 84 (.cons (.look (ty:=3) (cs:=[.i a1]) (by kernel_rfl) rfl) .nil)) .nil)) (st':=⟨8,[(7,.b v1)],[.box 3 [.i a1]]⟩) (by kernel_rfl) ?_
 refine Qh hT 2 (K54 11 1) ⟨8,[(4,.b v1)],[.box 3 [.i a1]]⟩ ?_
 obtain rfl:=Yg H
 exact Yi hf hX h0 (.b v1) [] an (.d (.v _))
theorem Qdn.Wv (a0:Qa) (k0:Qb) (k1:List Qb) {r:Bool} (H:Qdn a0 k0 k1=some r):Yy Tryz.prog 82 [] [.d (Qfr a0),.d (.rop false 1 (fun _=>[.i k0.Lo,.i k0.Hi]) 0 0),.d (.rop false 1 (fun _=>[Xd true k1]) 0 0)] [] (.b r):=by
 refine Yc Tryz.func82 rfl (nt:=23) rfl (lb rfl) fun X hP h0 hX=>?_
 have hT:Xo X.P T:=hP▸tok
 have hf:X.P.funcs[82]? = some Tryz.f82:=hP▸Tryz.func82
 have Yn:∀ (Qc9:Bool),(Qdn.j1 Qc9)=some r->AK X 82 ((K82 11 1)) (Yt X [] (.b r)) ⟨23,[(4,.b Qc9)],[]⟩:=by
  intro Qc9 H
  obtain rfl:=Yg H
  exact Yi hf hX h0 (.b Qc9) [] an (.d (.v _))
 refine Qh hT 13 (K82 110 6) ⟨23,[(1,.d (.rop false 1 (fun _=>[.i k0.Lo,.i k0.Hi]) 0 0)),(2,.d (.rop false 1 (fun _=>[Xd true k1]) 0 0)),(3,.ptr 0 0 0 0),(10,.b (decide (a0.Key>=k0.Lo)))],[.box 81 (Qb2 a0)]⟩ ?_
 by_cases c1:a0.Key>=k0.Lo
 ·replace H:=iT c1 H
  rw [decide_eq_true c1]
  refine Qh hT 7 (K82 110 13) ⟨23,[(2,.d (.rop false 1 (fun _=>[Xd true k1]) 0 0)),(3,.ptr 0 0 0 0),(17,.b (decide (a0.Key < k0.Hi)))],[.box 81 (Qb2 a0)]⟩ ?_
  by_cases c2:a0.Key < k0.Hi
  ·replace H:=iT c2 H
   rw [decide_eq_true c2]
   refine Qh hT 3 (K82 110 16) ⟨23,[(17,.b true),(18,.d (Xd true k1)),(20,.i a0.Key)],[.box 81 (Qb2 a0)]⟩ ?_
   obtain ⟨v1,h3,H⟩:=ibC H
   refine Ws (Yk:=[.d (Xd true k1),.i a0.Key]) (dst:=some 21) (k':=(K82 110 17)) [17,21] [] hP Qo0 (Qge.Wv (t0:=true) k1 a0.Key h3) (by kernel_rfl) (Qz _) (.cons (Qp _) (.cons (Qp _) .nil)) (st':=⟨23,[(17,.b true),(21,.b v1)],[.box 81 (Qb2 a0)]⟩) (by kernel_rfl) ?_
   refine Xn hT 3 (K82 11 1) [] ⟨23,[(4,.b v1)],[]⟩ h0 ?_
   exact Yn v1 H
  replace H:=iF c2 H
  rw [decide_eq_false c2]
  refine Xn hT 7 (K82 11 1) [] ⟨23,[(4,.b false)],[]⟩ h0 ?_
  exact Yn false H
 replace H:=iF c1 H
 rw [decide_eq_false c1]
 refine Xn hT 14 (K82 11 1) [] ⟨23,[(4,.b false)],[]⟩ h0 ?_
 exact Yn false H
theorem Qi6.Wv (a0:List Qa) (a1:Qb) (a2:List Qb) {r:List Qa} (H:Qi6 a0 a1 a2=some r):Yy Tryz.prog 52 [Xj a0] [.own 0 2 0 a0.length,.d (Qfg a1),.d (Xd true a2)] [.gone,Xj r] (.own 1 2 0 r.length):=by
 refine Yc Tryz.func52 rfl (nt:=10) rfl (lb rfl) fun X hP h0 hX=>?_
 have hT:Xo X.P T:=hP▸tok
 have hf:X.P.funcs[52]? = some Tryz.f52:=hP▸Tryz.func52
 refine Qlj 0 (r:=Xj a0) rfl rfl (st':=⟨10,[(0,.own 1 2 0 a0.length),(1,.d (Qfg a1)),(2,.d (Xd true a2))],[.gone,Xj a0]⟩) (by kernel_rfl) (by kernel_rfl) rfl ?_
 refine Qh hT 10 (K52 110 2) ⟨10,[(7,.own 1 2 0 a0.length),(8,.fn 82 [.ptr 2 0 0 0,.ptr 3 0 0 0])],[.gone,Xj a0,.box 33 (Qez a1),.box 34 [.d (Xd true a2)]]⟩ ?_
 obtain ⟨v1,h1,H⟩:=ibC H
 refine Ws (Yk:=[.own 1 2 0 a0.length,.fn 82 [.ptr 2 0 0 0,.ptr 3 0 0 0]]) (dst:=some 9) (k':=(K52 110 3)) [9] [1] hP Wcp (Xy.Wv (Jc:=82) (Jk:=[.rop false 1 (fun _=>[.i a1.Lo,.i a1.Hi]) 0 0,.rop false 1 (fun _=>[Xd true a2]) 0 0]) a0 (fun z0=>Qdn z0 a1 a2) Wcq (fun z0 r h=>Qdn.Wv z0 a1 a2 h) h1) (by kernel_rfl) (Qf1 rfl rfl) (.cons (.same (.own 0 2 0 a0.length)) (.cons (.fn 82 (.cons (.look (ty:=33) (cs:=[.i a1.Lo,.i a1.Hi]) (by kernel_rfl) rfl) (.cons (.look (ty:=34) (cs:=[Xd true a2]) (by kernel_rfl) rfl) .nil))) .nil)) (st':=⟨10,[(9,.own 4 2 0 v1.length)],[.gone,.gone,.box 33 (Qez a1),.box 34 [.d (Xd true a2)],Xj v1]⟩) (by kernel_rfl) ?_
 refine Qh hT 2 (K52 11 1) ⟨10,[(6,.own 4 2 0 v1.length)],[.gone,.gone,.box 33 (Qez a1),.box 34 [.d (Xd true a2)],Xj v1]⟩ ?_
 obtain rfl:=Yg H
 exact Yi hf hX h0 (.own 4 2 0 v1.length) [0,4] (ac .gone (ac (Qa1 Qa.nl) an)) (.own _ _ _ _)
theorem Qdw.Wv (a0:Ql) {r:Bool} (H:Qdw a0=some r):Yy Tryz.prog 53 [] [.d (Qas a0)] [] (.b r):=by
 refine Yc Tryz.func53 rfl (nt:=15) rfl (lb rfl) fun X hP h0 hX=>?_
 have hT:Xo X.P T:=hP▸tok
 have hf:X.P.funcs[53]? = some Tryz.f53:=hP▸Tryz.func53
 refine Qh hT 8 (K53 110 1) ⟨15,[(1,.ptr 0 0 0 0),(3,.d (Qas a0))],[.box 39 (Ya a0)]⟩ ?_
 obtain ⟨v1,h1,H⟩:=ibC H
 have Yn:∀ (Qa8:Bool),(Qdw.j1 Qa8)=some r->AK X 53 ((K53 11 1)) (Yt X [] (.b r)) ⟨15,[(2,.b Qa8)],[]⟩:=by
  intro Qa8 H
  obtain rfl:=Yg H
  exact Yi hf hX h0 (.b Qa8) [] an (.d (.v _))
 refine Ws (Yk:=[.d (Qas a0)]) (dst:=some 4) (k':=(K53 110 2)) [1,4] [] hP Qgs (Qbg.Wv a0 h1) (by kernel_rfl) (Qz _) (.cons (Qp _) .nil) (st':=⟨15,[(1,.ptr 0 0 0 0),(4,.b v1)],[.box 39 (Ya a0)]⟩) (by kernel_rfl) ?_
 refine Qh hT 1 (K53 110 3) ⟨15,[(1,.ptr 0 0 0 0),(5,.b v1)],[.box 39 (Ya a0)]⟩ ?_
 by_cases c2:v1=true
 ·replace H:=iT c2 H
  rw [c2]
  refine Qh hT 4 (K53 110 7) ⟨15,[(1,.ptr 0 0 0 0),(5,.b true),(9,.b (a0.Kind == 3))],[.box 39 (Ya a0)]⟩ ?_
  by_cases c3:a0.Kind=3
  ·replace H:=iT c3 H
   rw [eqT c3]
   refine Xn hT 7 (K53 11 1) [] ⟨15,[(2,.b true)],[]⟩ h0 ?_
   exact Yn true H
  replace H:=iF c3 H
  rw [eqF c3]
  refine Xn hT 7 (K53 11 1) [] ⟨15,[(2,.b (a0.Kind == 4))],[]⟩ h0 ?_
  exact Yn (a0.Kind == 4) H
 replace H:=iF c2 H
 rw [Zz c2]
 refine Xn hT 11 (K53 11 1) [] ⟨15,[(2,.b false)],[]⟩ h0 ?_
 exact Yn false H
abbrev Wz.p0 (t0:Bool) (a0:List Qa) (a1:Int):List (Nat × AV):=[(0,.d (Xw t0 a0)),(1,.i a1)]
theorem Wz.Wv {t0:Bool} {ff2:FuncId} {cc2:List DV} (a0:List Qa) (a1:Int) (p2:Qa->Int->Option Int) (he2:Sy.Enters Tryz.prog ff2) (hp2:∀ (z0:Qa) (z1:Int) r,p2 z0 z1=some r->Yy Tryz.prog ff2 [] ([.d (Qfr z0),.i z1] ++ List.map AV.d cc2) [] (.i r)) {r:Int × Bool} (H:Wz a0 a1 p2=some r):Yy Tryz.prog 110 [] [.d (Xw t0 a0),.i a1,.d (.fn ff2 cc2)] [] (.Qn [.i r.1,.b r.2]):=by
 refine Yc Tryz.func110 rfl (nt:=49) rfl (lb rfl) fun X hP h0 hX=>?_
 have hT:Xo X.P T:=hP▸tok
 have hf:X.P.funcs[110]? = some Tryz.f110:=hP▸Tryz.func110
 refine Qh hT 20 (Qg3 111100 0) ⟨49,(Wz.p0 t0 a0 a1++[(2,.d (.fn ff2 cc2)),(8,.i (a0.length:Int)),(9,.i 0),(10,.i (a0.length:Int))]),[]⟩ ?_
 have L:∀ n,(∀ (Qao:Int) (Qs:Int),iter (Wz.step a0 a1 p2) n (.l1 Qao Qs)=some r->AK X 110 ((Qg3 111100 0)) (Yt X [] (.Qn [.i r.1,.b r.2])) ⟨49,(Wz.p0 t0 a0 a1++[(2,.d (.fn ff2 cc2)),(8,.i (a0.length:Int)),(9,.i Qao),(10,.i Qs)]),[]⟩):=by
  intro n
  induction n with
  | zero=>exact fun _ _ H=>Qbd H
  | succ n ih=>
   ·intro Qao Qs H
    refine Qh hT 7 (Qg3 11110000 1) ⟨49,(Wz.p0 t0 a0 a1++[(2,.d (.fn ff2 cc2)),(8,.i (a0.length:Int)),(9,.i Qao),(10,.i Qs),(17,.b (decide (Qao < Qs)))]),[]⟩ ?_
    by_cases c1:Qao < Qs
    ·replace H:=sT c1 H
     rw [decide_eq_true c1]
     refine Qh hT 2 (Qg3 1111000 1) ⟨49,(Wz.p0 t0 a0 a1++[(2,.d (.fn ff2 cc2)),(8,.i (a0.length:Int)),(9,.i Qao),(10,.i Qs)]),[]⟩ ?_
     refine Qh hT 10 (Qg3 1111000100 7) ⟨49,(Wz.p0 t0 a0 a1++[(2,.d (.fn ff2 cc2)),(8,.i (a0.length:Int)),(9,.i Qao),(10,.i Qs),(11,.i (IntKind.wrap .i64 (Int.fdiv (IntKind.wrap .u64 (IntKind.wrap .i64 (Qao+Qs))) 2)))]),[]⟩ ?_
     obtain ⟨v2,h5,H⟩:=sdC H
     rw [<- h5]
     refine Qh hT 6 (Qg3 11110001010 3) ⟨49,(Wz.p0 t0 a0 a1++[(2,.d (.fn ff2 cc2)),(8,.i (a0.length:Int)),(9,.i Qao),(10,.i Qs),(11,.i v2),(24,.d (.fn ff2 cc2)),(25,.d (Xw t0 a0)),(26,.i v2)]),[]⟩ ?_
     obtain ⟨h6,H⟩:=sC H
     refine Jf hT [0,1,2,8,9,10,11,24,27] (i:=v2) (n:=(a0.length:Int)) h6.1 h6.2 (k':=(Qg3 11110001010 4)) (st':=⟨49,(Wz.p0 t0 a0 a1++[(2,.d (.fn ff2 cc2)),(8,.i (a0.length:Int)),(9,.i Qao),(10,.i Qs),(11,.i v2),(24,.d (.fn ff2 cc2)),(27,.d (Qef t0 a0 v2.toNat 0))]),[]⟩) (by kernel_rfl) ?_
     refine Qh hT 2 (Qg3 11110001010 6) ⟨49,(Wz.p0 t0 a0 a1++[(2,.d (.fn ff2 cc2)),(8,.i (a0.length:Int)),(9,.i Qao),(10,.i Qs),(11,.i v2),(24,.d (.fn ff2 cc2)),(28,.d (Qfr (a0.getD v2.toNat Qa.z))),(29,.i a1)]),[]⟩ ?_
     obtain ⟨v3,h7,H⟩:=sbC H
     refine Ws (Yk:=[.d (Qfr (a0.getD v2.toNat Qa.z)),.i a1] ++ List.map AV.d cc2) (dst:=some 30) (k':=(Qg3 11110001010 7)) [0,1,2,8,9,10,11,30] [] hP he2 (hp2 (a0.getD v2.toNat Qa.z) a1 v3 h7) (by kernel_rfl) (Qz _) (.cons (Qp _) (.cons (Qp _) (Qh1 _))) (st':=⟨49,(Wz.p0 t0 a0 a1++[(2,.d (.fn ff2 cc2)),(8,.i (a0.length:Int)),(9,.i Qao),(10,.i Qs),(11,.i v2),(30,.i v3)]),[]⟩) (by kernel_rfl) ?_
     refine Qh hT 2 (Qg3 1111000101 1) ⟨49,(Wz.p0 t0 a0 a1++[(2,.d (.fn ff2 cc2)),(8,.i (a0.length:Int)),(9,.i Qao),(10,.i Qs),(11,.i v2),(31,.b (decide (v3 < 0)))]),[]⟩ ?_
     by_cases c8:v3 < 0
     ·replace H:=sT c8 H
      rw [decide_eq_true c8]
      refine Qh hT 8 (Qg3 111100 0) ⟨49,(Wz.p0 t0 a0 a1++[(2,.d (.fn ff2 cc2)),(8,.i (a0.length:Int)),(9,.i (IntKind.wrap .i64 (v2+1))),(10,.i Qs)]),[]⟩ ?_
      exact ih (IntKind.wrap .i64 (v2+1)) Qs H
     replace H:=sF c8 H
     rw [decide_eq_false c8]
     refine Qh hT 7 (Qg3 111100 0) ⟨49,(Wz.p0 t0 a0 a1++[(2,.d (.fn ff2 cc2)),(8,.i (a0.length:Int)),(9,.i Qao),(10,.i v2)]),[]⟩ ?_
     exact ih Qao v2 H
    replace H:=sF c1 H
    have Yn:∀ (Qtw:Bool),stk (Wz.j1 Qao Qtw) (iter (Wz.step a0 a1 p2) n)=some r->AK X 110 ((Qg3 11111 1)) (Yt X [] (.Qn [.i r.1,.b r.2])) ⟨49,[(6,.i Qao),(7,.b Qtw)],[]⟩:=by
     intro Qtw H
     obtain rfl:=Yg H
     exact Yi hf hX h0 (.Qn [.i Qao,.b Qtw]) [] an (.Qn (.cons (.d (.v _)) (.cons (.d (.v _)) .nil)))
    rw [decide_eq_false c1]
    refine Qh hT 9 (Qg3 111110 5) ⟨49,(Wz.p0 t0 a0 a1++[(2,.d (.fn ff2 cc2)),(9,.i Qao),(35,.i Qao),(39,.b (decide (Qao < (a0.length:Int))))]),[]⟩ ?_
    by_cases c2:Qao < (a0.length:Int)
    ·replace H:=sT c2 H
     rw [decide_eq_true c2]
     refine Qh hT 3 (Qg3 111110 8) ⟨49,[(1,.i a1),(35,.i Qao),(39,.b true),(40,.d (.fn ff2 cc2)),(41,.d (Xw t0 a0)),(42,.i Qao)],[]⟩ ?_
     obtain ⟨h3,H⟩:=sC H
     refine Jf hT [1,35,39,40,43] (i:=Qao) (n:=(a0.length:Int)) h3.1 h3.2 (k':=(Qg3 111110 9)) (st':=⟨49,[(1,.i a1),(35,.i Qao),(39,.b true),(40,.d (.fn ff2 cc2)),(43,.d (Qef t0 a0 Qao.toNat 0))],[]⟩) (by kernel_rfl) ?_
     refine Qh hT 2 (Qg3 111110 11) ⟨49,[(35,.i Qao),(39,.b true),(40,.d (.fn ff2 cc2)),(44,.d (Qfr (a0.getD Qao.toNat Qa.z))),(45,.i a1)],[]⟩ ?_
     obtain ⟨v1,h4,H⟩:=sbC H
     refine Ws (Yk:=[.d (Qfr (a0.getD Qao.toNat Qa.z)),.i a1] ++ List.map AV.d cc2) (dst:=some 46) (k':=(Qg3 111110 12)) [35,39,46] [] hP he2 (hp2 (a0.getD Qao.toNat Qa.z) a1 v1 h4) (by kernel_rfl) (Qz _) (.cons (Qp _) (.cons (Qp _) (Qh1 _))) (st':=⟨49,[(35,.i Qao),(39,.b true),(46,.i v1)],[]⟩) (by kernel_rfl) ?_
     refine Qh hT 5 (Qg3 11111 1) ⟨49,[(6,.i Qao),(7,.b (v1 == 0))],[]⟩ ?_
     exact Yn (v1 == 0) H
    replace H:=sF c2 H
    rw [decide_eq_false c2]
    refine Qh hT 12 (Qg3 11111 1) ⟨49,[(6,.i Qao),(7,.b false)],[]⟩ ?_
    exact Yn false H
 obtain ⟨n,H⟩:=Qbz H
 exact (L n) 0 (a0.length:Int) H
theorem Qfl.Wv (a0:Qa) (a1:Int):Yy Tryz.prog 111 [] [.d (Qfr a0),.i a1] [] (.i (Qfl a0 a1)):=by
 obtain ⟨r,H⟩:∃ r,Qfl a0 a1=r:=⟨_,rfl⟩
 rw [H]
 refine Yc Tryz.func111 rfl (nt:=9) rfl (lb rfl) fun X hP h0 hX=>?_
 have hT:Xo X.P T:=hP▸tok
 have hf:X.P.funcs[111]? = some Tryz.f111:=hP▸Tryz.func111
 refine Qh hT 10 (Wen 110 3) ⟨9,[(6,.i a0.Key),(7,.i a1)],[.box 81 (Qb2 a0)]⟩ ?_
 refine Ws (Yk:=[.i a0.Key,.i a1]) (dst:=some 8) (k':=(Wen 110 4)) [8] [] hP Qkl (Zc.Wv a0.Key a1) (by kernel_rfl) (Qz _) (.cons (Qp _) (.cons (Qp _) .nil)) (st':=⟨9,[(8,.i (Zc a0.Key a1))],[.box 81 (Qb2 a0)]⟩) (by kernel_rfl) ?_
 refine Qh hT 2 (Wen 11 1) ⟨9,[(4,.i (Zc a0.Key a1))],[.box 81 (Qb2 a0)]⟩ ?_
 obtain rfl:=H
 exact Yi hf hX h0 (.i (Zc a0.Key a1)) [] an (.d (.v _))
theorem Qgw.Wv {t0:Bool} (a0:List Qa) (a1:Int) {r:Int × Bool} (H:Qgw a0 a1=some r):Yy Tryz.prog 85 [] [.d (Xw t0 a0),.i a1] [] (.Qn [.i r.1,.b r.2]):=by
 refine Yc Tryz.func85 rfl (nt:=11) rfl (lb rfl) fun X hP h0 hX=>?_
 have hT:Xo X.P T:=hP▸tok
 have hf:X.P.funcs[85]? = some Tryz.f85:=hP▸Tryz.func85
 refine Qh hT 9 (K85 110 2) ⟨11,[(6,.d (Xw t0 a0)),(7,.i a1)],[]⟩ ?_
 obtain ⟨v1,h1,H⟩:=ibC H
 refine Ws (Yk:=[.d (Xw t0 a0),.i a1,.d (.fn 111 [])]) (dst:=some 8) (k':=(K85 110 3)) [8] [] hP Qzv (Wz.Wv (t0:=t0) (ff2:=111) (cc2:=[]) a0 a1 (fun z0 z1=>some (Qfl z0 z1)) Qzw (fun z0 z1 r h=>by obtain rfl:=Yg h;exact Qfl.Wv z0 z1) h1) (by kernel_rfl) (Qz _) (.cons (Qp _) (.cons (Qp _) (.cons (Qp _) .nil))) (st':=⟨11,[(8,.Qn [.i v1.1,.b v1.2])],[]⟩) (by kernel_rfl) ?_
 refine Qh hT 5 (K85 11 1) ⟨11,[(4,.i v1.1),(5,.b v1.2)],[]⟩ ?_
 obtain rfl:=Yg H
 exact Yi hf hX h0 (.Qn [.i v1.1,.b v1.2]) [] an (.Qn (.cons (.d (.v _)) (.cons (.d (.v _)) .nil)))
theorem Qf3.Wv {t0:Bool} (a0:List Qa) (a1:Int) {r:Int × Bool} (H:Qf3 a0 a1=some r):Yy Tryz.prog 58 [] [.d (Xw t0 a0),.i a1] [] (.Qn [.i r.1,.b r.2]):=by
 refine Yc Tryz.func58 rfl (nt:=20) rfl (lb rfl) fun X hP h0 hX=>?_
 have hT:Xo X.P T:=hP▸tok
 have hf:X.P.funcs[58]? = some Tryz.f58:=hP▸Tryz.func58
 refine Qh hT 10 (K58 1100 2) ⟨20,[(0,.d (Xw t0 a0)),(9,.d (Xw t0 a0)),(10,.i a1)],[]⟩ ?_
 obtain ⟨v1,h1,H⟩:=ibC H
 refine Ws (Yk:=[.d (Xw t0 a0),.i a1]) (dst:=some 11) (k':=(K58 1100 3)) [0,11] [] hP Qun (Qgw.Wv (t0:=t0) a0 a1 h1) (by kernel_rfl) (Qz _) (.cons (Qp _) (.cons (Qp _) .nil)) (st':=⟨20,[(0,.d (Xw t0 a0)),(11,.Qn [.i v1.1,.b v1.2])],[]⟩) (by kernel_rfl) ?_
 refine Qh hT 10 (K58 1101 1) ⟨20,[(0,.d (Xw t0 a0)),(6,.i v1.1),(14,.b v1.2)],[]⟩ ?_
 by_cases c2:v1.2=true
 ·replace H:=iT c2 H
  rw [c2]
  refine Qh hT 5 (K58 1101100 2) ⟨20,[(15,.d (Xw t0 a0)),(16,.i v1.1)],[]⟩ ?_
  obtain ⟨h3,H⟩:=iC H
  refine Jf hT [17] (i:=v1.1) (n:=(a0.length:Int)) h3.1 h3.2 (k':=(K58 1101100 3)) (st':=⟨20,[(17,.d (Qef t0 a0 v1.1.toNat 0))],[]⟩) (by kernel_rfl) ?_
  refine Qh hT 5 (K58 110110 1) ⟨20,[(4,.i ((a0.getD v1.1.toNat Qa.z).Val)),(5,.b true)],[]⟩ ?_
  obtain rfl:=Yg H
  exact Yi hf hX h0 (.Qn [.i ((a0.getD v1.1.toNat Qa.z).Val),.b true]) [] an (.Qn (.cons (.d (.v _)) (.cons (.d (.v _)) .nil)))
 replace H:=iF c2 H
 rw [Zz c2]
 refine Qh hT 2 (K58 11 1) ⟨20,[],[]⟩ ?_
 refine Qh hT 5 (K58 111 1) ⟨20,[(4,.i 0),(5,.b false)],[]⟩ ?_
 obtain rfl:=Yg H
 exact Yi hf hX h0 (.Qn [.i 0,.b false]) [] an (.Qn (.cons (.d (.v _)) (.cons (.d (.v _)) .nil)))
theorem Qec.Wv (a0:List Qa) (a1:Int) (a2:Int) {r:List Qa} (H:Qec a0 a1 a2=some r):Yy Tryz.prog 56 [Xj a0] [.own 0 2 0 a0.length,.i a1,.i a2] [.gone,Xj r] (.own 1 2 0 r.length):=by
 refine Yc Tryz.func56 rfl (nt:=29) rfl (lb rfl) fun X hP h0 hX=>?_
 have hT:Xo X.P T:=hP▸tok
 have hf:X.P.funcs[56]? = some Tryz.f56:=hP▸Tryz.func56
 refine Qlj 0 (r:=Xj a0) rfl rfl (st':=⟨29,[(0,.own 1 2 0 a0.length),(1,.i a1),(2,.i a2)],[.gone,Xj a0]⟩) (by kernel_rfl) (by kernel_rfl) rfl ?_
 refine Qh hT 8 (K56 110 2) ⟨29,[(0,.own 1 2 0 a0.length),(1,.i a1),(2,.i a2),(10,.own 1 2 0 a0.length),(11,.i a1)],[.gone,Xj a0]⟩ ?_
 obtain ⟨v1,h1,H⟩:=ibC H
 refine Ws (Yk:=[.own 1 2 0 a0.length,.i a1]) (dst:=some 12) (k':=(K56 110 3)) [0,1,2,12] [] hP Qun (Qgw.Wv (t0:=false) a0 a1 h1) (by kernel_rfl) (Qz _) (.cons (.Qek (ty:=81) (by kernel_rfl) rfl) (.cons (Qp _) .nil)) (st':=⟨29,[(0,.own 1 2 0 a0.length),(1,.i a1),(2,.i a2),(12,.Qn [.i v1.1,.b v1.2])],[.gone,Xj a0]⟩) (by kernel_rfl) ?_
 refine Qh hT 11 (K56 1110 1) ⟨29,[(0,.own 1 2 0 a0.length),(1,.i a1),(2,.i a2),(7,.i v1.1),(15,.b v1.2)],[.gone,Xj a0]⟩ ?_
 by_cases c2:v1.2=true
 ·replace H:=iT c2 H
  rw [c2]
  refine Qh hT 6 (K56 1110100 3) ⟨29,[(0,.own 1 2 0 a0.length),(16,.own 1 2 0 a0.length),(17,.i v1.1),(18,.i a2)],[.gone,Xj a0]⟩ ?_
  obtain ⟨h3,H⟩:=iC H
  refine Jf hT [0,18,19] (i:=v1.1) (n:=(a0.length:Int)) h3.1 h3.2 (k':=(K56 1110100 4)) (st':=⟨29,[(0,.own 1 2 0 a0.length),(18,.i a2),(19,.ptr 1 2 v1.1.toNat 0)],[.gone,Xj a0]⟩) (by kernel_rfl) ?_
  refine Qh hT 1 (K56 1110100 5) ⟨29,[(0,.own 1 2 0 a0.length),(18,.i a2),(20,.ptr 1 2 v1.1.toNat 1)],[.gone,Xj a0]⟩ ?_
  refine Qvk (id:=1) (kk:=2) (i:=v1.1.toNat) (off:=1) (s:=1) (n:=a0.length) (ty:=81) (ds:=[.i a2]) (g:=vec Qa.e Qa.z a0) (k':=(K56 1110100 6)) hT [0] (vec Qa.e Qa.z (a0.set v1.1.toNat (⟨(a0.getD v1.1.toNat Qa.z).Key,a2⟩:Qa))) (by kernel_rfl) (by kernel_rfl) (ltN h3.1 h3.2) ((Qqc (ltN h3.1 h3.2)).trans (by kernel_rfl)) Qk8 (st':=⟨29,[(0,.own 1 2 0 (a0.length))],[.gone,.flat false 2 81 a0.length (vec Qa.e Qa.z (a0.set v1.1.toNat (⟨(a0.getD v1.1.toNat Qa.z).Key,a2⟩:Qa)))]⟩) (by kernel_rfl) ?_
  refine Qr9 (show a0.length=(a0.set v1.1.toNat (⟨(a0.getD v1.1.toNat Qa.z).Key,a2⟩:Qa)).length from (List.length_set ..).symm) (fun nn=>⟨29,[(0,.own 1 2 0 (nn))],[.gone,.flat false 2 81 nn (vec Qa.e Qa.z (a0.set v1.1.toNat (⟨(a0.getD v1.1.toNat Qa.z).Key,a2⟩:Qa)))]⟩) ?_
  refine Qh hT 6 (K56 1110101 1) ⟨29,[(6,.own 1 2 0 ((a0.set v1.1.toNat (⟨(a0.getD v1.1.toNat Qa.z).Key,a2⟩:Qa)).length))],[.gone,Xj (a0.set v1.1.toNat (⟨(a0.getD v1.1.toNat Qa.z).Key,a2⟩:Qa))]⟩ ?_
  obtain rfl:=Yg H
  exact Yi hf hX h0 (.own 1 2 0 ((a0.set v1.1.toNat (⟨(a0.getD v1.1.toNat Qa.z).Key,a2⟩:Qa)).length)) [0,1] (ac .gone (ac (Qa1 Qa.nl) an)) (.own _ _ _ _)
 replace H:=iF c2 H
 rw [Zz c2]
 refine Qh hT 2 (K56 111 1) ⟨29,[(0,.own 1 2 0 a0.length),(1,.i a1),(2,.i a2),(7,.i v1.1)],[.gone,Xj a0]⟩ ?_
 refine Qh hT 8 (K56 11110 6) ⟨29,[(22,.own 1 2 0 a0.length),(23,.i v1.1),(27,.own 2 2 0 1)],[.gone,Xj a0,.flat false 2 81 1 (fun j=>[[.i a1,.i a2]].getD j [])]⟩ ?_
 obtain ⟨h4,H⟩:=iC H
 refine Ws (Yk:=[.own 1 2 0 a0.length,.i v1.1,.own 2 2 0 1]) (dst:=some 28) (k':=(K56 11110 7)) [28] [1,2] hP Wcs (Wfw a0 v1.1 (⟨a1,a2⟩:Qa) h4) (by kernel_rfl) (Qur rfl rfl rfl rfl (by decide)) (.cons (.same (.own 0 2 0 a0.length)) (.cons (Qp _) (.cons (.same (.own 1 2 0 1)) .nil))) (st':=⟨29,[(28,.own 3 2 0 ((a0.take v1.1.toNat ++ (⟨a1,a2⟩:Qa) :: a0.drop v1.1.toNat).length))],[.gone,.gone,.gone,Xj (a0.take v1.1.toNat ++ (⟨a1,a2⟩:Qa) :: a0.drop v1.1.toNat)]⟩) (by kernel_rfl) ?_
 refine Qh hT 2 (K56 1111 1) ⟨29,[(6,.own 3 2 0 ((a0.take v1.1.toNat ++ (⟨a1,a2⟩:Qa) :: a0.drop v1.1.toNat).length))],[.gone,.gone,.gone,Xj (a0.take v1.1.toNat ++ (⟨a1,a2⟩:Qa) :: a0.drop v1.1.toNat)]⟩ ?_
 obtain rfl:=Yg H
 exact Yi hf hX h0 (.own 3 2 0 ((a0.take v1.1.toNat ++ (⟨a1,a2⟩:Qa) :: a0.drop v1.1.toNat).length)) [0,3] (ac .gone (ac (Qa1 Qa.nl) an)) (.own _ _ _ _)
abbrev Jd.q1 (a0:List Qa) (a1:Ql):List Row:=[.gone,Xj a0,.box 39 (Ya a1),.box 81 (Qb2 (a1.Pairs.getD 0 Qa.z))]
abbrev Jd.p0 (a0:List Qa):List (Nat × AV):=[(0,.own 1 2 0 a0.length),(3,.ptr 2 0 0 0),(6,.ptr 3 0 0 0)]
theorem Jd.Wv (a0:List Qa) (a1:Ql) {r:(List Qa) × Bool} (H:Jd a0 a1=some r):Yy Tryz.prog 55 [Xj a0] [.own 0 2 0 a0.length,.d (Qas a1)] [.gone,Xj r.1] (.Qn [.own 1 2 0 r.1.length,.b r.2]):=by
 refine Yc Tryz.func55 rfl (nt:=57) rfl (lb rfl) fun X hP h0 hX=>?_
 have hT:Xo X.P T:=hP▸tok
 have hf:X.P.funcs[55]? = some Tryz.f55:=hP▸Tryz.func55
 refine Qlj 0 (r:=Xj a0) rfl rfl (st':=⟨57,[(0,.own 1 2 0 a0.length),(1,.d (Qas a1))],[.gone,Xj a0]⟩) (by kernel_rfl) (by kernel_rfl) rfl ?_
 refine Qh hT 10 (K55 110 2) ⟨57,[(0,.own 1 2 0 a0.length),(3,.ptr 2 0 0 0),(10,.d (Xw true a1.Pairs))],[.gone,Xj a0,.box 39 (Ya a1)]⟩ ?_
 obtain ⟨h1,H⟩:=iC H
 refine Jf hT [0,3,11] (i:=0) (n:=(a1.Pairs.length:Int)) h1.1 h1.2 (k':=(K55 110 3)) (st':=⟨57,[(0,.own 1 2 0 a0.length),(3,.ptr 2 0 0 0),(11,.d (Qef true a1.Pairs 0 0))],[.gone,Xj a0,.box 39 (Ya a1)]⟩) (by kernel_rfl) ?_
 refine Qh hT 9 (K55 1110 3) ⟨57,(Jd.p0 a0++[(14,.own 1 2 0 a0.length),(16,.i ((a1.Pairs.getD 0 Qa.z).Key))]),(Jd.q1 a0 a1)⟩ ?_
 obtain ⟨v1,h2,H⟩:=ibC H
 refine Ws (Yk:=[.own 1 2 0 a0.length,.i ((a1.Pairs.getD 0 Qa.z).Key)]) (dst:=some 17) (k':=(K55 1110 4)) [0,3,6,17] [] hP Qo1 (Qf3.Wv (t0:=false) a0 ((a1.Pairs.getD 0 Qa.z).Key) h2) (by kernel_rfl) (Qz _) (.cons (.Qek (ty:=81) (by kernel_rfl) rfl) (.cons (Qp _) .nil)) (st':=⟨57,(Jd.p0 a0++[(17,.Qn [.i v1.1,.b v1.2])]),(Jd.q1 a0 a1)⟩) (by kernel_rfl) ?_
 refine Qh hT 13 (K55 11110 1) ⟨57,(Jd.p0 a0++[(7,.i v1.1),(8,.b v1.2),(22,.b (a1.Kind == 3))]),(Jd.q1 a0 a1)⟩ ?_
 by_cases c3:a1.Kind=3
 ·replace H:=iT c3 H
  have Yn:∀ (Qfo:Bool),(Jd.j1 a0 a1 v1 Qfo)=some r->AK X 55 ((K55 11110100 1)) (Yt X [.gone,Xj r.1] (.Qn [.own 1 2 0 r.1.length,.b r.2])) ⟨57,[(0,.own 1 2 0 a0.length),(6,.ptr 2 0 0 0),(7,.i v1.1),(34,.b Qfo)],[.gone,Xj a0,.box 81 (Qb2 (a1.Pairs.getD 0 Qa.z))]⟩:=by
   intro Qfo H
   by_cases c5:Qfo=true
   ·replace H:=iT c5 H
    rw [c5]
    refine Qh hT 7 (K55 1111010010 1) ⟨57,[(4,.own 1 2 0 a0.length),(5,.b false)],[.gone,Xj a0,.box 81 (Qb2 (a1.Pairs.getD 0 Qa.z))]⟩ ?_
    obtain rfl:=Yg H
    exact Yi hf hX h0 (.Qn [.own 1 2 0 a0.length,.b false]) [0,1] (ac .gone (ac (Qa1 Qa.nl) an)) (.Qn (.cons (.own _ _ _ _) (.cons (.d (.v _)) .nil)))
   replace H:=iF c5 H
   rw [Zz c5]
   refine Qh hT 2 (K55 1111010 1) ⟨57,[(0,.own 1 2 0 a0.length),(6,.ptr 2 0 0 0),(7,.i v1.1)],[.gone,Xj a0,.box 81 (Qb2 (a1.Pairs.getD 0 Qa.z))]⟩ ?_
   refine Qh hT 9 (K55 111101010 7) ⟨57,[(36,.own 1 2 0 a0.length),(38,.i ((a1.Pairs.getD 0 Qa.z).Key)),(42,.i (IntKind.wrap .i64 (v1.1+((a1.Pairs.getD 0 Qa.z).Val))))],[.gone,Xj a0,.box 81 (Qb2 (a1.Pairs.getD 0 Qa.z))]⟩ ?_
   obtain ⟨v2,h6,H⟩:=ibC H
   refine Ws (Yk:=[.own 1 2 0 a0.length,.i ((a1.Pairs.getD 0 Qa.z).Key),.i (IntKind.wrap .i64 (v1.1+((a1.Pairs.getD 0 Qa.z).Val)))]) (dst:=some 43) (k':=(K55 111101010 8)) [43] [1] hP Qmc (Qec.Wv a0 ((a1.Pairs.getD 0 Qa.z).Key) (IntKind.wrap .i64 (v1.1+((a1.Pairs.getD 0 Qa.z).Val))) h6) (by kernel_rfl) (Qf1 rfl rfl) (.cons (.same (.own 0 2 0 a0.length)) (.cons (Qp _) (.cons (Qp _) .nil))) (st':=⟨57,[(43,.own 3 2 0 v2.length)],[.gone,.gone,.box 81 (Qb2 (a1.Pairs.getD 0 Qa.z)),Xj v2]⟩) (by kernel_rfl) ?_
   refine Qh hT 3 (K55 11110101 1) ⟨57,[(4,.own 3 2 0 v2.length),(5,.b true)],[.gone,.gone,.box 81 (Qb2 (a1.Pairs.getD 0 Qa.z)),Xj v2]⟩ ?_
   obtain rfl:=Yg H
   exact Yi hf hX h0 (.Qn [.own 3 2 0 v2.length,.b true]) [0,3] (ac .gone (ac (Qa1 Qa.nl) an)) (.Qn (.cons (.own _ _ _ _) (.cons (.d (.v _)) .nil)))
  rw [eqT c3]
  refine Qh hT 10 (K55 111101000 6) ⟨57,[(0,.own 1 2 0 a0.length),(6,.ptr 3 0 0 0),(7,.i v1.1),(28,.b (decide ((IntKind.wrap .i64 (v1.1+((a1.Pairs.getD 0 Qa.z).Val))) < 0)))],(Jd.q1 a0 a1)⟩ ?_
  by_cases c4:(IntKind.wrap .i64 (v1.1+((a1.Pairs.getD 0 Qa.z).Val))) < 0
  ·replace H:=iT c4 H
   rw [decide_eq_true c4]
   refine Xn hT 7 (K55 11110100 1) [0,1,3] ⟨57,[(0,.own 1 2 0 a0.length),(6,.ptr 2 0 0 0),(7,.i v1.1),(34,.b true)],[.gone,Xj a0,.box 81 (Qb2 (a1.Pairs.getD 0 Qa.z))]⟩ h0 ?_
   exact Yn true H
  replace H:=iF c4 H
  rw [decide_eq_false c4]
  refine Xn hT 7 (K55 11110100 1) [0,1,3] ⟨57,[(0,.own 1 2 0 a0.length),(6,.ptr 2 0 0 0),(7,.i v1.1),(34,.b (decide ((IntKind.wrap .i64 (v1.1+((a1.Pairs.getD 0 Qa.z).Val))) > 1099511627776)))],[.gone,Xj a0,.box 81 (Qb2 (a1.Pairs.getD 0 Qa.z))]⟩ h0 ?_
  exact Yn (decide ((IntKind.wrap .i64 (v1.1+((a1.Pairs.getD 0 Qa.z).Val))) > 1099511627776)) H
 replace H:=iF c3 H
 have Jj2:∀ (Qr4:Int),(Jd.j2 a0 a1 Qr4)=some r->AK X 55 ((K55 11111 1)) (Yt X [.gone,Xj r.1] (.Qn [.own 1 2 0 r.1.length,.b r.2])) ⟨57,(Jd.p0 a0++[(7,.i Qr4)]),(Jd.q1 a0 a1)⟩:=by
  intro Qr4 H
  refine Qh hT 8 (K55 1111110 1) ⟨57,[(0,.own 1 2 0 a0.length),(6,.ptr 3 0 0 0),(49,.b (Qr4 != a1.Old))],(Jd.q1 a0 a1)⟩ ?_
  by_cases c8:Qr4=a1.Old
  ·replace H:=iT c8 H
   rw [neF c8]
   refine Qh hT 2 (K55 111111 1) ⟨57,[(0,.own 1 2 0 a0.length),(6,.ptr 3 0 0 0)],(Jd.q1 a0 a1)⟩ ?_
   refine Qh hT 7 (K55 11111110 5) ⟨57,[(51,.own 1 2 0 a0.length),(53,.i ((a1.Pairs.getD 0 Qa.z).Key)),(55,.i ((a1.Pairs.getD 0 Qa.z).Val))],(Jd.q1 a0 a1)⟩ ?_
   obtain ⟨v3,h9,H⟩:=ibC H
   refine Ws (Yk:=[.own 1 2 0 a0.length,.i ((a1.Pairs.getD 0 Qa.z).Key),.i ((a1.Pairs.getD 0 Qa.z).Val)]) (dst:=some 56) (k':=(K55 11111110 6)) [56] [1] hP Qmc (Qec.Wv a0 ((a1.Pairs.getD 0 Qa.z).Key) ((a1.Pairs.getD 0 Qa.z).Val) h9) (by kernel_rfl) (Qf1 rfl rfl) (.cons (.same (.own 0 2 0 a0.length)) (.cons (Qp _) (.cons (Qp _) .nil))) (st':=⟨57,[(56,.own 4 2 0 v3.length)],[.gone,.gone,.box 39 (Ya a1),.box 81 (Qb2 (a1.Pairs.getD 0 Qa.z)),Xj v3]⟩) (by kernel_rfl) ?_
   refine Qh hT 3 (K55 1111111 1) ⟨57,[(4,.own 4 2 0 v3.length),(5,.b true)],[.gone,.gone,.box 39 (Ya a1),.box 81 (Qb2 (a1.Pairs.getD 0 Qa.z)),Xj v3]⟩ ?_
   obtain rfl:=Yg H
   exact Yi hf hX h0 (.Qn [.own 4 2 0 v3.length,.b true]) [0,4] (ac .gone (ac (Qa1 Qa.nl) an)) (.Qn (.cons (.own _ _ _ _) (.cons (.d (.v _)) .nil)))
  replace H:=iF c8 H
  rw [neT c8]
  refine Qh hT 7 (K55 111111010 1) ⟨57,[(4,.own 1 2 0 a0.length),(5,.b false)],(Jd.q1 a0 a1)⟩ ?_
  obtain rfl:=Yg H
  exact Yi hf hX h0 (.Qn [.own 1 2 0 a0.length,.b false]) [0,1] (ac .gone (ac (Qa1 Qa.nl) an)) (.Qn (.cons (.own _ _ _ _) (.cons (.d (.v _)) .nil)))
 rw [eqF c3]
 refine Qh hT 2 (K55 1111 1) ⟨57,(Jd.p0 a0++[(7,.i v1.1),(8,.b v1.2)]),(Jd.q1 a0 a1)⟩ ?_
 refine Qh hT 6 (K55 111110 1) ⟨57,(Jd.p0 a0++[(7,.i v1.1),(45,.b (!v1.2))]),(Jd.q1 a0 a1)⟩ ?_
 by_cases c7:v1.2=true
 ·replace H:=iT c7 H
  rw [c7]
  refine Qh hT 2 (K55 11111 1) ⟨57,(Jd.p0 a0++[(7,.i v1.1)]),(Jd.q1 a0 a1)⟩ ?_
  exact Jj2 v1.1 H
 replace H:=iF c7 H
 rw [Zz c7]
 refine Qh hT 4 (K55 11111 1) ⟨57,(Jd.p0 a0++[(7,.i 1099511627777)]),(Jd.q1 a0 a1)⟩ ?_
 exact Jj2 1099511627777 H
theorem Qfw.Wv (a0:List Qa) (a1:Int) (a2:Int) {r:List Qa} (H:Qfw a0 a1 a2=some r):Yy Tryz.prog 57 [Xj a0] [.own 0 2 0 a0.length,.i a1,.i a2] [.gone,Xj r] (.own 1 2 0 r.length):=by
 refine Yc Tryz.func57 rfl (nt:=23) rfl (lb rfl) fun X hP h0 hX=>?_
 have hT:Xo X.P T:=hP▸tok
 have hf:X.P.funcs[57]? = some Tryz.f57:=hP▸Tryz.func57
 refine Qlj 0 (r:=Xj a0) rfl rfl (st':=⟨23,[(0,.own 1 2 0 a0.length),(1,.i a1),(2,.i a2)],[.gone,Xj a0]⟩) (by kernel_rfl) (by kernel_rfl) rfl ?_
 refine Qh hT 8 (K57 110 2) ⟨23,[(0,.own 1 2 0 a0.length),(1,.i a1),(2,.i a2),(10,.own 1 2 0 a0.length),(11,.i a1)],[.gone,Xj a0]⟩ ?_
 obtain ⟨v1,h1,H⟩:=ibC H
 refine Ws (Yk:=[.own 1 2 0 a0.length,.i a1]) (dst:=some 12) (k':=(K57 110 3)) [0,1,2,12] [] hP Qo1 (Qf3.Wv (t0:=false) a0 a1 h1) (by kernel_rfl) (Qz _) (.cons (.Qek (ty:=81) (by kernel_rfl) rfl) (.cons (Qp _) .nil)) (st':=⟨23,[(0,.own 1 2 0 a0.length),(1,.i a1),(2,.i a2),(12,.Qn [.i v1.1,.b v1.2])],[.gone,Xj a0]⟩) (by kernel_rfl) ?_
 refine Qh hT 15 (K57 1110 7) ⟨23,[(15,.own 1 2 0 a0.length),(16,.i a1),(21,.i (Qf9 (Qeh (IntKind.wrap .i64 (v1.1+a2)) (-1099511627776)) 1099511627776))],[.gone,Xj a0]⟩ ?_
 obtain ⟨v2,h2,H⟩:=ibC H
 refine Ws (Yk:=[.own 1 2 0 a0.length,.i a1,.i (Qf9 (Qeh (IntKind.wrap .i64 (v1.1+a2)) (-1099511627776)) 1099511627776)]) (dst:=some 22) (k':=(K57 1110 8)) [22] [1] hP Qmc (Qec.Wv a0 a1 (Qf9 (Qeh (IntKind.wrap .i64 (v1.1+a2)) (-1099511627776)) 1099511627776) h2) (by kernel_rfl) (Qf1 rfl rfl) (.cons (.same (.own 0 2 0 a0.length)) (.cons (Qp _) (.cons (Qp _) .nil))) (st':=⟨23,[(22,.own 2 2 0 v2.length)],[.gone,.gone,Xj v2]⟩) (by kernel_rfl) ?_
 refine Qh hT 2 (K57 111 1) ⟨23,[(6,.own 2 2 0 v2.length)],[.gone,.gone,Xj v2]⟩ ?_
 obtain rfl:=Yg H
 exact Yi hf hX h0 (.own 2 2 0 v2.length) [0,2] (ac .gone (ac (Qa1 Qa.nl) an)) (.own _ _ _ _)
abbrev Wm.q1 (a1:Ql) (Zu:Int):=(a1.Pairs.getD Zu.toNat Qa.z)
abbrev Wm.p0 (a2:List Qb):List (Nat × AV):=[(2,.d (Xd true a2)),(4,.ptr 0 0 0 0)]
theorem Wm.Wv {t0:Bool} (a0:List Qa) (a1:Ql) (a2:List Qb) {r:(List Qa) × Bool} (H:Wm a0 a1 a2=some r):Yy Tryz.prog 27 [] [.d (Xw t0 a0),.d (Qas a1),.d (Xd true a2)] [Xj r.1] (.Qn [.own 0 2 0 r.1.length,.b r.2]):=by
 refine Yc Tryz.func27 rfl (nt:=93) rfl (lb rfl) fun X hP h0 hX=>?_
 have hT:Xo X.P T:=hP▸tok
 have hf:X.P.funcs[27]? = some Tryz.f27:=hP▸Tryz.func27
 refine Qh hT 10 (K27 1100 1) ⟨93,[(0,.d (Xw t0 a0)),(2,.d (Xd true a2)),(4,.ptr 0 0 0 0),(10,.d (Xw t0 a0))],[.box 39 (Ya a1)]⟩ ?_
 obtain ⟨v1,h1,H⟩:=ibC H
 have Yn:∀ (Qqk:Bool),(Wm.j1 a0 a1 a2 Qqk)=some r->AK X 27 ((K27 110 1)) (Yt X [Xj r.1] (.Qn [.own 0 2 0 r.1.length,.b r.2])) ⟨93,[(0,.d (Xw t0 a0)),(2,.d (Xd true a2)),(4,.ptr 0 0 0 0),(22,.b Qqk)],[.box 39 (Ya a1)]⟩:=by
  intro Qqk H
  by_cases c6:Qqk=true
  ·replace H:=iT c6 H
   rw [c6]
   refine Qh hT 6 (K27 11010 1) ⟨93,[(6,.ns),(7,.b false)],[.box 39 (Ya a1)]⟩ ?_
   refine Qc6 [6,7] 6 2 81 (vec Qa.e Qa.z []) (st':=⟨93,[(6,.own 1 2 0 0),(7,.b false)],[.box 39 (Ya a1),Xj ([]:List Qa)]⟩) (by kernel_rfl) (by kernel_rfl) ?_
   obtain rfl:=Yg H
   exact Yi hf hX h0 (.Qn [.own 1 2 0 0,.b false]) [1] (ac (Qa1 Qa.nl) an) (.Qn (.cons (.own _ _ _ _) (.cons (.d (.v _)) .nil)))
  replace H:=iF c6 H
  rw [Zz c6]
  refine Qh hT 2 (K27 11 1) ⟨93,[(0,.d (Xw t0 a0)),(2,.d (Xd true a2)),(4,.ptr 0 0 0 0)],[.box 39 (Ya a1)]⟩ ?_
  refine Qh hT 3 (K27 1110 1) ⟨93,(Wm.p0 a2++[(23,.d (Xw t0 a0))]),[.box 39 (Ya a1)]⟩ ?_
  obtain ⟨h7,H⟩:=iC H
  refine Ws (Yk:=[.d (Xw t0 a0)]) (dst:=some 24) (k':=(K27 1110 2)) [2,4,24] [] hP Qmb (Qp2 (tg:=t0) a0 h7) (by kernel_rfl) (Qz _) (.cons (Qp _) .nil) (st':=⟨93,(Wm.p0 a2++[(24,.own 1 2 0 a0.length)]),[.box 39 (Ya a1),Xj a0]⟩) (by kernel_rfl) ?_
  refine Qh hT 11 (K27 111100 1) ⟨93,(Wm.p0 a2++[(6,.own 1 2 0 a0.length),(25,.b (a1.Kind == 2))]),[.box 39 (Ya a1),Xj a0]⟩ ?_
  by_cases c8:a1.Kind=2
  ·replace H:=iT c8 H
   rw [eqT c8]
   refine Qh hT 7 (K27 111100100 4) ⟨93,[(29,.own 1 2 0 a0.length),(31,.d (Qfg a1.Over)),(32,.d (Xd true a2))],[.box 39 (Ya a1),Xj a0]⟩ ?_
   obtain ⟨v4,h9,H⟩:=ibC H
   refine Ws (Yk:=[.own 1 2 0 a0.length,.d (Qfg a1.Over),.d (Xd true a2)]) (dst:=some 33) (k':=(K27 111100100 5)) [33] [1] hP Wcb (Qi6.Wv a0 a1.Over a2 h9) (by kernel_rfl) (Qf1 rfl rfl) (.cons (.same (.own 0 2 0 a0.length)) (.cons (Qp _) (.cons (Qp _) .nil))) (st':=⟨93,[(33,.own 2 2 0 v4.length)],[.box 39 (Ya a1),.gone,Xj v4]⟩) (by kernel_rfl) ?_
   refine Qh hT 3 (K27 11110010 1) ⟨93,[(6,.own 2 2 0 v4.length),(7,.b true)],[.box 39 (Ya a1),.gone,Xj v4]⟩ ?_
   obtain rfl:=Yg H
   exact Yi hf hX h0 (.Qn [.own 2 2 0 v4.length,.b true]) [2] (ac (Qa1 Qa.nl) an) (.Qn (.cons (.own _ _ _ _) (.cons (.d (.v _)) .nil)))
  replace H:=iF c8 H
  rw [eqF c8]
  refine Qh hT 4 (K27 111100110 1) ⟨93,(Wm.p0 a2++[(6,.own 1 2 0 a0.length),(35,.d (Qas a1))]),[.box 39 (Ya a1),Xj a0]⟩ ?_
  obtain ⟨v5,h10,H⟩:=ibC H
  refine Ws (Yk:=[.d (Qas a1)]) (dst:=some 36) (k':=(K27 111100110 2)) [2,4,6,36] [] hP Wcc (Qdw.Wv a1 h10) (by kernel_rfl) (Qz _) (.cons (Qp _) .nil) (st':=⟨93,(Wm.p0 a2++[(6,.own 1 2 0 a0.length),(36,.b v5)]),[.box 39 (Ya a1),Xj a0]⟩) (by kernel_rfl) ?_
  refine Qh hT 2 (K27 11110011 1) ⟨93,(Wm.p0 a2++[(6,.own 1 2 0 a0.length),(34,.b v5)]),[.box 39 (Ya a1),Xj a0]⟩ ?_
  by_cases c11:v5=true
  ·replace H:=iT c11 H
   rw [c11]
   refine Qh hT 7 (K27 111100111000 3) ⟨93,[(4,.ptr 0 0 0 0),(6,.own 1 2 0 a0.length),(37,.d (Xd true a2)),(39,.d (Xw true a1.Pairs))],[.box 39 (Ya a1),Xj a0]⟩ ?_
   obtain ⟨h12,H⟩:=iC H
   refine Jf hT [4,6,37,40] (i:=0) (n:=(a1.Pairs.length:Int)) h12.1 h12.2 (k':=(K27 111100111000 4)) (st':=⟨93,[(4,.ptr 0 0 0 0),(6,.own 1 2 0 a0.length),(37,.d (Xd true a2)),(40,.d (Qef true a1.Pairs 0 0))],[.box 39 (Ya a1),Xj a0]⟩) (by kernel_rfl) ?_
   refine Qh hT 2 (K27 111100111000 6) ⟨93,[(4,.ptr 0 0 0 0),(6,.own 1 2 0 a0.length),(37,.d (Xd true a2)),(42,.i ((a1.Pairs.getD 0 Qa.z).Key))],[.box 39 (Ya a1),Xj a0]⟩ ?_
   obtain ⟨v6,h13,H⟩:=ibC H
   refine Ws (Yk:=[.d (Xd true a2),.i ((a1.Pairs.getD 0 Qa.z).Key)]) (dst:=some 43) (k':=(K27 111100111000 7)) [4,6,43] [] hP Qo0 (Qge.Wv (t0:=true) a2 ((a1.Pairs.getD 0 Qa.z).Key) h13) (by kernel_rfl) (Qz _) (.cons (Qp _) (.cons (Qp _) .nil)) (st':=⟨93,[(4,.ptr 0 0 0 0),(6,.own 1 2 0 a0.length),(43,.b v6)],[.box 39 (Ya a1),Xj a0]⟩) (by kernel_rfl) ?_
   refine Qh hT 2 (K27 11110011100 1) ⟨93,[(4,.ptr 0 0 0 0),(6,.own 1 2 0 a0.length),(44,.b (!v6))],[.box 39 (Ya a1),Xj a0]⟩ ?_
   by_cases c14:v6=true
   ·replace H:=iT c14 H
    rw [c14]
    refine Qh hT 2 (K27 1111001110 1) ⟨93,[(4,.ptr 0 0 0 0),(6,.own 1 2 0 a0.length)],[.box 39 (Ya a1),Xj a0]⟩ ?_
    refine Qh hT 4 (K27 111100111010 2) ⟨93,[(46,.own 1 2 0 a0.length),(47,.d (Qas a1))],[.box 39 (Ya a1),Xj a0]⟩ ?_
    obtain ⟨v7,h15,H⟩:=ibC H
    refine Ws (Yk:=[.own 1 2 0 a0.length,.d (Qas a1)]) (dst:=some 48) (k':=(K27 111100111010 3)) [48] [1] hP Wcd (Jd.Wv a0 a1 h15) (by kernel_rfl) (Qf1 rfl rfl) (.cons (.same (.own 0 2 0 a0.length)) (.cons (Qp _) .nil)) (st':=⟨93,[(48,.Qn [.own 2 2 0 v7.1.length,.b v7.2])],[.box 39 (Ya a1),.gone,Xj v7.1]⟩) (by kernel_rfl) ?_
    refine Qh hT 5 (K27 11110011101 1) ⟨93,[(6,.own 2 2 0 v7.1.length),(7,.b v7.2)],[.box 39 (Ya a1),.gone,Xj v7.1]⟩ ?_
    obtain rfl:=Yg H
    exact Yi hf hX h0 (.Qn [.own 2 2 0 v7.1.length,.b v7.2]) [2] (ac (Qa1 Qa.nl) an) (.Qn (.cons (.own _ _ _ _) (.cons (.d (.v _)) .nil)))
   replace H:=iF c14 H
   rw [Zz c14]
   refine Qh hT 7 (K27 1111001110010 1) ⟨93,[(6,.own 1 2 0 a0.length),(7,.b true)],[.box 39 (Ya a1),Xj a0]⟩ ?_
   obtain rfl:=Yg H
   exact Yi hf hX h0 (.Qn [.own 1 2 0 a0.length,.b true]) [1] (ac (Qa1 Qa.nl) an) (.Qn (.cons (.own _ _ _ _) (.cons (.d (.v _)) .nil)))
  replace H:=iF c11 H
  rw [Zz c11]
  refine Qh hT 3 (K27 1111 1) ⟨93,(Wm.p0 a2++[(6,.own 1 2 0 a0.length)]),[.box 39 (Ya a1),Xj a0]⟩ ?_
  refine Qh hT 10 (K27 11111010 0) ⟨93,(Wm.p0 a2++[(6,.own 1 2 0 a0.length),(52,.d (Xw true a1.Pairs)),(53,.i (a1.Pairs.length:Int)),(54,.i 0)]),[.box 39 (Ya a1),Xj a0]⟩ ?_
  have L:∀ n,(∀ (Zu:Int) (Wl:List Qa),iter (Wm.step a1 a2) n (.l1 Zu Wl)=some r->AK X 27 ((K27 11111010 0)) (Yt X [Xj r.1] (.Qn [.own 0 2 0 r.1.length,.b r.2])) ⟨93,(Wm.p0 a2++[(6,.own 1 2 0 Wl.length),(52,.d (Xw true a1.Pairs)),(53,.i (a1.Pairs.length:Int)),(54,.i Zu)]),[.box 39 (Ya a1),Xj Wl]⟩):=by
   intro n
   induction n with
   | zero=>exact fun _ _ H=>Qbd H
   | succ n ih=>
    ·intro Zu Wl H
     refine Qh hT 5 (K27 1111101001 0) ⟨93,(Wm.p0 a2++[(6,.own 1 2 0 Wl.length),(52,.d (Xw true a1.Pairs)),(53,.i (a1.Pairs.length:Int)),(54,.i Zu),(55,.b (decide (Zu < (a1.Pairs.length:Int))))]),[.box 39 (Ya a1),Xj Wl]⟩ ?_
     by_cases c16:Zu < (a1.Pairs.length:Int)
     ·replace H:=sT c16 H
      rw [decide_eq_true c16]
      refine Qh hT 2 (K27 1111101001 1) ⟨93,(Wm.p0 a2++[(6,.own 1 2 0 Wl.length),(52,.d (Xw true a1.Pairs)),(53,.i (a1.Pairs.length:Int)),(54,.i Zu)]),[.box 39 (Ya a1),Xj Wl]⟩ ?_
      refine Qh hT 5 (K27 11111010011000 1) ⟨93,(Wm.p0 a2++[(6,.own 1 2 0 Wl.length),(52,.d (Xw true a1.Pairs)),(53,.i (a1.Pairs.length:Int)),(54,.i Zu),(56,.i Zu)]),[.box 39 (Ya a1),Xj Wl]⟩ ?_
      obtain ⟨h17,H⟩:=sC H
      refine Jf hT [2,4,6,52,53,54,56,57] (i:=Zu) (n:=(a1.Pairs.length:Int)) h17.1 h17.2 (k':=(K27 11111010011000 2)) (st':=⟨93,(Wm.p0 a2++[(6,.own 1 2 0 Wl.length),(52,.d (Xw true a1.Pairs)),(53,.i (a1.Pairs.length:Int)),(54,.i Zu),(56,.i Zu),(57,.d (Qef true a1.Pairs Zu.toNat 0))]),[.box 39 (Ya a1),Xj Wl]⟩) (by kernel_rfl) ?_
      refine Qh hT 11 (K27 1111101001100100 3) ⟨93,(Wm.p0 a2++[(6,.own 1 2 0 Wl.length),(8,.i Zu),(9,.ptr 2 0 0 0),(52,.d (Xw true a1.Pairs)),(53,.i (a1.Pairs.length:Int)),(54,.i Zu),(66,.d (Xd true a2)),(68,.i ((Wm.q1 a1 Zu).Key))]),[.box 39 (Ya a1),Xj Wl,.box 81 (Qb2 (Wm.q1 a1 Zu))]⟩ ?_
      obtain ⟨v8,h18,H⟩:=sbC H
      have Jj2:∀ (Qlb:List Qa),stk (Wm.j2 Zu Qlb) (iter (Wm.step a1 a2) n)=some r->AK X 27 ((K27 11111010011 1)) (Yt X [Xj r.1] (.Qn [.own 0 2 0 r.1.length,.b r.2])) ⟨93,(Wm.p0 a2++[(6,.own 1 2 0 Qlb.length),(52,.d (Xw true a1.Pairs)),(53,.i (a1.Pairs.length:Int)),(54,.i Zu)]),[.box 39 (Ya a1),Xj Qlb]⟩:=by
       intro Qlb H
       refine Qh hT 5 (K27 11111010 0) ⟨93,(Wm.p0 a2++[(6,.own 1 2 0 Qlb.length),(52,.d (Xw true a1.Pairs)),(53,.i (a1.Pairs.length:Int)),(54,.i (IntKind.wrap .i64 (Zu+1)))]),[.box 39 (Ya a1),Xj Qlb]⟩ ?_
       exact ih (IntKind.wrap .i64 (Zu+1)) Qlb H
      refine Ws (Yk:=[.d (Xd true a2),.i ((Wm.q1 a1 Zu).Key)]) (dst:=some 69) (k':=(K27 1111101001100100 4)) [2,4,6,8,9,52,53,54,69] [] hP Qo0 (Qge.Wv (t0:=true) a2 ((Wm.q1 a1 Zu).Key) h18) (by kernel_rfl) (Qz _) (.cons (Qp _) (.cons (Qp _) .nil)) (st':=⟨93,(Wm.p0 a2++[(6,.own 1 2 0 Wl.length),(8,.i Zu),(9,.ptr 2 0 0 0),(52,.d (Xw true a1.Pairs)),(53,.i (a1.Pairs.length:Int)),(54,.i Zu),(69,.b v8)]),[.box 39 (Ya a1),Xj Wl,.box 81 (Qb2 (Wm.q1 a1 Zu))]⟩) (by kernel_rfl) ?_
      refine Qh hT 3 (K27 111110100110010 1) ⟨93,(Wm.p0 a2++[(6,.own 1 2 0 Wl.length),(8,.i Zu),(9,.ptr 2 0 0 0),(52,.d (Xw true a1.Pairs)),(53,.i (a1.Pairs.length:Int)),(54,.i Zu),(65,.b (!v8))]),[.box 39 (Ya a1),Xj Wl,.box 81 (Qb2 (Wm.q1 a1 Zu))]⟩ ?_
      by_cases c19:v8=true
      ·replace H:=sT c19 H
       rw [c19]
       refine Qh hT 8 (K27 11111010011001011 1) ⟨93,(Wm.p0 a2++[(6,.own 1 2 0 Wl.length),(8,.i Zu),(9,.ptr 2 0 0 0),(52,.d (Xw true a1.Pairs)),(53,.i (a1.Pairs.length:Int)),(54,.i Zu),(71,.b (a1.Kind == 1))]),[.box 39 (Ya a1),Xj Wl,.box 81 (Qb2 (Wm.q1 a1 Zu))]⟩ ?_
       by_cases c20:a1.Kind=1
       ·replace H:=sT c20 H
        rw [eqT c20]
        refine Qh hT 7 (K27 1111101001100101110 5) ⟨93,(Wm.p0 a2++[(52,.d (Xw true a1.Pairs)),(53,.i (a1.Pairs.length:Int)),(54,.i Zu),(75,.own 1 2 0 Wl.length),(77,.i ((Wm.q1 a1 Zu).Key)),(79,.i ((Wm.q1 a1 Zu).Val))]),[.box 39 (Ya a1),Xj Wl,.box 81 (Qb2 (Wm.q1 a1 Zu))]⟩ ?_
        obtain ⟨v9,h21,H⟩:=sbC H
        refine Ws (Yk:=[.own 1 2 0 Wl.length,.i ((Wm.q1 a1 Zu).Key),.i ((Wm.q1 a1 Zu).Val)]) (dst:=some 80) (k':=(K27 1111101001100101110 6)) [2,4,52,53,54,80] [1] hP Qmc (Qec.Wv Wl ((Wm.q1 a1 Zu).Key) ((Wm.q1 a1 Zu).Val) h21) (by kernel_rfl) (Qf1 rfl rfl) (.cons (.same (.own 0 2 0 Wl.length)) (.cons (Qp _) (.cons (Qp _) .nil))) (st':=⟨93,(Wm.p0 a2++[(52,.d (Xw true a1.Pairs)),(53,.i (a1.Pairs.length:Int)),(54,.i Zu),(80,.own 3 2 0 v9.length)]),[.box 39 (Ya a1),.gone,.box 81 (Qb2 (Wm.q1 a1 Zu)),Xj v9]⟩) (by kernel_rfl) ?_
        refine Xn hT 4 (K27 11111010011 1) [0,3] ⟨93,(Wm.p0 a2++[(6,.own 1 2 0 v9.length),(52,.d (Xw true a1.Pairs)),(53,.i (a1.Pairs.length:Int)),(54,.i Zu)]),[.box 39 (Ya a1),Xj v9]⟩ h0 ?_
        exact Jj2 v9 H
       replace H:=sF c20 H
       rw [eqF c20]
       refine Qh hT 7 (K27 1111101001100101111 1) ⟨93,(Wm.p0 a2++[(6,.own 1 2 0 Wl.length),(9,.ptr 2 0 0 0),(52,.d (Xw true a1.Pairs)),(53,.i (a1.Pairs.length:Int)),(54,.i Zu),(81,.b (Zu == 0))]),[.box 39 (Ya a1),Xj Wl,.box 81 (Qb2 (Wm.q1 a1 Zu))]⟩ ?_
       by_cases c22:Zu=0
       ·replace H:=sT c22 H
        rw [eqT c22]
        refine Qh hT 8 (K27 111110100110010111110 6) ⟨93,(Wm.p0 a2++[(52,.d (Xw true a1.Pairs)),(53,.i (a1.Pairs.length:Int)),(54,.i Zu),(84,.own 1 2 0 Wl.length),(86,.i ((Wm.q1 a1 Zu).Key)),(89,.i (IntKind.wrap .i64 (0 - ((Wm.q1 a1 Zu).Val))))]),[.box 39 (Ya a1),Xj Wl,.box 81 (Qb2 (Wm.q1 a1 Zu))]⟩ ?_
        obtain ⟨v10,h23,H⟩:=sbC H
        refine Ws (Yk:=[.own 1 2 0 Wl.length,.i ((Wm.q1 a1 Zu).Key),.i (IntKind.wrap .i64 (0 - ((Wm.q1 a1 Zu).Val)))]) (dst:=some 90) (k':=(K27 111110100110010111110 7)) [2,4,52,53,54,90] [1] hP Que (Qfw.Wv Wl ((Wm.q1 a1 Zu).Key) (IntKind.wrap .i64 (0 - ((Wm.q1 a1 Zu).Val))) h23) (by kernel_rfl) (Qf1 rfl rfl) (.cons (.same (.own 0 2 0 Wl.length)) (.cons (Qp _) (.cons (Qp _) .nil))) (st':=⟨93,(Wm.p0 a2++[(52,.d (Xw true a1.Pairs)),(53,.i (a1.Pairs.length:Int)),(54,.i Zu),(90,.own 3 2 0 v10.length)]),[.box 39 (Ya a1),.gone,.box 81 (Qb2 (Wm.q1 a1 Zu)),Xj v10]⟩) (by kernel_rfl) ?_
        refine Xn hT 4 (K27 11111010011 1) [0,3] ⟨93,(Wm.p0 a2++[(6,.own 1 2 0 v10.length),(52,.d (Xw true a1.Pairs)),(53,.i (a1.Pairs.length:Int)),(54,.i Zu)]),[.box 39 (Ya a1),Xj v10]⟩ h0 ?_
        exact Jj2 v10 H
       replace H:=sF c22 H
       rw [eqF c22]
       refine Qh hT 7 (K27 111110100110010111111 5) ⟨93,(Wm.p0 a2++[(52,.d (Xw true a1.Pairs)),(53,.i (a1.Pairs.length:Int)),(54,.i Zu),(59,.own 1 2 0 Wl.length),(61,.i ((Wm.q1 a1 Zu).Key)),(63,.i ((Wm.q1 a1 Zu).Val))]),[.box 39 (Ya a1),Xj Wl,.box 81 (Qb2 (Wm.q1 a1 Zu))]⟩ ?_
       obtain ⟨v11,h24,H⟩:=sbC H
       refine Ws (Yk:=[.own 1 2 0 Wl.length,.i ((Wm.q1 a1 Zu).Key),.i ((Wm.q1 a1 Zu).Val)]) (dst:=some 64) (k':=(K27 111110100110010111111 6)) [2,4,52,53,54,64] [1] hP Que (Qfw.Wv Wl ((Wm.q1 a1 Zu).Key) ((Wm.q1 a1 Zu).Val) h24) (by kernel_rfl) (Qf1 rfl rfl) (.cons (.same (.own 0 2 0 Wl.length)) (.cons (Qp _) (.cons (Qp _) .nil))) (st':=⟨93,(Wm.p0 a2++[(52,.d (Xw true a1.Pairs)),(53,.i (a1.Pairs.length:Int)),(54,.i Zu),(64,.own 3 2 0 v11.length)]),[.box 39 (Ya a1),.gone,.box 81 (Qb2 (Wm.q1 a1 Zu)),Xj v11]⟩) (by kernel_rfl) ?_
       refine Xn hT 4 (K27 11111010011 1) [0,3] ⟨93,(Wm.p0 a2++[(6,.own 1 2 0 v11.length),(52,.d (Xw true a1.Pairs)),(53,.i (a1.Pairs.length:Int)),(54,.i Zu)]),[.box 39 (Ya a1),Xj v11]⟩ h0 ?_
       exact Jj2 v11 H
      replace H:=sF c19 H
      rw [Zz c19]
      refine Xn hT 4 (K27 11111010011 1) [0,1] ⟨93,(Wm.p0 a2++[(6,.own 1 2 0 Wl.length),(52,.d (Xw true a1.Pairs)),(53,.i (a1.Pairs.length:Int)),(54,.i Zu)]),[.box 39 (Ya a1),Xj Wl]⟩ h0 ?_
      exact Jj2 Wl H
     replace H:=sF c16 H
     rw [decide_eq_false c16]
     refine Qh hT 8 (K27 111111 1) ⟨93,[(6,.own 1 2 0 Wl.length),(7,.b true)],[.box 39 (Ya a1),Xj Wl]⟩ ?_
     obtain rfl:=Yg H
     exact Yi hf hX h0 (.Qn [.own 1 2 0 Wl.length,.b true]) [1] (ac (Qa1 Qa.nl) an) (.Qn (.cons (.own _ _ _ _) (.cons (.d (.v _)) .nil)))
  obtain ⟨n,H⟩:=Qbz H
  exact (L n) 0 a0 H
 refine Ws (Yk:=[.d (Xw t0 a0)]) (dst:=some 11) (k':=(K27 1100 2)) [0,2,4,11] [] hP Qoz (Xk.Wv (t0:=t0) a0 h1) (by kernel_rfl) (Qz _) (.cons (Qp _) .nil) (st':=⟨93,[(0,.d (Xw t0 a0)),(2,.d (Xd true a2)),(4,.ptr 0 0 0 0),(11,.b v1)],[.box 39 (Ya a1)]⟩) (by kernel_rfl) ?_
 refine Qh hT 2 (K27 1100 4) ⟨93,[(0,.d (Xw t0 a0)),(2,.d (Xd true a2)),(4,.ptr 0 0 0 0),(13,.b (!v1))],[.box 39 (Ya a1)]⟩ ?_
 by_cases c2:v1=true
 ·replace H:=iT c2 H
  rw [c2]
  refine Qh hT 1 (K27 1100 5) ⟨93,[(0,.d (Xw t0 a0)),(2,.d (Xd true a2)),(4,.ptr 0 0 0 0),(13,.b false),(14,.d (Qas a1))],[.box 39 (Ya a1)]⟩ ?_
  obtain ⟨v2,h3,H⟩:=ibC H
  refine Ws (Yk:=[.d (Qas a1)]) (dst:=some 15) (k':=(K27 1100 6)) [0,2,4,13,15] [] hP Qgs (Qbg.Wv a1 h3) (by kernel_rfl) (Qz _) (.cons (Qp _) .nil) (st':=⟨93,[(0,.d (Xw t0 a0)),(2,.d (Xd true a2)),(4,.ptr 0 0 0 0),(13,.b false),(15,.b v2)],[.box 39 (Ya a1)]⟩) (by kernel_rfl) ?_
  refine Qh hT 3 (K27 1100 9) ⟨93,[(0,.d (Xw t0 a0)),(2,.d (Xd true a2)),(4,.ptr 0 0 0 0),(18,.b (!v2))],[.box 39 (Ya a1)]⟩ ?_
  by_cases c4:v2=true
  ·replace H:=iT c4 H
   rw [c4]
   refine Qh hT 1 (K27 1100 10) ⟨93,[(0,.d (Xw t0 a0)),(2,.d (Xd true a2)),(4,.ptr 0 0 0 0),(18,.b false),(19,.d (Xd true a2))],[.box 39 (Ya a1)]⟩ ?_
   obtain ⟨v3,h5,H⟩:=ibC H
   refine Ws (Yk:=[.d (Xd true a2)]) (dst:=some 20) (k':=(K27 1100 11)) [0,2,4,18,20] [] hP Qiz (Yw.Wv (t0:=true) a2 h5) (by kernel_rfl) (Qz _) (.cons (Qp _) .nil) (st':=⟨93,[(0,.d (Xw t0 a0)),(2,.d (Xd true a2)),(4,.ptr 0 0 0 0),(18,.b false),(20,.b v3)],[.box 39 (Ya a1)]⟩) (by kernel_rfl) ?_
   refine Qh hT 3 (K27 110 1) ⟨93,[(0,.d (Xw t0 a0)),(2,.d (Xd true a2)),(4,.ptr 0 0 0 0),(22,.b (!v3))],[.box 39 (Ya a1)]⟩ ?_
   exact Yn (!v3) H
  replace H:=iF c4 H
  rw [Zz c4]
  refine Qh hT 5 (K27 110 1) ⟨93,[(0,.d (Xw t0 a0)),(2,.d (Xd true a2)),(4,.ptr 0 0 0 0),(22,.b true)],[.box 39 (Ya a1)]⟩ ?_
  exact Yn true H
 replace H:=iF c2 H
 rw [Zz c2]
 refine Qh hT 10 (K27 110 1) ⟨93,[(0,.d (Xw t0 a0)),(2,.d (Xd true a2)),(4,.ptr 0 0 0 0),(22,.b true)],[.box 39 (Ya a1)]⟩ ?_
 exact Yn true H
abbrev Yp.p0 (a1:List Qb) (a2:Int):List (Nat × AV):=[(1,.d (Xd true a1)),(2,.i a2)]
theorem Yp.Wv {t0:Bool} (a0:List Qd) (a1:List Qb) (a2:Int) {r:List Qa} (H:Yp a0 a1 a2=some r):Yy Tryz.prog 30 [] [.d (Xq t0 a0),.d (Xd true a1),.i a2] [Xj r] (.own 0 2 0 r.length):=by
 refine Yc Tryz.func30 rfl (nt:=41) rfl (lb rfl) fun X hP h0 hX=>?_
 have hT:Xo X.P T:=hP▸tok
 have hf:X.P.funcs[30]? = some Tryz.f30:=hP▸Tryz.func30
 refine Qh hT 8 (K30 1100 1) ⟨41,[(0,.d (Xq t0 a0)),(1,.d (Xd true a1)),(2,.i a2),(10,.d (Xd true a1))],[]⟩ ?_
 obtain ⟨v1,h1,H⟩:=ibC H
 have Yn:∀ (Qqh:Bool),(Yp.j1 a0 a1 a2 Qqh)=some r->AK X 30 ((K30 110 1)) (Yt X [Xj r] (.own 0 2 0 r.length)) ⟨41,[(0,.d (Xq t0 a0)),(1,.d (Xd true a1)),(2,.i a2),(16,.b Qqh)],[]⟩:=by
  intro Qqh H
  by_cases c4:Qqh=true
  ·replace H:=iT c4 H
   rw [c4]
   refine Qh hT 5 (K30 11010 1) ⟨41,[(6,.ns)],[]⟩ ?_
   refine Qc6 [6] 6 2 81 (vec Qa.e Qa.z []) (st':=⟨41,[(6,.own 0 2 0 0)],[Xj ([]:List Qa)]⟩) (by kernel_rfl) (by kernel_rfl) ?_
   obtain rfl:=Yg H
   exact Yi hf hX h0 (.own 0 2 0 0) [0] (ac (Qa1 Qa.nl) an) (.own _ _ _ _)
  replace H:=iF c4 H
  rw [Zz c4]
  refine Qh hT 2 (K30 11 1) ⟨41,[(0,.d (Xq t0 a0)),(1,.d (Xd true a1)),(2,.i a2)],[]⟩ ?_
  refine Qh hT 13 (K30 1111010 0) ⟨41,(Yp.p0 a1 a2++[(7,.ns),(17,.d (Xq t0 a0)),(18,.i (a0.length:Int)),(19,.i 0)]),[]⟩ ?_
  refine Qc6 [1,2,7,17,18,19] 7 2 81 (vec Qa.e Qa.z []) (st':=⟨41,(Yp.p0 a1 a2++[(7,.own 0 2 0 0),(17,.d (Xq t0 a0)),(18,.i (a0.length:Int)),(19,.i 0)]),[Xj ([]:List Qa)]⟩) (by kernel_rfl) (by kernel_rfl) ?_
  have L:∀ n,(∀ (Qbb:Int) (Qj:List Qa),iter (Yp.step a0 a1 a2) n (.l1 Qbb Qj)=some r->AK X 30 ((K30 1111010 0)) (Yt X [Xj r] (.own 0 2 0 r.length)) ⟨41,(Yp.p0 a1 a2++[(7,.own 0 2 0 Qj.length),(17,.d (Xq t0 a0)),(18,.i (a0.length:Int)),(19,.i Qbb)]),[Xj Qj]⟩):=by
   intro n
   induction n with
   | zero=>exact fun _ _ H=>Qbd H
   | succ n ih=>
    ·intro Qbb Qj H
     refine Qh hT 5 (K30 111101001 0) ⟨41,(Yp.p0 a1 a2++[(7,.own 0 2 0 Qj.length),(17,.d (Xq t0 a0)),(18,.i (a0.length:Int)),(19,.i Qbb),(20,.b (decide (Qbb < (a0.length:Int))))]),[Xj Qj]⟩ ?_
     by_cases c5:Qbb < (a0.length:Int)
     ·replace H:=sT c5 H
      rw [decide_eq_true c5]
      refine Qh hT 2 (K30 111101001 1) ⟨41,(Yp.p0 a1 a2++[(7,.own 0 2 0 Qj.length),(17,.d (Xq t0 a0)),(18,.i (a0.length:Int)),(19,.i Qbb)]),[Xj Qj]⟩ ?_
      refine Qh hT 4 (K30 1111010011000 0) ⟨41,(Yp.p0 a1 a2++[(7,.own 0 2 0 Qj.length),(17,.d (Xq t0 a0)),(18,.i (a0.length:Int)),(19,.i Qbb)]),[Xj Qj]⟩ ?_
      obtain ⟨h6,H⟩:=sC H
      have Jj2:∀ (Qqx:Bool),stk (Yp.j2 a0 a1 Qbb Qj Qqx) (iter (Yp.step a0 a1 a2) n)=some r->AK X 30 ((K30 1111010011001 1)) (Yt X [Xj r] (.own 0 2 0 r.length)) ⟨41,(Yp.p0 a1 a2++[(7,.own 0 2 0 Qj.length),(9,.ptr 1 0 0 0),(17,.d (Xq t0 a0)),(18,.i (a0.length:Int)),(19,.i Qbb),(30,.b Qqx)]),[Xj Qj,.box 41 (Qb0 (a0.getD Qbb.toNat Qd.z))]⟩:=by
       intro Qqx H
       have Jj3:∀ (Qf0:List Qa),stk (Yp.j3 Qbb Qf0) (iter (Yp.step a0 a1 a2) n)=some r->AK X 30 ((K30 1111010011 1)) (Yt X [Xj r] (.own 0 2 0 r.length)) ⟨41,(Yp.p0 a1 a2++[(7,.own 0 2 0 Qf0.length),(17,.d (Xq t0 a0)),(18,.i (a0.length:Int)),(19,.i Qbb)]),[Xj Qf0]⟩:=by
        intro Qf0 H
        refine Qh hT 5 (K30 1111010 0) ⟨41,(Yp.p0 a1 a2++[(7,.own 0 2 0 Qf0.length),(17,.d (Xq t0 a0)),(18,.i (a0.length:Int)),(19,.i (IntKind.wrap .i64 (Qbb+1)))]),[Xj Qf0]⟩ ?_
        exact ih (IntKind.wrap .i64 (Qbb+1)) Qf0 H
       by_cases c8:Qqx=true
       ·replace H:=sT c8 H
        rw [c8]
        refine Qh hT 6 (K30 111101001100110 4) ⟨41,(Yp.p0 a1 a2++[(17,.d (Xq t0 a0)),(18,.i (a0.length:Int)),(19,.i Qbb),(32,.own 0 2 0 Qj.length),(34,.d (Qas ((a0.getD Qbb.toNat Qd.z).M))),(35,.d (Xd true a1))]),[Xj Qj,.box 41 (Qb0 (a0.getD Qbb.toNat Qd.z))]⟩ ?_
        obtain ⟨v3,h9,H⟩:=sbC H
        refine Ws (Yk:=[.own 0 2 0 Qj.length,.d (Qas ((a0.getD Qbb.toNat Qd.z).M)),.d (Xd true a1)]) (dst:=some 36) (k':=(K30 111101001100110 5)) [1,2,17,18,19,36] [] hP Qoy (Wm.Wv (t0:=false) Qj ((a0.getD Qbb.toNat Qd.z).M) a1 h9) (by kernel_rfl) (Qz _) (.cons (.Qek (ty:=81) (by kernel_rfl) rfl) (.cons (Qp _) (.cons (Qp _) .nil))) (st':=⟨41,(Yp.p0 a1 a2++[(17,.d (Xq t0 a0)),(18,.i (a0.length:Int)),(19,.i Qbb),(36,.Qn [.own 2 2 0 v3.1.length,.b v3.2])]),[Xj Qj,.box 41 (Qb0 (a0.getD Qbb.toNat Qd.z)),Xj v3.1]⟩) (by kernel_rfl) ?_
        refine Xn hT 6 (K30 1111010011 1) [2] ⟨41,(Yp.p0 a1 a2++[(7,.own 0 2 0 v3.1.length),(17,.d (Xq t0 a0)),(18,.i (a0.length:Int)),(19,.i Qbb)]),[Xj v3.1]⟩ h0 ?_
        exact Jj3 v3.1 H
       replace H:=sF c8 H
       rw [Zz c8]
       refine Xn hT 3 (K30 1111010011 1) [0] ⟨41,(Yp.p0 a1 a2++[(7,.own 0 2 0 Qj.length),(17,.d (Xq t0 a0)),(18,.i (a0.length:Int)),(19,.i Qbb)]),[Xj Qj]⟩ h0 ?_
       exact Jj3 Qj H
      refine Jf hT [1,2,7,17,18,19,21] (i:=Qbb) (n:=(a0.length:Int)) h6.1 h6.2 (k':=(K30 1111010011000 1)) (st':=⟨41,(Yp.p0 a1 a2++[(7,.own 0 2 0 Qj.length),(17,.d (Xq t0 a0)),(18,.i (a0.length:Int)),(19,.i Qbb),(21,.d (Qjx t0 a0 Qbb.toNat 0))]),[Xj Qj]⟩) (by kernel_rfl) ?_
      refine Qh hT 9 (K30 11110100110010 3) ⟨41,(Yp.p0 a1 a2++[(7,.own 0 2 0 Qj.length),(9,.ptr 1 0 0 0),(17,.d (Xq t0 a0)),(18,.i (a0.length:Int)),(19,.i Qbb),(25,.b ((a0.getD Qbb.toNat Qd.z).Jt))]),[Xj Qj,.box 41 (Qb0 (a0.getD Qbb.toNat Qd.z))]⟩ ?_
      by_cases c7:((a0.getD Qbb.toNat Qd.z).Jt)=true
      ·replace H:=sT c7 H
       rw [c7]
       refine Qh hT 6 (K30 1111010011001 1) ⟨41,(Yp.p0 a1 a2++[(7,.own 0 2 0 Qj.length),(9,.ptr 1 0 0 0),(17,.d (Xq t0 a0)),(18,.i (a0.length:Int)),(19,.i Qbb),(30,.b (decide (((a0.getD Qbb.toNat Qd.z).Time)<=a2)))]),[Xj Qj,.box 41 (Qb0 (a0.getD Qbb.toNat Qd.z))]⟩ ?_
       exact Jj2 (decide (((a0.getD Qbb.toNat Qd.z).Time)<=a2)) H
      replace H:=sF c7 H
      rw [Zz c7]
      refine Qh hT 6 (K30 1111010011001 1) ⟨41,(Yp.p0 a1 a2++[(7,.own 0 2 0 Qj.length),(9,.ptr 1 0 0 0),(17,.d (Xq t0 a0)),(18,.i (a0.length:Int)),(19,.i Qbb),(30,.b false)]),[Xj Qj,.box 41 (Qb0 (a0.getD Qbb.toNat Qd.z))]⟩ ?_
      exact Jj2 false H
     replace H:=sF c5 H
     rw [decide_eq_false c5]
     refine Qh hT 7 (K30 11111 1) ⟨41,[(6,.own 0 2 0 Qj.length)],[Xj Qj]⟩ ?_
     obtain rfl:=Yg H
     exact Yi hf hX h0 (.own 0 2 0 Qj.length) [0] (ac (Qa1 Qa.nl) an) (.own _ _ _ _)
  refine Qhm [0] ⟨41,(Yp.p0 a1 a2++[(7,.own 0 2 0 ([]:List Qa).length),(17,.d (Xq t0 a0)),(18,.i (a0.length:Int)),(19,.i 0)]),[Xj ([]:List Qa)]⟩ h0 ?_
  obtain ⟨n,H⟩:=Qbz H
  exact (L n) 0 ([]:List Qa) H
 refine Ws (Yk:=[.d (Xd true a1)]) (dst:=some 11) (k':=(K30 1100 2)) [0,1,2,11] [] hP Qiz (Yw.Wv (t0:=true) a1 h1) (by kernel_rfl) (Qz _) (.cons (Qp _) .nil) (st':=⟨41,[(0,.d (Xq t0 a0)),(1,.d (Xd true a1)),(2,.i a2),(11,.b v1)],[]⟩) (by kernel_rfl) ?_
 refine Qh hT 2 (K30 1100 4) ⟨41,[(0,.d (Xq t0 a0)),(1,.d (Xd true a1)),(2,.i a2),(13,.b (!v1))],[]⟩ ?_
 by_cases c2:v1=true
 ·replace H:=iT c2 H
  rw [c2]
  refine Qh hT 1 (K30 1100 5) ⟨41,[(0,.d (Xq t0 a0)),(1,.d (Xd true a1)),(2,.i a2),(13,.b false),(14,.d (Xq t0 a0))],[]⟩ ?_
  obtain ⟨v2,h3,H⟩:=ibC H
  refine Ws (Yk:=[.d (Xq t0 a0),.d (.fn 61 [])]) (dst:=some 15) (k':=(K30 1100 6)) [0,1,2,13,15] [] hP Quf (Qay.Wv (t0:=t0) (Jc:=61) (Jk:=[]) a0 (fun z0=>Qga z0) Wce (fun z0 r h=>Qga.Wv z0 h) h3) (by kernel_rfl) (Qz _) (.cons (Qp _) (.cons (Qp _) .nil)) (st':=⟨41,[(0,.d (Xq t0 a0)),(1,.d (Xd true a1)),(2,.i a2),(13,.b false),(15,.b v2)],[]⟩) (by kernel_rfl) ?_
  refine Qh hT 2 (K30 110 1) ⟨41,[(0,.d (Xq t0 a0)),(1,.d (Xd true a1)),(2,.i a2),(16,.b v2)],[]⟩ ?_
  exact Yn v2 H
 replace H:=iF c2 H
 rw [Zz c2]
 refine Qh hT 4 (K30 110 1) ⟨41,[(0,.d (Xq t0 a0)),(1,.d (Xd true a1)),(2,.i a2),(16,.b true)],[]⟩ ?_
 exact Yn true H
theorem Zn.Wv {t0:Bool} {Jc:FuncId} {Jk:List DV} (a0:List Ql) (p1:Ql->Option Bool) (he1:Sy.Enters Tryz.prog Jc) (hp1:∀ (z0:Ql) r,p1 z0=some r->Yy Tryz.prog Jc [] ([.d (Qas z0)] ++ List.map AV.d Jk) [] (.b r)) {r:Int} (H:Zn a0 p1=some r):Yy Tryz.prog 123 [] [.d (Qb4 t0 a0),.d (.fn Jc Jk)] [] (.i r):=by
 refine Yc Tryz.func123 rfl (nt:=19) rfl (lb rfl) fun X hP h0 hX=>?_
 have hT:Xo X.P T:=hP▸tok
 have hf:X.P.funcs[123]? = some Tryz.f123:=hP▸Tryz.func123
 refine Qh hT 13 (Qjn 11010 0) ⟨19,[(0,.d (Qb4 t0 a0)),(1,.d (.fn Jc Jk)),(7,.i (a0.length:Int)),(8,.i 0)],[]⟩ ?_
 have L:∀ n,(∀ (Wi:Int),iter (Zn.step a0 p1) n (.l1 Wi)=some r->AK X 123 ((Qjn 11010 0)) (Yt X [] (.i r)) ⟨19,[(0,.d (Qb4 t0 a0)),(1,.d (.fn Jc Jk)),(7,.i (a0.length:Int)),(8,.i Wi)],[]⟩):=by
  intro n
  induction n with
  | zero=>exact fun _ H=>Qbd H
  | succ n ih=>
   ·intro Wi H
    refine Qh hT 5 (Qjn 1101001 0) ⟨19,[(0,.d (Qb4 t0 a0)),(1,.d (.fn Jc Jk)),(7,.i (a0.length:Int)),(8,.i Wi),(9,.b (decide (Wi < (a0.length:Int))))],[]⟩ ?_
    by_cases c1:Wi < (a0.length:Int)
    ·replace H:=sT c1 H
     rw [decide_eq_true c1]
     refine Qh hT 2 (Qjn 1101001 1) ⟨19,[(0,.d (Qb4 t0 a0)),(1,.d (.fn Jc Jk)),(7,.i (a0.length:Int)),(8,.i Wi)],[]⟩ ?_
     refine Qh hT 12 (Qjn 110100110010 3) ⟨19,[(0,.d (Qb4 t0 a0)),(1,.d (.fn Jc Jk)),(5,.i Wi),(7,.i (a0.length:Int)),(8,.i Wi),(11,.d (.fn Jc Jk)),(12,.d (Qb4 t0 a0)),(13,.i Wi)],[]⟩ ?_
     obtain ⟨h2,H⟩:=sC H
     refine Jf hT [0,1,5,7,8,11,14] (i:=Wi) (n:=(a0.length:Int)) h2.1 h2.2 (k':=(Qjn 110100110010 4)) (st':=⟨19,[(0,.d (Qb4 t0 a0)),(1,.d (.fn Jc Jk)),(5,.i Wi),(7,.i (a0.length:Int)),(8,.i Wi),(11,.d (.fn Jc Jk)),(14,.d (Wfa t0 a0 Wi.toNat 0))],[]⟩) (by kernel_rfl) ?_
     refine Qh hT 1 (Qjn 110100110010 5) ⟨19,[(0,.d (Qb4 t0 a0)),(1,.d (.fn Jc Jk)),(5,.i Wi),(7,.i (a0.length:Int)),(8,.i Wi),(11,.d (.fn Jc Jk)),(15,.d (Qas (a0.getD Wi.toNat Ql.z)))],[]⟩ ?_
     obtain ⟨v1,h3,H⟩:=sbC H
     refine Ws (Yk:=[.d (Qas (a0.getD Wi.toNat Ql.z))] ++ List.map AV.d Jk) (dst:=some 16) (k':=(Qjn 110100110010 6)) [0,1,5,7,8,16] [] hP he1 (hp1 (a0.getD Wi.toNat Ql.z) v1 h3) (by kernel_rfl) (Qz _) (.cons (Qp _) (Qh1 _)) (st':=⟨19,[(0,.d (Qb4 t0 a0)),(1,.d (.fn Jc Jk)),(5,.i Wi),(7,.i (a0.length:Int)),(8,.i Wi),(16,.b v1)],[]⟩) (by kernel_rfl) ?_
     refine Qh hT 1 (Qjn 11010011001 1) ⟨19,[(0,.d (Qb4 t0 a0)),(1,.d (.fn Jc Jk)),(5,.i Wi),(7,.i (a0.length:Int)),(8,.i Wi),(16,.b v1)],[]⟩ ?_
     by_cases c4:v1=true
     ·replace H:=sT c4 H
      rw [c4]
      refine Qh hT 6 (Qjn 1101001100110 1) ⟨19,[(4,.i Wi)],[]⟩ ?_
      obtain rfl:=Yg H
      exact Yi hf hX h0 (.i Wi) [] an (.d (.v _))
     replace H:=sF c4 H
     rw [Zz c4]
     refine Qh hT 3 (Qjn 11010011 1) ⟨19,[(0,.d (Qb4 t0 a0)),(1,.d (.fn Jc Jk)),(7,.i (a0.length:Int)),(8,.i Wi)],[]⟩ ?_
     refine Qh hT 5 (Qjn 11010 0) ⟨19,[(0,.d (Qb4 t0 a0)),(1,.d (.fn Jc Jk)),(7,.i (a0.length:Int)),(8,.i (IntKind.wrap .i64 (Wi+1)))],[]⟩ ?_
     exact ih (IntKind.wrap .i64 (Wi+1)) H
    replace H:=sF c1 H
    rw [decide_eq_false c1]
    refine Qh hT 6 (Qjn 111 1) ⟨19,[(4,.i (-1))],[]⟩ ?_
    obtain rfl:=Yg H
    exact Yi hf hX h0 (.i (-1)) [] an (.d (.v _))
 obtain ⟨n,H⟩:=Qbz H
 exact (L n) 0 H
theorem Qb7.Wv {t0:Bool} {Jc:FuncId} {Jk:List DV} (a0:List Ql) (p1:Ql->Option Bool) (he1:Sy.Enters Tryz.prog Jc) (hp1:∀ (z0:Ql) r,p1 z0=some r->Yy Tryz.prog Jc [] ([.d (Qas z0)] ++ List.map AV.d Jk) [] (.b r)) {r:Bool} (H:Qb7 a0 p1=some r):Yy Tryz.prog 116 [] [.d (Qb4 t0 a0),.d (.fn Jc Jk)] [] (.b r):=by
 refine Yc Tryz.func116 rfl (nt:=9) rfl (lb rfl) fun X hP h0 hX=>?_
 have hT:Xo X.P T:=hP▸tok
 have hf:X.P.funcs[116]? = some Tryz.f116:=hP▸Tryz.func116
 refine Qh hT 8 (Weo 110 2) ⟨9,[(5,.d (Qb4 t0 a0)),(6,.d (.fn Jc Jk))],[]⟩ ?_
 obtain ⟨v1,h1,H⟩:=ibC H
 refine Ws (Yk:=[.d (Qb4 t0 a0),.d (.fn Jc Jk)]) (dst:=some 7) (k':=(Weo 110 3)) [7] [] hP Qz4 (Zn.Wv (t0:=t0) (Jc:=Jc) (Jk:=Jk) a0 p1 he1 hp1 h1) (by kernel_rfl) (Qz _) (.cons (Qp _) (.cons (Qp _) .nil)) (st':=⟨9,[(7,.i v1)],[]⟩) (by kernel_rfl) ?_
 refine Qh hT 3 (Weo 11 1) ⟨9,[(4,.b (decide (v1>=0)))],[]⟩ ?_
 obtain rfl:=Yg H
 exact Yi hf hX h0 (.b (decide (v1>=0))) [] an (.d (.v _))
theorem Qgb.Wv (a0:Ql) {r:Bool} (H:Qgb a0=some r):Yy Tryz.prog 117 [] [.d (Qas a0)] [] (.b r):=by
 refine Yc Tryz.func117 rfl (nt:=6) rfl (lb rfl) fun X hP h0 hX=>?_
 have hT:Xo X.P T:=hP▸tok
 have hf:X.P.funcs[117]? = some Tryz.f117:=hP▸Tryz.func117
 refine Qh hT 8 (Wep 110 1) ⟨6,[(3,.d (Qas a0))],[.box 39 (Ya a0)]⟩ ?_
 obtain ⟨v1,h1,H⟩:=ibC H
 refine Ws (Yk:=[.d (Qas a0)]) (dst:=some 4) (k':=(Wep 110 2)) [4] [] hP Qgs (Qbg.Wv a0 h1) (by kernel_rfl) (Qz _) (.cons (Qp _) .nil) (st':=⟨6,[(4,.b v1)],[.box 39 (Ya a0)]⟩) (by kernel_rfl) ?_
 refine Qh hT 3 (Wep 11 1) ⟨6,[(2,.b (!v1))],[.box 39 (Ya a0)]⟩ ?_
 obtain rfl:=Yg H
 exact Yi hf hX h0 (.b (!v1)) [] an (.d (.v _))
abbrev Jb.p0 (t0:Bool) (a0:List Qa) (t1:Bool) (a1:List Ql) (a2:List Qb):List (Nat × AV):=[(0,.d (Xw t0 a0)),(1,.d (Qb4 t1 a1)),(2,.d (Xd true a2))]
theorem Jb.Wv {t0:Bool} {t1:Bool} (a0:List Qa) (a1:List Ql) (a2:List Qb) {r:List Qa} (H:Jb a0 a1 a2=some r):Yy Tryz.prog 100 [] [.d (Xw t0 a0),.d (Qb4 t1 a1),.d (Xd true a2)] [Xj r] (.own 0 2 0 r.length):=by
 refine Yc Tryz.func100 rfl (nt:=39) rfl (lb rfl) fun X hP h0 hX=>?_
 have hT:Xo X.P T:=hP▸tok
 have hf:X.P.funcs[100]? = some Tryz.f100:=hP▸Tryz.func100
 refine Qh hT 8 (Qfe 1100 1) ⟨39,(Jb.p0 t0 a0 t1 a1 a2++[(10,.d (Xw t0 a0))]),[]⟩ ?_
 obtain ⟨v1,h1,H⟩:=ibC H
 have Yn:∀ (Qep:Bool),(Jb.j1 a0 a1 a2 Qep)=some r->AK X 100 ((Qfe 110 1)) (Yt X [Xj r] (.own 0 2 0 r.length)) ⟨39,(Jb.p0 t0 a0 t1 a1 a2++[(21,.b Qep)]),[]⟩:=by
  intro Qep H
  by_cases c6:Qep=true
  ·replace H:=iT c6 H
   rw [c6]
   refine Qh hT 5 (Qfe 11010 1) ⟨39,[(6,.ns)],[]⟩ ?_
   refine Qc6 [6] 6 2 81 (vec Qa.e Qa.z []) (st':=⟨39,[(6,.own 0 2 0 0)],[Xj ([]:List Qa)]⟩) (by kernel_rfl) (by kernel_rfl) ?_
   obtain rfl:=Yg H
   exact Yi hf hX h0 (.own 0 2 0 0) [0] (ac (Qa1 Qa.nl) an) (.own _ _ _ _)
  replace H:=iF c6 H
  rw [Zz c6]
  refine Qh hT 2 (Qfe 11 1) ⟨39,(Jb.p0 t0 a0 t1 a1 a2),[]⟩ ?_
  refine Qh hT 3 (Qfe 1110 1) ⟨39,[(1,.d (Qb4 t1 a1)),(2,.d (Xd true a2)),(22,.d (Xw t0 a0))],[]⟩ ?_
  obtain ⟨h7,H⟩:=iC H
  refine Ws (Yk:=[.d (Xw t0 a0)]) (dst:=some 23) (k':=(Qfe 1110 2)) [1,2,23] [] hP Qmb (Qp2 (tg:=t0) a0 h7) (by kernel_rfl) (Qz _) (.cons (Qp _) .nil) (st':=⟨39,[(1,.d (Qb4 t1 a1)),(2,.d (Xd true a2)),(23,.own 0 2 0 a0.length)],[Xj a0]⟩) (by kernel_rfl) ?_
  refine Qh hT 11 (Qfe 1111010 0) ⟨39,[(2,.d (Xd true a2)),(7,.own 0 2 0 a0.length),(24,.d (Qb4 t1 a1)),(25,.i (a1.length:Int)),(26,.i 0)],[Xj a0]⟩ ?_
  have L:∀ n,(∀ (Qdr:Int) (Qj:List Qa),iter (Jb.step a1 a2) n (.l1 Qdr Qj)=some r->AK X 100 ((Qfe 1111010 0)) (Yt X [Xj r] (.own 0 2 0 r.length)) ⟨39,[(2,.d (Xd true a2)),(7,.own 0 2 0 Qj.length),(24,.d (Qb4 t1 a1)),(25,.i (a1.length:Int)),(26,.i Qdr)],[Xj Qj]⟩):=by
   intro n
   induction n with
   | zero=>exact fun _ _ H=>Qbd H
   | succ n ih=>
    ·intro Qdr Qj H
     refine Qh hT 5 (Qfe 111101001 0) ⟨39,[(2,.d (Xd true a2)),(7,.own 0 2 0 Qj.length),(24,.d (Qb4 t1 a1)),(25,.i (a1.length:Int)),(26,.i Qdr),(27,.b (decide (Qdr < (a1.length:Int))))],[Xj Qj]⟩ ?_
     by_cases c8:Qdr < (a1.length:Int)
     ·replace H:=sT c8 H
      rw [decide_eq_true c8]
      refine Qh hT 2 (Qfe 111101001 1) ⟨39,[(2,.d (Xd true a2)),(7,.own 0 2 0 Qj.length),(24,.d (Qb4 t1 a1)),(25,.i (a1.length:Int)),(26,.i Qdr)],[Xj Qj]⟩ ?_
      refine Qh hT 4 (Qfe 1111010011000 0) ⟨39,[(2,.d (Xd true a2)),(7,.own 0 2 0 Qj.length),(24,.d (Qb4 t1 a1)),(25,.i (a1.length:Int)),(26,.i Qdr)],[Xj Qj]⟩ ?_
      obtain ⟨h9,H⟩:=sC H
      refine Jf hT [2,7,24,25,26,28] (i:=Qdr) (n:=(a1.length:Int)) h9.1 h9.2 (k':=(Qfe 1111010011000 1)) (st':=⟨39,[(2,.d (Xd true a2)),(7,.own 0 2 0 Qj.length),(24,.d (Qb4 t1 a1)),(25,.i (a1.length:Int)),(26,.i Qdr),(28,.d (Wfa t1 a1 Qdr.toNat 0))],[Xj Qj]⟩) (by kernel_rfl) ?_
      refine Qh hT 8 (Qfe 1111010011001 3) ⟨39,[(2,.d (Xd true a2)),(24,.d (Qb4 t1 a1)),(25,.i (a1.length:Int)),(26,.i Qdr),(31,.own 0 2 0 Qj.length),(32,.d (Qas (a1.getD Qdr.toNat Ql.z))),(33,.d (Xd true a2))],[Xj Qj,.box 39 (Ya (a1.getD Qdr.toNat Ql.z))]⟩ ?_
      obtain ⟨v4,h10,H⟩:=sbC H
      refine Ws (Yk:=[.own 0 2 0 Qj.length,.d (Qas (a1.getD Qdr.toNat Ql.z)),.d (Xd true a2)]) (dst:=some 34) (k':=(Qfe 1111010011001 4)) [2,24,25,26,34] [] hP Qoy (Wm.Wv (t0:=false) Qj (a1.getD Qdr.toNat Ql.z) a2 h10) (by kernel_rfl) (Qz _) (.cons (.Qek (ty:=81) (by kernel_rfl) rfl) (.cons (Qp _) (.cons (Qp _) .nil))) (st':=⟨39,[(2,.d (Xd true a2)),(24,.d (Qb4 t1 a1)),(25,.i (a1.length:Int)),(26,.i Qdr),(34,.Qn [.own 2 2 0 v4.1.length,.b v4.2])],[Xj Qj,.box 39 (Ya (a1.getD Qdr.toNat Ql.z)),Xj v4.1]⟩) (by kernel_rfl) ?_
      refine Xn hT 11 (Qfe 1111010 0) [2] ⟨39,[(2,.d (Xd true a2)),(7,.own 0 2 0 v4.1.length),(24,.d (Qb4 t1 a1)),(25,.i (a1.length:Int)),(26,.i (IntKind.wrap .i64 (Qdr+1)))],[Xj v4.1]⟩ h0 ?_
      exact ih (IntKind.wrap .i64 (Qdr+1)) v4.1 H
     replace H:=sF c8 H
     rw [decide_eq_false c8]
     refine Qh hT 7 (Qfe 11111 1) ⟨39,[(6,.own 0 2 0 Qj.length)],[Xj Qj]⟩ ?_
     obtain rfl:=Yg H
     exact Yi hf hX h0 (.own 0 2 0 Qj.length) [0] (ac (Qa1 Qa.nl) an) (.own _ _ _ _)
  obtain ⟨n,H⟩:=Qbz H
  exact (L n) 0 a0 H
 refine Ws (Yk:=[.d (Xw t0 a0)]) (dst:=some 11) (k':=(Qfe 1100 2)) [0,1,2,11] [] hP Qoz (Xk.Wv (t0:=t0) a0 h1) (by kernel_rfl) (Qz _) (.cons (Qp _) .nil) (st':=⟨39,(Jb.p0 t0 a0 t1 a1 a2++[(11,.b v1)]),[]⟩) (by kernel_rfl) ?_
 refine Qh hT 2 (Qfe 1100 4) ⟨39,(Jb.p0 t0 a0 t1 a1 a2++[(13,.b (!v1))]),[]⟩ ?_
 by_cases c2:v1=true
 ·replace H:=iT c2 H
  rw [c2]
  refine Qh hT 1 (Qfe 1100 5) ⟨39,(Jb.p0 t0 a0 t1 a1 a2++[(13,.b false),(14,.d (Xd true a2))]),[]⟩ ?_
  obtain ⟨v2,h3,H⟩:=ibC H
  refine Ws (Yk:=[.d (Xd true a2)]) (dst:=some 15) (k':=(Qfe 1100 6)) [0,1,2,13,15] [] hP Qiz (Yw.Wv (t0:=true) a2 h3) (by kernel_rfl) (Qz _) (.cons (Qp _) .nil) (st':=⟨39,(Jb.p0 t0 a0 t1 a1 a2++[(13,.b false),(15,.b v2)]),[]⟩) (by kernel_rfl) ?_
  refine Qh hT 3 (Qfe 1100 9) ⟨39,(Jb.p0 t0 a0 t1 a1 a2++[(18,.b (!v2))]),[]⟩ ?_
  by_cases c4:v2=true
  ·replace H:=iT c4 H
   rw [c4]
   refine Qh hT 1 (Qfe 1100 10) ⟨39,(Jb.p0 t0 a0 t1 a1 a2++[(18,.b false),(19,.d (Qb4 t1 a1))]),[]⟩ ?_
   obtain ⟨v3,h5,H⟩:=ibC H
   refine Ws (Yk:=[.d (Qb4 t1 a1),.d (.fn 117 [])]) (dst:=some 20) (k':=(Qfe 1100 11)) [0,1,2,18,20] [] hP Qzy (Qb7.Wv (t0:=t1) (Jc:=117) (Jk:=[]) a1 (fun z0=>Qgb z0) Qzz (fun z0 r h=>Qgb.Wv z0 h) h5) (by kernel_rfl) (Qz _) (.cons (Qp _) (.cons (Qp _) .nil)) (st':=⟨39,(Jb.p0 t0 a0 t1 a1 a2++[(18,.b false),(20,.b v3)]),[]⟩) (by kernel_rfl) ?_
   refine Qh hT 2 (Qfe 110 1) ⟨39,(Jb.p0 t0 a0 t1 a1 a2++[(21,.b v3)]),[]⟩ ?_
   exact Yn v3 H
  replace H:=iF c4 H
  rw [Zz c4]
  refine Qh hT 4 (Qfe 110 1) ⟨39,(Jb.p0 t0 a0 t1 a1 a2++[(21,.b true)]),[]⟩ ?_
  exact Yn true H
 replace H:=iF c2 H
 rw [Zz c2]
 refine Qh hT 9 (Qfe 110 1) ⟨39,(Jb.p0 t0 a0 t1 a1 a2++[(21,.b true)]),[]⟩ ?_
 exact Yn true H
theorem Qgv.Wv {t0:Bool} (a0:List Qa) (a1:Int) {r:Int × Bool} (H:Qgv a0 a1=some r):Yy Tryz.prog 28 [] [.d (Xw t0 a0),.i a1] [] (.Qn [.i r.1,.b r.2]):=by
 refine Yc Tryz.func28 rfl (nt:=14) rfl (lb rfl) fun X hP h0 hX=>?_
 have hT:Xo X.P T:=hP▸tok
 have hf:X.P.funcs[28]? = some Tryz.f28:=hP▸Tryz.func28
 refine Qh hT 9 (K28 1100 1) ⟨14,[(0,.d (Xw t0 a0)),(1,.i a1),(6,.d (Xw t0 a0))],[]⟩ ?_
 obtain ⟨v1,h1,H⟩:=ibC H
 refine Ws (Yk:=[.d (Xw t0 a0)]) (dst:=some 7) (k':=(K28 1100 2)) [0,1,7] [] hP Qoz (Xk.Wv (t0:=t0) a0 h1) (by kernel_rfl) (Qz _) (.cons (Qp _) .nil) (st':=⟨14,[(0,.d (Xw t0 a0)),(1,.i a1),(7,.b v1)],[]⟩) (by kernel_rfl) ?_
 refine Qh hT 2 (K28 110 1) ⟨14,[(0,.d (Xw t0 a0)),(1,.i a1),(8,.b (!v1))],[]⟩ ?_
 by_cases c2:v1=true
 ·replace H:=iT c2 H
  rw [c2]
  refine Qh hT 2 (K28 11 1) ⟨14,[(0,.d (Xw t0 a0)),(1,.i a1)],[]⟩ ?_
  refine Qh hT 4 (K28 1110 2) ⟨14,[(9,.d (Xw t0 a0)),(10,.i a1)],[]⟩ ?_
  obtain ⟨v2,h3,H⟩:=ibC H
  refine Ws (Yk:=[.d (Xw t0 a0),.i a1]) (dst:=some 11) (k':=(K28 1110 3)) [11] [] hP Qo1 (Qf3.Wv (t0:=t0) a0 a1 h3) (by kernel_rfl) (Qz _) (.cons (Qp _) (.cons (Qp _) .nil)) (st':=⟨14,[(11,.Qn [.i v2.1,.b v2.2])],[]⟩) (by kernel_rfl) ?_
  refine Qh hT 5 (K28 111 1) ⟨14,[(4,.i v2.1),(5,.b v2.2)],[]⟩ ?_
  obtain rfl:=Yg H
  exact Yi hf hX h0 (.Qn [.i v2.1,.b v2.2]) [] an (.Qn (.cons (.d (.v _)) (.cons (.d (.v _)) .nil)))
 replace H:=iF c2 H
 rw [Zz c2]
 refine Qh hT 6 (K28 11010 1) ⟨14,[(4,.i 0),(5,.b false)],[]⟩ ?_
 obtain rfl:=Yg H
 exact Yi hf hX h0 (.Qn [.i 0,.b false]) [] an (.Qn (.cons (.d (.v _)) (.cons (.d (.v _)) .nil)))
abbrev Qc4.p0 (t0:Bool) (a0:List Qd) (a1:Qft) (a2:Int) (a3:Int):List (Nat × AV):=[(0,.d (Xq t0 a0)),(1,.d (.rop false 1 (fun _=>[Qb4 false a1.l,.i a1.mark]) 0 0)),(2,.i a2),(3,.i a3),(8,.ptr 0 0 0 0)]
theorem Qc4.Wv {t0:Bool} (a0:List Qd) (a1:Qft) (a2:Int) (a3:Int) {r:Yv} (H:Qc4 a0 a1 a2 a3=some r):Yy Tryz.prog 78 [] [.d (Xq t0 a0),.d (.rop false 1 (fun _=>[Qb4 false a1.l,.i a1.mark]) 0 0),.i a2,.i a3] [] (.d (Qht r)):=by
 refine Yc Tryz.func78 rfl (nt:=31) rfl (lb rfl) fun X hP h0 hX=>?_
 have hT:Xo X.P T:=hP▸tok
 have hf:X.P.funcs[78]? = some Tryz.f78:=hP▸Tryz.func78
 refine Qh hT 7 (K78 110 1) ⟨31,(Qc4.p0 t0 a0 a1 a2 a3++[(12,.d (Xq t0 a0))]),[.box 36 [.i 0,.b false]]⟩ ?_
 refine Ws (Yk:=[]) (dst:=some 13) (k':=(K78 110 2)) [0,1,2,3,8,12,13] [] hP Qsj (Qem.Wv) (by kernel_rfl) (Qz _) .nil (st':=⟨31,(Qc4.p0 t0 a0 a1 a2 a3++[(12,.d (Xq t0 a0)),(13,.own 1 2 0 Qem.length)]),[.box 36 [.i 0,.b false],Qap Qem]⟩) (by kernel_rfl) ?_
 obtain ⟨v1,h1,H⟩:=idC H
 rw [<- h1]
 refine Qh hT 1 (K78 110 3) ⟨31,(Qc4.p0 t0 a0 a1 a2 a3++[(12,.d (Xq t0 a0)),(13,.own 1 2 0 v1.length),(14,.i a3)]),[.box 36 [.i 0,.b false],Qap v1]⟩ ?_
 refine Qdp 1 (kk:=2) (n:=v1.length) (ty:=33) (g:=vec Qb.e Qb.z v1) (by kernel_rfl) (st':=⟨31,(Qc4.p0 t0 a0 a1 a2 a3++[(12,.d (Xq t0 a0)),(13,.own 1 2 0 v1.length),(14,.i a3)]),[.box 36 [.i 0,.b false],Qbt v1]⟩) (by kernel_rfl) ?_
 obtain ⟨v2,h2,H⟩:=ibC H
 refine Ws (Yk:=[.d (Xq t0 a0),.own 1 2 0 v1.length,.i a3]) (dst:=some 15) (k':=(K78 110 4)) [0,1,2,3,8,15] [] hP Qua (Yp.Wv (t0:=t0) a0 v1 a3 h2) (by kernel_rfl) (Qz _) (.cons (Qp _) (.cons (.Qek (ty:=33) (by kernel_rfl) rfl) (.cons (Qp _) .nil))) (st':=⟨31,(Qc4.p0 t0 a0 a1 a2 a3++[(15,.own 2 2 0 v2.length)]),[.box 36 [.i 0,.b false],Qbt v1,Xj v2]⟩) (by kernel_rfl) ?_
 refine Qh hT 3 (K78 110 7) ⟨31,[(2,.i a2),(8,.ptr 0 0 0 0),(15,.own 2 2 0 v2.length),(16,.d (Xq t0 a0)),(17,.d (.rop false 1 (fun _=>[Qb4 false a1.l,.i a1.mark]) 0 0)),(18,.i a3)],[.box 36 [.i 0,.b false],Qbt v1,Xj v2]⟩ ?_
 obtain ⟨v3,h3,H⟩:=ibC H
 refine Ws (Yk:=[.d (Xq t0 a0),.d (.rop false 1 (fun _=>[Qb4 false a1.l,.i a1.mark]) 0 0),.i a3]) (dst:=some 19) (k':=(K78 110 8)) [2,8,15,19] [] hP Qzo (Xu.Wv (t0:=t0) a0 a1 a3 h3) (by kernel_rfl) (Qz _) (.cons (Qp _) (.cons (Qp _) (.cons (Qp _) .nil))) (st':=⟨31,[(2,.i a2),(8,.ptr 0 0 0 0),(15,.own 2 2 0 v2.length),(19,.own 3 7 0 v3.length)],[.box 36 [.i 0,.b false],Qbt v1,Xj v2,Qd7 v3]⟩) (by kernel_rfl) ?_
 refine Ws (Yk:=[]) (dst:=some 20) (k':=(K78 110 9)) [2,8,15,19,20] [] hP Qsj (Qem.Wv) (by kernel_rfl) (Qz _) .nil (st':=⟨31,[(2,.i a2),(8,.ptr 0 0 0 0),(15,.own 2 2 0 v2.length),(19,.own 3 7 0 v3.length),(20,.own 4 2 0 Qem.length)],[.box 36 [.i 0,.b false],Qbt v1,Xj v2,Qd7 v3,Qap Qem]⟩) (by kernel_rfl) ?_
 obtain ⟨v4,h4,H⟩:=idC H
 rw [<- h4]
 refine Qdp 4 (kk:=2) (n:=v4.length) (ty:=33) (g:=vec Qb.e Qb.z v4) (by kernel_rfl) (st':=⟨31,[(2,.i a2),(8,.ptr 0 0 0 0),(15,.own 2 2 0 v2.length),(19,.own 3 7 0 v3.length),(20,.own 4 2 0 v4.length)],[.box 36 [.i 0,.b false],Qbt v1,Xj v2,Qd7 v3,Qbt v4]⟩) (by kernel_rfl) ?_
 obtain ⟨v5,h5,H⟩:=ibC H
 refine Ws (Yk:=[.own 2 2 0 v2.length,.own 3 7 0 v3.length,.own 4 2 0 v4.length]) (dst:=some 21) (k':=(K78 110 10)) [2,8,21] [] hP Qzn (Jb.Wv (t0:=false) (t1:=false) v2 v3 v4 h5) (by kernel_rfl) (Qz _) (.cons (.Qek (ty:=81) (by kernel_rfl) rfl) (.cons (.Qek (ty:=39) (by kernel_rfl) rfl) (.cons (.Qek (ty:=33) (by kernel_rfl) rfl) .nil))) (st':=⟨31,[(2,.i a2),(8,.ptr 0 0 0 0),(21,.own 5 2 0 v5.length)],[.box 36 [.i 0,.b false],Qbt v1,Xj v2,Qd7 v3,Qbt v4,Xj v5]⟩) (by kernel_rfl) ?_
 refine Qh hT 6 (K78 1110 2) ⟨31,[(8,.ptr 0 0 0 0),(23,.own 5 2 0 v5.length),(24,.i a2)],[.box 36 [.i 0,.b false],Qbt v1,Xj v2,Qd7 v3,Qbt v4,Xj v5]⟩ ?_
 obtain ⟨v6,h6,H⟩:=ibC H
 refine Ws (Yk:=[.own 5 2 0 v5.length,.i a2]) (dst:=some 25) (k':=(K78 1110 3)) [8,25] [] hP Qt9 (Qgv.Wv (t0:=false) v5 a2 h6) (by kernel_rfl) (Qz _) (.cons (.Qek (ty:=81) (by kernel_rfl) rfl) (.cons (Qp _) .nil)) (st':=⟨31,[(8,.ptr 0 0 0 0),(25,.Qn [.i v6.1,.b v6.2])],[.box 36 [.i 0,.b false],Qbt v1,Xj v2,Qd7 v3,Qbt v4,Xj v5]⟩) (by kernel_rfl) ?_
 refine Qh hT 13 (K78 1111 1) ⟨31,[(8,.ptr 0 0 0 0)],[.box 36 [.i v6.1,.b v6.2],Qbt v1,Xj v2,Qd7 v3,Qbt v4,Xj v5]⟩ ?_
 obtain rfl:=Yg H
 exact Qdz hT hf hX (av:=.d (.agg [.i v6.1,.b v6.2])) (by kernel_rfl) [] (Jh (by kernel_rfl)) (by decide) (by rw [h0];rfl) (by kernel_rfl) an (.d (.agg (Yv.nl _)))
abbrev Qr.q1 (a0:List Qd) (v1:List Qc) (Qan:List Qe):List Row:=[.box 114 [.i 0,.i 0,.i 0,.i 0,.b false,.b false,.ns,.ns,.d (Xq true a0),.ns],.box 109 [.i 0,.i 0,.i 0,.i 0,.b false,.b false,.ns,.ns,.ns,.ns],.box 109 [.i 0,.i 0,.i 0,.i 0,.b false,.b false,.ns,.d (Yf true v1),.own 3 9 0 Qan.length,.ns],Qov Qan]
abbrev Qr.q2 (a0:List Qd):List AV:=[.i 0,.i 0,.i 0,.i 0,.b false,.b false,.ns,.ns,.d (Xq true a0),.ns]
abbrev Qr.q3:List AV:=[.i 0,.i 0,.i 0,.i 0,.b false,.b false,.ns,.ns,.ns,.ns]
abbrev Qr.q4 (v1:List Qc) (Qan:List Qe):List AV:=[.i 0,.i 0,.i 0,.i 0,.b false,.b false,.ns,.d (Yf true v1),.own 3 9 0 Qan.length,.ns]
abbrev Qr.s1 (Yq:Int) (a0:List Qd) (v1:List Qc) (Qan:List Qe):St:=⟨131,[(1,.ptr 0 0 0 0),(2,.ptr 1 0 0 0),(3,.ptr 2 0 0 0),(7,.i Yq)],(Qr.q1 a0 v1 Qan)⟩
end
end Go.SyP
