/- Certificates, printed by gen.py. -/
import Derived.Test.YticmlllaimjdcaaGreatG15zLP
import Derived.Test.YticmlllaimjdcaaGreatG15zA
set_option linter.unusedVariables false
set_option linter.unusedSimpArgs false
namespace Go.SyP
open Go Go.Sy Go.Proofs
noncomputable section
abbrev Qbk.p0 (a0:Int):List (Nat × AV):=[(6,.ptr 0 0 0 0),(13,.agg [.i 1,.i a0,.i a0,.own 1 2 0 1,.i 0,.i 0,.i 0])]
theorem Qbk.Wl (a0:Int) (a1:Int) (a2:Int):Yn Tryz.prog 15 [] [.i a0,.i a1,.i a2] [] (.d (Qaq (Qbk a0 a1 a2))):=by
 obtain ⟨r,H⟩:∃ r,Qbk a0 a1 a2=r:=⟨_,rfl⟩
 rw [H]
 refine Xt Tryz.func15 rfl (nt:=14) rfl (lb rfl) fun X hP h0 hX=>?_
 have hT:Xl X.P T:=hP▸tok
 have hf:X.P.funcs[15]? = some Tryz.f15:=hP▸Tryz.func15
 refine Qi hT 13 (K15 110 7) ⟨14,(Qbk.p0 a0),[.box 47 [.i 0,.i 0,.i 0,.ns,.i 0,.i 0,.i 0],.flat false 2 56 1 (fun j=>[[.i a1,.i a2]].getD j [])]⟩ ?_
 refine Qi9 1 (kk:=2) (fz:=false) (ty:=56) (n:=([(⟨a1,a2⟩:Qa)]:List Qa).length) (vec Qa.e Qa.z ([(⟨a1,a2⟩:Qa)]:List Qa)) (by kernel_rfl) Qhx (st':=⟨14,(Qbk.p0 a0),[.box 47 [.i 0,.i 0,.i 0,.ns,.i 0,.i 0,.i 0],Xp ([(⟨a1,a2⟩:Qa)]:List Qa)]⟩) (by kernel_rfl) ?_
 refine Qeg 1 (kk:=2) (n:=([(⟨a1,a2⟩:Qa)]:List Qa).length) (ty:=56) (g:=vec Qa.e Qa.z ([(⟨a1,a2⟩:Qa)]:List Qa)) (by kernel_rfl) (st':=⟨14,(Qbk.p0 a0),[.box 47 [.i 0,.i 0,.i 0,.ns,.i 0,.i 0,.i 0],Qnk ([(⟨a1,a2⟩:Qa)]:List Qa)]⟩) (by kernel_rfl) ?_
 refine Qhi (av:=.agg [.i 1,.i a0,.i a0,.own 1 2 0 1,.i 0,.i 0,.i 0]) (y:=.agg [.i 1,.i a0,.i a0,Xj true ([(⟨a1,a2⟩:Qa)]:List Qa),.i 0,.i 0,.i 0]) [6,13] 13 (st':=⟨14,[(6,.ptr 0 0 0 0),(13,.d (.agg [.i 1,.i a0,.i a0,Xj true ([(⟨a1,a2⟩:Qa)]:List Qa),.i 0,.i 0,.i 0]))],[.box 47 [.i 0,.i 0,.i 0,.ns,.i 0,.i 0,.i 0],Qnk ([(⟨a1,a2⟩:Qa)]:List Qa)]⟩) (by kernel_rfl) (.agg (.cons (.d _) (.cons (.d _) (.cons (.d _) (.cons (.own (ty:=56) (k:=2) (by kernel_rfl)) (.cons (.d _) (.cons (.d _) (.cons (.d _) .nil)))))))) (by kernel_rfl) ?_
 refine Qi hT 2 (K15 11 1) ⟨14,[(6,.ptr 0 0 0 0)],[.box 47 [.i 1,.i a0,.i a0,.d (Xj true ([(⟨a1,a2⟩:Qa)]:List Qa)),.i 0,.i 0,.i 0],Qnk ([(⟨a1,a2⟩:Qa)]:List Qa)]⟩ ?_
 obtain rfl:=H
 exact Qjm hT hf hX (av:=.d (.agg [.i 1,.i a0,.i a0,Xj true ([(⟨a1,a2⟩:Qa)]:List Qa),.i 0,.i 0,.i 0])) (by kernel_rfl) [] (Qb1 (by kernel_rfl)) (by decide) (by rw [h0];rfl) (by kernel_rfl) an (.d (.agg (Qu.nl _)))
abbrev Zg.p0 (t0:Bool) (a0:List Qb):List (Nat × AV):=[(0,.d (Xf t0 a0)),(5,.d (Xf t0 a0)),(6,.i (a0.length:Int))]
theorem Zg.Wl {t0:Bool} (a0:List Qb) {r:Bool} (H:Zg a0=some r):Yn Tryz.prog 40 [] [.d (Xf t0 a0)] [] (.b r):=by
 refine Xt Tryz.func40 rfl (nt:=34) rfl (lb rfl) fun X hP h0 hX=>?_
 have hT:Xl X.P T:=hP▸tok
 have hf:X.P.funcs[40]? = some Tryz.f40:=hP▸Tryz.func40
 refine Qi hT 13 (K40 11010 0) ⟨34,(Zg.p0 t0 a0++[(7,.i 0)]),[]⟩ ?_
 have L:∀ n,(∀ (Wq:Int),iter (Zg.step a0) n (.l1 Wq)=some r->AK X 40 ((K40 11010 0)) (Jb X [] (.b r)) ⟨34,(Zg.p0 t0 a0++[(7,.i Wq)]),[]⟩):=by
  intro n
  induction n with
  | zero=>exact fun _ H=>Qbx H
  | succ n ih=>
   ·intro Wq H
    refine Qi hT 5 (K40 1101001 0) ⟨34,(Zg.p0 t0 a0++[(7,.i Wq),(8,.b (decide (Wq < (a0.length:Int))))]),[]⟩ ?_
    by_cases c1:Wq < (a0.length:Int)
    ·replace H:=sT c1 H
     rw [decide_eq_true c1]
     refine Qi hT 2 (K40 1101001 1) ⟨34,(Zg.p0 t0 a0++[(7,.i Wq)]),[]⟩ ?_
     refine Qi hT 5 (K40 11010011000 1) ⟨34,(Zg.p0 t0 a0++[(7,.i Wq),(9,.i Wq)]),[]⟩ ?_
     obtain ⟨h2,H⟩:=sC H
     have Zl:∀ (Qrg:Bool),stk (Zg.j1 Wq Qrg) (iter (Zg.step a0) n)=some r->AK X 40 ((K40 11010011001 1)) (Jb X [] (.b r)) ⟨34,(Zg.p0 t0 a0++[(7,.i Wq),(29,.b Qrg)]),[]⟩:=by
      intro Qrg H
      by_cases c6:Qrg=true
      ·replace H:=sT c6 H
       rw [c6]
       refine Qi hT 5 (K40 1101001100110 1) ⟨34,[(2,.b false)],[]⟩ ?_
       obtain rfl:=Zb H
       exact Yr hf hX h0 (.b false) [] an (.d (.v _))
      replace H:=sF c6 H
      rw [boF c6]
      refine Qi hT 3 (K40 11010011 1) ⟨34,(Zg.p0 t0 a0++[(7,.i Wq)]),[]⟩ ?_
      refine Qi hT 5 (K40 11010 0) ⟨34,(Zg.p0 t0 a0++[(7,.i (IntKind.wrap .i64 (Wq+1)))]),[]⟩ ?_
      exact ih (IntKind.wrap .i64 (Wq+1)) H
     refine Qa7 hT [0,5,6,7,9,10] (i:=Wq) (n:=(a0.length:Int)) h2.1 h2.2 (k':=(K40 11010011000 2)) (st':=⟨34,(Zg.p0 t0 a0++[(7,.i Wq),(9,.i Wq),(10,.d (Qt5 t0 a0 Wq.toNat 0))]),[]⟩) (by kernel_rfl) ?_
     refine Qi hT 6 (K40 11010011001 0) ⟨34,[(0,.d (Xf t0 a0)),(3,.i Wq),(4,.ptr 0 0 0 0),(5,.d (Xf t0 a0)),(6,.i (a0.length:Int)),(7,.i Wq)],[.box 39 (Qfb (a0.getD Wq.toNat Qb.z))]⟩ ?_
     by_cases c3:(Qbc (a0.getD Wq.toNat Qb.z))=true
     ·replace H:=sT c3 H
      by_cases c4:Wq > 0
      ·replace H:=sT c4 H
       obtain ⟨h5,H⟩:=sC H
       refine Qbt (hP▸mixed) 18 [0,3,4,5,6,7] (sm [.d (Qfd (a0.getD Wq.toNat Qb.z)),.b true,.b false,.b false,.i Wq,.b true,.b true,.ptr 0 0 0 0,.i ((a0.getD Wq.toNat Qb.z).Lo),.d (Xf t0 a0),.i Wq,.i (IntKind.wrap .i64 (Wq - 1)),.d (Qt5 t0 a0 ((IntKind.wrap .i64 (Wq - 1)).toNat) 0),.d (Qt5 t0 a0 ((IntKind.wrap .i64 (Wq - 1)).toNat) 1),.i ((a0.getD ((IntKind.wrap .i64 (Wq - 1)).toNat) Qb.z).Hi),.b (decide (((a0.getD Wq.toNat Qb.z).Lo)<=((a0.getD ((IntKind.wrap .i64 (Wq - 1)).toNat) Qb.z).Hi))),.b (decide (((a0.getD Wq.toNat Qb.z).Lo)<=((a0.getD ((IntKind.wrap .i64 (Wq - 1)).toNat) Qb.z).Hi))),.b (decide (((a0.getD Wq.toNat Qb.z).Lo)<=((a0.getD ((IntKind.wrap .i64 (Wq - 1)).toNat) Qb.z).Hi)))]) (Qg (Qg (Qg (Qg (Qg (opS (Qg (Qg (Qg (Qg (Qg (Qg (opV (Qg (Qg (Qg (opS (Qg op0 hT) (fun R rest h=>Jz (Xw:=[.d (Qfd (a0.getD Wq.toNat Qb.z))]) (dst:=some 13) hP Qid (by have q:=Qbc.Wl (a0.getD Wq.toNat Qb.z);rw [c3] at q;exact q) (by kernel_rfl) (.cons (Qn _) .nil) (by kernel_rfl) h)) hT) hT) hT) hT 17 (.b (decide (Wq > 0))) (.b true) (by rw [decide_eq_true c4]<;>rfl)) hT) hT) hT) hT) hT) hT) (fun R rest h=>Qae hT (i:=IntKind.wrap .i64 (Wq - 1)) (n:=(a0.length:Int)) h5.1 h5.2 (by kernel_rfl) h)) hT) hT) hT) hT) hT) ?_
       refine Yi hT 1 (K40 11010011001 1) [] ⟨34,(Zg.p0 t0 a0++[(7,.i Wq),(29,.b (decide (((a0.getD Wq.toNat Qb.z).Lo)<=((a0.getD ((IntKind.wrap .i64 (Wq - 1)).toNat) Qb.z).Hi))))]),[]⟩ h0 ?_
       exact Zl (decide (((a0.getD Wq.toNat Qb.z).Lo)<=((a0.getD ((IntKind.wrap .i64 (Wq - 1)).toNat) Qb.z).Hi))) H
      replace H:=sF c4 H
      refine Qbt (hP▸mixed) 18 [0,3,4,5,6,7] (sm [.d (Qfd (a0.getD Wq.toNat Qb.z)),.b true,.b false,.b false,.i Wq,.b false,.b false,.Qq [],.Qq [],.Qq [],.Qq [],.Qq [],.Qq [],.Qq [],.Qq [],.Qq [],.b false,.b false]) (Qg (Qg (Qg (Qg (Qg (Qg (Qg (Qg (Qg (Qg (Qg (Qg (opV (Qg (Qg (Qg (opS (Qg op0 hT) (fun R rest h=>Jz (Xw:=[.d (Qfd (a0.getD Wq.toNat Qb.z))]) (dst:=some 13) hP Qid (by have q:=Qbc.Wl (a0.getD Wq.toNat Qb.z);rw [c3] at q;exact q) (by kernel_rfl) (.cons (Qn _) .nil) (by kernel_rfl) h)) hT) hT) hT) hT 17 (.b (decide (Wq > 0))) (.b false) (by rw [decide_eq_false c4]<;>rfl)) hT) hT) hT) hT) hT) hT) hT) hT) hT) hT) hT) hT) ?_
      refine Yi hT 1 (K40 11010011001 1) [] ⟨34,(Zg.p0 t0 a0++[(7,.i Wq),(29,.b false)]),[]⟩ h0 ?_
      exact Zl false H
     replace H:=sF c3 H
     refine Qbt (hP▸mixed) 18 [0,3,4,5,6,7] (sm [.d (Qfd (a0.getD Wq.toNat Qb.z)),.b false,.b true,.b true,.Qq [],.Qq [],.Qq [],.Qq [],.Qq [],.Qq [],.Qq [],.Qq [],.Qq [],.Qq [],.Qq [],.Qq [],.Qq [],.b true]) (Qg (Qg (Qg (Qg (Qg (Qg (Qg (Qg (Qg (Qg (Qg (Qg (Qg (Qg (Qg (Qg (opS (Qg op0 hT) (fun R rest h=>Jz (Xw:=[.d (Qfd (a0.getD Wq.toNat Qb.z))]) (dst:=some 13) hP Qid (by have q:=Qbc.Wl (a0.getD Wq.toNat Qb.z);rw [boF c3] at q;exact q) (by kernel_rfl) (.cons (Qn _) .nil) (by kernel_rfl) h)) hT) hT) hT) hT) hT) hT) hT) hT) hT) hT) hT) hT) hT) hT) hT) hT) ?_
     refine Yi hT 1 (K40 11010011001 1) [] ⟨34,(Zg.p0 t0 a0++[(7,.i Wq),(29,.b true)]),[]⟩ h0 ?_
     exact Zl true H
    replace H:=sF c1 H
    rw [decide_eq_false c1]
    refine Qi hT 9 (K40 111 1) ⟨34,[(2,.b (decide ((a0.length:Int)<=64)))],[]⟩ ?_
    obtain rfl:=Zb H
    exact Yr hf hX h0 (.b (decide ((a0.length:Int)<=64))) [] an (.d (.v _))
 obtain ⟨n,H⟩:=Qcn H
 exact (L n) 0 H
theorem Zc.Wl {t0:Bool} {Zk:FuncId} {Zn:List DV} (a0:List Qc) (p1:Qc->Option Bool) (he1:Sy.Enters Tryz.prog Zk) (hp1:∀ (z0:Qc) r,p1 z0=some r->Yn Tryz.prog Zk [] ([.d (Qd2 z0)] ++ List.map AV.d Zn) [] (.b r)) {r:Int} (H:Zc a0 p1=some r):Yn Tryz.prog 20 [] [.d (Zy t0 a0),.d (.fn Zk Zn)] [] (.i r):=by
 refine Xt Tryz.func20 rfl (nt:=19) rfl (lb rfl) fun X hP h0 hX=>?_
 have hT:Xl X.P T:=hP▸tok
 have hf:X.P.funcs[20]? = some Tryz.f20:=hP▸Tryz.func20
 refine Qi hT 13 (K20 11010 0) ⟨19,[(0,.d (Zy t0 a0)),(1,.d (.fn Zk Zn)),(7,.i (a0.length:Int)),(8,.i 0)],[]⟩ ?_
 have L:∀ n,(∀ (Qy:Int),iter (Zc.step a0 p1) n (.l1 Qy)=some r->AK X 20 ((K20 11010 0)) (Jb X [] (.i r)) ⟨19,[(0,.d (Zy t0 a0)),(1,.d (.fn Zk Zn)),(7,.i (a0.length:Int)),(8,.i Qy)],[]⟩):=by
  intro n
  induction n with
  | zero=>exact fun _ H=>Qbx H
  | succ n ih=>
   ·intro Qy H
    refine Qi hT 5 (K20 1101001 0) ⟨19,[(0,.d (Zy t0 a0)),(1,.d (.fn Zk Zn)),(7,.i (a0.length:Int)),(8,.i Qy),(9,.b (decide (Qy < (a0.length:Int))))],[]⟩ ?_
    by_cases c1:Qy < (a0.length:Int)
    ·replace H:=sT c1 H
     rw [decide_eq_true c1]
     refine Qi hT 2 (K20 1101001 1) ⟨19,[(0,.d (Zy t0 a0)),(1,.d (.fn Zk Zn)),(7,.i (a0.length:Int)),(8,.i Qy)],[]⟩ ?_
     refine Qi hT 12 (K20 110100110010 3) ⟨19,[(0,.d (Zy t0 a0)),(1,.d (.fn Zk Zn)),(5,.i Qy),(7,.i (a0.length:Int)),(8,.i Qy),(11,.d (.fn Zk Zn)),(12,.d (Zy t0 a0)),(13,.i Qy)],[]⟩ ?_
     obtain ⟨h2,H⟩:=sC H
     refine Qa7 hT [0,1,5,7,8,11,14] (i:=Qy) (n:=(a0.length:Int)) h2.1 h2.2 (k':=(K20 110100110010 4)) (st':=⟨19,[(0,.d (Zy t0 a0)),(1,.d (.fn Zk Zn)),(5,.i Qy),(7,.i (a0.length:Int)),(8,.i Qy),(11,.d (.fn Zk Zn)),(14,.d (Qg1 t0 a0 Qy.toNat 0))],[]⟩) (by kernel_rfl) ?_
     refine Qi hT 1 (K20 110100110010 5) ⟨19,[(0,.d (Zy t0 a0)),(1,.d (.fn Zk Zn)),(5,.i Qy),(7,.i (a0.length:Int)),(8,.i Qy),(11,.d (.fn Zk Zn)),(15,.d (Qd2 (a0.getD Qy.toNat Qc.z)))],[]⟩ ?_
     obtain ⟨v1,h3,H⟩:=sbC H
     refine Wj (Xw:=[.d (Qd2 (a0.getD Qy.toNat Qc.z))] ++ List.map AV.d Zn) (dst:=some 16) (k':=(K20 110100110010 6)) [0,1,5,7,8,16] [] hP he1 (hp1 (a0.getD Qy.toNat Qc.z) v1 h3) (by kernel_rfl) (Qz _) (.cons (Qn _) (Qfz _)) (st':=⟨19,[(0,.d (Zy t0 a0)),(1,.d (.fn Zk Zn)),(5,.i Qy),(7,.i (a0.length:Int)),(8,.i Qy),(16,.b v1)],[]⟩) (by kernel_rfl) ?_
     refine Qi hT 1 (K20 11010011001 1) ⟨19,[(0,.d (Zy t0 a0)),(1,.d (.fn Zk Zn)),(5,.i Qy),(7,.i (a0.length:Int)),(8,.i Qy),(16,.b v1)],[]⟩ ?_
     by_cases c4:v1=true
     ·replace H:=sT c4 H
      rw [c4]
      refine Qi hT 6 (K20 1101001100110 1) ⟨19,[(4,.i Qy)],[]⟩ ?_
      obtain rfl:=Zb H
      exact Yr hf hX h0 (.i Qy) [] an (.d (.v _))
     replace H:=sF c4 H
     rw [boF c4]
     refine Qi hT 3 (K20 11010011 1) ⟨19,[(0,.d (Zy t0 a0)),(1,.d (.fn Zk Zn)),(7,.i (a0.length:Int)),(8,.i Qy)],[]⟩ ?_
     refine Qi hT 5 (K20 11010 0) ⟨19,[(0,.d (Zy t0 a0)),(1,.d (.fn Zk Zn)),(7,.i (a0.length:Int)),(8,.i (IntKind.wrap .i64 (Qy+1)))],[]⟩ ?_
     exact ih (IntKind.wrap .i64 (Qy+1)) H
    replace H:=sF c1 H
    rw [decide_eq_false c1]
    refine Qi hT 6 (K20 111 1) ⟨19,[(4,.i (-1))],[]⟩ ?_
    obtain rfl:=Zb H
    exact Yr hf hX h0 (.i (-1)) [] an (.d (.v _))
 obtain ⟨n,H⟩:=Qcn H
 exact (L n) 0 H
theorem Qbe.Wl {t0:Bool} {Zk:FuncId} {Zn:List DV} (a0:List Qc) (p1:Qc->Option Bool) (he1:Sy.Enters Tryz.prog Zk) (hp1:∀ (z0:Qc) r,p1 z0=some r->Yn Tryz.prog Zk [] ([.d (Qd2 z0)] ++ List.map AV.d Zn) [] (.b r)) {r:Bool} (H:Qbe a0 p1=some r):Yn Tryz.prog 41 [] [.d (Zy t0 a0),.d (.fn Zk Zn)] [] (.b r):=by
 refine Xt Tryz.func41 rfl (nt:=9) rfl (lb rfl) fun X hP h0 hX=>?_
 have hT:Xl X.P T:=hP▸tok
 have hf:X.P.funcs[41]? = some Tryz.f41:=hP▸Tryz.func41
 refine Qi hT 8 (K41 110 2) ⟨9,[(5,.d (Zy t0 a0)),(6,.d (.fn Zk Zn))],[]⟩ ?_
 obtain ⟨v1,h1,H⟩:=ibC H
 refine Wj (Xw:=[.d (Zy t0 a0),.d (.fn Zk Zn)]) (dst:=some 7) (k':=(K41 110 3)) [7] [] hP Qu1 (Zc.Wl (t0:=t0) (Zk:=Zk) (Zn:=Zn) a0 p1 he1 hp1 h1) (by kernel_rfl) (Qz _) (.cons (Qn _) (.cons (Qn _) .nil)) (st':=⟨9,[(7,.i v1)],[]⟩) (by kernel_rfl) ?_
 refine Qi hT 3 (K41 11 1) ⟨9,[(4,.b (decide (v1>=0)))],[]⟩ ?_
 obtain rfl:=Zb H
 exact Yr hf hX h0 (.b (decide (v1>=0))) [] an (.d (.v _))
theorem Qgg.Wl (a0:Qc) {r:Bool} (H:Qgg a0=some r):Yn Tryz.prog 42 [] [.d (Qd2 a0)] [] (.b r):=by
 refine Xt Tryz.func42 rfl (nt:=7) rfl (lb rfl) fun X hP h0 hX=>?_
 have hT:Xl X.P T:=hP▸tok
 have hf:X.P.funcs[42]? = some Tryz.f42:=hP▸Tryz.func42
 refine Qi hT 9 (K42 110 2) ⟨7,[(4,.d (Qaq a0.M))],[.box 50 (Qbl a0)]⟩ ?_
 obtain ⟨v1,h1,H⟩:=ibC H
 refine Wj (Xw:=[.d (Qaq a0.M)]) (dst:=some 5) (k':=(K42 110 3)) [5] [] hP Qha (Qbn.Wl a0.M h1) (by kernel_rfl) (Qz _) (.cons (Qn _) .nil) (st':=⟨7,[(5,.b v1)],[.box 50 (Qbl a0)]⟩) (by kernel_rfl) ?_
 refine Qi hT 3 (K42 11 1) ⟨7,[(2,.b (!v1))],[.box 50 (Qbl a0)]⟩ ?_
 obtain rfl:=Zb H
 exact Yr hf hX h0 (.b (!v1)) [] an (.d (.v _))
abbrev Xc.q1 (a0:List Qa) (Wq:Int):=((a0.getD Wq.toNat Qa.z).Key)
abbrev Xc.p0 (t0:Bool) (a0:List Qa):List (Nat × AV):=[(0,.d (Xj t0 a0)),(5,.d (Xj t0 a0)),(6,.i (a0.length:Int))]
theorem Xc.Wl {t0:Bool} (a0:List Qa) {r:Bool} (H:Xc a0=some r):Yn Tryz.prog 45 [] [.d (Xj t0 a0)] [] (.b r):=by
 refine Xt Tryz.func45 rfl (nt:=46) rfl (lb rfl) fun X hP h0 hX=>?_
 have hT:Xl X.P T:=hP▸tok
 have hf:X.P.funcs[45]? = some Tryz.f45:=hP▸Tryz.func45
 refine Qi hT 13 (K45 11010 0) ⟨46,(Xc.p0 t0 a0++[(7,.i 0)]),[]⟩ ?_
 have L:∀ n,(∀ (Wq:Int),iter (Xc.step a0) n (.l1 Wq)=some r->AK X 45 ((K45 11010 0)) (Jb X [] (.b r)) ⟨46,(Xc.p0 t0 a0++[(7,.i Wq)]),[]⟩):=by
  intro n
  induction n with
  | zero=>exact fun _ H=>Qbx H
  | succ n ih=>
   ·intro Wq H
    refine Qi hT 5 (K45 1101001 0) ⟨46,(Xc.p0 t0 a0++[(7,.i Wq),(8,.b (decide (Wq < (a0.length:Int))))]),[]⟩ ?_
    by_cases c1:Wq < (a0.length:Int)
    ·replace H:=sT c1 H
     rw [decide_eq_true c1]
     refine Qi hT 2 (K45 1101001 1) ⟨46,(Xc.p0 t0 a0++[(7,.i Wq)]),[]⟩ ?_
     refine Qi hT 5 (K45 11010011000 1) ⟨46,(Xc.p0 t0 a0++[(7,.i Wq),(9,.i Wq)]),[]⟩ ?_
     obtain ⟨h2,H⟩:=sC H
     have Zl:∀ (Qrj:Bool),stk (Xc.j1 Wq Qrj) (iter (Xc.step a0) n)=some r->AK X 45 ((K45 11010011001 1)) (Jb X [] (.b r)) ⟨46,(Xc.p0 t0 a0++[(7,.i Wq),(44,.b Qrj)]),[]⟩:=by
      intro Qrj H
      by_cases c9:Qrj=true
      ·replace H:=sT c9 H
       rw [c9]
       refine Qi hT 5 (K45 1101001100110 1) ⟨46,[(2,.b false)],[]⟩ ?_
       obtain rfl:=Zb H
       exact Yr hf hX h0 (.b false) [] an (.d (.v _))
      replace H:=sF c9 H
      rw [boF c9]
      refine Qi hT 3 (K45 11010011 1) ⟨46,(Xc.p0 t0 a0++[(7,.i Wq)]),[]⟩ ?_
      refine Qi hT 5 (K45 11010 0) ⟨46,(Xc.p0 t0 a0++[(7,.i (IntKind.wrap .i64 (Wq+1)))]),[]⟩ ?_
      exact ih (IntKind.wrap .i64 (Wq+1)) H
     refine Qa7 hT [0,5,6,7,9,10] (i:=Wq) (n:=(a0.length:Int)) h2.1 h2.2 (k':=(K45 11010011000 2)) (st':=⟨46,(Xc.p0 t0 a0++[(7,.i Wq),(9,.i Wq),(10,.d (Qec t0 a0 Wq.toNat 0))]),[]⟩) (by kernel_rfl) ?_
     refine Qi hT 6 (K45 11010011001 0) ⟨46,[(0,.d (Xj t0 a0)),(3,.i Wq),(4,.ptr 0 0 0 0),(5,.d (Xj t0 a0)),(6,.i (a0.length:Int)),(7,.i Wq)],[.box 56 (Qcc (a0.getD Wq.toNat Qa.z))]⟩ ?_
     by_cases c3:(Xc.q1 a0 Wq) < 0
     ·replace H:=sT c3 H
      refine Qbt (hP▸mixed) 33 [0,3,4,5,6,7] (sm [.ptr 0 0 0 0,.i (Xc.q1 a0 Wq),.b true,.b true,.Qq [],.Qq [],.Qq [],.b true,.b true,.Qq [],.Qq [],.Qq [],.b true,.b true,.Qq [],.Qq [],.Qq [],.b true,.b true,.Qq [],.Qq [],.Qq [],.Qq [],.Qq [],.Qq [],.Qq [],.Qq [],.Qq [],.Qq [],.Qq [],.Qq [],.Qq [],.b true]) (Qg (Qg (Qg (Qg (Qg (Qg (Qg (Qg (Qg (Qg (Qg (Qg (Qg (Qg (Qg (Qg (Qg (Qg (Qg (Qg (Qg (Qg (Qg (Qg (Qg (Qg (Qg (Qg (Qg (Qg (opV (Qg (Qg op0 hT) hT) hT 14 (.b (decide ((Xc.q1 a0 Wq) < 0))) (.b true) (by rw [decide_eq_true c3]<;>rfl)) hT) hT) hT) hT) hT) hT) hT) hT) hT) hT) hT) hT) hT) hT) hT) hT) hT) hT) hT) hT) hT) hT) hT) hT) hT) hT) hT) hT) hT) hT) ?_
      refine Yi hT 1 (K45 11010011001 1) [] ⟨46,(Xc.p0 t0 a0++[(7,.i Wq),(44,.b true)]),[]⟩ h0 ?_
      exact Zl true H
     replace H:=sF c3 H
     by_cases c4:(Xc.q1 a0 Wq)>=4096
     ·replace H:=sT c4 H
      refine Qbt (hP▸mixed) 33 [0,3,4,5,6,7] (sm [.ptr 0 0 0 0,.i (Xc.q1 a0 Wq),.b false,.b false,.ptr 0 0 0 0,.i (Xc.q1 a0 Wq),.b true,.b true,.b true,.Qq [],.Qq [],.Qq [],.b true,.b true,.Qq [],.Qq [],.Qq [],.b true,.b true,.Qq [],.Qq [],.Qq [],.Qq [],.Qq [],.Qq [],.Qq [],.Qq [],.Qq [],.Qq [],.Qq [],.Qq [],.Qq [],.b true]) (Qg (Qg (Qg (Qg (Qg (Qg (Qg (Qg (Qg (Qg (Qg (Qg (Qg (Qg (Qg (Qg (Qg (Qg (Qg (Qg (Qg (Qg (Qg (Qg (Qg (Qg (opV (Qg (Qg (Qg (opV (Qg (Qg op0 hT) hT) hT 14 (.b (decide ((Xc.q1 a0 Wq) < 0))) (.b false) (by rw [decide_eq_false c3]<;>rfl)) hT) hT) hT) hT 18 (.b (decide ((Xc.q1 a0 Wq)>=4096))) (.b true) (by rw [decide_eq_true c4]<;>rfl)) hT) hT) hT) hT) hT) hT) hT) hT) hT) hT) hT) hT) hT) hT) hT) hT) hT) hT) hT) hT) hT) hT) hT) hT) hT) hT) ?_
      refine Yi hT 1 (K45 11010011001 1) [] ⟨46,(Xc.p0 t0 a0++[(7,.i Wq),(44,.b true)]),[]⟩ h0 ?_
      exact Zl true H
     replace H:=sF c4 H
     by_cases c5:((a0.getD Wq.toNat Qa.z).Val) < (-1099511627776)
     ·replace H:=sT c5 H
      refine Qbt (hP▸mixed) 33 [0,3,4,5,6,7] (sm [.ptr 0 0 0 0,.i (Xc.q1 a0 Wq),.b false,.b false,.ptr 0 0 0 0,.i (Xc.q1 a0 Wq),.b false,.b false,.b false,.ptr 0 0 0 1,.i ((a0.getD Wq.toNat Qa.z).Val),.b true,.b true,.b true,.Qq [],.Qq [],.Qq [],.b true,.b true,.Qq [],.Qq [],.Qq [],.Qq [],.Qq [],.Qq [],.Qq [],.Qq [],.Qq [],.Qq [],.Qq [],.Qq [],.Qq [],.b true]) (Qg (Qg (Qg (Qg (Qg (Qg (Qg (Qg (Qg (Qg (Qg (Qg (Qg (Qg (Qg (Qg (Qg (Qg (Qg (Qg (Qg (opV (Qg (Qg (Qg (Qg (opV (Qg (Qg (Qg (opV (Qg (Qg op0 hT) hT) hT 14 (.b (decide ((Xc.q1 a0 Wq) < 0))) (.b false) (by rw [decide_eq_false c3]<;>rfl)) hT) hT) hT) hT 18 (.b (decide ((Xc.q1 a0 Wq)>=4096))) (.b false) (by rw [decide_eq_false c4]<;>rfl)) hT) hT) hT) hT) hT 23 (.b (decide (((a0.getD Wq.toNat Qa.z).Val) < (-1099511627776)))) (.b true) (by rw [decide_eq_true c5]<;>rfl)) hT) hT) hT) hT) hT) hT) hT) hT) hT) hT) hT) hT) hT) hT) hT) hT) hT) hT) hT) hT) hT) ?_
      refine Yi hT 1 (K45 11010011001 1) [] ⟨46,(Xc.p0 t0 a0++[(7,.i Wq),(44,.b true)]),[]⟩ h0 ?_
      exact Zl true H
     replace H:=sF c5 H
     by_cases c6:((a0.getD Wq.toNat Qa.z).Val) > 1099511627776
     ·replace H:=sT c6 H
      refine Qbt (hP▸mixed) 33 [0,3,4,5,6,7] (sm [.ptr 0 0 0 0,.i (Xc.q1 a0 Wq),.b false,.b false,.ptr 0 0 0 0,.i (Xc.q1 a0 Wq),.b false,.b false,.b false,.ptr 0 0 0 1,.i ((a0.getD Wq.toNat Qa.z).Val),.b false,.b false,.b false,.ptr 0 0 0 1,.i ((a0.getD Wq.toNat Qa.z).Val),.b true,.b true,.b true,.Qq [],.Qq [],.Qq [],.Qq [],.Qq [],.Qq [],.Qq [],.Qq [],.Qq [],.Qq [],.Qq [],.Qq [],.Qq [],.b true]) (Qg (Qg (Qg (Qg (Qg (Qg (Qg (Qg (Qg (Qg (Qg (Qg (Qg (Qg (Qg (Qg (opV (Qg (Qg (Qg (Qg (opV (Qg (Qg (Qg (Qg (opV (Qg (Qg (Qg (opV (Qg (Qg op0 hT) hT) hT 14 (.b (decide ((Xc.q1 a0 Wq) < 0))) (.b false) (by rw [decide_eq_false c3]<;>rfl)) hT) hT) hT) hT 18 (.b (decide ((Xc.q1 a0 Wq)>=4096))) (.b false) (by rw [decide_eq_false c4]<;>rfl)) hT) hT) hT) hT) hT 23 (.b (decide (((a0.getD Wq.toNat Qa.z).Val) < (-1099511627776)))) (.b false) (by rw [decide_eq_false c5]<;>rfl)) hT) hT) hT) hT) hT 28 (.b (decide (((a0.getD Wq.toNat Qa.z).Val) > 1099511627776))) (.b true) (by rw [decide_eq_true c6]<;>rfl)) hT) hT) hT) hT) hT) hT) hT) hT) hT) hT) hT) hT) hT) hT) hT) hT) ?_
      refine Yi hT 1 (K45 11010011001 1) [] ⟨46,(Xc.p0 t0 a0++[(7,.i Wq),(44,.b true)]),[]⟩ h0 ?_
      exact Zl true H
     replace H:=sF c6 H
     by_cases c7:Wq > 0
     ·replace H:=sT c7 H
      obtain ⟨h8,H⟩:=sC H
      refine Qbt (hP▸mixed) 33 [0,3,4,5,6,7] (sm [.ptr 0 0 0 0,.i (Xc.q1 a0 Wq),.b false,.b false,.ptr 0 0 0 0,.i (Xc.q1 a0 Wq),.b false,.b false,.b false,.ptr 0 0 0 1,.i ((a0.getD Wq.toNat Qa.z).Val),.b false,.b false,.b false,.ptr 0 0 0 1,.i ((a0.getD Wq.toNat Qa.z).Val),.b false,.b false,.b false,.i Wq,.b true,.b true,.d (Xj t0 a0),.i Wq,.i (IntKind.wrap .i64 (Wq - 1)),.d (Qec t0 a0 ((IntKind.wrap .i64 (Wq - 1)).toNat) 0),.d (Qec t0 a0 ((IntKind.wrap .i64 (Wq - 1)).toNat) 0),.i ((a0.getD ((IntKind.wrap .i64 (Wq - 1)).toNat) Qa.z).Key),.ptr 0 0 0 0,.i (Xc.q1 a0 Wq),.b (decide (((a0.getD ((IntKind.wrap .i64 (Wq - 1)).toNat) Qa.z).Key)>=(Xc.q1 a0 Wq))),.b (decide (((a0.getD ((IntKind.wrap .i64 (Wq - 1)).toNat) Qa.z).Key)>=(Xc.q1 a0 Wq))),.b (decide (((a0.getD ((IntKind.wrap .i64 (Wq - 1)).toNat) Qa.z).Key)>=(Xc.q1 a0 Wq)))]) (Qg (Qg (Qg (Qg (Qg (Qg (Qg (opS (Qg (Qg (Qg (Qg (opV (Qg (Qg (Qg (opV (Qg (Qg (Qg (Qg (opV (Qg (Qg (Qg (Qg (opV (Qg (Qg (Qg (opV (Qg (Qg op0 hT) hT) hT 14 (.b (decide ((Xc.q1 a0 Wq) < 0))) (.b false) (by rw [decide_eq_false c3]<;>rfl)) hT) hT) hT) hT 18 (.b (decide ((Xc.q1 a0 Wq)>=4096))) (.b false) (by rw [decide_eq_false c4]<;>rfl)) hT) hT) hT) hT) hT 23 (.b (decide (((a0.getD Wq.toNat Qa.z).Val) < (-1099511627776)))) (.b false) (by rw [decide_eq_false c5]<;>rfl)) hT) hT) hT) hT) hT 28 (.b (decide (((a0.getD Wq.toNat Qa.z).Val) > 1099511627776))) (.b false) (by rw [decide_eq_false c6]<;>rfl)) hT) hT) hT) hT 32 (.b (decide (Wq > 0))) (.b true) (by rw [decide_eq_true c7]<;>rfl)) hT) hT) hT) hT) (fun R rest h=>Qae hT (i:=IntKind.wrap .i64 (Wq - 1)) (n:=(a0.length:Int)) h8.1 h8.2 (by kernel_rfl) h)) hT) hT) hT) hT) hT) hT) hT) ?_
      refine Yi hT 1 (K45 11010011001 1) [] ⟨46,(Xc.p0 t0 a0++[(7,.i Wq),(44,.b (decide (((a0.getD ((IntKind.wrap .i64 (Wq - 1)).toNat) Qa.z).Key)>=(Xc.q1 a0 Wq))))]),[]⟩ h0 ?_
      exact Zl (decide (((a0.getD ((IntKind.wrap .i64 (Wq - 1)).toNat) Qa.z).Key)>=(Xc.q1 a0 Wq))) H
     replace H:=sF c7 H
     refine Qbt (hP▸mixed) 33 [0,3,4,5,6,7] (sm [.ptr 0 0 0 0,.i (Xc.q1 a0 Wq),.b false,.b false,.ptr 0 0 0 0,.i (Xc.q1 a0 Wq),.b false,.b false,.b false,.ptr 0 0 0 1,.i ((a0.getD Wq.toNat Qa.z).Val),.b false,.b false,.b false,.ptr 0 0 0 1,.i ((a0.getD Wq.toNat Qa.z).Val),.b false,.b false,.b false,.i Wq,.b false,.b false,.Qq [],.Qq [],.Qq [],.Qq [],.Qq [],.Qq [],.Qq [],.Qq [],.Qq [],.b false,.b false]) (Qg (Qg (Qg (Qg (Qg (Qg (Qg (Qg (Qg (Qg (Qg (Qg (opV (Qg (Qg (Qg (opV (Qg (Qg (Qg (Qg (opV (Qg (Qg (Qg (Qg (opV (Qg (Qg (Qg (opV (Qg (Qg op0 hT) hT) hT 14 (.b (decide ((Xc.q1 a0 Wq) < 0))) (.b false) (by rw [decide_eq_false c3]<;>rfl)) hT) hT) hT) hT 18 (.b (decide ((Xc.q1 a0 Wq)>=4096))) (.b false) (by rw [decide_eq_false c4]<;>rfl)) hT) hT) hT) hT) hT 23 (.b (decide (((a0.getD Wq.toNat Qa.z).Val) < (-1099511627776)))) (.b false) (by rw [decide_eq_false c5]<;>rfl)) hT) hT) hT) hT) hT 28 (.b (decide (((a0.getD Wq.toNat Qa.z).Val) > 1099511627776))) (.b false) (by rw [decide_eq_false c6]<;>rfl)) hT) hT) hT) hT 32 (.b (decide (Wq > 0))) (.b false) (by rw [decide_eq_false c7]<;>rfl)) hT) hT) hT) hT) hT) hT) hT) hT) hT) hT) hT) hT) ?_
     refine Yi hT 1 (K45 11010011001 1) [] ⟨46,(Xc.p0 t0 a0++[(7,.i Wq),(44,.b false)]),[]⟩ h0 ?_
     exact Zl false H
    replace H:=sF c1 H
    rw [decide_eq_false c1]
    refine Qi hT 6 (K45 111 1) ⟨46,[(2,.b true)],[]⟩ ?_
    obtain rfl:=Zb H
    exact Yr hf hX h0 (.b true) [] an (.d (.v _))
 obtain ⟨n,H⟩:=Qcn H
 exact (L n) 0 H
theorem Xv.Wl {Zk:FuncId} {Zn:List DV} (a0:List Qa) (p1:Qa->Option Bool) (he1:Sy.Enters Tryz.prog Zk) (hp1:∀ (z0:Qa) r,p1 z0=some r->Yn Tryz.prog Zk [] ([.d (Qf4 z0)] ++ List.map AV.d Zn) [] (.b r)) {r:List Qa} (H:Xv a0 p1=some r):Yn Tryz.prog 124 [Xp a0] [.own 0 2 0 a0.length,.d (.fn Zk Zn)] [.gone,Xp r] (.own 1 2 0 r.length):=by
 refine Xt Tryz.func124 rfl (nt:=42) rfl (lb rfl) fun X hP h0 hX=>?_
 have hT:Xl X.P T:=hP▸tok
 have hf:X.P.funcs[124]? = some Tryz.f124:=hP▸Tryz.func124
 refine Qf0 0 (r:=Xp a0) rfl rfl (st':=⟨42,[(0,.own 1 2 0 a0.length),(1,.d (.fn Zk Zn))],[.gone,Xp a0]⟩) (by kernel_rfl) (by kernel_rfl) rfl ?_
 refine Qi hT 8 (Qfk 110 2) ⟨42,[(0,.own 1 2 0 a0.length),(1,.d (.fn Zk Zn)),(8,.own 1 2 0 a0.length),(9,.d (.fn Zk Zn))],[.gone,Xp a0]⟩ ?_
 obtain ⟨v1,h1,H⟩:=ibC H
 refine Wj (Xw:=[.own 1 2 0 a0.length,.d (.fn Zk Zn)]) (dst:=some 10) (k':=(Qfk 110 3)) [0,1,10] [] hP Qta (Zj.Wl (t0:=false) (Zk:=Zk) (Zn:=Zn) a0 p1 he1 hp1 h1) (by kernel_rfl) (Qz _) (.cons (.Qd4 (ty:=56) (by kernel_rfl) rfl) (.cons (Qn _) .nil)) (st':=⟨42,[(0,.own 1 2 0 a0.length),(1,.d (.fn Zk Zn)),(10,.i v1)],[.gone,Xp a0]⟩) (by kernel_rfl) ?_
 refine Qi hT 8 (Qfk 1110 1) ⟨42,[(0,.own 1 2 0 a0.length),(1,.d (.fn Zk Zn)),(5,.i v1),(12,.b (v1 == (-1)))],[.gone,Xp a0]⟩ ?_
 by_cases c2:v1=(-1)
 ·replace H:=iT c2 H
  rw [eqT c2]
  refine Qi hT 6 (Qfk 111010 1) ⟨42,[(4,.own 1 2 0 a0.length)],[.gone,Xp a0]⟩ ?_
  obtain rfl:=Zb H
  exact Yr hf hX h0 (.own 1 2 0 a0.length) [0,1] (ac .gone (ac (Qbd Qa.nl) an)) (.own _ _ _ _)
 replace H:=iF c2 H
 rw [eqF c2]
 refine Qi hT 2 (Qfk 111 1) ⟨42,[(0,.own 1 2 0 a0.length),(1,.d (.fn Zk Zn)),(5,.i v1)],[.gone,Xp a0]⟩ ?_
 refine Qi hT 9 (Qfk 1111010 0) ⟨42,[(0,.own 1 2 0 a0.length),(1,.d (.fn Zk Zn)),(5,.i v1),(6,.i (IntKind.wrap .i64 (v1+1)))],[.gone,Xp a0]⟩ ?_
 have L:∀ n,(∀ (Wy:Int) (Qab:Int) (Xi:List Qa),iter (Xv.step p1) n (.l1 Wy Qab Xi)=some r->AK X 124 ((Qfk 1111010 0)) (Jb X [.gone,Xp r] (.own 1 2 0 r.length)) ⟨42,[(0,.own 1 2 0 Xi.length),(1,.d (.fn Zk Zn)),(5,.i Wy),(6,.i Qab)],[.gone,Xp Xi]⟩):=by
  intro n
  induction n with
  | zero=>exact fun _ _ _ H=>Qbx H
  | succ n ih=>
   ·intro Wy Qab Xi H
    refine Qi hT 8 (Qfk 111101000 1) ⟨42,[(0,.own 1 2 0 Xi.length),(1,.d (.fn Zk Zn)),(5,.i Wy),(6,.i Qab),(19,.b (decide (Qab < (Xi.length:Int))))],[.gone,Xp Xi]⟩ ?_
    by_cases c3:Qab < (Xi.length:Int)
    ·replace H:=sT c3 H
     rw [decide_eq_true c3]
     refine Qi hT 2 (Qfk 11110100 1) ⟨42,[(0,.own 1 2 0 Xi.length),(1,.d (.fn Zk Zn)),(5,.i Wy),(6,.i Qab)],[.gone,Xp Xi]⟩ ?_
     refine Qi hT 6 (Qfk 111101001000 2) ⟨42,[(0,.own 1 2 0 Xi.length),(1,.d (.fn Zk Zn)),(5,.i Wy),(6,.i Qab),(22,.own 1 2 0 Xi.length),(23,.i Qab)],[.gone,Xp Xi]⟩ ?_
     obtain ⟨h5,H⟩:=sC H
     refine Qa7 hT [0,1,5,6,24] (i:=Qab) (n:=(Xi.length:Int)) h5.1 h5.2 (k':=(Qfk 111101001000 3)) (st':=⟨42,[(0,.own 1 2 0 Xi.length),(1,.d (.fn Zk Zn)),(5,.i Wy),(6,.i Qab),(24,.ptr 1 2 Qab.toNat 0)],[.gone,Xp Xi]⟩) (by kernel_rfl) ?_
     refine Qmo hT [0,1,5,6,25] (i:=Qab.toNat) (n:=Xi.length) (ltN h5.1 h5.2) (k':=(Qfk 111101001000 4)) (st':=⟨42,[(0,.own 1 2 0 Xi.length),(1,.d (.fn Zk Zn)),(5,.i Wy),(6,.i Qab),(25,.d (Qf4 (Xi.getD Qab.toNat Qa.z)))],[.gone,Xp Xi]⟩) (by kernel_rfl) ?_
     refine Qi hT 7 (Qfk 1111010010010 2) ⟨42,[(0,.own 1 2 0 Xi.length),(1,.d (.fn Zk Zn)),(5,.i Wy),(6,.i Qab),(7,.ptr 2 0 0 0),(26,.d (.fn Zk Zn)),(27,.d (Qf4 (Xi.getD Qab.toNat Qa.z)))],[.gone,Xp Xi,.box 56 (Qcc (Xi.getD Qab.toNat Qa.z))]⟩ ?_
     obtain ⟨v2,h6,H⟩:=sbC H
     have Zl:∀ (Qln:Int) (Qkf:List Qa),stk (Xv.j1 Qab Qln Qkf) (iter (Xv.step p1) n)=some r->AK X 124 ((Qfk 111101001 1)) (Jb X [.gone,Xp r] (.own 1 2 0 r.length)) ⟨42,[(0,.own 1 2 0 Qkf.length),(1,.d (.fn Zk Zn)),(5,.i Qln),(6,.i Qab)],[.gone,Xp Qkf]⟩:=by
      intro Qln Qkf H
      refine Qi hT 6 (Qfk 1111010 0) ⟨42,[(0,.own 1 2 0 Qkf.length),(1,.d (.fn Zk Zn)),(5,.i Qln),(6,.i (IntKind.wrap .i64 (Qab+1)))],[.gone,Xp Qkf]⟩ ?_
      exact ih Qln (IntKind.wrap .i64 (Qab+1)) Qkf H
     refine Wj (Xw:=[.d (Qf4 (Xi.getD Qab.toNat Qa.z))] ++ List.map AV.d Zn) (dst:=some 28) (k':=(Qfk 1111010010010 3)) [0,1,5,6,7,28] [] hP he1 (hp1 (Xi.getD Qab.toNat Qa.z) v2 h6) (by kernel_rfl) (Qz _) (.cons (Qn _) (Qfz _)) (st':=⟨42,[(0,.own 1 2 0 Xi.length),(1,.d (.fn Zk Zn)),(5,.i Wy),(6,.i Qab),(7,.ptr 2 0 0 0),(28,.b v2)],[.gone,Xp Xi,.box 56 (Qcc (Xi.getD Qab.toNat Qa.z))]⟩) (by kernel_rfl) ?_
     refine Qi hT 2 (Qfk 111101001001 1) ⟨42,[(0,.own 1 2 0 Xi.length),(1,.d (.fn Zk Zn)),(5,.i Wy),(6,.i Qab),(7,.ptr 2 0 0 0),(29,.b (!v2))],[.gone,Xp Xi,.box 56 (Qcc (Xi.getD Qab.toNat Qa.z))]⟩ ?_
     by_cases c7:v2=true
     ·replace H:=sT c7 H
      rw [c7]
      refine Yi hT 3 (Qfk 111101001 1) [0,1] ⟨42,[(0,.own 1 2 0 Xi.length),(1,.d (.fn Zk Zn)),(5,.i Wy),(6,.i Qab)],[.gone,Xp Xi]⟩ h0 ?_
      exact Zl Wy Xi H
     replace H:=sF c7 H
     rw [boF c7]
     refine Qi hT 6 (Qfk 111101001001100 3) ⟨42,[(0,.own 1 2 0 Xi.length),(1,.d (.fn Zk Zn)),(5,.i Wy),(6,.i Qab),(30,.own 1 2 0 Xi.length),(31,.i Wy),(32,.d (Qf4 (Xi.getD Qab.toNat Qa.z)))],[.gone,Xp Xi,.box 56 (Qcc (Xi.getD Qab.toNat Qa.z))]⟩ ?_
     obtain ⟨h8,H⟩:=sC H
     refine Qa7 hT [0,1,5,6,32,33] (i:=Wy) (n:=(Xi.length:Int)) h8.1 h8.2 (k':=(Qfk 111101001001100 4)) (st':=⟨42,[(0,.own 1 2 0 Xi.length),(1,.d (.fn Zk Zn)),(5,.i Wy),(6,.i Qab),(32,.d (Qf4 (Xi.getD Qab.toNat Qa.z))),(33,.ptr 1 2 Wy.toNat 0)],[.gone,Xp Xi,.box 56 (Qcc (Xi.getD Qab.toNat Qa.z))]⟩) (by kernel_rfl) ?_
     refine Qwb (id:=1) (kk:=2) (i:=Wy.toNat) (off:=0) (s:=2) (n:=Xi.length) (ty:=56) (ds:=[.i ((Xi.getD Qab.toNat Qa.z).Key),.i ((Xi.getD Qab.toNat Qa.z).Val)]) (g:=vec Qa.e Qa.z Xi) (k':=(Qfk 111101001001100 5)) hT [0,1,5,6] (vec Qa.e Qa.z (Xi.set Wy.toNat (Xi.getD Qab.toNat Qa.z))) (by kernel_rfl) (by kernel_rfl) (ltN h8.1 h8.2) ((Qn4 (ltN h8.1 h8.2)).trans (by kernel_rfl)) Qkd (st':=⟨42,[(0,.own 1 2 0 (Xi.length)),(1,.d (.fn Zk Zn)),(5,.i Wy),(6,.i Qab)],[.gone,.flat false 2 56 Xi.length (vec Qa.e Qa.z (Xi.set Wy.toNat (Xi.getD Qab.toNat Qa.z))),.box 56 (Qcc (Xi.getD Qab.toNat Qa.z))]⟩) (by kernel_rfl) ?_
     refine Qoa (show Xi.length=(Xi.set Wy.toNat (Xi.getD Qab.toNat Qa.z)).length from (List.length_set ..).symm) (fun nn=>⟨42,[(0,.own 1 2 0 (nn)),(1,.d (.fn Zk Zn)),(5,.i Wy),(6,.i Qab)],[.gone,.flat false 2 56 nn (vec Qa.e Qa.z (Xi.set Wy.toNat (Xi.getD Qab.toNat Qa.z))),.box 56 (Qcc (Xi.getD Qab.toNat Qa.z))]⟩) ?_
     refine Yi hT 7 (Qfk 111101001 1) [0,1] ⟨42,[(0,.own 1 2 0 (Xi.set Wy.toNat (Xi.getD Qab.toNat Qa.z)).length),(1,.d (.fn Zk Zn)),(5,.i (IntKind.wrap .i64 (Wy+1))),(6,.i Qab)],[.gone,Xp (Xi.set Wy.toNat (Xi.getD Qab.toNat Qa.z))]⟩ h0 ?_
     exact Zl (IntKind.wrap .i64 (Wy+1)) (Xi.set Wy.toNat (Xi.getD Qab.toNat Qa.z)) H
    replace H:=sF c3 H
    rw [decide_eq_false c3]
    refine Qi hT 6 (Qfk 111110 2) ⟨42,[(0,.own 1 2 0 Xi.length),(5,.i Wy),(36,.own 1 2 0 Xi.length),(37,.i Wy)],[.gone,Xp Xi]⟩ ?_
    obtain ⟨h4,H⟩:=sC H
    refine Wgc (id:=1) (s:=2) (off:=0) (n:=Xi.length) (N:=Xi.length) (kk:=.i64) (l:=Wy) (d:=38) (ty:=56) (g:=vec Qa.e Qa.z Xi) (k':=(Qfk 111110 4)) hT [0,5] (by kernel_rfl) (by kernel_rfl) h4.1 h4.2 rfl rfl (by decide) (by decide) (st':=⟨42,[(0,.own 1 2 0 Xi.length),(5,.i Wy)],[.gone,.flat false 2 56 Wy.toNat (vec Qa.e Qa.z Xi)]⟩) (by kernel_rfl) ?_
    refine Wgf 1 (kk:=2) (n:=Wy.toNat) (m:=(Xi.take Wy.toNat).length) (fz:=false) (ty:=56) (g:=vec Qa.e Qa.z Xi) (vec Qa.e Qa.z (Xi.take Wy.toNat)) (by kernel_rfl) (by simp only [List.length_take];omega) Whw (st':=⟨42,[(0,.own 1 2 0 Xi.length),(5,.i Wy)],[.gone,Xp (Xi.take Wy.toNat)]⟩) (by kernel_rfl) ?_
    refine Qi hT 5 (Qfk 1111110 2) ⟨42,[(39,.own 1 2 0 Xi.length),(40,.i Wy)],[.gone,Xp (Xi.take Wy.toNat)]⟩ ?_
    refine Wcz (id:=1) (s:=2) (off:=0) (n:=Xi.length) (kk:=.i64) (i:=Wy) (dst:=some 41) (k':=(Qfk 1111110 3)) hT [41] (by kernel_rfl) h4.1 h4.2 (st':=⟨42,[(41,.own 1 2 0 Wy.toNat)],[.gone,Xp (Xi.take Wy.toNat)]⟩) (by kernel_rfl) ?_
    refine Qoa (show Wy.toNat=(Xi.take Wy.toNat).length from by simp only [List.length_take];omega) (fun nn=>⟨42,[(41,.own 1 2 0 nn)],[.gone,Xp (Xi.take Wy.toNat)]⟩) ?_
    refine Qi hT 2 (Qfk 111111 1) ⟨42,[(4,.own 1 2 0 ((Xi.take Wy.toNat).length))],[.gone,Xp (Xi.take Wy.toNat)]⟩ ?_
    obtain rfl:=Zb H
    exact Yr hf hX h0 (.own 1 2 0 ((Xi.take Wy.toNat).length)) [0,1] (ac .gone (ac (Qbd Qa.nl) an)) (.own _ _ _ _)
 obtain ⟨n,H⟩:=Qcn H
 exact (L n) v1 (IntKind.wrap .i64 (v1+1)) a0 H
abbrev Qcr.p0 (k0:Int):List (Nat × AV):=[(1,.d (.rop false 1 (fun _=>[.i k0]) 0 0)),(2,.ptr 0 0 0 0)]
theorem Qcr.Wl (a0:Qb) (k0:Int):Yn Tryz.prog 126 [] [.d (Qfd a0),.d (.rop false 1 (fun _=>[.i k0]) 0 0)] [] (.b (Qcr a0 k0)):=by
 obtain ⟨r,H⟩:∃ r,Qcr a0 k0=r:=⟨_,rfl⟩
 rw [H]
 refine Xt Tryz.func126 rfl (nt:=18) rfl (lb rfl) fun X hP h0 hX=>?_
 have hT:Xl X.P T:=hP▸tok
 have hf:X.P.funcs[126]? = some Tryz.f126:=hP▸Tryz.func126
 have Zl:∀ (Qg6:Bool),(Qcr.j1 Qg6)=r->AK X 126 ((Qpg 11 1)) (Jb X [] (.b r)) ⟨18,[(3,.b Qg6)],[]⟩:=by
  intro Qg6 H
  obtain rfl:=H
  exact Yr hf hX h0 (.b Qg6) [] an (.d (.v _))
 refine Qi hT 8 (Qpg 110 1) ⟨18,(Qcr.p0 k0++[(4,.d (Qfd a0))]),[.box 39 (Qfb a0)]⟩ ?_
 refine Wj (Xw:=[.d (Qfd a0)]) (dst:=some 5) (k':=(Qpg 110 2)) [1,2,5] [] hP Qid (Qbc.Wl a0) (by kernel_rfl) (Qz _) (.cons (Qn _) .nil) (st':=⟨18,(Qcr.p0 k0++[(5,.b (Qbc a0))]),[.box 39 (Qfb a0)]⟩) (by kernel_rfl) ?_
 refine Qi hT 1 (Qpg 110 3) ⟨18,(Qcr.p0 k0++[(6,.b (Qbc a0))]),[.box 39 (Qfb a0)]⟩ ?_
 by_cases c1:(Qbc a0)=true
 ·replace H:=iT c1 H
  rw [c1]
  refine Qi hT 6 (Qpg 110 9) ⟨18,(Qcr.p0 k0++[(12,.b (decide (k0>=a0.Lo)))]),[.box 39 (Qfb a0)]⟩ ?_
  by_cases c2:k0>=a0.Lo
  ·replace H:=iT c2 H
   rw [decide_eq_true c2]
   refine Yi hT 7 (Qpg 11 1) [] ⟨18,[(3,.b (decide (k0 < a0.Hi)))],[]⟩ h0 ?_
   exact Zl (decide (k0 < a0.Hi)) H
  replace H:=iF c2 H
  rw [decide_eq_false c2]
  refine Yi hT 7 (Qpg 11 1) [] ⟨18,[(3,.b false)],[]⟩ h0 ?_
  exact Zl false H
 replace H:=iF c1 H
 rw [boF c1]
 refine Yi hT 13 (Qpg 11 1) [] ⟨18,[(3,.b false)],[]⟩ h0 ?_
 exact Zl false H
theorem Qfm.Wl {t0:Bool} (a0:List Qb) (a1:Int) {r:Bool} (H:Qfm a0 a1=some r):Yn Tryz.prog 81 [] [.d (Xf t0 a0),.i a1] [] (.b r):=by
 refine Xt Tryz.func81 rfl (nt:=8) rfl (lb rfl) fun X hP h0 hX=>?_
 have hT:Xl X.P T:=hP▸tok
 have hf:X.P.funcs[81]? = some Tryz.f81:=hP▸Tryz.func81
 refine Qi hT 9 (K81 110 2) ⟨8,[(5,.d (Xf t0 a0)),(6,.fn 126 [.ptr 0 0 0 0])],[.box 3 [.i a1]]⟩ ?_
 obtain ⟨v1,h1,H⟩:=ibC H
 refine Wj (Xw:=[.d (Xf t0 a0),.fn 126 [.ptr 0 0 0 0]]) (dst:=some 7) (k':=(K81 110 3)) [7] [] hP Qs6 (Qbq.Wl (t0:=t0) (Zk:=126) (Zn:=[.rop false 1 (fun _=>[.i a1]) 0 0]) a0 (fun z0=>some (Qcr z0 a1)) Waj (fun z0 r h=>by obtain rfl:=Zb h;exact Qcr.Wl z0 a1) h1) (by kernel_rfl) (Qz _) (.cons (Qn _) (.cons (.fn 126 (.cons (.look (ty:=3) (cs:=[.i a1]) (by kernel_rfl) rfl) .nil)) .nil)) (st':=⟨8,[(7,.b v1)],[.box 3 [.i a1]]⟩) (by kernel_rfl) ?_
 refine Qi hT 2 (K81 11 1) ⟨8,[(4,.b v1)],[.box 3 [.i a1]]⟩ ?_
 obtain rfl:=Zb H
 exact Yr hf hX h0 (.b v1) [] an (.d (.v _))
theorem Qds.Wl (a0:Qa) (k0:Qb) (k1:List Qb) {r:Bool} (H:Qds a0 k0 k1=some r):Yn Tryz.prog 125 [] [.d (Qf4 a0),.d (.rop false 1 (fun _=>[.i k0.Lo,.i k0.Hi]) 0 0),.d (.rop false 1 (fun _=>[Xf true k1]) 0 0)] [] (.b r):=by
 refine Xt Tryz.func125 rfl (nt:=23) rfl (lb rfl) fun X hP h0 hX=>?_
 have hT:Xl X.P T:=hP▸tok
 have hf:X.P.funcs[125]? = some Tryz.f125:=hP▸Tryz.func125
 have Zl:∀ (Qdj:Bool),(Qds.j1 Qdj)=some r->AK X 125 ((Qpf 11 1)) (Jb X [] (.b r)) ⟨23,[(4,.b Qdj)],[]⟩:=by
  intro Qdj H
  obtain rfl:=Zb H
  exact Yr hf hX h0 (.b Qdj) [] an (.d (.v _))
 refine Qi hT 13 (Qpf 110 6) ⟨23,[(1,.d (.rop false 1 (fun _=>[.i k0.Lo,.i k0.Hi]) 0 0)),(2,.d (.rop false 1 (fun _=>[Xf true k1]) 0 0)),(3,.ptr 0 0 0 0),(10,.b (decide (a0.Key>=k0.Lo)))],[.box 56 (Qcc a0)]⟩ ?_
 by_cases c1:a0.Key>=k0.Lo
 ·replace H:=iT c1 H
  rw [decide_eq_true c1]
  refine Qi hT 7 (Qpf 110 13) ⟨23,[(2,.d (.rop false 1 (fun _=>[Xf true k1]) 0 0)),(3,.ptr 0 0 0 0),(17,.b (decide (a0.Key < k0.Hi)))],[.box 56 (Qcc a0)]⟩ ?_
  by_cases c2:a0.Key < k0.Hi
  ·replace H:=iT c2 H
   rw [decide_eq_true c2]
   refine Qi hT 3 (Qpf 110 16) ⟨23,[(17,.b true),(18,.d (Xf true k1)),(20,.i a0.Key)],[.box 56 (Qcc a0)]⟩ ?_
   obtain ⟨v1,h3,H⟩:=ibC H
   refine Wj (Xw:=[.d (Xf true k1),.i a0.Key]) (dst:=some 21) (k':=(Qpf 110 17)) [17,21] [] hP Qmx (Qfm.Wl (t0:=true) k1 a0.Key h3) (by kernel_rfl) (Qz _) (.cons (Qn _) (.cons (Qn _) .nil)) (st':=⟨23,[(17,.b true),(21,.b v1)],[.box 56 (Qcc a0)]⟩) (by kernel_rfl) ?_
   refine Yi hT 3 (Qpf 11 1) [] ⟨23,[(4,.b v1)],[]⟩ h0 ?_
   exact Zl v1 H
  replace H:=iF c2 H
  rw [decide_eq_false c2]
  refine Yi hT 7 (Qpf 11 1) [] ⟨23,[(4,.b false)],[]⟩ h0 ?_
  exact Zl false H
 replace H:=iF c1 H
 rw [decide_eq_false c1]
 refine Yi hT 14 (Qpf 11 1) [] ⟨23,[(4,.b false)],[]⟩ h0 ?_
 exact Zl false H
theorem Qjw.Wl (a0:List Qa) (a1:Qb) (a2:List Qb) {r:List Qa} (H:Qjw a0 a1 a2=some r):Yn Tryz.prog 79 [Xp a0] [.own 0 2 0 a0.length,.d (Qfd a1),.d (Xf true a2)] [.gone,Xp r] (.own 1 2 0 r.length):=by
 refine Xt Tryz.func79 rfl (nt:=10) rfl (lb rfl) fun X hP h0 hX=>?_
 have hT:Xl X.P T:=hP▸tok
 have hf:X.P.funcs[79]? = some Tryz.f79:=hP▸Tryz.func79
 refine Qf0 0 (r:=Xp a0) rfl rfl (st':=⟨10,[(0,.own 1 2 0 a0.length),(1,.d (Qfd a1)),(2,.d (Xf true a2))],[.gone,Xp a0]⟩) (by kernel_rfl) (by kernel_rfl) rfl ?_
 refine Qi hT 10 (K79 110 2) ⟨10,[(7,.own 1 2 0 a0.length),(8,.fn 125 [.ptr 2 0 0 0,.ptr 3 0 0 0])],[.gone,Xp a0,.box 39 (Qfb a1),.box 51 [.d (Xf true a2)]]⟩ ?_
 obtain ⟨v1,h1,H⟩:=ibC H
 refine Wj (Xw:=[.own 1 2 0 a0.length,.fn 125 [.ptr 2 0 0 0,.ptr 3 0 0 0]]) (dst:=some 9) (k':=(K79 110 3)) [9] [1] hP Wah (Xv.Wl (Zk:=125) (Zn:=[.rop false 1 (fun _=>[.i a1.Lo,.i a1.Hi]) 0 0,.rop false 1 (fun _=>[Xf true a2]) 0 0]) a0 (fun z0=>Qds z0 a1 a2) Wai (fun z0 r h=>Qds.Wl z0 a1 a2 h) h1) (by kernel_rfl) (Qd3 rfl rfl) (.cons (.same (.own 0 2 0 a0.length)) (.cons (.fn 125 (.cons (.look (ty:=39) (cs:=[.i a1.Lo,.i a1.Hi]) (by kernel_rfl) rfl) (.cons (.look (ty:=51) (cs:=[Xf true a2]) (by kernel_rfl) rfl) .nil))) .nil)) (st':=⟨10,[(9,.own 4 2 0 v1.length)],[.gone,.gone,.box 39 (Qfb a1),.box 51 [.d (Xf true a2)],Xp v1]⟩) (by kernel_rfl) ?_
 refine Qi hT 2 (K79 11 1) ⟨10,[(6,.own 4 2 0 v1.length)],[.gone,.gone,.box 39 (Qfb a1),.box 51 [.d (Xf true a2)],Xp v1]⟩ ?_
 obtain rfl:=Zb H
 exact Yr hf hX h0 (.own 4 2 0 v1.length) [0,4] (ac .gone (ac (Qbd Qa.nl) an)) (.own _ _ _ _)
theorem Qfa.Wl (a0:Qu) {r:Bool} (H:Qfa a0=some r):Yn Tryz.prog 80 [] [.d (Qaq a0)] [] (.b r):=by
 refine Xt Tryz.func80 rfl (nt:=15) rfl (lb rfl) fun X hP h0 hX=>?_
 have hT:Xl X.P T:=hP▸tok
 have hf:X.P.funcs[80]? = some Tryz.f80:=hP▸Tryz.func80
 refine Qi hT 8 (K80 110 1) ⟨15,[(1,.ptr 0 0 0 0),(3,.d (Qaq a0))],[.box 47 (Yk a0)]⟩ ?_
 obtain ⟨v1,h1,H⟩:=ibC H
 have Zl:∀ (Qcq:Bool),(Qfa.j1 Qcq)=some r->AK X 80 ((K80 11 1)) (Jb X [] (.b r)) ⟨15,[(2,.b Qcq)],[]⟩:=by
  intro Qcq H
  obtain rfl:=Zb H
  exact Yr hf hX h0 (.b Qcq) [] an (.d (.v _))
 refine Wj (Xw:=[.d (Qaq a0)]) (dst:=some 4) (k':=(K80 110 2)) [1,4] [] hP Qha (Qbn.Wl a0 h1) (by kernel_rfl) (Qz _) (.cons (Qn _) .nil) (st':=⟨15,[(1,.ptr 0 0 0 0),(4,.b v1)],[.box 47 (Yk a0)]⟩) (by kernel_rfl) ?_
 refine Qi hT 1 (K80 110 3) ⟨15,[(1,.ptr 0 0 0 0),(5,.b v1)],[.box 47 (Yk a0)]⟩ ?_
 by_cases c2:v1=true
 ·replace H:=iT c2 H
  rw [c2]
  refine Qi hT 4 (K80 110 7) ⟨15,[(1,.ptr 0 0 0 0),(5,.b true),(9,.b (a0.Kind == 3))],[.box 47 (Yk a0)]⟩ ?_
  by_cases c3:a0.Kind=3
  ·replace H:=iT c3 H
   rw [eqT c3]
   refine Yi hT 7 (K80 11 1) [] ⟨15,[(2,.b true)],[]⟩ h0 ?_
   exact Zl true H
  replace H:=iF c3 H
  rw [eqF c3]
  refine Yi hT 7 (K80 11 1) [] ⟨15,[(2,.b (a0.Kind == 4))],[]⟩ h0 ?_
  exact Zl (a0.Kind == 4) H
 replace H:=iF c2 H
 rw [boF c2]
 refine Yi hT 11 (K80 11 1) [] ⟨15,[(2,.b false)],[]⟩ h0 ?_
 exact Zl false H
abbrev Wv.p0 (t0:Bool) (a0:List Qa) (a1:Int):List (Nat × AV):=[(0,.d (Xj t0 a0)),(1,.i a1)]
theorem Wv.Wl {t0:Bool} {ff2:FuncId} {cc2:List DV} (a0:List Qa) (a1:Int) (p2:Qa->Int->Option Int) (he2:Sy.Enters Tryz.prog ff2) (hp2:∀ (z0:Qa) (z1:Int) r,p2 z0 z1=some r->Yn Tryz.prog ff2 [] ([.d (Qf4 z0),.i z1] ++ List.map AV.d cc2) [] (.i r)) {r:Int × Bool} (H:Wv a0 a1 p2=some r):Yn Tryz.prog 151 [] [.d (Xj t0 a0),.i a1,.d (.fn ff2 cc2)] [] (.Qq [.i r.1,.b r.2]):=by
 refine Xt Tryz.func151 rfl (nt:=49) rfl (lb rfl) fun X hP h0 hX=>?_
 have hT:Xl X.P T:=hP▸tok
 have hf:X.P.funcs[151]? = some Tryz.f151:=hP▸Tryz.func151
 refine Qi hT 20 (Qgz 111100 0) ⟨49,(Wv.p0 t0 a0 a1++[(2,.d (.fn ff2 cc2)),(8,.i (a0.length:Int)),(9,.i 0),(10,.i (a0.length:Int))]),[]⟩ ?_
 have L:∀ n,(∀ (Jy:Int) (Wu:Int),iter (Wv.step a0 a1 p2) n (.l1 Jy Wu)=some r->AK X 151 ((Qgz 111100 0)) (Jb X [] (.Qq [.i r.1,.b r.2])) ⟨49,(Wv.p0 t0 a0 a1++[(2,.d (.fn ff2 cc2)),(8,.i (a0.length:Int)),(9,.i Jy),(10,.i Wu)]),[]⟩):=by
  intro n
  induction n with
  | zero=>exact fun _ _ H=>Qbx H
  | succ n ih=>
   ·intro Jy Wu H
    refine Qi hT 7 (Qgz 11110000 1) ⟨49,(Wv.p0 t0 a0 a1++[(2,.d (.fn ff2 cc2)),(8,.i (a0.length:Int)),(9,.i Jy),(10,.i Wu),(17,.b (decide (Jy < Wu)))]),[]⟩ ?_
    by_cases c1:Jy < Wu
    ·replace H:=sT c1 H
     rw [decide_eq_true c1]
     refine Qi hT 2 (Qgz 1111000 1) ⟨49,(Wv.p0 t0 a0 a1++[(2,.d (.fn ff2 cc2)),(8,.i (a0.length:Int)),(9,.i Jy),(10,.i Wu)]),[]⟩ ?_
     refine Qi hT 10 (Qgz 1111000100 7) ⟨49,(Wv.p0 t0 a0 a1++[(2,.d (.fn ff2 cc2)),(8,.i (a0.length:Int)),(9,.i Jy),(10,.i Wu),(11,.i (IntKind.wrap .i64 (Int.fdiv (IntKind.wrap .u64 (IntKind.wrap .i64 (Jy+Wu))) 2)))]),[]⟩ ?_
     obtain ⟨v2,h5,H⟩:=sdC H
     rw [<- h5]
     refine Qi hT 6 (Qgz 11110001010 3) ⟨49,(Wv.p0 t0 a0 a1++[(2,.d (.fn ff2 cc2)),(8,.i (a0.length:Int)),(9,.i Jy),(10,.i Wu),(11,.i v2),(24,.d (.fn ff2 cc2)),(25,.d (Xj t0 a0)),(26,.i v2)]),[]⟩ ?_
     obtain ⟨h6,H⟩:=sC H
     refine Qa7 hT [0,1,2,8,9,10,11,24,27] (i:=v2) (n:=(a0.length:Int)) h6.1 h6.2 (k':=(Qgz 11110001010 4)) (st':=⟨49,(Wv.p0 t0 a0 a1++[(2,.d (.fn ff2 cc2)),(8,.i (a0.length:Int)),(9,.i Jy),(10,.i Wu),(11,.i v2),(24,.d (.fn ff2 cc2)),(27,.d (Qec t0 a0 v2.toNat 0))]),[]⟩) (by kernel_rfl) ?_
     refine Qi hT 2 (Qgz 11110001010 6) ⟨49,(Wv.p0 t0 a0 a1++[(2,.d (.fn ff2 cc2)),(8,.i (a0.length:Int)),(9,.i Jy),(10,.i Wu),(11,.i v2),(24,.d (.fn ff2 cc2)),(28,.d (Qf4 (a0.getD v2.toNat Qa.z))),(29,.i a1)]),[]⟩ ?_
     obtain ⟨v3,h7,H⟩:=sbC H
     refine Wj (Xw:=[.d (Qf4 (a0.getD v2.toNat Qa.z)),.i a1] ++ List.map AV.d cc2) (dst:=some 30) (k':=(Qgz 11110001010 7)) [0,1,2,8,9,10,11,30] [] hP he2 (hp2 (a0.getD v2.toNat Qa.z) a1 v3 h7) (by kernel_rfl) (Qz _) (.cons (Qn _) (.cons (Qn _) (Qfz _))) (st':=⟨49,(Wv.p0 t0 a0 a1++[(2,.d (.fn ff2 cc2)),(8,.i (a0.length:Int)),(9,.i Jy),(10,.i Wu),(11,.i v2),(30,.i v3)]),[]⟩) (by kernel_rfl) ?_
     refine Qi hT 2 (Qgz 1111000101 1) ⟨49,(Wv.p0 t0 a0 a1++[(2,.d (.fn ff2 cc2)),(8,.i (a0.length:Int)),(9,.i Jy),(10,.i Wu),(11,.i v2),(31,.b (decide (v3 < 0)))]),[]⟩ ?_
     by_cases c8:v3 < 0
     ·replace H:=sT c8 H
      rw [decide_eq_true c8]
      refine Qi hT 8 (Qgz 111100 0) ⟨49,(Wv.p0 t0 a0 a1++[(2,.d (.fn ff2 cc2)),(8,.i (a0.length:Int)),(9,.i (IntKind.wrap .i64 (v2+1))),(10,.i Wu)]),[]⟩ ?_
      exact ih (IntKind.wrap .i64 (v2+1)) Wu H
     replace H:=sF c8 H
     rw [decide_eq_false c8]
     refine Qi hT 7 (Qgz 111100 0) ⟨49,(Wv.p0 t0 a0 a1++[(2,.d (.fn ff2 cc2)),(8,.i (a0.length:Int)),(9,.i Jy),(10,.i v2)]),[]⟩ ?_
     exact ih Jy v2 H
    replace H:=sF c1 H
    have Zl:∀ (Qky:Bool),stk (Wv.j1 Jy Qky) (iter (Wv.step a0 a1 p2) n)=some r->AK X 151 ((Qgz 11111 1)) (Jb X [] (.Qq [.i r.1,.b r.2])) ⟨49,[(6,.i Jy),(7,.b Qky)],[]⟩:=by
     intro Qky H
     obtain rfl:=Zb H
     exact Yr hf hX h0 (.Qq [.i Jy,.b Qky]) [] an (.Qq (.cons (.d (.v _)) (.cons (.d (.v _)) .nil)))
    rw [decide_eq_false c1]
    refine Qi hT 9 (Qgz 111110 5) ⟨49,(Wv.p0 t0 a0 a1++[(2,.d (.fn ff2 cc2)),(9,.i Jy),(35,.i Jy),(39,.b (decide (Jy < (a0.length:Int))))]),[]⟩ ?_
    by_cases c2:Jy < (a0.length:Int)
    ·replace H:=sT c2 H
     rw [decide_eq_true c2]
     refine Qi hT 3 (Qgz 111110 8) ⟨49,[(1,.i a1),(35,.i Jy),(39,.b true),(40,.d (.fn ff2 cc2)),(41,.d (Xj t0 a0)),(42,.i Jy)],[]⟩ ?_
     obtain ⟨h3,H⟩:=sC H
     refine Qa7 hT [1,35,39,40,43] (i:=Jy) (n:=(a0.length:Int)) h3.1 h3.2 (k':=(Qgz 111110 9)) (st':=⟨49,[(1,.i a1),(35,.i Jy),(39,.b true),(40,.d (.fn ff2 cc2)),(43,.d (Qec t0 a0 Jy.toNat 0))],[]⟩) (by kernel_rfl) ?_
     refine Qi hT 2 (Qgz 111110 11) ⟨49,[(35,.i Jy),(39,.b true),(40,.d (.fn ff2 cc2)),(44,.d (Qf4 (a0.getD Jy.toNat Qa.z))),(45,.i a1)],[]⟩ ?_
     obtain ⟨v1,h4,H⟩:=sbC H
     refine Wj (Xw:=[.d (Qf4 (a0.getD Jy.toNat Qa.z)),.i a1] ++ List.map AV.d cc2) (dst:=some 46) (k':=(Qgz 111110 12)) [35,39,46] [] hP he2 (hp2 (a0.getD Jy.toNat Qa.z) a1 v1 h4) (by kernel_rfl) (Qz _) (.cons (Qn _) (.cons (Qn _) (Qfz _))) (st':=⟨49,[(35,.i Jy),(39,.b true),(46,.i v1)],[]⟩) (by kernel_rfl) ?_
     refine Qi hT 5 (Qgz 11111 1) ⟨49,[(6,.i Jy),(7,.b (v1 == 0))],[]⟩ ?_
     exact Zl (v1 == 0) H
    replace H:=sF c2 H
    rw [decide_eq_false c2]
    refine Qi hT 12 (Qgz 11111 1) ⟨49,[(6,.i Jy),(7,.b false)],[]⟩ ?_
    exact Zl false H
 obtain ⟨n,H⟩:=Qcn H
 exact (L n) 0 (a0.length:Int) H
theorem Qfu.Wl (a0:Qa) (a1:Int):Yn Tryz.prog 152 [] [.d (Qf4 a0),.i a1] [] (.i (Qfu a0 a1)):=by
 obtain ⟨r,H⟩:∃ r,Qfu a0 a1=r:=⟨_,rfl⟩
 rw [H]
 refine Xt Tryz.func152 rfl (nt:=9) rfl (lb rfl) fun X hP h0 hX=>?_
 have hT:Xl X.P T:=hP▸tok
 have hf:X.P.funcs[152]? = some Tryz.f152:=hP▸Tryz.func152
 refine Qi hT 10 (Wf6 110 3) ⟨9,[(6,.i a0.Key),(7,.i a1)],[.box 56 (Qcc a0)]⟩ ?_
 refine Wj (Xw:=[.i a0.Key,.i a1]) (dst:=some 8) (k':=(Wf6 110 4)) [8] [] hP Qie (Yf.Wl a0.Key a1) (by kernel_rfl) (Qz _) (.cons (Qn _) (.cons (Qn _) .nil)) (st':=⟨9,[(8,.i (Yf a0.Key a1))],[.box 56 (Qcc a0)]⟩) (by kernel_rfl) ?_
 refine Qi hT 2 (Wf6 11 1) ⟨9,[(4,.i (Yf a0.Key a1))],[.box 56 (Qcc a0)]⟩ ?_
 obtain rfl:=H
 exact Yr hf hX h0 (.i (Yf a0.Key a1)) [] an (.d (.v _))
theorem Qgp.Wl {t0:Bool} (a0:List Qa) (a1:Int) {r:Int × Bool} (H:Qgp a0 a1=some r):Yn Tryz.prog 128 [] [.d (Xj t0 a0),.i a1] [] (.Qq [.i r.1,.b r.2]):=by
 refine Xt Tryz.func128 rfl (nt:=11) rfl (lb rfl) fun X hP h0 hX=>?_
 have hT:Xl X.P T:=hP▸tok
 have hf:X.P.funcs[128]? = some Tryz.f128:=hP▸Tryz.func128
 refine Qi hT 9 (Wf3 110 2) ⟨11,[(6,.d (Xj t0 a0)),(7,.i a1)],[]⟩ ?_
 obtain ⟨v1,h1,H⟩:=ibC H
 refine Wj (Xw:=[.d (Xj t0 a0),.i a1,.d (.fn 152 [])]) (dst:=some 8) (k':=(Wf3 110 3)) [8] [] hP Waw (Wv.Wl (t0:=t0) (ff2:=152) (cc2:=[]) a0 a1 (fun z0 z1=>some (Qfu z0 z1)) Wax (fun z0 z1 r h=>by obtain rfl:=Zb h;exact Qfu.Wl z0 z1) h1) (by kernel_rfl) (Qz _) (.cons (Qn _) (.cons (Qn _) (.cons (Qn _) .nil))) (st':=⟨11,[(8,.Qq [.i v1.1,.b v1.2])],[]⟩) (by kernel_rfl) ?_
 refine Qi hT 5 (Wf3 11 1) ⟨11,[(4,.i v1.1),(5,.b v1.2)],[]⟩ ?_
 obtain rfl:=Zb H
 exact Yr hf hX h0 (.Qq [.i v1.1,.b v1.2]) [] an (.Qq (.cons (.d (.v _)) (.cons (.d (.v _)) .nil)))
theorem Qhf.Wl {t0:Bool} (a0:List Qa) (a1:Int) {r:Int × Bool} (H:Qhf a0 a1=some r):Yn Tryz.prog 127 [] [.d (Xj t0 a0),.i a1] [] (.Qq [.i r.1,.b r.2]):=by
 refine Xt Tryz.func127 rfl (nt:=20) rfl (lb rfl) fun X hP h0 hX=>?_
 have hT:Xl X.P T:=hP▸tok
 have hf:X.P.funcs[127]? = some Tryz.f127:=hP▸Tryz.func127
 refine Qi hT 10 (Qph 1100 2) ⟨20,[(0,.d (Xj t0 a0)),(9,.d (Xj t0 a0)),(10,.i a1)],[]⟩ ?_
 obtain ⟨v1,h1,H⟩:=ibC H
 refine Wj (Xw:=[.d (Xj t0 a0),.i a1]) (dst:=some 11) (k':=(Qph 1100 3)) [0,11] [] hP Qs9 (Qgp.Wl (t0:=t0) a0 a1 h1) (by kernel_rfl) (Qz _) (.cons (Qn _) (.cons (Qn _) .nil)) (st':=⟨20,[(0,.d (Xj t0 a0)),(11,.Qq [.i v1.1,.b v1.2])],[]⟩) (by kernel_rfl) ?_
 refine Qi hT 10 (Qph 1101 1) ⟨20,[(0,.d (Xj t0 a0)),(6,.i v1.1),(14,.b v1.2)],[]⟩ ?_
 by_cases c2:v1.2=true
 ·replace H:=iT c2 H
  rw [c2]
  refine Qi hT 5 (Qph 1101100 2) ⟨20,[(15,.d (Xj t0 a0)),(16,.i v1.1)],[]⟩ ?_
  obtain ⟨h3,H⟩:=iC H
  refine Qa7 hT [17] (i:=v1.1) (n:=(a0.length:Int)) h3.1 h3.2 (k':=(Qph 1101100 3)) (st':=⟨20,[(17,.d (Qec t0 a0 v1.1.toNat 0))],[]⟩) (by kernel_rfl) ?_
  refine Qi hT 5 (Qph 110110 1) ⟨20,[(4,.i ((a0.getD v1.1.toNat Qa.z).Val)),(5,.b true)],[]⟩ ?_
  obtain rfl:=Zb H
  exact Yr hf hX h0 (.Qq [.i ((a0.getD v1.1.toNat Qa.z).Val),.b true]) [] an (.Qq (.cons (.d (.v _)) (.cons (.d (.v _)) .nil)))
 replace H:=iF c2 H
 rw [boF c2]
 refine Qi hT 2 (Qph 11 1) ⟨20,[],[]⟩ ?_
 refine Qi hT 5 (Qph 111 1) ⟨20,[(4,.i 0),(5,.b false)],[]⟩ ?_
 obtain rfl:=Zb H
 exact Yr hf hX h0 (.Qq [.i 0,.b false]) [] an (.Qq (.cons (.d (.v _)) (.cons (.d (.v _)) .nil)))
theorem Qel.Wl (a0:List Qa) (a1:Int) (a2:Int) {r:List Qa} (H:Qel a0 a1 a2=some r):Yn Tryz.prog 83 [Xp a0] [.own 0 2 0 a0.length,.i a1,.i a2] [.gone,Xp r] (.own 1 2 0 r.length):=by
 refine Xt Tryz.func83 rfl (nt:=29) rfl (lb rfl) fun X hP h0 hX=>?_
 have hT:Xl X.P T:=hP▸tok
 have hf:X.P.funcs[83]? = some Tryz.f83:=hP▸Tryz.func83
 refine Qf0 0 (r:=Xp a0) rfl rfl (st':=⟨29,[(0,.own 1 2 0 a0.length),(1,.i a1),(2,.i a2)],[.gone,Xp a0]⟩) (by kernel_rfl) (by kernel_rfl) rfl ?_
 refine Qi hT 8 (K83 110 2) ⟨29,[(0,.own 1 2 0 a0.length),(1,.i a1),(2,.i a2),(10,.own 1 2 0 a0.length),(11,.i a1)],[.gone,Xp a0]⟩ ?_
 obtain ⟨v1,h1,H⟩:=ibC H
 refine Wj (Xw:=[.own 1 2 0 a0.length,.i a1]) (dst:=some 12) (k':=(K83 110 3)) [0,1,2,12] [] hP Qs9 (Qgp.Wl (t0:=false) a0 a1 h1) (by kernel_rfl) (Qz _) (.cons (.Qd4 (ty:=56) (by kernel_rfl) rfl) (.cons (Qn _) .nil)) (st':=⟨29,[(0,.own 1 2 0 a0.length),(1,.i a1),(2,.i a2),(12,.Qq [.i v1.1,.b v1.2])],[.gone,Xp a0]⟩) (by kernel_rfl) ?_
 refine Qi hT 11 (K83 1110 1) ⟨29,[(0,.own 1 2 0 a0.length),(1,.i a1),(2,.i a2),(7,.i v1.1),(15,.b v1.2)],[.gone,Xp a0]⟩ ?_
 by_cases c2:v1.2=true
 ·replace H:=iT c2 H
  rw [c2]
  refine Qi hT 6 (K83 1110100 3) ⟨29,[(0,.own 1 2 0 a0.length),(16,.own 1 2 0 a0.length),(17,.i v1.1),(18,.i a2)],[.gone,Xp a0]⟩ ?_
  obtain ⟨h3,H⟩:=iC H
  refine Qa7 hT [0,18,19] (i:=v1.1) (n:=(a0.length:Int)) h3.1 h3.2 (k':=(K83 1110100 4)) (st':=⟨29,[(0,.own 1 2 0 a0.length),(18,.i a2),(19,.ptr 1 2 v1.1.toNat 0)],[.gone,Xp a0]⟩) (by kernel_rfl) ?_
  refine Qi hT 1 (K83 1110100 5) ⟨29,[(0,.own 1 2 0 a0.length),(18,.i a2),(20,.ptr 1 2 v1.1.toNat 1)],[.gone,Xp a0]⟩ ?_
  refine Qwb (id:=1) (kk:=2) (i:=v1.1.toNat) (off:=1) (s:=1) (n:=a0.length) (ty:=56) (ds:=[.i a2]) (g:=vec Qa.e Qa.z a0) (k':=(K83 1110100 6)) hT [0] (vec Qa.e Qa.z (a0.set v1.1.toNat (⟨(a0.getD v1.1.toNat Qa.z).Key,a2⟩:Qa))) (by kernel_rfl) (by kernel_rfl) (ltN h3.1 h3.2) ((Qn4 (ltN h3.1 h3.2)).trans (by kernel_rfl)) Qkd (st':=⟨29,[(0,.own 1 2 0 (a0.length))],[.gone,.flat false 2 56 a0.length (vec Qa.e Qa.z (a0.set v1.1.toNat (⟨(a0.getD v1.1.toNat Qa.z).Key,a2⟩:Qa)))]⟩) (by kernel_rfl) ?_
  refine Qoa (show a0.length=(a0.set v1.1.toNat (⟨(a0.getD v1.1.toNat Qa.z).Key,a2⟩:Qa)).length from (List.length_set ..).symm) (fun nn=>⟨29,[(0,.own 1 2 0 (nn))],[.gone,.flat false 2 56 nn (vec Qa.e Qa.z (a0.set v1.1.toNat (⟨(a0.getD v1.1.toNat Qa.z).Key,a2⟩:Qa)))]⟩) ?_
  refine Qi hT 6 (K83 1110101 1) ⟨29,[(6,.own 1 2 0 ((a0.set v1.1.toNat (⟨(a0.getD v1.1.toNat Qa.z).Key,a2⟩:Qa)).length))],[.gone,Xp (a0.set v1.1.toNat (⟨(a0.getD v1.1.toNat Qa.z).Key,a2⟩:Qa))]⟩ ?_
  obtain rfl:=Zb H
  exact Yr hf hX h0 (.own 1 2 0 ((a0.set v1.1.toNat (⟨(a0.getD v1.1.toNat Qa.z).Key,a2⟩:Qa)).length)) [0,1] (ac .gone (ac (Qbd Qa.nl) an)) (.own _ _ _ _)
 replace H:=iF c2 H
 rw [boF c2]
 refine Qi hT 2 (K83 111 1) ⟨29,[(0,.own 1 2 0 a0.length),(1,.i a1),(2,.i a2),(7,.i v1.1)],[.gone,Xp a0]⟩ ?_
 refine Qi hT 8 (K83 11110 6) ⟨29,[(22,.own 1 2 0 a0.length),(23,.i v1.1),(27,.own 2 2 0 1)],[.gone,Xp a0,.flat false 2 56 1 (fun j=>[[.i a1,.i a2]].getD j [])]⟩ ?_
 obtain ⟨h4,H⟩:=iC H
 refine Wj (Xw:=[.own 1 2 0 a0.length,.i v1.1,.own 2 2 0 1]) (dst:=some 28) (k':=(K83 11110 7)) [28] [1,2] hP Wak (Weo a0 v1.1 (⟨a1,a2⟩:Qa) h4) (by kernel_rfl) (Wei rfl rfl rfl rfl (by decide)) (.cons (.same (.own 0 2 0 a0.length)) (.cons (Qn _) (.cons (.same (.own 1 2 0 1)) .nil))) (st':=⟨29,[(28,.own 3 2 0 ((a0.take v1.1.toNat ++ (⟨a1,a2⟩:Qa) :: a0.drop v1.1.toNat).length))],[.gone,.gone,.gone,Xp (a0.take v1.1.toNat ++ (⟨a1,a2⟩:Qa) :: a0.drop v1.1.toNat)]⟩) (by kernel_rfl) ?_
 refine Qi hT 2 (K83 1111 1) ⟨29,[(6,.own 3 2 0 ((a0.take v1.1.toNat ++ (⟨a1,a2⟩:Qa) :: a0.drop v1.1.toNat).length))],[.gone,.gone,.gone,Xp (a0.take v1.1.toNat ++ (⟨a1,a2⟩:Qa) :: a0.drop v1.1.toNat)]⟩ ?_
 obtain rfl:=Zb H
 exact Yr hf hX h0 (.own 3 2 0 ((a0.take v1.1.toNat ++ (⟨a1,a2⟩:Qa) :: a0.drop v1.1.toNat).length)) [0,3] (ac .gone (ac (Qbd Qa.nl) an)) (.own _ _ _ _)
abbrev Jp.q1 (a0:List Qa) (a1:Qu):List Row:=[.gone,Xp a0,.box 47 (Yk a1),.box 56 (Qcc (a1.Pairs.getD 0 Qa.z))]
abbrev Jp.p0 (a0:List Qa):List (Nat × AV):=[(0,.own 1 2 0 a0.length),(3,.ptr 2 0 0 0),(6,.ptr 3 0 0 0)]
theorem Jp.Wl (a0:List Qa) (a1:Qu) {r:(List Qa) × Bool} (H:Jp a0 a1=some r):Yn Tryz.prog 82 [Xp a0] [.own 0 2 0 a0.length,.d (Qaq a1)] [.gone,Xp r.1] (.Qq [.own 1 2 0 r.1.length,.b r.2]):=by
 refine Xt Tryz.func82 rfl (nt:=57) rfl (lb rfl) fun X hP h0 hX=>?_
 have hT:Xl X.P T:=hP▸tok
 have hf:X.P.funcs[82]? = some Tryz.f82:=hP▸Tryz.func82
 refine Qf0 0 (r:=Xp a0) rfl rfl (st':=⟨57,[(0,.own 1 2 0 a0.length),(1,.d (Qaq a1))],[.gone,Xp a0]⟩) (by kernel_rfl) (by kernel_rfl) rfl ?_
 refine Qi hT 10 (K82 110 2) ⟨57,[(0,.own 1 2 0 a0.length),(3,.ptr 2 0 0 0),(10,.d (Xj true a1.Pairs))],[.gone,Xp a0,.box 47 (Yk a1)]⟩ ?_
 obtain ⟨h1,H⟩:=iC H
 refine Qa7 hT [0,3,11] (i:=0) (n:=(a1.Pairs.length:Int)) h1.1 h1.2 (k':=(K82 110 3)) (st':=⟨57,[(0,.own 1 2 0 a0.length),(3,.ptr 2 0 0 0),(11,.d (Qec true a1.Pairs 0 0))],[.gone,Xp a0,.box 47 (Yk a1)]⟩) (by kernel_rfl) ?_
 refine Qi hT 9 (K82 1110 3) ⟨57,(Jp.p0 a0++[(14,.own 1 2 0 a0.length),(16,.i ((a1.Pairs.getD 0 Qa.z).Key))]),(Jp.q1 a0 a1)⟩ ?_
 obtain ⟨v1,h2,H⟩:=ibC H
 refine Wj (Xw:=[.own 1 2 0 a0.length,.i ((a1.Pairs.getD 0 Qa.z).Key)]) (dst:=some 17) (k':=(K82 1110 4)) [0,3,6,17] [] hP Qs8 (Qhf.Wl (t0:=false) a0 ((a1.Pairs.getD 0 Qa.z).Key) h2) (by kernel_rfl) (Qz _) (.cons (.Qd4 (ty:=56) (by kernel_rfl) rfl) (.cons (Qn _) .nil)) (st':=⟨57,(Jp.p0 a0++[(17,.Qq [.i v1.1,.b v1.2])]),(Jp.q1 a0 a1)⟩) (by kernel_rfl) ?_
 refine Qi hT 13 (K82 11110 1) ⟨57,(Jp.p0 a0++[(7,.i v1.1),(8,.b v1.2),(22,.b (a1.Kind == 3))]),(Jp.q1 a0 a1)⟩ ?_
 by_cases c3:a1.Kind=3
 ·replace H:=iT c3 H
  have Zl:∀ (Qgr:Bool),(Jp.j1 a0 a1 v1 Qgr)=some r->AK X 82 ((K82 11110100 1)) (Jb X [.gone,Xp r.1] (.Qq [.own 1 2 0 r.1.length,.b r.2])) ⟨57,[(0,.own 1 2 0 a0.length),(6,.ptr 2 0 0 0),(7,.i v1.1),(34,.b Qgr)],[.gone,Xp a0,.box 56 (Qcc (a1.Pairs.getD 0 Qa.z))]⟩:=by
   intro Qgr H
   by_cases c5:Qgr=true
   ·replace H:=iT c5 H
    rw [c5]
    refine Qi hT 7 (K82 1111010010 1) ⟨57,[(4,.own 1 2 0 a0.length),(5,.b false)],[.gone,Xp a0,.box 56 (Qcc (a1.Pairs.getD 0 Qa.z))]⟩ ?_
    obtain rfl:=Zb H
    exact Yr hf hX h0 (.Qq [.own 1 2 0 a0.length,.b false]) [0,1] (ac .gone (ac (Qbd Qa.nl) an)) (.Qq (.cons (.own _ _ _ _) (.cons (.d (.v _)) .nil)))
   replace H:=iF c5 H
   rw [boF c5]
   refine Qi hT 2 (K82 1111010 1) ⟨57,[(0,.own 1 2 0 a0.length),(6,.ptr 2 0 0 0),(7,.i v1.1)],[.gone,Xp a0,.box 56 (Qcc (a1.Pairs.getD 0 Qa.z))]⟩ ?_
   refine Qi hT 9 (K82 111101010 7) ⟨57,[(36,.own 1 2 0 a0.length),(38,.i ((a1.Pairs.getD 0 Qa.z).Key)),(42,.i (IntKind.wrap .i64 (v1.1+((a1.Pairs.getD 0 Qa.z).Val))))],[.gone,Xp a0,.box 56 (Qcc (a1.Pairs.getD 0 Qa.z))]⟩ ?_
   obtain ⟨v2,h6,H⟩:=ibC H
   refine Wj (Xw:=[.own 1 2 0 a0.length,.i ((a1.Pairs.getD 0 Qa.z).Key),.i (IntKind.wrap .i64 (v1.1+((a1.Pairs.getD 0 Qa.z).Val)))]) (dst:=some 43) (k':=(K82 111101010 8)) [43] [1] hP Qmy (Qel.Wl a0 ((a1.Pairs.getD 0 Qa.z).Key) (IntKind.wrap .i64 (v1.1+((a1.Pairs.getD 0 Qa.z).Val))) h6) (by kernel_rfl) (Qd3 rfl rfl) (.cons (.same (.own 0 2 0 a0.length)) (.cons (Qn _) (.cons (Qn _) .nil))) (st':=⟨57,[(43,.own 3 2 0 v2.length)],[.gone,.gone,.box 56 (Qcc (a1.Pairs.getD 0 Qa.z)),Xp v2]⟩) (by kernel_rfl) ?_
   refine Qi hT 3 (K82 11110101 1) ⟨57,[(4,.own 3 2 0 v2.length),(5,.b true)],[.gone,.gone,.box 56 (Qcc (a1.Pairs.getD 0 Qa.z)),Xp v2]⟩ ?_
   obtain rfl:=Zb H
   exact Yr hf hX h0 (.Qq [.own 3 2 0 v2.length,.b true]) [0,3] (ac .gone (ac (Qbd Qa.nl) an)) (.Qq (.cons (.own _ _ _ _) (.cons (.d (.v _)) .nil)))
  rw [eqT c3]
  refine Qi hT 10 (K82 111101000 6) ⟨57,[(0,.own 1 2 0 a0.length),(6,.ptr 3 0 0 0),(7,.i v1.1),(28,.b (decide ((IntKind.wrap .i64 (v1.1+((a1.Pairs.getD 0 Qa.z).Val))) < 0)))],(Jp.q1 a0 a1)⟩ ?_
  by_cases c4:(IntKind.wrap .i64 (v1.1+((a1.Pairs.getD 0 Qa.z).Val))) < 0
  ·replace H:=iT c4 H
   rw [decide_eq_true c4]
   refine Yi hT 7 (K82 11110100 1) [0,1,3] ⟨57,[(0,.own 1 2 0 a0.length),(6,.ptr 2 0 0 0),(7,.i v1.1),(34,.b true)],[.gone,Xp a0,.box 56 (Qcc (a1.Pairs.getD 0 Qa.z))]⟩ h0 ?_
   exact Zl true H
  replace H:=iF c4 H
  rw [decide_eq_false c4]
  refine Yi hT 7 (K82 11110100 1) [0,1,3] ⟨57,[(0,.own 1 2 0 a0.length),(6,.ptr 2 0 0 0),(7,.i v1.1),(34,.b (decide ((IntKind.wrap .i64 (v1.1+((a1.Pairs.getD 0 Qa.z).Val))) > 1099511627776)))],[.gone,Xp a0,.box 56 (Qcc (a1.Pairs.getD 0 Qa.z))]⟩ h0 ?_
  exact Zl (decide ((IntKind.wrap .i64 (v1.1+((a1.Pairs.getD 0 Qa.z).Val))) > 1099511627776)) H
 replace H:=iF c3 H
 have Jj2:∀ (Qsu:Int),(Jp.j2 a0 a1 Qsu)=some r->AK X 82 ((K82 11111 1)) (Jb X [.gone,Xp r.1] (.Qq [.own 1 2 0 r.1.length,.b r.2])) ⟨57,(Jp.p0 a0++[(7,.i Qsu)]),(Jp.q1 a0 a1)⟩:=by
  intro Qsu H
  refine Qi hT 8 (K82 1111110 1) ⟨57,[(0,.own 1 2 0 a0.length),(6,.ptr 3 0 0 0),(49,.b (Qsu != a1.Old))],(Jp.q1 a0 a1)⟩ ?_
  by_cases c8:Qsu=a1.Old
  ·replace H:=iT c8 H
   rw [neF c8]
   refine Qi hT 2 (K82 111111 1) ⟨57,[(0,.own 1 2 0 a0.length),(6,.ptr 3 0 0 0)],(Jp.q1 a0 a1)⟩ ?_
   refine Qi hT 7 (K82 11111110 5) ⟨57,[(51,.own 1 2 0 a0.length),(53,.i ((a1.Pairs.getD 0 Qa.z).Key)),(55,.i ((a1.Pairs.getD 0 Qa.z).Val))],(Jp.q1 a0 a1)⟩ ?_
   obtain ⟨v3,h9,H⟩:=ibC H
   refine Wj (Xw:=[.own 1 2 0 a0.length,.i ((a1.Pairs.getD 0 Qa.z).Key),.i ((a1.Pairs.getD 0 Qa.z).Val)]) (dst:=some 56) (k':=(K82 11111110 6)) [56] [1] hP Qmy (Qel.Wl a0 ((a1.Pairs.getD 0 Qa.z).Key) ((a1.Pairs.getD 0 Qa.z).Val) h9) (by kernel_rfl) (Qd3 rfl rfl) (.cons (.same (.own 0 2 0 a0.length)) (.cons (Qn _) (.cons (Qn _) .nil))) (st':=⟨57,[(56,.own 4 2 0 v3.length)],[.gone,.gone,.box 47 (Yk a1),.box 56 (Qcc (a1.Pairs.getD 0 Qa.z)),Xp v3]⟩) (by kernel_rfl) ?_
   refine Qi hT 3 (K82 1111111 1) ⟨57,[(4,.own 4 2 0 v3.length),(5,.b true)],[.gone,.gone,.box 47 (Yk a1),.box 56 (Qcc (a1.Pairs.getD 0 Qa.z)),Xp v3]⟩ ?_
   obtain rfl:=Zb H
   exact Yr hf hX h0 (.Qq [.own 4 2 0 v3.length,.b true]) [0,4] (ac .gone (ac (Qbd Qa.nl) an)) (.Qq (.cons (.own _ _ _ _) (.cons (.d (.v _)) .nil)))
  replace H:=iF c8 H
  rw [neT c8]
  refine Qi hT 7 (K82 111111010 1) ⟨57,[(4,.own 1 2 0 a0.length),(5,.b false)],(Jp.q1 a0 a1)⟩ ?_
  obtain rfl:=Zb H
  exact Yr hf hX h0 (.Qq [.own 1 2 0 a0.length,.b false]) [0,1] (ac .gone (ac (Qbd Qa.nl) an)) (.Qq (.cons (.own _ _ _ _) (.cons (.d (.v _)) .nil)))
 rw [eqF c3]
 refine Qi hT 2 (K82 1111 1) ⟨57,(Jp.p0 a0++[(7,.i v1.1),(8,.b v1.2)]),(Jp.q1 a0 a1)⟩ ?_
 refine Qi hT 6 (K82 111110 1) ⟨57,(Jp.p0 a0++[(7,.i v1.1),(45,.b (!v1.2))]),(Jp.q1 a0 a1)⟩ ?_
 by_cases c7:v1.2=true
 ·replace H:=iT c7 H
  rw [c7]
  refine Qi hT 2 (K82 11111 1) ⟨57,(Jp.p0 a0++[(7,.i v1.1)]),(Jp.q1 a0 a1)⟩ ?_
  exact Jj2 v1.1 H
 replace H:=iF c7 H
 rw [boF c7]
 refine Qi hT 4 (K82 11111 1) ⟨57,(Jp.p0 a0++[(7,.i 1099511627777)]),(Jp.q1 a0 a1)⟩ ?_
 exact Jj2 1099511627777 H
theorem Qf7.Wl (a0:List Qa) (a1:Int) (a2:Int) {r:List Qa} (H:Qf7 a0 a1 a2=some r):Yn Tryz.prog 84 [Xp a0] [.own 0 2 0 a0.length,.i a1,.i a2] [.gone,Xp r] (.own 1 2 0 r.length):=by
 refine Xt Tryz.func84 rfl (nt:=23) rfl (lb rfl) fun X hP h0 hX=>?_
 have hT:Xl X.P T:=hP▸tok
 have hf:X.P.funcs[84]? = some Tryz.f84:=hP▸Tryz.func84
 refine Qf0 0 (r:=Xp a0) rfl rfl (st':=⟨23,[(0,.own 1 2 0 a0.length),(1,.i a1),(2,.i a2)],[.gone,Xp a0]⟩) (by kernel_rfl) (by kernel_rfl) rfl ?_
 refine Qi hT 8 (K84 110 2) ⟨23,[(0,.own 1 2 0 a0.length),(1,.i a1),(2,.i a2),(10,.own 1 2 0 a0.length),(11,.i a1)],[.gone,Xp a0]⟩ ?_
 obtain ⟨v1,h1,H⟩:=ibC H
 refine Wj (Xw:=[.own 1 2 0 a0.length,.i a1]) (dst:=some 12) (k':=(K84 110 3)) [0,1,2,12] [] hP Qs8 (Qhf.Wl (t0:=false) a0 a1 h1) (by kernel_rfl) (Qz _) (.cons (.Qd4 (ty:=56) (by kernel_rfl) rfl) (.cons (Qn _) .nil)) (st':=⟨23,[(0,.own 1 2 0 a0.length),(1,.i a1),(2,.i a2),(12,.Qq [.i v1.1,.b v1.2])],[.gone,Xp a0]⟩) (by kernel_rfl) ?_
 refine Qi hT 15 (K84 1110 7) ⟨23,[(15,.own 1 2 0 a0.length),(16,.i a1),(21,.i (Qgf (Qeo (IntKind.wrap .i64 (v1.1+a2)) (-1099511627776)) 1099511627776))],[.gone,Xp a0]⟩ ?_
 obtain ⟨v2,h2,H⟩:=ibC H
 refine Wj (Xw:=[.own 1 2 0 a0.length,.i a1,.i (Qgf (Qeo (IntKind.wrap .i64 (v1.1+a2)) (-1099511627776)) 1099511627776)]) (dst:=some 22) (k':=(K84 1110 8)) [22] [1] hP Qmy (Qel.Wl a0 a1 (Qgf (Qeo (IntKind.wrap .i64 (v1.1+a2)) (-1099511627776)) 1099511627776) h2) (by kernel_rfl) (Qd3 rfl rfl) (.cons (.same (.own 0 2 0 a0.length)) (.cons (Qn _) (.cons (Qn _) .nil))) (st':=⟨23,[(22,.own 2 2 0 v2.length)],[.gone,.gone,Xp v2]⟩) (by kernel_rfl) ?_
 refine Qi hT 2 (K84 111 1) ⟨23,[(6,.own 2 2 0 v2.length)],[.gone,.gone,Xp v2]⟩ ?_
 obtain rfl:=Zb H
 exact Yr hf hX h0 (.own 2 2 0 v2.length) [0,2] (ac .gone (ac (Qbd Qa.nl) an)) (.own _ _ _ _)
abbrev Wi.q1 (a1:Qu) (Jg:Int):=(a1.Pairs.getD Jg.toNat Qa.z)
abbrev Wi.p0 (a2:List Qb):List (Nat × AV):=[(2,.d (Xf true a2)),(4,.ptr 0 0 0 0)]
theorem Wi.Wl {t0:Bool} (a0:List Qa) (a1:Qu) (a2:List Qb) {r:(List Qa) × Bool} (H:Wi a0 a1 a2=some r):Yn Tryz.prog 44 [] [.d (Xj t0 a0),.d (Qaq a1),.d (Xf true a2)] [Xp r.1] (.Qq [.own 0 2 0 r.1.length,.b r.2]):=by
 refine Xt Tryz.func44 rfl (nt:=93) rfl (lb rfl) fun X hP h0 hX=>?_
 have hT:Xl X.P T:=hP▸tok
 have hf:X.P.funcs[44]? = some Tryz.f44:=hP▸Tryz.func44
 refine Qi hT 10 (K44 1100 1) ⟨93,[(0,.d (Xj t0 a0)),(2,.d (Xf true a2)),(4,.ptr 0 0 0 0),(10,.d (Xj t0 a0))],[.box 47 (Yk a1)]⟩ ?_
 obtain ⟨v1,h1,H⟩:=ibC H
 have Zl:∀ (Qrd:Bool),(Wi.j1 a0 a1 a2 Qrd)=some r->AK X 44 ((K44 110 1)) (Jb X [Xp r.1] (.Qq [.own 0 2 0 r.1.length,.b r.2])) ⟨93,[(0,.d (Xj t0 a0)),(2,.d (Xf true a2)),(4,.ptr 0 0 0 0),(22,.b Qrd)],[.box 47 (Yk a1)]⟩:=by
  intro Qrd H
  by_cases c6:Qrd=true
  ·replace H:=iT c6 H
   rw [c6]
   refine Qi hT 6 (K44 11010 1) ⟨93,[(6,.ns),(7,.b false)],[.box 47 (Yk a1)]⟩ ?_
   refine Qe8 [6,7] 6 2 56 (vec Qa.e Qa.z []) (st':=⟨93,[(6,.own 1 2 0 0),(7,.b false)],[.box 47 (Yk a1),Xp ([]:List Qa)]⟩) (by kernel_rfl) (by kernel_rfl) ?_
   obtain rfl:=Zb H
   exact Yr hf hX h0 (.Qq [.own 1 2 0 0,.b false]) [1] (ac (Qbd Qa.nl) an) (.Qq (.cons (.own _ _ _ _) (.cons (.d (.v _)) .nil)))
  replace H:=iF c6 H
  rw [boF c6]
  refine Qi hT 2 (K44 11 1) ⟨93,[(0,.d (Xj t0 a0)),(2,.d (Xf true a2)),(4,.ptr 0 0 0 0)],[.box 47 (Yk a1)]⟩ ?_
  refine Qi hT 3 (K44 1110 1) ⟨93,(Wi.p0 a2++[(23,.d (Xj t0 a0))]),[.box 47 (Yk a1)]⟩ ?_
  obtain ⟨h7,H⟩:=iC H
  refine Wj (Xw:=[.d (Xj t0 a0)]) (dst:=some 24) (k':=(K44 1110 2)) [2,4,24] [] hP Qmt (Qqx (tg:=t0) a0 h7) (by kernel_rfl) (Qz _) (.cons (Qn _) .nil) (st':=⟨93,(Wi.p0 a2++[(24,.own 1 2 0 a0.length)]),[.box 47 (Yk a1),Xp a0]⟩) (by kernel_rfl) ?_
  refine Qi hT 11 (K44 111100 1) ⟨93,(Wi.p0 a2++[(6,.own 1 2 0 a0.length),(25,.b (a1.Kind == 2))]),[.box 47 (Yk a1),Xp a0]⟩ ?_
  by_cases c8:a1.Kind=2
  ·replace H:=iT c8 H
   rw [eqT c8]
   refine Qi hT 7 (K44 111100100 4) ⟨93,[(29,.own 1 2 0 a0.length),(31,.d (Qfd a1.Over)),(32,.d (Xf true a2))],[.box 47 (Yk a1),Xp a0]⟩ ?_
   obtain ⟨v4,h9,H⟩:=ibC H
   refine Wj (Xw:=[.own 1 2 0 a0.length,.d (Qfd a1.Over),.d (Xf true a2)]) (dst:=some 33) (k':=(K44 111100100 5)) [33] [1] hP Wd7 (Qjw.Wl a0 a1.Over a2 h9) (by kernel_rfl) (Qd3 rfl rfl) (.cons (.same (.own 0 2 0 a0.length)) (.cons (Qn _) (.cons (Qn _) .nil))) (st':=⟨93,[(33,.own 2 2 0 v4.length)],[.box 47 (Yk a1),.gone,Xp v4]⟩) (by kernel_rfl) ?_
   refine Qi hT 3 (K44 11110010 1) ⟨93,[(6,.own 2 2 0 v4.length),(7,.b true)],[.box 47 (Yk a1),.gone,Xp v4]⟩ ?_
   obtain rfl:=Zb H
   exact Yr hf hX h0 (.Qq [.own 2 2 0 v4.length,.b true]) [2] (ac (Qbd Qa.nl) an) (.Qq (.cons (.own _ _ _ _) (.cons (.d (.v _)) .nil)))
  replace H:=iF c8 H
  rw [eqF c8]
  refine Qi hT 4 (K44 111100110 1) ⟨93,(Wi.p0 a2++[(6,.own 1 2 0 a0.length),(35,.d (Qaq a1))]),[.box 47 (Yk a1),Xp a0]⟩ ?_
  obtain ⟨v5,h10,H⟩:=ibC H
  refine Wj (Xw:=[.d (Qaq a1)]) (dst:=some 36) (k':=(K44 111100110 2)) [2,4,6,36] [] hP Wd8 (Qfa.Wl a1 h10) (by kernel_rfl) (Qz _) (.cons (Qn _) .nil) (st':=⟨93,(Wi.p0 a2++[(6,.own 1 2 0 a0.length),(36,.b v5)]),[.box 47 (Yk a1),Xp a0]⟩) (by kernel_rfl) ?_
  refine Qi hT 2 (K44 11110011 1) ⟨93,(Wi.p0 a2++[(6,.own 1 2 0 a0.length),(34,.b v5)]),[.box 47 (Yk a1),Xp a0]⟩ ?_
  by_cases c11:v5=true
  ·replace H:=iT c11 H
   rw [c11]
   refine Qi hT 7 (K44 111100111000 3) ⟨93,[(4,.ptr 0 0 0 0),(6,.own 1 2 0 a0.length),(37,.d (Xf true a2)),(39,.d (Xj true a1.Pairs))],[.box 47 (Yk a1),Xp a0]⟩ ?_
   obtain ⟨h12,H⟩:=iC H
   refine Qa7 hT [4,6,37,40] (i:=0) (n:=(a1.Pairs.length:Int)) h12.1 h12.2 (k':=(K44 111100111000 4)) (st':=⟨93,[(4,.ptr 0 0 0 0),(6,.own 1 2 0 a0.length),(37,.d (Xf true a2)),(40,.d (Qec true a1.Pairs 0 0))],[.box 47 (Yk a1),Xp a0]⟩) (by kernel_rfl) ?_
   refine Qi hT 2 (K44 111100111000 6) ⟨93,[(4,.ptr 0 0 0 0),(6,.own 1 2 0 a0.length),(37,.d (Xf true a2)),(42,.i ((a1.Pairs.getD 0 Qa.z).Key))],[.box 47 (Yk a1),Xp a0]⟩ ?_
   obtain ⟨v6,h13,H⟩:=ibC H
   refine Wj (Xw:=[.d (Xf true a2),.i ((a1.Pairs.getD 0 Qa.z).Key)]) (dst:=some 43) (k':=(K44 111100111000 7)) [4,6,43] [] hP Qmx (Qfm.Wl (t0:=true) a2 ((a1.Pairs.getD 0 Qa.z).Key) h13) (by kernel_rfl) (Qz _) (.cons (Qn _) (.cons (Qn _) .nil)) (st':=⟨93,[(4,.ptr 0 0 0 0),(6,.own 1 2 0 a0.length),(43,.b v6)],[.box 47 (Yk a1),Xp a0]⟩) (by kernel_rfl) ?_
   refine Qi hT 2 (K44 11110011100 1) ⟨93,[(4,.ptr 0 0 0 0),(6,.own 1 2 0 a0.length),(44,.b (!v6))],[.box 47 (Yk a1),Xp a0]⟩ ?_
   by_cases c14:v6=true
   ·replace H:=iT c14 H
    rw [c14]
    refine Qi hT 2 (K44 1111001110 1) ⟨93,[(4,.ptr 0 0 0 0),(6,.own 1 2 0 a0.length)],[.box 47 (Yk a1),Xp a0]⟩ ?_
    refine Qi hT 4 (K44 111100111010 2) ⟨93,[(46,.own 1 2 0 a0.length),(47,.d (Qaq a1))],[.box 47 (Yk a1),Xp a0]⟩ ?_
    obtain ⟨v7,h15,H⟩:=ibC H
    refine Wj (Xw:=[.own 1 2 0 a0.length,.d (Qaq a1)]) (dst:=some 48) (k':=(K44 111100111010 3)) [48] [1] hP Wd9 (Jp.Wl a0 a1 h15) (by kernel_rfl) (Qd3 rfl rfl) (.cons (.same (.own 0 2 0 a0.length)) (.cons (Qn _) .nil)) (st':=⟨93,[(48,.Qq [.own 2 2 0 v7.1.length,.b v7.2])],[.box 47 (Yk a1),.gone,Xp v7.1]⟩) (by kernel_rfl) ?_
    refine Qi hT 5 (K44 11110011101 1) ⟨93,[(6,.own 2 2 0 v7.1.length),(7,.b v7.2)],[.box 47 (Yk a1),.gone,Xp v7.1]⟩ ?_
    obtain rfl:=Zb H
    exact Yr hf hX h0 (.Qq [.own 2 2 0 v7.1.length,.b v7.2]) [2] (ac (Qbd Qa.nl) an) (.Qq (.cons (.own _ _ _ _) (.cons (.d (.v _)) .nil)))
   replace H:=iF c14 H
   rw [boF c14]
   refine Qi hT 7 (K44 1111001110010 1) ⟨93,[(6,.own 1 2 0 a0.length),(7,.b true)],[.box 47 (Yk a1),Xp a0]⟩ ?_
   obtain rfl:=Zb H
   exact Yr hf hX h0 (.Qq [.own 1 2 0 a0.length,.b true]) [1] (ac (Qbd Qa.nl) an) (.Qq (.cons (.own _ _ _ _) (.cons (.d (.v _)) .nil)))
  replace H:=iF c11 H
  rw [boF c11]
  refine Qi hT 3 (K44 1111 1) ⟨93,(Wi.p0 a2++[(6,.own 1 2 0 a0.length)]),[.box 47 (Yk a1),Xp a0]⟩ ?_
  refine Qi hT 10 (K44 11111010 0) ⟨93,(Wi.p0 a2++[(6,.own 1 2 0 a0.length),(52,.d (Xj true a1.Pairs)),(53,.i (a1.Pairs.length:Int)),(54,.i 0)]),[.box 47 (Yk a1),Xp a0]⟩ ?_
  have L:∀ n,(∀ (Jg:Int) (Xi:List Qa),iter (Wi.step a1 a2) n (.l1 Jg Xi)=some r->AK X 44 ((K44 11111010 0)) (Jb X [Xp r.1] (.Qq [.own 0 2 0 r.1.length,.b r.2])) ⟨93,(Wi.p0 a2++[(6,.own 1 2 0 Xi.length),(52,.d (Xj true a1.Pairs)),(53,.i (a1.Pairs.length:Int)),(54,.i Jg)]),[.box 47 (Yk a1),Xp Xi]⟩):=by
   intro n
   induction n with
   | zero=>exact fun _ _ H=>Qbx H
   | succ n ih=>
    ·intro Jg Xi H
     refine Qi hT 5 (K44 1111101001 0) ⟨93,(Wi.p0 a2++[(6,.own 1 2 0 Xi.length),(52,.d (Xj true a1.Pairs)),(53,.i (a1.Pairs.length:Int)),(54,.i Jg),(55,.b (decide (Jg < (a1.Pairs.length:Int))))]),[.box 47 (Yk a1),Xp Xi]⟩ ?_
     by_cases c16:Jg < (a1.Pairs.length:Int)
     ·replace H:=sT c16 H
      rw [decide_eq_true c16]
      refine Qi hT 2 (K44 1111101001 1) ⟨93,(Wi.p0 a2++[(6,.own 1 2 0 Xi.length),(52,.d (Xj true a1.Pairs)),(53,.i (a1.Pairs.length:Int)),(54,.i Jg)]),[.box 47 (Yk a1),Xp Xi]⟩ ?_
      refine Qi hT 5 (K44 11111010011000 1) ⟨93,(Wi.p0 a2++[(6,.own 1 2 0 Xi.length),(52,.d (Xj true a1.Pairs)),(53,.i (a1.Pairs.length:Int)),(54,.i Jg),(56,.i Jg)]),[.box 47 (Yk a1),Xp Xi]⟩ ?_
      obtain ⟨h17,H⟩:=sC H
      refine Qa7 hT [2,4,6,52,53,54,56,57] (i:=Jg) (n:=(a1.Pairs.length:Int)) h17.1 h17.2 (k':=(K44 11111010011000 2)) (st':=⟨93,(Wi.p0 a2++[(6,.own 1 2 0 Xi.length),(52,.d (Xj true a1.Pairs)),(53,.i (a1.Pairs.length:Int)),(54,.i Jg),(56,.i Jg),(57,.d (Qec true a1.Pairs Jg.toNat 0))]),[.box 47 (Yk a1),Xp Xi]⟩) (by kernel_rfl) ?_
      refine Qi hT 11 (K44 1111101001100100 3) ⟨93,(Wi.p0 a2++[(6,.own 1 2 0 Xi.length),(8,.i Jg),(9,.ptr 2 0 0 0),(52,.d (Xj true a1.Pairs)),(53,.i (a1.Pairs.length:Int)),(54,.i Jg),(66,.d (Xf true a2)),(68,.i ((Wi.q1 a1 Jg).Key))]),[.box 47 (Yk a1),Xp Xi,.box 56 (Qcc (Wi.q1 a1 Jg))]⟩ ?_
      obtain ⟨v8,h18,H⟩:=sbC H
      have Jj2:∀ (Qlw:List Qa),stk (Wi.j2 Jg Qlw) (iter (Wi.step a1 a2) n)=some r->AK X 44 ((K44 11111010011 1)) (Jb X [Xp r.1] (.Qq [.own 0 2 0 r.1.length,.b r.2])) ⟨93,(Wi.p0 a2++[(6,.own 1 2 0 Qlw.length),(52,.d (Xj true a1.Pairs)),(53,.i (a1.Pairs.length:Int)),(54,.i Jg)]),[.box 47 (Yk a1),Xp Qlw]⟩:=by
       intro Qlw H
       refine Qi hT 5 (K44 11111010 0) ⟨93,(Wi.p0 a2++[(6,.own 1 2 0 Qlw.length),(52,.d (Xj true a1.Pairs)),(53,.i (a1.Pairs.length:Int)),(54,.i (IntKind.wrap .i64 (Jg+1)))]),[.box 47 (Yk a1),Xp Qlw]⟩ ?_
       exact ih (IntKind.wrap .i64 (Jg+1)) Qlw H
      refine Wj (Xw:=[.d (Xf true a2),.i ((Wi.q1 a1 Jg).Key)]) (dst:=some 69) (k':=(K44 1111101001100100 4)) [2,4,6,8,9,52,53,54,69] [] hP Qmx (Qfm.Wl (t0:=true) a2 ((Wi.q1 a1 Jg).Key) h18) (by kernel_rfl) (Qz _) (.cons (Qn _) (.cons (Qn _) .nil)) (st':=⟨93,(Wi.p0 a2++[(6,.own 1 2 0 Xi.length),(8,.i Jg),(9,.ptr 2 0 0 0),(52,.d (Xj true a1.Pairs)),(53,.i (a1.Pairs.length:Int)),(54,.i Jg),(69,.b v8)]),[.box 47 (Yk a1),Xp Xi,.box 56 (Qcc (Wi.q1 a1 Jg))]⟩) (by kernel_rfl) ?_
      refine Qi hT 3 (K44 111110100110010 1) ⟨93,(Wi.p0 a2++[(6,.own 1 2 0 Xi.length),(8,.i Jg),(9,.ptr 2 0 0 0),(52,.d (Xj true a1.Pairs)),(53,.i (a1.Pairs.length:Int)),(54,.i Jg),(65,.b (!v8))]),[.box 47 (Yk a1),Xp Xi,.box 56 (Qcc (Wi.q1 a1 Jg))]⟩ ?_
      by_cases c19:v8=true
      ·replace H:=sT c19 H
       rw [c19]
       refine Qi hT 8 (K44 11111010011001011 1) ⟨93,(Wi.p0 a2++[(6,.own 1 2 0 Xi.length),(8,.i Jg),(9,.ptr 2 0 0 0),(52,.d (Xj true a1.Pairs)),(53,.i (a1.Pairs.length:Int)),(54,.i Jg),(71,.b (a1.Kind == 1))]),[.box 47 (Yk a1),Xp Xi,.box 56 (Qcc (Wi.q1 a1 Jg))]⟩ ?_
       by_cases c20:a1.Kind=1
       ·replace H:=sT c20 H
        rw [eqT c20]
        refine Qi hT 7 (K44 1111101001100101110 5) ⟨93,(Wi.p0 a2++[(52,.d (Xj true a1.Pairs)),(53,.i (a1.Pairs.length:Int)),(54,.i Jg),(75,.own 1 2 0 Xi.length),(77,.i ((Wi.q1 a1 Jg).Key)),(79,.i ((Wi.q1 a1 Jg).Val))]),[.box 47 (Yk a1),Xp Xi,.box 56 (Qcc (Wi.q1 a1 Jg))]⟩ ?_
        obtain ⟨v9,h21,H⟩:=sbC H
        refine Wj (Xw:=[.own 1 2 0 Xi.length,.i ((Wi.q1 a1 Jg).Key),.i ((Wi.q1 a1 Jg).Val)]) (dst:=some 80) (k':=(K44 1111101001100101110 6)) [2,4,52,53,54,80] [1] hP Qmy (Qel.Wl Xi ((Wi.q1 a1 Jg).Key) ((Wi.q1 a1 Jg).Val) h21) (by kernel_rfl) (Qd3 rfl rfl) (.cons (.same (.own 0 2 0 Xi.length)) (.cons (Qn _) (.cons (Qn _) .nil))) (st':=⟨93,(Wi.p0 a2++[(52,.d (Xj true a1.Pairs)),(53,.i (a1.Pairs.length:Int)),(54,.i Jg),(80,.own 3 2 0 v9.length)]),[.box 47 (Yk a1),.gone,.box 56 (Qcc (Wi.q1 a1 Jg)),Xp v9]⟩) (by kernel_rfl) ?_
        refine Yi hT 4 (K44 11111010011 1) [0,3] ⟨93,(Wi.p0 a2++[(6,.own 1 2 0 v9.length),(52,.d (Xj true a1.Pairs)),(53,.i (a1.Pairs.length:Int)),(54,.i Jg)]),[.box 47 (Yk a1),Xp v9]⟩ h0 ?_
        exact Jj2 v9 H
       replace H:=sF c20 H
       rw [eqF c20]
       refine Qi hT 7 (K44 1111101001100101111 1) ⟨93,(Wi.p0 a2++[(6,.own 1 2 0 Xi.length),(9,.ptr 2 0 0 0),(52,.d (Xj true a1.Pairs)),(53,.i (a1.Pairs.length:Int)),(54,.i Jg),(81,.b (Jg == 0))]),[.box 47 (Yk a1),Xp Xi,.box 56 (Qcc (Wi.q1 a1 Jg))]⟩ ?_
       by_cases c22:Jg=0
       ·replace H:=sT c22 H
        rw [eqT c22]
        refine Qi hT 8 (K44 111110100110010111110 6) ⟨93,(Wi.p0 a2++[(52,.d (Xj true a1.Pairs)),(53,.i (a1.Pairs.length:Int)),(54,.i Jg),(84,.own 1 2 0 Xi.length),(86,.i ((Wi.q1 a1 Jg).Key)),(89,.i (IntKind.wrap .i64 (0 - ((Wi.q1 a1 Jg).Val))))]),[.box 47 (Yk a1),Xp Xi,.box 56 (Qcc (Wi.q1 a1 Jg))]⟩ ?_
        obtain ⟨v10,h23,H⟩:=sbC H
        refine Wj (Xw:=[.own 1 2 0 Xi.length,.i ((Wi.q1 a1 Jg).Key),.i (IntKind.wrap .i64 (0 - ((Wi.q1 a1 Jg).Val)))]) (dst:=some 90) (k':=(K44 111110100110010111110 7)) [2,4,52,53,54,90] [1] hP Qu6 (Qf7.Wl Xi ((Wi.q1 a1 Jg).Key) (IntKind.wrap .i64 (0 - ((Wi.q1 a1 Jg).Val))) h23) (by kernel_rfl) (Qd3 rfl rfl) (.cons (.same (.own 0 2 0 Xi.length)) (.cons (Qn _) (.cons (Qn _) .nil))) (st':=⟨93,(Wi.p0 a2++[(52,.d (Xj true a1.Pairs)),(53,.i (a1.Pairs.length:Int)),(54,.i Jg),(90,.own 3 2 0 v10.length)]),[.box 47 (Yk a1),.gone,.box 56 (Qcc (Wi.q1 a1 Jg)),Xp v10]⟩) (by kernel_rfl) ?_
        refine Yi hT 4 (K44 11111010011 1) [0,3] ⟨93,(Wi.p0 a2++[(6,.own 1 2 0 v10.length),(52,.d (Xj true a1.Pairs)),(53,.i (a1.Pairs.length:Int)),(54,.i Jg)]),[.box 47 (Yk a1),Xp v10]⟩ h0 ?_
        exact Jj2 v10 H
       replace H:=sF c22 H
       rw [eqF c22]
       refine Qi hT 7 (K44 111110100110010111111 5) ⟨93,(Wi.p0 a2++[(52,.d (Xj true a1.Pairs)),(53,.i (a1.Pairs.length:Int)),(54,.i Jg),(59,.own 1 2 0 Xi.length),(61,.i ((Wi.q1 a1 Jg).Key)),(63,.i ((Wi.q1 a1 Jg).Val))]),[.box 47 (Yk a1),Xp Xi,.box 56 (Qcc (Wi.q1 a1 Jg))]⟩ ?_
       obtain ⟨v11,h24,H⟩:=sbC H
       refine Wj (Xw:=[.own 1 2 0 Xi.length,.i ((Wi.q1 a1 Jg).Key),.i ((Wi.q1 a1 Jg).Val)]) (dst:=some 64) (k':=(K44 111110100110010111111 6)) [2,4,52,53,54,64] [1] hP Qu6 (Qf7.Wl Xi ((Wi.q1 a1 Jg).Key) ((Wi.q1 a1 Jg).Val) h24) (by kernel_rfl) (Qd3 rfl rfl) (.cons (.same (.own 0 2 0 Xi.length)) (.cons (Qn _) (.cons (Qn _) .nil))) (st':=⟨93,(Wi.p0 a2++[(52,.d (Xj true a1.Pairs)),(53,.i (a1.Pairs.length:Int)),(54,.i Jg),(64,.own 3 2 0 v11.length)]),[.box 47 (Yk a1),.gone,.box 56 (Qcc (Wi.q1 a1 Jg)),Xp v11]⟩) (by kernel_rfl) ?_
       refine Yi hT 4 (K44 11111010011 1) [0,3] ⟨93,(Wi.p0 a2++[(6,.own 1 2 0 v11.length),(52,.d (Xj true a1.Pairs)),(53,.i (a1.Pairs.length:Int)),(54,.i Jg)]),[.box 47 (Yk a1),Xp v11]⟩ h0 ?_
       exact Jj2 v11 H
      replace H:=sF c19 H
      rw [boF c19]
      refine Yi hT 4 (K44 11111010011 1) [0,1] ⟨93,(Wi.p0 a2++[(6,.own 1 2 0 Xi.length),(52,.d (Xj true a1.Pairs)),(53,.i (a1.Pairs.length:Int)),(54,.i Jg)]),[.box 47 (Yk a1),Xp Xi]⟩ h0 ?_
      exact Jj2 Xi H
     replace H:=sF c16 H
     rw [decide_eq_false c16]
     refine Qi hT 8 (K44 111111 1) ⟨93,[(6,.own 1 2 0 Xi.length),(7,.b true)],[.box 47 (Yk a1),Xp Xi]⟩ ?_
     obtain rfl:=Zb H
     exact Yr hf hX h0 (.Qq [.own 1 2 0 Xi.length,.b true]) [1] (ac (Qbd Qa.nl) an) (.Qq (.cons (.own _ _ _ _) (.cons (.d (.v _)) .nil)))
  obtain ⟨n,H⟩:=Qcn H
  exact (L n) 0 a0 H
 refine Wj (Xw:=[.d (Xj t0 a0)]) (dst:=some 11) (k':=(K44 1100 2)) [0,2,4,11] [] hP Qhb (Xc.Wl (t0:=t0) a0 h1) (by kernel_rfl) (Qz _) (.cons (Qn _) .nil) (st':=⟨93,[(0,.d (Xj t0 a0)),(2,.d (Xf true a2)),(4,.ptr 0 0 0 0),(11,.b v1)],[.box 47 (Yk a1)]⟩) (by kernel_rfl) ?_
 refine Qi hT 2 (K44 1100 4) ⟨93,[(0,.d (Xj t0 a0)),(2,.d (Xf true a2)),(4,.ptr 0 0 0 0),(13,.b (!v1))],[.box 47 (Yk a1)]⟩ ?_
 by_cases c2:v1=true
 ·replace H:=iT c2 H
  rw [c2]
  refine Qi hT 1 (K44 1100 5) ⟨93,[(0,.d (Xj t0 a0)),(2,.d (Xf true a2)),(4,.ptr 0 0 0 0),(13,.b false),(14,.d (Qaq a1))],[.box 47 (Yk a1)]⟩ ?_
  obtain ⟨v2,h3,H⟩:=ibC H
  refine Wj (Xw:=[.d (Qaq a1)]) (dst:=some 15) (k':=(K44 1100 6)) [0,2,4,13,15] [] hP Qha (Qbn.Wl a1 h3) (by kernel_rfl) (Qz _) (.cons (Qn _) .nil) (st':=⟨93,[(0,.d (Xj t0 a0)),(2,.d (Xf true a2)),(4,.ptr 0 0 0 0),(13,.b false),(15,.b v2)],[.box 47 (Yk a1)]⟩) (by kernel_rfl) ?_
  refine Qi hT 3 (K44 1100 9) ⟨93,[(0,.d (Xj t0 a0)),(2,.d (Xf true a2)),(4,.ptr 0 0 0 0),(18,.b (!v2))],[.box 47 (Yk a1)]⟩ ?_
  by_cases c4:v2=true
  ·replace H:=iT c4 H
   rw [c4]
   refine Qi hT 1 (K44 1100 10) ⟨93,[(0,.d (Xj t0 a0)),(2,.d (Xf true a2)),(4,.ptr 0 0 0 0),(18,.b false),(19,.d (Xf true a2))],[.box 47 (Yk a1)]⟩ ?_
   obtain ⟨v3,h5,H⟩:=ibC H
   refine Wj (Xw:=[.d (Xf true a2)]) (dst:=some 20) (k':=(K44 1100 11)) [0,2,4,18,20] [] hP Qjp (Zg.Wl (t0:=true) a2 h5) (by kernel_rfl) (Qz _) (.cons (Qn _) .nil) (st':=⟨93,[(0,.d (Xj t0 a0)),(2,.d (Xf true a2)),(4,.ptr 0 0 0 0),(18,.b false),(20,.b v3)],[.box 47 (Yk a1)]⟩) (by kernel_rfl) ?_
   refine Qi hT 3 (K44 110 1) ⟨93,[(0,.d (Xj t0 a0)),(2,.d (Xf true a2)),(4,.ptr 0 0 0 0),(22,.b (!v3))],[.box 47 (Yk a1)]⟩ ?_
   exact Zl (!v3) H
  replace H:=iF c4 H
  rw [boF c4]
  refine Qi hT 5 (K44 110 1) ⟨93,[(0,.d (Xj t0 a0)),(2,.d (Xf true a2)),(4,.ptr 0 0 0 0),(22,.b true)],[.box 47 (Yk a1)]⟩ ?_
  exact Zl true H
 replace H:=iF c2 H
 rw [boF c2]
 refine Qi hT 10 (K44 110 1) ⟨93,[(0,.d (Xj t0 a0)),(2,.d (Xf true a2)),(4,.ptr 0 0 0 0),(22,.b true)],[.box 47 (Yk a1)]⟩ ?_
 exact Zl true H
abbrev Yu.p0 (a1:List Qb) (a2:Int):List (Nat × AV):=[(1,.d (Xf true a1)),(2,.i a2)]
theorem Yu.Wl {t0:Bool} (a0:List Qc) (a1:List Qb) (a2:Int) {r:List Qa} (H:Yu a0 a1 a2=some r):Yn Tryz.prog 16 [] [.d (Zy t0 a0),.d (Xf true a1),.i a2] [Xp r] (.own 0 2 0 r.length):=by
 refine Xt Tryz.func16 rfl (nt:=41) rfl (lb rfl) fun X hP h0 hX=>?_
 have hT:Xl X.P T:=hP▸tok
 have hf:X.P.funcs[16]? = some Tryz.f16:=hP▸Tryz.func16
 refine Qi hT 8 (K16 1100 1) ⟨41,[(0,.d (Zy t0 a0)),(1,.d (Xf true a1)),(2,.i a2),(10,.d (Xf true a1))],[]⟩ ?_
 obtain ⟨v1,h1,H⟩:=ibC H
 have Zl:∀ (Qra:Bool),(Yu.j1 a0 a1 a2 Qra)=some r->AK X 16 ((K16 110 1)) (Jb X [Xp r] (.own 0 2 0 r.length)) ⟨41,[(0,.d (Zy t0 a0)),(1,.d (Xf true a1)),(2,.i a2),(16,.b Qra)],[]⟩:=by
  intro Qra H
  by_cases c4:Qra=true
  ·replace H:=iT c4 H
   rw [c4]
   refine Qi hT 5 (K16 11010 1) ⟨41,[(6,.ns)],[]⟩ ?_
   refine Qe8 [6] 6 2 56 (vec Qa.e Qa.z []) (st':=⟨41,[(6,.own 0 2 0 0)],[Xp ([]:List Qa)]⟩) (by kernel_rfl) (by kernel_rfl) ?_
   obtain rfl:=Zb H
   exact Yr hf hX h0 (.own 0 2 0 0) [0] (ac (Qbd Qa.nl) an) (.own _ _ _ _)
  replace H:=iF c4 H
  rw [boF c4]
  refine Qi hT 2 (K16 11 1) ⟨41,[(0,.d (Zy t0 a0)),(1,.d (Xf true a1)),(2,.i a2)],[]⟩ ?_
  refine Qi hT 13 (K16 1111010 0) ⟨41,(Yu.p0 a1 a2++[(7,.ns),(17,.d (Zy t0 a0)),(18,.i (a0.length:Int)),(19,.i 0)]),[]⟩ ?_
  refine Qe8 [1,2,7,17,18,19] 7 2 56 (vec Qa.e Qa.z []) (st':=⟨41,(Yu.p0 a1 a2++[(7,.own 0 2 0 0),(17,.d (Zy t0 a0)),(18,.i (a0.length:Int)),(19,.i 0)]),[Xp ([]:List Qa)]⟩) (by kernel_rfl) (by kernel_rfl) ?_
  have L:∀ n,(∀ (Qbi:Int) (Qh:List Qa),iter (Yu.step a0 a1 a2) n (.l1 Qbi Qh)=some r->AK X 16 ((K16 1111010 0)) (Jb X [Xp r] (.own 0 2 0 r.length)) ⟨41,(Yu.p0 a1 a2++[(7,.own 0 2 0 Qh.length),(17,.d (Zy t0 a0)),(18,.i (a0.length:Int)),(19,.i Qbi)]),[Xp Qh]⟩):=by
   intro n
   induction n with
   | zero=>exact fun _ _ H=>Qbx H
   | succ n ih=>
    ·intro Qbi Qh H
     refine Qi hT 5 (K16 111101001 0) ⟨41,(Yu.p0 a1 a2++[(7,.own 0 2 0 Qh.length),(17,.d (Zy t0 a0)),(18,.i (a0.length:Int)),(19,.i Qbi),(20,.b (decide (Qbi < (a0.length:Int))))]),[Xp Qh]⟩ ?_
     by_cases c5:Qbi < (a0.length:Int)
     ·replace H:=sT c5 H
      rw [decide_eq_true c5]
      refine Qi hT 2 (K16 111101001 1) ⟨41,(Yu.p0 a1 a2++[(7,.own 0 2 0 Qh.length),(17,.d (Zy t0 a0)),(18,.i (a0.length:Int)),(19,.i Qbi)]),[Xp Qh]⟩ ?_
      refine Qi hT 4 (K16 1111010011000 0) ⟨41,(Yu.p0 a1 a2++[(7,.own 0 2 0 Qh.length),(17,.d (Zy t0 a0)),(18,.i (a0.length:Int)),(19,.i Qbi)]),[Xp Qh]⟩ ?_
      obtain ⟨h6,H⟩:=sC H
      have Jj2:∀ (Qrp:Bool),stk (Yu.j2 a0 a1 Qbi Qh Qrp) (iter (Yu.step a0 a1 a2) n)=some r->AK X 16 ((K16 1111010011001 1)) (Jb X [Xp r] (.own 0 2 0 r.length)) ⟨41,(Yu.p0 a1 a2++[(7,.own 0 2 0 Qh.length),(9,.ptr 1 0 0 0),(17,.d (Zy t0 a0)),(18,.i (a0.length:Int)),(19,.i Qbi),(30,.b Qrp)]),[Xp Qh,.box 50 (Qbl (a0.getD Qbi.toNat Qc.z))]⟩:=by
       intro Qrp H
       have Jj3:∀ (Qlx:List Qa),stk (Yu.j3 Qbi Qlx) (iter (Yu.step a0 a1 a2) n)=some r->AK X 16 ((K16 1111010011 1)) (Jb X [Xp r] (.own 0 2 0 r.length)) ⟨41,(Yu.p0 a1 a2++[(7,.own 0 2 0 Qlx.length),(17,.d (Zy t0 a0)),(18,.i (a0.length:Int)),(19,.i Qbi)]),[Xp Qlx]⟩:=by
        intro Qlx H
        refine Qi hT 5 (K16 1111010 0) ⟨41,(Yu.p0 a1 a2++[(7,.own 0 2 0 Qlx.length),(17,.d (Zy t0 a0)),(18,.i (a0.length:Int)),(19,.i (IntKind.wrap .i64 (Qbi+1)))]),[Xp Qlx]⟩ ?_
        exact ih (IntKind.wrap .i64 (Qbi+1)) Qlx H
       by_cases c8:Qrp=true
       ·replace H:=sT c8 H
        rw [c8]
        refine Qi hT 6 (K16 111101001100110 4) ⟨41,(Yu.p0 a1 a2++[(17,.d (Zy t0 a0)),(18,.i (a0.length:Int)),(19,.i Qbi),(32,.own 0 2 0 Qh.length),(34,.d (Qaq ((a0.getD Qbi.toNat Qc.z).M))),(35,.d (Xf true a1))]),[Xp Qh,.box 50 (Qbl (a0.getD Qbi.toNat Qc.z))]⟩ ?_
        obtain ⟨v3,h9,H⟩:=sbC H
        refine Wj (Xw:=[.own 0 2 0 Qh.length,.d (Qaq ((a0.getD Qbi.toNat Qc.z).M)),.d (Xf true a1)]) (dst:=some 36) (k':=(K16 111101001100110 5)) [1,2,17,18,19,36] [] hP Qu4 (Wi.Wl (t0:=false) Qh ((a0.getD Qbi.toNat Qc.z).M) a1 h9) (by kernel_rfl) (Qz _) (.cons (.Qd4 (ty:=56) (by kernel_rfl) rfl) (.cons (Qn _) (.cons (Qn _) .nil))) (st':=⟨41,(Yu.p0 a1 a2++[(17,.d (Zy t0 a0)),(18,.i (a0.length:Int)),(19,.i Qbi),(36,.Qq [.own 2 2 0 v3.1.length,.b v3.2])]),[Xp Qh,.box 50 (Qbl (a0.getD Qbi.toNat Qc.z)),Xp v3.1]⟩) (by kernel_rfl) ?_
        refine Yi hT 6 (K16 1111010011 1) [2] ⟨41,(Yu.p0 a1 a2++[(7,.own 0 2 0 v3.1.length),(17,.d (Zy t0 a0)),(18,.i (a0.length:Int)),(19,.i Qbi)]),[Xp v3.1]⟩ h0 ?_
        exact Jj3 v3.1 H
       replace H:=sF c8 H
       rw [boF c8]
       refine Yi hT 3 (K16 1111010011 1) [0] ⟨41,(Yu.p0 a1 a2++[(7,.own 0 2 0 Qh.length),(17,.d (Zy t0 a0)),(18,.i (a0.length:Int)),(19,.i Qbi)]),[Xp Qh]⟩ h0 ?_
       exact Jj3 Qh H
      refine Qa7 hT [1,2,7,17,18,19,21] (i:=Qbi) (n:=(a0.length:Int)) h6.1 h6.2 (k':=(K16 1111010011000 1)) (st':=⟨41,(Yu.p0 a1 a2++[(7,.own 0 2 0 Qh.length),(17,.d (Zy t0 a0)),(18,.i (a0.length:Int)),(19,.i Qbi),(21,.d (Qg1 t0 a0 Qbi.toNat 0))]),[Xp Qh]⟩) (by kernel_rfl) ?_
      refine Qi hT 9 (K16 11110100110010 3) ⟨41,(Yu.p0 a1 a2++[(7,.own 0 2 0 Qh.length),(9,.ptr 1 0 0 0),(17,.d (Zy t0 a0)),(18,.i (a0.length:Int)),(19,.i Qbi),(25,.b ((a0.getD Qbi.toNat Qc.z).Jc))]),[Xp Qh,.box 50 (Qbl (a0.getD Qbi.toNat Qc.z))]⟩ ?_
      by_cases c7:((a0.getD Qbi.toNat Qc.z).Jc)=true
      ·replace H:=sT c7 H
       rw [c7]
       refine Qi hT 6 (K16 1111010011001 1) ⟨41,(Yu.p0 a1 a2++[(7,.own 0 2 0 Qh.length),(9,.ptr 1 0 0 0),(17,.d (Zy t0 a0)),(18,.i (a0.length:Int)),(19,.i Qbi),(30,.b (decide (((a0.getD Qbi.toNat Qc.z).Time)<=a2)))]),[Xp Qh,.box 50 (Qbl (a0.getD Qbi.toNat Qc.z))]⟩ ?_
       exact Jj2 (decide (((a0.getD Qbi.toNat Qc.z).Time)<=a2)) H
      replace H:=sF c7 H
      rw [boF c7]
      refine Qi hT 6 (K16 1111010011001 1) ⟨41,(Yu.p0 a1 a2++[(7,.own 0 2 0 Qh.length),(9,.ptr 1 0 0 0),(17,.d (Zy t0 a0)),(18,.i (a0.length:Int)),(19,.i Qbi),(30,.b false)]),[Xp Qh,.box 50 (Qbl (a0.getD Qbi.toNat Qc.z))]⟩ ?_
      exact Jj2 false H
     replace H:=sF c5 H
     rw [decide_eq_false c5]
     refine Qi hT 7 (K16 11111 1) ⟨41,[(6,.own 0 2 0 Qh.length)],[Xp Qh]⟩ ?_
     obtain rfl:=Zb H
     exact Yr hf hX h0 (.own 0 2 0 Qh.length) [0] (ac (Qbd Qa.nl) an) (.own _ _ _ _)
  refine Qkp [0] ⟨41,(Yu.p0 a1 a2++[(7,.own 0 2 0 ([]:List Qa).length),(17,.d (Zy t0 a0)),(18,.i (a0.length:Int)),(19,.i 0)]),[Xp ([]:List Qa)]⟩ h0 ?_
  obtain ⟨n,H⟩:=Qcn H
  exact (L n) 0 ([]:List Qa) H
 refine Wj (Xw:=[.d (Xf true a1)]) (dst:=some 11) (k':=(K16 1100 2)) [0,1,2,11] [] hP Qjp (Zg.Wl (t0:=true) a1 h1) (by kernel_rfl) (Qz _) (.cons (Qn _) .nil) (st':=⟨41,[(0,.d (Zy t0 a0)),(1,.d (Xf true a1)),(2,.i a2),(11,.b v1)],[]⟩) (by kernel_rfl) ?_
 refine Qi hT 2 (K16 1100 4) ⟨41,[(0,.d (Zy t0 a0)),(1,.d (Xf true a1)),(2,.i a2),(13,.b (!v1))],[]⟩ ?_
 by_cases c2:v1=true
 ·replace H:=iT c2 H
  rw [c2]
  refine Qi hT 1 (K16 1100 5) ⟨41,[(0,.d (Zy t0 a0)),(1,.d (Xf true a1)),(2,.i a2),(13,.b false),(14,.d (Zy t0 a0))],[]⟩ ?_
  obtain ⟨v2,h3,H⟩:=ibC H
  refine Wj (Xw:=[.d (Zy t0 a0),.d (.fn 42 [])]) (dst:=some 15) (k':=(K16 1100 6)) [0,1,2,13,15] [] hP Qu3 (Qbe.Wl (t0:=t0) (Zk:=42) (Zn:=[]) a0 (fun z0=>Qgg z0) Wdo (fun z0 r h=>Qgg.Wl z0 h) h3) (by kernel_rfl) (Qz _) (.cons (Qn _) (.cons (Qn _) .nil)) (st':=⟨41,[(0,.d (Zy t0 a0)),(1,.d (Xf true a1)),(2,.i a2),(13,.b false),(15,.b v2)],[]⟩) (by kernel_rfl) ?_
  refine Qi hT 2 (K16 110 1) ⟨41,[(0,.d (Zy t0 a0)),(1,.d (Xf true a1)),(2,.i a2),(16,.b v2)],[]⟩ ?_
  exact Zl v2 H
 replace H:=iF c2 H
 rw [boF c2]
 refine Qi hT 4 (K16 110 1) ⟨41,[(0,.d (Zy t0 a0)),(1,.d (Xf true a1)),(2,.i a2),(16,.b true)],[]⟩ ?_
 exact Zl true H
theorem Zx.Wl {t0:Bool} {Zk:FuncId} {Zn:List DV} (a0:List Qu) (p1:Qu->Option Bool) (he1:Sy.Enters Tryz.prog Zk) (hp1:∀ (z0:Qu) r,p1 z0=some r->Yn Tryz.prog Zk [] ([.d (Qaq z0)] ++ List.map AV.d Zn) [] (.b r)) {r:Int} (H:Zx a0 p1=some r):Yn Tryz.prog 85 [] [.d (Qes t0 a0),.d (.fn Zk Zn)] [] (.i r):=by
 refine Xt Tryz.func85 rfl (nt:=19) rfl (lb rfl) fun X hP h0 hX=>?_
 have hT:Xl X.P T:=hP▸tok
 have hf:X.P.funcs[85]? = some Tryz.f85:=hP▸Tryz.func85
 refine Qi hT 13 (K85 11010 0) ⟨19,[(0,.d (Qes t0 a0)),(1,.d (.fn Zk Zn)),(7,.i (a0.length:Int)),(8,.i 0)],[]⟩ ?_
 have L:∀ n,(∀ (Qy:Int),iter (Zx.step a0 p1) n (.l1 Qy)=some r->AK X 85 ((K85 11010 0)) (Jb X [] (.i r)) ⟨19,[(0,.d (Qes t0 a0)),(1,.d (.fn Zk Zn)),(7,.i (a0.length:Int)),(8,.i Qy)],[]⟩):=by
  intro n
  induction n with
  | zero=>exact fun _ H=>Qbx H
  | succ n ih=>
   ·intro Qy H
    refine Qi hT 5 (K85 1101001 0) ⟨19,[(0,.d (Qes t0 a0)),(1,.d (.fn Zk Zn)),(7,.i (a0.length:Int)),(8,.i Qy),(9,.b (decide (Qy < (a0.length:Int))))],[]⟩ ?_
    by_cases c1:Qy < (a0.length:Int)
    ·replace H:=sT c1 H
     rw [decide_eq_true c1]
     refine Qi hT 2 (K85 1101001 1) ⟨19,[(0,.d (Qes t0 a0)),(1,.d (.fn Zk Zn)),(7,.i (a0.length:Int)),(8,.i Qy)],[]⟩ ?_
     refine Qi hT 12 (K85 110100110010 3) ⟨19,[(0,.d (Qes t0 a0)),(1,.d (.fn Zk Zn)),(5,.i Qy),(7,.i (a0.length:Int)),(8,.i Qy),(11,.d (.fn Zk Zn)),(12,.d (Qes t0 a0)),(13,.i Qy)],[]⟩ ?_
     obtain ⟨h2,H⟩:=sC H
     refine Qa7 hT [0,1,5,7,8,11,14] (i:=Qy) (n:=(a0.length:Int)) h2.1 h2.2 (k':=(K85 110100110010 4)) (st':=⟨19,[(0,.d (Qes t0 a0)),(1,.d (.fn Zk Zn)),(5,.i Qy),(7,.i (a0.length:Int)),(8,.i Qy),(11,.d (.fn Zk Zn)),(14,.d (Wjs t0 a0 Qy.toNat 0))],[]⟩) (by kernel_rfl) ?_
     refine Qi hT 1 (K85 110100110010 5) ⟨19,[(0,.d (Qes t0 a0)),(1,.d (.fn Zk Zn)),(5,.i Qy),(7,.i (a0.length:Int)),(8,.i Qy),(11,.d (.fn Zk Zn)),(15,.d (Qaq (a0.getD Qy.toNat Qu.z)))],[]⟩ ?_
     obtain ⟨v1,h3,H⟩:=sbC H
     refine Wj (Xw:=[.d (Qaq (a0.getD Qy.toNat Qu.z))] ++ List.map AV.d Zn) (dst:=some 16) (k':=(K85 110100110010 6)) [0,1,5,7,8,16] [] hP he1 (hp1 (a0.getD Qy.toNat Qu.z) v1 h3) (by kernel_rfl) (Qz _) (.cons (Qn _) (Qfz _)) (st':=⟨19,[(0,.d (Qes t0 a0)),(1,.d (.fn Zk Zn)),(5,.i Qy),(7,.i (a0.length:Int)),(8,.i Qy),(16,.b v1)],[]⟩) (by kernel_rfl) ?_
     refine Qi hT 1 (K85 11010011001 1) ⟨19,[(0,.d (Qes t0 a0)),(1,.d (.fn Zk Zn)),(5,.i Qy),(7,.i (a0.length:Int)),(8,.i Qy),(16,.b v1)],[]⟩ ?_
     by_cases c4:v1=true
     ·replace H:=sT c4 H
      rw [c4]
      refine Qi hT 6 (K85 1101001100110 1) ⟨19,[(4,.i Qy)],[]⟩ ?_
      obtain rfl:=Zb H
      exact Yr hf hX h0 (.i Qy) [] an (.d (.v _))
     replace H:=sF c4 H
     rw [boF c4]
     refine Qi hT 3 (K85 11010011 1) ⟨19,[(0,.d (Qes t0 a0)),(1,.d (.fn Zk Zn)),(7,.i (a0.length:Int)),(8,.i Qy)],[]⟩ ?_
     refine Qi hT 5 (K85 11010 0) ⟨19,[(0,.d (Qes t0 a0)),(1,.d (.fn Zk Zn)),(7,.i (a0.length:Int)),(8,.i (IntKind.wrap .i64 (Qy+1)))],[]⟩ ?_
     exact ih (IntKind.wrap .i64 (Qy+1)) H
    replace H:=sF c1 H
    rw [decide_eq_false c1]
    refine Qi hT 6 (K85 111 1) ⟨19,[(4,.i (-1))],[]⟩ ?_
    obtain rfl:=Zb H
    exact Yr hf hX h0 (.i (-1)) [] an (.d (.v _))
 obtain ⟨n,H⟩:=Qcn H
 exact (L n) 0 H
theorem Qb8.Wl {t0:Bool} {Zk:FuncId} {Zn:List DV} (a0:List Qu) (p1:Qu->Option Bool) (he1:Sy.Enters Tryz.prog Zk) (hp1:∀ (z0:Qu) r,p1 z0=some r->Yn Tryz.prog Zk [] ([.d (Qaq z0)] ++ List.map AV.d Zn) [] (.b r)) {r:Bool} (H:Qb8 a0 p1=some r):Yn Tryz.prog 46 [] [.d (Qes t0 a0),.d (.fn Zk Zn)] [] (.b r):=by
 refine Xt Tryz.func46 rfl (nt:=9) rfl (lb rfl) fun X hP h0 hX=>?_
 have hT:Xl X.P T:=hP▸tok
 have hf:X.P.funcs[46]? = some Tryz.f46:=hP▸Tryz.func46
 refine Qi hT 8 (K46 110 2) ⟨9,[(5,.d (Qes t0 a0)),(6,.d (.fn Zk Zn))],[]⟩ ?_
 obtain ⟨v1,h1,H⟩:=ibC H
 refine Wj (Xw:=[.d (Qes t0 a0),.d (.fn Zk Zn)]) (dst:=some 7) (k':=(K46 110 3)) [7] [] hP Wea (Zx.Wl (t0:=t0) (Zk:=Zk) (Zn:=Zn) a0 p1 he1 hp1 h1) (by kernel_rfl) (Qz _) (.cons (Qn _) (.cons (Qn _) .nil)) (st':=⟨9,[(7,.i v1)],[]⟩) (by kernel_rfl) ?_
 refine Qi hT 3 (K46 11 1) ⟨9,[(4,.b (decide (v1>=0)))],[]⟩ ?_
 obtain rfl:=Zb H
 exact Yr hf hX h0 (.b (decide (v1>=0))) [] an (.d (.v _))
theorem Qgh.Wl (a0:Qu) {r:Bool} (H:Qgh a0=some r):Yn Tryz.prog 47 [] [.d (Qaq a0)] [] (.b r):=by
 refine Xt Tryz.func47 rfl (nt:=6) rfl (lb rfl) fun X hP h0 hX=>?_
 have hT:Xl X.P T:=hP▸tok
 have hf:X.P.funcs[47]? = some Tryz.f47:=hP▸Tryz.func47
 refine Qi hT 8 (K47 110 1) ⟨6,[(3,.d (Qaq a0))],[.box 47 (Yk a0)]⟩ ?_
 obtain ⟨v1,h1,H⟩:=ibC H
 refine Wj (Xw:=[.d (Qaq a0)]) (dst:=some 4) (k':=(K47 110 2)) [4] [] hP Qha (Qbn.Wl a0 h1) (by kernel_rfl) (Qz _) (.cons (Qn _) .nil) (st':=⟨6,[(4,.b v1)],[.box 47 (Yk a0)]⟩) (by kernel_rfl) ?_
 refine Qi hT 3 (K47 11 1) ⟨6,[(2,.b (!v1))],[.box 47 (Yk a0)]⟩ ?_
 obtain rfl:=Zb H
 exact Yr hf hX h0 (.b (!v1)) [] an (.d (.v _))
abbrev Jn.p0 (t0:Bool) (a0:List Qa) (t1:Bool) (a1:List Qu) (a2:List Qb):List (Nat × AV):=[(0,.d (Xj t0 a0)),(1,.d (Qes t1 a1)),(2,.d (Xf true a2))]
theorem Jn.Wl {t0:Bool} {t1:Bool} (a0:List Qa) (a1:List Qu) (a2:List Qb) {r:List Qa} (H:Jn a0 a1 a2=some r):Yn Tryz.prog 17 [] [.d (Xj t0 a0),.d (Qes t1 a1),.d (Xf true a2)] [Xp r] (.own 0 2 0 r.length):=by
 refine Xt Tryz.func17 rfl (nt:=39) rfl (lb rfl) fun X hP h0 hX=>?_
 have hT:Xl X.P T:=hP▸tok
 have hf:X.P.funcs[17]? = some Tryz.f17:=hP▸Tryz.func17
 refine Qi hT 8 (K17 1100 1) ⟨39,(Jn.p0 t0 a0 t1 a1 a2++[(10,.d (Xj t0 a0))]),[]⟩ ?_
 obtain ⟨v1,h1,H⟩:=ibC H
 have Zl:∀ (Qk6:Bool),(Jn.j1 a0 a1 a2 Qk6)=some r->AK X 17 ((K17 110 1)) (Jb X [Xp r] (.own 0 2 0 r.length)) ⟨39,(Jn.p0 t0 a0 t1 a1 a2++[(21,.b Qk6)]),[]⟩:=by
  intro Qk6 H
  by_cases c6:Qk6=true
  ·replace H:=iT c6 H
   rw [c6]
   refine Qi hT 5 (K17 11010 1) ⟨39,[(6,.ns)],[]⟩ ?_
   refine Qe8 [6] 6 2 56 (vec Qa.e Qa.z []) (st':=⟨39,[(6,.own 0 2 0 0)],[Xp ([]:List Qa)]⟩) (by kernel_rfl) (by kernel_rfl) ?_
   obtain rfl:=Zb H
   exact Yr hf hX h0 (.own 0 2 0 0) [0] (ac (Qbd Qa.nl) an) (.own _ _ _ _)
  replace H:=iF c6 H
  rw [boF c6]
  refine Qi hT 2 (K17 11 1) ⟨39,(Jn.p0 t0 a0 t1 a1 a2),[]⟩ ?_
  refine Qi hT 3 (K17 1110 1) ⟨39,[(1,.d (Qes t1 a1)),(2,.d (Xf true a2)),(22,.d (Xj t0 a0))],[]⟩ ?_
  obtain ⟨h7,H⟩:=iC H
  refine Wj (Xw:=[.d (Xj t0 a0)]) (dst:=some 23) (k':=(K17 1110 2)) [1,2,23] [] hP Qmt (Qqx (tg:=t0) a0 h7) (by kernel_rfl) (Qz _) (.cons (Qn _) .nil) (st':=⟨39,[(1,.d (Qes t1 a1)),(2,.d (Xf true a2)),(23,.own 0 2 0 a0.length)],[Xp a0]⟩) (by kernel_rfl) ?_
  refine Qi hT 11 (K17 1111010 0) ⟨39,[(2,.d (Xf true a2)),(7,.own 0 2 0 a0.length),(24,.d (Qes t1 a1)),(25,.i (a1.length:Int)),(26,.i 0)],[Xp a0]⟩ ?_
  have L:∀ n,(∀ (Qdy:Int) (Qh:List Qa),iter (Jn.step a1 a2) n (.l1 Qdy Qh)=some r->AK X 17 ((K17 1111010 0)) (Jb X [Xp r] (.own 0 2 0 r.length)) ⟨39,[(2,.d (Xf true a2)),(7,.own 0 2 0 Qh.length),(24,.d (Qes t1 a1)),(25,.i (a1.length:Int)),(26,.i Qdy)],[Xp Qh]⟩):=by
   intro n
   induction n with
   | zero=>exact fun _ _ H=>Qbx H
   | succ n ih=>
    ·intro Qdy Qh H
     refine Qi hT 5 (K17 111101001 0) ⟨39,[(2,.d (Xf true a2)),(7,.own 0 2 0 Qh.length),(24,.d (Qes t1 a1)),(25,.i (a1.length:Int)),(26,.i Qdy),(27,.b (decide (Qdy < (a1.length:Int))))],[Xp Qh]⟩ ?_
     by_cases c8:Qdy < (a1.length:Int)
     ·replace H:=sT c8 H
      rw [decide_eq_true c8]
      refine Qi hT 2 (K17 111101001 1) ⟨39,[(2,.d (Xf true a2)),(7,.own 0 2 0 Qh.length),(24,.d (Qes t1 a1)),(25,.i (a1.length:Int)),(26,.i Qdy)],[Xp Qh]⟩ ?_
      refine Qi hT 4 (K17 1111010011000 0) ⟨39,[(2,.d (Xf true a2)),(7,.own 0 2 0 Qh.length),(24,.d (Qes t1 a1)),(25,.i (a1.length:Int)),(26,.i Qdy)],[Xp Qh]⟩ ?_
      obtain ⟨h9,H⟩:=sC H
      refine Qa7 hT [2,7,24,25,26,28] (i:=Qdy) (n:=(a1.length:Int)) h9.1 h9.2 (k':=(K17 1111010011000 1)) (st':=⟨39,[(2,.d (Xf true a2)),(7,.own 0 2 0 Qh.length),(24,.d (Qes t1 a1)),(25,.i (a1.length:Int)),(26,.i Qdy),(28,.d (Wjs t1 a1 Qdy.toNat 0))],[Xp Qh]⟩) (by kernel_rfl) ?_
      refine Qi hT 8 (K17 1111010011001 3) ⟨39,[(2,.d (Xf true a2)),(24,.d (Qes t1 a1)),(25,.i (a1.length:Int)),(26,.i Qdy),(31,.own 0 2 0 Qh.length),(32,.d (Qaq (a1.getD Qdy.toNat Qu.z))),(33,.d (Xf true a2))],[Xp Qh,.box 47 (Yk (a1.getD Qdy.toNat Qu.z))]⟩ ?_
      obtain ⟨v4,h10,H⟩:=sbC H
      refine Wj (Xw:=[.own 0 2 0 Qh.length,.d (Qaq (a1.getD Qdy.toNat Qu.z)),.d (Xf true a2)]) (dst:=some 34) (k':=(K17 1111010011001 4)) [2,24,25,26,34] [] hP Qu4 (Wi.Wl (t0:=false) Qh (a1.getD Qdy.toNat Qu.z) a2 h10) (by kernel_rfl) (Qz _) (.cons (.Qd4 (ty:=56) (by kernel_rfl) rfl) (.cons (Qn _) (.cons (Qn _) .nil))) (st':=⟨39,[(2,.d (Xf true a2)),(24,.d (Qes t1 a1)),(25,.i (a1.length:Int)),(26,.i Qdy),(34,.Qq [.own 2 2 0 v4.1.length,.b v4.2])],[Xp Qh,.box 47 (Yk (a1.getD Qdy.toNat Qu.z)),Xp v4.1]⟩) (by kernel_rfl) ?_
      refine Yi hT 11 (K17 1111010 0) [2] ⟨39,[(2,.d (Xf true a2)),(7,.own 0 2 0 v4.1.length),(24,.d (Qes t1 a1)),(25,.i (a1.length:Int)),(26,.i (IntKind.wrap .i64 (Qdy+1)))],[Xp v4.1]⟩ h0 ?_
      exact ih (IntKind.wrap .i64 (Qdy+1)) v4.1 H
     replace H:=sF c8 H
     rw [decide_eq_false c8]
     refine Qi hT 7 (K17 11111 1) ⟨39,[(6,.own 0 2 0 Qh.length)],[Xp Qh]⟩ ?_
     obtain rfl:=Zb H
     exact Yr hf hX h0 (.own 0 2 0 Qh.length) [0] (ac (Qbd Qa.nl) an) (.own _ _ _ _)
  obtain ⟨n,H⟩:=Qcn H
  exact (L n) 0 a0 H
 refine Wj (Xw:=[.d (Xj t0 a0)]) (dst:=some 11) (k':=(K17 1100 2)) [0,1,2,11] [] hP Qhb (Xc.Wl (t0:=t0) a0 h1) (by kernel_rfl) (Qz _) (.cons (Qn _) .nil) (st':=⟨39,(Jn.p0 t0 a0 t1 a1 a2++[(11,.b v1)]),[]⟩) (by kernel_rfl) ?_
 refine Qi hT 2 (K17 1100 4) ⟨39,(Jn.p0 t0 a0 t1 a1 a2++[(13,.b (!v1))]),[]⟩ ?_
 by_cases c2:v1=true
 ·replace H:=iT c2 H
  rw [c2]
  refine Qi hT 1 (K17 1100 5) ⟨39,(Jn.p0 t0 a0 t1 a1 a2++[(13,.b false),(14,.d (Xf true a2))]),[]⟩ ?_
  obtain ⟨v2,h3,H⟩:=ibC H
  refine Wj (Xw:=[.d (Xf true a2)]) (dst:=some 15) (k':=(K17 1100 6)) [0,1,2,13,15] [] hP Qjp (Zg.Wl (t0:=true) a2 h3) (by kernel_rfl) (Qz _) (.cons (Qn _) .nil) (st':=⟨39,(Jn.p0 t0 a0 t1 a1 a2++[(13,.b false),(15,.b v2)]),[]⟩) (by kernel_rfl) ?_
  refine Qi hT 3 (K17 1100 9) ⟨39,(Jn.p0 t0 a0 t1 a1 a2++[(18,.b (!v2))]),[]⟩ ?_
  by_cases c4:v2=true
  ·replace H:=iT c4 H
   rw [c4]
   refine Qi hT 1 (K17 1100 10) ⟨39,(Jn.p0 t0 a0 t1 a1 a2++[(18,.b false),(19,.d (Qes t1 a1))]),[]⟩ ?_
   obtain ⟨v3,h5,H⟩:=ibC H
   refine Wj (Xw:=[.d (Qes t1 a1),.d (.fn 47 [])]) (dst:=some 20) (k':=(K17 1100 11)) [0,1,2,18,20] [] hP Wdq (Qb8.Wl (t0:=t1) (Zk:=47) (Zn:=[]) a1 (fun z0=>Qgh z0) Wdr (fun z0 r h=>Qgh.Wl z0 h) h5) (by kernel_rfl) (Qz _) (.cons (Qn _) (.cons (Qn _) .nil)) (st':=⟨39,(Jn.p0 t0 a0 t1 a1 a2++[(18,.b false),(20,.b v3)]),[]⟩) (by kernel_rfl) ?_
   refine Qi hT 2 (K17 110 1) ⟨39,(Jn.p0 t0 a0 t1 a1 a2++[(21,.b v3)]),[]⟩ ?_
   exact Zl v3 H
  replace H:=iF c4 H
  rw [boF c4]
  refine Qi hT 4 (K17 110 1) ⟨39,(Jn.p0 t0 a0 t1 a1 a2++[(21,.b true)]),[]⟩ ?_
  exact Zl true H
 replace H:=iF c2 H
 rw [boF c2]
 refine Qi hT 9 (K17 110 1) ⟨39,(Jn.p0 t0 a0 t1 a1 a2++[(21,.b true)]),[]⟩ ?_
 exact Zl true H
theorem Qcb.Wl (a0:Qc) (k0:Qc):Yn Tryz.prog 48 [] [.d (Qd2 a0),.d (.rop false 1 (fun _=>[.i k0.M.Client,.i k0.M.Seq,.i k0.M.Kind,Xj true k0.M.Pairs,.i k0.M.Over.Lo,.i k0.M.Over.Hi,.i k0.M.Old,.i k0.Time,.b k0.Jc]) 0 0)] [] (.b (Qcb a0 k0)):=by
 obtain ⟨r,H⟩:∃ r,Qcb a0 k0=r:=⟨_,rfl⟩
 rw [H]
 refine Xt Tryz.func48 rfl (nt:=20) rfl (lb rfl) fun X hP h0 hX=>?_
 have hT:Xl X.P T:=hP▸tok
 have hf:X.P.funcs[48]? = some Tryz.f48:=hP▸Tryz.func48
 have Zl:∀ (Qg6:Bool),(Qcb.j1 Qg6)=r->AK X 48 ((K48 11 1)) (Jb X [] (.b r)) ⟨20,[(3,.b Qg6)],[]⟩:=by
  intro Qg6 H
  obtain rfl:=H
  exact Yr hf hX h0 (.b Qg6) [] an (.d (.v _))
 refine Qi hT 15 (K48 110 8) ⟨20,[(1,.d (.rop false 1 (fun _=>[.i k0.M.Client,.i k0.M.Seq,.i k0.M.Kind,Xj true k0.M.Pairs,.i k0.M.Over.Lo,.i k0.M.Over.Hi,.i k0.M.Old,.i k0.Time,.b k0.Jc]) 0 0)),(2,.ptr 0 0 0 0),(11,.b (a0.M.Client == k0.M.Client))],[.box 50 (Qbl a0)]⟩ ?_
 by_cases c1:a0.M.Client=k0.M.Client
 ·replace H:=iT c1 H
  rw [eqT c1]
  refine Yi hT 10 (K48 11 1) [] ⟨20,[(3,.b (decide (a0.M.Seq>=k0.M.Seq)))],[]⟩ h0 ?_
  exact Zl (decide (a0.M.Seq>=k0.M.Seq)) H
 replace H:=iF c1 H
 rw [eqF c1]
 refine Yi hT 10 (K48 11 1) [] ⟨20,[(3,.b false)],[]⟩ h0 ?_
 exact Zl false H
abbrev Jo.p0 (t0:Bool) (a0:List Qc):List (Nat × AV):=[(0,.d (Zy t0 a0)),(5,.d (Zy t0 a0)),(6,.i (a0.length:Int))]
theorem Jo.Wl {t0:Bool} (a0:List Qc) {r:Bool} (H:Jo a0=some r):Yn Tryz.prog 18 [] [.d (Zy t0 a0)] [] (.b r):=by
 refine Xt Tryz.func18 rfl (nt:=18) rfl (lb rfl) fun X hP h0 hX=>?_
 have hT:Xl X.P T:=hP▸tok
 have hf:X.P.funcs[18]? = some Tryz.f18:=hP▸Tryz.func18
 refine Qi hT 13 (K18 11010 0) ⟨18,(Jo.p0 t0 a0++[(7,.i 0)]),[]⟩ ?_
 have L:∀ n,(∀ (Wq:Int),iter (Jo.step a0) n (.l1 Wq)=some r->AK X 18 ((K18 11010 0)) (Jb X [] (.b r)) ⟨18,(Jo.p0 t0 a0++[(7,.i Wq)]),[]⟩):=by
  intro n
  induction n with
  | zero=>exact fun _ H=>Qbx H
  | succ n ih=>
   ·intro Wq H
    refine Qi hT 5 (K18 1101001 0) ⟨18,(Jo.p0 t0 a0++[(7,.i Wq),(8,.b (decide (Wq < (a0.length:Int))))]),[]⟩ ?_
    by_cases c1:Wq < (a0.length:Int)
    ·replace H:=sT c1 H
     rw [decide_eq_true c1]
     refine Qi hT 2 (K18 1101001 1) ⟨18,(Jo.p0 t0 a0++[(7,.i Wq)]),[]⟩ ?_
     refine Qi hT 5 (K18 11010011000 1) ⟨18,(Jo.p0 t0 a0++[(7,.i Wq),(9,.i Wq)]),[]⟩ ?_
     obtain ⟨h2,H⟩:=sC H
     refine Qa7 hT [0,5,6,7,9,10] (i:=Wq) (n:=(a0.length:Int)) h2.1 h2.2 (k':=(K18 11010011000 2)) (st':=⟨18,(Jo.p0 t0 a0++[(7,.i Wq),(9,.i Wq),(10,.d (Qg1 t0 a0 Wq.toNat 0))]),[]⟩) (by kernel_rfl) ?_
     refine Qi hT 9 (K18 110100110010 2) ⟨18,[(0,.d (Zy t0 a0)),(4,.ptr 0 0 0 0),(5,.d (Zy t0 a0)),(6,.i (a0.length:Int)),(7,.i Wq),(12,.d (Zy t0 a0)),(13,.i Wq)],[.box 50 (Qbl (a0.getD Wq.toNat Qc.z))]⟩ ?_
     obtain ⟨h3,H⟩:=sC H
     refine Wcy (tg:=t0) (s:=9) (l:=none) (h:=(some (.i64,Wq))) (dst:=some 14) (k':=(K18 110100110010 3)) hT [0,4,5,6,7,14] Qc.e Qc.z a0 (by kernel_rfl) h3 (fun _=>rfl) (st':=⟨18,[(0,.d (Zy t0 a0)),(4,.ptr 0 0 0 0),(5,.d (Zy t0 a0)),(6,.i (a0.length:Int)),(7,.i Wq),(14,.d (Zy t0 ((a0.drop 0).take (Wq.toNat - 0))))],[.box 50 (Qbl (a0.getD Wq.toNat Qc.z))]⟩) (by kernel_rfl) ?_
     refine Qi hT 1 (K18 110100110010 4) ⟨18,(Jo.p0 t0 a0++[(7,.i Wq),(14,.d (Zy t0 ((a0.drop 0).take (Wq.toNat - 0)))),(15,.fn 48 [.ptr 0 0 0 0])]),[.box 50 (Qbl (a0.getD Wq.toNat Qc.z))]⟩ ?_
     obtain ⟨v1,h4,H⟩:=sbC H
     refine Wj (Xw:=[.d (Zy t0 ((a0.drop 0).take (Wq.toNat - 0))),.fn 48 [.ptr 0 0 0 0]]) (dst:=some 16) (k':=(K18 110100110010 5)) [0,5,6,7,16] [] hP Qu3 (Qbe.Wl (t0:=t0) (Zk:=48) (Zn:=[.rop false 1 (fun _=>[.i (((a0.getD Wq.toNat Qc.z).M).Client),.i (((a0.getD Wq.toNat Qc.z).M).Seq),.i (((a0.getD Wq.toNat Qc.z).M).Kind),Xj true (((a0.getD Wq.toNat Qc.z).M).Pairs),.i ((((a0.getD Wq.toNat Qc.z).M).Over).Lo),.i ((((a0.getD Wq.toNat Qc.z).M).Over).Hi),.i (((a0.getD Wq.toNat Qc.z).M).Old),.i ((a0.getD Wq.toNat Qc.z).Time),.b ((a0.getD Wq.toNat Qc.z).Jc)]) 0 0]) ((a0.drop 0).take (Wq.toNat - 0)) (fun z0=>some (Qcb z0 (a0.getD Wq.toNat Qc.z))) Wds (fun z0 r h=>by obtain rfl:=Zb h;exact Qcb.Wl z0 (a0.getD Wq.toNat Qc.z)) h4) (by kernel_rfl) (Qz _) (.cons (Qn _) (.cons (.fn 48 (.cons (.look (ty:=50) (cs:=[.i (((a0.getD Wq.toNat Qc.z).M).Client),.i (((a0.getD Wq.toNat Qc.z).M).Seq),.i (((a0.getD Wq.toNat Qc.z).M).Kind),Xj true (((a0.getD Wq.toNat Qc.z).M).Pairs),.i ((((a0.getD Wq.toNat Qc.z).M).Over).Lo),.i ((((a0.getD Wq.toNat Qc.z).M).Over).Hi),.i (((a0.getD Wq.toNat Qc.z).M).Old),.i ((a0.getD Wq.toNat Qc.z).Time),.b ((a0.getD Wq.toNat Qc.z).Jc)]) (by kernel_rfl) rfl) .nil)) .nil)) (st':=⟨18,(Jo.p0 t0 a0++[(7,.i Wq),(16,.b v1)]),[.box 50 (Qbl (a0.getD Wq.toNat Qc.z))]⟩) (by kernel_rfl) ?_
     refine Qi hT 1 (K18 11010011001 1) ⟨18,(Jo.p0 t0 a0++[(7,.i Wq),(16,.b v1)]),[.box 50 (Qbl (a0.getD Wq.toNat Qc.z))]⟩ ?_
     by_cases c5:v1=true
     ·replace H:=sT c5 H
      rw [c5]
      refine Qi hT 5 (K18 1101001100110 1) ⟨18,[(2,.b false)],[.box 50 (Qbl (a0.getD Wq.toNat Qc.z))]⟩ ?_
      obtain rfl:=Zb H
      exact Yr hf hX h0 (.b false) [] an (.d (.v _))
     replace H:=sF c5 H
     rw [boF c5]
     refine Qi hT 3 (K18 11010011 1) ⟨18,(Jo.p0 t0 a0++[(7,.i Wq)]),[.box 50 (Qbl (a0.getD Wq.toNat Qc.z))]⟩ ?_
     refine Yi hT 5 (K18 11010 0) [] ⟨18,(Jo.p0 t0 a0++[(7,.i (IntKind.wrap .i64 (Wq+1)))]),[]⟩ h0 ?_
     exact ih (IntKind.wrap .i64 (Wq+1)) H
    replace H:=sF c1 H
    rw [decide_eq_false c1]
    refine Qi hT 6 (K18 111 1) ⟨18,[(2,.b true)],[]⟩ ?_
    obtain rfl:=Zb H
    exact Yr hf hX h0 (.b true) [] an (.d (.v _))
 obtain ⟨n,H⟩:=Qcn H
 exact (L n) 0 H
abbrev Qk.q1 (v1:Qu) (v2:Qu):=([(⟨(⟨v1.Client,v1.Seq,v1.Kind,v1.Pairs,(v1.Over),v1.Old⟩:Qu),3,true⟩:Qc),(⟨(⟨v2.Client,v2.Seq,v2.Kind,v2.Pairs,(v2.Over),v2.Old⟩:Qu),4,true⟩:Qc)]:List Qc)
abbrev Qk.q2 (v1:Qu) (v2:Qu) (v3:List Qa) (v4:List Qa) (v5:Qu) (v6:List Qa):List Row:=[Yl (Qk.q1 v1 v2),Qhj ([(⟨0,9⟩:Qb)]:List Qb),Xp v3,Xp v4,Wjt ([v5]:List Qu),Xp v6]
abbrev Qk.q3:=([(⟨0,9⟩:Qb)]:List Qb)
abbrev Qk.q4 (v1:Qu) (v2:Qu):=((Qk.q1 v1 v2).length)
theorem Qk.Wl {r:Bool} (H:Qk=some r):Yn Tryz.prog 6 [] [] [] (.b r):=by
 refine Xt Tryz.func6 rfl (nt:=62) rfl (lb rfl) fun X hP h0 hX=>?_
 have hT:Xl X.P T:=hP▸tok
 have hf:X.P.funcs[6]? = some Tryz.f6:=hP▸Tryz.func6
 refine Qi hT 6 (K6 110 0) ⟨62,[],[]⟩ ?_
 refine Wj (Xw:=[.i 1,.i 5,.i 1]) (dst:=some 6) (k':=(K6 110 1)) [6] [] hP Qpx (Qbk.Wl 1 5 1) (by kernel_rfl) (Qz _) (.cons (Qn _) (.cons (Qn _) (.cons (Qn _) .nil))) (st':=⟨62,[(6,.d (Qaq (Qbk 1 5 1)))],[]⟩) (by kernel_rfl) ?_
 obtain ⟨v1,h1,H⟩:=idC H
 rw [<- h1]
 refine Qi hT 1 (K6 110 2) ⟨62,[(7,.d (.agg [.i v1.Client,.i v1.Seq,.i v1.Kind,Xj true v1.Pairs,.i ((v1.Over).Lo),.i ((v1.Over).Hi),.i v1.Old,.i 3,.b true]))],[]⟩ ?_
 refine Wj (Xw:=[.i 3,.i 5,.i 2]) (dst:=some 8) (k':=(K6 110 3)) [7,8] [] hP Qpx (Qbk.Wl 3 5 2) (by kernel_rfl) (Qz _) (.cons (Qn _) (.cons (Qn _) (.cons (Qn _) .nil))) (st':=⟨62,[(7,.d (.agg [.i v1.Client,.i v1.Seq,.i v1.Kind,Xj true v1.Pairs,.i ((v1.Over).Lo),.i ((v1.Over).Hi),.i v1.Old,.i 3,.b true])),(8,.d (Qaq (Qbk 3 5 2)))],[]⟩) (by kernel_rfl) ?_
 obtain ⟨v2,h2,H⟩:=idC H
 rw [<- h2]
 refine Qi hT 14 (K6 11110 2) ⟨62,[(1,.own 0 9 0 2),(2,.own 1 2 0 1),(13,.own 0 9 0 2),(14,.own 1 2 0 1)],[.flat false 9 50 2 (fun j=>[[.i v1.Client,.i v1.Seq,.i v1.Kind,Xj true v1.Pairs,.i ((v1.Over).Lo),.i ((v1.Over).Hi),.i v1.Old,.i 3,.b true],[.i v2.Client,.i v2.Seq,.i v2.Kind,Xj true v2.Pairs,.i ((v2.Over).Lo),.i ((v2.Over).Hi),.i v2.Old,.i 4,.b true]].getD j []),.flat false 2 39 1 (fun j=>[[.i 0,.i 9]].getD j [])]⟩ ?_
 refine Qi9 0 (kk:=9) (fz:=false) (ty:=50) (n:=(Qk.q1 v1 v2).length) (vec Qc.e Qc.z (Qk.q1 v1 v2)) (by kernel_rfl) Qhx (st':=⟨62,[(1,.own 0 9 0 (Qk.q4 v1 v2)),(2,.own 1 2 0 1),(13,.own 0 9 0 (Qk.q4 v1 v2)),(14,.own 1 2 0 1)],[Yl (Qk.q1 v1 v2),.flat false 2 39 1 (fun j=>[[.i 0,.i 9]].getD j [])]⟩) (by kernel_rfl) ?_
 refine Qi9 1 (kk:=2) (fz:=false) (ty:=39) (n:=(Qk.q3).length) (vec Qb.e Qb.z (Qk.q3)) (by kernel_rfl) Qhx (st':=⟨62,[(1,.own 0 9 0 (Qk.q4 v1 v2)),(2,.own 1 2 0 ((Qk.q3).length)),(13,.own 0 9 0 (Qk.q4 v1 v2)),(14,.own 1 2 0 ((Qk.q3).length))],[Yl (Qk.q1 v1 v2),Qao (Qk.q3)]⟩) (by kernel_rfl) ?_
 refine Qeg 1 (kk:=2) (n:=(Qk.q3).length) (ty:=39) (g:=vec Qb.e Qb.z (Qk.q3)) (by kernel_rfl) (st':=⟨62,[(1,.own 0 9 0 (Qk.q4 v1 v2)),(2,.own 1 2 0 ((Qk.q3).length)),(13,.own 0 9 0 (Qk.q4 v1 v2)),(14,.own 1 2 0 ((Qk.q3).length))],[Yl (Qk.q1 v1 v2),Qhj (Qk.q3)]⟩) (by kernel_rfl) ?_
 obtain ⟨v3,h3,H⟩:=ibC H
 refine Wj (Xw:=[.own 0 9 0 (Qk.q4 v1 v2),.own 1 2 0 ((Qk.q3).length),.i 3]) (dst:=some 15) (k':=(K6 11110 3)) [1,2,15] [] hP Quz (Yu.Wl (t0:=false) (Qk.q1 v1 v2) (Qk.q3) 3 h3) (by kernel_rfl) (Qz _) (.cons (.Qd4 (ty:=50) (by kernel_rfl) rfl) (.cons (.Qd4 (ty:=39) (by kernel_rfl) rfl) (.cons (Qn _) .nil))) (st':=⟨62,[(1,.own 0 9 0 (Qk.q4 v1 v2)),(2,.own 1 2 0 ((Qk.q3).length)),(15,.own 2 2 0 v3.length)],[Yl (Qk.q1 v1 v2),Qhj (Qk.q3),Xp v3]⟩) (by kernel_rfl) ?_
 refine Qi hT 2 (K6 11110 5) ⟨62,[(1,.own 0 9 0 (Qk.q4 v1 v2)),(2,.own 1 2 0 ((Qk.q3).length)),(15,.own 2 2 0 v3.length),(16,.own 0 9 0 (Qk.q4 v1 v2)),(17,.own 1 2 0 ((Qk.q3).length))],[Yl (Qk.q1 v1 v2),Qhj (Qk.q3),Xp v3]⟩ ?_
 obtain ⟨v4,h4,H⟩:=ibC H
 refine Wj (Xw:=[.own 0 9 0 (Qk.q4 v1 v2),.own 1 2 0 ((Qk.q3).length),.i 9]) (dst:=some 18) (k':=(K6 11110 6)) [1,2,15,18] [] hP Quz (Yu.Wl (t0:=false) (Qk.q1 v1 v2) (Qk.q3) 9 h4) (by kernel_rfl) (Qz _) (.cons (.Qd4 (ty:=50) (by kernel_rfl) rfl) (.cons (.Qd4 (ty:=39) (by kernel_rfl) rfl) (.cons (Qn _) .nil))) (st':=⟨62,[(1,.own 0 9 0 (Qk.q4 v1 v2)),(2,.own 1 2 0 ((Qk.q3).length)),(15,.own 2 2 0 v3.length),(18,.own 3 2 0 v4.length)],[Yl (Qk.q1 v1 v2),Qhj (Qk.q3),Xp v3,Xp v4]⟩) (by kernel_rfl) ?_
 refine Qi hT 6 (K6 111110 1) ⟨62,[(1,.own 0 9 0 (Qk.q4 v1 v2)),(2,.own 1 2 0 ((Qk.q3).length)),(3,.own 2 2 0 v3.length),(4,.own 3 2 0 v4.length),(19,.own 3 2 0 v4.length)],[Yl (Qk.q1 v1 v2),Qhj (Qk.q3),Xp v3,Xp v4]⟩ ?_
 refine Wj (Xw:=[.i 3,.i 5,.i 4]) (dst:=some 20) (k':=(K6 111110 2)) [1,2,3,4,19,20] [] hP Qpx (Qbk.Wl 3 5 4) (by kernel_rfl) (Qz _) (.cons (Qn _) (.cons (Qn _) (.cons (Qn _) .nil))) (st':=⟨62,[(1,.own 0 9 0 (Qk.q4 v1 v2)),(2,.own 1 2 0 ((Qk.q3).length)),(3,.own 2 2 0 v3.length),(4,.own 3 2 0 v4.length),(19,.own 3 2 0 v4.length),(20,.d (Qaq (Qbk 3 5 4)))],[Yl (Qk.q1 v1 v2),Qhj (Qk.q3),Xp v3,Xp v4]⟩) (by kernel_rfl) ?_
 obtain ⟨v5,h5,H⟩:=idC H
 rw [<- h5]
 refine Qi hT 2 (K6 111110 4) ⟨62,[(1,.own 0 9 0 (Qk.q4 v1 v2)),(3,.own 2 2 0 v3.length),(4,.own 3 2 0 v4.length),(19,.own 3 2 0 v4.length),(21,.own 4 7 0 1),(22,.own 1 2 0 ((Qk.q3).length))],[Yl (Qk.q1 v1 v2),Qhj (Qk.q3),Xp v3,Xp v4,.flat false 7 47 1 (fun j=>[Qu.e v5].getD j [])]⟩ ?_
 refine Qi9 4 (kk:=7) (fz:=false) (ty:=47) (n:=([v5]:List Qu).length) (vec Qu.e Qu.z ([v5]:List Qu)) (by kernel_rfl) Qhx (st':=⟨62,[(1,.own 0 9 0 (Qk.q4 v1 v2)),(3,.own 2 2 0 v3.length),(4,.own 3 2 0 v4.length),(19,.own 3 2 0 v4.length),(21,.own 4 7 0 (([v5]:List Qu).length)),(22,.own 1 2 0 ((Qk.q3).length))],[Yl (Qk.q1 v1 v2),Qhj (Qk.q3),Xp v3,Xp v4,Wjt ([v5]:List Qu)]⟩) (by kernel_rfl) ?_
 obtain ⟨v6,h6,H⟩:=ibC H
 have Zl:∀ (Quq:Bool),(Qk.j1 Quq)=some r->AK X 6 ((K6 111111 1)) (Jb X [] (.b r)) ⟨62,[(0,.b Quq)],[]⟩:=by
  intro Quq H
  obtain rfl:=Zb H
  exact Yr hf hX h0 (.b Quq) [] an (.d (.v _))
 refine Wj (Xw:=[.own 3 2 0 v4.length,.own 4 7 0 (([v5]:List Qu).length),.own 1 2 0 ((Qk.q3).length)]) (dst:=some 23) (k':=(K6 111110 5)) [1,3,4,23] [] hP Wde (Jn.Wl (t0:=false) (t1:=false) v4 ([v5]:List Qu) (Qk.q3) h6) (by kernel_rfl) (Qz _) (.cons (.Qd4 (ty:=56) (by kernel_rfl) rfl) (.cons (.Qd4 (ty:=47) (by kernel_rfl) rfl) (.cons (.Qd4 (ty:=39) (by kernel_rfl) rfl) .nil))) (st':=⟨62,[(1,.own 0 9 0 (Qk.q4 v1 v2)),(3,.own 2 2 0 v3.length),(4,.own 3 2 0 v4.length),(23,.own 5 2 0 v6.length)],(Qk.q2 v1 v2 v3 v4 v5 v6)⟩) (by kernel_rfl) ?_
 refine Qi hT 8 (K6 1111110 4) ⟨62,[(1,.own 0 9 0 (Qk.q4 v1 v2)),(3,.own 2 2 0 v3.length),(4,.own 3 2 0 v4.length),(5,.own 5 2 0 v6.length),(27,.b ((v3.length:Int) == 1))],(Qk.q2 v1 v2 v3 v4 v5 v6)⟩ ?_
 by_cases c7:(v3.length:Int)=1
 ·replace H:=iT c7 H
  rw [eqT c7]
  refine Qi hT 1 (K6 1111110 5) ⟨62,[(1,.own 0 9 0 (Qk.q4 v1 v2)),(4,.own 3 2 0 v4.length),(5,.own 5 2 0 v6.length),(27,.b true),(28,.own 2 2 0 v3.length)],(Qk.q2 v1 v2 v3 v4 v5 v6)⟩ ?_
  obtain ⟨h8,H⟩:=iC H
  refine Qa7 hT [1,4,5,27,29] (i:=0) (n:=(v3.length:Int)) h8.1 h8.2 (k':=(K6 1111110 6)) (st':=⟨62,[(1,.own 0 9 0 (Qk.q4 v1 v2)),(4,.own 3 2 0 v4.length),(5,.own 5 2 0 v6.length),(27,.b true),(29,.ptr 2 2 0 0)],(Qk.q2 v1 v2 v3 v4 v5 v6)⟩) (by kernel_rfl) ?_
  refine Qi hT 1 (K6 1111110 7) ⟨62,[(1,.own 0 9 0 (Qk.q4 v1 v2)),(4,.own 3 2 0 v4.length),(5,.own 5 2 0 v6.length),(27,.b true),(30,.ptr 2 2 0 1)],(Qk.q2 v1 v2 v3 v4 v5 v6)⟩ ?_
  refine Qmo hT [1,4,5,27,31] (i:=0) (n:=v3.length) (by first | omega | decide) (k':=(K6 1111110 8)) (st':=⟨62,[(1,.own 0 9 0 (Qk.q4 v1 v2)),(4,.own 3 2 0 v4.length),(5,.own 5 2 0 v6.length),(27,.b true),(31,.i ((v3.getD 0 Qa.z).Val))],(Qk.q2 v1 v2 v3 v4 v5 v6)⟩) (by kernel_rfl) ?_
  refine Qi hT 3 (K6 1111110 11) ⟨62,[(1,.own 0 9 0 (Qk.q4 v1 v2)),(4,.own 3 2 0 v4.length),(5,.own 5 2 0 v6.length),(34,.b (((v3.getD 0 Qa.z).Val) == 1))],(Qk.q2 v1 v2 v3 v4 v5 v6)⟩ ?_
  by_cases c9:((v3.getD 0 Qa.z).Val)=1
  ·replace H:=iT c9 H
   rw [eqT c9]
   refine Qi hT 5 (K6 1111110 16) ⟨62,[(1,.own 0 9 0 (Qk.q4 v1 v2)),(4,.own 3 2 0 v4.length),(5,.own 5 2 0 v6.length),(39,.b ((v4.length:Int) == 1))],(Qk.q2 v1 v2 v3 v4 v5 v6)⟩ ?_
   by_cases c10:(v4.length:Int)=1
   ·replace H:=iT c10 H
    rw [eqT c10]
    refine Qi hT 1 (K6 1111110 17) ⟨62,[(1,.own 0 9 0 (Qk.q4 v1 v2)),(5,.own 5 2 0 v6.length),(39,.b true),(40,.own 3 2 0 v4.length)],(Qk.q2 v1 v2 v3 v4 v5 v6)⟩ ?_
    obtain ⟨h11,H⟩:=iC H
    refine Qa7 hT [1,5,39,41] (i:=0) (n:=(v4.length:Int)) h11.1 h11.2 (k':=(K6 1111110 18)) (st':=⟨62,[(1,.own 0 9 0 (Qk.q4 v1 v2)),(5,.own 5 2 0 v6.length),(39,.b true),(41,.ptr 3 2 0 0)],(Qk.q2 v1 v2 v3 v4 v5 v6)⟩) (by kernel_rfl) ?_
    refine Qi hT 1 (K6 1111110 19) ⟨62,[(1,.own 0 9 0 (Qk.q4 v1 v2)),(5,.own 5 2 0 v6.length),(39,.b true),(42,.ptr 3 2 0 1)],(Qk.q2 v1 v2 v3 v4 v5 v6)⟩ ?_
    refine Qmo hT [1,5,39,43] (i:=0) (n:=v4.length) (by first | omega | decide) (k':=(K6 1111110 20)) (st':=⟨62,[(1,.own 0 9 0 (Qk.q4 v1 v2)),(5,.own 5 2 0 v6.length),(39,.b true),(43,.i ((v4.getD 0 Qa.z).Val))],(Qk.q2 v1 v2 v3 v4 v5 v6)⟩) (by kernel_rfl) ?_
    refine Qi hT 3 (K6 1111110 23) ⟨62,[(1,.own 0 9 0 (Qk.q4 v1 v2)),(5,.own 5 2 0 v6.length),(46,.b (((v4.getD 0 Qa.z).Val) == 3))],(Qk.q2 v1 v2 v3 v4 v5 v6)⟩ ?_
    by_cases c12:((v4.getD 0 Qa.z).Val)=3
    ·replace H:=iT c12 H
     rw [eqT c12]
     refine Qi hT 5 (K6 1111110 28) ⟨62,[(1,.own 0 9 0 (Qk.q4 v1 v2)),(5,.own 5 2 0 v6.length),(51,.b ((v6.length:Int) == 1))],(Qk.q2 v1 v2 v3 v4 v5 v6)⟩ ?_
     by_cases c13:(v6.length:Int)=1
     ·replace H:=iT c13 H
      rw [eqT c13]
      refine Qi hT 1 (K6 1111110 29) ⟨62,[(1,.own 0 9 0 (Qk.q4 v1 v2)),(51,.b true),(52,.own 5 2 0 v6.length)],(Qk.q2 v1 v2 v3 v4 v5 v6)⟩ ?_
      obtain ⟨h14,H⟩:=iC H
      refine Qa7 hT [1,51,53] (i:=0) (n:=(v6.length:Int)) h14.1 h14.2 (k':=(K6 1111110 30)) (st':=⟨62,[(1,.own 0 9 0 (Qk.q4 v1 v2)),(51,.b true),(53,.ptr 5 2 0 0)],(Qk.q2 v1 v2 v3 v4 v5 v6)⟩) (by kernel_rfl) ?_
      refine Qi hT 1 (K6 1111110 31) ⟨62,[(1,.own 0 9 0 (Qk.q4 v1 v2)),(51,.b true),(54,.ptr 5 2 0 1)],(Qk.q2 v1 v2 v3 v4 v5 v6)⟩ ?_
      refine Qmo hT [1,51,55] (i:=0) (n:=v6.length) (by first | omega | decide) (k':=(K6 1111110 32)) (st':=⟨62,[(1,.own 0 9 0 (Qk.q4 v1 v2)),(51,.b true),(55,.i ((v6.getD 0 Qa.z).Val))],(Qk.q2 v1 v2 v3 v4 v5 v6)⟩) (by kernel_rfl) ?_
      refine Qi hT 3 (K6 1111110 35) ⟨62,[(1,.own 0 9 0 (Qk.q4 v1 v2)),(58,.b (((v6.getD 0 Qa.z).Val) == 7))],(Qk.q2 v1 v2 v3 v4 v5 v6)⟩ ?_
      by_cases c15:((v6.getD 0 Qa.z).Val)=7
      ·replace H:=iT c15 H
       rw [eqT c15]
       refine Qi hT 1 (K6 1111110 36) ⟨62,[(58,.b true),(59,.own 0 9 0 (Qk.q4 v1 v2))],(Qk.q2 v1 v2 v3 v4 v5 v6)⟩ ?_
       obtain ⟨v7,h16,H⟩:=ibC H
       refine Wj (Xw:=[.own 0 9 0 (Qk.q4 v1 v2)]) (dst:=some 60) (k':=(K6 1111110 37)) [58,60] [] hP Wdf (Jo.Wl (t0:=false) (Qk.q1 v1 v2) h16) (by kernel_rfl) (Qz _) (.cons (.Qd4 (ty:=50) (by kernel_rfl) rfl) .nil) (st':=⟨62,[(58,.b true),(60,.b v7)],(Qk.q2 v1 v2 v3 v4 v5 v6)⟩) (by kernel_rfl) ?_
       refine Yi hT 3 (K6 111111 1) [] ⟨62,[(0,.b v7)],[]⟩ h0 ?_
       exact Zl v7 H
      replace H:=iF c15 H
      rw [eqF c15]
      refine Yi hT 5 (K6 111111 1) [] ⟨62,[(0,.b false)],[]⟩ h0 ?_
      exact Zl false H
     replace H:=iF c13 H
     rw [eqF c13]
     refine Yi hT 12 (K6 111111 1) [] ⟨62,[(0,.b false)],[]⟩ h0 ?_
     exact Zl false H
    replace H:=iF c12 H
    rw [eqF c12]
    refine Yi hT 17 (K6 111111 1) [] ⟨62,[(0,.b false)],[]⟩ h0 ?_
    exact Zl false H
   replace H:=iF c10 H
   rw [eqF c10]
   refine Yi hT 24 (K6 111111 1) [] ⟨62,[(0,.b false)],[]⟩ h0 ?_
   exact Zl false H
  replace H:=iF c9 H
  rw [eqF c9]
  refine Yi hT 29 (K6 111111 1) [] ⟨62,[(0,.b false)],[]⟩ h0 ?_
  exact Zl false H
 replace H:=iF c7 H
 rw [eqF c7]
 refine Yi hT 36 (K6 111111 1) [] ⟨62,[(0,.b false)],[]⟩ h0 ?_
 exact Zl false H
abbrev Wt.p0:List (Nat × AV):=[(1,.ptr 0 0 0 0)]
theorem Wt.Wl (a0:Qf) {r:Bool} (H:Wt a0=some r):Yn Tryz.prog 14 [] [.d (Qct a0)] [] (.b r):=by
 refine Xt Tryz.func14 rfl (nt:=69) rfl (lb rfl) fun X hP h0 hX=>?_
 have hT:Xl X.P T:=hP▸tok
 have hf:X.P.funcs[14]? = some Tryz.f14:=hP▸Tryz.func14
 have Zl:∀ (Qne:Bool),(Wt.j1 a0 Qne)=some r->AK X 14 ((K14 110 1)) (Jb X [] (.b r)) ⟨69,(Wt.p0++[(26,.b Qne)]),[.box 44 (Ym a0)]⟩:=by
  intro Qne H
  by_cases c4:Qne=true
  ·replace H:=iT c4 H
   rw [c4]
   refine Qi hT 5 (K14 11010 1) ⟨69,[(2,.b false)],[.box 44 (Ym a0)]⟩ ?_
   obtain rfl:=Zb H
   exact Yr hf hX h0 (.b false) [] an (.d (.v _))
  replace H:=iF c4 H
  rw [boF c4]
  refine Qi hT 2 (K14 11 1) ⟨69,(Wt.p0),[.box 44 (Ym a0)]⟩ ?_
  refine Qi hT 7 (K14 111010 0) ⟨69,(Wt.p0++[(3,.i 0)]),[.box 44 (Ym a0)]⟩ ?_
  have L:∀ n,(∀ (Xe:Int),iter (Wt.step a0) n (.l1 Xe)=some r->AK X 14 ((K14 111010 0)) (Jb X [] (.b r)) ⟨69,(Wt.p0++[(3,.i Xe)]),[.box 44 (Ym a0)]⟩)/\(∀ (Qby:Int),iter (Wt.step a0) n (.l2 Qby)=some r->AK X 14 ((K14 1111010 0)) (Jb X [] (.b r)) ⟨69,(Wt.p0++[(4,.i Qby)]),[.box 44 (Ym a0)]⟩):=by
   intro n
   induction n with
   | zero=>exact ⟨fun _ H=>Qbx H,fun _ H=>Qbx H⟩
   | succ n ih=>
    refine ⟨?_, ?_⟩
    ·intro Xe H
     refine Qi hT 9 (K14 11101000 1) ⟨69,(Wt.p0++[(3,.i Xe),(31,.b (decide (Xe < (a0.Held.length:Int))))]),[.box 44 (Ym a0)]⟩ ?_
     by_cases c5:Xe < (a0.Held.length:Int)
     ·replace H:=sT c5 H
      rw [decide_eq_true c5]
      refine Qi hT 2 (K14 1110100 1) ⟨69,(Wt.p0++[(3,.i Xe)]),[.box 44 (Ym a0)]⟩ ?_
      refine Qi hT 7 (K14 11101001000 3) ⟨69,(Wt.p0++[(3,.i Xe),(35,.d (Qcx true a0.Held)),(36,.i Xe)]),[.box 44 (Ym a0)]⟩ ?_
      obtain ⟨h6,H⟩:=sC H
      have Jj2:∀ (Qrq:Bool),stk (Wt.j2 Xe Qrq) (iter (Wt.step a0) n)=some r->AK X 14 ((K14 1110100100 1)) (Jb X [] (.b r)) ⟨69,(Wt.p0++[(3,.i Xe),(52,.b Qrq)]),[.box 44 (Ym a0)]⟩:=by
       intro Qrq H
       by_cases c8:Qrq=true
       ·replace H:=sT c8 H
        rw [c8]
        refine Qi hT 5 (K14 111010010010 1) ⟨69,[(2,.b false)],[.box 44 (Ym a0)]⟩ ?_
        obtain rfl:=Zb H
        exact Yr hf hX h0 (.b false) [] an (.d (.v _))
       replace H:=sF c8 H
       rw [boF c8]
       refine Qi hT 3 (K14 11101001 1) ⟨69,(Wt.p0++[(3,.i Xe)]),[.box 44 (Ym a0)]⟩ ?_
       refine Qi hT 6 (K14 111010 0) ⟨69,(Wt.p0++[(3,.i (IntKind.wrap .i64 (Xe+1)))]),[.box 44 (Ym a0)]⟩ ?_
       exact ih.1 (IntKind.wrap .i64 (Xe+1)) H
      refine Qa7 hT [1,3,37] (i:=Xe) (n:=(a0.Held.length:Int)) h6.1 h6.2 (k':=(K14 11101001000 4)) (st':=⟨69,(Wt.p0++[(3,.i Xe),(37,.d (Qw1 true a0.Held Xe.toNat 0))]),[.box 44 (Ym a0)]⟩) (by kernel_rfl) ?_
      refine Qi hT 6 (K14 11101001000 10) ⟨69,(Wt.p0++[(3,.i Xe),(43,.b (decide (((((a0.Held.getD Xe.toNat Qr.z).M).Pairs).length:Int) > 20)))]),[.box 44 (Ym a0)]⟩ ?_
      by_cases c7:((((a0.Held.getD Xe.toNat Qr.z).M).Pairs).length:Int) > 20
      ·replace H:=sT c7 H
       rw [decide_eq_true c7]
       refine Qi hT 10 (K14 1110100100 1) ⟨69,(Wt.p0++[(3,.i Xe),(52,.b true)]),[.box 44 (Ym a0)]⟩ ?_
       exact Jj2 true H
      replace H:=sF c7 H
      rw [decide_eq_false c7]
      refine Qi hT 3 (K14 11101001000 13) ⟨69,(Wt.p0++[(3,.i Xe),(43,.b false),(45,.d (Qcx true a0.Held)),(46,.i Xe)]),[.box 44 (Ym a0)]⟩ ?_
      refine Qa7 hT [1,3,43,47] (i:=Xe) (n:=(a0.Held.length:Int)) h6.1 h6.2 (k':=(K14 11101001000 14)) (st':=⟨69,(Wt.p0++[(3,.i Xe),(43,.b false),(47,.d (Qw1 true a0.Held Xe.toNat 0))]),[.box 44 (Ym a0)]⟩) (by kernel_rfl) ?_
      refine Qi hT 6 (K14 1110100100 1) ⟨69,(Wt.p0++[(3,.i Xe),(52,.b (decide ((((a0.Held.getD Xe.toNat Qr.z).Qep).length:Int) > 30)))]),[.box 44 (Ym a0)]⟩ ?_
      exact Jj2 (decide ((((a0.Held.getD Xe.toNat Qr.z).Qep).length:Int) > 30)) H
     replace H:=sF c5 H
     rw [decide_eq_false c5]
     refine Qi hT 9 (K14 1111010 0) ⟨69,(Wt.p0++[(4,.i 0)]),[.box 44 (Ym a0)]⟩ ?_
     exact ih.2 0 H
    intro Qby H
    refine Qi hT 9 (K14 111101000 1) ⟨69,(Wt.p0++[(4,.i Qby),(57,.b (decide (Qby < (a0.Log.length:Int))))]),[.box 44 (Ym a0)]⟩ ?_
    by_cases c9:Qby < (a0.Log.length:Int)
    ·replace H:=sT c9 H
     rw [decide_eq_true c9]
     refine Qi hT 2 (K14 11110100 1) ⟨69,(Wt.p0++[(4,.i Qby)]),[.box 44 (Ym a0)]⟩ ?_
     refine Qi hT 7 (K14 111101001000 3) ⟨69,(Wt.p0++[(4,.i Qby),(61,.d (Zy true a0.Log)),(62,.i Qby)]),[.box 44 (Ym a0)]⟩ ?_
     obtain ⟨h10,H⟩:=sC H
     refine Qa7 hT [1,4,63] (i:=Qby) (n:=(a0.Log.length:Int)) h10.1 h10.2 (k':=(K14 111101001000 4)) (st':=⟨69,(Wt.p0++[(4,.i Qby),(63,.d (Qg1 true a0.Log Qby.toNat 0))]),[.box 44 (Ym a0)]⟩) (by kernel_rfl) ?_
     refine Qi hT 6 (K14 11110100100 1) ⟨69,(Wt.p0++[(4,.i Qby),(68,.b (decide (((((a0.Log.getD Qby.toNat Qc.z).M).Pairs).length:Int) > 20)))]),[.box 44 (Ym a0)]⟩ ?_
     by_cases c11:((((a0.Log.getD Qby.toNat Qc.z).M).Pairs).length:Int) > 20
     ·replace H:=sT c11 H
      rw [decide_eq_true c11]
      refine Qi hT 5 (K14 1111010010010 1) ⟨69,[(2,.b false)],[.box 44 (Ym a0)]⟩ ?_
      obtain rfl:=Zb H
      exact Yr hf hX h0 (.b false) [] an (.d (.v _))
     replace H:=sF c11 H
     rw [decide_eq_false c11]
     refine Qi hT 3 (K14 111101001 1) ⟨69,(Wt.p0++[(4,.i Qby)]),[.box 44 (Ym a0)]⟩ ?_
     refine Qi hT 6 (K14 1111010 0) ⟨69,(Wt.p0++[(4,.i (IntKind.wrap .i64 (Qby+1)))]),[.box 44 (Ym a0)]⟩ ?_
     exact ih.2 (IntKind.wrap .i64 (Qby+1)) H
    replace H:=sF c9 H
    rw [decide_eq_false c9]
    refine Qi hT 6 (K14 11111 1) ⟨69,[(2,.b true)],[.box 44 (Ym a0)]⟩ ?_
    obtain rfl:=Zb H
    exact Yr hf hX h0 (.b true) [] an (.d (.v _))
  obtain ⟨n,H⟩:=Qcn H
  exact (L n).1 0 H
 refine Qi hT 13 (K14 1100 5) ⟨69,(Wt.p0++[(9,.b (decide ((a0.Held.length:Int) > 30)))]),[.box 44 (Ym a0)]⟩ ?_
 by_cases c1:(a0.Held.length:Int) > 30
 ·replace H:=iT c1 H
  rw [decide_eq_true c1]
  refine Qi hT 18 (K14 110 1) ⟨69,(Wt.p0++[(26,.b true)]),[.box 44 (Ym a0)]⟩ ?_
  exact Zl true H
 replace H:=iF c1 H
 rw [decide_eq_false c1]
 refine Qi hT 6 (K14 1100 11) ⟨69,(Wt.p0++[(15,.b (decide ((a0.Log.length:Int) > 40)))]),[.box 44 (Ym a0)]⟩ ?_
 by_cases c2:(a0.Log.length:Int) > 40
 ·replace H:=iT c2 H
  rw [decide_eq_true c2]
  refine Qi hT 12 (K14 110 1) ⟨69,(Wt.p0++[(26,.b true)]),[.box 44 (Ym a0)]⟩ ?_
  exact Zl true H
 replace H:=iF c2 H
 rw [decide_eq_false c2]
 refine Qi hT 6 (K14 1100 17) ⟨69,(Wt.p0++[(21,.b (decide ((a0.Qw.length:Int) > 60)))]),[.box 44 (Ym a0)]⟩ ?_
 by_cases c3:(a0.Qw.length:Int) > 60
 ·replace H:=iT c3 H
  rw [decide_eq_true c3]
  refine Qi hT 6 (K14 110 1) ⟨69,(Wt.p0++[(26,.b true)]),[.box 44 (Ym a0)]⟩ ?_
  exact Zl true H
 replace H:=iF c3 H
 rw [decide_eq_false c3]
 refine Qi hT 6 (K14 110 1) ⟨69,(Wt.p0++[(26,.b (decide ((a0.Base.length:Int) > 60)))]),[.box 44 (Ym a0)]⟩ ?_
 exact Zl (decide ((a0.Base.length:Int) > 60)) H
theorem Jm.Wl {t0:Bool} (a0:List Qf) {r:Bool} (H:Jm a0=some r):Yn Tryz.prog 5 [] [.d (Ju t0 a0)] [] (.b r):=by
 refine Xt Tryz.func5 rfl (nt:=20) rfl (lb rfl) fun X hP h0 hX=>?_
 have hT:Xl X.P T:=hP▸tok
 have hf:X.P.funcs[5]? = some Tryz.f5:=hP▸Tryz.func5
 refine Qi hT 11 (K5 11010 0) ⟨20,[(0,.d (Ju t0 a0)),(3,.i 0)],[]⟩ ?_
 have L:∀ n,(∀ (Xe:Int),iter (Jm.step a0) n (.l1 Xe)=some r->AK X 5 ((K5 11010 0)) (Jb X [] (.b r)) ⟨20,[(0,.d (Ju t0 a0)),(3,.i Xe)],[]⟩):=by
  intro n
  induction n with
  | zero=>exact fun _ H=>Qbx H
  | succ n ih=>
   ·intro Xe H
    refine Qi hT 8 (K5 1101000 1) ⟨20,[(0,.d (Ju t0 a0)),(3,.i Xe),(7,.b (decide (Xe < (a0.length:Int))))],[]⟩ ?_
    by_cases c1:Xe < (a0.length:Int)
    ·replace H:=sT c1 H
     have Zl:∀ (Qrc:Bool),stk (Jm.j1 Xe Qrc) (iter (Jm.step a0) n)=some r->AK X 5 ((K5 110100100 1)) (Jb X [] (.b r)) ⟨20,[(0,.d (Ju t0 a0)),(3,.i Xe),(19,.b Qrc)],[]⟩:=by
      intro Qrc H
      by_cases c5:Qrc=true
      ·replace H:=sT c5 H
       rw [c5]
       refine Qi hT 5 (K5 11010010010 1) ⟨20,[(2,.b false)],[]⟩ ?_
       obtain rfl:=Zb H
       exact Yr hf hX h0 (.b false) [] an (.d (.v _))
      replace H:=sF c5 H
      rw [boF c5]
      refine Qi hT 3 (K5 1101001 1) ⟨20,[(0,.d (Ju t0 a0)),(3,.i Xe)],[]⟩ ?_
      refine Qi hT 6 (K5 11010 0) ⟨20,[(0,.d (Ju t0 a0)),(3,.i (IntKind.wrap .i64 (Xe+1)))],[]⟩ ?_
      exact ih (IntKind.wrap .i64 (Xe+1)) H
     rw [decide_eq_true c1]
     refine Qi hT 2 (K5 110100 1) ⟨20,[(0,.d (Ju t0 a0)),(3,.i Xe)],[]⟩ ?_
     refine Qi hT 7 (K5 1101001000 3) ⟨20,[(0,.d (Ju t0 a0)),(3,.i Xe),(12,.b (decide (Xe > 6)))],[]⟩ ?_
     by_cases c2:Xe > 6
     ·replace H:=sT c2 H
      rw [decide_eq_true c2]
      refine Qi hT 8 (K5 110100100 1) ⟨20,[(0,.d (Ju t0 a0)),(3,.i Xe),(19,.b true)],[]⟩ ?_
      exact Zl true H
     replace H:=sF c2 H
     rw [decide_eq_false c2]
     refine Qi hT 2 (K5 1101001000 5) ⟨20,[(0,.d (Ju t0 a0)),(3,.i Xe),(12,.b false),(13,.d (Ju t0 a0)),(14,.i Xe)],[]⟩ ?_
     obtain ⟨h3,H⟩:=sC H
     refine Qa7 hT [0,3,12,15] (i:=Xe) (n:=(a0.length:Int)) h3.1 h3.2 (k':=(K5 1101001000 6)) (st':=⟨20,[(0,.d (Ju t0 a0)),(3,.i Xe),(12,.b false),(15,.d (Qw0 t0 a0 Xe.toNat 0))],[]⟩) (by kernel_rfl) ?_
     refine Qi hT 1 (K5 1101001000 7) ⟨20,[(0,.d (Ju t0 a0)),(3,.i Xe),(12,.b false),(16,.d (Qct (a0.getD Xe.toNat Qf.z)))],[]⟩ ?_
     obtain ⟨v1,h4,H⟩:=sbC H
     refine Wj (Xw:=[.d (Qct (a0.getD Xe.toNat Qf.z))]) (dst:=some 17) (k':=(K5 1101001000 8)) [0,3,12,17] [] hP Wdd (Wt.Wl (a0.getD Xe.toNat Qf.z) h4) (by kernel_rfl) (Qz _) (.cons (Qn _) .nil) (st':=⟨20,[(0,.d (Ju t0 a0)),(3,.i Xe),(12,.b false),(17,.b v1)],[]⟩) (by kernel_rfl) ?_
     refine Qi hT 3 (K5 110100100 1) ⟨20,[(0,.d (Ju t0 a0)),(3,.i Xe),(19,.b (!v1))],[]⟩ ?_
     exact Zl (!v1) H
    replace H:=sF c1 H
    rw [decide_eq_false c1]
    refine Qi hT 6 (K5 111 1) ⟨20,[(2,.b true)],[]⟩ ?_
    obtain rfl:=Zb H
    exact Yr hf hX h0 (.b true) [] an (.d (.v _))
 obtain ⟨n,H⟩:=Qcn H
 exact (L n) 0 H
theorem Qav.Wl (a0:Int) (a1:Int) (a2:Int):Yn Tryz.prog 49 [] [.i a0,.i a1,.i a2] [] (.b (Qav a0 a1 a2)):=by
 obtain ⟨r,H⟩:∃ r,Qav a0 a1 a2=r:=⟨_,rfl⟩
 rw [H]
 refine Xt Tryz.func49 rfl (nt:=15) rfl (lb rfl) fun X hP h0 hX=>?_
 have hT:Xl X.P T:=hP▸tok
 have hf:X.P.funcs[49]? = some Tryz.f49:=hP▸Tryz.func49
 have Zl:∀ (Qjl:Bool),(Qav.j1 Qjl)=r->AK X 49 ((K49 11 1)) (Jb X [] (.b r)) ⟨15,[(6,.b Qjl)],[]⟩:=by
  intro Qjl H
  obtain rfl:=H
  exact Yr hf hX h0 (.b Qjl) [] an (.d (.v _))
 refine Qi hT 10 (K49 110 4) ⟨15,[(0,.i a0),(2,.i a2),(10,.b (decide (a0>=a1)))],[]⟩ ?_
 by_cases c1:a0>=a1
 ·replace H:=iT c1 H
  rw [decide_eq_true c1]
  refine Qi hT 6 (K49 11 1) ⟨15,[(6,.b (decide (a0<=a2)))],[]⟩ ?_
  exact Zl (decide (a0<=a2)) H
 replace H:=iF c1 H
 rw [decide_eq_false c1]
 refine Qi hT 6 (K49 11 1) ⟨15,[(6,.b false)],[]⟩ ?_
 exact Zl false H
theorem Qdn.Wl (a0:Int):Yn Tryz.prog 51 [] [.i a0] [] (.b (Qdn a0)):=by
 obtain ⟨r,H⟩:∃ r,Qdn a0=r:=⟨_,rfl⟩
 rw [H]
 refine Xt Tryz.func51 rfl (nt:=5) rfl (lb rfl) fun X hP h0 hX=>?_
 have hT:Xl X.P T:=hP▸tok
 have hf:X.P.funcs[51]? = some Tryz.f51:=hP▸Tryz.func51
 refine Qi hT 7 (K51 110 1) ⟨5,[(3,.i a0)],[]⟩ ?_
 refine Wj (Xw:=[.i a0,.i 0,.i 1099511627775]) (dst:=some 4) (k':=(K51 110 2)) [4] [] hP Qeu (Qav.Wl a0 0 1099511627775) (by kernel_rfl) (Qz _) (.cons (Qn _) (.cons (Qn _) (.cons (Qn _) .nil))) (st':=⟨5,[(4,.b (Qav a0 0 1099511627775))],[]⟩) (by kernel_rfl) ?_
 refine Qi hT 2 (K51 11 1) ⟨5,[(2,.b (Qav a0 0 1099511627775))],[]⟩ ?_
 obtain rfl:=H
 exact Yr hf hX h0 (.b (Qav a0 0 1099511627775)) [] an (.d (.v _))
theorem Qay.Wl (a0:Qf):Yn Tryz.prog 53 [] [.d (Qct a0)] [Qao (Qay a0)] (.own 0 2 0 ((Qay a0).length)):=by
 obtain ⟨r,H⟩:∃ r,Qay a0=r:=⟨_,rfl⟩
 rw [H]
 refine Xt Tryz.func53 rfl (nt:=6) rfl (lb rfl) fun X hP h0 hX=>?_
 have hT:Xl X.P T:=hP▸tok
 have hf:X.P.funcs[53]? = some Tryz.f53:=hP▸Tryz.func53
 refine Qi hT 12 (K53 11 1) ⟨6,[(2,.own 1 2 0 1)],[.box 44 (Ym a0),.flat false 2 39 1 (fun j=>[Qb.e a0.Keys].getD j [])]⟩ ?_
 refine Qi9 1 (kk:=2) (fz:=false) (ty:=39) (n:=([a0.Keys]:List Qb).length) (vec Qb.e Qb.z ([a0.Keys]:List Qb)) (by kernel_rfl) Qhx (st':=⟨6,[(2,.own 1 2 0 (([a0.Keys]:List Qb).length))],[.box 44 (Ym a0),Qao ([a0.Keys]:List Qb)]⟩) (by kernel_rfl) ?_
 obtain rfl:=H
 exact Yr hf hX h0 (.own 1 2 0 (([a0.Keys]:List Qb).length)) [1] (ac (Qbd Qb.nl) an) (.own _ _ _ _)
abbrev Jf.p0 (t0:Bool) (a0:List Qa) (t1:Bool) (a1:List Qb):List (Nat × AV):=[(0,.d (Xj t0 a0)),(1,.d (Xf t1 a1))]
theorem Jf.Wl {t0:Bool} {t1:Bool} (a0:List Qa) (a1:List Qb) {r:List Qa} (H:Jf a0 a1=some r):Yn Tryz.prog 52 [] [.d (Xj t0 a0),.d (Xf t1 a1)] [Xp r] (.own 0 2 0 r.length):=by
 refine Xt Tryz.func52 rfl (nt:=32) rfl (lb rfl) fun X hP h0 hX=>?_
 have hT:Xl X.P T:=hP▸tok
 have hf:X.P.funcs[52]? = some Tryz.f52:=hP▸Tryz.func52
 refine Qi hT 8 (K52 1100 1) ⟨32,(Jf.p0 t0 a0 t1 a1++[(8,.d (Xj t0 a0))]),[]⟩ ?_
 obtain ⟨v1,h1,H⟩:=ibC H
 have Zl:∀ (Qq9:Bool),(Jf.j1 a0 a1 Qq9)=some r->AK X 52 ((K52 110 1)) (Jb X [Xp r] (.own 0 2 0 r.length)) ⟨32,(Jf.p0 t0 a0 t1 a1++[(15,.b Qq9)]),[]⟩:=by
  intro Qq9 H
  by_cases c4:Qq9=true
  ·replace H:=iT c4 H
   rw [c4]
   refine Qi hT 5 (K52 11010 1) ⟨32,[(4,.ns)],[]⟩ ?_
   refine Qe8 [4] 4 2 56 (vec Qa.e Qa.z []) (st':=⟨32,[(4,.own 0 2 0 0)],[Xp ([]:List Qa)]⟩) (by kernel_rfl) (by kernel_rfl) ?_
   obtain rfl:=Zb H
   exact Yr hf hX h0 (.own 0 2 0 0) [0] (ac (Qbd Qa.nl) an) (.own _ _ _ _)
  replace H:=iF c4 H
  rw [boF c4]
  refine Qi hT 2 (K52 11 1) ⟨32,(Jf.p0 t0 a0 t1 a1),[]⟩ ?_
  refine Qi hT 13 (K52 1111010 0) ⟨32,[(1,.d (Xf t1 a1)),(5,.ns),(16,.d (Xj t0 a0)),(17,.i (a0.length:Int)),(18,.i 0)],[]⟩ ?_
  refine Qe8 [1,5,16,17,18] 5 2 56 (vec Qa.e Qa.z []) (st':=⟨32,[(1,.d (Xf t1 a1)),(5,.own 0 2 0 0),(16,.d (Xj t0 a0)),(17,.i (a0.length:Int)),(18,.i 0)],[Xp ([]:List Qa)]⟩) (by kernel_rfl) (by kernel_rfl) ?_
  have L:∀ n,(∀ (Qbo:Int) (Qh:List Qa),iter (Jf.step a0 a1) n (.l1 Qbo Qh)=some r->AK X 52 ((K52 1111010 0)) (Jb X [Xp r] (.own 0 2 0 r.length)) ⟨32,[(1,.d (Xf t1 a1)),(5,.own 0 2 0 Qh.length),(16,.d (Xj t0 a0)),(17,.i (a0.length:Int)),(18,.i Qbo)],[Xp Qh]⟩):=by
   intro n
   induction n with
   | zero=>exact fun _ _ H=>Qbx H
   | succ n ih=>
    ·intro Qbo Qh H
     refine Qi hT 5 (K52 111101001 0) ⟨32,[(1,.d (Xf t1 a1)),(5,.own 0 2 0 Qh.length),(16,.d (Xj t0 a0)),(17,.i (a0.length:Int)),(18,.i Qbo),(19,.b (decide (Qbo < (a0.length:Int))))],[Xp Qh]⟩ ?_
     by_cases c5:Qbo < (a0.length:Int)
     ·replace H:=sT c5 H
      rw [decide_eq_true c5]
      refine Qi hT 2 (K52 111101001 1) ⟨32,[(1,.d (Xf t1 a1)),(5,.own 0 2 0 Qh.length),(16,.d (Xj t0 a0)),(17,.i (a0.length:Int)),(18,.i Qbo)],[Xp Qh]⟩ ?_
      refine Qi hT 4 (K52 1111010011000 0) ⟨32,[(1,.d (Xf t1 a1)),(5,.own 0 2 0 Qh.length),(16,.d (Xj t0 a0)),(17,.i (a0.length:Int)),(18,.i Qbo)],[Xp Qh]⟩ ?_
      obtain ⟨h6,H⟩:=sC H
      refine Qa7 hT [1,5,16,17,18,20] (i:=Qbo) (n:=(a0.length:Int)) h6.1 h6.2 (k':=(K52 1111010011000 1)) (st':=⟨32,[(1,.d (Xf t1 a1)),(5,.own 0 2 0 Qh.length),(16,.d (Xj t0 a0)),(17,.i (a0.length:Int)),(18,.i Qbo),(20,.d (Qec t0 a0 Qbo.toNat 0))],[Xp Qh]⟩) (by kernel_rfl) ?_
      refine Qi hT 9 (K52 11110100110010 3) ⟨32,[(1,.d (Xf t1 a1)),(5,.own 0 2 0 Qh.length),(7,.ptr 1 0 0 0),(16,.d (Xj t0 a0)),(17,.i (a0.length:Int)),(18,.i Qbo),(22,.d (Xf t1 a1)),(24,.i ((a0.getD Qbo.toNat Qa.z).Key))],[Xp Qh,.box 56 (Qcc (a0.getD Qbo.toNat Qa.z))]⟩ ?_
      obtain ⟨v3,h7,H⟩:=sbC H
      have Jj2:∀ (Qfo:List Qa),stk (Jf.j2 Qbo Qfo) (iter (Jf.step a0 a1) n)=some r->AK X 52 ((K52 1111010011 1)) (Jb X [Xp r] (.own 0 2 0 r.length)) ⟨32,[(1,.d (Xf t1 a1)),(5,.own 0 2 0 Qfo.length),(16,.d (Xj t0 a0)),(17,.i (a0.length:Int)),(18,.i Qbo)],[Xp Qfo]⟩:=by
       intro Qfo H
       refine Qi hT 5 (K52 1111010 0) ⟨32,[(1,.d (Xf t1 a1)),(5,.own 0 2 0 Qfo.length),(16,.d (Xj t0 a0)),(17,.i (a0.length:Int)),(18,.i (IntKind.wrap .i64 (Qbo+1)))],[Xp Qfo]⟩ ?_
       exact ih (IntKind.wrap .i64 (Qbo+1)) Qfo H
      refine Wj (Xw:=[.d (Xf t1 a1),.i ((a0.getD Qbo.toNat Qa.z).Key)]) (dst:=some 25) (k':=(K52 11110100110010 4)) [1,5,7,16,17,18,25] [] hP Qmx (Qfm.Wl (t0:=t1) a1 ((a0.getD Qbo.toNat Qa.z).Key) h7) (by kernel_rfl) (Qz _) (.cons (Qn _) (.cons (Qn _) .nil)) (st':=⟨32,[(1,.d (Xf t1 a1)),(5,.own 0 2 0 Qh.length),(7,.ptr 1 0 0 0),(16,.d (Xj t0 a0)),(17,.i (a0.length:Int)),(18,.i Qbo),(25,.b v3)],[Xp Qh,.box 56 (Qcc (a0.getD Qbo.toNat Qa.z))]⟩) (by kernel_rfl) ?_
      refine Qi hT 1 (K52 1111010011001 1) ⟨32,[(1,.d (Xf t1 a1)),(5,.own 0 2 0 Qh.length),(7,.ptr 1 0 0 0),(16,.d (Xj t0 a0)),(17,.i (a0.length:Int)),(18,.i Qbo),(25,.b v3)],[Xp Qh,.box 56 (Qcc (a0.getD Qbo.toNat Qa.z))]⟩ ?_
      by_cases c8:v3=true
      ·replace H:=sT c8 H
       rw [c8]
       refine Qi hT 5 (K52 111101001100110 3) ⟨32,[(1,.d (Xf t1 a1)),(16,.d (Xj t0 a0)),(17,.i (a0.length:Int)),(18,.i Qbo),(26,.own 0 2 0 Qh.length),(28,.own 2 2 0 1)],[Xp Qh,.box 56 (Qcc (a0.getD Qbo.toNat Qa.z)),.flat false 2 56 1 (fun j=>[Qa.e (a0.getD Qbo.toNat Qa.z)].getD j [])]⟩ ?_
       obtain ⟨h9,H⟩:=sC H
       refine Qe1 (id:=0) (kk:=2) (by':=16) (t:=41) (e:=56) (z:=[.int .i64 0,.int .i64 0]) (dst:=some 29) (id2:=2) (e2:=56) (fz:=false) (k':=(K52 111101001100110 4)) hT Qa.e Qa.z Qh (a0.getD Qbo.toNat Qa.z) [1,16,17,18,29] (by kernel_rfl) (by kernel_rfl) (by kernel_rfl) (by kernel_rfl) (by kernel_rfl) (by kernel_rfl) (by kernel_rfl) h9 (by omega) (st':=⟨32,[(1,.d (Xf t1 a1)),(16,.d (Xj t0 a0)),(17,.i (a0.length:Int)),(18,.i Qbo),(29,.own 3 2 0 ((Qh ++ [(a0.getD Qbo.toNat Qa.z)]).length))],[.gone,.box 56 (Qcc (a0.getD Qbo.toNat Qa.z)),.flat false 2 56 1 (fun j=>[Qa.e (a0.getD Qbo.toNat Qa.z)].getD j []),Xp (Qh ++ [(a0.getD Qbo.toNat Qa.z)])]⟩) (by kernel_rfl) ?_
       refine Yi hT 3 (K52 1111010011 1) [3] ⟨32,[(1,.d (Xf t1 a1)),(5,.own 0 2 0 (Qh ++ [(a0.getD Qbo.toNat Qa.z)]).length),(16,.d (Xj t0 a0)),(17,.i (a0.length:Int)),(18,.i Qbo)],[Xp (Qh ++ [(a0.getD Qbo.toNat Qa.z)])]⟩ h0 ?_
       exact Jj2 (Qh ++ [(a0.getD Qbo.toNat Qa.z)]) H
      replace H:=sF c8 H
      rw [boF c8]
      refine Yi hT 3 (K52 1111010011 1) [0] ⟨32,[(1,.d (Xf t1 a1)),(5,.own 0 2 0 Qh.length),(16,.d (Xj t0 a0)),(17,.i (a0.length:Int)),(18,.i Qbo)],[Xp Qh]⟩ h0 ?_
      exact Jj2 Qh H
     replace H:=sF c5 H
     rw [decide_eq_false c5]
     refine Qi hT 7 (K52 11111 1) ⟨32,[(4,.own 0 2 0 Qh.length)],[Xp Qh]⟩ ?_
     obtain rfl:=Zb H
     exact Yr hf hX h0 (.own 0 2 0 Qh.length) [0] (ac (Qbd Qa.nl) an) (.own _ _ _ _)
  refine Qkp [0] ⟨32,[(1,.d (Xf t1 a1)),(5,.own 0 2 0 ([]:List Qa).length),(16,.d (Xj t0 a0)),(17,.i (a0.length:Int)),(18,.i 0)],[Xp ([]:List Qa)]⟩ h0 ?_
  obtain ⟨n,H⟩:=Qcn H
  exact (L n) 0 ([]:List Qa) H
 refine Wj (Xw:=[.d (Xj t0 a0)]) (dst:=some 9) (k':=(K52 1100 2)) [0,1,9] [] hP Qhb (Xc.Wl (t0:=t0) a0 h1) (by kernel_rfl) (Qz _) (.cons (Qn _) .nil) (st':=⟨32,(Jf.p0 t0 a0 t1 a1++[(9,.b v1)]),[]⟩) (by kernel_rfl) ?_
 refine Qi hT 2 (K52 1100 4) ⟨32,(Jf.p0 t0 a0 t1 a1++[(11,.b (!v1))]),[]⟩ ?_
 by_cases c2:v1=true
 ·replace H:=iT c2 H
  rw [c2]
  refine Qi hT 1 (K52 1100 5) ⟨32,(Jf.p0 t0 a0 t1 a1++[(11,.b false),(12,.d (Xf t1 a1))]),[]⟩ ?_
  obtain ⟨v2,h3,H⟩:=ibC H
  refine Wj (Xw:=[.d (Xf t1 a1)]) (dst:=some 13) (k':=(K52 1100 6)) [0,1,11,13] [] hP Qjp (Zg.Wl (t0:=t1) a1 h3) (by kernel_rfl) (Qz _) (.cons (Qn _) .nil) (st':=⟨32,(Jf.p0 t0 a0 t1 a1++[(11,.b false),(13,.b v2)]),[]⟩) (by kernel_rfl) ?_
  refine Qi hT 3 (K52 110 1) ⟨32,(Jf.p0 t0 a0 t1 a1++[(15,.b (!v2))]),[]⟩ ?_
  exact Zl (!v2) H
 replace H:=iF c2 H
 rw [boF c2]
 refine Qi hT 5 (K52 110 1) ⟨32,(Jf.p0 t0 a0 t1 a1++[(15,.b true)]),[]⟩ ?_
 exact Zl true H
abbrev Qc9.q1 (a0:Ql) (a1:Ql):=([Yf a0.Client a1.Client,Yf a0.Seq a1.Seq]:List Int)
theorem Qc9.Wl (a0:Ql) (a1:Ql) {r:Int} (H:Qc9 a0 a1=some r):Yn Tryz.prog 86 [] [.d (Qfg a0),.d (Qfg a1)] [] (.i r):=by
 refine Xt Tryz.func86 rfl (nt:=17) rfl (lb rfl) fun X hP h0 hX=>?_
 have hT:Xl X.P T:=hP▸tok
 have hf:X.P.funcs[86]? = some Tryz.f86:=hP▸Tryz.func86
 refine Qi hT 7 (K86 11 0) ⟨17,[(2,.ptr 0 0 0 0),(3,.ptr 1 0 0 0)],[.box 125 (Qeh a0),.box 125 (Qeh a1)]⟩ ?_
 refine Qbt (hP▸mixed) 9 [2,3] (sm [.ptr 0 0 0 0,.i a0.Client,.ptr 1 0 0 0,.i a1.Client,.i (Yf a0.Client a1.Client),.ptr 0 0 0 1,.i a0.Seq,.ptr 1 0 0 1,.i a1.Seq]) (Qg (Qg (Qg (Qg (opS (Qg (Qg (Qg (Qg op0 hT) hT) hT) hT) (fun R rest h=>Jz (Xw:=[.i a0.Client,.i a1.Client]) (dst:=some 9) hP Qie (Yf.Wl a0.Client a1.Client) (by kernel_rfl) (.cons (Qn _) (.cons (Qn _) .nil)) (by kernel_rfl) h)) hT) hT) hT) hT) ?_
 refine Qi hT 0 (K86 110 9) ⟨17,[(9,.i (Yf a0.Client a1.Client)),(11,.i a0.Seq),(13,.i a1.Seq)],[.box 125 (Qeh a0),.box 125 (Qeh a1)]⟩ ?_
 refine Wj (Xw:=[.i a0.Seq,.i a1.Seq]) (dst:=some 14) (k':=(K86 110 10)) [9,14] [] hP Qie (Yf.Wl a0.Seq a1.Seq) (by kernel_rfl) (Qz _) (.cons (Qn _) (.cons (Qn _) .nil)) (st':=⟨17,[(9,.i (Yf a0.Client a1.Client)),(14,.i (Yf a0.Seq a1.Seq))],[.box 125 (Qeh a0),.box 125 (Qeh a1)]⟩) (by kernel_rfl) ?_
 refine Qi hT 1 (K86 110 11) ⟨17,[(15,.own 2 1 0 2)],[.box 125 (Qeh a0),.box 125 (Qeh a1),.flat false 1 3 2 (fun j=>[[.i (Yf a0.Client a1.Client)],[.i (Yf a0.Seq a1.Seq)]].getD j [])]⟩ ?_
 refine Qi9 2 (kk:=1) (fz:=false) (ty:=3) (n:=(Qc9.q1 a0 a1).length) (vec (eI .i64) 0 (Qc9.q1 a0 a1)) (by kernel_rfl) Qhx (st':=⟨17,[(15,.own 2 1 0 ((Qc9.q1 a0 a1).length))],[.box 125 (Qeh a0),.box 125 (Qeh a1),eR3 (Qc9.q1 a0 a1)]⟩) (by kernel_rfl) ?_
 obtain ⟨v1,h1,H⟩:=ibC H
 refine Wj (Xw:=[.own 2 1 0 ((Qc9.q1 a0 a1).length)]) (dst:=some 16) (k':=(K86 110 12)) [16] [] hP Qu5 (Jt.Wl (t0:=false) (Qc9.q1 a0 a1) h1) (by kernel_rfl) (Qz _) (.cons (.Qd4 (ty:=3) (by kernel_rfl) rfl) .nil) (st':=⟨17,[(16,.i v1)],[.box 125 (Qeh a0),.box 125 (Qeh a1),eR3 (Qc9.q1 a0 a1)]⟩) (by kernel_rfl) ?_
 refine Qi hT 2 (K86 11 1) ⟨17,[(4,.i v1)],[.box 125 (Qeh a0),.box 125 (Qeh a1),eR3 (Qc9.q1 a0 a1)]⟩ ?_
 obtain rfl:=Zb H
 exact Yr hf hX h0 (.i v1) [] an (.d (.v _))
abbrev Xm.q1 (a0:Qf) (Qy:Int):=(a0.Qw.getD Qy.toNat Ql.z)
abbrev Xm.p0 (a0:Qf):List (Nat × AV):=[(1,.ptr 0 0 0 0),(6,.d (Qb0 true a0.Qw)),(7,.i (a0.Qw.length:Int))]
theorem Xm.Wl (a0:Qf) {r:Bool} (H:Xm a0=some r):Yn Tryz.prog 54 [] [.d (Qct a0)] [] (.b r):=by
 refine Xt Tryz.func54 rfl (nt:=45) rfl (lb rfl) fun X hP h0 hX=>?_
 have hT:Xl X.P T:=hP▸tok
 have hf:X.P.funcs[54]? = some Tryz.f54:=hP▸Tryz.func54
 refine Qi hT 15 (K54 11010 0) ⟨45,(Xm.p0 a0++[(8,.i 0)]),[.box 44 (Ym a0)]⟩ ?_
 have L:∀ n,(∀ (Qy:Int),iter (Xm.step a0) n (.l1 Qy)=some r->AK X 54 ((K54 11010 0)) (Jb X [] (.b r)) ⟨45,(Xm.p0 a0++[(8,.i Qy)]),[.box 44 (Ym a0)]⟩):=by
  intro n
  induction n with
  | zero=>exact fun _ H=>Qbx H
  | succ n ih=>
   ·intro Qy H
    refine Qi hT 5 (K54 1101001 0) ⟨45,(Xm.p0 a0++[(8,.i Qy),(9,.b (decide (Qy < (a0.Qw.length:Int))))]),[.box 44 (Ym a0)]⟩ ?_
    by_cases c1:Qy < (a0.Qw.length:Int)
    ·replace H:=sT c1 H
     rw [decide_eq_true c1]
     refine Qi hT 2 (K54 1101001 1) ⟨45,(Xm.p0 a0++[(8,.i Qy)]),[.box 44 (Ym a0)]⟩ ?_
     refine Qi hT 5 (K54 11010011000 1) ⟨45,(Xm.p0 a0++[(8,.i Qy),(10,.i Qy)]),[.box 44 (Ym a0)]⟩ ?_
     obtain ⟨h2,H⟩:=sC H
     have Zl:∀ (Qri:Bool),stk (Xm.j1 Qy Qri) (iter (Xm.step a0) n)=some r->AK X 54 ((K54 11010011001 1)) (Jb X [] (.b r)) ⟨45,(Xm.p0 a0++[(8,.i Qy),(43,.b Qri)]),[.box 44 (Ym a0)]⟩:=by
      intro Qri H
      by_cases c9:Qri=true
      ·replace H:=sT c9 H
       rw [c9]
       refine Qi hT 5 (K54 1101001100110 1) ⟨45,[(2,.b false)],[.box 44 (Ym a0)]⟩ ?_
       obtain rfl:=Zb H
       exact Yr hf hX h0 (.b false) [] an (.d (.v _))
      replace H:=sF c9 H
      rw [boF c9]
      refine Qi hT 3 (K54 11010011 1) ⟨45,(Xm.p0 a0++[(8,.i Qy)]),[.box 44 (Ym a0)]⟩ ?_
      refine Qi hT 5 (K54 11010 0) ⟨45,(Xm.p0 a0++[(8,.i (IntKind.wrap .i64 (Qy+1)))]),[.box 44 (Ym a0)]⟩ ?_
      exact ih (IntKind.wrap .i64 (Qy+1)) H
     refine Qa7 hT [1,6,7,8,10,11] (i:=Qy) (n:=(a0.Qw.length:Int)) h2.1 h2.2 (k':=(K54 11010011000 2)) (st':=⟨45,(Xm.p0 a0++[(8,.i Qy),(10,.i Qy),(11,.d (Qj2 true a0.Qw Qy.toNat 0))]),[.box 44 (Ym a0)]⟩) (by kernel_rfl) ?_
     refine Qi hT 6 (K54 11010011001 0) ⟨45,[(1,.ptr 0 0 0 0),(3,.i Qy),(4,.ptr 1 0 0 0),(6,.d (Qb0 true a0.Qw)),(7,.i (a0.Qw.length:Int)),(8,.i Qy)],[.box 44 (Ym a0),.box 125 (Qeh (Xm.q1 a0 Qy))]⟩ ?_
     by_cases c3:(Qav ((Xm.q1 a0 Qy).Client) 1 1048576)=true
     ·replace H:=sT c3 H
      by_cases c4:(Qav ((Xm.q1 a0 Qy).Seq) 1 1073741824)=true
      ·replace H:=sT c4 H
       by_cases c5:(Qdn ((Xm.q1 a0 Qy).Time))=true
       ·replace H:=sT c5 H
        by_cases c6:Qy > 0
        ·replace H:=sT c6 H
         obtain ⟨h7,H⟩:=sC H
         obtain ⟨v1,h8,H⟩:=sbC H
         refine Qbt (hP▸mixed) 31 [1,3,4,6,7,8] (sm [.ptr 1 0 0 0,.i ((Xm.q1 a0 Qy).Client),.b true,.b false,.b false,.ptr 1 0 0 1,.i ((Xm.q1 a0 Qy).Seq),.b true,.b false,.b false,.b false,.ptr 1 0 0 2,.i ((Xm.q1 a0 Qy).Time),.b true,.b false,.b false,.b false,.i Qy,.b true,.b true,.ptr 0 0 0 9,.d (Qb0 true a0.Qw),.i Qy,.i (IntKind.wrap .i64 (Qy - 1)),.d (Qj2 true a0.Qw ((IntKind.wrap .i64 (Qy - 1)).toNat) 0),.d (Qfg (a0.Qw.getD ((IntKind.wrap .i64 (Qy - 1)).toNat) Ql.z)),.d (Qfg (Xm.q1 a0 Qy)),.i v1,.b (decide (v1>=0)),.b (decide (v1>=0)),.b (decide (v1>=0))]) (Qg (Qg (Qg (opS (Qg (Qg (opS (Qg (Qg (Qg (Qg (Qg (opV (Qg (Qg (Qg (Qg (opS (Qg (Qg (Qg (Qg (Qg (opS (Qg (Qg (Qg (Qg (opS (Qg (Qg op0 hT) hT) (fun R rest h=>Jz (Xw:=[.i ((Xm.q1 a0 Qy).Client),.i 1,.i 1048576]) (dst:=some 15) hP Qeu (by have q:=Qav.Wl ((Xm.q1 a0 Qy).Client) 1 1048576;rw [c3] at q;exact q) (by kernel_rfl) (.cons (Qn _) (.cons (Qn _) (.cons (Qn _) .nil))) (by kernel_rfl) h)) hT) hT) hT) hT) (fun R rest h=>Jz (Xw:=[.i ((Xm.q1 a0 Qy).Seq),.i 1,.i 1073741824]) (dst:=some 20) hP Qeu (by have q:=Qav.Wl ((Xm.q1 a0 Qy).Seq) 1 1073741824;rw [c4] at q;exact q) (by kernel_rfl) (.cons (Qn _) (.cons (Qn _) (.cons (Qn _) .nil))) (by kernel_rfl) h)) hT) hT) hT) hT) hT) (fun R rest h=>Jz (Xw:=[.i ((Xm.q1 a0 Qy).Time)]) (dst:=some 26) hP Qmv (by have q:=Qdn.Wl ((Xm.q1 a0 Qy).Time);rw [c5] at q;exact q) (by kernel_rfl) (.cons (Qn _) .nil) (by kernel_rfl) h)) hT) hT) hT) hT) hT 31 (.b (decide (Qy > 0))) (.b true) (by rw [decide_eq_true c6]<;>rfl)) hT) hT) hT) hT) hT) (fun R rest h=>Qae hT (i:=IntKind.wrap .i64 (Qy - 1)) (n:=(a0.Qw.length:Int)) h7.1 h7.2 (by kernel_rfl) h)) hT) hT) (fun R rest h=>Jz (Xw:=[.d (Qfg (a0.Qw.getD ((IntKind.wrap .i64 (Qy - 1)).toNat) Ql.z)),.d (Qfg (Xm.q1 a0 Qy))]) (dst:=some 40) hP Qu7 (Qc9.Wl (a0.Qw.getD ((IntKind.wrap .i64 (Qy - 1)).toNat) Ql.z) (Xm.q1 a0 Qy) h8) (by kernel_rfl) (.cons (Qn _) (.cons (Qn _) .nil)) (by kernel_rfl) h)) hT) hT) hT) ?_
         refine Yi hT 1 (K54 11010011001 1) [0] ⟨45,(Xm.p0 a0++[(8,.i Qy),(43,.b (decide (v1>=0)))]),[.box 44 (Ym a0)]⟩ h0 ?_
         exact Zl (decide (v1>=0)) H
        replace H:=sF c6 H
        refine Qbt (hP▸mixed) 31 [1,3,4,6,7,8] (sm [.ptr 1 0 0 0,.i ((Xm.q1 a0 Qy).Client),.b true,.b false,.b false,.ptr 1 0 0 1,.i ((Xm.q1 a0 Qy).Seq),.b true,.b false,.b false,.b false,.ptr 1 0 0 2,.i ((Xm.q1 a0 Qy).Time),.b true,.b false,.b false,.b false,.i Qy,.b false,.b false,.Qq [],.Qq [],.Qq [],.Qq [],.Qq [],.Qq [],.Qq [],.Qq [],.Qq [],.b false,.b false]) (Qg (Qg (Qg (Qg (Qg (Qg (Qg (Qg (Qg (Qg (Qg (Qg (opV (Qg (Qg (Qg (Qg (opS (Qg (Qg (Qg (Qg (Qg (opS (Qg (Qg (Qg (Qg (opS (Qg (Qg op0 hT) hT) (fun R rest h=>Jz (Xw:=[.i ((Xm.q1 a0 Qy).Client),.i 1,.i 1048576]) (dst:=some 15) hP Qeu (by have q:=Qav.Wl ((Xm.q1 a0 Qy).Client) 1 1048576;rw [c3] at q;exact q) (by kernel_rfl) (.cons (Qn _) (.cons (Qn _) (.cons (Qn _) .nil))) (by kernel_rfl) h)) hT) hT) hT) hT) (fun R rest h=>Jz (Xw:=[.i ((Xm.q1 a0 Qy).Seq),.i 1,.i 1073741824]) (dst:=some 20) hP Qeu (by have q:=Qav.Wl ((Xm.q1 a0 Qy).Seq) 1 1073741824;rw [c4] at q;exact q) (by kernel_rfl) (.cons (Qn _) (.cons (Qn _) (.cons (Qn _) .nil))) (by kernel_rfl) h)) hT) hT) hT) hT) hT) (fun R rest h=>Jz (Xw:=[.i ((Xm.q1 a0 Qy).Time)]) (dst:=some 26) hP Qmv (by have q:=Qdn.Wl ((Xm.q1 a0 Qy).Time);rw [c5] at q;exact q) (by kernel_rfl) (.cons (Qn _) .nil) (by kernel_rfl) h)) hT) hT) hT) hT) hT 31 (.b (decide (Qy > 0))) (.b false) (by rw [decide_eq_false c6]<;>rfl)) hT) hT) hT) hT) hT) hT) hT) hT) hT) hT) hT) hT) ?_
        refine Yi hT 1 (K54 11010011001 1) [0] ⟨45,(Xm.p0 a0++[(8,.i Qy),(43,.b false)]),[.box 44 (Ym a0)]⟩ h0 ?_
        exact Zl false H
       replace H:=sF c5 H
       refine Qbt (hP▸mixed) 31 [1,3,4,6,7,8] (sm [.ptr 1 0 0 0,.i ((Xm.q1 a0 Qy).Client),.b true,.b false,.b false,.ptr 1 0 0 1,.i ((Xm.q1 a0 Qy).Seq),.b true,.b false,.b false,.b false,.ptr 1 0 0 2,.i ((Xm.q1 a0 Qy).Time),.b false,.b true,.b true,.b true,.Qq [],.Qq [],.Qq [],.Qq [],.Qq [],.Qq [],.Qq [],.Qq [],.Qq [],.Qq [],.Qq [],.Qq [],.Qq [],.b true]) (Qg (Qg (Qg (Qg (Qg (Qg (Qg (Qg (Qg (Qg (Qg (Qg (Qg (Qg (Qg (Qg (Qg (opS (Qg (Qg (Qg (Qg (Qg (opS (Qg (Qg (Qg (Qg (opS (Qg (Qg op0 hT) hT) (fun R rest h=>Jz (Xw:=[.i ((Xm.q1 a0 Qy).Client),.i 1,.i 1048576]) (dst:=some 15) hP Qeu (by have q:=Qav.Wl ((Xm.q1 a0 Qy).Client) 1 1048576;rw [c3] at q;exact q) (by kernel_rfl) (.cons (Qn _) (.cons (Qn _) (.cons (Qn _) .nil))) (by kernel_rfl) h)) hT) hT) hT) hT) (fun R rest h=>Jz (Xw:=[.i ((Xm.q1 a0 Qy).Seq),.i 1,.i 1073741824]) (dst:=some 20) hP Qeu (by have q:=Qav.Wl ((Xm.q1 a0 Qy).Seq) 1 1073741824;rw [c4] at q;exact q) (by kernel_rfl) (.cons (Qn _) (.cons (Qn _) (.cons (Qn _) .nil))) (by kernel_rfl) h)) hT) hT) hT) hT) hT) (fun R rest h=>Jz (Xw:=[.i ((Xm.q1 a0 Qy).Time)]) (dst:=some 26) hP Qmv (by have q:=Qdn.Wl ((Xm.q1 a0 Qy).Time);rw [boF c5] at q;exact q) (by kernel_rfl) (.cons (Qn _) .nil) (by kernel_rfl) h)) hT) hT) hT) hT) hT) hT) hT) hT) hT) hT) hT) hT) hT) hT) hT) hT) hT) ?_
       refine Yi hT 1 (K54 11010011001 1) [0] ⟨45,(Xm.p0 a0++[(8,.i Qy),(43,.b true)]),[.box 44 (Ym a0)]⟩ h0 ?_
       exact Zl true H
      replace H:=sF c4 H
      refine Qbt (hP▸mixed) 31 [1,3,4,6,7,8] (sm [.ptr 1 0 0 0,.i ((Xm.q1 a0 Qy).Client),.b true,.b false,.b false,.ptr 1 0 0 1,.i ((Xm.q1 a0 Qy).Seq),.b false,.b true,.b true,.b true,.Qq [],.Qq [],.Qq [],.Qq [],.b true,.b true,.Qq [],.Qq [],.Qq [],.Qq [],.Qq [],.Qq [],.Qq [],.Qq [],.Qq [],.Qq [],.Qq [],.Qq [],.Qq [],.b true]) (Qg (Qg (Qg (Qg (Qg (Qg (Qg (Qg (Qg (Qg (Qg (Qg (Qg (Qg (Qg (Qg (Qg (Qg (Qg (Qg (Qg (Qg (Qg (opS (Qg (Qg (Qg (Qg (opS (Qg (Qg op0 hT) hT) (fun R rest h=>Jz (Xw:=[.i ((Xm.q1 a0 Qy).Client),.i 1,.i 1048576]) (dst:=some 15) hP Qeu (by have q:=Qav.Wl ((Xm.q1 a0 Qy).Client) 1 1048576;rw [c3] at q;exact q) (by kernel_rfl) (.cons (Qn _) (.cons (Qn _) (.cons (Qn _) .nil))) (by kernel_rfl) h)) hT) hT) hT) hT) (fun R rest h=>Jz (Xw:=[.i ((Xm.q1 a0 Qy).Seq),.i 1,.i 1073741824]) (dst:=some 20) hP Qeu (by have q:=Qav.Wl ((Xm.q1 a0 Qy).Seq) 1 1073741824;rw [boF c4] at q;exact q) (by kernel_rfl) (.cons (Qn _) (.cons (Qn _) (.cons (Qn _) .nil))) (by kernel_rfl) h)) hT) hT) hT) hT) hT) hT) hT) hT) hT) hT) hT) hT) hT) hT) hT) hT) hT) hT) hT) hT) hT) hT) hT) ?_
      refine Yi hT 1 (K54 11010011001 1) [0] ⟨45,(Xm.p0 a0++[(8,.i Qy),(43,.b true)]),[.box 44 (Ym a0)]⟩ h0 ?_
      exact Zl true H
     replace H:=sF c3 H
     refine Qbt (hP▸mixed) 31 [1,3,4,6,7,8] (sm [.ptr 1 0 0 0,.i ((Xm.q1 a0 Qy).Client),.b false,.b true,.b true,.Qq [],.Qq [],.Qq [],.Qq [],.b true,.b true,.Qq [],.Qq [],.Qq [],.Qq [],.b true,.b true,.Qq [],.Qq [],.Qq [],.Qq [],.Qq [],.Qq [],.Qq [],.Qq [],.Qq [],.Qq [],.Qq [],.Qq [],.Qq [],.b true]) (Qg (Qg (Qg (Qg (Qg (Qg (Qg (Qg (Qg (Qg (Qg (Qg (Qg (Qg (Qg (Qg (Qg (Qg (Qg (Qg (Qg (Qg (Qg (Qg (Qg (Qg (Qg (Qg (opS (Qg (Qg op0 hT) hT) (fun R rest h=>Jz (Xw:=[.i ((Xm.q1 a0 Qy).Client),.i 1,.i 1048576]) (dst:=some 15) hP Qeu (by have q:=Qav.Wl ((Xm.q1 a0 Qy).Client) 1 1048576;rw [boF c3] at q;exact q) (by kernel_rfl) (.cons (Qn _) (.cons (Qn _) (.cons (Qn _) .nil))) (by kernel_rfl) h)) hT) hT) hT) hT) hT) hT) hT) hT) hT) hT) hT) hT) hT) hT) hT) hT) hT) hT) hT) hT) hT) hT) hT) hT) hT) hT) hT) hT) ?_
     refine Yi hT 1 (K54 11010011001 1) [0] ⟨45,(Xm.p0 a0++[(8,.i Qy),(43,.b true)]),[.box 44 (Ym a0)]⟩ h0 ?_
     exact Zl true H
    replace H:=sF c1 H
    rw [decide_eq_false c1]
    refine Qi hT 6 (K54 111 1) ⟨45,[(2,.b true)],[.box 44 (Ym a0)]⟩ ?_
    obtain rfl:=Zb H
    exact Yr hf hX h0 (.b true) [] an (.d (.v _))
 obtain ⟨n,H⟩:=Qcn H
 exact (L n) 0 H
abbrev Qa0.q1 (a0:Qu) (Zw:Int):=(⟨(a0.Pairs.getD Zw.toNat Qa.z).Key,IntKind.wrap .i64 (((a0.Pairs.getD Zw.toNat Qa.z).Key)+1)⟩:Qb)
theorem Qa0.Wl (a0:Qu) {r:List Qb} (H:Qa0 a0=some r):Yn Tryz.prog 36 [] [.d (Qaq a0)] [] (.d (Xf true r)):=by
 refine Xt Tryz.func36 rfl (nt:=40) rfl (lb rfl) fun X hP h0 hX=>?_
 have hT:Xl X.P T:=hP▸tok
 have hf:X.P.funcs[36]? = some Tryz.f36:=hP▸Tryz.func36
 refine Qi hT 9 (K36 1100 1) ⟨40,[(1,.ptr 0 0 0 0),(8,.d (Qaq a0))],[.box 47 (Yk a0)]⟩ ?_
 obtain ⟨v1,h1,H⟩:=ibC H
 refine Wj (Xw:=[.d (Qaq a0)]) (dst:=some 9) (k':=(K36 1100 2)) [1,9] [] hP Qha (Qbn.Wl a0 h1) (by kernel_rfl) (Qz _) (.cons (Qn _) .nil) (st':=⟨40,[(1,.ptr 0 0 0 0),(9,.b v1)],[.box 47 (Yk a0)]⟩) (by kernel_rfl) ?_
 refine Qi hT 2 (K36 110 1) ⟨40,[(1,.ptr 0 0 0 0),(10,.b (!v1))],[.box 47 (Yk a0)]⟩ ?_
 by_cases c2:v1=true
 ·replace H:=iT c2 H
  rw [c2]
  refine Qi hT 2 (K36 11 1) ⟨40,[(1,.ptr 0 0 0 0)],[.box 47 (Yk a0)]⟩ ?_
  refine Qi hT 7 (K36 1110 1) ⟨40,[(1,.ptr 0 0 0 0),(13,.b (a0.Kind == 2))],[.box 47 (Yk a0)]⟩ ?_
  by_cases c3:a0.Kind=2
  ·replace H:=iT c3 H
   rw [eqT c3]
   refine Qi hT 8 (K36 111010 1) ⟨40,[(2,.own 1 2 0 1)],[.box 47 (Yk a0),.flat false 2 39 1 (fun j=>[Qb.e a0.Over].getD j [])]⟩ ?_
   refine Qi9 1 (kk:=2) (fz:=false) (ty:=39) (n:=([a0.Over]:List Qb).length) (vec Qb.e Qb.z ([a0.Over]:List Qb)) (by kernel_rfl) Qhx (st':=⟨40,[(2,.own 1 2 0 (([a0.Over]:List Qb).length))],[.box 47 (Yk a0),Qao ([a0.Over]:List Qb)]⟩) (by kernel_rfl) ?_
   refine Qeg 1 (kk:=2) (n:=([a0.Over]:List Qb).length) (ty:=39) (g:=vec Qb.e Qb.z ([a0.Over]:List Qb)) (by kernel_rfl) (st':=⟨40,[(2,.own 1 2 0 (([a0.Over]:List Qb).length))],[.box 47 (Yk a0),Qhj ([a0.Over]:List Qb)]⟩) (by kernel_rfl) ?_
   refine Qhi (av:=.own 1 2 0 1) (y:=Xf true ([a0.Over]:List Qb)) [2] 2 (st':=⟨40,[(2,.d (Xf true ([a0.Over]:List Qb)))],[.box 47 (Yk a0),Qhj ([a0.Over]:List Qb)]⟩) (by kernel_rfl) (.own (ty:=39) (k:=2) (by kernel_rfl)) (by kernel_rfl) ?_
   obtain rfl:=Zb H
   exact Yr hf hX h0 (.d (Xf true ([a0.Over]:List Qb))) [] an (.d (.sl fun _ _=>Qb.nl _))
  replace H:=iF c3 H
  rw [eqF c3]
  refine Qi hT 2 (K36 111 1) ⟨40,[(1,.ptr 0 0 0 0)],[.box 47 (Yk a0)]⟩ ?_
  refine Qi hT 14 (K36 11111010 0) ⟨40,[(3,.ns),(18,.d (Xj true a0.Pairs)),(19,.i (a0.Pairs.length:Int)),(20,.i 0)],[.box 47 (Yk a0)]⟩ ?_
  refine Qe8 [3,18,19,20] 3 2 39 (vec Qb.e Qb.z []) (st':=⟨40,[(3,.own 1 2 0 0),(18,.d (Xj true a0.Pairs)),(19,.i (a0.Pairs.length:Int)),(20,.i 0)],[.box 47 (Yk a0),Qao ([]:List Qb)]⟩) (by kernel_rfl) (by kernel_rfl) ?_
  have L:∀ n,(∀ (Zw:Int) (Qh:List Qb),iter (Qa0.step a0) n (.l1 Zw Qh)=some r->AK X 36 ((K36 11111010 0)) (Jb X [] (.d (Xf true r))) ⟨40,[(3,.own 0 2 0 Qh.length),(18,.d (Xj true a0.Pairs)),(19,.i (a0.Pairs.length:Int)),(20,.i Zw)],[Qao Qh]⟩):=by
   intro n
   induction n with
   | zero=>exact fun _ _ H=>Qbx H
   | succ n ih=>
    ·intro Zw Qh H
     refine Qi hT 5 (K36 1111101001 0) ⟨40,[(3,.own 0 2 0 Qh.length),(18,.d (Xj true a0.Pairs)),(19,.i (a0.Pairs.length:Int)),(20,.i Zw),(21,.b (decide (Zw < (a0.Pairs.length:Int))))],[Qao Qh]⟩ ?_
     by_cases c4:Zw < (a0.Pairs.length:Int)
     ·replace H:=sT c4 H
      rw [decide_eq_true c4]
      refine Qi hT 2 (K36 1111101001 1) ⟨40,[(3,.own 0 2 0 Qh.length),(18,.d (Xj true a0.Pairs)),(19,.i (a0.Pairs.length:Int)),(20,.i Zw)],[Qao Qh]⟩ ?_
      refine Qi hT 4 (K36 11111010011000 0) ⟨40,[(3,.own 0 2 0 Qh.length),(18,.d (Xj true a0.Pairs)),(19,.i (a0.Pairs.length:Int)),(20,.i Zw)],[Qao Qh]⟩ ?_
      obtain ⟨h6,H⟩:=sC H
      refine Qa7 hT [3,18,19,20,22] (i:=Zw) (n:=(a0.Pairs.length:Int)) h6.1 h6.2 (k':=(K36 11111010011000 1)) (st':=⟨40,[(3,.own 0 2 0 Qh.length),(18,.d (Xj true a0.Pairs)),(19,.i (a0.Pairs.length:Int)),(20,.i Zw),(22,.d (Qec true a0.Pairs Zw.toNat 0))],[Qao Qh]⟩) (by kernel_rfl) ?_
      refine Qi hT 13 (K36 11111010011001 8) ⟨40,[(18,.d (Xj true a0.Pairs)),(19,.i (a0.Pairs.length:Int)),(20,.i Zw),(24,.own 0 2 0 Qh.length),(31,.own 2 2 0 1)],[Qao Qh,.box 56 (Qcc (a0.Pairs.getD Zw.toNat Qa.z)),.flat false 2 39 1 (fun j=>[[.i ((a0.Pairs.getD Zw.toNat Qa.z).Key),.i (IntKind.wrap .i64 (((a0.Pairs.getD Zw.toNat Qa.z).Key)+1))]].getD j [])]⟩ ?_
      obtain ⟨h7,H⟩:=sC H
      refine Qe1 (id:=0) (kk:=2) (by':=16) (t:=51) (e:=39) (z:=[.int .i64 0,.int .i64 0]) (dst:=some 32) (id2:=2) (e2:=39) (fz:=false) (k':=(K36 11111010011001 9)) hT Qb.e Qb.z Qh (Qa0.q1 a0 Zw) [18,19,20,32] (by kernel_rfl) (by kernel_rfl) (by kernel_rfl) (by kernel_rfl) (by kernel_rfl) (by kernel_rfl) (by kernel_rfl) h7 (by omega) (st':=⟨40,[(18,.d (Xj true a0.Pairs)),(19,.i (a0.Pairs.length:Int)),(20,.i Zw),(32,.own 3 2 0 ((Qh ++ [(Qa0.q1 a0 Zw)]).length))],[.gone,.box 56 (Qcc (a0.Pairs.getD Zw.toNat Qa.z)),.flat false 2 39 1 (fun j=>[[.i ((a0.Pairs.getD Zw.toNat Qa.z).Key),.i (IntKind.wrap .i64 (((a0.Pairs.getD Zw.toNat Qa.z).Key)+1))]].getD j []),Qao (Qh ++ [(Qa0.q1 a0 Zw)])]⟩) (by kernel_rfl) ?_
      refine Yi hT 8 (K36 11111010 0) [3] ⟨40,[(3,.own 0 2 0 (Qh ++ [(Qa0.q1 a0 Zw)]).length),(18,.d (Xj true a0.Pairs)),(19,.i (a0.Pairs.length:Int)),(20,.i (IntKind.wrap .i64 (Zw+1)))],[Qao (Qh ++ [(Qa0.q1 a0 Zw)])]⟩ h0 ?_
      exact ih (IntKind.wrap .i64 (Zw+1)) (Qh ++ [(Qa0.q1 a0 Zw)]) H
     replace H:=sF c4 H
     rw [decide_eq_false c4]
     refine Qi hT 5 (K36 1111110 1) ⟨40,[(35,.own 0 2 0 Qh.length)],[Qao Qh]⟩ ?_
     refine Qeg 0 (kk:=2) (n:=Qh.length) (ty:=39) (g:=vec Qb.e Qb.z Qh) (by kernel_rfl) (st':=⟨40,[(35,.own 0 2 0 Qh.length)],[Qhj Qh]⟩) (by kernel_rfl) ?_
     obtain ⟨v2,h5,H⟩:=sbC H
     refine Wj (Xw:=[.own 0 2 0 Qh.length]) (dst:=some 36) (k':=(K36 1111110 2)) [36] [] hP Wd3 (Qv.Wl Qh h5) (by kernel_rfl) (Qz _) (.cons (.Qd4 (ty:=39) (by kernel_rfl) rfl) .nil) (st':=⟨40,[(36,.Qq [.d (Xf true v2.1),.i v2.2])],[Qhj Qh]⟩) (by kernel_rfl) ?_
     refine Qi hT 11 (K36 1111111 1) ⟨40,[(2,.d (Xf true v2.1))],[Qhj Qh]⟩ ?_
     obtain rfl:=Zb H
     exact Yr hf hX h0 (.d (Xf true v2.1)) [] an (.d (.sl fun _ _=>Qb.nl _))
  refine Qkp [1] ⟨40,[(3,.own 0 2 0 ([]:List Qb).length),(18,.d (Xj true a0.Pairs)),(19,.i (a0.Pairs.length:Int)),(20,.i 0)],[Qao ([]:List Qb)]⟩ h0 ?_
  obtain ⟨n,H⟩:=Qcn H
  exact (L n) 0 ([]:List Qb) H
 replace H:=iF c2 H
 rw [boF c2]
 refine Qi hT 5 (K36 11010 1) ⟨40,[(2,.ns)],[.box 47 (Yk a0)]⟩ ?_
 refine Qhi (av:=.d (.v (.slice none 0 0))) (y:=Xf true ([]:List Qb)) [2] 2 (st':=⟨40,[(2,.d (Xf true ([]:List Qb)))],[.box 47 (Yk a0)]⟩) (by kernel_rfl) (.nil _) (by kernel_rfl) ?_
 obtain rfl:=Zb H
 exact Yr hf hX h0 (.d (Xf true ([]:List Qb))) [] an (.d (.sl fun _ _=>Qb.nl _))
theorem Qak.Wl {t0:Bool} {t1:Bool} (a0:List Qb) (a1:List Qb) {r:List Qb} (H:Qak a0 a1=some r):Yn Tryz.prog 73 [] [.d (Xf t0 a0),.d (Xf t1 a1)] [Qao r] (.own 0 2 0 r.length):=by
 refine Xt Tryz.func73 rfl (nt:=46) rfl (lb rfl) fun X hP h0 hX=>?_
 have hT:Xl X.P T:=hP▸tok
 have hf:X.P.funcs[73]? = some Tryz.f73:=hP▸Tryz.func73
 refine Qi hT 17 (K73 111010 0) ⟨46,[(1,.d (Xf t1 a1)),(5,.ns),(11,.d (Xf t0 a0)),(12,.i (a0.length:Int)),(13,.i 0)],[]⟩ ?_
 refine Qe8 [1,5,11,12,13] 5 2 39 (vec Qb.e Qb.z []) (st':=⟨46,[(1,.d (Xf t1 a1)),(5,.own 0 2 0 0),(11,.d (Xf t0 a0)),(12,.i (a0.length:Int)),(13,.i 0)],[Qao ([]:List Qb)]⟩) (by kernel_rfl) (by kernel_rfl) ?_
 have L:∀ n,(∀ (Yv:Int) (Qh:List Qb),iter (Qak.step a0 a1) n (.l1 Yv Qh)=some r->AK X 73 ((K73 111010 0)) (Jb X [Qao r] (.own 0 2 0 r.length)) ⟨46,[(1,.d (Xf t1 a1)),(5,.own 0 2 0 Qh.length),(11,.d (Xf t0 a0)),(12,.i (a0.length:Int)),(13,.i Yv)],[Qao Qh]⟩)/\(∀ (Qea:Int) (Qax:Int) (Ja:List Qb) (Yq:Int) (Xx:Int),iter (Qak.step a0 a1) n (.l2 Qea Qax Ja Yq Xx)=some r->AK X 73 ((K73 11101001100110 0)) (Jb X [Qao r] (.own 0 2 0 r.length)) ⟨46,[(1,.d (Xf t1 a1)),(5,.own 0 2 0 Ja.length),(7,.ptr 1 0 0 0),(11,.d (Xf t0 a0)),(12,.i (a0.length:Int)),(13,.i Qea),(17,.d (Xf t1 a1)),(18,.i (a1.length:Int)),(19,.i Qax)],[Qao Ja,.box 39 [.i Yq,.i Xx]]⟩):=by
  intro n
  induction n with
  | zero=>exact ⟨fun _ _ H=>Qbx H,fun _ _ _ _ _ H=>Qbx H⟩
  | succ n ih=>
   refine ⟨?_, ?_⟩
   ·intro Yv Qh H
    refine Qi hT 5 (K73 11101001 0) ⟨46,[(1,.d (Xf t1 a1)),(5,.own 0 2 0 Qh.length),(11,.d (Xf t0 a0)),(12,.i (a0.length:Int)),(13,.i Yv),(14,.b (decide (Yv < (a0.length:Int))))],[Qao Qh]⟩ ?_
    by_cases c1:Yv < (a0.length:Int)
    ·replace H:=sT c1 H
     rw [decide_eq_true c1]
     refine Qi hT 2 (K73 11101001 1) ⟨46,[(1,.d (Xf t1 a1)),(5,.own 0 2 0 Qh.length),(11,.d (Xf t0 a0)),(12,.i (a0.length:Int)),(13,.i Yv)],[Qao Qh]⟩ ?_
     refine Qi hT 4 (K73 111010011000 0) ⟨46,[(1,.d (Xf t1 a1)),(5,.own 0 2 0 Qh.length),(11,.d (Xf t0 a0)),(12,.i (a0.length:Int)),(13,.i Yv)],[Qao Qh]⟩ ?_
     obtain ⟨h2,H⟩:=sC H
     refine Qa7 hT [1,5,11,12,13,15] (i:=Yv) (n:=(a0.length:Int)) h2.1 h2.2 (k':=(K73 111010011000 1)) (st':=⟨46,[(1,.d (Xf t1 a1)),(5,.own 0 2 0 Qh.length),(11,.d (Xf t0 a0)),(12,.i (a0.length:Int)),(13,.i Yv),(15,.d (Qt5 t0 a0 Yv.toNat 0))],[Qao Qh]⟩) (by kernel_rfl) ?_
     refine Yi hT 12 (K73 11101001100110 0) [0,1] ⟨46,[(1,.d (Xf t1 a1)),(5,.own 0 2 0 Qh.length),(7,.ptr 1 0 0 0),(11,.d (Xf t0 a0)),(12,.i (a0.length:Int)),(13,.i Yv),(17,.d (Xf t1 a1)),(18,.i (a1.length:Int)),(19,.i 0)],[Qao Qh,.box 39 [.i ((a0.getD Yv.toNat Qb.z).Lo),.i ((a0.getD Yv.toNat Qb.z).Hi)]]⟩ h0 ?_
     exact ih.2 Yv 0 Qh ((a0.getD Yv.toNat Qb.z).Lo) ((a0.getD Yv.toNat Qb.z).Hi) H
    replace H:=sF c1 H
    rw [decide_eq_false c1]
    refine Qi hT 7 (K73 1111 1) ⟨46,[(4,.own 0 2 0 Qh.length)],[Qao Qh]⟩ ?_
    obtain rfl:=Zb H
    exact Yr hf hX h0 (.own 0 2 0 Qh.length) [0] (ac (Qbd Qb.nl) an) (.own _ _ _ _)
   intro Qea Qax Ja Yq Xx H
   refine Qi hT 5 (K73 1110100110011001 0) ⟨46,[(1,.d (Xf t1 a1)),(5,.own 0 2 0 Ja.length),(7,.ptr 1 0 0 0),(11,.d (Xf t0 a0)),(12,.i (a0.length:Int)),(13,.i Qea),(17,.d (Xf t1 a1)),(18,.i (a1.length:Int)),(19,.i Qax),(20,.b (decide (Qax < (a1.length:Int))))],[Qao Ja,.box 39 [.i Yq,.i Xx]]⟩ ?_
   by_cases c3:Qax < (a1.length:Int)
   ·replace H:=sT c3 H
    rw [decide_eq_true c3]
    refine Qi hT 2 (K73 1110100110011001 1) ⟨46,[(1,.d (Xf t1 a1)),(5,.own 0 2 0 Ja.length),(7,.ptr 1 0 0 0),(11,.d (Xf t0 a0)),(12,.i (a0.length:Int)),(13,.i Qea),(17,.d (Xf t1 a1)),(18,.i (a1.length:Int)),(19,.i Qax)],[Qao Ja,.box 39 [.i Yq,.i Xx]]⟩ ?_
    refine Qi hT 4 (K73 11101001100110011000 0) ⟨46,[(1,.d (Xf t1 a1)),(5,.own 0 2 0 Ja.length),(7,.ptr 1 0 0 0),(11,.d (Xf t0 a0)),(12,.i (a0.length:Int)),(13,.i Qea),(17,.d (Xf t1 a1)),(18,.i (a1.length:Int)),(19,.i Qax)],[Qao Ja,.box 39 [.i Yq,.i Xx]]⟩ ?_
    obtain ⟨h4,H⟩:=sC H
    have Zl:∀ (Qlv:List Qb),stk (Qak.j1 Qea Qax Yq Xx Qlv) (iter (Qak.step a0 a1) n)=some r->AK X 73 ((K73 11101001100110011 1)) (Jb X [Qao r] (.own 0 2 0 r.length)) ⟨46,[(1,.d (Xf t1 a1)),(5,.own 0 2 0 Qlv.length),(7,.ptr 1 0 0 0),(11,.d (Xf t0 a0)),(12,.i (a0.length:Int)),(13,.i Qea),(17,.d (Xf t1 a1)),(18,.i (a1.length:Int)),(19,.i Qax)],[Qao Qlv,.box 39 [.i Yq,.i Xx]]⟩:=by
     intro Qlv H
     refine Qi hT 5 (K73 11101001100110 0) ⟨46,[(1,.d (Xf t1 a1)),(5,.own 0 2 0 Qlv.length),(7,.ptr 1 0 0 0),(11,.d (Xf t0 a0)),(12,.i (a0.length:Int)),(13,.i Qea),(17,.d (Xf t1 a1)),(18,.i (a1.length:Int)),(19,.i (IntKind.wrap .i64 (Qax+1)))],[Qao Qlv,.box 39 [.i Yq,.i Xx]]⟩ ?_
     exact ih.2 Qea (IntKind.wrap .i64 (Qax+1)) Qlv Yq Xx H
    refine Qa7 hT [1,5,7,11,12,13,17,18,19,21] (i:=Qax) (n:=(a1.length:Int)) h4.1 h4.2 (k':=(K73 11101001100110011000 1)) (st':=⟨46,[(1,.d (Xf t1 a1)),(5,.own 0 2 0 Ja.length),(7,.ptr 1 0 0 0),(11,.d (Xf t0 a0)),(12,.i (a0.length:Int)),(13,.i Qea),(17,.d (Xf t1 a1)),(18,.i (a1.length:Int)),(19,.i Qax),(21,.d (Qt5 t1 a1 Qax.toNat 0))],[Qao Ja,.box 39 [.i Yq,.i Xx]]⟩) (by kernel_rfl) ?_
    refine Qi hT 28 (K73 111010011001100110011 1) ⟨46,[(1,.d (Xf t1 a1)),(5,.own 0 2 0 Ja.length),(7,.ptr 1 0 0 0),(10,.ptr 3 0 0 0),(11,.d (Xf t0 a0)),(12,.i (a0.length:Int)),(13,.i Qea),(17,.d (Xf t1 a1)),(18,.i (a1.length:Int)),(19,.i Qax),(38,.b (decide ((Qeo Yq ((a1.getD Qax.toNat Qb.z).Lo)) < (Qgf Xx ((a1.getD Qax.toNat Qb.z).Hi)))))],[Qao Ja,.box 39 [.i Yq,.i Xx],.box 39 (Qfb (a1.getD Qax.toNat Qb.z)),.box 39 [.i (Qeo Yq ((a1.getD Qax.toNat Qb.z).Lo)),.i (Qgf Xx ((a1.getD Qax.toNat Qb.z).Hi))]]⟩ ?_
    by_cases c5:(Qeo Yq ((a1.getD Qax.toNat Qb.z).Lo)) < (Qgf Xx ((a1.getD Qax.toNat Qb.z).Hi))
    ·replace H:=sT c5 H
     rw [decide_eq_true c5]
     refine Qi hT 5 (K73 11101001100110011001110 3) ⟨46,[(1,.d (Xf t1 a1)),(7,.ptr 1 0 0 0),(11,.d (Xf t0 a0)),(12,.i (a0.length:Int)),(13,.i Qea),(17,.d (Xf t1 a1)),(18,.i (a1.length:Int)),(19,.i Qax),(39,.own 0 2 0 Ja.length),(41,.own 4 2 0 1)],[Qao Ja,.box 39 [.i Yq,.i Xx],.box 39 (Qfb (a1.getD Qax.toNat Qb.z)),.box 39 [.i (Qeo Yq ((a1.getD Qax.toNat Qb.z).Lo)),.i (Qgf Xx ((a1.getD Qax.toNat Qb.z).Hi))],.flat false 2 39 1 (fun j=>[[.i (Qeo Yq ((a1.getD Qax.toNat Qb.z).Lo)),.i (Qgf Xx ((a1.getD Qax.toNat Qb.z).Hi))]].getD j [])]⟩ ?_
     obtain ⟨h6,H⟩:=sC H
     refine Qe1 (id:=0) (kk:=2) (by':=16) (t:=51) (e:=39) (z:=[.int .i64 0,.int .i64 0]) (dst:=some 42) (id2:=4) (e2:=39) (fz:=false) (k':=(K73 11101001100110011001110 4)) hT Qb.e Qb.z Ja (⟨Qeo Yq ((a1.getD Qax.toNat Qb.z).Lo),Qgf Xx ((a1.getD Qax.toNat Qb.z).Hi)⟩:Qb) [1,7,11,12,13,17,18,19,42] (by kernel_rfl) (by kernel_rfl) (by kernel_rfl) (by kernel_rfl) (by kernel_rfl) (by kernel_rfl) (by kernel_rfl) h6 (by omega) (st':=⟨46,[(1,.d (Xf t1 a1)),(7,.ptr 1 0 0 0),(11,.d (Xf t0 a0)),(12,.i (a0.length:Int)),(13,.i Qea),(17,.d (Xf t1 a1)),(18,.i (a1.length:Int)),(19,.i Qax),(42,.own 5 2 0 ((Ja ++ [(⟨Qeo Yq ((a1.getD Qax.toNat Qb.z).Lo),Qgf Xx ((a1.getD Qax.toNat Qb.z).Hi)⟩:Qb)]).length))],[.gone,.box 39 [.i Yq,.i Xx],.box 39 (Qfb (a1.getD Qax.toNat Qb.z)),.box 39 [.i (Qeo Yq ((a1.getD Qax.toNat Qb.z).Lo)),.i (Qgf Xx ((a1.getD Qax.toNat Qb.z).Hi))],.flat false 2 39 1 (fun j=>[[.i (Qeo Yq ((a1.getD Qax.toNat Qb.z).Lo)),.i (Qgf Xx ((a1.getD Qax.toNat Qb.z).Hi))]].getD j []),Qao (Ja ++ [(⟨Qeo Yq ((a1.getD Qax.toNat Qb.z).Lo),Qgf Xx ((a1.getD Qax.toNat Qb.z).Hi)⟩:Qb)])]⟩) (by kernel_rfl) ?_
     refine Yi hT 3 (K73 11101001100110011 1) [5,1] ⟨46,[(1,.d (Xf t1 a1)),(5,.own 0 2 0 (Ja ++ [(⟨Qeo Yq ((a1.getD Qax.toNat Qb.z).Lo),Qgf Xx ((a1.getD Qax.toNat Qb.z).Hi)⟩:Qb)]).length),(7,.ptr 1 0 0 0),(11,.d (Xf t0 a0)),(12,.i (a0.length:Int)),(13,.i Qea),(17,.d (Xf t1 a1)),(18,.i (a1.length:Int)),(19,.i Qax)],[Qao (Ja ++ [(⟨Qeo Yq ((a1.getD Qax.toNat Qb.z).Lo),Qgf Xx ((a1.getD Qax.toNat Qb.z).Hi)⟩:Qb)]),.box 39 [.i Yq,.i Xx]]⟩ h0 ?_
     exact Zl (Ja ++ [(⟨Qeo Yq ((a1.getD Qax.toNat Qb.z).Lo),Qgf Xx ((a1.getD Qax.toNat Qb.z).Hi)⟩:Qb)]) H
    replace H:=sF c5 H
    rw [decide_eq_false c5]
    refine Yi hT 3 (K73 11101001100110011 1) [0,1] ⟨46,[(1,.d (Xf t1 a1)),(5,.own 0 2 0 Ja.length),(7,.ptr 1 0 0 0),(11,.d (Xf t0 a0)),(12,.i (a0.length:Int)),(13,.i Qea),(17,.d (Xf t1 a1)),(18,.i (a1.length:Int)),(19,.i Qax)],[Qao Ja,.box 39 [.i Yq,.i Xx]]⟩ h0 ?_
    exact Zl Ja H
   replace H:=sF c3 H
   rw [decide_eq_false c3]
   refine Yi hT 8 (K73 111010 0) [0] ⟨46,[(1,.d (Xf t1 a1)),(5,.own 0 2 0 Ja.length),(11,.d (Xf t0 a0)),(12,.i (a0.length:Int)),(13,.i (IntKind.wrap .i64 (Qea+1)))],[Qao Ja]⟩ h0 ?_
   exact ih.1 (IntKind.wrap .i64 (Qea+1)) Ja H
 refine Qkp [0] ⟨46,[(1,.d (Xf t1 a1)),(5,.own 0 2 0 ([]:List Qb).length),(11,.d (Xf t0 a0)),(12,.i (a0.length:Int)),(13,.i 0)],[Qao ([]:List Qb)]⟩ h0 ?_
 obtain ⟨n,H⟩:=Qcn H
 exact (L n).1 0 ([]:List Qb) H
theorem Qdc.Wl {t0:Bool} {t1:Bool} (a0:List Qb) (a1:List Qb) {r:Bool} (H:Qdc a0 a1=some r):Yn Tryz.prog 35 [] [.d (Xf t0 a0),.d (Xf t1 a1)] [] (.b r):=by
 refine Xt Tryz.func35 rfl (nt:=18) rfl (lb rfl) fun X hP h0 hX=>?_
 have hT:Xl X.P T:=hP▸tok
 have hf:X.P.funcs[35]? = some Tryz.f35:=hP▸Tryz.func35
 refine Qi hT 7 (K35 110 1) ⟨18,[(0,.d (Xf t0 a0)),(1,.d (Xf t1 a1)),(5,.d (Xf t0 a0))],[]⟩ ?_
 obtain ⟨v1,h1,H⟩:=ibC H
 have Zl:∀ (Qdj:Bool),(Qdc.j1 Qdj)=some r->AK X 35 ((K35 11 1)) (Jb X [] (.b r)) ⟨18,[(4,.b Qdj)],[]⟩:=by
  intro Qdj H
  obtain rfl:=Zb H
  exact Yr hf hX h0 (.b Qdj) [] an (.d (.v _))
 refine Wj (Xw:=[.d (Xf t0 a0)]) (dst:=some 6) (k':=(K35 110 2)) [0,1,6] [] hP Qjp (Zg.Wl (t0:=t0) a0 h1) (by kernel_rfl) (Qz _) (.cons (Qn _) .nil) (st':=⟨18,[(0,.d (Xf t0 a0)),(1,.d (Xf t1 a1)),(6,.b v1)],[]⟩) (by kernel_rfl) ?_
 refine Qi hT 1 (K35 110 3) ⟨18,[(0,.d (Xf t0 a0)),(1,.d (Xf t1 a1)),(7,.b v1)],[]⟩ ?_
 by_cases c2:v1=true
 ·replace H:=iT c2 H
  rw [c2]
  refine Qi hT 1 (K35 110 4) ⟨18,[(0,.d (Xf t0 a0)),(1,.d (Xf t1 a1)),(7,.b true),(8,.d (Xf t1 a1))],[]⟩ ?_
  obtain ⟨v2,h3,H⟩:=ibC H
  refine Wj (Xw:=[.d (Xf t1 a1)]) (dst:=some 9) (k':=(K35 110 5)) [0,1,7,9] [] hP Qjp (Zg.Wl (t0:=t1) a1 h3) (by kernel_rfl) (Qz _) (.cons (Qn _) .nil) (st':=⟨18,[(0,.d (Xf t0 a0)),(1,.d (Xf t1 a1)),(7,.b true),(9,.b v2)],[]⟩) (by kernel_rfl) ?_
  refine Qi hT 2 (K35 110 7) ⟨18,[(0,.d (Xf t0 a0)),(1,.d (Xf t1 a1)),(11,.b v2)],[]⟩ ?_
  by_cases c4:v2=true
  ·replace H:=iT c4 H
   rw [c4]
   refine Qi hT 2 (K35 110 9) ⟨18,[(11,.b true),(12,.d (Xf t0 a0)),(13,.d (Xf t1 a1))],[]⟩ ?_
   obtain ⟨v3,h5,H⟩:=ibC H
   refine Wj (Xw:=[.d (Xf t0 a0),.d (Xf t1 a1)]) (dst:=some 14) (k':=(K35 110 10)) [11,14] [] hP Wd2 (Qak.Wl (t0:=t0) (t1:=t1) a0 a1 h5) (by kernel_rfl) (Qz _) (.cons (Qn _) (.cons (Qn _) .nil)) (st':=⟨18,[(11,.b true),(14,.own 0 2 0 v3.length)],[Qao v3]⟩) (by kernel_rfl) ?_
   refine Yi hT 5 (K35 11 1) [] ⟨18,[(4,.b (decide ((v3.length:Int) > 0)))],[]⟩ h0 ?_
   exact Zl (decide ((v3.length:Int) > 0)) H
  replace H:=iF c4 H
  rw [boF c4]
  refine Qi hT 8 (K35 11 1) ⟨18,[(4,.b false)],[]⟩ ?_
  exact Zl false H
 replace H:=iF c2 H
 rw [boF c2]
 refine Qi hT 12 (K35 11 1) ⟨18,[(4,.b false)],[]⟩ ?_
 exact Zl false H
theorem Qfp.Wl (a0:Qf) (a1:Qu) {r:Bool} (H:Qfp a0 a1=some r):Yn Tryz.prog 87 [] [.d (Qct a0),.d (Qaq a1)] [] (.b r):=by
 refine Xt Tryz.func87 rfl (nt:=10) rfl (lb rfl) fun X hP h0 hX=>?_
 have hT:Xl X.P T:=hP▸tok
 have hf:X.P.funcs[87]? = some Tryz.f87:=hP▸Tryz.func87
 refine Qi hT 7 (K87 11 0) ⟨10,[(2,.ptr 0 0 0 0),(3,.ptr 1 0 0 0)],[.box 44 (Ym a0),.box 47 (Yk a1)]⟩ ?_
 obtain ⟨v1,h1,H⟩:=ibC H
 refine Qbt (hP▸mixed) 3 [2,3] (sm [.d (Qaq a1),.d (Xf true v1),.d (Qct a0)]) (Qg (opS (Qg op0 hT) (fun R rest h=>Jz (Xw:=[.d (Qaq a1)]) (dst:=some 6) hP Qp0 (Qa0.Wl a1 h1) (by kernel_rfl) (.cons (Qn _) .nil) (by kernel_rfl) h)) hT) ?_
 refine Qi hT 0 (K87 110 3) ⟨10,[(6,.d (Xf true v1)),(7,.d (Qct a0))],[.box 44 (Ym a0),.box 47 (Yk a1)]⟩ ?_
 refine Wj (Xw:=[.d (Qct a0)]) (dst:=some 8) (k':=(K87 110 4)) [6,8] [] hP Qk8 (Qay.Wl a0) (by kernel_rfl) (Qz _) (.cons (Qn _) .nil) (st':=⟨10,[(6,.d (Xf true v1)),(8,.own 2 2 0 ((Qay a0).length))],[.box 44 (Ym a0),.box 47 (Yk a1),Qao (Qay a0)]⟩) (by kernel_rfl) ?_
 obtain ⟨v2,h2,H⟩:=idC H
 rw [<- h2]
 obtain ⟨v3,h3,H⟩:=ibC H
 refine Wj (Xw:=[.d (Xf true v1),.own 2 2 0 v2.length]) (dst:=some 9) (k':=(K87 110 5)) [9] [] hP Qpz (Qdc.Wl (t0:=true) (t1:=false) v1 v2 h3) (by kernel_rfl) (Qz _) (.cons (Qn _) (.cons (.Qd4 (ty:=39) (by kernel_rfl) rfl) .nil)) (st':=⟨10,[(9,.b v3)],[.box 44 (Ym a0),.box 47 (Yk a1),Qao v2]⟩) (by kernel_rfl) ?_
 refine Qi hT 2 (K87 11 1) ⟨10,[(4,.b v3)],[.box 44 (Ym a0),.box 47 (Yk a1),Qao v2]⟩ ?_
 obtain rfl:=Zb H
 exact Yr hf hX h0 (.b v3) [] an (.d (.v _))
theorem Xk.Wl {t0:Bool} {ff2:FuncId} {cc2:List DV} (a0:List Ql) (a1:Ql) (p2:Ql->Ql->Option Int) (he2:Sy.Enters Tryz.prog ff2) (hp2:∀ (z0:Ql) (z1:Ql) r,p2 z0 z1=some r->Yn Tryz.prog ff2 [] ([.d (Qfg z0),.d (Qfg z1)] ++ List.map AV.d cc2) [] (.i r)) {r:Int × Bool} (H:Xk a0 a1 p2=some r):Yn Tryz.prog 130 [] [.d (Qb0 t0 a0),.d (Qfg a1),.d (.fn ff2 cc2)] [] (.Qq [.i r.1,.b r.2]):=by
 refine Xt Tryz.func130 rfl (nt:=49) rfl (lb rfl) fun X hP h0 hX=>?_
 have hT:Xl X.P T:=hP▸tok
 have hf:X.P.funcs[130]? = some Tryz.f130:=hP▸Tryz.func130
 refine Qi hT 21 (Qkh 111100 0) ⟨49,[(0,.d (Qb0 t0 a0)),(2,.d (.fn ff2 cc2)),(4,.ptr 0 0 0 0),(8,.i (a0.length:Int)),(9,.i 0),(10,.i (a0.length:Int))],[.box 125 (Qeh a1)]⟩ ?_
 have L:∀ n,(∀ (Jy:Int) (Wu:Int),iter (Xk.step a0 a1 p2) n (.l1 Jy Wu)=some r->AK X 130 ((Qkh 111100 0)) (Jb X [] (.Qq [.i r.1,.b r.2])) ⟨49,[(0,.d (Qb0 t0 a0)),(2,.d (.fn ff2 cc2)),(4,.ptr 0 0 0 0),(8,.i (a0.length:Int)),(9,.i Jy),(10,.i Wu)],[.box 125 (Qeh a1)]⟩):=by
  intro n
  induction n with
  | zero=>exact fun _ _ H=>Qbx H
  | succ n ih=>
   ·intro Jy Wu H
    refine Qi hT 7 (Qkh 11110000 1) ⟨49,[(0,.d (Qb0 t0 a0)),(2,.d (.fn ff2 cc2)),(4,.ptr 0 0 0 0),(8,.i (a0.length:Int)),(9,.i Jy),(10,.i Wu),(17,.b (decide (Jy < Wu)))],[.box 125 (Qeh a1)]⟩ ?_
    by_cases c1:Jy < Wu
    ·replace H:=sT c1 H
     rw [decide_eq_true c1]
     refine Qi hT 2 (Qkh 1111000 1) ⟨49,[(0,.d (Qb0 t0 a0)),(2,.d (.fn ff2 cc2)),(4,.ptr 0 0 0 0),(8,.i (a0.length:Int)),(9,.i Jy),(10,.i Wu)],[.box 125 (Qeh a1)]⟩ ?_
     refine Qi hT 10 (Qkh 1111000100 7) ⟨49,[(0,.d (Qb0 t0 a0)),(2,.d (.fn ff2 cc2)),(4,.ptr 0 0 0 0),(8,.i (a0.length:Int)),(9,.i Jy),(10,.i Wu),(11,.i (IntKind.wrap .i64 (Int.fdiv (IntKind.wrap .u64 (IntKind.wrap .i64 (Jy+Wu))) 2)))],[.box 125 (Qeh a1)]⟩ ?_
     obtain ⟨v2,h5,H⟩:=sdC H
     rw [<- h5]
     refine Qi hT 2 (Qkh 1111000101 0) ⟨49,[(0,.d (Qb0 t0 a0)),(2,.d (.fn ff2 cc2)),(4,.ptr 0 0 0 0),(8,.i (a0.length:Int)),(9,.i Jy),(10,.i Wu),(11,.i v2)],[.box 125 (Qeh a1)]⟩ ?_
     obtain ⟨h6,H⟩:=sC H
     obtain ⟨v3,h7,H⟩:=sbC H
     refine Qbt (hP▸mixed) 8 [0,2,4,8,9,10,11] (sm [.d (.fn ff2 cc2),.d (Qb0 t0 a0),.i v2,.d (Qj2 t0 a0 v2.toNat 0),.d (Qfg (a0.getD v2.toNat Ql.z)),.d (Qfg a1),.i v3,.b (decide (v3 < 0))]) (Qg (opS (Qg (Qg (opS (Qg (Qg (Qg op0 hT) hT) hT) (fun R rest h=>Qae hT (i:=v2) (n:=(a0.length:Int)) h6.1 h6.2 (by kernel_rfl) h)) hT) hT) (fun R rest h=>Jz (Xw:=[.d (Qfg (a0.getD v2.toNat Ql.z)),.d (Qfg a1)] ++ List.map AV.d cc2) (dst:=some 30) hP he2 (hp2 (a0.getD v2.toNat Ql.z) a1 v3 h7) (by kernel_rfl) (.cons (Qn _) (.cons (Qn _) (Qfz _))) (by kernel_rfl) h)) hT) ?_
     refine Qi hT 1 (Qkh 1111000101 1) ⟨49,[(0,.d (Qb0 t0 a0)),(2,.d (.fn ff2 cc2)),(4,.ptr 0 0 0 0),(8,.i (a0.length:Int)),(9,.i Jy),(10,.i Wu),(11,.i v2),(31,.b (decide (v3 < 0)))],[.box 125 (Qeh a1)]⟩ ?_
     by_cases c8:v3 < 0
     ·replace H:=sT c8 H
      rw [decide_eq_true c8]
      refine Qi hT 8 (Qkh 111100 0) ⟨49,[(0,.d (Qb0 t0 a0)),(2,.d (.fn ff2 cc2)),(4,.ptr 0 0 0 0),(8,.i (a0.length:Int)),(9,.i (IntKind.wrap .i64 (v2+1))),(10,.i Wu)],[.box 125 (Qeh a1)]⟩ ?_
      exact ih (IntKind.wrap .i64 (v2+1)) Wu H
     replace H:=sF c8 H
     rw [decide_eq_false c8]
     refine Qi hT 7 (Qkh 111100 0) ⟨49,[(0,.d (Qb0 t0 a0)),(2,.d (.fn ff2 cc2)),(4,.ptr 0 0 0 0),(8,.i (a0.length:Int)),(9,.i Jy),(10,.i v2)],[.box 125 (Qeh a1)]⟩ ?_
     exact ih Jy v2 H
    replace H:=sF c1 H
    have Zl:∀ (Qky:Bool),stk (Xk.j1 Jy Qky) (iter (Xk.step a0 a1 p2) n)=some r->AK X 130 ((Qkh 11111 1)) (Jb X [] (.Qq [.i r.1,.b r.2])) ⟨49,[(6,.i Jy),(7,.b Qky)],[]⟩:=by
     intro Qky H
     obtain rfl:=Zb H
     exact Yr hf hX h0 (.Qq [.i Jy,.b Qky]) [] an (.Qq (.cons (.d (.v _)) (.cons (.d (.v _)) .nil)))
    rw [decide_eq_false c1]
    refine Qi hT 3 (Qkh 11111 0) ⟨49,[(0,.d (Qb0 t0 a0)),(2,.d (.fn ff2 cc2)),(4,.ptr 0 0 0 0),(8,.i (a0.length:Int)),(9,.i Jy)],[.box 125 (Qeh a1)]⟩ ?_
    by_cases c2:Jy < (a0.length:Int)
    ·replace H:=sT c2 H
     obtain ⟨h3,H⟩:=sC H
     obtain ⟨v1,h4,H⟩:=sbC H
     refine Qbt (hP▸mixed) 15 [0,2,4,8,9] (sm [.i Jy,.i Jy,.i (a0.length:Int),.b true,.b true,.d (.fn ff2 cc2),.d (Qb0 t0 a0),.i Jy,.d (Qj2 t0 a0 Jy.toNat 0),.d (Qfg (a0.getD Jy.toNat Ql.z)),.d (Qfg a1),.i v1,.b (v1 == 0),.b (v1 == 0),.i Jy]) (Qg (Qg (Qg (opS (Qg (Qg (opS (Qg (Qg (Qg (Qg (opV (Qg (Qg (Qg op0 hT) hT) hT) hT 38 (.b (decide (Jy < (a0.length:Int)))) (.b true) (by rw [decide_eq_true c2]<;>rfl)) hT) hT) hT) hT) (fun R rest h=>Qae hT (i:=Jy) (n:=(a0.length:Int)) h3.1 h3.2 (by kernel_rfl) h)) hT) hT) (fun R rest h=>Jz (Xw:=[.d (Qfg (a0.getD Jy.toNat Ql.z)),.d (Qfg a1)] ++ List.map AV.d cc2) (dst:=some 46) hP he2 (hp2 (a0.getD Jy.toNat Ql.z) a1 v1 h4) (by kernel_rfl) (.cons (Qn _) (.cons (Qn _) (Qfz _))) (by kernel_rfl) h)) hT) hT) hT) ?_
     refine Yi hT 2 (Qkh 11111 1) [] ⟨49,[(6,.i Jy),(7,.b (v1 == 0))],[]⟩ h0 ?_
     exact Zl (v1 == 0) H
    replace H:=sF c2 H
    refine Qbt (hP▸mixed) 15 [0,2,4,8,9] (sm [.i Jy,.i Jy,.i (a0.length:Int),.b false,.b false,.Qq [],.Qq [],.Qq [],.Qq [],.Qq [],.Qq [],.Qq [],.Qq [],.b false,.i Jy]) (Qg (Qg (Qg (Qg (Qg (Qg (Qg (Qg (Qg (Qg (Qg (opV (Qg (Qg (Qg op0 hT) hT) hT) hT 38 (.b (decide (Jy < (a0.length:Int)))) (.b false) (by rw [decide_eq_false c2]<;>rfl)) hT) hT) hT) hT) hT) hT) hT) hT) hT) hT) hT) ?_
    refine Yi hT 2 (Qkh 11111 1) [] ⟨49,[(6,.i Jy),(7,.b false)],[]⟩ h0 ?_
    exact Zl false H
 obtain ⟨n,H⟩:=Qcn H
 exact (L n) 0 (a0.length:Int) H
theorem Qg9.Wl (a0:Qf) (a1:Int) (a2:Int) {r:Int × Bool} (H:Qg9 a0 a1 a2=some r):Yn Tryz.prog 88 [] [.d (Qct a0),.i a1,.i a2] [] (.Qq [.i r.1,.b r.2]):=by
 refine Xt Tryz.func88 rfl (nt:=16) rfl (lb rfl) fun X hP h0 hX=>?_
 have hT:Xl X.P T:=hP▸tok
 have hf:X.P.funcs[88]? = some Tryz.f88:=hP▸Tryz.func88
 refine Qi hT 13 (K88 110 5) ⟨16,[(9,.d (Qb0 true a0.Qw)),(12,.d (.agg [.i a1,.i a2,.i 0,.b false]))],[.box 44 (Ym a0)]⟩ ?_
 obtain ⟨v1,h1,H⟩:=ibC H
 refine Wj (Xw:=[.d (Qb0 true a0.Qw),.d (.agg [.i a1,.i a2,.i 0,.b false]),.d (.fn 86 [])]) (dst:=some 13) (k':=(K88 110 6)) [13] [] hP Wal (Xk.Wl (t0:=true) (ff2:=86) (cc2:=[]) a0.Qw (⟨a1,a2,0,false⟩:Ql) (fun z0 z1=>Qc9 z0 z1) Qu7 (fun z0 z1 r h=>Qc9.Wl z0 z1 h) h1) (by kernel_rfl) (Qz _) (.cons (Qn _) (.cons (Qn _) (.cons (Qn _) .nil))) (st':=⟨16,[(13,.Qq [.i v1.1,.b v1.2])],[.box 44 (Ym a0)]⟩) (by kernel_rfl) ?_
 refine Qi hT 5 (K88 11 1) ⟨16,[(6,.i v1.1),(7,.b v1.2)],[.box 44 (Ym a0)]⟩ ?_
 obtain rfl:=Zb H
 exact Yr hf hX h0 (.Qq [.i v1.1,.b v1.2]) [] an (.Qq (.cons (.d (.v _)) (.cons (.d (.v _)) .nil)))
abbrev Wn.q1 (a0:Qf) (Wu:Int):List Row:=[.box 44 (Ym a0),.box 50 (Qbl (a0.Log.getD Wu.toNat Qc.z))]
abbrev Wn.q2 (a0:Qf) (Wu:Int):=(a0.Log.getD Wu.toNat Qc.z)
abbrev Wn.q3 (a0:Qf) (Wu:Int):=(a0.Log.getD ((IntKind.wrap .i64 (Wu - 1)).toNat) Qc.z)
abbrev Wn.s1 (Wu:Int) (a0:Qf):St:=⟨103,[(1,.ptr 0 0 0 0),(3,.i Wu),(4,.ptr 1 0 0 0),(8,.d (Zy true a0.Log)),(9,.i (a0.Log.length:Int)),(10,.i Wu),(33,.b true)],(Wn.q1 a0 Wu)⟩
abbrev Wn.p0 (a0:Qf):List (Nat × AV):=[(1,.ptr 0 0 0 0),(8,.d (Zy true a0.Log)),(9,.i (a0.Log.length:Int))]
theorem Wn.Wl (a0:Qf) {r:Bool} (H:Wn a0=some r):Yn Tryz.prog 55 [] [.d (Qct a0)] [] (.b r):=by
 refine Xt Tryz.func55 rfl (nt:=103) rfl (lb rfl) fun X hP h0 hX=>?_
 have hT:Xl X.P T:=hP▸tok
 have hf:X.P.funcs[55]? = some Tryz.f55:=hP▸Tryz.func55
 refine Qi hT 15 (K55 11010 0) ⟨103,(Wn.p0 a0++[(10,.i 0)]),[.box 44 (Ym a0)]⟩ ?_
 have L:∀ n,(∀ (Wu:Int),iter (Wn.step a0) n (.l1 Wu)=some r->AK X 55 ((K55 11010 0)) (Jb X [] (.b r)) ⟨103,(Wn.p0 a0++[(10,.i Wu)]),[.box 44 (Ym a0)]⟩):=by
  intro n
  induction n with
  | zero=>exact fun _ H=>Qbx H
  | succ n ih=>
   ·intro Wu H
    refine Qi hT 5 (K55 1101001 0) ⟨103,(Wn.p0 a0++[(10,.i Wu),(11,.b (decide (Wu < (a0.Log.length:Int))))]),[.box 44 (Ym a0)]⟩ ?_
    by_cases c1:Wu < (a0.Log.length:Int)
    ·replace H:=sT c1 H
     rw [decide_eq_true c1]
     refine Qi hT 2 (K55 1101001 1) ⟨103,(Wn.p0 a0++[(10,.i Wu)]),[.box 44 (Ym a0)]⟩ ?_
     refine Qi hT 5 (K55 11010011000 1) ⟨103,(Wn.p0 a0++[(10,.i Wu),(12,.i Wu)]),[.box 44 (Ym a0)]⟩ ?_
     obtain ⟨h2,H⟩:=sC H
     refine Qa7 hT [1,8,9,10,12,13] (i:=Wu) (n:=(a0.Log.length:Int)) h2.1 h2.2 (k':=(K55 11010011000 2)) (st':=⟨103,(Wn.p0 a0++[(10,.i Wu),(12,.i Wu),(13,.d (Qg1 true a0.Log Wu.toNat 0))]),[.box 44 (Ym a0)]⟩) (by kernel_rfl) ?_
     refine Qi hT 10 (K55 1101001100100 2) ⟨103,[(1,.ptr 0 0 0 0),(3,.i Wu),(4,.ptr 1 0 0 0),(8,.d (Zy true a0.Log)),(9,.i (a0.Log.length:Int)),(10,.i Wu),(16,.d (Qaq ((Wn.q2 a0 Wu).M)))],(Wn.q1 a0 Wu)⟩ ?_
     obtain ⟨v1,h3,H⟩:=sbC H
     have Zl:∀ (Qrh:Bool),stk (Wn.j1 a0 Wu Qrh) (iter (Wn.step a0) n)=some r->AK X 55 ((K55 110100110010 1)) (Jb X [] (.b r)) ⟨103,[(1,.ptr 0 0 0 0),(3,.i Wu),(4,.ptr 1 0 0 0),(8,.d (Zy true a0.Log)),(9,.i (a0.Log.length:Int)),(10,.i Wu),(33,.b Qrh)],(Wn.q1 a0 Wu)⟩:=by
      intro Qrh H
      by_cases c7:Qrh=true
      ·replace H:=sT c7 H
       rw [c7]
       refine Qi hT 5 (K55 11010011001010 1) ⟨103,[(2,.b false)],(Wn.q1 a0 Wu)⟩ ?_
       obtain rfl:=Zb H
       exact Yr hf hX h0 (.b false) [] an (.d (.v _))
      replace H:=sF c7 H
      have Jj2:∀ (Qi3:Bool),stk (Wn.j2 a0 Wu Qi3) (iter (Wn.step a0) n)=some r->AK X 55 ((K55 1101001100110 1)) (Jb X [] (.b r)) ⟨103,[(1,.ptr 0 0 0 0),(4,.ptr 1 0 0 0),(8,.d (Zy true a0.Log)),(9,.i (a0.Log.length:Int)),(10,.i Wu),(59,.b Qi3)],(Wn.q1 a0 Wu)⟩:=by
       intro Qi3 H
       by_cases c11:Qi3=true
       ·replace H:=sT c11 H
        rw [c11]
        refine Qi hT 5 (K55 110100110011010 1) ⟨103,[(2,.b false)],(Wn.q1 a0 Wu)⟩ ?_
        obtain rfl:=Zb H
        exact Yr hf hX h0 (.b false) [] an (.d (.v _))
       replace H:=sF c11 H
       rw [boF c11]
       refine Qi hT 2 (K55 110100110011 1) ⟨103,[(1,.ptr 0 0 0 0),(4,.ptr 1 0 0 0),(8,.d (Zy true a0.Log)),(9,.i (a0.Log.length:Int)),(10,.i Wu)],(Wn.q1 a0 Wu)⟩ ?_
       refine Qi hT 9 (K55 11010011001110 7) ⟨103,[(1,.ptr 0 0 0 0),(4,.ptr 1 0 0 0),(8,.d (Zy true a0.Log)),(9,.i (a0.Log.length:Int)),(10,.i Wu),(61,.d (Qct a0)),(64,.i (((Wn.q2 a0 Wu).M).Client)),(67,.i (((Wn.q2 a0 Wu).M).Seq))],(Wn.q1 a0 Wu)⟩ ?_
       obtain ⟨v4,h12,H⟩:=sbC H
       have Jj3:∀ (Qnh:Bool),stk (Wn.j3 Wu Qnh) (iter (Wn.step a0) n)=some r->AK X 55 ((K55 11010011001111 1)) (Jb X [] (.b r)) ⟨103,(Wn.p0 a0++[(10,.i Wu),(94,.b Qnh)]),[.box 44 (Ym a0)]⟩:=by
        intro Qnh H
        by_cases c16:Qnh=true
        ·replace H:=sT c16 H
         rw [c16]
         refine Qi hT 5 (K55 1101001100111110 1) ⟨103,[(2,.b false)],[.box 44 (Ym a0)]⟩ ?_
         obtain rfl:=Zb H
         exact Yr hf hX h0 (.b false) [] an (.d (.v _))
        replace H:=sF c16 H
        rw [boF c16]
        refine Qi hT 3 (K55 11010011 1) ⟨103,(Wn.p0 a0++[(10,.i Wu)]),[.box 44 (Ym a0)]⟩ ?_
        refine Qi hT 5 (K55 11010 0) ⟨103,(Wn.p0 a0++[(10,.i (IntKind.wrap .i64 (Wu+1)))]),[.box 44 (Ym a0)]⟩ ?_
        exact ih (IntKind.wrap .i64 (Wu+1)) H
       refine Wj (Xw:=[.d (Qct a0),.i (((Wn.q2 a0 Wu).M).Client),.i (((Wn.q2 a0 Wu).M).Seq)]) (dst:=some 68) (k':=(K55 11010011001110 8)) [1,4,8,9,10,68] [] hP Qu9 (Qg9.Wl a0 (((Wn.q2 a0 Wu).M).Client) (((Wn.q2 a0 Wu).M).Seq) h12) (by kernel_rfl) (Qz _) (.cons (Qn _) (.cons (Qn _) (.cons (Qn _) .nil))) (st':=⟨103,[(1,.ptr 0 0 0 0),(4,.ptr 1 0 0 0),(8,.d (Zy true a0.Log)),(9,.i (a0.Log.length:Int)),(10,.i Wu),(68,.Qq [.i v4.1,.b v4.2])],(Wn.q1 a0 Wu)⟩) (by kernel_rfl) ?_
       refine Qi hT 7 (K55 11010011001111 0) ⟨103,[(1,.ptr 0 0 0 0),(4,.ptr 1 0 0 0),(5,.i v4.1),(6,.b v4.2),(8,.d (Zy true a0.Log)),(9,.i (a0.Log.length:Int)),(10,.i Wu)],(Wn.q1 a0 Wu)⟩ ?_
       by_cases c13:v4.2=true
       ·replace H:=sT c13 H
        obtain ⟨h14,H⟩:=sC H
        by_cases c15:((a0.Qw.getD v4.1.toNat Ql.z).Time)=((Wn.q2 a0 Wu).Time)
        ·replace H:=sT c15 H
         refine Qbt (hP▸mixed) 24 [1,4,5,6,8,9,10] (sm [.b true,.b false,.b false,.ptr 0 0 0 9,.d (Qb0 true a0.Qw),.i v4.1,.d (Qj2 true a0.Qw v4.1.toNat 0),.d (Qj2 true a0.Qw v4.1.toNat 2),.i ((a0.Qw.getD v4.1.toNat Ql.z).Time),.ptr 1 0 0 7,.i ((Wn.q2 a0 Wu).Time),.b false,.b false,.b false,.ptr 0 0 0 9,.d (Qb0 true a0.Qw),.i v4.1,.d (Qj2 true a0.Qw v4.1.toNat 0),.d (Qj2 true a0.Qw v4.1.toNat 3),.b ((a0.Qw.getD v4.1.toNat Ql.z).Jc),.ptr 1 0 0 8,.b ((Wn.q2 a0 Wu).Jc),.b (!(((a0.Qw.getD v4.1.toNat Ql.z).Jc) == ((Wn.q2 a0 Wu).Jc))),.b (!(((a0.Qw.getD v4.1.toNat Ql.z).Jc) == ((Wn.q2 a0 Wu).Jc)))]) (Qg (Qg (Qg (Qg (Qg (Qg (opS (Qg (Qg (Qg (Qg (Qg (opV (Qg (Qg (Qg (Qg (opS (Qg (Qg (Qg (Qg (Qg (opV op0 hT 71 (.b v4.2) (.b true) (by rw [c13]<;>rfl)) hT) hT) hT) hT) hT) (fun R rest h=>Qae hT (i:=v4.1) (n:=(a0.Qw.length:Int)) h14.1 h14.2 (by kernel_rfl) h)) hT) hT) hT) hT) hT 82 (.b (((a0.Qw.getD v4.1.toNat Ql.z).Time) != ((Wn.q2 a0 Wu).Time))) (.b false) (by rw [neF c15]<;>rfl)) hT) hT) hT) hT) hT) (fun R rest h=>Qae hT (i:=v4.1) (n:=(a0.Qw.length:Int)) h14.1 h14.2 (by kernel_rfl) h)) hT) hT) hT) hT) hT) hT) ?_
         refine Yi hT 1 (K55 11010011001111 1) [0] ⟨103,(Wn.p0 a0++[(10,.i Wu),(94,.b (!(((a0.Qw.getD v4.1.toNat Ql.z).Jc) == ((Wn.q2 a0 Wu).Jc))))]),[.box 44 (Ym a0)]⟩ h0 ?_
         exact Jj3 (!(((a0.Qw.getD v4.1.toNat Ql.z).Jc) == ((Wn.q2 a0 Wu).Jc))) H
        replace H:=sF c15 H
        refine Qbt (hP▸mixed) 24 [1,4,5,6,8,9,10] (sm [.b true,.b false,.b false,.ptr 0 0 0 9,.d (Qb0 true a0.Qw),.i v4.1,.d (Qj2 true a0.Qw v4.1.toNat 0),.d (Qj2 true a0.Qw v4.1.toNat 2),.i ((a0.Qw.getD v4.1.toNat Ql.z).Time),.ptr 1 0 0 7,.i ((Wn.q2 a0 Wu).Time),.b true,.b true,.b true,.Qq [],.Qq [],.Qq [],.Qq [],.Qq [],.Qq [],.Qq [],.Qq [],.Qq [],.b true]) (Qg (Qg (Qg (Qg (Qg (Qg (Qg (Qg (Qg (Qg (Qg (Qg (opV (Qg (Qg (Qg (Qg (opS (Qg (Qg (Qg (Qg (Qg (opV op0 hT 71 (.b v4.2) (.b true) (by rw [c13]<;>rfl)) hT) hT) hT) hT) hT) (fun R rest h=>Qae hT (i:=v4.1) (n:=(a0.Qw.length:Int)) h14.1 h14.2 (by kernel_rfl) h)) hT) hT) hT) hT) hT 82 (.b (((a0.Qw.getD v4.1.toNat Ql.z).Time) != ((Wn.q2 a0 Wu).Time))) (.b true) (by rw [neT c15]<;>rfl)) hT) hT) hT) hT) hT) hT) hT) hT) hT) hT) hT) hT) ?_
        refine Yi hT 1 (K55 11010011001111 1) [0] ⟨103,(Wn.p0 a0++[(10,.i Wu),(94,.b true)]),[.box 44 (Ym a0)]⟩ h0 ?_
        exact Jj3 true H
       replace H:=sF c13 H
       refine Qbt (hP▸mixed) 24 [1,4,5,6,8,9,10] (sm [.b false,.b true,.b true,.Qq [],.Qq [],.Qq [],.Qq [],.Qq [],.Qq [],.Qq [],.Qq [],.Qq [],.b true,.b true,.Qq [],.Qq [],.Qq [],.Qq [],.Qq [],.Qq [],.Qq [],.Qq [],.Qq [],.b true]) (Qg (Qg (Qg (Qg (Qg (Qg (Qg (Qg (Qg (Qg (Qg (Qg (Qg (Qg (Qg (Qg (Qg (Qg (Qg (Qg (Qg (Qg (Qg (opV op0 hT 71 (.b v4.2) (.b false) (by rw [boF c13]<;>rfl)) hT) hT) hT) hT) hT) hT) hT) hT) hT) hT) hT) hT) hT) hT) hT) hT) hT) hT) hT) hT) hT) hT) hT) ?_
       refine Yi hT 1 (K55 11010011001111 1) [0] ⟨103,(Wn.p0 a0++[(10,.i Wu),(94,.b true)]),[.box 44 (Ym a0)]⟩ h0 ?_
       exact Jj3 true H
      rw [boF c7]
      refine Qi hT 2 (K55 11010011001 1) ⟨103,[(1,.ptr 0 0 0 0),(3,.i Wu),(4,.ptr 1 0 0 0),(8,.d (Zy true a0.Log)),(9,.i (a0.Log.length:Int)),(10,.i Wu)],(Wn.q1 a0 Wu)⟩ ?_
      refine Qi hT 2 (K55 1101001100110 0) ⟨103,[(1,.ptr 0 0 0 0),(3,.i Wu),(4,.ptr 1 0 0 0),(8,.d (Zy true a0.Log)),(9,.i (a0.Log.length:Int)),(10,.i Wu)],(Wn.q1 a0 Wu)⟩ ?_
      by_cases c8:Wu > 0
      ·replace H:=sT c8 H
       obtain ⟨h9,H⟩:=sC H
       obtain ⟨v3,h10,H⟩:=sbC H
       refine Qbt (hP▸mixed) 26 [1,3,4,8,9,10] (sm [.i Wu,.b true,.b true,.ptr 0 0 0 8,.d (Zy true a0.Log),.i Wu,.i (IntKind.wrap .i64 (Wu - 1)),.d (Qg1 true a0.Log ((IntKind.wrap .i64 (Wu - 1)).toNat) 0),.d (Qg1 true a0.Log ((IntKind.wrap .i64 (Wu - 1)).toNat) 7),.i ((Wn.q3 a0 Wu).Time),.ptr 0 0 0 8,.d (Zy true a0.Log),.i Wu,.i (IntKind.wrap .i64 (Wu - 1)),.d (Qg1 true a0.Log ((IntKind.wrap .i64 (Wu - 1)).toNat) 0),.d (Qg1 true a0.Log ((IntKind.wrap .i64 (Wu - 1)).toNat) 0),.d (Qaq ((Wn.q3 a0 Wu).M)),.d (Qen (Qbg ((Wn.q3 a0 Wu).Time) ((Wn.q3 a0 Wu).M))),.ptr 1 0 0 7,.i ((Wn.q2 a0 Wu).Time),.ptr 1 0 0 0,.d (Qaq ((Wn.q2 a0 Wu).M)),.d (Qen (Qbg ((Wn.q2 a0 Wu).Time) ((Wn.q2 a0 Wu).M))),.i v3,.b (decide (v3>=0)),.b (decide (v3>=0))]) (Qg (Qg (opS (opS (Qg (Qg (Qg (Qg (opS (Qg (Qg (opS (Qg (Qg (Qg (Qg (Qg (Qg (opS (Qg (Qg (Qg (Qg (Qg (opV (Qg op0 hT) hT 35 (.b (decide (Wu > 0))) (.b true) (by rw [decide_eq_true c8]<;>rfl)) hT) hT) hT) hT) hT) (fun R rest h=>Qae hT (i:=IntKind.wrap .i64 (Wu - 1)) (n:=(a0.Log.length:Int)) h9.1 h9.2 (by kernel_rfl) h)) hT) hT) hT) hT) hT) hT) (fun R rest h=>Qae hT (i:=IntKind.wrap .i64 (Wu - 1)) (n:=(a0.Log.length:Int)) h9.1 h9.2 (by kernel_rfl) h)) hT) hT) (fun R rest h=>Jz (Xw:=[.i ((Wn.q3 a0 Wu).Time),.d (Qaq ((Wn.q3 a0 Wu).M))]) (dst:=some 51) hP Qjq (Qbg.Wl ((Wn.q3 a0 Wu).Time) ((Wn.q3 a0 Wu).M)) (by kernel_rfl) (.cons (Qn _) (.cons (Qn _) .nil)) (by kernel_rfl) h)) hT) hT) hT) hT) (fun R rest h=>Jz (Xw:=[.i ((Wn.q2 a0 Wu).Time),.d (Qaq ((Wn.q2 a0 Wu).M))]) (dst:=some 56) hP Qjq (Qbg.Wl ((Wn.q2 a0 Wu).Time) ((Wn.q2 a0 Wu).M)) (by kernel_rfl) (.cons (Qn _) (.cons (Qn _) .nil)) (by kernel_rfl) h)) (fun R rest h=>Jz (Xw:=[.d (Qen (Qbg ((Wn.q3 a0 Wu).Time) ((Wn.q3 a0 Wu).M))),.d (Qen (Qbg ((Wn.q2 a0 Wu).Time) ((Wn.q2 a0 Wu).M)))]) (dst:=some 57) hP Qmu (Qbs.Wl (Qbg ((Wn.q3 a0 Wu).Time) ((Wn.q3 a0 Wu).M)) (Qbg ((Wn.q2 a0 Wu).Time) ((Wn.q2 a0 Wu).M)) h10) (by kernel_rfl) (.cons (Qn _) (.cons (Qn _) .nil)) (by kernel_rfl) h)) hT) hT) ?_
       refine Qi hT 1 (K55 1101001100110 1) ⟨103,[(1,.ptr 0 0 0 0),(4,.ptr 1 0 0 0),(8,.d (Zy true a0.Log)),(9,.i (a0.Log.length:Int)),(10,.i Wu),(59,.b (decide (v3>=0)))],(Wn.q1 a0 Wu)⟩ ?_
       exact Jj2 (decide (v3>=0)) H
      replace H:=sF c8 H
      refine Qbt (hP▸mixed) 26 [1,3,4,8,9,10] (sm [.i Wu,.b false,.b false,.Qq [],.Qq [],.Qq [],.Qq [],.Qq [],.Qq [],.Qq [],.Qq [],.Qq [],.Qq [],.Qq [],.Qq [],.Qq [],.Qq [],.Qq [],.Qq [],.Qq [],.Qq [],.Qq [],.Qq [],.Qq [],.Qq [],.b false]) (Qg (Qg (Qg (Qg (Qg (Qg (Qg (Qg (Qg (Qg (Qg (Qg (Qg (Qg (Qg (Qg (Qg (Qg (Qg (Qg (Qg (Qg (Qg (Qg (opV (Qg op0 hT) hT 35 (.b (decide (Wu > 0))) (.b false) (by rw [decide_eq_false c8]<;>rfl)) hT) hT) hT) hT) hT) hT) hT) hT) hT) hT) hT) hT) hT) hT) hT) hT) hT) hT) hT) hT) hT) hT) hT) hT) ?_
      refine Qi hT 1 (K55 1101001100110 1) ⟨103,[(1,.ptr 0 0 0 0),(4,.ptr 1 0 0 0),(8,.d (Zy true a0.Log)),(9,.i (a0.Log.length:Int)),(10,.i Wu),(59,.b false)],(Wn.q1 a0 Wu)⟩ ?_
      exact Jj2 false H
     refine Wj (Xw:=[.d (Qaq ((Wn.q2 a0 Wu).M))]) (dst:=some 17) (k':=(K55 1101001100100 3)) [1,3,4,8,9,10,17] [] hP Qha (Qbn.Wl ((Wn.q2 a0 Wu).M) h3) (by kernel_rfl) (Qz _) (.cons (Qn _) .nil) (st':=⟨103,[(1,.ptr 0 0 0 0),(3,.i Wu),(4,.ptr 1 0 0 0),(8,.d (Zy true a0.Log)),(9,.i (a0.Log.length:Int)),(10,.i Wu),(17,.b v1)],(Wn.q1 a0 Wu)⟩) (by kernel_rfl) ?_
     refine Qi hT 2 (K55 1101001100100 5) ⟨103,[(1,.ptr 0 0 0 0),(3,.i Wu),(4,.ptr 1 0 0 0),(8,.d (Zy true a0.Log)),(9,.i (a0.Log.length:Int)),(10,.i Wu),(19,.b (!v1))],(Wn.q1 a0 Wu)⟩ ?_
     by_cases c4:v1=true
     ·replace H:=sT c4 H
      rw [c4]
      refine Qi hT 3 (K55 1101001100100 8) ⟨103,[(1,.ptr 0 0 0 0),(3,.i Wu),(4,.ptr 1 0 0 0),(8,.d (Zy true a0.Log)),(9,.i (a0.Log.length:Int)),(10,.i Wu),(19,.b false),(20,.d (Qct a0)),(22,.d (Qaq ((Wn.q2 a0 Wu).M)))],(Wn.q1 a0 Wu)⟩ ?_
      obtain ⟨v2,h5,H⟩:=sbC H
      refine Wj (Xw:=[.d (Qct a0),.d (Qaq ((Wn.q2 a0 Wu).M))]) (dst:=some 23) (k':=(K55 1101001100100 9)) [1,3,4,8,9,10,19,23] [] hP Qu8 (Qfp.Wl a0 ((Wn.q2 a0 Wu).M) h5) (by kernel_rfl) (Qz _) (.cons (Qn _) (.cons (Qn _) .nil)) (st':=⟨103,[(1,.ptr 0 0 0 0),(3,.i Wu),(4,.ptr 1 0 0 0),(8,.d (Zy true a0.Log)),(9,.i (a0.Log.length:Int)),(10,.i Wu),(19,.b false),(23,.b v2)],(Wn.q1 a0 Wu)⟩) (by kernel_rfl) ?_
      refine Qi hT 3 (K55 1101001100100 12) ⟨103,[(1,.ptr 0 0 0 0),(3,.i Wu),(4,.ptr 1 0 0 0),(8,.d (Zy true a0.Log)),(9,.i (a0.Log.length:Int)),(10,.i Wu),(26,.b (!v2))],(Wn.q1 a0 Wu)⟩ ?_
      by_cases c6:v2=true
      ·replace H:=sT c6 H
       rw [c6]
       refine Qi hT 4 (K55 1101001100100 16) ⟨103,[(1,.ptr 0 0 0 0),(3,.i Wu),(4,.ptr 1 0 0 0),(8,.d (Zy true a0.Log)),(9,.i (a0.Log.length:Int)),(10,.i Wu),(26,.b false),(28,.i ((Wn.q2 a0 Wu).Time)),(30,.i a0.Clock)],(Wn.q1 a0 Wu)⟩ ?_
       refine Wj (Xw:=[.i ((Wn.q2 a0 Wu).Time),.i 0,.i a0.Clock]) (dst:=some 31) (k':=(K55 1101001100100 17)) [1,3,4,8,9,10,26,31] [] hP Qeu (Qav.Wl ((Wn.q2 a0 Wu).Time) 0 a0.Clock) (by kernel_rfl) (Qz _) (.cons (Qn _) (.cons (Qn _) (.cons (Qn _) .nil))) (st':=⟨103,[(1,.ptr 0 0 0 0),(3,.i Wu),(4,.ptr 1 0 0 0),(8,.d (Zy true a0.Log)),(9,.i (a0.Log.length:Int)),(10,.i Wu),(26,.b false),(31,.b (Qav ((Wn.q2 a0 Wu).Time) 0 a0.Clock))],(Wn.q1 a0 Wu)⟩) (by kernel_rfl) ?_
       refine Qi hT 3 (K55 110100110010 1) ⟨103,[(1,.ptr 0 0 0 0),(3,.i Wu),(4,.ptr 1 0 0 0),(8,.d (Zy true a0.Log)),(9,.i (a0.Log.length:Int)),(10,.i Wu),(33,.b (!(Qav ((Wn.q2 a0 Wu).Time) 0 a0.Clock)))],(Wn.q1 a0 Wu)⟩ ?_
       exact Zl (!(Qav ((Wn.q2 a0 Wu).Time) 0 a0.Clock)) H
      replace H:=sF c6 H
      rw [boF c6]
      refine Qi hT 8 (K55 110100110010 1) (Wn.s1 Wu a0) ?_
      exact Zl true H
     replace H:=sF c4 H
     rw [boF c4]
     refine Qi hT 15 (K55 110100110010 1) (Wn.s1 Wu a0) ?_
     exact Zl true H
    replace H:=sF c1 H
    rw [decide_eq_false c1]
    refine Qi hT 13 (K55 111 1) ⟨103,[(2,.b (decide ((a0.Log.length:Int)<=(a0.Qw.length:Int))))],[.box 44 (Ym a0)]⟩ ?_
    obtain rfl:=Zb H
    exact Yr hf hX h0 (.b (decide ((a0.Log.length:Int)<=(a0.Qw.length:Int)))) [] an (.d (.v _))
 obtain ⟨n,H⟩:=Qcn H
 exact (L n) 0 H
theorem Zt.Wl {t0:Bool} {Zk:FuncId} {Zn:List DV} (a0:List Qr) (p1:Qr->Option Bool) (he1:Sy.Enters Tryz.prog Zk) (hp1:∀ (z0:Qr) r,p1 z0=some r->Yn Tryz.prog Zk [] ([.d (Qsg z0)] ++ List.map AV.d Zn) [] (.b r)) {r:Int} (H:Zt a0 p1=some r):Yn Tryz.prog 131 [] [.d (Qcx t0 a0),.d (.fn Zk Zn)] [] (.i r):=by
 refine Xt Tryz.func131 rfl (nt:=19) rfl (lb rfl) fun X hP h0 hX=>?_
 have hT:Xl X.P T:=hP▸tok
 have hf:X.P.funcs[131]? = some Tryz.f131:=hP▸Tryz.func131
 refine Qi hT 13 (Qki 11010 0) ⟨19,[(0,.d (Qcx t0 a0)),(1,.d (.fn Zk Zn)),(7,.i (a0.length:Int)),(8,.i 0)],[]⟩ ?_
 have L:∀ n,(∀ (Qy:Int),iter (Zt.step a0 p1) n (.l1 Qy)=some r->AK X 131 ((Qki 11010 0)) (Jb X [] (.i r)) ⟨19,[(0,.d (Qcx t0 a0)),(1,.d (.fn Zk Zn)),(7,.i (a0.length:Int)),(8,.i Qy)],[]⟩):=by
  intro n
  induction n with
  | zero=>exact fun _ H=>Qbx H
  | succ n ih=>
   ·intro Qy H
    refine Qi hT 5 (Qki 1101001 0) ⟨19,[(0,.d (Qcx t0 a0)),(1,.d (.fn Zk Zn)),(7,.i (a0.length:Int)),(8,.i Qy),(9,.b (decide (Qy < (a0.length:Int))))],[]⟩ ?_
    by_cases c1:Qy < (a0.length:Int)
    ·replace H:=sT c1 H
     rw [decide_eq_true c1]
     refine Qi hT 2 (Qki 1101001 1) ⟨19,[(0,.d (Qcx t0 a0)),(1,.d (.fn Zk Zn)),(7,.i (a0.length:Int)),(8,.i Qy)],[]⟩ ?_
     refine Qi hT 12 (Qki 110100110010 3) ⟨19,[(0,.d (Qcx t0 a0)),(1,.d (.fn Zk Zn)),(5,.i Qy),(7,.i (a0.length:Int)),(8,.i Qy),(11,.d (.fn Zk Zn)),(12,.d (Qcx t0 a0)),(13,.i Qy)],[]⟩ ?_
     obtain ⟨h2,H⟩:=sC H
     refine Qa7 hT [0,1,5,7,8,11,14] (i:=Qy) (n:=(a0.length:Int)) h2.1 h2.2 (k':=(Qki 110100110010 4)) (st':=⟨19,[(0,.d (Qcx t0 a0)),(1,.d (.fn Zk Zn)),(5,.i Qy),(7,.i (a0.length:Int)),(8,.i Qy),(11,.d (.fn Zk Zn)),(14,.d (Qw1 t0 a0 Qy.toNat 0))],[]⟩) (by kernel_rfl) ?_
     refine Qi hT 1 (Qki 110100110010 5) ⟨19,[(0,.d (Qcx t0 a0)),(1,.d (.fn Zk Zn)),(5,.i Qy),(7,.i (a0.length:Int)),(8,.i Qy),(11,.d (.fn Zk Zn)),(15,.d (Qsg (a0.getD Qy.toNat Qr.z)))],[]⟩ ?_
     obtain ⟨v1,h3,H⟩:=sbC H
     refine Wj (Xw:=[.d (Qsg (a0.getD Qy.toNat Qr.z))] ++ List.map AV.d Zn) (dst:=some 16) (k':=(Qki 110100110010 6)) [0,1,5,7,8,16] [] hP he1 (hp1 (a0.getD Qy.toNat Qr.z) v1 h3) (by kernel_rfl) (Qz _) (.cons (Qn _) (Qfz _)) (st':=⟨19,[(0,.d (Qcx t0 a0)),(1,.d (.fn Zk Zn)),(5,.i Qy),(7,.i (a0.length:Int)),(8,.i Qy),(16,.b v1)],[]⟩) (by kernel_rfl) ?_
     refine Qi hT 1 (Qki 11010011001 1) ⟨19,[(0,.d (Qcx t0 a0)),(1,.d (.fn Zk Zn)),(5,.i Qy),(7,.i (a0.length:Int)),(8,.i Qy),(16,.b v1)],[]⟩ ?_
     by_cases c4:v1=true
     ·replace H:=sT c4 H
      rw [c4]
      refine Qi hT 6 (Qki 1101001100110 1) ⟨19,[(4,.i Qy)],[]⟩ ?_
      obtain rfl:=Zb H
      exact Yr hf hX h0 (.i Qy) [] an (.d (.v _))
     replace H:=sF c4 H
     rw [boF c4]
     refine Qi hT 3 (Qki 11010011 1) ⟨19,[(0,.d (Qcx t0 a0)),(1,.d (.fn Zk Zn)),(7,.i (a0.length:Int)),(8,.i Qy)],[]⟩ ?_
     refine Qi hT 5 (Qki 11010 0) ⟨19,[(0,.d (Qcx t0 a0)),(1,.d (.fn Zk Zn)),(7,.i (a0.length:Int)),(8,.i (IntKind.wrap .i64 (Qy+1)))],[]⟩ ?_
     exact ih (IntKind.wrap .i64 (Qy+1)) H
    replace H:=sF c1 H
    rw [decide_eq_false c1]
    refine Qi hT 6 (Qki 111 1) ⟨19,[(4,.i (-1))],[]⟩ ?_
    obtain rfl:=Zb H
    exact Yr hf hX h0 (.i (-1)) [] an (.d (.v _))
 obtain ⟨n,H⟩:=Qcn H
 exact (L n) 0 H
theorem Qdk.Wl (a0:Qr) (k0:Int) (k1:Int):Yn Tryz.prog 132 [] [.d (Qsg a0),.d (.rop false 1 (fun _=>[.i k0]) 0 0),.d (.rop false 1 (fun _=>[.i k1]) 0 0)] [] (.b (Qdk a0 k0 k1)):=by
 obtain ⟨r,H⟩:∃ r,Qdk a0 k0 k1=r:=⟨_,rfl⟩
 rw [H]
 refine Xt Tryz.func132 rfl (nt:=17) rfl (lb rfl) fun X hP h0 hX=>?_
 have hT:Xl X.P T:=hP▸tok
 have hf:X.P.funcs[132]? = some Tryz.f132:=hP▸Tryz.func132
 have Zl:∀ (Qdj:Bool),(Qdk.j1 Qdj)=r->AK X 132 ((Qzr 11 1)) (Jb X [] (.b r)) ⟨17,[(4,.b Qdj)],[]⟩:=by
  intro Qdj H
  obtain rfl:=H
  exact Yr hf hX h0 (.b Qdj) [] an (.d (.v _))
 refine Qi hT 13 (Qzr 110 6) ⟨17,[(2,.d (.rop false 1 (fun _=>[.i k1]) 0 0)),(3,.ptr 0 0 0 0),(10,.b (a0.M.Client == k0))],[.box 94 (Qsf a0)]⟩ ?_
 by_cases c1:a0.M.Client=k0
 ·replace H:=iT c1 H
  rw [eqT c1]
  refine Yi hT 8 (Qzr 11 1) [] ⟨17,[(4,.b (a0.M.Seq == k1))],[]⟩ h0 ?_
  exact Zl (a0.M.Seq == k1) H
 replace H:=iF c1 H
 rw [eqF c1]
 refine Yi hT 8 (Qzr 11 1) [] ⟨17,[(4,.b false)],[]⟩ h0 ?_
 exact Zl false H
theorem Qjo.Wl (a0:Qf) (a1:Int) (a2:Int) {r:Int} (H:Qjo a0 a1 a2=some r):Yn Tryz.prog 89 [] [.d (Qct a0),.i a1,.i a2] [] (.i r):=by
 refine Xt Tryz.func89 rfl (nt:=11) rfl (lb rfl) fun X hP h0 hX=>?_
 have hT:Xl X.P T:=hP▸tok
 have hf:X.P.funcs[89]? = some Tryz.f89:=hP▸Tryz.func89
 refine Qi hT 12 (K89 110 3) ⟨11,[(8,.d (Qcx true a0.Held)),(9,.fn 132 [.ptr 1 0 0 0,.ptr 2 0 0 0])],[.box 44 (Ym a0),.box 3 [.i a1],.box 3 [.i a2]]⟩ ?_
 obtain ⟨v1,h1,H⟩:=ibC H
 refine Wj (Xw:=[.d (Qcx true a0.Held),.fn 132 [.ptr 1 0 0 0,.ptr 2 0 0 0]]) (dst:=some 10) (k':=(K89 110 4)) [10] [] hP Wam (Zt.Wl (t0:=true) (Zk:=132) (Zn:=[.rop false 1 (fun _=>[.i a1]) 0 0,.rop false 1 (fun _=>[.i a2]) 0 0]) a0.Held (fun z0=>some (Qdk z0 a1 a2)) Wan (fun z0 r h=>by obtain rfl:=Zb h;exact Qdk.Wl z0 a1 a2) h1) (by kernel_rfl) (Qz _) (.cons (Qn _) (.cons (.fn 132 (.cons (.look (ty:=3) (cs:=[.i a1]) (by kernel_rfl) rfl) (.cons (.look (ty:=3) (cs:=[.i a2]) (by kernel_rfl) rfl) .nil))) .nil)) (st':=⟨11,[(10,.i v1)],[.box 44 (Ym a0),.box 3 [.i a1],.box 3 [.i a2]]⟩) (by kernel_rfl) ?_
 refine Qi hT 2 (K89 11 1) ⟨11,[(6,.i v1)],[.box 44 (Ym a0),.box 3 [.i a1],.box 3 [.i a2]]⟩ ?_
 obtain rfl:=Zb H
 exact Yr hf hX h0 (.i v1) [] an (.d (.v _))
theorem Qf3.Wl (a0:Qr):Yn Tryz.prog 90 [] [.d (Qsg a0)] [] (.d (Qen (Qf3 a0))):=by
 obtain ⟨r,H⟩:∃ r,Qf3 a0=r:=⟨_,rfl⟩
 rw [H]
 refine Xt Tryz.func90 rfl (nt:=8) rfl (lb rfl) fun X hP h0 hX=>?_
 have hT:Xl X.P T:=hP▸tok
 have hf:X.P.funcs[90]? = some Tryz.f90:=hP▸Tryz.func90
 refine Qi hT 11 (K90 110 4) ⟨8,[(2,.ptr 1 0 0 0),(4,.i a0.Time),(6,.d (Qaq a0.M))],[.box 94 (Qsf a0),.box 65 [.i 0,.i 0,.i 0]]⟩ ?_
 refine Wj (Xw:=[.i a0.Time,.d (Qaq a0.M)]) (dst:=some 7) (k':=(K90 110 5)) [2,7] [] hP Qjq (Qbg.Wl a0.Time a0.M) (by kernel_rfl) (Qz _) (.cons (Qn _) (.cons (Qn _) .nil)) (st':=⟨8,[(2,.ptr 1 0 0 0),(7,.d (Qen (Qbg a0.Time a0.M)))],[.box 94 (Qsf a0),.box 65 [.i 0,.i 0,.i 0]]⟩) (by kernel_rfl) ?_
 obtain ⟨v1,h1,H⟩:=idC H
 rw [<- h1]
 refine Qi hT 2 (K90 11 1) ⟨8,[(2,.ptr 1 0 0 0)],[.box 94 (Qsf a0),.box 65 (Qib v1)]⟩ ?_
 obtain rfl:=H
 exact Qjm hT hf hX (av:=.d (Qen v1)) (by kernel_rfl) [] (Qb1 (by kernel_rfl)) (by decide) (by rw [h0];rfl) (by kernel_rfl) an (.d (.agg (Jh.nl _)))
abbrev We.q1 (a0:Qf) (Yj:Int):List Row:=[.box 44 (Ym a0),.box 94 (Qsf (a0.Held.getD Yj.toNat Qr.z))]
abbrev We.q2 (a0:Qf):=(a0.Log.getD ((IntKind.wrap .i64 ((a0.Log.length:Int) - 1)).toNat) Qc.z)
abbrev We.q3 (a0:Qf):=(IntKind.wrap .i64 ((a0.Log.length:Int) - 1))
abbrev We.q4 (a0:Qf) (Yj:Int):=(a0.Held.getD Yj.toNat Qr.z)
abbrev We.s1 (a0:Qf) (Yj:Int):St:=⟨85,[(1,.ptr 0 0 0 0),(4,.ptr 1 0 0 0),(9,.d (Qcx true a0.Held)),(10,.i (a0.Held.length:Int)),(11,.i Yj),(46,.b true)],(We.q1 a0 Yj)⟩
abbrev We.s2 (a0:Qf) (Yj:Int):St:=⟨85,[(1,.ptr 0 0 0 0),(4,.ptr 1 0 0 0),(9,.d (Qcx true a0.Held)),(10,.i (a0.Held.length:Int)),(11,.i Yj)],(We.q1 a0 Yj)⟩
abbrev We.p0 (a0:Qf):List (Nat × AV):=[(1,.ptr 0 0 0 0),(9,.d (Qcx true a0.Held)),(10,.i (a0.Held.length:Int))]
theorem We.Wl (a0:Qf) {r:Bool} (H:We a0=some r):Yn Tryz.prog 56 [] [.d (Qct a0)] [] (.b r):=by
 refine Xt Tryz.func56 rfl (nt:=85) rfl (lb rfl) fun X hP h0 hX=>?_
 have hT:Xl X.P T:=hP▸tok
 have hf:X.P.funcs[56]? = some Tryz.f56:=hP▸Tryz.func56
 refine Qi hT 15 (K56 11010 0) ⟨85,(We.p0 a0++[(11,.i 0)]),[.box 44 (Ym a0)]⟩ ?_
 have L:∀ n,(∀ (Yj:Int),iter (We.step a0) n (.l1 Yj)=some r->AK X 56 ((K56 11010 0)) (Jb X [] (.b r)) ⟨85,(We.p0 a0++[(11,.i Yj)]),[.box 44 (Ym a0)]⟩):=by
  intro n
  induction n with
  | zero=>exact fun _ H=>Qbx H
  | succ n ih=>
   ·intro Yj H
    refine Qi hT 5 (K56 1101001 0) ⟨85,(We.p0 a0++[(11,.i Yj),(12,.b (decide (Yj < (a0.Held.length:Int))))]),[.box 44 (Ym a0)]⟩ ?_
    by_cases c1:Yj < (a0.Held.length:Int)
    ·replace H:=sT c1 H
     rw [decide_eq_true c1]
     refine Qi hT 2 (K56 1101001 1) ⟨85,(We.p0 a0++[(11,.i Yj)]),[.box 44 (Ym a0)]⟩ ?_
     refine Qi hT 5 (K56 11010011000 1) ⟨85,(We.p0 a0++[(11,.i Yj),(13,.i Yj)]),[.box 44 (Ym a0)]⟩ ?_
     obtain ⟨h2,H⟩:=sC H
     refine Qa7 hT [1,9,10,11,13,14] (i:=Yj) (n:=(a0.Held.length:Int)) h2.1 h2.2 (k':=(K56 11010011000 2)) (st':=⟨85,(We.p0 a0++[(11,.i Yj),(13,.i Yj),(14,.d (Qw1 true a0.Held Yj.toNat 0))]),[.box 44 (Ym a0)]⟩) (by kernel_rfl) ?_
     refine Qi hT 10 (K56 1101001100100 2) ⟨85,[(1,.ptr 0 0 0 0),(3,.i Yj),(4,.ptr 1 0 0 0),(9,.d (Qcx true a0.Held)),(10,.i (a0.Held.length:Int)),(11,.i Yj),(17,.d (Qaq ((We.q4 a0 Yj).M)))],(We.q1 a0 Yj)⟩ ?_
     obtain ⟨v1,h3,H⟩:=sbC H
     have Zl:∀ (Qrk:Bool),stk (We.j1 a0 Yj Qrk) (iter (We.step a0) n)=some r->AK X 56 ((K56 110100110010 1)) (Jb X [] (.b r)) ⟨85,[(1,.ptr 0 0 0 0),(4,.ptr 1 0 0 0),(9,.d (Qcx true a0.Held)),(10,.i (a0.Held.length:Int)),(11,.i Yj),(46,.b Qrk)],(We.q1 a0 Yj)⟩:=by
      intro Qrk H
      by_cases c9:Qrk=true
      ·replace H:=sT c9 H
       rw [c9]
       refine Qi hT 5 (K56 11010011001010 1) ⟨85,[(2,.b false)],(We.q1 a0 Yj)⟩ ?_
       obtain rfl:=Zb H
       exact Yr hf hX h0 (.b false) [] an (.d (.v _))
      replace H:=sF c9 H
      rw [boF c9]
      refine Qi hT 2 (K56 11010011001 1) (We.s2 a0 Yj) ?_
      refine Qi hT 10 (K56 11010011001100 7) ⟨85,[(1,.ptr 0 0 0 0),(4,.ptr 1 0 0 0),(9,.d (Qcx true a0.Held)),(10,.i (a0.Held.length:Int)),(11,.i Yj),(48,.d (Qct a0)),(51,.i (((We.q4 a0 Yj).M).Client)),(54,.i (((We.q4 a0 Yj).M).Seq))],(We.q1 a0 Yj)⟩ ?_
      obtain ⟨v4,h10,H⟩:=sbC H
      refine Wj (Xw:=[.d (Qct a0),.i (((We.q4 a0 Yj).M).Client),.i (((We.q4 a0 Yj).M).Seq)]) (dst:=some 55) (k':=(K56 11010011001100 8)) [1,4,9,10,11,55] [] hP Qu9 (Qg9.Wl a0 (((We.q4 a0 Yj).M).Client) (((We.q4 a0 Yj).M).Seq) h10) (by kernel_rfl) (Qz _) (.cons (Qn _) (.cons (Qn _) (.cons (Qn _) .nil))) (st':=⟨85,[(1,.ptr 0 0 0 0),(4,.ptr 1 0 0 0),(9,.d (Qcx true a0.Held)),(10,.i (a0.Held.length:Int)),(11,.i Yj),(55,.Qq [.i v4.1,.b v4.2])],(We.q1 a0 Yj)⟩) (by kernel_rfl) ?_
      refine Qi hT 10 (K56 11010011001101 1) ⟨85,[(1,.ptr 0 0 0 0),(4,.ptr 1 0 0 0),(9,.d (Qcx true a0.Held)),(10,.i (a0.Held.length:Int)),(11,.i Yj),(58,.b v4.2)],(We.q1 a0 Yj)⟩ ?_
      by_cases c11:v4.2=true
      ·replace H:=sT c11 H
       rw [c11]
       refine Qi hT 5 (K56 1101001100110110 1) ⟨85,[(2,.b false)],(We.q1 a0 Yj)⟩ ?_
       obtain rfl:=Zb H
       exact Yr hf hX h0 (.b false) [] an (.d (.v _))
      replace H:=sF c11 H
      have Jj2:∀ (Qrr:Bool),stk (We.j2 Yj Qrr) (iter (We.step a0) n)=some r->AK X 56 ((K56 11010011001111 1)) (Jb X [] (.b r)) ⟨85,(We.p0 a0++[(11,.i Yj),(83,.b Qrr)]),[.box 44 (Ym a0)]⟩:=by
       intro Qrr H
       by_cases c15:Qrr=true
       ·replace H:=sT c15 H
        rw [c15]
        refine Qi hT 5 (K56 1101001100111110 1) ⟨85,[(2,.b false)],[.box 44 (Ym a0)]⟩ ?_
        obtain rfl:=Zb H
        exact Yr hf hX h0 (.b false) [] an (.d (.v _))
       replace H:=sF c15 H
       rw [boF c15]
       refine Qi hT 3 (K56 11010011 1) ⟨85,(We.p0 a0++[(11,.i Yj)]),[.box 44 (Ym a0)]⟩ ?_
       refine Qi hT 5 (K56 11010 0) ⟨85,(We.p0 a0++[(11,.i (IntKind.wrap .i64 (Yj+1)))]),[.box 44 (Ym a0)]⟩ ?_
       exact ih (IntKind.wrap .i64 (Yj+1)) H
      rw [boF c11]
      refine Qi hT 2 (K56 110100110011 1) (We.s2 a0 Yj) ?_
      refine Qi hT 9 (K56 11010011001111 0) ⟨85,[(1,.ptr 0 0 0 0),(4,.ptr 1 0 0 0),(7,.i (We.q3 a0)),(9,.d (Qcx true a0.Held)),(10,.i (a0.Held.length:Int)),(11,.i Yj)],(We.q1 a0 Yj)⟩ ?_
      by_cases c12:(We.q3 a0)>=0
      ·replace H:=sT c12 H
       obtain ⟨h13,H⟩:=sC H
       obtain ⟨v5,h14,H⟩:=sbC H
       refine Qbt (hP▸mixed) 21 [1,4,7,9,10,11] (sm [.i (We.q3 a0),.b true,.b true,.d (Qsg (We.q4 a0 Yj)),.d (Qen (Qf3 (We.q4 a0 Yj))),.ptr 0 0 0 8,.d (Zy true a0.Log),.i (We.q3 a0),.d (Qg1 true a0.Log ((We.q3 a0).toNat) 0),.d (Qg1 true a0.Log ((We.q3 a0).toNat) 7),.i ((We.q2 a0).Time),.ptr 0 0 0 8,.d (Zy true a0.Log),.i (We.q3 a0),.d (Qg1 true a0.Log ((We.q3 a0).toNat) 0),.d (Qg1 true a0.Log ((We.q3 a0).toNat) 0),.d (Qaq ((We.q2 a0).M)),.d (Qen (Qbg ((We.q2 a0).Time) ((We.q2 a0).M))),.i v5,.b (decide (v5 < 0)),.b (decide (v5 < 0))]) (Qg (Qg (opS (opS (Qg (Qg (opS (Qg (Qg (Qg (Qg (Qg (opS (Qg (Qg (Qg (opS (Qg (Qg (opV (Qg op0 hT) hT 64 (.b (decide ((We.q3 a0)>=0))) (.b true) (by rw [decide_eq_true c12]<;>rfl)) hT) hT) (fun R rest h=>Jz (Xw:=[.d (Qsg (We.q4 a0 Yj))]) (dst:=some 67) hP Wec (Qf3.Wl (We.q4 a0 Yj)) (by kernel_rfl) (.cons (Qn _) .nil) (by kernel_rfl) h)) hT) hT) hT) (fun R rest h=>Qae hT (i:=IntKind.wrap .i64 ((a0.Log.length:Int) - 1)) (n:=(a0.Log.length:Int)) h13.1 h13.2 (by kernel_rfl) h)) hT) hT) hT) hT) hT) (fun R rest h=>Qae hT (i:=IntKind.wrap .i64 ((a0.Log.length:Int) - 1)) (n:=(a0.Log.length:Int)) h13.1 h13.2 (by kernel_rfl) h)) hT) hT) (fun R rest h=>Jz (Xw:=[.i ((We.q2 a0).Time),.d (Qaq ((We.q2 a0).M))]) (dst:=some 80) hP Qjq (Qbg.Wl ((We.q2 a0).Time) ((We.q2 a0).M)) (by kernel_rfl) (.cons (Qn _) (.cons (Qn _) .nil)) (by kernel_rfl) h)) (fun R rest h=>Jz (Xw:=[.d (Qen (Qf3 (We.q4 a0 Yj))),.d (Qen (Qbg ((We.q2 a0).Time) ((We.q2 a0).M)))]) (dst:=some 81) hP Qmu (Qbs.Wl (Qf3 (We.q4 a0 Yj)) (Qbg ((We.q2 a0).Time) ((We.q2 a0).M)) h14) (by kernel_rfl) (.cons (Qn _) (.cons (Qn _) .nil)) (by kernel_rfl) h)) hT) hT) ?_
       refine Yi hT 1 (K56 11010011001111 1) [0] ⟨85,(We.p0 a0++[(11,.i Yj),(83,.b (decide (v5 < 0)))]),[.box 44 (Ym a0)]⟩ h0 ?_
       exact Jj2 (decide (v5 < 0)) H
      replace H:=sF c12 H
      refine Qbt (hP▸mixed) 21 [1,4,7,9,10,11] (sm [.i (We.q3 a0),.b false,.b false,.Qq [],.Qq [],.Qq [],.Qq [],.Qq [],.Qq [],.Qq [],.Qq [],.Qq [],.Qq [],.Qq [],.Qq [],.Qq [],.Qq [],.Qq [],.Qq [],.Qq [],.b false]) (Qg (Qg (Qg (Qg (Qg (Qg (Qg (Qg (Qg (Qg (Qg (Qg (Qg (Qg (Qg (Qg (Qg (Qg (Qg (opV (Qg op0 hT) hT 64 (.b (decide ((We.q3 a0)>=0))) (.b false) (by rw [decide_eq_false c12]<;>rfl)) hT) hT) hT) hT) hT) hT) hT) hT) hT) hT) hT) hT) hT) hT) hT) hT) hT) hT) hT) ?_
      refine Yi hT 1 (K56 11010011001111 1) [0] ⟨85,(We.p0 a0++[(11,.i Yj),(83,.b false)]),[.box 44 (Ym a0)]⟩ h0 ?_
      exact Jj2 false H
     refine Wj (Xw:=[.d (Qaq ((We.q4 a0 Yj).M))]) (dst:=some 18) (k':=(K56 1101001100100 3)) [1,3,4,9,10,11,18] [] hP Qha (Qbn.Wl ((We.q4 a0 Yj).M) h3) (by kernel_rfl) (Qz _) (.cons (Qn _) .nil) (st':=⟨85,[(1,.ptr 0 0 0 0),(3,.i Yj),(4,.ptr 1 0 0 0),(9,.d (Qcx true a0.Held)),(10,.i (a0.Held.length:Int)),(11,.i Yj),(18,.b v1)],(We.q1 a0 Yj)⟩) (by kernel_rfl) ?_
     refine Qi hT 2 (K56 1101001100100 5) ⟨85,[(1,.ptr 0 0 0 0),(3,.i Yj),(4,.ptr 1 0 0 0),(9,.d (Qcx true a0.Held)),(10,.i (a0.Held.length:Int)),(11,.i Yj),(20,.b (!v1))],(We.q1 a0 Yj)⟩ ?_
     by_cases c4:v1=true
     ·replace H:=sT c4 H
      rw [c4]
      refine Qi hT 3 (K56 1101001100100 8) ⟨85,[(1,.ptr 0 0 0 0),(3,.i Yj),(4,.ptr 1 0 0 0),(9,.d (Qcx true a0.Held)),(10,.i (a0.Held.length:Int)),(11,.i Yj),(20,.b false),(21,.d (Qct a0)),(23,.d (Qaq ((We.q4 a0 Yj).M)))],(We.q1 a0 Yj)⟩ ?_
      obtain ⟨v2,h5,H⟩:=sbC H
      refine Wj (Xw:=[.d (Qct a0),.d (Qaq ((We.q4 a0 Yj).M))]) (dst:=some 24) (k':=(K56 1101001100100 9)) [1,3,4,9,10,11,20,24] [] hP Qu8 (Qfp.Wl a0 ((We.q4 a0 Yj).M) h5) (by kernel_rfl) (Qz _) (.cons (Qn _) (.cons (Qn _) .nil)) (st':=⟨85,[(1,.ptr 0 0 0 0),(3,.i Yj),(4,.ptr 1 0 0 0),(9,.d (Qcx true a0.Held)),(10,.i (a0.Held.length:Int)),(11,.i Yj),(20,.b false),(24,.b v2)],(We.q1 a0 Yj)⟩) (by kernel_rfl) ?_
      refine Qi hT 3 (K56 1101001100100 12) ⟨85,[(1,.ptr 0 0 0 0),(3,.i Yj),(4,.ptr 1 0 0 0),(9,.d (Qcx true a0.Held)),(10,.i (a0.Held.length:Int)),(11,.i Yj),(27,.b (!v2))],(We.q1 a0 Yj)⟩ ?_
      by_cases c6:v2=true
      ·replace H:=sT c6 H
       rw [c6]
       refine Qi hT 4 (K56 1101001100100 16) ⟨85,[(1,.ptr 0 0 0 0),(3,.i Yj),(4,.ptr 1 0 0 0),(9,.d (Qcx true a0.Held)),(10,.i (a0.Held.length:Int)),(11,.i Yj),(27,.b false),(29,.i ((We.q4 a0 Yj).Time)),(31,.i a0.Clock)],(We.q1 a0 Yj)⟩ ?_
       refine Wj (Xw:=[.i ((We.q4 a0 Yj).Time),.i 1,.i a0.Clock]) (dst:=some 32) (k':=(K56 1101001100100 17)) [1,3,4,9,10,11,27,32] [] hP Qeu (Qav.Wl ((We.q4 a0 Yj).Time) 1 a0.Clock) (by kernel_rfl) (Qz _) (.cons (Qn _) (.cons (Qn _) (.cons (Qn _) .nil))) (st':=⟨85,[(1,.ptr 0 0 0 0),(3,.i Yj),(4,.ptr 1 0 0 0),(9,.d (Qcx true a0.Held)),(10,.i (a0.Held.length:Int)),(11,.i Yj),(27,.b false),(32,.b (Qav ((We.q4 a0 Yj).Time) 1 a0.Clock))],(We.q1 a0 Yj)⟩) (by kernel_rfl) ?_
       refine Qi hT 3 (K56 1101001100100 20) ⟨85,[(1,.ptr 0 0 0 0),(3,.i Yj),(4,.ptr 1 0 0 0),(9,.d (Qcx true a0.Held)),(10,.i (a0.Held.length:Int)),(11,.i Yj),(35,.b (!(Qav ((We.q4 a0 Yj).Time) 1 a0.Clock)))],(We.q1 a0 Yj)⟩ ?_
       by_cases c7:(Qav ((We.q4 a0 Yj).Time) 1 a0.Clock)=true
       ·replace H:=sT c7 H
        rw [c7]
        refine Qi hT 7 (K56 1101001100100 27) ⟨85,[(1,.ptr 0 0 0 0),(3,.i Yj),(4,.ptr 1 0 0 0),(9,.d (Qcx true a0.Held)),(10,.i (a0.Held.length:Int)),(11,.i Yj),(35,.b false),(36,.d (Qct a0)),(39,.i (((We.q4 a0 Yj).M).Client)),(42,.i (((We.q4 a0 Yj).M).Seq))],(We.q1 a0 Yj)⟩ ?_
        obtain ⟨v3,h8,H⟩:=sbC H
        refine Wj (Xw:=[.d (Qct a0),.i (((We.q4 a0 Yj).M).Client),.i (((We.q4 a0 Yj).M).Seq)]) (dst:=some 43) (k':=(K56 1101001100100 28)) [1,3,4,9,10,11,35,43] [] hP Web (Qjo.Wl a0 (((We.q4 a0 Yj).M).Client) (((We.q4 a0 Yj).M).Seq) h8) (by kernel_rfl) (Qz _) (.cons (Qn _) (.cons (Qn _) (.cons (Qn _) .nil))) (st':=⟨85,[(1,.ptr 0 0 0 0),(3,.i Yj),(4,.ptr 1 0 0 0),(9,.d (Qcx true a0.Held)),(10,.i (a0.Held.length:Int)),(11,.i Yj),(35,.b false),(43,.i v3)],(We.q1 a0 Yj)⟩) (by kernel_rfl) ?_
        refine Qi hT 4 (K56 110100110010 1) ⟨85,[(1,.ptr 0 0 0 0),(4,.ptr 1 0 0 0),(9,.d (Qcx true a0.Held)),(10,.i (a0.Held.length:Int)),(11,.i Yj),(46,.b (v3 != Yj))],(We.q1 a0 Yj)⟩ ?_
        exact Zl (v3 != Yj) H
       replace H:=sF c7 H
       rw [boF c7]
       refine Qi hT 12 (K56 110100110010 1) (We.s1 a0 Yj) ?_
       exact Zl true H
      replace H:=sF c6 H
      rw [boF c6]
      refine Qi hT 20 (K56 110100110010 1) (We.s1 a0 Yj) ?_
      exact Zl true H
     replace H:=sF c4 H
     rw [boF c4]
     refine Qi hT 27 (K56 110100110010 1) (We.s1 a0 Yj) ?_
     exact Zl true H
    replace H:=sF c1 H
    rw [decide_eq_false c1]
    refine Qi hT 6 (K56 111 1) ⟨85,[(2,.b true)],[.box 44 (Ym a0)]⟩ ?_
    obtain rfl:=Zb H
    exact Yr hf hX h0 (.b true) [] an (.d (.v _))
 obtain ⟨n,H⟩:=Qcn H
 exact (L n) 0 H
end
end Go.SyP
