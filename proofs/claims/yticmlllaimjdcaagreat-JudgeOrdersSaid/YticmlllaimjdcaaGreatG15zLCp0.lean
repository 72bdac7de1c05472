/- Certificates, printed by gen.py. -/
import Derived.Test.YticmlllaimjdcaaGreatG15zLP
import Derived.Test.YticmlllaimjdcaaGreatG15zA
import Derived.Test.YticmlllaimjdcaaGreatSyPtr
set_option linter.unusedVariables false
set_option linter.unusedSimpArgs false
namespace Go.SyP
open Go Go.Sy Go.Proofs
noncomputable section
abbrev Qbv.p0 (a0:Int):List (Nat × AV):=[(6,.ptr 0 0 0 0),(13,.agg [.i 1,.i a0,.i a0,.own 1 2 0 1,.i 0,.i 0,.i 0])]
theorem Qbv.Qy (a0:Int) (a1:Int) (a2:Int):Xz Tryz.prog 15 [] [.i a0,.i a1,.i a2] [] (.d (Qb5 (Qbv a0 a1 a2))):=by
 obtain ⟨r,H⟩:∃ r,Qbv a0 a1 a2=r:=⟨_,rfl⟩
 rw [H]
 refine Xj Tryz.func15 rfl (nt:=14) rfl (lb rfl) fun X hP h0 hX=>?_
 have hT:Xb X.P T:=hP▸tok
 have hf:X.P.funcs[15]? = some Tryz.f15:=hP▸Tryz.func15
 refine Xl hT 13 (K15 110 7) ⟨14,(Qbv.p0 a0),[.box 47 [.i 0,.i 0,.i 0,.ns,.i 0,.i 0,.i 0],.flat false 2 56 1 (fun j=>[[.i a1,.i a2]].getD j [])]⟩ ?_
 refine Qje 1 (kk:=2) (fz:=false) (ty:=56) (n:=([(⟨a1,a2⟩:Qa)]:List Qa).length) (vec Qa.e Qa.z ([(⟨a1,a2⟩:Qa)]:List Qa)) (by kernel_rfl) Qh7 (st':=⟨14,(Qbv.p0 a0),[.box 47 [.i 0,.i 0,.i 0,.ns,.i 0,.i 0,.i 0],Zg ([(⟨a1,a2⟩:Qa)]:List Qa)]⟩) (by kernel_rfl) ?_
 refine Qen 1 (kk:=2) (n:=([(⟨a1,a2⟩:Qa)]:List Qa).length) (ty:=56) (g:=vec Qa.e Qa.z ([(⟨a1,a2⟩:Qa)]:List Qa)) (by kernel_rfl) (st':=⟨14,(Qbv.p0 a0),[.box 47 [.i 0,.i 0,.i 0,.ns,.i 0,.i 0,.i 0],Qof ([(⟨a1,a2⟩:Qa)]:List Qa)]⟩) (by kernel_rfl) ?_
 refine Qg3 (av:=.agg [.i 1,.i a0,.i a0,.own 1 2 0 1,.i 0,.i 0,.i 0]) (y:=.agg [.i 1,.i a0,.i a0,Yi true ([(⟨a1,a2⟩:Qa)]:List Qa),.i 0,.i 0,.i 0]) [6,13] 13 (st':=⟨14,[(6,.ptr 0 0 0 0),(13,.d (.agg [.i 1,.i a0,.i a0,Yi true ([(⟨a1,a2⟩:Qa)]:List Qa),.i 0,.i 0,.i 0]))],[.box 47 [.i 0,.i 0,.i 0,.ns,.i 0,.i 0,.i 0],Qof ([(⟨a1,a2⟩:Qa)]:List Qa)]⟩) (by kernel_rfl) (.agg (.cons (.d _) (.cons (.d _) (.cons (.d _) (.cons (.own (ty:=56) (k:=2) (by kernel_rfl)) (.cons (.d _) (.cons (.d _) (.cons (.d _) .nil)))))))) (by kernel_rfl) ?_
 refine Xl hT 2 (K15 11 1) ⟨14,[(6,.ptr 0 0 0 0)],[.box 47 [.i 1,.i a0,.i a0,.d (Yi true ([(⟨a1,a2⟩:Qa)]:List Qa)),.i 0,.i 0,.i 0],Qof ([(⟨a1,a2⟩:Qa)]:List Qa)]⟩ ?_
 obtain rfl:=H
 exact Qhw hT hf hX (av:=.d (.agg [.i 1,.i a0,.i a0,Yi true ([(⟨a1,a2⟩:Qa)]:List Qa),.i 0,.i 0,.i 0])) (by kernel_rfl) [] (Qbu (by kernel_rfl)) (by decide) (by rw [h0];rfl) (by kernel_rfl) an (.d (.agg (We.nl _)))
abbrev Zz.p0 (t0:Bool) (a0:List Qb):List (Nat × AV):=[(0,.d (Yx t0 a0)),(5,.d (Yx t0 a0)),(6,.i (a0.length:Int))]
theorem Zz.Qy {t0:Bool} (a0:List Qb) {r:Bool} (H:Zz a0=some r):Xz Tryz.prog 40 [] [.d (Yx t0 a0)] [] (.b r):=by
 refine Xj Tryz.func40 rfl (nt:=34) rfl (lb rfl) fun X hP h0 hX=>?_
 have hT:Xb X.P T:=hP▸tok
 have hf:X.P.funcs[40]? = some Tryz.f40:=hP▸Tryz.func40
 refine Xl hT 13 (K40 11010 0) ⟨34,(Zz.p0 t0 a0++[(7,.i 0)]),[]⟩ ?_
 have L:∀ n,(∀ (Ws:Int),iter (Zz.step a0) n (.l1 Ws)=some r->AK X 40 ((K40 11010 0)) (Yc X [] (.b r)) ⟨34,(Zz.p0 t0 a0++[(7,.i Ws)]),[]⟩):=by
  intro n
  induction n with
  | zero=>exact fun _ H=>Qal H
  | succ n ih=>
   ·intro Ws H
    refine qI ?_
    rcases sB H with ⟨c1,H⟩ | ⟨c1,H⟩
    ·refine qB hT 5 (decide_eq_true c1) ?_
     refine qE hT 7 (K40 11010011000 1) ⟨34,(Zz.p0 t0 a0++[(7,.i Ws),(9,.i Ws)]),[]⟩ ?_
     obtain ⟨h2,H⟩:=sC H
     have Xy:∀ (Qr3:Bool),stk (Zz.j1 Ws Qr3) (iter (Zz.step a0) n)=some r->AK X 40 ((K40 11010011001 1)) (Yc X [] (.b r)) ⟨34,(Zz.p0 t0 a0++[(7,.i Ws),(29,.b Qr3)]),[]⟩:=by
      intro Qr3 H
      by_cases c6:Qr3=true
      ·replace H:=sT c6 H
       rw [c6]
       refine qI ?_
       obtain rfl:=Xr H
       exact qT hT 5 hf hX h0 [] an (.d (.v _))
      replace H:=sF c6 H
      rw [Jo c6]
      exact Xl hT 8 _ _ (ih (IntKind.wrap .i64 (Ws+1)) H)
     refine qI ?_
     refine qX hT 0 h2 ?_
     refine qE hT 6 (K40 11010011001 0) ⟨34,[(0,.d (Yx t0 a0)),(3,.i Ws),(4,.ptr 0 0 0 0),(5,.d (Yx t0 a0)),(6,.i (a0.length:Int)),(7,.i Ws)],[.box 39 (Qkj (a0.getD Ws.toNat Qb.z))]⟩ ?_
     by_cases c3:(Qcd (a0.getD Ws.toNat Qb.z))=true
     ·replace H:=sT c3 H
      by_cases c4:Ws > 0
      ·replace H:=sT c4 H
       obtain ⟨h5,H⟩:=sC H
       refine Qak (hP▸mixed) 18 [0,3,4,5,6,7] (sm [.d (Qhd (a0.getD Ws.toNat Qb.z)),.b true,.b false,.b false,.i Ws,.b true,.b true,.ptr 0 0 0 0,.i ((a0.getD Ws.toNat Qb.z).Lo),.d (Yx t0 a0),.i Ws,.i (IntKind.wrap .i64 (Ws - 1)),.d (Wlj t0 a0 ((IntKind.wrap .i64 (Ws - 1)).toNat) 0),.d (Wlj t0 a0 ((IntKind.wrap .i64 (Ws - 1)).toNat) 1),.i ((a0.getD ((IntKind.wrap .i64 (Ws - 1)).toNat) Qb.z).Hi),.b (decide (((a0.getD Ws.toNat Qb.z).Lo)<=((a0.getD ((IntKind.wrap .i64 (Ws - 1)).toNat) Qb.z).Hi))),.b (decide (((a0.getD Ws.toNat Qb.z).Lo)<=((a0.getD ((IntKind.wrap .i64 (Ws - 1)).toNat) Qb.z).Hi))),.b (decide (((a0.getD Ws.toNat Qb.z).Lo)<=((a0.getD ((IntKind.wrap .i64 (Ws - 1)).toNat) Qb.z).Hi)))]) (Qe (Qe (Qe (Qe (Qe (Jr (Qe (Qe (Qe (Qe (Qe (Qe (opV (Qe (Qe (Qe (Jr (Qe op0 hT) (fun R rest h=>Zl (Zk:=[.d (Qhd (a0.getD Ws.toNat Qb.z))]) (dst:=some 13) hP Qjg (by have q:=Qcd.Qy (a0.getD Ws.toNat Qb.z);rw [c3] at q;exact q) (by kernel_rfl) (.cons (Wj _) .nil) (by kernel_rfl) h)) hT) hT) hT) hT 17 (.b (decide (Ws > 0))) (.b true) (by rw [decide_eq_true c4]<;>rfl)) hT) hT) hT) hT) hT) hT) (fun R rest h=>Yf hT (i:=IntKind.wrap .i64 (Ws - 1)) (n:=(a0.length:Int)) h5.1 h5.2 (by kernel_rfl) h)) hT) hT) hT) hT) hT) ?_
       exact Yp hT 1 _ [] _ h0 (Xy (decide (((a0.getD Ws.toNat Qb.z).Lo)<=((a0.getD ((IntKind.wrap .i64 (Ws - 1)).toNat) Qb.z).Hi))) H)
      replace H:=sF c4 H
      refine Qak (hP▸mixed) 18 [0,3,4,5,6,7] (sm [.d (Qhd (a0.getD Ws.toNat Qb.z)),.b true,.b false,.b false,.i Ws,.b false,.b false,.Qn [],.Qn [],.Qn [],.Qn [],.Qn [],.Qn [],.Qn [],.Qn [],.Qn [],.b false,.b false]) (Qe (Qe (Qe (Qe (Qe (Qe (Qe (Qe (Qe (Qe (Qe (Qe (opV (Qe (Qe (Qe (Jr (Qe op0 hT) (fun R rest h=>Zl (Zk:=[.d (Qhd (a0.getD Ws.toNat Qb.z))]) (dst:=some 13) hP Qjg (by have q:=Qcd.Qy (a0.getD Ws.toNat Qb.z);rw [c3] at q;exact q) (by kernel_rfl) (.cons (Wj _) .nil) (by kernel_rfl) h)) hT) hT) hT) hT 17 (.b (decide (Ws > 0))) (.b false) (by rw [decide_eq_false c4]<;>rfl)) hT) hT) hT) hT) hT) hT) hT) hT) hT) hT) hT) hT) ?_
      exact Yp hT 1 _ [] _ h0 (Xy false H)
     replace H:=sF c3 H
     refine Qak (hP▸mixed) 18 [0,3,4,5,6,7] (sm [.d (Qhd (a0.getD Ws.toNat Qb.z)),.b false,.b true,.b true,.Qn [],.Qn [],.Qn [],.Qn [],.Qn [],.Qn [],.Qn [],.Qn [],.Qn [],.Qn [],.Qn [],.Qn [],.Qn [],.b true]) (Qe (Qe (Qe (Qe (Qe (Qe (Qe (Qe (Qe (Qe (Qe (Qe (Qe (Qe (Qe (Qe (Jr (Qe op0 hT) (fun R rest h=>Zl (Zk:=[.d (Qhd (a0.getD Ws.toNat Qb.z))]) (dst:=some 13) hP Qjg (by have q:=Qcd.Qy (a0.getD Ws.toNat Qb.z);rw [Jo c3] at q;exact q) (by kernel_rfl) (.cons (Wj _) .nil) (by kernel_rfl) h)) hT) hT) hT) hT) hT) hT) hT) hT) hT) hT) hT) hT) hT) hT) hT) hT) ?_
     exact Yp hT 1 _ [] _ h0 (Xy true H)
    refine qB hT 5 (decide_eq_false c1) ?_
    obtain rfl:=Xr H
    exact qT hT 9 hf hX h0 [] an (.d (.v _))
 obtain ⟨n,H⟩:=Qbp H
 exact (L n) 0 H
theorem Yy.Qy {t0:Bool} {ff1:FuncId} {cc1:List DV} (a0:List Qc) (p1:Qc->Option Bool) (he1:Sy.Enters Tryz.prog ff1) (hp1:∀ (z0:Qc) r,p1 z0=some r->Xz Tryz.prog ff1 [] ([.d (Qff z0)] ++ List.map AV.d cc1) [] (.b r)) {r:Int} (H:Yy a0 p1=some r):Xz Tryz.prog 20 [] [.d (Qbg t0 a0),.d (.fn ff1 cc1)] [] (.i r):=by
 refine Xj Tryz.func20 rfl (nt:=19) rfl (lb rfl) fun X hP h0 hX=>?_
 have hT:Xb X.P T:=hP▸tok
 have hf:X.P.funcs[20]? = some Tryz.f20:=hP▸Tryz.func20
 refine Xl hT 13 (K20 11010 0) ⟨19,[(0,.d (Qbg t0 a0)),(1,.d (.fn ff1 cc1)),(7,.i (a0.length:Int)),(8,.i 0)],[]⟩ ?_
 have L:∀ n,(∀ (Xd:Int),iter (Yy.step a0 p1) n (.l1 Xd)=some r->AK X 20 ((K20 11010 0)) (Yc X [] (.i r)) ⟨19,[(0,.d (Qbg t0 a0)),(1,.d (.fn ff1 cc1)),(7,.i (a0.length:Int)),(8,.i Xd)],[]⟩):=by
  intro n
  induction n with
  | zero=>exact fun _ H=>Qal H
  | succ n ih=>
   ·intro Xd H
    refine qI ?_
    rcases sB H with ⟨c1,H⟩ | ⟨c1,H⟩
    ·refine qB hT 5 (decide_eq_true c1) ?_
     refine qE hT 14 (K20 110100110010 3) ⟨19,[(0,.d (Qbg t0 a0)),(1,.d (.fn ff1 cc1)),(5,.i Xd),(7,.i (a0.length:Int)),(8,.i Xd),(11,.d (.fn ff1 cc1)),(12,.d (Qbg t0 a0)),(13,.i Xd)],[]⟩ ?_
     obtain ⟨h2,H⟩:=sC H
     refine qI ?_
     refine qX hT 0 h2 ?_
     refine qE hT 1 (K20 110100110010 5) ⟨19,[(0,.d (Qbg t0 a0)),(1,.d (.fn ff1 cc1)),(5,.i Xd),(7,.i (a0.length:Int)),(8,.i Xd),(11,.d (.fn ff1 cc1)),(15,.d (Qff (a0.getD Xd.toNat Qc.z)))],[]⟩ ?_
     obtain ⟨v1,h3,H⟩:=sbC H
     refine Jj (Zk:=[.d (Qff (a0.getD Xd.toNat Qc.z))] ++ List.map AV.d cc1) (dst:=some 16) (k':=(K20 110100110010 6)) [0,1,5,7,8,16] [] hP he1 (hp1 (a0.getD Xd.toNat Qc.z) v1 h3) (by kernel_rfl) (Jy _) (.cons (Wj _) (Qgq _)) (st':=⟨19,[(0,.d (Qbg t0 a0)),(1,.d (.fn ff1 cc1)),(5,.i Xd),(7,.i (a0.length:Int)),(8,.i Xd),(16,.b v1)],[]⟩) (by kernel_rfl) ?_
     refine qI ?_
     rcases sB H with ⟨c4,H⟩ | ⟨c4,H⟩
     ·refine qB hT 1 (c4) ?_
      obtain rfl:=Xr H
      exact qT hT 6 hf hX h0 [] an (.d (.v _))
     refine qB hT 1 (Jo c4) ?_
     exact qE hT 8 _ _ (ih (IntKind.wrap .i64 (Xd+1)) H)
    refine qB hT 5 (decide_eq_false c1) ?_
    obtain rfl:=Xr H
    exact qT hT 6 hf hX h0 [] an (.d (.v _))
 obtain ⟨n,H⟩:=Qbp H
 exact (L n) 0 H
theorem Qbl.Qy {t0:Bool} {ff1:FuncId} {cc1:List DV} (a0:List Qc) (p1:Qc->Option Bool) (he1:Sy.Enters Tryz.prog ff1) (hp1:∀ (z0:Qc) r,p1 z0=some r->Xz Tryz.prog ff1 [] ([.d (Qff z0)] ++ List.map AV.d cc1) [] (.b r)) {r:Bool} (H:Qbl a0 p1=some r):Xz Tryz.prog 41 [] [.d (Qbg t0 a0),.d (.fn ff1 cc1)] [] (.b r):=by
 refine Xj Tryz.func41 rfl (nt:=9) rfl (lb rfl) fun X hP h0 hX=>?_
 have hT:Xb X.P T:=hP▸tok
 have hf:X.P.funcs[41]? = some Tryz.f41:=hP▸Tryz.func41
 refine qI ?_
 obtain ⟨v1,h1,H⟩:=ibC H
 refine qF hT 8 hP Qv1 (Yy.Qy (t0:=t0) (ff1:=ff1) (cc1:=cc1) a0 p1 he1 hp1 h1) ?_
 obtain rfl:=Xr H
 exact qT hT 3 hf hX h0 [] an (.d (.v _))
theorem Qg8.Qy (a0:Qc) {r:Bool} (H:Qg8 a0=some r):Xz Tryz.prog 42 [] [.d (Qff a0)] [] (.b r):=by
 refine Xj Tryz.func42 rfl (nt:=7) rfl (lb rfl) fun X hP h0 hX=>?_
 have hT:Xb X.P T:=hP▸tok
 have hf:X.P.funcs[42]? = some Tryz.f42:=hP▸Tryz.func42
 refine qI ?_
 obtain ⟨v1,h1,H⟩:=ibC H
 refine qF hT 9 hP Qid (Qbx.Qy a0.M h1) ?_
 obtain rfl:=Xr H
 exact qT hT 3 hf hX h0 [] an (.d (.v _))
abbrev Xn.q1 (a0:List Qa) (Ws:Int):=((a0.getD Ws.toNat Qa.z).Key)
abbrev Xn.p0 (t0:Bool) (a0:List Qa):List (Nat × AV):=[(0,.d (Yi t0 a0)),(5,.d (Yi t0 a0)),(6,.i (a0.length:Int))]
theorem Xn.Qy {t0:Bool} (a0:List Qa) {r:Bool} (H:Xn a0=some r):Xz Tryz.prog 45 [] [.d (Yi t0 a0)] [] (.b r):=by
 refine Xj Tryz.func45 rfl (nt:=46) rfl (lb rfl) fun X hP h0 hX=>?_
 have hT:Xb X.P T:=hP▸tok
 have hf:X.P.funcs[45]? = some Tryz.f45:=hP▸Tryz.func45
 refine Xl hT 13 (K45 11010 0) ⟨46,(Xn.p0 t0 a0++[(7,.i 0)]),[]⟩ ?_
 have L:∀ n,(∀ (Ws:Int),iter (Xn.step a0) n (.l1 Ws)=some r->AK X 45 ((K45 11010 0)) (Yc X [] (.b r)) ⟨46,(Xn.p0 t0 a0++[(7,.i Ws)]),[]⟩):=by
  intro n
  induction n with
  | zero=>exact fun _ H=>Qal H
  | succ n ih=>
   ·intro Ws H
    refine qI ?_
    rcases sB H with ⟨c1,H⟩ | ⟨c1,H⟩
    ·refine qB hT 5 (decide_eq_true c1) ?_
     refine qE hT 7 (K45 11010011000 1) ⟨46,(Xn.p0 t0 a0++[(7,.i Ws),(9,.i Ws)]),[]⟩ ?_
     obtain ⟨h2,H⟩:=sC H
     have Xy:∀ (Qr9:Bool),stk (Xn.j1 Ws Qr9) (iter (Xn.step a0) n)=some r->AK X 45 ((K45 11010011001 1)) (Yc X [] (.b r)) ⟨46,(Xn.p0 t0 a0++[(7,.i Ws),(44,.b Qr9)]),[]⟩:=by
      intro Qr9 H
      by_cases c9:Qr9=true
      ·replace H:=sT c9 H
       rw [c9]
       refine qI ?_
       obtain rfl:=Xr H
       exact qT hT 5 hf hX h0 [] an (.d (.v _))
      replace H:=sF c9 H
      rw [Jo c9]
      exact Xl hT 8 _ _ (ih (IntKind.wrap .i64 (Ws+1)) H)
     refine qI ?_
     refine qX hT 0 h2 ?_
     refine qE hT 6 (K45 11010011001 0) ⟨46,[(0,.d (Yi t0 a0)),(3,.i Ws),(4,.ptr 0 0 0 0),(5,.d (Yi t0 a0)),(6,.i (a0.length:Int)),(7,.i Ws)],[.box 56 (Qe8 (a0.getD Ws.toNat Qa.z))]⟩ ?_
     by_cases c3:(Xn.q1 a0 Ws) < 0
     ·replace H:=sT c3 H
      refine Qak (hP▸mixed) 33 [0,3,4,5,6,7] (sm [.ptr 0 0 0 0,.i (Xn.q1 a0 Ws),.b true,.b true,.Qn [],.Qn [],.Qn [],.b true,.b true,.Qn [],.Qn [],.Qn [],.b true,.b true,.Qn [],.Qn [],.Qn [],.b true,.b true,.Qn [],.Qn [],.Qn [],.Qn [],.Qn [],.Qn [],.Qn [],.Qn [],.Qn [],.Qn [],.Qn [],.Qn [],.Qn [],.b true]) (Qe (Qe (Qe (Qe (Qe (Qe (Qe (Qe (Qe (Qe (Qe (Qe (Qe (Qe (Qe (Qe (Qe (Qe (Qe (Qe (Qe (Qe (Qe (Qe (Qe (Qe (Qe (Qe (Qe (Qe (opV (Qe (Qe op0 hT) hT) hT 14 (.b (decide ((Xn.q1 a0 Ws) < 0))) (.b true) (by rw [decide_eq_true c3]<;>rfl)) hT) hT) hT) hT) hT) hT) hT) hT) hT) hT) hT) hT) hT) hT) hT) hT) hT) hT) hT) hT) hT) hT) hT) hT) hT) hT) hT) hT) hT) hT) ?_
      exact Yp hT 1 _ [] _ h0 (Xy true H)
     replace H:=sF c3 H
     by_cases c4:(Xn.q1 a0 Ws)>=4096
     ·replace H:=sT c4 H
      refine Qak (hP▸mixed) 33 [0,3,4,5,6,7] (sm [.ptr 0 0 0 0,.i (Xn.q1 a0 Ws),.b false,.b false,.ptr 0 0 0 0,.i (Xn.q1 a0 Ws),.b true,.b true,.b true,.Qn [],.Qn [],.Qn [],.b true,.b true,.Qn [],.Qn [],.Qn [],.b true,.b true,.Qn [],.Qn [],.Qn [],.Qn [],.Qn [],.Qn [],.Qn [],.Qn [],.Qn [],.Qn [],.Qn [],.Qn [],.Qn [],.b true]) (Qe (Qe (Qe (Qe (Qe (Qe (Qe (Qe (Qe (Qe (Qe (Qe (Qe (Qe (Qe (Qe (Qe (Qe (Qe (Qe (Qe (Qe (Qe (Qe (Qe (Qe (opV (Qe (Qe (Qe (opV (Qe (Qe op0 hT) hT) hT 14 (.b (decide ((Xn.q1 a0 Ws) < 0))) (.b false) (by rw [decide_eq_false c3]<;>rfl)) hT) hT) hT) hT 18 (.b (decide ((Xn.q1 a0 Ws)>=4096))) (.b true) (by rw [decide_eq_true c4]<;>rfl)) hT) hT) hT) hT) hT) hT) hT) hT) hT) hT) hT) hT) hT) hT) hT) hT) hT) hT) hT) hT) hT) hT) hT) hT) hT) hT) ?_
      exact Yp hT 1 _ [] _ h0 (Xy true H)
     replace H:=sF c4 H
     by_cases c5:((a0.getD Ws.toNat Qa.z).Val) < (-1099511627776)
     ·replace H:=sT c5 H
      refine Qak (hP▸mixed) 33 [0,3,4,5,6,7] (sm [.ptr 0 0 0 0,.i (Xn.q1 a0 Ws),.b false,.b false,.ptr 0 0 0 0,.i (Xn.q1 a0 Ws),.b false,.b false,.b false,.ptr 0 0 0 1,.i ((a0.getD Ws.toNat Qa.z).Val),.b true,.b true,.b true,.Qn [],.Qn [],.Qn [],.b true,.b true,.Qn [],.Qn [],.Qn [],.Qn [],.Qn [],.Qn [],.Qn [],.Qn [],.Qn [],.Qn [],.Qn [],.Qn [],.Qn [],.b true]) (Qe (Qe (Qe (Qe (Qe (Qe (Qe (Qe (Qe (Qe (Qe (Qe (Qe (Qe (Qe (Qe (Qe (Qe (Qe (Qe (Qe (opV (Qe (Qe (Qe (Qe (opV (Qe (Qe (Qe (opV (Qe (Qe op0 hT) hT) hT 14 (.b (decide ((Xn.q1 a0 Ws) < 0))) (.b false) (by rw [decide_eq_false c3]<;>rfl)) hT) hT) hT) hT 18 (.b (decide ((Xn.q1 a0 Ws)>=4096))) (.b false) (by rw [decide_eq_false c4]<;>rfl)) hT) hT) hT) hT) hT 23 (.b (decide (((a0.getD Ws.toNat Qa.z).Val) < (-1099511627776)))) (.b true) (by rw [decide_eq_true c5]<;>rfl)) hT) hT) hT) hT) hT) hT) hT) hT) hT) hT) hT) hT) hT) hT) hT) hT) hT) hT) hT) hT) hT) ?_
      exact Yp hT 1 _ [] _ h0 (Xy true H)
     replace H:=sF c5 H
     by_cases c6:((a0.getD Ws.toNat Qa.z).Val) > 1099511627776
     ·replace H:=sT c6 H
      refine Qak (hP▸mixed) 33 [0,3,4,5,6,7] (sm [.ptr 0 0 0 0,.i (Xn.q1 a0 Ws),.b false,.b false,.ptr 0 0 0 0,.i (Xn.q1 a0 Ws),.b false,.b false,.b false,.ptr 0 0 0 1,.i ((a0.getD Ws.toNat Qa.z).Val),.b false,.b false,.b false,.ptr 0 0 0 1,.i ((a0.getD Ws.toNat Qa.z).Val),.b true,.b true,.b true,.Qn [],.Qn [],.Qn [],.Qn [],.Qn [],.Qn [],.Qn [],.Qn [],.Qn [],.Qn [],.Qn [],.Qn [],.Qn [],.b true]) (Qe (Qe (Qe (Qe (Qe (Qe (Qe (Qe (Qe (Qe (Qe (Qe (Qe (Qe (Qe (Qe (opV (Qe (Qe (Qe (Qe (opV (Qe (Qe (Qe (Qe (opV (Qe (Qe (Qe (opV (Qe (Qe op0 hT) hT) hT 14 (.b (decide ((Xn.q1 a0 Ws) < 0))) (.b false) (by rw [decide_eq_false c3]<;>rfl)) hT) hT) hT) hT 18 (.b (decide ((Xn.q1 a0 Ws)>=4096))) (.b false) (by rw [decide_eq_false c4]<;>rfl)) hT) hT) hT) hT) hT 23 (.b (decide (((a0.getD Ws.toNat Qa.z).Val) < (-1099511627776)))) (.b false) (by rw [decide_eq_false c5]<;>rfl)) hT) hT) hT) hT) hT 28 (.b (decide (((a0.getD Ws.toNat Qa.z).Val) > 1099511627776))) (.b true) (by rw [decide_eq_true c6]<;>rfl)) hT) hT) hT) hT) hT) hT) hT) hT) hT) hT) hT) hT) hT) hT) hT) hT) ?_
      exact Yp hT 1 _ [] _ h0 (Xy true H)
     replace H:=sF c6 H
     by_cases c7:Ws > 0
     ·replace H:=sT c7 H
      obtain ⟨h8,H⟩:=sC H
      refine Qak (hP▸mixed) 33 [0,3,4,5,6,7] (sm [.ptr 0 0 0 0,.i (Xn.q1 a0 Ws),.b false,.b false,.ptr 0 0 0 0,.i (Xn.q1 a0 Ws),.b false,.b false,.b false,.ptr 0 0 0 1,.i ((a0.getD Ws.toNat Qa.z).Val),.b false,.b false,.b false,.ptr 0 0 0 1,.i ((a0.getD Ws.toNat Qa.z).Val),.b false,.b false,.b false,.i Ws,.b true,.b true,.d (Yi t0 a0),.i Ws,.i (IntKind.wrap .i64 (Ws - 1)),.d (Qhq t0 a0 ((IntKind.wrap .i64 (Ws - 1)).toNat) 0),.d (Qhq t0 a0 ((IntKind.wrap .i64 (Ws - 1)).toNat) 0),.i ((a0.getD ((IntKind.wrap .i64 (Ws - 1)).toNat) Qa.z).Key),.ptr 0 0 0 0,.i (Xn.q1 a0 Ws),.b (decide (((a0.getD ((IntKind.wrap .i64 (Ws - 1)).toNat) Qa.z).Key)>=(Xn.q1 a0 Ws))),.b (decide (((a0.getD ((IntKind.wrap .i64 (Ws - 1)).toNat) Qa.z).Key)>=(Xn.q1 a0 Ws))),.b (decide (((a0.getD ((IntKind.wrap .i64 (Ws - 1)).toNat) Qa.z).Key)>=(Xn.q1 a0 Ws)))]) (Qe (Qe (Qe (Qe (Qe (Qe (Qe (Jr (Qe (Qe (Qe (Qe (opV (Qe (Qe (Qe (opV (Qe (Qe (Qe (Qe (opV (Qe (Qe (Qe (Qe (opV (Qe (Qe (Qe (opV (Qe (Qe op0 hT) hT) hT 14 (.b (decide ((Xn.q1 a0 Ws) < 0))) (.b false) (by rw [decide_eq_false c3]<;>rfl)) hT) hT) hT) hT 18 (.b (decide ((Xn.q1 a0 Ws)>=4096))) (.b false) (by rw [decide_eq_false c4]<;>rfl)) hT) hT) hT) hT) hT 23 (.b (decide (((a0.getD Ws.toNat Qa.z).Val) < (-1099511627776)))) (.b false) (by rw [decide_eq_false c5]<;>rfl)) hT) hT) hT) hT) hT 28 (.b (decide (((a0.getD Ws.toNat Qa.z).Val) > 1099511627776))) (.b false) (by rw [decide_eq_false c6]<;>rfl)) hT) hT) hT) hT 32 (.b (decide (Ws > 0))) (.b true) (by rw [decide_eq_true c7]<;>rfl)) hT) hT) hT) hT) (fun R rest h=>Yf hT (i:=IntKind.wrap .i64 (Ws - 1)) (n:=(a0.length:Int)) h8.1 h8.2 (by kernel_rfl) h)) hT) hT) hT) hT) hT) hT) hT) ?_
      exact Yp hT 1 _ [] _ h0 (Xy (decide (((a0.getD ((IntKind.wrap .i64 (Ws - 1)).toNat) Qa.z).Key)>=(Xn.q1 a0 Ws))) H)
     replace H:=sF c7 H
     refine Qak (hP▸mixed) 33 [0,3,4,5,6,7] (sm [.ptr 0 0 0 0,.i (Xn.q1 a0 Ws),.b false,.b false,.ptr 0 0 0 0,.i (Xn.q1 a0 Ws),.b false,.b false,.b false,.ptr 0 0 0 1,.i ((a0.getD Ws.toNat Qa.z).Val),.b false,.b false,.b false,.ptr 0 0 0 1,.i ((a0.getD Ws.toNat Qa.z).Val),.b false,.b false,.b false,.i Ws,.b false,.b false,.Qn [],.Qn [],.Qn [],.Qn [],.Qn [],.Qn [],.Qn [],.Qn [],.Qn [],.b false,.b false]) (Qe (Qe (Qe (Qe (Qe (Qe (Qe (Qe (Qe (Qe (Qe (Qe (opV (Qe (Qe (Qe (opV (Qe (Qe (Qe (Qe (opV (Qe (Qe (Qe (Qe (opV (Qe (Qe (Qe (opV (Qe (Qe op0 hT) hT) hT 14 (.b (decide ((Xn.q1 a0 Ws) < 0))) (.b false) (by rw [decide_eq_false c3]<;>rfl)) hT) hT) hT) hT 18 (.b (decide ((Xn.q1 a0 Ws)>=4096))) (.b false) (by rw [decide_eq_false c4]<;>rfl)) hT) hT) hT) hT) hT 23 (.b (decide (((a0.getD Ws.toNat Qa.z).Val) < (-1099511627776)))) (.b false) (by rw [decide_eq_false c5]<;>rfl)) hT) hT) hT) hT) hT 28 (.b (decide (((a0.getD Ws.toNat Qa.z).Val) > 1099511627776))) (.b false) (by rw [decide_eq_false c6]<;>rfl)) hT) hT) hT) hT 32 (.b (decide (Ws > 0))) (.b false) (by rw [decide_eq_false c7]<;>rfl)) hT) hT) hT) hT) hT) hT) hT) hT) hT) hT) hT) hT) ?_
     exact Yp hT 1 _ [] _ h0 (Xy false H)
    refine qB hT 5 (decide_eq_false c1) ?_
    obtain rfl:=Xr H
    exact qT hT 6 hf hX h0 [] an (.d (.v _))
 obtain ⟨n,H⟩:=Qbp H
 exact (L n) 0 H
theorem Xx.Qy {ff1:FuncId} {cc1:List DV} (a0:List Qa) (p1:Qa->Option Bool) (he1:Sy.Enters Tryz.prog ff1) (hp1:∀ (z0:Qa) r,p1 z0=some r->Xz Tryz.prog ff1 [] ([.d (Qhe z0)] ++ List.map AV.d cc1) [] (.b r)) {r:List Qa} (H:Xx a0 p1=some r):Xz Tryz.prog 124 [Zg a0] [.own 0 2 0 a0.length,.d (.fn ff1 cc1)] [.gone,Zg r] (.own 1 2 0 r.length):=by
 refine Xj Tryz.func124 rfl (nt:=42) rfl (lb rfl) fun X hP h0 hX=>?_
 have hT:Xb X.P T:=hP▸tok
 have hf:X.P.funcs[124]? = some Tryz.f124:=hP▸Tryz.func124
 refine Qgr 0 (r:=Zg a0) rfl rfl (st':=⟨42,[(0,.own 1 2 0 a0.length),(1,.d (.fn ff1 cc1))],[.gone,Zg a0]⟩) (by kernel_rfl) (by kernel_rfl) rfl ?_
 refine qI ?_
 obtain ⟨v1,h1,H⟩:=ibC H
 refine qF hT 8 hP Que (Zd.Qy (t0:=false) (ff1:=ff1) (cc1:=cc1) a0 p1 he1 hp1 h1) ?_
 refine qE hT 8 (Qj5 1110 1) ⟨42,[(0,.own 1 2 0 a0.length),(1,.d (.fn ff1 cc1)),(5,.i v1),(12,.b (v1 == (-1)))],[.gone,Zg a0]⟩ ?_
 by_cases c2:v1=(-1)
 ·replace H:=iT c2 H
  rw [eqT c2]
  refine qI ?_
  obtain rfl:=Xr H
  exact qT hT 6 hf hX h0 [0,1] (ac .gone (ac (Qat Qa.nl) an)) (.own _ _ _ _)
 replace H:=iF c2 H
 rw [eqF c2]
 refine Xl hT 11 (Qj5 1111010 0) ⟨42,[(0,.own 1 2 0 a0.length),(1,.d (.fn ff1 cc1)),(5,.i v1),(6,.i (IntKind.wrap .i64 (v1+1)))],[.gone,Zg a0]⟩ ?_
 have L:∀ n,(∀ (Xi:Int) (Yq:Int) (Xp:List Qa),iter (Xx.step p1) n (.l1 Xi Yq Xp)=some r->AK X 124 ((Qj5 1111010 0)) (Yc X [.gone,Zg r] (.own 1 2 0 r.length)) ⟨42,[(0,.own 1 2 0 Xp.length),(1,.d (.fn ff1 cc1)),(5,.i Xi),(6,.i Yq)],[.gone,Zg Xp]⟩):=by
  intro n
  induction n with
  | zero=>exact fun _ _ _ H=>Qal H
  | succ n ih=>
   ·intro Xi Yq Xp H
    refine qI ?_
    rcases sB H with ⟨c3,H⟩ | ⟨c3,H⟩
    ·refine qB hT 8 (decide_eq_true c3) ?_
     refine qE hT 8 (Qj5 111101001000 2) ⟨42,[(0,.own 1 2 0 Xp.length),(1,.d (.fn ff1 cc1)),(5,.i Xi),(6,.i Yq),(22,.own 1 2 0 Xp.length),(23,.i Yq)],[.gone,Zg Xp]⟩ ?_
     obtain ⟨h5,H⟩:=sC H
     refine Qjb hT [0,1,5,6,24] (i:=Yq) (n:=(Xp.length:Int)) h5.1 h5.2 (k':=(Qj5 111101001000 3)) (st':=⟨42,[(0,.own 1 2 0 Xp.length),(1,.d (.fn ff1 cc1)),(5,.i Xi),(6,.i Yq),(24,.ptr 1 2 Yq.toNat 0)],[.gone,Zg Xp]⟩) (by kernel_rfl) ?_
     refine Qlw hT [0,1,5,6,25] (i:=Yq.toNat) (n:=Xp.length) (ltN h5.1 h5.2) (k':=(Qj5 111101001000 4)) (st':=⟨42,[(0,.own 1 2 0 Xp.length),(1,.d (.fn ff1 cc1)),(5,.i Xi),(6,.i Yq),(25,.d (Qhe (Xp.getD Yq.toNat Qa.z)))],[.gone,Zg Xp]⟩) (by kernel_rfl) ?_
     refine Xl hT 7 (Qj5 1111010010010 2) ⟨42,[(0,.own 1 2 0 Xp.length),(1,.d (.fn ff1 cc1)),(5,.i Xi),(6,.i Yq),(7,.ptr 2 0 0 0),(26,.d (.fn ff1 cc1)),(27,.d (Qhe (Xp.getD Yq.toNat Qa.z)))],[.gone,Zg Xp,.box 56 (Qe8 (Xp.getD Yq.toNat Qa.z))]⟩ ?_
     obtain ⟨v2,h6,H⟩:=sbC H
     have Xy:∀ (Qni:Int) (Qis:List Qa),stk (Xx.j1 Yq Qni Qis) (iter (Xx.step p1) n)=some r->AK X 124 ((Qj5 111101001 1)) (Yc X [.gone,Zg r] (.own 1 2 0 r.length)) ⟨42,[(0,.own 1 2 0 Qis.length),(1,.d (.fn ff1 cc1)),(5,.i Qni),(6,.i Yq)],[.gone,Zg Qis]⟩:=by
      intro Qni Qis H
      exact Xl hT 6 _ _ (ih Qni (IntKind.wrap .i64 (Yq+1)) Qis H)
     refine Jj (Zk:=[.d (Qhe (Xp.getD Yq.toNat Qa.z))] ++ List.map AV.d cc1) (dst:=some 28) (k':=(Qj5 1111010010010 3)) [0,1,5,6,7,28] [] hP he1 (hp1 (Xp.getD Yq.toNat Qa.z) v2 h6) (by kernel_rfl) (Jy _) (.cons (Wj _) (Qgq _)) (st':=⟨42,[(0,.own 1 2 0 Xp.length),(1,.d (.fn ff1 cc1)),(5,.i Xi),(6,.i Yq),(7,.ptr 2 0 0 0),(28,.b v2)],[.gone,Zg Xp,.box 56 (Qe8 (Xp.getD Yq.toNat Qa.z))]⟩) (by kernel_rfl) ?_
     refine qI ?_
     rcases sB H with ⟨c7,H⟩ | ⟨c7,H⟩
     ·refine qB hT 2 (show (!v2)=false by rw [c7];rfl) ?_
      exact qC hT 3 _ [0,1] _ h0 (Xy Xi Xp H)
     refine qB hT 2 (show (!v2)=true by rw [Jo c7];rfl) ?_
     refine qE hT 6 (Qj5 111101001001100 3) ⟨42,[(0,.own 1 2 0 Xp.length),(1,.d (.fn ff1 cc1)),(5,.i Xi),(6,.i Yq),(30,.own 1 2 0 Xp.length),(31,.i Xi),(32,.d (Qhe (Xp.getD Yq.toNat Qa.z)))],[.gone,Zg Xp,.box 56 (Qe8 (Xp.getD Yq.toNat Qa.z))]⟩ ?_
     obtain ⟨h8,H⟩:=sC H
     refine Qjb hT [0,1,5,6,32,33] (i:=Xi) (n:=(Xp.length:Int)) h8.1 h8.2 (k':=(Qj5 111101001001100 4)) (st':=⟨42,[(0,.own 1 2 0 Xp.length),(1,.d (.fn ff1 cc1)),(5,.i Xi),(6,.i Yq),(32,.d (Qhe (Xp.getD Yq.toNat Qa.z))),(33,.ptr 1 2 Xi.toNat 0)],[.gone,Zg Xp,.box 56 (Qe8 (Xp.getD Yq.toNat Qa.z))]⟩) (by kernel_rfl) ?_
     refine Qtz (id:=1) (kk:=2) (i:=Xi.toNat) (off:=0) (s:=2) (n:=Xp.length) (ty:=56) (ds:=[.i ((Xp.getD Yq.toNat Qa.z).Key),.i ((Xp.getD Yq.toNat Qa.z).Val)]) (g:=vec Qa.e Qa.z Xp) (k':=(Qj5 111101001001100 5)) hT [0,1,5,6] (vec Qa.e Qa.z (Xp.set Xi.toNat (Xp.getD Yq.toNat Qa.z))) (by kernel_rfl) (by kernel_rfl) (ltN h8.1 h8.2) ((Qmw (ltN h8.1 h8.2)).trans (by kernel_rfl)) Qjx (st':=⟨42,[(0,.own 1 2 0 (Xp.length)),(1,.d (.fn ff1 cc1)),(5,.i Xi),(6,.i Yq)],[.gone,.flat false 2 56 Xp.length (vec Qa.e Qa.z (Xp.set Xi.toNat (Xp.getD Yq.toNat Qa.z))),.box 56 (Qe8 (Xp.getD Yq.toNat Qa.z))]⟩) (by kernel_rfl) ?_
     refine Qnm (show Xp.length=(Xp.set Xi.toNat (Xp.getD Yq.toNat Qa.z)).length from (List.length_set ..).symm) (fun nn=>⟨42,[(0,.own 1 2 0 (nn)),(1,.d (.fn ff1 cc1)),(5,.i Xi),(6,.i Yq)],[.gone,.flat false 2 56 nn (vec Qa.e Qa.z (Xp.set Xi.toNat (Xp.getD Yq.toNat Qa.z))),.box 56 (Qe8 (Xp.getD Yq.toNat Qa.z))]⟩) ?_
     exact Yp hT 7 _ [0,1] _ h0 (Xy (IntKind.wrap .i64 (Xi+1)) (Xp.set Xi.toNat (Xp.getD Yq.toNat Qa.z)) H)
    refine qB hT 8 (decide_eq_false c3) ?_
    refine qE hT 6 (Qj5 111110 2) ⟨42,[(0,.own 1 2 0 Xp.length),(5,.i Xi),(36,.own 1 2 0 Xp.length),(37,.i Xi)],[.gone,Zg Xp]⟩ ?_
    obtain ⟨h4,H⟩:=sC H
    refine Wh4 (id:=1) (s:=2) (off:=0) (n:=Xp.length) (N:=Xp.length) (kk:=.i64) (l:=Xi) (d:=38) (ty:=56) (g:=vec Qa.e Qa.z Xp) (k':=(Qj5 111110 4)) hT [0,5] (by kernel_rfl) (by kernel_rfl) h4.1 h4.2 rfl rfl (by decide) (by decide) (st':=⟨42,[(0,.own 1 2 0 Xp.length),(5,.i Xi)],[.gone,.flat false 2 56 Xi.toNat (vec Qa.e Qa.z Xp)]⟩) (by kernel_rfl) ?_
    refine Wh7 1 (kk:=2) (n:=Xi.toNat) (m:=(Xp.take Xi.toNat).length) (fz:=false) (ty:=56) (g:=vec Qa.e Qa.z Xp) (vec Qa.e Qa.z (Xp.take Xi.toNat)) (by kernel_rfl) (by simp only [List.length_take];omega) Wjn (st':=⟨42,[(0,.own 1 2 0 Xp.length),(5,.i Xi)],[.gone,Zg (Xp.take Xi.toNat)]⟩) (by kernel_rfl) ?_
    refine Xl hT 5 (Qj5 1111110 2) ⟨42,[(39,.own 1 2 0 Xp.length),(40,.i Xi)],[.gone,Zg (Xp.take Xi.toNat)]⟩ ?_
    refine Wej (id:=1) (s:=2) (off:=0) (n:=Xp.length) (kk:=.i64) (i:=Xi) (dst:=some 41) (k':=(Qj5 1111110 3)) hT [41] (by kernel_rfl) h4.1 h4.2 (st':=⟨42,[(41,.own 1 2 0 Xi.toNat)],[.gone,Zg (Xp.take Xi.toNat)]⟩) (by kernel_rfl) ?_
    refine Qnm (show Xi.toNat=(Xp.take Xi.toNat).length from by simp only [List.length_take];omega) (fun nn=>⟨42,[(41,.own 1 2 0 nn)],[.gone,Zg (Xp.take Xi.toNat)]⟩) ?_
    refine qI ?_
    obtain rfl:=Xr H
    exact qT hT 2 hf hX h0 [0,1] (ac .gone (ac (Qat Qa.nl) an)) (.own _ _ _ _)
 obtain ⟨n,H⟩:=Qbp H
 exact (L n) v1 (IntKind.wrap .i64 (v1+1)) a0 H
theorem Qe2.Qy (a0:Qb) (k0:Int):Xz Tryz.prog 126 [] [.d (Qhd a0),.d (.rop false 1 (fun _=>[.i k0]) 0 0)] [] (.b (Qe2 a0 k0)):=by
 obtain ⟨r,H⟩:∃ r,Qe2 a0 k0=r:=⟨_,rfl⟩
 rw [H]
 refine Xj Tryz.func126 rfl (nt:=18) rfl (lb rfl) fun X hP h0 hX=>?_
 have hT:Xb X.P T:=hP▸tok
 have hf:X.P.funcs[126]? = some Tryz.f126:=hP▸Tryz.func126
 have Xy:∀ (Qh8:Bool),(Qe2.j1 Qh8)=r->AK X 126 ((Whv 11 1)) (Yc X [] (.b r)) ⟨18,[(3,.b Qh8)],[]⟩:=by
  intro Qh8 H
  obtain rfl:=H
  exact Qc0 hf hX h0 (.b Qh8) [] an (.d (.v _))
 refine qI ?_
 refine qF hT 8 hP Qjg (Qcd.Qy a0) ?_
 refine qE hT 1 (Whv 110 3) ⟨18,[(1,.d (.rop false 1 (fun _=>[.i k0]) 0 0)),(2,.ptr 0 0 0 0),(6,.b (Qcd a0))],[.box 39 (Qkj a0)]⟩ ?_
 refine qI ?_
 rcases iB H with ⟨c1,H⟩ | ⟨c1,H⟩
 ·refine qB hT 0 (c1) ?_
  refine qE hT 6 (Whv 110 9) ⟨18,[(1,.d (.rop false 1 (fun _=>[.i k0]) 0 0)),(2,.ptr 0 0 0 0),(12,.b (decide (k0>=a0.Lo)))],[.box 39 (Qkj a0)]⟩ ?_
  refine qI ?_
  rcases iB H with ⟨c2,H⟩ | ⟨c2,H⟩
  ·refine qB hT 0 (decide_eq_true c2) ?_
   exact qC hT 7 _ [] _ h0 (Xy (decide (k0 < a0.Hi)) H)
  refine qB hT 0 (decide_eq_false c2) ?_
  exact qC hT 7 _ [] _ h0 (Xy false H)
 refine qB hT 0 (Jo c1) ?_
 exact qC hT 13 _ [] _ h0 (Xy false H)
theorem Qf9.Qy {t0:Bool} (a0:List Qb) (a1:Int) {r:Bool} (H:Qf9 a0 a1=some r):Xz Tryz.prog 81 [] [.d (Yx t0 a0),.i a1] [] (.b r):=by
 refine Xj Tryz.func81 rfl (nt:=8) rfl (lb rfl) fun X hP h0 hX=>?_
 have hT:Xb X.P T:=hP▸tok
 have hf:X.P.funcs[81]? = some Tryz.f81:=hP▸Tryz.func81
 refine Xl hT 9 (K81 110 2) ⟨8,[(5,.d (Yx t0 a0)),(6,.fn 126 [.ptr 0 0 0 0])],[.box 3 [.i a1]]⟩ ?_
 obtain ⟨v1,h1,H⟩:=ibC H
 refine Jj (Zk:=[.d (Yx t0 a0),.fn 126 [.ptr 0 0 0 0]]) (dst:=some 7) (k':=(K81 110 3)) [7] [] hP Qt9 (Qb3.Qy (t0:=t0) (ff1:=126) (cc1:=[.rop false 1 (fun _=>[.i a1]) 0 0]) a0 (fun z0=>some (Qe2 z0 a1)) Wb1 (fun z0 r h=>by obtain rfl:=Xr h;exact Qe2.Qy z0 a1) h1) (by kernel_rfl) (Jy _) (.cons (Wj _) (.cons (.fn 126 (.cons (.look (ty:=3) (cs:=[.i a1]) (by kernel_rfl) rfl) .nil)) .nil)) (st':=⟨8,[(7,.b v1)],[.box 3 [.i a1]]⟩) (by kernel_rfl) ?_
 refine qI ?_
 obtain rfl:=Xr H
 exact qT hT 2 hf hX h0 [] an (.d (.v _))
theorem Qem.Qy (a0:Qa) (k0:Qb) (k1:List Qb) {r:Bool} (H:Qem a0 k0 k1=some r):Xz Tryz.prog 125 [] [.d (Qhe a0),.d (.rop false 1 (fun _=>[.i k0.Lo,.i k0.Hi]) 0 0),.d (.rop false 1 (fun _=>[Yx true k1]) 0 0)] [] (.b r):=by
 refine Xj Tryz.func125 rfl (nt:=23) rfl (lb rfl) fun X hP h0 hX=>?_
 have hT:Xb X.P T:=hP▸tok
 have hf:X.P.funcs[125]? = some Tryz.f125:=hP▸Tryz.func125
 have Xy:∀ (Qd3:Bool),(Qem.j1 Qd3)=some r->AK X 125 ((Whu 11 1)) (Yc X [] (.b r)) ⟨23,[(4,.b Qd3)],[]⟩:=by
  intro Qd3 H
  obtain rfl:=Xr H
  exact Qc0 hf hX h0 (.b Qd3) [] an (.d (.v _))
 refine qI ?_
 rcases iB H with ⟨c1,H⟩ | ⟨c1,H⟩
 ·refine qB hT 13 (decide_eq_true c1) ?_
  refine qE hT 7 (Whu 110 13) ⟨23,[(2,.d (.rop false 1 (fun _=>[Yx true k1]) 0 0)),(3,.ptr 0 0 0 0),(17,.b (decide (a0.Key < k0.Hi)))],[.box 56 (Qe8 a0)]⟩ ?_
  refine qI ?_
  rcases iB H with ⟨c2,H⟩ | ⟨c2,H⟩
  ·refine qB hT 0 (decide_eq_true c2) ?_
   refine qE hT 3 (Whu 110 16) ⟨23,[(17,.b true),(18,.d (Yx true k1)),(20,.i a0.Key)],[.box 56 (Qe8 a0)]⟩ ?_
   obtain ⟨v1,h3,H⟩:=ibC H
   refine qI ?_
   refine qF hT 0 hP Qnv (Qf9.Qy (t0:=true) k1 a0.Key h3) ?_
   exact qC hT 3 _ [] _ h0 (Xy v1 H)
  refine qB hT 0 (decide_eq_false c2) ?_
  exact qC hT 7 _ [] _ h0 (Xy false H)
 refine qB hT 13 (decide_eq_false c1) ?_
 exact qC hT 14 _ [] _ h0 (Xy false H)
theorem Qkx.Qy (a0:List Qa) (a1:Qb) (a2:List Qb) {r:List Qa} (H:Qkx a0 a1 a2=some r):Xz Tryz.prog 79 [Zg a0] [.own 0 2 0 a0.length,.d (Qhd a1),.d (Yx true a2)] [.gone,Zg r] (.own 1 2 0 r.length):=by
 refine Xj Tryz.func79 rfl (nt:=10) rfl (lb rfl) fun X hP h0 hX=>?_
 have hT:Xb X.P T:=hP▸tok
 have hf:X.P.funcs[79]? = some Tryz.f79:=hP▸Tryz.func79
 refine Qgr 0 (r:=Zg a0) rfl rfl (st':=⟨10,[(0,.own 1 2 0 a0.length),(1,.d (Qhd a1)),(2,.d (Yx true a2))],[.gone,Zg a0]⟩) (by kernel_rfl) (by kernel_rfl) rfl ?_
 refine Xl hT 10 (K79 110 2) ⟨10,[(7,.own 1 2 0 a0.length),(8,.fn 125 [.ptr 2 0 0 0,.ptr 3 0 0 0])],[.gone,Zg a0,.box 39 (Qkj a1),.box 51 [.d (Yx true a2)]]⟩ ?_
 obtain ⟨v1,h1,H⟩:=ibC H
 refine Jj (Zk:=[.own 1 2 0 a0.length,.fn 125 [.ptr 2 0 0 0,.ptr 3 0 0 0]]) (dst:=some 9) (k':=(K79 110 3)) [9] [1] hP Wbz (Xx.Qy (ff1:=125) (cc1:=[.rop false 1 (fun _=>[.i a1.Lo,.i a1.Hi]) 0 0,.rop false 1 (fun _=>[Yx true a2]) 0 0]) a0 (fun z0=>Qem z0 a1 a2) Wb0 (fun z0 r h=>Qem.Qy z0 a1 a2 h) h1) (by kernel_rfl) (Qev rfl rfl) (.cons (.same (.own 0 2 0 a0.length)) (.cons (.fn 125 (.cons (.look (ty:=39) (cs:=[.i a1.Lo,.i a1.Hi]) (by kernel_rfl) rfl) (.cons (.look (ty:=51) (cs:=[Yx true a2]) (by kernel_rfl) rfl) .nil))) .nil)) (st':=⟨10,[(9,.own 4 2 0 v1.length)],[.gone,.gone,.box 39 (Qkj a1),.box 51 [.d (Yx true a2)],Zg v1]⟩) (by kernel_rfl) ?_
 refine qI ?_
 obtain rfl:=Xr H
 exact qT hT 2 hf hX h0 [0,4] (ac .gone (ac (Qat Qa.nl) an)) (.own _ _ _ _)
theorem Qfz.Qy (a0:We) {r:Bool} (H:Qfz a0=some r):Xz Tryz.prog 80 [] [.d (Qb5 a0)] [] (.b r):=by
 refine Xj Tryz.func80 rfl (nt:=15) rfl (lb rfl) fun X hP h0 hX=>?_
 have hT:Xb X.P T:=hP▸tok
 have hf:X.P.funcs[80]? = some Tryz.f80:=hP▸Tryz.func80
 refine qI ?_
 obtain ⟨v1,h1,H⟩:=ibC H
 have Xy:∀ (Qb4:Bool),(Qfz.j1 Qb4)=some r->AK X 80 ((K80 11 1)) (Yc X [] (.b r)) ⟨15,[(2,.b Qb4)],[]⟩:=by
  intro Qb4 H
  obtain rfl:=Xr H
  exact Qc0 hf hX h0 (.b Qb4) [] an (.d (.v _))
 refine qF hT 8 hP Qid (Qbx.Qy a0 h1) ?_
 refine qE hT 1 (K80 110 3) ⟨15,[(1,.ptr 0 0 0 0),(5,.b v1)],[.box 47 (Qaj a0)]⟩ ?_
 refine qI ?_
 rcases iB H with ⟨c2,H⟩ | ⟨c2,H⟩
 ·refine qB hT 0 (c2) ?_
  refine qE hT 4 (K80 110 7) ⟨15,[(1,.ptr 0 0 0 0),(5,.b true),(9,.b (a0.Kind == 3))],[.box 47 (Qaj a0)]⟩ ?_
  by_cases c3:a0.Kind=3
  ·replace H:=iT c3 H
   rw [eqT c3]
   exact Yp hT 7 _ [] _ h0 (Xy true H)
  replace H:=iF c3 H
  rw [eqF c3]
  exact Yp hT 7 _ [] _ h0 (Xy (a0.Kind == 4) H)
 refine qB hT 0 (Jo c2) ?_
 exact qC hT 11 _ [] _ h0 (Xy false H)
theorem Xw.Qy {t0:Bool} {ff2:FuncId} {cc2:List DV} (a0:List Qa) (a1:Int) (p2:Qa->Int->Option Int) (he2:Sy.Enters Tryz.prog ff2) (hp2:∀ (z0:Qa) (z1:Int) r,p2 z0 z1=some r->Xz Tryz.prog ff2 [] ([.d (Qhe z0),.i z1] ++ List.map AV.d cc2) [] (.i r)) {r:Int × Bool} (H:Xw a0 a1 p2=some r):Xz Tryz.prog 151 [] [.d (Yi t0 a0),.i a1,.d (.fn ff2 cc2)] [] (.Qn [.i r.1,.b r.2]):=by
 refine Xj Tryz.func151 rfl (nt:=49) rfl (lb rfl) fun X hP h0 hX=>?_
 have hT:Xb X.P T:=hP▸tok
 have hf:X.P.funcs[151]? = some Tryz.f151:=hP▸Tryz.func151
 refine Xl hT 20 (Qod 111100 0) ⟨49,[(0,.d (Yi t0 a0)),(1,.i a1),(2,.d (.fn ff2 cc2)),(8,.i (a0.length:Int)),(9,.i 0),(10,.i (a0.length:Int))],[]⟩ ?_
 have L:∀ n,(∀ (Qa4:Int) (Xq:Int),iter (Xw.step a0 a1 p2) n (.l1 Qa4 Xq)=some r->AK X 151 ((Qod 111100 0)) (Yc X [] (.Qn [.i r.1,.b r.2])) ⟨49,[(0,.d (Yi t0 a0)),(1,.i a1),(2,.d (.fn ff2 cc2)),(8,.i (a0.length:Int)),(9,.i Qa4),(10,.i Xq)],[]⟩):=by
  intro n
  induction n with
  | zero=>exact fun _ _ H=>Qal H
  | succ n ih=>
   ·intro Qa4 Xq H
    refine Xl hT 7 (Qod 11110000 1) ⟨49,[(0,.d (Yi t0 a0)),(1,.i a1),(2,.d (.fn ff2 cc2)),(8,.i (a0.length:Int)),(9,.i Qa4),(10,.i Xq),(17,.b (decide (Qa4 < Xq)))],[]⟩ ?_
    by_cases c1:Qa4 < Xq
    ·replace H:=sT c1 H
     rw [decide_eq_true c1]
     refine Xl hT 12 (Qod 1111000100 7) ⟨49,[(0,.d (Yi t0 a0)),(1,.i a1),(2,.d (.fn ff2 cc2)),(8,.i (a0.length:Int)),(9,.i Qa4),(10,.i Xq),(11,.i (IntKind.wrap .i64 (Int.fdiv (IntKind.wrap .u64 (IntKind.wrap .i64 (Qa4+Xq))) 2)))],[]⟩ ?_
     obtain ⟨v2,h5,H⟩:=sdC H
     rw [<- h5]
     refine qI ?_
     obtain ⟨h6,H⟩:=sC H
     refine qX hT 6 h6 ?_
     refine qE hT 2 (Qod 11110001010 6) ⟨49,[(0,.d (Yi t0 a0)),(1,.i a1),(2,.d (.fn ff2 cc2)),(8,.i (a0.length:Int)),(9,.i Qa4),(10,.i Xq),(11,.i v2),(24,.d (.fn ff2 cc2)),(28,.d (Qhe (a0.getD v2.toNat Qa.z))),(29,.i a1)],[]⟩ ?_
     obtain ⟨v3,h7,H⟩:=sbC H
     refine Jj (Zk:=[.d (Qhe (a0.getD v2.toNat Qa.z)),.i a1] ++ List.map AV.d cc2) (dst:=some 30) (k':=(Qod 11110001010 7)) [0,1,2,8,9,10,11,30] [] hP he2 (hp2 (a0.getD v2.toNat Qa.z) a1 v3 h7) (by kernel_rfl) (Jy _) (.cons (Wj _) (.cons (Wj _) (Qgq _))) (st':=⟨49,[(0,.d (Yi t0 a0)),(1,.i a1),(2,.d (.fn ff2 cc2)),(8,.i (a0.length:Int)),(9,.i Qa4),(10,.i Xq),(11,.i v2),(30,.i v3)],[]⟩) (by kernel_rfl) ?_
     refine qI ?_
     rcases sB H with ⟨c8,H⟩ | ⟨c8,H⟩
     ·refine qB hT 2 (decide_eq_true c8) ?_
      exact qE hT 8 _ _ (ih (IntKind.wrap .i64 (v2+1)) Xq H)
     refine qB hT 2 (decide_eq_false c8) ?_
     exact qE hT 7 _ _ (ih Qa4 v2 H)
    replace H:=sF c1 H
    have Xy:∀ (Qlp:Bool),stk (Xw.j1 Qa4 Qlp) (iter (Xw.step a0 a1 p2) n)=some r->AK X 151 ((Qod 11111 1)) (Yc X [] (.Qn [.i r.1,.b r.2])) ⟨49,[(6,.i Qa4),(7,.b Qlp)],[]⟩:=by
     intro Qlp H
     obtain rfl:=Xr H
     exact Qc0 hf hX h0 (.Qn [.i Qa4,.b Qlp]) [] an (.Qn (.cons (.d (.v _)) (.cons (.d (.v _)) .nil)))
    rw [decide_eq_false c1]
    refine qI ?_
    rcases sB H with ⟨c2,H⟩ | ⟨c2,H⟩
    ·refine qB hT 9 (decide_eq_true c2) ?_
     refine qE hT 3 (Qod 111110 8) ⟨49,[(1,.i a1),(35,.i Qa4),(39,.b true),(40,.d (.fn ff2 cc2)),(41,.d (Yi t0 a0)),(42,.i Qa4)],[]⟩ ?_
     obtain ⟨h3,H⟩:=sC H
     refine qI ?_
     refine qX hT 0 h3 ?_
     refine qE hT 2 (Qod 111110 11) ⟨49,[(35,.i Qa4),(39,.b true),(40,.d (.fn ff2 cc2)),(44,.d (Qhe (a0.getD Qa4.toNat Qa.z))),(45,.i a1)],[]⟩ ?_
     obtain ⟨v1,h4,H⟩:=sbC H
     refine Jj (Zk:=[.d (Qhe (a0.getD Qa4.toNat Qa.z)),.i a1] ++ List.map AV.d cc2) (dst:=some 46) (k':=(Qod 111110 12)) [35,39,46] [] hP he2 (hp2 (a0.getD Qa4.toNat Qa.z) a1 v1 h4) (by kernel_rfl) (Jy _) (.cons (Wj _) (.cons (Wj _) (Qgq _))) (st':=⟨49,[(35,.i Qa4),(39,.b true),(46,.i v1)],[]⟩) (by kernel_rfl) ?_
     exact Xl hT 5 _ _ (Xy (v1 == 0) H)
    refine qB hT 9 (decide_eq_false c2) ?_
    exact qE hT 12 _ _ (Xy false H)
 obtain ⟨n,H⟩:=Qbp H
 exact (L n) 0 (a0.length:Int) H
theorem Qgj.Qy (a0:Qa) (a1:Int):Xz Tryz.prog 152 [] [.d (Qhe a0),.i a1] [] (.i (Qgj a0 a1)):=by
 obtain ⟨r,H⟩:∃ r,Qgj a0 a1=r:=⟨_,rfl⟩
 rw [H]
 refine Xj Tryz.func152 rfl (nt:=9) rfl (lb rfl) fun X hP h0 hX=>?_
 have hT:Xb X.P T:=hP▸tok
 have hf:X.P.funcs[152]? = some Tryz.f152:=hP▸Tryz.func152
 refine qI ?_
 refine qF hT 10 hP Qjh (Zt.Qy a0.Key a1) ?_
 obtain rfl:=H
 exact qT hT 2 hf hX h0 [] an (.d (.v _))
theorem Qhm.Qy {t0:Bool} (a0:List Qa) (a1:Int) {r:Int × Bool} (H:Qhm a0 a1=some r):Xz Tryz.prog 128 [] [.d (Yi t0 a0),.i a1] [] (.Qn [.i r.1,.b r.2]):=by
 refine Xj Tryz.func128 rfl (nt:=11) rfl (lb rfl) fun X hP h0 hX=>?_
 have hT:Xb X.P T:=hP▸tok
 have hf:X.P.funcs[128]? = some Tryz.f128:=hP▸Tryz.func128
 refine qI ?_
 obtain ⟨v1,h1,H⟩:=ibC H
 refine qF hT 9 hP Wcg (Xw.Qy (t0:=t0) (ff2:=152) (cc2:=[]) a0 a1 (fun z0 z1=>some (Qgj z0 z1)) Wch (fun z0 z1 r h=>by obtain rfl:=Xr h;exact Qgj.Qy z0 z1) h1) ?_
 obtain rfl:=Xr H
 exact qT hT 5 hf hX h0 [] an (.Qn (.cons (.d (.v _)) (.cons (.d (.v _)) .nil)))
theorem Qij.Qy {t0:Bool} (a0:List Qa) (a1:Int) {r:Int × Bool} (H:Qij a0 a1=some r):Xz Tryz.prog 127 [] [.d (Yi t0 a0),.i a1] [] (.Qn [.i r.1,.b r.2]):=by
 refine Xj Tryz.func127 rfl (nt:=20) rfl (lb rfl) fun X hP h0 hX=>?_
 have hT:Xb X.P T:=hP▸tok
 have hf:X.P.funcs[127]? = some Tryz.f127:=hP▸Tryz.func127
 refine qI ?_
 obtain ⟨v1,h1,H⟩:=ibC H
 refine qF hT 10 hP Quc (Qhm.Qy (t0:=t0) a0 a1 h1) ?_
 refine qE hT 10 (Wlb 1101 1) ⟨20,[(0,.d (Yi t0 a0)),(6,.i v1.1),(14,.b v1.2)],[]⟩ ?_
 refine qI ?_
 rcases iB H with ⟨c2,H⟩ | ⟨c2,H⟩
 ·refine qB hT 0 (c2) ?_
  refine qE hT 5 (Wlb 1101100 2) ⟨20,[(15,.d (Yi t0 a0)),(16,.i v1.1)],[]⟩ ?_
  obtain ⟨h3,H⟩:=iC H
  refine qI ?_
  refine qX hT 0 h3 ?_
  obtain rfl:=Xr H
  exact qT hT 5 hf hX h0 [] an (.Qn (.cons (.d (.v _)) (.cons (.d (.v _)) .nil)))
 refine qB hT 0 (Jo c2) ?_
 obtain rfl:=Xr H
 exact qT hT 7 hf hX h0 [] an (.Qn (.cons (.d (.v _)) (.cons (.d (.v _)) .nil)))
theorem Qe6.Qy (a0:List Qa) (a1:Int) (a2:Int) {r:List Qa} (H:Qe6 a0 a1 a2=some r):Xz Tryz.prog 83 [Zg a0] [.own 0 2 0 a0.length,.i a1,.i a2] [.gone,Zg r] (.own 1 2 0 r.length):=by
 refine Xj Tryz.func83 rfl (nt:=29) rfl (lb rfl) fun X hP h0 hX=>?_
 have hT:Xb X.P T:=hP▸tok
 have hf:X.P.funcs[83]? = some Tryz.f83:=hP▸Tryz.func83
 refine Qgr 0 (r:=Zg a0) rfl rfl (st':=⟨29,[(0,.own 1 2 0 a0.length),(1,.i a1),(2,.i a2)],[.gone,Zg a0]⟩) (by kernel_rfl) (by kernel_rfl) rfl ?_
 refine qI ?_
 obtain ⟨v1,h1,H⟩:=ibC H
 refine qF hT 8 hP Quc (Qhm.Qy (t0:=false) a0 a1 h1) ?_
 refine qE hT 11 (K83 1110 1) ⟨29,[(0,.own 1 2 0 a0.length),(1,.i a1),(2,.i a2),(7,.i v1.1),(15,.b v1.2)],[.gone,Zg a0]⟩ ?_
 refine qI ?_
 rcases iB H with ⟨c2,H⟩ | ⟨c2,H⟩
 ·refine qB hT 0 (c2) ?_
  refine qE hT 6 (K83 1110100 3) ⟨29,[(0,.own 1 2 0 a0.length),(16,.own 1 2 0 a0.length),(17,.i v1.1),(18,.i a2)],[.gone,Zg a0]⟩ ?_
  obtain ⟨h3,H⟩:=iC H
  refine qI ?_
  refine qX hT 0 h3 ?_
  refine qE hT 1 (K83 1110100 5) ⟨29,[(0,.own 1 2 0 a0.length),(18,.i a2),(20,.ptr 1 2 v1.1.toNat 1)],[.gone,Zg a0]⟩ ?_
  refine Qtz (id:=1) (kk:=2) (i:=v1.1.toNat) (off:=1) (s:=1) (n:=a0.length) (ty:=56) (ds:=[.i a2]) (g:=vec Qa.e Qa.z a0) (k':=(K83 1110100 6)) hT [0] (vec Qa.e Qa.z (a0.set v1.1.toNat (⟨(a0.getD v1.1.toNat Qa.z).Key,a2⟩:Qa))) (by kernel_rfl) (by kernel_rfl) (ltN h3.1 h3.2) ((Qmw (ltN h3.1 h3.2)).trans (by kernel_rfl)) Qjx (st':=⟨29,[(0,.own 1 2 0 (a0.length))],[.gone,.flat false 2 56 a0.length (vec Qa.e Qa.z (a0.set v1.1.toNat (⟨(a0.getD v1.1.toNat Qa.z).Key,a2⟩:Qa)))]⟩) (by kernel_rfl) ?_
  refine Qnm (show a0.length=(a0.set v1.1.toNat (⟨(a0.getD v1.1.toNat Qa.z).Key,a2⟩:Qa)).length from (List.length_set ..).symm) (fun nn=>⟨29,[(0,.own 1 2 0 (nn))],[.gone,.flat false 2 56 nn (vec Qa.e Qa.z (a0.set v1.1.toNat (⟨(a0.getD v1.1.toNat Qa.z).Key,a2⟩:Qa)))]⟩) ?_
  refine qI ?_
  obtain rfl:=Xr H
  exact qT hT 6 hf hX h0 [0,1] (ac .gone (ac (Qat Qa.nl) an)) (.own _ _ _ _)
 refine qB hT 0 (Jo c2) ?_
 refine qE hT 10 (K83 11110 6) ⟨29,[(22,.own 1 2 0 a0.length),(23,.i v1.1),(27,.own 2 2 0 1)],[.gone,Zg a0,.flat false 2 56 1 (fun j=>[[.i a1,.i a2]].getD j [])]⟩ ?_
 obtain ⟨h4,H⟩:=iC H
 refine Jj (Zk:=[.own 1 2 0 a0.length,.i v1.1,.own 2 2 0 1]) (dst:=some 28) (k':=(K83 11110 7)) [28] [1,2] hP Wb2 (Wgc a0 v1.1 (⟨a1,a2⟩:Qa) h4) (by kernel_rfl) (Wf6 rfl rfl rfl rfl (by decide)) (.cons (.same (.own 0 2 0 a0.length)) (.cons (Wj _) (.cons (.same (.own 1 2 0 1)) .nil))) (st':=⟨29,[(28,.own 3 2 0 ((a0.take v1.1.toNat ++ (⟨a1,a2⟩:Qa) :: a0.drop v1.1.toNat).length))],[.gone,.gone,.gone,Zg (a0.take v1.1.toNat ++ (⟨a1,a2⟩:Qa) :: a0.drop v1.1.toNat)]⟩) (by kernel_rfl) ?_
 refine qI ?_
 obtain rfl:=Xr H
 exact qT hT 2 hf hX h0 [0,3] (ac .gone (ac (Qat Qa.nl) an)) (.own _ _ _ _)
abbrev Qcb.q1 (a0:List Qa) (a1:We):List Row:=[.gone,Zg a0,.box 47 (Qaj a1),.box 56 (Qe8 (a1.Pairs.getD 0 Qa.z))]
theorem Qcb.Qy (a0:List Qa) (a1:We) {r:(List Qa) × Bool} (H:Qcb a0 a1=some r):Xz Tryz.prog 82 [Zg a0] [.own 0 2 0 a0.length,.d (Qb5 a1)] [.gone,Zg r.1] (.Qn [.own 1 2 0 r.1.length,.b r.2]):=by
 refine Xj Tryz.func82 rfl (nt:=57) rfl (lb rfl) fun X hP h0 hX=>?_
 have hT:Xb X.P T:=hP▸tok
 have hf:X.P.funcs[82]? = some Tryz.f82:=hP▸Tryz.func82
 refine Qgr 0 (r:=Zg a0) rfl rfl (st':=⟨57,[(0,.own 1 2 0 a0.length),(1,.d (Qb5 a1))],[.gone,Zg a0]⟩) (by kernel_rfl) (by kernel_rfl) rfl ?_
 refine qI ?_
 obtain ⟨h1,H⟩:=iC H
 refine qX hT 10 h1 ?_
 refine qE hT 9 (K82 1110 3) ⟨57,[(0,.own 1 2 0 a0.length),(3,.ptr 2 0 0 0),(6,.ptr 3 0 0 0),(14,.own 1 2 0 a0.length),(16,.i ((a1.Pairs.getD 0 Qa.z).Key))],(Qcb.q1 a0 a1)⟩ ?_
 obtain ⟨v1,h2,H⟩:=ibC H
 refine qI ?_
 refine qF hT 0 hP Qub (Qij.Qy (t0:=false) a0 ((a1.Pairs.getD 0 Qa.z).Key) h2) ?_
 refine qE hT 13 (K82 11110 1) ⟨57,[(0,.own 1 2 0 a0.length),(3,.ptr 2 0 0 0),(6,.ptr 3 0 0 0),(7,.i v1.1),(8,.b v1.2),(22,.b (a1.Kind == 3))],(Qcb.q1 a0 a1)⟩ ?_
 by_cases c3:a1.Kind=3
 ·replace H:=iT c3 H
  have Xy:∀ (Qe4:Bool),(Qcb.j1 a0 a1 v1 Qe4)=some r->AK X 82 ((K82 11110100 1)) (Yc X [.gone,Zg r.1] (.Qn [.own 1 2 0 r.1.length,.b r.2])) ⟨57,[(0,.own 1 2 0 a0.length),(6,.ptr 2 0 0 0),(7,.i v1.1),(34,.b Qe4)],[.gone,Zg a0,.box 56 (Qe8 (a1.Pairs.getD 0 Qa.z))]⟩:=by
   intro Qe4 H
   by_cases c5:Qe4=true
   ·replace H:=iT c5 H
    rw [c5]
    refine qI ?_
    obtain rfl:=Xr H
    exact qT hT 7 hf hX h0 [0,1] (ac .gone (ac (Qat Qa.nl) an)) (.Qn (.cons (.own _ _ _ _) (.cons (.d (.v _)) .nil)))
   replace H:=iF c5 H
   rw [Jo c5]
   refine Xl hT 11 (K82 111101010 7) ⟨57,[(36,.own 1 2 0 a0.length),(38,.i ((a1.Pairs.getD 0 Qa.z).Key)),(42,.i (IntKind.wrap .i64 (v1.1+((a1.Pairs.getD 0 Qa.z).Val))))],[.gone,Zg a0,.box 56 (Qe8 (a1.Pairs.getD 0 Qa.z))]⟩ ?_
   obtain ⟨v2,h6,H⟩:=ibC H
   refine Jj (Zk:=[.own 1 2 0 a0.length,.i ((a1.Pairs.getD 0 Qa.z).Key),.i (IntKind.wrap .i64 (v1.1+((a1.Pairs.getD 0 Qa.z).Val)))]) (dst:=some 43) (k':=(K82 111101010 8)) [43] [1] hP Qnw (Qe6.Qy a0 ((a1.Pairs.getD 0 Qa.z).Key) (IntKind.wrap .i64 (v1.1+((a1.Pairs.getD 0 Qa.z).Val))) h6) (by kernel_rfl) (Qev rfl rfl) (.cons (.same (.own 0 2 0 a0.length)) (.cons (Wj _) (.cons (Wj _) .nil))) (st':=⟨57,[(43,.own 3 2 0 v2.length)],[.gone,.gone,.box 56 (Qe8 (a1.Pairs.getD 0 Qa.z)),Zg v2]⟩) (by kernel_rfl) ?_
   refine qI ?_
   obtain rfl:=Xr H
   exact qT hT 3 hf hX h0 [0,3] (ac .gone (ac (Qat Qa.nl) an)) (.Qn (.cons (.own _ _ _ _) (.cons (.d (.v _)) .nil)))
  rw [eqT c3]
  refine qI ?_
  rcases iB H with ⟨c4,H⟩ | ⟨c4,H⟩
  ·refine qB hT 10 (decide_eq_true c4) ?_
   exact qC hT 7 _ [0,1,3] _ h0 (Xy true H)
  refine qB hT 10 (decide_eq_false c4) ?_
  exact qC hT 7 _ [0,1,3] _ h0 (Xy (decide ((IntKind.wrap .i64 (v1.1+((a1.Pairs.getD 0 Qa.z).Val))) > 1099511627776)) H)
 replace H:=iF c3 H
 have Jj2:∀ (Qtu:Int),(Qcb.j2 a0 a1 Qtu)=some r->AK X 82 ((K82 11111 1)) (Yc X [.gone,Zg r.1] (.Qn [.own 1 2 0 r.1.length,.b r.2])) ⟨57,[(0,.own 1 2 0 a0.length),(3,.ptr 2 0 0 0),(6,.ptr 3 0 0 0),(7,.i Qtu)],(Qcb.q1 a0 a1)⟩:=by
  intro Qtu H
  refine Xl hT 8 (K82 1111110 1) ⟨57,[(0,.own 1 2 0 a0.length),(6,.ptr 3 0 0 0),(49,.b (Qtu != a1.Old))],(Qcb.q1 a0 a1)⟩ ?_
  by_cases c8:Qtu=a1.Old
  ·replace H:=iT c8 H
   rw [neF c8]
   refine Xl hT 9 (K82 11111110 5) ⟨57,[(51,.own 1 2 0 a0.length),(53,.i ((a1.Pairs.getD 0 Qa.z).Key)),(55,.i ((a1.Pairs.getD 0 Qa.z).Val))],(Qcb.q1 a0 a1)⟩ ?_
   obtain ⟨v3,h9,H⟩:=ibC H
   refine Jj (Zk:=[.own 1 2 0 a0.length,.i ((a1.Pairs.getD 0 Qa.z).Key),.i ((a1.Pairs.getD 0 Qa.z).Val)]) (dst:=some 56) (k':=(K82 11111110 6)) [56] [1] hP Qnw (Qe6.Qy a0 ((a1.Pairs.getD 0 Qa.z).Key) ((a1.Pairs.getD 0 Qa.z).Val) h9) (by kernel_rfl) (Qev rfl rfl) (.cons (.same (.own 0 2 0 a0.length)) (.cons (Wj _) (.cons (Wj _) .nil))) (st':=⟨57,[(56,.own 4 2 0 v3.length)],[.gone,.gone,.box 47 (Qaj a1),.box 56 (Qe8 (a1.Pairs.getD 0 Qa.z)),Zg v3]⟩) (by kernel_rfl) ?_
   refine qI ?_
   obtain rfl:=Xr H
   exact qT hT 3 hf hX h0 [0,4] (ac .gone (ac (Qat Qa.nl) an)) (.Qn (.cons (.own _ _ _ _) (.cons (.d (.v _)) .nil)))
  replace H:=iF c8 H
  rw [neT c8]
  refine qI ?_
  obtain rfl:=Xr H
  exact qT hT 7 hf hX h0 [0,1] (ac .gone (ac (Qat Qa.nl) an)) (.Qn (.cons (.own _ _ _ _) (.cons (.d (.v _)) .nil)))
 rw [eqF c3]
 refine qI ?_
 rcases iB H with ⟨c7,H⟩ | ⟨c7,H⟩
 ·refine qB hT 8 (show (!v1.2)=false by rw [c7];rfl) ?_
  exact qE hT 2 _ _ (Jj2 v1.1 H)
 refine qB hT 8 (show (!v1.2)=true by rw [Jo c7];rfl) ?_
 exact qE hT 4 _ _ (Jj2 1099511627777 H)
theorem Qg0.Qy (a0:List Qa) (a1:Int) (a2:Int) {r:List Qa} (H:Qg0 a0 a1 a2=some r):Xz Tryz.prog 84 [Zg a0] [.own 0 2 0 a0.length,.i a1,.i a2] [.gone,Zg r] (.own 1 2 0 r.length):=by
 refine Xj Tryz.func84 rfl (nt:=23) rfl (lb rfl) fun X hP h0 hX=>?_
 have hT:Xb X.P T:=hP▸tok
 have hf:X.P.funcs[84]? = some Tryz.f84:=hP▸Tryz.func84
 refine Qgr 0 (r:=Zg a0) rfl rfl (st':=⟨23,[(0,.own 1 2 0 a0.length),(1,.i a1),(2,.i a2)],[.gone,Zg a0]⟩) (by kernel_rfl) (by kernel_rfl) rfl ?_
 refine qI ?_
 obtain ⟨v1,h1,H⟩:=ibC H
 refine qF hT 8 hP Qub (Qij.Qy (t0:=false) a0 a1 h1) ?_
 refine qE hT 15 (K84 1110 7) ⟨23,[(15,.own 1 2 0 a0.length),(16,.i a1),(21,.i (Qh3 (Qf6 (IntKind.wrap .i64 (v1.1+a2)) (-1099511627776)) 1099511627776))],[.gone,Zg a0]⟩ ?_
 obtain ⟨v2,h2,H⟩:=ibC H
 refine Jj (Zk:=[.own 1 2 0 a0.length,.i a1,.i (Qh3 (Qf6 (IntKind.wrap .i64 (v1.1+a2)) (-1099511627776)) 1099511627776)]) (dst:=some 22) (k':=(K84 1110 8)) [22] [1] hP Qnw (Qe6.Qy a0 a1 (Qh3 (Qf6 (IntKind.wrap .i64 (v1.1+a2)) (-1099511627776)) 1099511627776) h2) (by kernel_rfl) (Qev rfl rfl) (.cons (.same (.own 0 2 0 a0.length)) (.cons (Wj _) (.cons (Wj _) .nil))) (st':=⟨23,[(22,.own 2 2 0 v2.length)],[.gone,.gone,Zg v2]⟩) (by kernel_rfl) ?_
 refine qI ?_
 obtain rfl:=Xr H
 exact qT hT 2 hf hX h0 [0,2] (ac .gone (ac (Qat Qa.nl) an)) (.own _ _ _ _)
abbrev Wz.q1 (a1:We) (Qam:Int):=(a1.Pairs.getD Qam.toNat Qa.z)
abbrev Wz.p0 (a2:List Qb):List (Nat × AV):=[(2,.d (Yx true a2)),(4,.ptr 0 0 0 0)]
theorem Wz.Qy {t0:Bool} (a0:List Qa) (a1:We) (a2:List Qb) {r:(List Qa) × Bool} (H:Wz a0 a1 a2=some r):Xz Tryz.prog 44 [] [.d (Yi t0 a0),.d (Qb5 a1),.d (Yx true a2)] [Zg r.1] (.Qn [.own 0 2 0 r.1.length,.b r.2]):=by
 refine Xj Tryz.func44 rfl (nt:=93) rfl (lb rfl) fun X hP h0 hX=>?_
 have hT:Xb X.P T:=hP▸tok
 have hf:X.P.funcs[44]? = some Tryz.f44:=hP▸Tryz.func44
 refine qI ?_
 obtain ⟨v1,h1,H⟩:=ibC H
 have Xy:∀ (Qr0:Bool),(Wz.j1 a0 a1 a2 Qr0)=some r->AK X 44 ((K44 110 1)) (Yc X [Zg r.1] (.Qn [.own 0 2 0 r.1.length,.b r.2])) ⟨93,[(0,.d (Yi t0 a0)),(2,.d (Yx true a2)),(4,.ptr 0 0 0 0),(22,.b Qr0)],[.box 47 (Qaj a1)]⟩:=by
  intro Qr0 H
  by_cases c6:Qr0=true
  ·replace H:=iT c6 H
   rw [c6]
   refine Xl hT 6 (K44 11010 1) ⟨93,[(6,.ns),(7,.b false)],[.box 47 (Qaj a1)]⟩ ?_
   refine Qdj [6,7] 6 2 56 (vec Qa.e Qa.z []) (st':=⟨93,[(6,.own 1 2 0 0),(7,.b false)],[.box 47 (Qaj a1),Zg ([]:List Qa)]⟩) (by kernel_rfl) (by kernel_rfl) ?_
   obtain rfl:=Xr H
   exact Qc0 hf hX h0 (.Qn [.own 1 2 0 0,.b false]) [1] (ac (Qat Qa.nl) an) (.Qn (.cons (.own _ _ _ _) (.cons (.d (.v _)) .nil)))
  replace H:=iF c6 H
  rw [Jo c6]
  refine qI ?_
  obtain ⟨h7,H⟩:=iC H
  refine qF hT 5 hP Qnp (Qro (tg:=t0) a0 h7) ?_
  refine qE hT 11 (K44 111100 1) ⟨93,(Wz.p0 a2++[(6,.own 1 2 0 a0.length),(25,.b (a1.Kind == 2))]),[.box 47 (Qaj a1),Zg a0]⟩ ?_
  by_cases c8:a1.Kind=2
  ·replace H:=iT c8 H
   rw [eqT c8]
   refine Xl hT 7 (K44 111100100 4) ⟨93,[(29,.own 1 2 0 a0.length),(31,.d (Qhd a1.Over)),(32,.d (Yx true a2))],[.box 47 (Qaj a1),Zg a0]⟩ ?_
   obtain ⟨v4,h9,H⟩:=ibC H
   refine Jj (Zk:=[.own 1 2 0 a0.length,.d (Qhd a1.Over),.d (Yx true a2)]) (dst:=some 33) (k':=(K44 111100100 5)) [33] [1] hP Wfw (Qkx.Qy a0 a1.Over a2 h9) (by kernel_rfl) (Qev rfl rfl) (.cons (.same (.own 0 2 0 a0.length)) (.cons (Wj _) (.cons (Wj _) .nil))) (st':=⟨93,[(33,.own 2 2 0 v4.length)],[.box 47 (Qaj a1),.gone,Zg v4]⟩) (by kernel_rfl) ?_
   refine qI ?_
   obtain rfl:=Xr H
   exact qT hT 3 hf hX h0 [2] (ac (Qat Qa.nl) an) (.Qn (.cons (.own _ _ _ _) (.cons (.d (.v _)) .nil)))
  replace H:=iF c8 H
  rw [eqF c8]
  refine qI ?_
  obtain ⟨v5,h10,H⟩:=ibC H
  refine qF hT 4 hP Wfx (Qfz.Qy a1 h10) ?_
  refine qE hT 2 (K44 11110011 1) ⟨93,(Wz.p0 a2++[(6,.own 1 2 0 a0.length),(34,.b v5)]),[.box 47 (Qaj a1),Zg a0]⟩ ?_
  refine qI ?_
  rcases iB H with ⟨c11,H⟩ | ⟨c11,H⟩
  ·refine qB hT 0 (c11) ?_
   refine qE hT 7 (K44 111100111000 3) ⟨93,[(4,.ptr 0 0 0 0),(6,.own 1 2 0 a0.length),(37,.d (Yx true a2)),(39,.d (Yi true a1.Pairs))],[.box 47 (Qaj a1),Zg a0]⟩ ?_
   obtain ⟨h12,H⟩:=iC H
   refine qI ?_
   refine qX hT 0 h12 ?_
   refine qE hT 2 (K44 111100111000 6) ⟨93,[(4,.ptr 0 0 0 0),(6,.own 1 2 0 a0.length),(37,.d (Yx true a2)),(42,.i ((a1.Pairs.getD 0 Qa.z).Key))],[.box 47 (Qaj a1),Zg a0]⟩ ?_
   obtain ⟨v6,h13,H⟩:=ibC H
   refine qI ?_
   refine qF hT 0 hP Qnv (Qf9.Qy (t0:=true) a2 ((a1.Pairs.getD 0 Qa.z).Key) h13) ?_
   refine qE hT 2 (K44 11110011100 1) ⟨93,[(4,.ptr 0 0 0 0),(6,.own 1 2 0 a0.length),(44,.b (!v6))],[.box 47 (Qaj a1),Zg a0]⟩ ?_
   refine qI ?_
   rcases iB H with ⟨c14,H⟩ | ⟨c14,H⟩
   ·refine qB hT 0 (show (!v6)=false by rw [c14];rfl) ?_
    refine qE hT 6 (K44 111100111010 2) ⟨93,[(46,.own 1 2 0 a0.length),(47,.d (Qb5 a1))],[.box 47 (Qaj a1),Zg a0]⟩ ?_
    obtain ⟨v7,h15,H⟩:=ibC H
    refine Jj (Zk:=[.own 1 2 0 a0.length,.d (Qb5 a1)]) (dst:=some 48) (k':=(K44 111100111010 3)) [48] [1] hP Wfy (Qcb.Qy a0 a1 h15) (by kernel_rfl) (Qev rfl rfl) (.cons (.same (.own 0 2 0 a0.length)) (.cons (Wj _) .nil)) (st':=⟨93,[(48,.Qn [.own 2 2 0 v7.1.length,.b v7.2])],[.box 47 (Qaj a1),.gone,Zg v7.1]⟩) (by kernel_rfl) ?_
    refine qI ?_
    obtain rfl:=Xr H
    exact qT hT 5 hf hX h0 [2] (ac (Qat Qa.nl) an) (.Qn (.cons (.own _ _ _ _) (.cons (.d (.v _)) .nil)))
   refine qB hT 0 (show (!v6)=true by rw [Jo c14];rfl) ?_
   obtain rfl:=Xr H
   exact qT hT 7 hf hX h0 [1] (ac (Qat Qa.nl) an) (.Qn (.cons (.own _ _ _ _) (.cons (.d (.v _)) .nil)))
  refine qB hT 0 (Jo c11) ?_
  refine qE hT 13 (K44 11111010 0) ⟨93,(Wz.p0 a2++[(6,.own 1 2 0 a0.length),(52,.d (Yi true a1.Pairs)),(53,.i (a1.Pairs.length:Int)),(54,.i 0)]),[.box 47 (Qaj a1),Zg a0]⟩ ?_
  have L:∀ n,(∀ (Qam:Int) (Xp:List Qa),iter (Wz.step a1 a2) n (.l1 Qam Xp)=some r->AK X 44 ((K44 11111010 0)) (Yc X [Zg r.1] (.Qn [.own 0 2 0 r.1.length,.b r.2])) ⟨93,(Wz.p0 a2++[(6,.own 1 2 0 Xp.length),(52,.d (Yi true a1.Pairs)),(53,.i (a1.Pairs.length:Int)),(54,.i Qam)]),[.box 47 (Qaj a1),Zg Xp]⟩):=by
   intro n
   induction n with
   | zero=>exact fun _ _ H=>Qal H
   | succ n ih=>
    ·intro Qam Xp H
     refine qI ?_
     rcases sB H with ⟨c16,H⟩ | ⟨c16,H⟩
     ·refine qB hT 5 (decide_eq_true c16) ?_
      refine qE hT 7 (K44 11111010011000 1) ⟨93,(Wz.p0 a2++[(6,.own 1 2 0 Xp.length),(52,.d (Yi true a1.Pairs)),(53,.i (a1.Pairs.length:Int)),(54,.i Qam),(56,.i Qam)]),[.box 47 (Qaj a1),Zg Xp]⟩ ?_
      obtain ⟨h17,H⟩:=sC H
      refine qI ?_
      refine qX hT 0 h17 ?_
      refine qE hT 11 (K44 1111101001100100 3) ⟨93,(Wz.p0 a2++[(6,.own 1 2 0 Xp.length),(8,.i Qam),(9,.ptr 2 0 0 0),(52,.d (Yi true a1.Pairs)),(53,.i (a1.Pairs.length:Int)),(54,.i Qam),(66,.d (Yx true a2)),(68,.i ((Wz.q1 a1 Qam).Key))]),[.box 47 (Qaj a1),Zg Xp,.box 56 (Qe8 (Wz.q1 a1 Qam))]⟩ ?_
      obtain ⟨v8,h18,H⟩:=sbC H
      have Jj2:∀ (Qp5:List Qa),stk (Wz.j2 Qam Qp5) (iter (Wz.step a1 a2) n)=some r->AK X 44 ((K44 11111010011 1)) (Yc X [Zg r.1] (.Qn [.own 0 2 0 r.1.length,.b r.2])) ⟨93,(Wz.p0 a2++[(6,.own 1 2 0 Qp5.length),(52,.d (Yi true a1.Pairs)),(53,.i (a1.Pairs.length:Int)),(54,.i Qam)]),[.box 47 (Qaj a1),Zg Qp5]⟩:=by
       intro Qp5 H
       exact Xl hT 5 _ _ (ih (IntKind.wrap .i64 (Qam+1)) Qp5 H)
      refine qI ?_
      refine qF hT 0 hP Qnv (Qf9.Qy (t0:=true) a2 ((Wz.q1 a1 Qam).Key) h18) ?_
      refine qE hT 3 (K44 111110100110010 1) ⟨93,(Wz.p0 a2++[(6,.own 1 2 0 Xp.length),(8,.i Qam),(9,.ptr 2 0 0 0),(52,.d (Yi true a1.Pairs)),(53,.i (a1.Pairs.length:Int)),(54,.i Qam),(65,.b (!v8))]),[.box 47 (Qaj a1),Zg Xp,.box 56 (Qe8 (Wz.q1 a1 Qam))]⟩ ?_
      refine qI ?_
      rcases sB H with ⟨c19,H⟩ | ⟨c19,H⟩
      ·refine qB hT 0 (show (!v8)=false by rw [c19];rfl) ?_
       refine qE hT 8 (K44 11111010011001011 1) ⟨93,(Wz.p0 a2++[(6,.own 1 2 0 Xp.length),(8,.i Qam),(9,.ptr 2 0 0 0),(52,.d (Yi true a1.Pairs)),(53,.i (a1.Pairs.length:Int)),(54,.i Qam),(71,.b (a1.Kind == 1))]),[.box 47 (Qaj a1),Zg Xp,.box 56 (Qe8 (Wz.q1 a1 Qam))]⟩ ?_
       by_cases c20:a1.Kind=1
       ·replace H:=sT c20 H
        rw [eqT c20]
        refine Xl hT 7 (K44 1111101001100101110 5) ⟨93,(Wz.p0 a2++[(52,.d (Yi true a1.Pairs)),(53,.i (a1.Pairs.length:Int)),(54,.i Qam),(75,.own 1 2 0 Xp.length),(77,.i ((Wz.q1 a1 Qam).Key)),(79,.i ((Wz.q1 a1 Qam).Val))]),[.box 47 (Qaj a1),Zg Xp,.box 56 (Qe8 (Wz.q1 a1 Qam))]⟩ ?_
        obtain ⟨v9,h21,H⟩:=sbC H
        refine Jj (Zk:=[.own 1 2 0 Xp.length,.i ((Wz.q1 a1 Qam).Key),.i ((Wz.q1 a1 Qam).Val)]) (dst:=some 80) (k':=(K44 1111101001100101110 6)) [2,4,52,53,54,80] [1] hP Qnw (Qe6.Qy Xp ((Wz.q1 a1 Qam).Key) ((Wz.q1 a1 Qam).Val) h21) (by kernel_rfl) (Qev rfl rfl) (.cons (.same (.own 0 2 0 Xp.length)) (.cons (Wj _) (.cons (Wj _) .nil))) (st':=⟨93,(Wz.p0 a2++[(52,.d (Yi true a1.Pairs)),(53,.i (a1.Pairs.length:Int)),(54,.i Qam),(80,.own 3 2 0 v9.length)]),[.box 47 (Qaj a1),.gone,.box 56 (Qe8 (Wz.q1 a1 Qam)),Zg v9]⟩) (by kernel_rfl) ?_
        exact Yp hT 4 _ [0,3] _ h0 (Jj2 v9 H)
       replace H:=sF c20 H
       rw [eqF c20]
       refine Xl hT 7 (K44 1111101001100101111 1) ⟨93,(Wz.p0 a2++[(6,.own 1 2 0 Xp.length),(9,.ptr 2 0 0 0),(52,.d (Yi true a1.Pairs)),(53,.i (a1.Pairs.length:Int)),(54,.i Qam),(81,.b (Qam == 0))]),[.box 47 (Qaj a1),Zg Xp,.box 56 (Qe8 (Wz.q1 a1 Qam))]⟩ ?_
       by_cases c22:Qam=0
       ·replace H:=sT c22 H
        rw [eqT c22]
        refine Xl hT 8 (K44 111110100110010111110 6) ⟨93,(Wz.p0 a2++[(52,.d (Yi true a1.Pairs)),(53,.i (a1.Pairs.length:Int)),(54,.i Qam),(84,.own 1 2 0 Xp.length),(86,.i ((Wz.q1 a1 Qam).Key)),(89,.i (IntKind.wrap .i64 (0 - ((Wz.q1 a1 Qam).Val))))]),[.box 47 (Qaj a1),Zg Xp,.box 56 (Qe8 (Wz.q1 a1 Qam))]⟩ ?_
        obtain ⟨v10,h23,H⟩:=sbC H
        refine Jj (Zk:=[.own 1 2 0 Xp.length,.i ((Wz.q1 a1 Qam).Key),.i (IntKind.wrap .i64 (0 - ((Wz.q1 a1 Qam).Val)))]) (dst:=some 90) (k':=(K44 111110100110010111110 7)) [2,4,52,53,54,90] [1] hP Qwb (Qg0.Qy Xp ((Wz.q1 a1 Qam).Key) (IntKind.wrap .i64 (0 - ((Wz.q1 a1 Qam).Val))) h23) (by kernel_rfl) (Qev rfl rfl) (.cons (.same (.own 0 2 0 Xp.length)) (.cons (Wj _) (.cons (Wj _) .nil))) (st':=⟨93,(Wz.p0 a2++[(52,.d (Yi true a1.Pairs)),(53,.i (a1.Pairs.length:Int)),(54,.i Qam),(90,.own 3 2 0 v10.length)]),[.box 47 (Qaj a1),.gone,.box 56 (Qe8 (Wz.q1 a1 Qam)),Zg v10]⟩) (by kernel_rfl) ?_
        exact Yp hT 4 _ [0,3] _ h0 (Jj2 v10 H)
       replace H:=sF c22 H
       rw [eqF c22]
       refine Xl hT 7 (K44 111110100110010111111 5) ⟨93,(Wz.p0 a2++[(52,.d (Yi true a1.Pairs)),(53,.i (a1.Pairs.length:Int)),(54,.i Qam),(59,.own 1 2 0 Xp.length),(61,.i ((Wz.q1 a1 Qam).Key)),(63,.i ((Wz.q1 a1 Qam).Val))]),[.box 47 (Qaj a1),Zg Xp,.box 56 (Qe8 (Wz.q1 a1 Qam))]⟩ ?_
       obtain ⟨v11,h24,H⟩:=sbC H
       refine Jj (Zk:=[.own 1 2 0 Xp.length,.i ((Wz.q1 a1 Qam).Key),.i ((Wz.q1 a1 Qam).Val)]) (dst:=some 64) (k':=(K44 111110100110010111111 6)) [2,4,52,53,54,64] [1] hP Qwb (Qg0.Qy Xp ((Wz.q1 a1 Qam).Key) ((Wz.q1 a1 Qam).Val) h24) (by kernel_rfl) (Qev rfl rfl) (.cons (.same (.own 0 2 0 Xp.length)) (.cons (Wj _) (.cons (Wj _) .nil))) (st':=⟨93,(Wz.p0 a2++[(52,.d (Yi true a1.Pairs)),(53,.i (a1.Pairs.length:Int)),(54,.i Qam),(64,.own 3 2 0 v11.length)]),[.box 47 (Qaj a1),.gone,.box 56 (Qe8 (Wz.q1 a1 Qam)),Zg v11]⟩) (by kernel_rfl) ?_
       exact Yp hT 4 _ [0,3] _ h0 (Jj2 v11 H)
      refine qB hT 0 (show (!v8)=true by rw [Jo c19];rfl) ?_
      exact qC hT 4 _ [0,1] _ h0 (Jj2 Xp H)
     refine qB hT 5 (decide_eq_false c16) ?_
     obtain rfl:=Xr H
     exact qT hT 8 hf hX h0 [1] (ac (Qat Qa.nl) an) (.Qn (.cons (.own _ _ _ _) (.cons (.d (.v _)) .nil)))
  obtain ⟨n,H⟩:=Qbp H
  exact (L n) 0 a0 H
 refine qF hT 10 hP Qie (Xn.Qy (t0:=t0) a0 h1) ?_
 refine qE hT 2 (K44 1100 4) ⟨93,[(0,.d (Yi t0 a0)),(2,.d (Yx true a2)),(4,.ptr 0 0 0 0),(13,.b (!v1))],[.box 47 (Qaj a1)]⟩ ?_
 refine qI ?_
 rcases iB H with ⟨c2,H⟩ | ⟨c2,H⟩
 ·refine qB hT 0 (show (!v1)=false by rw [c2];rfl) ?_
  refine qE hT 1 (K44 1100 5) ⟨93,[(0,.d (Yi t0 a0)),(2,.d (Yx true a2)),(4,.ptr 0 0 0 0),(13,.b false),(14,.d (Qb5 a1))],[.box 47 (Qaj a1)]⟩ ?_
  obtain ⟨v2,h3,H⟩:=ibC H
  refine qI ?_
  refine qF hT 0 hP Qid (Qbx.Qy a1 h3) ?_
  refine qE hT 3 (K44 1100 9) ⟨93,[(0,.d (Yi t0 a0)),(2,.d (Yx true a2)),(4,.ptr 0 0 0 0),(18,.b (!v2))],[.box 47 (Qaj a1)]⟩ ?_
  refine qI ?_
  rcases iB H with ⟨c4,H⟩ | ⟨c4,H⟩
  ·refine qB hT 0 (show (!v2)=false by rw [c4];rfl) ?_
   refine qE hT 1 (K44 1100 10) ⟨93,[(0,.d (Yi t0 a0)),(2,.d (Yx true a2)),(4,.ptr 0 0 0 0),(18,.b false),(19,.d (Yx true a2))],[.box 47 (Qaj a1)]⟩ ?_
   obtain ⟨v3,h5,H⟩:=ibC H
   refine qI ?_
   refine qF hT 0 hP Qkq (Zz.Qy (t0:=true) a2 h5) ?_
   exact qE hT 3 _ _ (Xy (!v3) H)
  refine qB hT 0 (show (!v2)=true by rw [Jo c4];rfl) ?_
  exact qE hT 5 _ _ (Xy true H)
 refine qB hT 0 (show (!v1)=true by rw [Jo c2];rfl) ?_
 exact qE hT 10 _ _ (Xy true H)
abbrev Zn.p0 (a1:List Qb) (a2:Int):List (Nat × AV):=[(1,.d (Yx true a1)),(2,.i a2)]
theorem Zn.Qy {t0:Bool} (a0:List Qc) (a1:List Qb) (a2:Int) {r:List Qa} (H:Zn a0 a1 a2=some r):Xz Tryz.prog 16 [] [.d (Qbg t0 a0),.d (Yx true a1),.i a2] [Zg r] (.own 0 2 0 r.length):=by
 refine Xj Tryz.func16 rfl (nt:=41) rfl (lb rfl) fun X hP h0 hX=>?_
 have hT:Xb X.P T:=hP▸tok
 have hf:X.P.funcs[16]? = some Tryz.f16:=hP▸Tryz.func16
 refine qI ?_
 obtain ⟨v1,h1,H⟩:=ibC H
 have Xy:∀ (Qry:Bool),(Zn.j1 a0 a1 a2 Qry)=some r->AK X 16 ((K16 110 1)) (Yc X [Zg r] (.own 0 2 0 r.length)) ⟨41,[(0,.d (Qbg t0 a0)),(1,.d (Yx true a1)),(2,.i a2),(16,.b Qry)],[]⟩:=by
  intro Qry H
  by_cases c4:Qry=true
  ·replace H:=iT c4 H
   rw [c4]
   refine Xl hT 5 (K16 11010 1) ⟨41,[(6,.ns)],[]⟩ ?_
   refine Qdj [6] 6 2 56 (vec Qa.e Qa.z []) (st':=⟨41,[(6,.own 0 2 0 0)],[Zg ([]:List Qa)]⟩) (by kernel_rfl) (by kernel_rfl) ?_
   obtain rfl:=Xr H
   exact Qc0 hf hX h0 (.own 0 2 0 0) [0] (ac (Qat Qa.nl) an) (.own _ _ _ _)
  replace H:=iF c4 H
  rw [Jo c4]
  refine Xl hT 15 (K16 1111010 0) ⟨41,(Zn.p0 a1 a2++[(7,.ns),(17,.d (Qbg t0 a0)),(18,.i (a0.length:Int)),(19,.i 0)]),[]⟩ ?_
  refine Qdj [1,2,7,17,18,19] 7 2 56 (vec Qa.e Qa.z []) (st':=⟨41,(Zn.p0 a1 a2++[(7,.own 0 2 0 0),(17,.d (Qbg t0 a0)),(18,.i (a0.length:Int)),(19,.i 0)]),[Zg ([]:List Qa)]⟩) (by kernel_rfl) (by kernel_rfl) ?_
  have L:∀ n,(∀ (Qd7:Int) (Qx:List Qa),iter (Zn.step a0 a1 a2) n (.l1 Qd7 Qx)=some r->AK X 16 ((K16 1111010 0)) (Yc X [Zg r] (.own 0 2 0 r.length)) ⟨41,(Zn.p0 a1 a2++[(7,.own 0 2 0 Qx.length),(17,.d (Qbg t0 a0)),(18,.i (a0.length:Int)),(19,.i Qd7)]),[Zg Qx]⟩):=by
   intro n
   induction n with
   | zero=>exact fun _ _ H=>Qal H
   | succ n ih=>
    ·intro Qd7 Qx H
     refine qI ?_
     rcases sB H with ⟨c5,H⟩ | ⟨c5,H⟩
     ·refine qB hT 5 (decide_eq_true c5) ?_
      refine qE hT 6 (K16 1111010011000 0) ⟨41,(Zn.p0 a1 a2++[(7,.own 0 2 0 Qx.length),(17,.d (Qbg t0 a0)),(18,.i (a0.length:Int)),(19,.i Qd7)]),[Zg Qx]⟩ ?_
      obtain ⟨h6,H⟩:=sC H
      have Jj2:∀ (Qsg:Bool),stk (Zn.j2 a0 a1 Qd7 Qx Qsg) (iter (Zn.step a0 a1 a2) n)=some r->AK X 16 ((K16 1111010011001 1)) (Yc X [Zg r] (.own 0 2 0 r.length)) ⟨41,(Zn.p0 a1 a2++[(7,.own 0 2 0 Qx.length),(9,.ptr 1 0 0 0),(17,.d (Qbg t0 a0)),(18,.i (a0.length:Int)),(19,.i Qd7),(30,.b Qsg)]),[Zg Qx,.box 50 (Qed (a0.getD Qd7.toNat Qc.z))]⟩:=by
       intro Qsg H
       have Jj3:∀ (Qp6:List Qa),stk (Zn.j3 Qd7 Qp6) (iter (Zn.step a0 a1 a2) n)=some r->AK X 16 ((K16 1111010011 1)) (Yc X [Zg r] (.own 0 2 0 r.length)) ⟨41,(Zn.p0 a1 a2++[(7,.own 0 2 0 Qp6.length),(17,.d (Qbg t0 a0)),(18,.i (a0.length:Int)),(19,.i Qd7)]),[Zg Qp6]⟩:=by
        intro Qp6 H
        exact Xl hT 5 _ _ (ih (IntKind.wrap .i64 (Qd7+1)) Qp6 H)
       by_cases c8:Qsg=true
       ·replace H:=sT c8 H
        rw [c8]
        refine qI ?_
        obtain ⟨v3,h9,H⟩:=sbC H
        refine qF hT 6 hP Qv7 (Wz.Qy (t0:=false) Qx ((a0.getD Qd7.toNat Qc.z).M) a1 h9) ?_
        exact qC hT 6 _ [2] _ h0 (Jj3 v3.1 H)
       replace H:=sF c8 H
       rw [Jo c8]
       exact Yp hT 3 _ [0] _ h0 (Jj3 Qx H)
      refine qI ?_
      refine qX hT 0 h6 ?_
      refine qE hT 9 (K16 11110100110010 3) ⟨41,(Zn.p0 a1 a2++[(7,.own 0 2 0 Qx.length),(9,.ptr 1 0 0 0),(17,.d (Qbg t0 a0)),(18,.i (a0.length:Int)),(19,.i Qd7),(25,.b ((a0.getD Qd7.toNat Qc.z).Zw))]),[Zg Qx,.box 50 (Qed (a0.getD Qd7.toNat Qc.z))]⟩ ?_
      refine qI ?_
      rcases sB H with ⟨c7,H⟩ | ⟨c7,H⟩
      ·refine qB hT 0 (c7) ?_
       exact qE hT 6 _ _ (Jj2 (decide (((a0.getD Qd7.toNat Qc.z).Time)<=a2)) H)
      refine qB hT 0 (Jo c7) ?_
      exact qE hT 6 _ _ (Jj2 false H)
     refine qB hT 5 (decide_eq_false c5) ?_
     obtain rfl:=Xr H
     exact qT hT 7 hf hX h0 [0] (ac (Qat Qa.nl) an) (.own _ _ _ _)
  refine Qg4 [0] ⟨41,(Zn.p0 a1 a2++[(7,.own 0 2 0 ([]:List Qa).length),(17,.d (Qbg t0 a0)),(18,.i (a0.length:Int)),(19,.i 0)]),[Zg ([]:List Qa)]⟩ h0 ?_
  obtain ⟨n,H⟩:=Qbp H
  exact (L n) 0 ([]:List Qa) H
 refine qF hT 8 hP Qkq (Zz.Qy (t0:=true) a1 h1) ?_
 refine qE hT 2 (K16 1100 4) ⟨41,[(0,.d (Qbg t0 a0)),(1,.d (Yx true a1)),(2,.i a2),(13,.b (!v1))],[]⟩ ?_
 refine qI ?_
 rcases iB H with ⟨c2,H⟩ | ⟨c2,H⟩
 ·refine qB hT 0 (show (!v1)=false by rw [c2];rfl) ?_
  refine qE hT 1 (K16 1100 5) ⟨41,[(0,.d (Qbg t0 a0)),(1,.d (Yx true a1)),(2,.i a2),(13,.b false),(14,.d (Qbg t0 a0))],[]⟩ ?_
  obtain ⟨v2,h3,H⟩:=ibC H
  refine qI ?_
  refine qF hT 0 hP Qv6 (Qbl.Qy (t0:=t0) (ff1:=42) (cc1:=[]) a0 (fun z0=>Qg8 z0) Wfd (fun z0 r h=>Qg8.Qy z0 h) h3) ?_
  exact qE hT 2 _ _ (Xy v2 H)
 refine qB hT 0 (show (!v1)=true by rw [Jo c2];rfl) ?_
 exact qE hT 4 _ _ (Xy true H)
theorem Jc.Qy {t0:Bool} {ff1:FuncId} {cc1:List DV} (a0:List We) (p1:We->Option Bool) (he1:Sy.Enters Tryz.prog ff1) (hp1:∀ (z0:We) r,p1 z0=some r->Xz Tryz.prog ff1 [] ([.d (Qb5 z0)] ++ List.map AV.d cc1) [] (.b r)) {r:Int} (H:Jc a0 p1=some r):Xz Tryz.prog 85 [] [.d (Qil t0 a0),.d (.fn ff1 cc1)] [] (.i r):=by
 refine Xj Tryz.func85 rfl (nt:=19) rfl (lb rfl) fun X hP h0 hX=>?_
 have hT:Xb X.P T:=hP▸tok
 have hf:X.P.funcs[85]? = some Tryz.f85:=hP▸Tryz.func85
 refine Xl hT 13 (K85 11010 0) ⟨19,[(0,.d (Qil t0 a0)),(1,.d (.fn ff1 cc1)),(7,.i (a0.length:Int)),(8,.i 0)],[]⟩ ?_
 have L:∀ n,(∀ (Xd:Int),iter (Jc.step a0 p1) n (.l1 Xd)=some r->AK X 85 ((K85 11010 0)) (Yc X [] (.i r)) ⟨19,[(0,.d (Qil t0 a0)),(1,.d (.fn ff1 cc1)),(7,.i (a0.length:Int)),(8,.i Xd)],[]⟩):=by
  intro n
  induction n with
  | zero=>exact fun _ H=>Qal H
  | succ n ih=>
   ·intro Xd H
    refine qI ?_
    rcases sB H with ⟨c1,H⟩ | ⟨c1,H⟩
    ·refine qB hT 5 (decide_eq_true c1) ?_
     refine qE hT 14 (K85 110100110010 3) ⟨19,[(0,.d (Qil t0 a0)),(1,.d (.fn ff1 cc1)),(5,.i Xd),(7,.i (a0.length:Int)),(8,.i Xd),(11,.d (.fn ff1 cc1)),(12,.d (Qil t0 a0)),(13,.i Xd)],[]⟩ ?_
     obtain ⟨h2,H⟩:=sC H
     refine qI ?_
     refine qX hT 0 h2 ?_
     refine qE hT 1 (K85 110100110010 5) ⟨19,[(0,.d (Qil t0 a0)),(1,.d (.fn ff1 cc1)),(5,.i Xd),(7,.i (a0.length:Int)),(8,.i Xd),(11,.d (.fn ff1 cc1)),(15,.d (Qb5 (a0.getD Xd.toNat We.z)))],[]⟩ ?_
     obtain ⟨v1,h3,H⟩:=sbC H
     refine Jj (Zk:=[.d (Qb5 (a0.getD Xd.toNat We.z))] ++ List.map AV.d cc1) (dst:=some 16) (k':=(K85 110100110010 6)) [0,1,5,7,8,16] [] hP he1 (hp1 (a0.getD Xd.toNat We.z) v1 h3) (by kernel_rfl) (Jy _) (.cons (Wj _) (Qgq _)) (st':=⟨19,[(0,.d (Qil t0 a0)),(1,.d (.fn ff1 cc1)),(5,.i Xd),(7,.i (a0.length:Int)),(8,.i Xd),(16,.b v1)],[]⟩) (by kernel_rfl) ?_
     refine qI ?_
     rcases sB H with ⟨c4,H⟩ | ⟨c4,H⟩
     ·refine qB hT 1 (c4) ?_
      obtain rfl:=Xr H
      exact qT hT 6 hf hX h0 [] an (.d (.v _))
     refine qB hT 1 (Jo c4) ?_
     exact qE hT 8 _ _ (ih (IntKind.wrap .i64 (Xd+1)) H)
    refine qB hT 5 (decide_eq_false c1) ?_
    obtain rfl:=Xr H
    exact qT hT 6 hf hX h0 [] an (.d (.v _))
 obtain ⟨n,H⟩:=Qbp H
 exact (L n) 0 H
theorem Qcp.Qy {t0:Bool} {ff1:FuncId} {cc1:List DV} (a0:List We) (p1:We->Option Bool) (he1:Sy.Enters Tryz.prog ff1) (hp1:∀ (z0:We) r,p1 z0=some r->Xz Tryz.prog ff1 [] ([.d (Qb5 z0)] ++ List.map AV.d cc1) [] (.b r)) {r:Bool} (H:Qcp a0 p1=some r):Xz Tryz.prog 46 [] [.d (Qil t0 a0),.d (.fn ff1 cc1)] [] (.b r):=by
 refine Xj Tryz.func46 rfl (nt:=9) rfl (lb rfl) fun X hP h0 hX=>?_
 have hT:Xb X.P T:=hP▸tok
 have hf:X.P.funcs[46]? = some Tryz.f46:=hP▸Tryz.func46
 refine qI ?_
 obtain ⟨v1,h1,H⟩:=ibC H
 refine qF hT 8 hP Wfz (Jc.Qy (t0:=t0) (ff1:=ff1) (cc1:=cc1) a0 p1 he1 hp1 h1) ?_
 obtain rfl:=Xr H
 exact qT hT 3 hf hX h0 [] an (.d (.v _))
theorem Qg9.Qy (a0:We) {r:Bool} (H:Qg9 a0=some r):Xz Tryz.prog 47 [] [.d (Qb5 a0)] [] (.b r):=by
 refine Xj Tryz.func47 rfl (nt:=6) rfl (lb rfl) fun X hP h0 hX=>?_
 have hT:Xb X.P T:=hP▸tok
 have hf:X.P.funcs[47]? = some Tryz.f47:=hP▸Tryz.func47
 refine qI ?_
 obtain ⟨v1,h1,H⟩:=ibC H
 refine qF hT 8 hP Qid (Qbx.Qy a0 h1) ?_
 obtain rfl:=Xr H
 exact qT hT 3 hf hX h0 [] an (.d (.v _))
theorem Qbk.Qy {t0:Bool} {t1:Bool} (a0:List Qa) (a1:List We) (a2:List Qb) {r:List Qa} (H:Qbk a0 a1 a2=some r):Xz Tryz.prog 17 [] [.d (Yi t0 a0),.d (Qil t1 a1),.d (Yx true a2)] [Zg r] (.own 0 2 0 r.length):=by
 refine Xj Tryz.func17 rfl (nt:=39) rfl (lb rfl) fun X hP h0 hX=>?_
 have hT:Xb X.P T:=hP▸tok
 have hf:X.P.funcs[17]? = some Tryz.f17:=hP▸Tryz.func17
 refine qI ?_
 obtain ⟨v1,h1,H⟩:=ibC H
 have Xy:∀ (Qgo:Bool),(Qbk.j1 a0 a1 a2 Qgo)=some r->AK X 17 ((K17 110 1)) (Yc X [Zg r] (.own 0 2 0 r.length)) ⟨39,[(0,.d (Yi t0 a0)),(1,.d (Qil t1 a1)),(2,.d (Yx true a2)),(21,.b Qgo)],[]⟩:=by
  intro Qgo H
  by_cases c6:Qgo=true
  ·replace H:=iT c6 H
   rw [c6]
   refine Xl hT 5 (K17 11010 1) ⟨39,[(6,.ns)],[]⟩ ?_
   refine Qdj [6] 6 2 56 (vec Qa.e Qa.z []) (st':=⟨39,[(6,.own 0 2 0 0)],[Zg ([]:List Qa)]⟩) (by kernel_rfl) (by kernel_rfl) ?_
   obtain rfl:=Xr H
   exact Qc0 hf hX h0 (.own 0 2 0 0) [0] (ac (Qat Qa.nl) an) (.own _ _ _ _)
  replace H:=iF c6 H
  rw [Jo c6]
  refine qI ?_
  obtain ⟨h7,H⟩:=iC H
  refine qF hT 5 hP Qnp (Qro (tg:=t0) a0 h7) ?_
  refine qE hT 11 (K17 1111010 0) ⟨39,[(2,.d (Yx true a2)),(7,.own 0 2 0 a0.length),(24,.d (Qil t1 a1)),(25,.i (a1.length:Int)),(26,.i 0)],[Zg a0]⟩ ?_
  have L:∀ n,(∀ (Qhc:Int) (Qx:List Qa),iter (Qbk.step a1 a2) n (.l1 Qhc Qx)=some r->AK X 17 ((K17 1111010 0)) (Yc X [Zg r] (.own 0 2 0 r.length)) ⟨39,[(2,.d (Yx true a2)),(7,.own 0 2 0 Qx.length),(24,.d (Qil t1 a1)),(25,.i (a1.length:Int)),(26,.i Qhc)],[Zg Qx]⟩):=by
   intro n
   induction n with
   | zero=>exact fun _ _ H=>Qal H
   | succ n ih=>
    ·intro Qhc Qx H
     refine qI ?_
     rcases sB H with ⟨c8,H⟩ | ⟨c8,H⟩
     ·refine qB hT 5 (decide_eq_true c8) ?_
      refine qE hT 6 (K17 1111010011000 0) ⟨39,[(2,.d (Yx true a2)),(7,.own 0 2 0 Qx.length),(24,.d (Qil t1 a1)),(25,.i (a1.length:Int)),(26,.i Qhc)],[Zg Qx]⟩ ?_
      obtain ⟨h9,H⟩:=sC H
      refine qI ?_
      refine qX hT 0 h9 ?_
      refine qE hT 8 (K17 1111010011001 3) ⟨39,[(2,.d (Yx true a2)),(24,.d (Qil t1 a1)),(25,.i (a1.length:Int)),(26,.i Qhc),(31,.own 0 2 0 Qx.length),(32,.d (Qb5 (a1.getD Qhc.toNat We.z))),(33,.d (Yx true a2))],[Zg Qx,.box 47 (Qaj (a1.getD Qhc.toNat We.z))]⟩ ?_
      obtain ⟨v4,h10,H⟩:=sbC H
      refine qI ?_
      refine qF hT 0 hP Qv7 (Wz.Qy (t0:=false) Qx (a1.getD Qhc.toNat We.z) a2 h10) ?_
      exact qC hT 11 _ [2] _ h0 (ih (IntKind.wrap .i64 (Qhc+1)) v4.1 H)
     refine qB hT 5 (decide_eq_false c8) ?_
     obtain rfl:=Xr H
     exact qT hT 7 hf hX h0 [0] (ac (Qat Qa.nl) an) (.own _ _ _ _)
  obtain ⟨n,H⟩:=Qbp H
  exact (L n) 0 a0 H
 refine qF hT 8 hP Qie (Xn.Qy (t0:=t0) a0 h1) ?_
 refine qE hT 2 (K17 1100 4) ⟨39,[(0,.d (Yi t0 a0)),(1,.d (Qil t1 a1)),(2,.d (Yx true a2)),(13,.b (!v1))],[]⟩ ?_
 refine qI ?_
 rcases iB H with ⟨c2,H⟩ | ⟨c2,H⟩
 ·refine qB hT 0 (show (!v1)=false by rw [c2];rfl) ?_
  refine qE hT 1 (K17 1100 5) ⟨39,[(0,.d (Yi t0 a0)),(1,.d (Qil t1 a1)),(2,.d (Yx true a2)),(13,.b false),(14,.d (Yx true a2))],[]⟩ ?_
  obtain ⟨v2,h3,H⟩:=ibC H
  refine qI ?_
  refine qF hT 0 hP Qkq (Zz.Qy (t0:=true) a2 h3) ?_
  refine qE hT 3 (K17 1100 9) ⟨39,[(0,.d (Yi t0 a0)),(1,.d (Qil t1 a1)),(2,.d (Yx true a2)),(18,.b (!v2))],[]⟩ ?_
  refine qI ?_
  rcases iB H with ⟨c4,H⟩ | ⟨c4,H⟩
  ·refine qB hT 0 (show (!v2)=false by rw [c4];rfl) ?_
   refine qE hT 1 (K17 1100 10) ⟨39,[(0,.d (Yi t0 a0)),(1,.d (Qil t1 a1)),(2,.d (Yx true a2)),(18,.b false),(19,.d (Qil t1 a1))],[]⟩ ?_
   obtain ⟨v3,h5,H⟩:=ibC H
   refine qI ?_
   refine qF hT 0 hP Wfe (Qcp.Qy (t0:=t1) (ff1:=47) (cc1:=[]) a1 (fun z0=>Qg9 z0) Wff (fun z0 r h=>Qg9.Qy z0 h) h5) ?_
   exact qE hT 2 _ _ (Xy v3 H)
  refine qB hT 0 (show (!v2)=true by rw [Jo c4];rfl) ?_
  exact qE hT 4 _ _ (Xy true H)
 refine qB hT 0 (show (!v1)=true by rw [Jo c2];rfl) ?_
 exact qE hT 9 _ _ (Xy true H)
theorem Qcu.Qy (a0:Qc) (k0:Qc):Xz Tryz.prog 48 [] [.d (Qff a0),.d (.rop false 1 (fun _=>[.i k0.M.Client,.i k0.M.Seq,.i k0.M.Kind,Yi true k0.M.Pairs,.i k0.M.Over.Lo,.i k0.M.Over.Hi,.i k0.M.Old,.i k0.Time,.b k0.Zw]) 0 0)] [] (.b (Qcu a0 k0)):=by
 obtain ⟨r,H⟩:∃ r,Qcu a0 k0=r:=⟨_,rfl⟩
 rw [H]
 refine Xj Tryz.func48 rfl (nt:=20) rfl (lb rfl) fun X hP h0 hX=>?_
 have hT:Xb X.P T:=hP▸tok
 have hf:X.P.funcs[48]? = some Tryz.f48:=hP▸Tryz.func48
 have Xy:∀ (Qh8:Bool),(Qcu.j1 Qh8)=r->AK X 48 ((K48 11 1)) (Yc X [] (.b r)) ⟨20,[(3,.b Qh8)],[]⟩:=by
  intro Qh8 H
  obtain rfl:=H
  exact Qc0 hf hX h0 (.b Qh8) [] an (.d (.v _))
 refine Xl hT 15 (K48 110 8) ⟨20,[(1,.d (.rop false 1 (fun _=>[.i k0.M.Client,.i k0.M.Seq,.i k0.M.Kind,Yi true k0.M.Pairs,.i k0.M.Over.Lo,.i k0.M.Over.Hi,.i k0.M.Old,.i k0.Time,.b k0.Zw]) 0 0)),(2,.ptr 0 0 0 0),(11,.b (a0.M.Client == k0.M.Client))],[.box 50 (Qed a0)]⟩ ?_
 by_cases c1:a0.M.Client=k0.M.Client
 ·replace H:=iT c1 H
  rw [eqT c1]
  exact Yp hT 10 _ [] _ h0 (Xy (decide (a0.M.Seq>=k0.M.Seq)) H)
 replace H:=iF c1 H
 rw [eqF c1]
 exact Yp hT 10 _ [] _ h0 (Xy false H)
abbrev Qau.p0 (t0:Bool) (a0:List Qc):List (Nat × AV):=[(0,.d (Qbg t0 a0)),(5,.d (Qbg t0 a0)),(6,.i (a0.length:Int))]
theorem Qau.Qy {t0:Bool} (a0:List Qc) {r:Bool} (H:Qau a0=some r):Xz Tryz.prog 18 [] [.d (Qbg t0 a0)] [] (.b r):=by
 refine Xj Tryz.func18 rfl (nt:=18) rfl (lb rfl) fun X hP h0 hX=>?_
 have hT:Xb X.P T:=hP▸tok
 have hf:X.P.funcs[18]? = some Tryz.f18:=hP▸Tryz.func18
 refine Xl hT 13 (K18 11010 0) ⟨18,(Qau.p0 t0 a0++[(7,.i 0)]),[]⟩ ?_
 have L:∀ n,(∀ (Ws:Int),iter (Qau.step a0) n (.l1 Ws)=some r->AK X 18 ((K18 11010 0)) (Yc X [] (.b r)) ⟨18,(Qau.p0 t0 a0++[(7,.i Ws)]),[]⟩):=by
  intro n
  induction n with
  | zero=>exact fun _ H=>Qal H
  | succ n ih=>
   ·intro Ws H
    refine qI ?_
    rcases sB H with ⟨c1,H⟩ | ⟨c1,H⟩
    ·refine qB hT 5 (decide_eq_true c1) ?_
     refine qE hT 7 (K18 11010011000 1) ⟨18,(Qau.p0 t0 a0++[(7,.i Ws),(9,.i Ws)]),[]⟩ ?_
     obtain ⟨h2,H⟩:=sC H
     refine qI ?_
     refine qX hT 0 h2 ?_
     refine qE hT 9 (K18 110100110010 2) ⟨18,[(0,.d (Qbg t0 a0)),(4,.ptr 0 0 0 0),(5,.d (Qbg t0 a0)),(6,.i (a0.length:Int)),(7,.i Ws),(12,.d (Qbg t0 a0)),(13,.i Ws)],[.box 50 (Qed (a0.getD Ws.toNat Qc.z))]⟩ ?_
     obtain ⟨h3,H⟩:=sC H
     refine Wei (tg:=t0) (s:=9) (l:=none) (h:=(some (.i64,Ws))) (dst:=some 14) (k':=(K18 110100110010 3)) hT [0,4,5,6,7,14] Qc.e Qc.z a0 (by kernel_rfl) h3 (fun _=>rfl) (st':=⟨18,[(0,.d (Qbg t0 a0)),(4,.ptr 0 0 0 0),(5,.d (Qbg t0 a0)),(6,.i (a0.length:Int)),(7,.i Ws),(14,.d (Qbg t0 ((a0.drop 0).take (Ws.toNat - 0))))],[.box 50 (Qed (a0.getD Ws.toNat Qc.z))]⟩) (by kernel_rfl) ?_
     refine Xl hT 1 (K18 110100110010 4) ⟨18,(Qau.p0 t0 a0++[(7,.i Ws),(14,.d (Qbg t0 ((a0.drop 0).take (Ws.toNat - 0)))),(15,.fn 48 [.ptr 0 0 0 0])]),[.box 50 (Qed (a0.getD Ws.toNat Qc.z))]⟩ ?_
     obtain ⟨v1,h4,H⟩:=sbC H
     refine Jj (Zk:=[.d (Qbg t0 ((a0.drop 0).take (Ws.toNat - 0))),.fn 48 [.ptr 0 0 0 0]]) (dst:=some 16) (k':=(K18 110100110010 5)) [0,5,6,7,16] [] hP Qv6 (Qbl.Qy (t0:=t0) (ff1:=48) (cc1:=[.rop false 1 (fun _=>[.i (((a0.getD Ws.toNat Qc.z).M).Client),.i (((a0.getD Ws.toNat Qc.z).M).Seq),.i (((a0.getD Ws.toNat Qc.z).M).Kind),Yi true (((a0.getD Ws.toNat Qc.z).M).Pairs),.i ((((a0.getD Ws.toNat Qc.z).M).Over).Lo),.i ((((a0.getD Ws.toNat Qc.z).M).Over).Hi),.i (((a0.getD Ws.toNat Qc.z).M).Old),.i ((a0.getD Ws.toNat Qc.z).Time),.b ((a0.getD Ws.toNat Qc.z).Zw)]) 0 0]) ((a0.drop 0).take (Ws.toNat - 0)) (fun z0=>some (Qcu z0 (a0.getD Ws.toNat Qc.z))) Wfg (fun z0 r h=>by obtain rfl:=Xr h;exact Qcu.Qy z0 (a0.getD Ws.toNat Qc.z)) h4) (by kernel_rfl) (Jy _) (.cons (Wj _) (.cons (.fn 48 (.cons (.look (ty:=50) (cs:=[.i (((a0.getD Ws.toNat Qc.z).M).Client),.i (((a0.getD Ws.toNat Qc.z).M).Seq),.i (((a0.getD Ws.toNat Qc.z).M).Kind),Yi true (((a0.getD Ws.toNat Qc.z).M).Pairs),.i ((((a0.getD Ws.toNat Qc.z).M).Over).Lo),.i ((((a0.getD Ws.toNat Qc.z).M).Over).Hi),.i (((a0.getD Ws.toNat Qc.z).M).Old),.i ((a0.getD Ws.toNat Qc.z).Time),.b ((a0.getD Ws.toNat Qc.z).Zw)]) (by kernel_rfl) rfl) .nil)) .nil)) (st':=⟨18,(Qau.p0 t0 a0++[(7,.i Ws),(16,.b v1)]),[.box 50 (Qed (a0.getD Ws.toNat Qc.z))]⟩) (by kernel_rfl) ?_
     refine qI ?_
     rcases sB H with ⟨c5,H⟩ | ⟨c5,H⟩
     ·refine qB hT 1 (c5) ?_
      obtain rfl:=Xr H
      exact qT hT 5 hf hX h0 [] an (.d (.v _))
     refine qB hT 1 (Jo c5) ?_
     exact qC hT 8 _ [] _ h0 (ih (IntKind.wrap .i64 (Ws+1)) H)
    refine qB hT 5 (decide_eq_false c1) ?_
    obtain rfl:=Xr H
    exact qT hT 6 hf hX h0 [] an (.d (.v _))
 obtain ⟨n,H⟩:=Qbp H
 exact (L n) 0 H
abbrev Qu.q1 (v1:We) (v2:We):=([(⟨(⟨v1.Client,v1.Seq,v1.Kind,v1.Pairs,(v1.Over),v1.Old⟩:We),3,true⟩:Qc),(⟨(⟨v2.Client,v2.Seq,v2.Kind,v2.Pairs,(v2.Over),v2.Old⟩:We),4,true⟩:Qc)]:List Qc)
abbrev Qu.q2 (v1:We) (v2:We) (v3:List Qa) (v4:List Qa) (v5:We) (v6:List Qa):List Row:=[Qb6 (Qu.q1 v1 v2),Qk1 ([(⟨0,9⟩:Qb)]:List Qb),Zg v3,Zg v4,Wlk ([v5]:List We),Zg v6]
abbrev Qu.q3:=([(⟨0,9⟩:Qb)]:List Qb)
abbrev Qu.q4 (v1:We) (v2:We):=((Qu.q1 v1 v2).length)
theorem Qu.Qy {r:Bool} (H:Qu=some r):Xz Tryz.prog 6 [] [] [] (.b r):=by
 refine Xj Tryz.func6 rfl (nt:=62) rfl (lb rfl) fun X hP h0 hX=>?_
 have hT:Xb X.P T:=hP▸tok
 have hf:X.P.funcs[6]? = some Tryz.f6:=hP▸Tryz.func6
 refine Xl hT 6 (K6 110 0) ⟨62,[],[]⟩ ?_
 refine Jj (Zk:=[.i 1,.i 5,.i 1]) (dst:=some 6) (k':=(K6 110 1)) [6] [] hP Qqs (Qbv.Qy 1 5 1) (by kernel_rfl) (Jy _) (.cons (Wj _) (.cons (Wj _) (.cons (Wj _) .nil))) (st':=⟨62,[(6,.d (Qb5 (Qbv 1 5 1)))],[]⟩) (by kernel_rfl) ?_
 obtain ⟨v1,h1,H⟩:=idC H
 rw [<- h1]
 refine Xl hT 1 (K6 110 2) ⟨62,[(7,.d (.agg [.i v1.Client,.i v1.Seq,.i v1.Kind,Yi true v1.Pairs,.i ((v1.Over).Lo),.i ((v1.Over).Hi),.i v1.Old,.i 3,.b true]))],[]⟩ ?_
 refine Jj (Zk:=[.i 3,.i 5,.i 2]) (dst:=some 8) (k':=(K6 110 3)) [7,8] [] hP Qqs (Qbv.Qy 3 5 2) (by kernel_rfl) (Jy _) (.cons (Wj _) (.cons (Wj _) (.cons (Wj _) .nil))) (st':=⟨62,[(7,.d (.agg [.i v1.Client,.i v1.Seq,.i v1.Kind,Yi true v1.Pairs,.i ((v1.Over).Lo),.i ((v1.Over).Hi),.i v1.Old,.i 3,.b true])),(8,.d (Qb5 (Qbv 3 5 2)))],[]⟩) (by kernel_rfl) ?_
 obtain ⟨v2,h2,H⟩:=idC H
 rw [<- h2]
 refine Xl hT 14 (K6 11110 2) ⟨62,[(1,.own 0 9 0 2),(2,.own 1 2 0 1),(13,.own 0 9 0 2),(14,.own 1 2 0 1)],[.flat false 9 50 2 (fun j=>[[.i v1.Client,.i v1.Seq,.i v1.Kind,Yi true v1.Pairs,.i ((v1.Over).Lo),.i ((v1.Over).Hi),.i v1.Old,.i 3,.b true],[.i v2.Client,.i v2.Seq,.i v2.Kind,Yi true v2.Pairs,.i ((v2.Over).Lo),.i ((v2.Over).Hi),.i v2.Old,.i 4,.b true]].getD j []),.flat false 2 39 1 (fun j=>[[.i 0,.i 9]].getD j [])]⟩ ?_
 refine Qje 0 (kk:=9) (fz:=false) (ty:=50) (n:=(Qu.q1 v1 v2).length) (vec Qc.e Qc.z (Qu.q1 v1 v2)) (by kernel_rfl) Qh7 (st':=⟨62,[(1,.own 0 9 0 (Qu.q4 v1 v2)),(2,.own 1 2 0 1),(13,.own 0 9 0 (Qu.q4 v1 v2)),(14,.own 1 2 0 1)],[Qb6 (Qu.q1 v1 v2),.flat false 2 39 1 (fun j=>[[.i 0,.i 9]].getD j [])]⟩) (by kernel_rfl) ?_
 refine Qje 1 (kk:=2) (fz:=false) (ty:=39) (n:=(Qu.q3).length) (vec Qb.e Qb.z (Qu.q3)) (by kernel_rfl) Qh7 (st':=⟨62,[(1,.own 0 9 0 (Qu.q4 v1 v2)),(2,.own 1 2 0 ((Qu.q3).length)),(13,.own 0 9 0 (Qu.q4 v1 v2)),(14,.own 1 2 0 ((Qu.q3).length))],[Qb6 (Qu.q1 v1 v2),Qca (Qu.q3)]⟩) (by kernel_rfl) ?_
 refine Qen 1 (kk:=2) (n:=(Qu.q3).length) (ty:=39) (g:=vec Qb.e Qb.z (Qu.q3)) (by kernel_rfl) (st':=⟨62,[(1,.own 0 9 0 (Qu.q4 v1 v2)),(2,.own 1 2 0 ((Qu.q3).length)),(13,.own 0 9 0 (Qu.q4 v1 v2)),(14,.own 1 2 0 ((Qu.q3).length))],[Qb6 (Qu.q1 v1 v2),Qk1 (Qu.q3)]⟩) (by kernel_rfl) ?_
 obtain ⟨v3,h3,H⟩:=ibC H
 refine qI ?_
 refine qF hT 0 hP Qvz (Zn.Qy (t0:=false) (Qu.q1 v1 v2) (Qu.q3) 3 h3) ?_
 refine qE hT 2 (K6 11110 5) ⟨62,[(1,.own 0 9 0 (Qu.q4 v1 v2)),(2,.own 1 2 0 ((Qu.q3).length)),(15,.own 2 2 0 v3.length),(16,.own 0 9 0 (Qu.q4 v1 v2)),(17,.own 1 2 0 ((Qu.q3).length))],[Qb6 (Qu.q1 v1 v2),Qk1 (Qu.q3),Zg v3]⟩ ?_
 obtain ⟨v4,h4,H⟩:=ibC H
 refine qI ?_
 refine qF hT 0 hP Qvz (Zn.Qy (t0:=false) (Qu.q1 v1 v2) (Qu.q3) 9 h4) ?_
 refine qE hT 6 (K6 111110 1) ⟨62,[(1,.own 0 9 0 (Qu.q4 v1 v2)),(2,.own 1 2 0 ((Qu.q3).length)),(3,.own 2 2 0 v3.length),(4,.own 3 2 0 v4.length),(19,.own 3 2 0 v4.length)],[Qb6 (Qu.q1 v1 v2),Qk1 (Qu.q3),Zg v3,Zg v4]⟩ ?_
 refine Jj (Zk:=[.i 3,.i 5,.i 4]) (dst:=some 20) (k':=(K6 111110 2)) [1,2,3,4,19,20] [] hP Qqs (Qbv.Qy 3 5 4) (by kernel_rfl) (Jy _) (.cons (Wj _) (.cons (Wj _) (.cons (Wj _) .nil))) (st':=⟨62,[(1,.own 0 9 0 (Qu.q4 v1 v2)),(2,.own 1 2 0 ((Qu.q3).length)),(3,.own 2 2 0 v3.length),(4,.own 3 2 0 v4.length),(19,.own 3 2 0 v4.length),(20,.d (Qb5 (Qbv 3 5 4)))],[Qb6 (Qu.q1 v1 v2),Qk1 (Qu.q3),Zg v3,Zg v4]⟩) (by kernel_rfl) ?_
 obtain ⟨v5,h5,H⟩:=idC H
 rw [<- h5]
 refine Xl hT 2 (K6 111110 4) ⟨62,[(1,.own 0 9 0 (Qu.q4 v1 v2)),(3,.own 2 2 0 v3.length),(4,.own 3 2 0 v4.length),(19,.own 3 2 0 v4.length),(21,.own 4 7 0 1),(22,.own 1 2 0 ((Qu.q3).length))],[Qb6 (Qu.q1 v1 v2),Qk1 (Qu.q3),Zg v3,Zg v4,.flat false 7 47 1 (fun j=>[We.e v5].getD j [])]⟩ ?_
 refine Qje 4 (kk:=7) (fz:=false) (ty:=47) (n:=([v5]:List We).length) (vec We.e We.z ([v5]:List We)) (by kernel_rfl) Qh7 (st':=⟨62,[(1,.own 0 9 0 (Qu.q4 v1 v2)),(3,.own 2 2 0 v3.length),(4,.own 3 2 0 v4.length),(19,.own 3 2 0 v4.length),(21,.own 4 7 0 (([v5]:List We).length)),(22,.own 1 2 0 ((Qu.q3).length))],[Qb6 (Qu.q1 v1 v2),Qk1 (Qu.q3),Zg v3,Zg v4,Wlk ([v5]:List We)]⟩) (by kernel_rfl) ?_
 obtain ⟨v6,h6,H⟩:=ibC H
 have Xy:∀ (Qvr:Bool),(Qu.j1 Qvr)=some r->AK X 6 ((K6 111111 1)) (Yc X [] (.b r)) ⟨62,[(0,.b Qvr)],[]⟩:=by
  intro Qvr H
  obtain rfl:=Xr H
  exact Qc0 hf hX h0 (.b Qvr) [] an (.d (.v _))
 refine qI ?_
 refine qF hT 0 hP We2 (Qbk.Qy (t0:=false) (t1:=false) v4 ([v5]:List We) (Qu.q3) h6) ?_
 refine qE hT 8 (K6 1111110 4) ⟨62,[(1,.own 0 9 0 (Qu.q4 v1 v2)),(3,.own 2 2 0 v3.length),(4,.own 3 2 0 v4.length),(5,.own 5 2 0 v6.length),(27,.b ((v3.length:Int) == 1))],(Qu.q2 v1 v2 v3 v4 v5 v6)⟩ ?_
 by_cases c7:(v3.length:Int)=1
 ·replace H:=iT c7 H
  rw [eqT c7]
  refine qI ?_
  obtain ⟨h8,H⟩:=iC H
  refine qX hT 1 h8 ?_
  refine qE hT 1 (K6 1111110 7) ⟨62,[(1,.own 0 9 0 (Qu.q4 v1 v2)),(4,.own 3 2 0 v4.length),(5,.own 5 2 0 v6.length),(27,.b true),(30,.ptr 2 2 0 1)],(Qu.q2 v1 v2 v3 v4 v5 v6)⟩ ?_
  refine Qlw hT [1,4,5,27,31] (i:=0) (n:=v3.length) (by first | omega | decide) (k':=(K6 1111110 8)) (st':=⟨62,[(1,.own 0 9 0 (Qu.q4 v1 v2)),(4,.own 3 2 0 v4.length),(5,.own 5 2 0 v6.length),(27,.b true),(31,.i ((v3.getD 0 Qa.z).Val))],(Qu.q2 v1 v2 v3 v4 v5 v6)⟩) (by kernel_rfl) ?_
  refine Xl hT 3 (K6 1111110 11) ⟨62,[(1,.own 0 9 0 (Qu.q4 v1 v2)),(4,.own 3 2 0 v4.length),(5,.own 5 2 0 v6.length),(34,.b (((v3.getD 0 Qa.z).Val) == 1))],(Qu.q2 v1 v2 v3 v4 v5 v6)⟩ ?_
  by_cases c9:((v3.getD 0 Qa.z).Val)=1
  ·replace H:=iT c9 H
   rw [eqT c9]
   refine Xl hT 5 (K6 1111110 16) ⟨62,[(1,.own 0 9 0 (Qu.q4 v1 v2)),(4,.own 3 2 0 v4.length),(5,.own 5 2 0 v6.length),(39,.b ((v4.length:Int) == 1))],(Qu.q2 v1 v2 v3 v4 v5 v6)⟩ ?_
   by_cases c10:(v4.length:Int)=1
   ·replace H:=iT c10 H
    rw [eqT c10]
    refine qI ?_
    obtain ⟨h11,H⟩:=iC H
    refine qX hT 1 h11 ?_
    refine qE hT 1 (K6 1111110 19) ⟨62,[(1,.own 0 9 0 (Qu.q4 v1 v2)),(5,.own 5 2 0 v6.length),(39,.b true),(42,.ptr 3 2 0 1)],(Qu.q2 v1 v2 v3 v4 v5 v6)⟩ ?_
    refine Qlw hT [1,5,39,43] (i:=0) (n:=v4.length) (by first | omega | decide) (k':=(K6 1111110 20)) (st':=⟨62,[(1,.own 0 9 0 (Qu.q4 v1 v2)),(5,.own 5 2 0 v6.length),(39,.b true),(43,.i ((v4.getD 0 Qa.z).Val))],(Qu.q2 v1 v2 v3 v4 v5 v6)⟩) (by kernel_rfl) ?_
    refine Xl hT 3 (K6 1111110 23) ⟨62,[(1,.own 0 9 0 (Qu.q4 v1 v2)),(5,.own 5 2 0 v6.length),(46,.b (((v4.getD 0 Qa.z).Val) == 3))],(Qu.q2 v1 v2 v3 v4 v5 v6)⟩ ?_
    by_cases c12:((v4.getD 0 Qa.z).Val)=3
    ·replace H:=iT c12 H
     rw [eqT c12]
     refine Xl hT 5 (K6 1111110 28) ⟨62,[(1,.own 0 9 0 (Qu.q4 v1 v2)),(5,.own 5 2 0 v6.length),(51,.b ((v6.length:Int) == 1))],(Qu.q2 v1 v2 v3 v4 v5 v6)⟩ ?_
     by_cases c13:(v6.length:Int)=1
     ·replace H:=iT c13 H
      rw [eqT c13]
      refine qI ?_
      obtain ⟨h14,H⟩:=iC H
      refine qX hT 1 h14 ?_
      refine qE hT 1 (K6 1111110 31) ⟨62,[(1,.own 0 9 0 (Qu.q4 v1 v2)),(51,.b true),(54,.ptr 5 2 0 1)],(Qu.q2 v1 v2 v3 v4 v5 v6)⟩ ?_
      refine Qlw hT [1,51,55] (i:=0) (n:=v6.length) (by first | omega | decide) (k':=(K6 1111110 32)) (st':=⟨62,[(1,.own 0 9 0 (Qu.q4 v1 v2)),(51,.b true),(55,.i ((v6.getD 0 Qa.z).Val))],(Qu.q2 v1 v2 v3 v4 v5 v6)⟩) (by kernel_rfl) ?_
      refine Xl hT 3 (K6 1111110 35) ⟨62,[(1,.own 0 9 0 (Qu.q4 v1 v2)),(58,.b (((v6.getD 0 Qa.z).Val) == 7))],(Qu.q2 v1 v2 v3 v4 v5 v6)⟩ ?_
      by_cases c15:((v6.getD 0 Qa.z).Val)=7
      ·replace H:=iT c15 H
       rw [eqT c15]
       refine qI ?_
       obtain ⟨v7,h16,H⟩:=ibC H
       refine qF hT 1 hP We3 (Qau.Qy (t0:=false) (Qu.q1 v1 v2) h16) ?_
       exact qC hT 3 _ [] _ h0 (Xy v7 H)
      replace H:=iF c15 H
      rw [eqF c15]
      exact Yp hT 5 _ [] _ h0 (Xy false H)
     replace H:=iF c13 H
     rw [eqF c13]
     exact Yp hT 12 _ [] _ h0 (Xy false H)
    replace H:=iF c12 H
    rw [eqF c12]
    exact Yp hT 17 _ [] _ h0 (Xy false H)
   replace H:=iF c10 H
   rw [eqF c10]
   exact Yp hT 24 _ [] _ h0 (Xy false H)
  replace H:=iF c9 H
  rw [eqF c9]
  exact Yp hT 29 _ [] _ h0 (Xy false H)
 replace H:=iF c7 H
 rw [eqF c7]
 exact Yp hT 36 _ [] _ h0 (Xy false H)
theorem Yj.Qy (a0:Qm) {r:Bool} (H:Yj a0=some r):Xz Tryz.prog 14 [] [.d (Qe9 a0)] [] (.b r):=by
 refine Xj Tryz.func14 rfl (nt:=69) rfl (lb rfl) fun X hP h0 hX=>?_
 have hT:Xb X.P T:=hP▸tok
 have hf:X.P.funcs[14]? = some Tryz.f14:=hP▸Tryz.func14
 have Xy:∀ (Qjz:Bool),(Yj.j1 a0 Qjz)=some r->AK X 14 ((K14 110 1)) (Yc X [] (.b r)) ⟨69,[(1,.ptr 0 0 0 0),(26,.b Qjz)],[.box 44 (Jd a0)]⟩:=by
  intro Qjz H
  by_cases c4:Qjz=true
  ·replace H:=iT c4 H
   rw [c4]
   refine qI ?_
   obtain rfl:=Xr H
   exact qT hT 5 hf hX h0 [] an (.d (.v _))
  replace H:=iF c4 H
  rw [Jo c4]
  refine Xl hT 9 (K14 111010 0) ⟨69,[(1,.ptr 0 0 0 0),(3,.i 0)],[.box 44 (Jd a0)]⟩ ?_
  have L:∀ n,(∀ (Qq:Int),iter (Yj.step a0) n (.l1 Qq)=some r->AK X 14 ((K14 111010 0)) (Yc X [] (.b r)) ⟨69,[(1,.ptr 0 0 0 0),(3,.i Qq)],[.box 44 (Jd a0)]⟩)/\(∀ (Yk:Int),iter (Yj.step a0) n (.l2 Yk)=some r->AK X 14 ((K14 1111010 0)) (Yc X [] (.b r)) ⟨69,[(1,.ptr 0 0 0 0),(4,.i Yk)],[.box 44 (Jd a0)]⟩):=by
   intro n
   induction n with
   | zero=>exact ⟨fun _ H=>Qal H,fun _ H=>Qal H⟩
   | succ n ih=>
    refine ⟨?_, ?_⟩
    ·intro Qq H
     refine qI ?_
     rcases sB H with ⟨c5,H⟩ | ⟨c5,H⟩
     ·refine qB hT 9 (decide_eq_true c5) ?_
      refine qE hT 9 (K14 11101001000 3) ⟨69,[(1,.ptr 0 0 0 0),(3,.i Qq),(35,.d (Qfa true a0.Held)),(36,.i Qq)],[.box 44 (Jd a0)]⟩ ?_
      obtain ⟨h6,H⟩:=sC H
      have Jj2:∀ (Qsi:Bool),stk (Yj.j2 Qq Qsi) (iter (Yj.step a0) n)=some r->AK X 14 ((K14 1110100100 1)) (Yc X [] (.b r)) ⟨69,[(1,.ptr 0 0 0 0),(3,.i Qq),(52,.b Qsi)],[.box 44 (Jd a0)]⟩:=by
       intro Qsi H
       by_cases c8:Qsi=true
       ·replace H:=sT c8 H
        rw [c8]
        refine qI ?_
        obtain rfl:=Xr H
        exact qT hT 5 hf hX h0 [] an (.d (.v _))
       replace H:=sF c8 H
       rw [Jo c8]
       exact Xl hT 9 _ _ (ih.1 (IntKind.wrap .i64 (Qq+1)) H)
      refine qI ?_
      refine qX hT 0 h6 ?_
      refine qE hT 6 (K14 11101001000 10) ⟨69,[(1,.ptr 0 0 0 0),(3,.i Qq),(43,.b (decide (((((a0.Held.getD Qq.toNat Qr.z).M).Pairs).length:Int) > 20)))],[.box 44 (Jd a0)]⟩ ?_
      refine qI ?_
      rcases sB H with ⟨c7,H⟩ | ⟨c7,H⟩
      ·refine qB hT 0 (decide_eq_true c7) ?_
       exact qE hT 10 _ _ (Jj2 true H)
      refine qB hT 0 (decide_eq_false c7) ?_
      refine qE hT 3 (K14 11101001000 13) ⟨69,[(1,.ptr 0 0 0 0),(3,.i Qq),(43,.b false),(45,.d (Qfa true a0.Held)),(46,.i Qq)],[.box 44 (Jd a0)]⟩ ?_
      refine qI ?_
      refine qX hT 0 h6 ?_
      exact qE hT 6 _ _ (Jj2 (decide ((((a0.Held.getD Qq.toNat Qr.z).Qdk).length:Int) > 30)) H)
     refine qB hT 9 (decide_eq_false c5) ?_
     exact qE hT 9 _ _ (ih.2 0 H)
    intro Yk H
    refine qI ?_
    rcases sB H with ⟨c9,H⟩ | ⟨c9,H⟩
    ·refine qB hT 9 (decide_eq_true c9) ?_
     refine qE hT 9 (K14 111101001000 3) ⟨69,[(1,.ptr 0 0 0 0),(4,.i Yk),(61,.d (Qbg true a0.Log)),(62,.i Yk)],[.box 44 (Jd a0)]⟩ ?_
     obtain ⟨h10,H⟩:=sC H
     refine qI ?_
     refine qX hT 0 h10 ?_
     refine qE hT 6 (K14 11110100100 1) ⟨69,[(1,.ptr 0 0 0 0),(4,.i Yk),(68,.b (decide (((((a0.Log.getD Yk.toNat Qc.z).M).Pairs).length:Int) > 20)))],[.box 44 (Jd a0)]⟩ ?_
     refine qI ?_
     rcases sB H with ⟨c11,H⟩ | ⟨c11,H⟩
     ·refine qB hT 0 (decide_eq_true c11) ?_
      obtain rfl:=Xr H
      exact qT hT 5 hf hX h0 [] an (.d (.v _))
     refine qB hT 0 (decide_eq_false c11) ?_
     exact qE hT 9 _ _ (ih.2 (IntKind.wrap .i64 (Yk+1)) H)
    refine qB hT 9 (decide_eq_false c9) ?_
    obtain rfl:=Xr H
    exact qT hT 6 hf hX h0 [] an (.d (.v _))
  obtain ⟨n,H⟩:=Qbp H
  exact (L n).1 0 H
 refine qI ?_
 rcases iB H with ⟨c1,H⟩ | ⟨c1,H⟩
 ·refine qB hT 13 (decide_eq_true c1) ?_
  exact qE hT 18 _ _ (Xy true H)
 refine qB hT 13 (decide_eq_false c1) ?_
 refine qE hT 6 (K14 1100 11) ⟨69,[(1,.ptr 0 0 0 0),(15,.b (decide ((a0.Log.length:Int) > 40)))],[.box 44 (Jd a0)]⟩ ?_
 refine qI ?_
 rcases iB H with ⟨c2,H⟩ | ⟨c2,H⟩
 ·refine qB hT 0 (decide_eq_true c2) ?_
  exact qE hT 12 _ _ (Xy true H)
 refine qB hT 0 (decide_eq_false c2) ?_
 refine qE hT 6 (K14 1100 17) ⟨69,[(1,.ptr 0 0 0 0),(21,.b (decide ((a0.Qs.length:Int) > 60)))],[.box 44 (Jd a0)]⟩ ?_
 refine qI ?_
 rcases iB H with ⟨c3,H⟩ | ⟨c3,H⟩
 ·refine qB hT 0 (decide_eq_true c3) ?_
  exact qE hT 6 _ _ (Xy true H)
 refine qB hT 0 (decide_eq_false c3) ?_
 exact qE hT 6 _ _ (Xy (decide ((a0.Base.length:Int) > 60)) H)
theorem Jw.Qy {t0:Bool} (a0:List Qm) {r:Bool} (H:Jw a0=some r):Xz Tryz.prog 5 [] [.d (Qbn t0 a0)] [] (.b r):=by
 refine Xj Tryz.func5 rfl (nt:=20) rfl (lb rfl) fun X hP h0 hX=>?_
 have hT:Xb X.P T:=hP▸tok
 have hf:X.P.funcs[5]? = some Tryz.f5:=hP▸Tryz.func5
 refine Xl hT 11 (K5 11010 0) ⟨20,[(0,.d (Qbn t0 a0)),(3,.i 0)],[]⟩ ?_
 have L:∀ n,(∀ (Qq:Int),iter (Jw.step a0) n (.l1 Qq)=some r->AK X 5 ((K5 11010 0)) (Yc X [] (.b r)) ⟨20,[(0,.d (Qbn t0 a0)),(3,.i Qq)],[]⟩):=by
  intro n
  induction n with
  | zero=>exact fun _ H=>Qal H
  | succ n ih=>
   ·intro Qq H
    refine Xl hT 8 (K5 1101000 1) ⟨20,[(0,.d (Qbn t0 a0)),(3,.i Qq),(7,.b (decide (Qq < (a0.length:Int))))],[]⟩ ?_
    by_cases c1:Qq < (a0.length:Int)
    ·replace H:=sT c1 H
     have Xy:∀ (Qrz:Bool),stk (Jw.j1 Qq Qrz) (iter (Jw.step a0) n)=some r->AK X 5 ((K5 110100100 1)) (Yc X [] (.b r)) ⟨20,[(0,.d (Qbn t0 a0)),(3,.i Qq),(19,.b Qrz)],[]⟩:=by
      intro Qrz H
      by_cases c5:Qrz=true
      ·replace H:=sT c5 H
       rw [c5]
       refine qI ?_
       obtain rfl:=Xr H
       exact qT hT 5 hf hX h0 [] an (.d (.v _))
      replace H:=sF c5 H
      rw [Jo c5]
      exact Xl hT 9 _ _ (ih (IntKind.wrap .i64 (Qq+1)) H)
     rw [decide_eq_true c1]
     refine qI ?_
     rcases sB H with ⟨c2,H⟩ | ⟨c2,H⟩
     ·refine qB hT 9 (decide_eq_true c2) ?_
      exact qE hT 8 _ _ (Xy true H)
     refine qB hT 9 (decide_eq_false c2) ?_
     refine qE hT 2 (K5 1101001000 5) ⟨20,[(0,.d (Qbn t0 a0)),(3,.i Qq),(12,.b false),(13,.d (Qbn t0 a0)),(14,.i Qq)],[]⟩ ?_
     obtain ⟨h3,H⟩:=sC H
     refine qI ?_
     refine qX hT 0 h3 ?_
     refine qE hT 1 (K5 1101001000 7) ⟨20,[(0,.d (Qbn t0 a0)),(3,.i Qq),(12,.b false),(16,.d (Qe9 (a0.getD Qq.toNat Qm.z)))],[]⟩ ?_
     obtain ⟨v1,h4,H⟩:=sbC H
     refine qI ?_
     refine qF hT 0 hP We1 (Yj.Qy (a0.getD Qq.toNat Qm.z) h4) ?_
     exact qE hT 3 _ _ (Xy (!v1) H)
    replace H:=sF c1 H
    rw [decide_eq_false c1]
    refine qI ?_
    obtain rfl:=Xr H
    exact qT hT 6 hf hX h0 [] an (.d (.v _))
 obtain ⟨n,H⟩:=Qbp H
 exact (L n) 0 H
theorem Qbj.Qy (a0:Int) (a1:Int) (a2:Int):Xz Tryz.prog 49 [] [.i a0,.i a1,.i a2] [] (.b (Qbj a0 a1 a2)):=by
 obtain ⟨r,H⟩:∃ r,Qbj a0 a1 a2=r:=⟨_,rfl⟩
 rw [H]
 refine Xj Tryz.func49 rfl (nt:=15) rfl (lb rfl) fun X hP h0 hX=>?_
 have hT:Xb X.P T:=hP▸tok
 have hf:X.P.funcs[49]? = some Tryz.f49:=hP▸Tryz.func49
 have Xy:∀ (Qh9:Bool),(Qbj.j1 Qh9)=r->AK X 49 ((K49 11 1)) (Yc X [] (.b r)) ⟨15,[(6,.b Qh9)],[]⟩:=by
  intro Qh9 H
  obtain rfl:=H
  exact Qc0 hf hX h0 (.b Qh9) [] an (.d (.v _))
 refine qI ?_
 rcases iB H with ⟨c1,H⟩ | ⟨c1,H⟩
 ·refine qB hT 10 (decide_eq_true c1) ?_
  exact qE hT 6 _ _ (Xy (decide (a0<=a2)) H)
 refine qB hT 10 (decide_eq_false c1) ?_
 exact qE hT 6 _ _ (Xy false H)
theorem Qec.Qy (a0:Int):Xz Tryz.prog 51 [] [.i a0] [] (.b (Qec a0)):=by
 obtain ⟨r,H⟩:∃ r,Qec a0=r:=⟨_,rfl⟩
 rw [H]
 refine Xj Tryz.func51 rfl (nt:=5) rfl (lb rfl) fun X hP h0 hX=>?_
 have hT:Xb X.P T:=hP▸tok
 have hf:X.P.funcs[51]? = some Tryz.f51:=hP▸Tryz.func51
 refine qI ?_
 refine qF hT 7 hP Qfh (Qbj.Qy a0 0 1099511627775) ?_
 obtain rfl:=H
 exact qT hT 2 hf hX h0 [] an (.d (.v _))
theorem Qa5.Qy (a0:Qm):Xz Tryz.prog 53 [] [.d (Qe9 a0)] [Qca (Qa5 a0)] (.own 0 2 0 ((Qa5 a0).length)):=by
 obtain ⟨r,H⟩:∃ r,Qa5 a0=r:=⟨_,rfl⟩
 rw [H]
 refine Xj Tryz.func53 rfl (nt:=6) rfl (lb rfl) fun X hP h0 hX=>?_
 have hT:Xb X.P T:=hP▸tok
 have hf:X.P.funcs[53]? = some Tryz.f53:=hP▸Tryz.func53
 refine Xl hT 12 (K53 11 1) ⟨6,[(2,.own 1 2 0 1)],[.box 44 (Jd a0),.flat false 2 39 1 (fun j=>[Qb.e a0.Keys].getD j [])]⟩ ?_
 refine Qje 1 (kk:=2) (fz:=false) (ty:=39) (n:=([a0.Keys]:List Qb).length) (vec Qb.e Qb.z ([a0.Keys]:List Qb)) (by kernel_rfl) Qh7 (st':=⟨6,[(2,.own 1 2 0 (([a0.Keys]:List Qb).length))],[.box 44 (Jd a0),Qca ([a0.Keys]:List Qb)]⟩) (by kernel_rfl) ?_
 obtain rfl:=H
 exact Qc0 hf hX h0 (.own 1 2 0 (([a0.Keys]:List Qb).length)) [1] (ac (Qat Qb.nl) an) (.own _ _ _ _)
theorem Qap.Qy {t0:Bool} {t1:Bool} (a0:List Qa) (a1:List Qb) {r:List Qa} (H:Qap a0 a1=some r):Xz Tryz.prog 52 [] [.d (Yi t0 a0),.d (Yx t1 a1)] [Zg r] (.own 0 2 0 r.length):=by
 refine Xj Tryz.func52 rfl (nt:=32) rfl (lb rfl) fun X hP h0 hX=>?_
 have hT:Xb X.P T:=hP▸tok
 have hf:X.P.funcs[52]? = some Tryz.f52:=hP▸Tryz.func52
 refine qI ?_
 obtain ⟨v1,h1,H⟩:=ibC H
 have Xy:∀ (Qrx:Bool),(Qap.j1 a0 a1 Qrx)=some r->AK X 52 ((K52 110 1)) (Yc X [Zg r] (.own 0 2 0 r.length)) ⟨32,[(0,.d (Yi t0 a0)),(1,.d (Yx t1 a1)),(15,.b Qrx)],[]⟩:=by
  intro Qrx H
  by_cases c4:Qrx=true
  ·replace H:=iT c4 H
   rw [c4]
   refine Xl hT 5 (K52 11010 1) ⟨32,[(4,.ns)],[]⟩ ?_
   refine Qdj [4] 4 2 56 (vec Qa.e Qa.z []) (st':=⟨32,[(4,.own 0 2 0 0)],[Zg ([]:List Qa)]⟩) (by kernel_rfl) (by kernel_rfl) ?_
   obtain rfl:=Xr H
   exact Qc0 hf hX h0 (.own 0 2 0 0) [0] (ac (Qat Qa.nl) an) (.own _ _ _ _)
  replace H:=iF c4 H
  rw [Jo c4]
  refine Xl hT 15 (K52 1111010 0) ⟨32,[(1,.d (Yx t1 a1)),(5,.ns),(16,.d (Yi t0 a0)),(17,.i (a0.length:Int)),(18,.i 0)],[]⟩ ?_
  refine Qdj [1,5,16,17,18] 5 2 56 (vec Qa.e Qa.z []) (st':=⟨32,[(1,.d (Yx t1 a1)),(5,.own 0 2 0 0),(16,.d (Yi t0 a0)),(17,.i (a0.length:Int)),(18,.i 0)],[Zg ([]:List Qa)]⟩) (by kernel_rfl) (by kernel_rfl) ?_
  have L:∀ n,(∀ (Qdl:Int) (Qx:List Qa),iter (Qap.step a0 a1) n (.l1 Qdl Qx)=some r->AK X 52 ((K52 1111010 0)) (Yc X [Zg r] (.own 0 2 0 r.length)) ⟨32,[(1,.d (Yx t1 a1)),(5,.own 0 2 0 Qx.length),(16,.d (Yi t0 a0)),(17,.i (a0.length:Int)),(18,.i Qdl)],[Zg Qx]⟩):=by
   intro n
   induction n with
   | zero=>exact fun _ _ H=>Qal H
   | succ n ih=>
    ·intro Qdl Qx H
     refine qI ?_
     rcases sB H with ⟨c5,H⟩ | ⟨c5,H⟩
     ·refine qB hT 5 (decide_eq_true c5) ?_
      refine qE hT 6 (K52 1111010011000 0) ⟨32,[(1,.d (Yx t1 a1)),(5,.own 0 2 0 Qx.length),(16,.d (Yi t0 a0)),(17,.i (a0.length:Int)),(18,.i Qdl)],[Zg Qx]⟩ ?_
      obtain ⟨h6,H⟩:=sC H
      refine qI ?_
      refine qX hT 0 h6 ?_
      refine qE hT 9 (K52 11110100110010 3) ⟨32,[(1,.d (Yx t1 a1)),(5,.own 0 2 0 Qx.length),(7,.ptr 1 0 0 0),(16,.d (Yi t0 a0)),(17,.i (a0.length:Int)),(18,.i Qdl),(22,.d (Yx t1 a1)),(24,.i ((a0.getD Qdl.toNat Qa.z).Key))],[Zg Qx,.box 56 (Qe8 (a0.getD Qdl.toNat Qa.z))]⟩ ?_
      obtain ⟨v3,h7,H⟩:=sbC H
      have Jj2:∀ (Qfy:List Qa),stk (Qap.j2 Qdl Qfy) (iter (Qap.step a0 a1) n)=some r->AK X 52 ((K52 1111010011 1)) (Yc X [Zg r] (.own 0 2 0 r.length)) ⟨32,[(1,.d (Yx t1 a1)),(5,.own 0 2 0 Qfy.length),(16,.d (Yi t0 a0)),(17,.i (a0.length:Int)),(18,.i Qdl)],[Zg Qfy]⟩:=by
       intro Qfy H
       exact Xl hT 5 _ _ (ih (IntKind.wrap .i64 (Qdl+1)) Qfy H)
      refine qI ?_
      refine qF hT 0 hP Qnv (Qf9.Qy (t0:=t1) a1 ((a0.getD Qdl.toNat Qa.z).Key) h7) ?_
      refine qE hT 1 (K52 1111010011001 1) ⟨32,[(1,.d (Yx t1 a1)),(5,.own 0 2 0 Qx.length),(7,.ptr 1 0 0 0),(16,.d (Yi t0 a0)),(17,.i (a0.length:Int)),(18,.i Qdl),(25,.b v3)],[Zg Qx,.box 56 (Qe8 (a0.getD Qdl.toNat Qa.z))]⟩ ?_
      refine qI ?_
      rcases sB H with ⟨c8,H⟩ | ⟨c8,H⟩
      ·refine qB hT 0 (c8) ?_
       refine qE hT 5 (K52 111101001100110 3) ⟨32,[(1,.d (Yx t1 a1)),(16,.d (Yi t0 a0)),(17,.i (a0.length:Int)),(18,.i Qdl),(26,.own 0 2 0 Qx.length),(28,.own 2 2 0 1)],[Zg Qx,.box 56 (Qe8 (a0.getD Qdl.toNat Qa.z)),.flat false 2 56 1 (fun j=>[Qa.e (a0.getD Qdl.toNat Qa.z)].getD j [])]⟩ ?_
       obtain ⟨h9,H⟩:=sC H
       refine Qcj (id:=0) (kk:=2) (by':=16) (t:=41) (e:=56) (z:=[.int .i64 0,.int .i64 0]) (dst:=some 29) (id2:=2) (e2:=56) (fz:=false) (k':=(K52 111101001100110 4)) hT Qa.e Qa.z Qx (a0.getD Qdl.toNat Qa.z) [1,16,17,18,29] (by kernel_rfl) (by kernel_rfl) (by kernel_rfl) (by kernel_rfl) (by kernel_rfl) (by kernel_rfl) (by kernel_rfl) h9 (by omega) (st':=⟨32,[(1,.d (Yx t1 a1)),(16,.d (Yi t0 a0)),(17,.i (a0.length:Int)),(18,.i Qdl),(29,.own 3 2 0 ((Qx ++ [(a0.getD Qdl.toNat Qa.z)]).length))],[.gone,.box 56 (Qe8 (a0.getD Qdl.toNat Qa.z)),.flat false 2 56 1 (fun j=>[Qa.e (a0.getD Qdl.toNat Qa.z)].getD j []),Zg (Qx ++ [(a0.getD Qdl.toNat Qa.z)])]⟩) (by kernel_rfl) ?_
       exact Yp hT 3 _ [3] _ h0 (Jj2 (Qx ++ [(a0.getD Qdl.toNat Qa.z)]) H)
      refine qB hT 0 (Jo c8) ?_
      exact qC hT 3 _ [0] _ h0 (Jj2 Qx H)
     refine qB hT 5 (decide_eq_false c5) ?_
     obtain rfl:=Xr H
     exact qT hT 7 hf hX h0 [0] (ac (Qat Qa.nl) an) (.own _ _ _ _)
  refine Qg4 [0] ⟨32,[(1,.d (Yx t1 a1)),(5,.own 0 2 0 ([]:List Qa).length),(16,.d (Yi t0 a0)),(17,.i (a0.length:Int)),(18,.i 0)],[Zg ([]:List Qa)]⟩ h0 ?_
  obtain ⟨n,H⟩:=Qbp H
  exact (L n) 0 ([]:List Qa) H
 refine qF hT 8 hP Qie (Xn.Qy (t0:=t0) a0 h1) ?_
 refine qE hT 2 (K52 1100 4) ⟨32,[(0,.d (Yi t0 a0)),(1,.d (Yx t1 a1)),(11,.b (!v1))],[]⟩ ?_
 refine qI ?_
 rcases iB H with ⟨c2,H⟩ | ⟨c2,H⟩
 ·refine qB hT 0 (show (!v1)=false by rw [c2];rfl) ?_
  refine qE hT 1 (K52 1100 5) ⟨32,[(0,.d (Yi t0 a0)),(1,.d (Yx t1 a1)),(11,.b false),(12,.d (Yx t1 a1))],[]⟩ ?_
  obtain ⟨v2,h3,H⟩:=ibC H
  refine qI ?_
  refine qF hT 0 hP Qkq (Zz.Qy (t0:=t1) a1 h3) ?_
  exact qE hT 3 _ _ (Xy (!v2) H)
 refine qB hT 0 (show (!v1)=true by rw [Jo c2];rfl) ?_
 exact qE hT 5 _ _ (Xy true H)
abbrev Qeu.q1 (a0:Qo) (a1:Qo):=([Zt a0.Client a1.Client,Zt a0.Seq a1.Seq]:List Int)
theorem Qeu.Qy (a0:Qo) (a1:Qo) {r:Int} (H:Qeu a0 a1=some r):Xz Tryz.prog 86 [] [.d (Qfr a0),.d (Qfr a1)] [] (.i r):=by
 refine Xj Tryz.func86 rfl (nt:=17) rfl (lb rfl) fun X hP h0 hX=>?_
 have hT:Xb X.P T:=hP▸tok
 have hf:X.P.funcs[86]? = some Tryz.f86:=hP▸Tryz.func86
 refine Xl hT 7 (K86 11 0) ⟨17,[(2,.ptr 0 0 0 0),(3,.ptr 1 0 0 0)],[.box 125 (Qi7 a0),.box 125 (Qi7 a1)]⟩ ?_
 refine Qak (hP▸mixed) 9 [2,3] (sm [.ptr 0 0 0 0,.i a0.Client,.ptr 1 0 0 0,.i a1.Client,.i (Zt a0.Client a1.Client),.ptr 0 0 0 1,.i a0.Seq,.ptr 1 0 0 1,.i a1.Seq]) (Qe (Qe (Qe (Qe (Jr (Qe (Qe (Qe (Qe op0 hT) hT) hT) hT) (fun R rest h=>Zl (Zk:=[.i a0.Client,.i a1.Client]) (dst:=some 9) hP Qjh (Zt.Qy a0.Client a1.Client) (by kernel_rfl) (.cons (Wj _) (.cons (Wj _) .nil)) (by kernel_rfl) h)) hT) hT) hT) hT) ?_
 refine qI ?_
 refine qF hT 0 hP Qjh (Zt.Qy a0.Seq a1.Seq) ?_
 refine qE hT 1 (K86 110 11) ⟨17,[(15,.own 2 1 0 2)],[.box 125 (Qi7 a0),.box 125 (Qi7 a1),.flat false 1 3 2 (fun j=>[[.i (Zt a0.Client a1.Client)],[.i (Zt a0.Seq a1.Seq)]].getD j [])]⟩ ?_
 refine Qje 2 (kk:=1) (fz:=false) (ty:=3) (n:=(Qeu.q1 a0 a1).length) (vec (eI .i64) 0 (Qeu.q1 a0 a1)) (by kernel_rfl) Qh7 (st':=⟨17,[(15,.own 2 1 0 ((Qeu.q1 a0 a1).length))],[.box 125 (Qi7 a0),.box 125 (Qi7 a1),eR3 (Qeu.q1 a0 a1)]⟩) (by kernel_rfl) ?_
 obtain ⟨v1,h1,H⟩:=ibC H
 refine qI ?_
 refine qF hT 0 hP Qv8 (Qa8.Qy (t0:=false) (Qeu.q1 a0 a1) h1) ?_
 obtain rfl:=Xr H
 exact qT hT 2 hf hX h0 [] an (.d (.v _))
abbrev Xt.q1 (a0:Qm) (Xd:Int):=(a0.Qs.getD Xd.toNat Qo.z)
abbrev Xt.p0 (a0:Qm):List (Nat × AV):=[(1,.ptr 0 0 0 0),(6,.d (Qej true a0.Qs)),(7,.i (a0.Qs.length:Int))]
theorem Xt.Qy (a0:Qm) {r:Bool} (H:Xt a0=some r):Xz Tryz.prog 54 [] [.d (Qe9 a0)] [] (.b r):=by
 refine Xj Tryz.func54 rfl (nt:=45) rfl (lb rfl) fun X hP h0 hX=>?_
 have hT:Xb X.P T:=hP▸tok
 have hf:X.P.funcs[54]? = some Tryz.f54:=hP▸Tryz.func54
 refine Xl hT 15 (K54 11010 0) ⟨45,(Xt.p0 a0++[(8,.i 0)]),[.box 44 (Jd a0)]⟩ ?_
 have L:∀ n,(∀ (Xd:Int),iter (Xt.step a0) n (.l1 Xd)=some r->AK X 54 ((K54 11010 0)) (Yc X [] (.b r)) ⟨45,(Xt.p0 a0++[(8,.i Xd)]),[.box 44 (Jd a0)]⟩):=by
  intro n
  induction n with
  | zero=>exact fun _ H=>Qal H
  | succ n ih=>
   ·intro Xd H
    refine qI ?_
    rcases sB H with ⟨c1,H⟩ | ⟨c1,H⟩
    ·refine qB hT 5 (decide_eq_true c1) ?_
     refine qE hT 7 (K54 11010011000 1) ⟨45,(Xt.p0 a0++[(8,.i Xd),(10,.i Xd)]),[.box 44 (Jd a0)]⟩ ?_
     obtain ⟨h2,H⟩:=sC H
     have Xy:∀ (Qr8:Bool),stk (Xt.j1 Xd Qr8) (iter (Xt.step a0) n)=some r->AK X 54 ((K54 11010011001 1)) (Yc X [] (.b r)) ⟨45,(Xt.p0 a0++[(8,.i Xd),(43,.b Qr8)]),[.box 44 (Jd a0)]⟩:=by
      intro Qr8 H
      by_cases c9:Qr8=true
      ·replace H:=sT c9 H
       rw [c9]
       refine qI ?_
       obtain rfl:=Xr H
       exact qT hT 5 hf hX h0 [] an (.d (.v _))
      replace H:=sF c9 H
      rw [Jo c9]
      exact Xl hT 8 _ _ (ih (IntKind.wrap .i64 (Xd+1)) H)
     refine qI ?_
     refine qX hT 0 h2 ?_
     refine qE hT 6 (K54 11010011001 0) ⟨45,[(1,.ptr 0 0 0 0),(3,.i Xd),(4,.ptr 1 0 0 0),(6,.d (Qej true a0.Qs)),(7,.i (a0.Qs.length:Int)),(8,.i Xd)],[.box 44 (Jd a0),.box 125 (Qi7 (Xt.q1 a0 Xd))]⟩ ?_
     by_cases c3:(Qbj ((Xt.q1 a0 Xd).Client) 1 1048576)=true
     ·replace H:=sT c3 H
      by_cases c4:(Qbj ((Xt.q1 a0 Xd).Seq) 1 1073741824)=true
      ·replace H:=sT c4 H
       by_cases c5:(Qec ((Xt.q1 a0 Xd).Time))=true
       ·replace H:=sT c5 H
        by_cases c6:Xd > 0
        ·replace H:=sT c6 H
         obtain ⟨h7,H⟩:=sC H
         obtain ⟨v1,h8,H⟩:=sbC H
         refine Qak (hP▸mixed) 31 [1,3,4,6,7,8] (sm [.ptr 1 0 0 0,.i ((Xt.q1 a0 Xd).Client),.b true,.b false,.b false,.ptr 1 0 0 1,.i ((Xt.q1 a0 Xd).Seq),.b true,.b false,.b false,.b false,.ptr 1 0 0 2,.i ((Xt.q1 a0 Xd).Time),.b true,.b false,.b false,.b false,.i Xd,.b true,.b true,.ptr 0 0 0 9,.d (Qej true a0.Qs),.i Xd,.i (IntKind.wrap .i64 (Xd - 1)),.d (Qlx true a0.Qs ((IntKind.wrap .i64 (Xd - 1)).toNat) 0),.d (Qfr (a0.Qs.getD ((IntKind.wrap .i64 (Xd - 1)).toNat) Qo.z)),.d (Qfr (Xt.q1 a0 Xd)),.i v1,.b (decide (v1>=0)),.b (decide (v1>=0)),.b (decide (v1>=0))]) (Qe (Qe (Qe (Jr (Qe (Qe (Jr (Qe (Qe (Qe (Qe (Qe (opV (Qe (Qe (Qe (Qe (Jr (Qe (Qe (Qe (Qe (Qe (Jr (Qe (Qe (Qe (Qe (Jr (Qe (Qe op0 hT) hT) (fun R rest h=>Zl (Zk:=[.i ((Xt.q1 a0 Xd).Client),.i 1,.i 1048576]) (dst:=some 15) hP Qfh (by have q:=Qbj.Qy ((Xt.q1 a0 Xd).Client) 1 1048576;rw [c3] at q;exact q) (by kernel_rfl) (.cons (Wj _) (.cons (Wj _) (.cons (Wj _) .nil))) (by kernel_rfl) h)) hT) hT) hT) hT) (fun R rest h=>Zl (Zk:=[.i ((Xt.q1 a0 Xd).Seq),.i 1,.i 1073741824]) (dst:=some 20) hP Qfh (by have q:=Qbj.Qy ((Xt.q1 a0 Xd).Seq) 1 1073741824;rw [c4] at q;exact q) (by kernel_rfl) (.cons (Wj _) (.cons (Wj _) (.cons (Wj _) .nil))) (by kernel_rfl) h)) hT) hT) hT) hT) hT) (fun R rest h=>Zl (Zk:=[.i ((Xt.q1 a0 Xd).Time)]) (dst:=some 26) hP Qns (by have q:=Qec.Qy ((Xt.q1 a0 Xd).Time);rw [c5] at q;exact q) (by kernel_rfl) (.cons (Wj _) .nil) (by kernel_rfl) h)) hT) hT) hT) hT) hT 31 (.b (decide (Xd > 0))) (.b true) (by rw [decide_eq_true c6]<;>rfl)) hT) hT) hT) hT) hT) (fun R rest h=>Yf hT (i:=IntKind.wrap .i64 (Xd - 1)) (n:=(a0.Qs.length:Int)) h7.1 h7.2 (by kernel_rfl) h)) hT) hT) (fun R rest h=>Zl (Zk:=[.d (Qfr (a0.Qs.getD ((IntKind.wrap .i64 (Xd - 1)).toNat) Qo.z)),.d (Qfr (Xt.q1 a0 Xd))]) (dst:=some 40) hP Qwc (Qeu.Qy (a0.Qs.getD ((IntKind.wrap .i64 (Xd - 1)).toNat) Qo.z) (Xt.q1 a0 Xd) h8) (by kernel_rfl) (.cons (Wj _) (.cons (Wj _) .nil)) (by kernel_rfl) h)) hT) hT) hT) ?_
         exact Yp hT 1 _ [0] _ h0 (Xy (decide (v1>=0)) H)
        replace H:=sF c6 H
        refine Qak (hP▸mixed) 31 [1,3,4,6,7,8] (sm [.ptr 1 0 0 0,.i ((Xt.q1 a0 Xd).Client),.b true,.b false,.b false,.ptr 1 0 0 1,.i ((Xt.q1 a0 Xd).Seq),.b true,.b false,.b false,.b false,.ptr 1 0 0 2,.i ((Xt.q1 a0 Xd).Time),.b true,.b false,.b false,.b false,.i Xd,.b false,.b false,.Qn [],.Qn [],.Qn [],.Qn [],.Qn [],.Qn [],.Qn [],.Qn [],.Qn [],.b false,.b false]) (Qe (Qe (Qe (Qe (Qe (Qe (Qe (Qe (Qe (Qe (Qe (Qe (opV (Qe (Qe (Qe (Qe (Jr (Qe (Qe (Qe (Qe (Qe (Jr (Qe (Qe (Qe (Qe (Jr (Qe (Qe op0 hT) hT) (fun R rest h=>Zl (Zk:=[.i ((Xt.q1 a0 Xd).Client),.i 1,.i 1048576]) (dst:=some 15) hP Qfh (by have q:=Qbj.Qy ((Xt.q1 a0 Xd).Client) 1 1048576;rw [c3] at q;exact q) (by kernel_rfl) (.cons (Wj _) (.cons (Wj _) (.cons (Wj _) .nil))) (by kernel_rfl) h)) hT) hT) hT) hT) (fun R rest h=>Zl (Zk:=[.i ((Xt.q1 a0 Xd).Seq),.i 1,.i 1073741824]) (dst:=some 20) hP Qfh (by have q:=Qbj.Qy ((Xt.q1 a0 Xd).Seq) 1 1073741824;rw [c4] at q;exact q) (by kernel_rfl) (.cons (Wj _) (.cons (Wj _) (.cons (Wj _) .nil))) (by kernel_rfl) h)) hT) hT) hT) hT) hT) (fun R rest h=>Zl (Zk:=[.i ((Xt.q1 a0 Xd).Time)]) (dst:=some 26) hP Qns (by have q:=Qec.Qy ((Xt.q1 a0 Xd).Time);rw [c5] at q;exact q) (by kernel_rfl) (.cons (Wj _) .nil) (by kernel_rfl) h)) hT) hT) hT) hT) hT 31 (.b (decide (Xd > 0))) (.b false) (by rw [decide_eq_false c6]<;>rfl)) hT) hT) hT) hT) hT) hT) hT) hT) hT) hT) hT) hT) ?_
        exact Yp hT 1 _ [0] _ h0 (Xy false H)
       replace H:=sF c5 H
       refine Qak (hP▸mixed) 31 [1,3,4,6,7,8] (sm [.ptr 1 0 0 0,.i ((Xt.q1 a0 Xd).Client),.b true,.b false,.b false,.ptr 1 0 0 1,.i ((Xt.q1 a0 Xd).Seq),.b true,.b false,.b false,.b false,.ptr 1 0 0 2,.i ((Xt.q1 a0 Xd).Time),.b false,.b true,.b true,.b true,.Qn [],.Qn [],.Qn [],.Qn [],.Qn [],.Qn [],.Qn [],.Qn [],.Qn [],.Qn [],.Qn [],.Qn [],.Qn [],.b true]) (Qe (Qe (Qe (Qe (Qe (Qe (Qe (Qe (Qe (Qe (Qe (Qe (Qe (Qe (Qe (Qe (Qe (Jr (Qe (Qe (Qe (Qe (Qe (Jr (Qe (Qe (Qe (Qe (Jr (Qe (Qe op0 hT) hT) (fun R rest h=>Zl (Zk:=[.i ((Xt.q1 a0 Xd).Client),.i 1,.i 1048576]) (dst:=some 15) hP Qfh (by have q:=Qbj.Qy ((Xt.q1 a0 Xd).Client) 1 1048576;rw [c3] at q;exact q) (by kernel_rfl) (.cons (Wj _) (.cons (Wj _) (.cons (Wj _) .nil))) (by kernel_rfl) h)) hT) hT) hT) hT) (fun R rest h=>Zl (Zk:=[.i ((Xt.q1 a0 Xd).Seq),.i 1,.i 1073741824]) (dst:=some 20) hP Qfh (by have q:=Qbj.Qy ((Xt.q1 a0 Xd).Seq) 1 1073741824;rw [c4] at q;exact q) (by kernel_rfl) (.cons (Wj _) (.cons (Wj _) (.cons (Wj _) .nil))) (by kernel_rfl) h)) hT) hT) hT) hT) hT) (fun R rest h=>Zl (Zk:=[.i ((Xt.q1 a0 Xd).Time)]) (dst:=some 26) hP Qns (by have q:=Qec.Qy ((Xt.q1 a0 Xd).Time);rw [Jo c5] at q;exact q) (by kernel_rfl) (.cons (Wj _) .nil) (by kernel_rfl) h)) hT) hT) hT) hT) hT) hT) hT) hT) hT) hT) hT) hT) hT) hT) hT) hT) hT) ?_
       exact Yp hT 1 _ [0] _ h0 (Xy true H)
      replace H:=sF c4 H
      refine Qak (hP▸mixed) 31 [1,3,4,6,7,8] (sm [.ptr 1 0 0 0,.i ((Xt.q1 a0 Xd).Client),.b true,.b false,.b false,.ptr 1 0 0 1,.i ((Xt.q1 a0 Xd).Seq),.b false,.b true,.b true,.b true,.Qn [],.Qn [],.Qn [],.Qn [],.b true,.b true,.Qn [],.Qn [],.Qn [],.Qn [],.Qn [],.Qn [],.Qn [],.Qn [],.Qn [],.Qn [],.Qn [],.Qn [],.Qn [],.b true]) (Qe (Qe (Qe (Qe (Qe (Qe (Qe (Qe (Qe (Qe (Qe (Qe (Qe (Qe (Qe (Qe (Qe (Qe (Qe (Qe (Qe (Qe (Qe (Jr (Qe (Qe (Qe (Qe (Jr (Qe (Qe op0 hT) hT) (fun R rest h=>Zl (Zk:=[.i ((Xt.q1 a0 Xd).Client),.i 1,.i 1048576]) (dst:=some 15) hP Qfh (by have q:=Qbj.Qy ((Xt.q1 a0 Xd).Client) 1 1048576;rw [c3] at q;exact q) (by kernel_rfl) (.cons (Wj _) (.cons (Wj _) (.cons (Wj _) .nil))) (by kernel_rfl) h)) hT) hT) hT) hT) (fun R rest h=>Zl (Zk:=[.i ((Xt.q1 a0 Xd).Seq),.i 1,.i 1073741824]) (dst:=some 20) hP Qfh (by have q:=Qbj.Qy ((Xt.q1 a0 Xd).Seq) 1 1073741824;rw [Jo c4] at q;exact q) (by kernel_rfl) (.cons (Wj _) (.cons (Wj _) (.cons (Wj _) .nil))) (by kernel_rfl) h)) hT) hT) hT) hT) hT) hT) hT) hT) hT) hT) hT) hT) hT) hT) hT) hT) hT) hT) hT) hT) hT) hT) hT) ?_
      exact Yp hT 1 _ [0] _ h0 (Xy true H)
     replace H:=sF c3 H
     refine Qak (hP▸mixed) 31 [1,3,4,6,7,8] (sm [.ptr 1 0 0 0,.i ((Xt.q1 a0 Xd).Client),.b false,.b true,.b true,.Qn [],.Qn [],.Qn [],.Qn [],.b true,.b true,.Qn [],.Qn [],.Qn [],.Qn [],.b true,.b true,.Qn [],.Qn [],.Qn [],.Qn [],.Qn [],.Qn [],.Qn [],.Qn [],.Qn [],.Qn [],.Qn [],.Qn [],.Qn [],.b true]) (Qe (Qe (Qe (Qe (Qe (Qe (Qe (Qe (Qe (Qe (Qe (Qe (Qe (Qe (Qe (Qe (Qe (Qe (Qe (Qe (Qe (Qe (Qe (Qe (Qe (Qe (Qe (Qe (Jr (Qe (Qe op0 hT) hT) (fun R rest h=>Zl (Zk:=[.i ((Xt.q1 a0 Xd).Client),.i 1,.i 1048576]) (dst:=some 15) hP Qfh (by have q:=Qbj.Qy ((Xt.q1 a0 Xd).Client) 1 1048576;rw [Jo c3] at q;exact q) (by kernel_rfl) (.cons (Wj _) (.cons (Wj _) (.cons (Wj _) .nil))) (by kernel_rfl) h)) hT) hT) hT) hT) hT) hT) hT) hT) hT) hT) hT) hT) hT) hT) hT) hT) hT) hT) hT) hT) hT) hT) hT) hT) hT) hT) hT) hT) ?_
     exact Yp hT 1 _ [0] _ h0 (Xy true H)
    refine qB hT 5 (decide_eq_false c1) ?_
    obtain rfl:=Xr H
    exact qT hT 6 hf hX h0 [] an (.d (.v _))
 obtain ⟨n,H⟩:=Qbp H
 exact (L n) 0 H
abbrev Qbd.q1 (a0:We) (Qaw:Int):=(⟨(a0.Pairs.getD Qaw.toNat Qa.z).Key,IntKind.wrap .i64 (((a0.Pairs.getD Qaw.toNat Qa.z).Key)+1)⟩:Qb)
theorem Qbd.Qy (a0:We) {r:List Qb} (H:Qbd a0=some r):Xz Tryz.prog 36 [] [.d (Qb5 a0)] [] (.d (Yx true r)):=by
 refine Xj Tryz.func36 rfl (nt:=40) rfl (lb rfl) fun X hP h0 hX=>?_
 have hT:Xb X.P T:=hP▸tok
 have hf:X.P.funcs[36]? = some Tryz.f36:=hP▸Tryz.func36
 refine qI ?_
 obtain ⟨v1,h1,H⟩:=ibC H
 refine qF hT 9 hP Qid (Qbx.Qy a0 h1) ?_
 refine qE hT 2 (K36 110 1) ⟨40,[(1,.ptr 0 0 0 0),(10,.b (!v1))],[.box 47 (Qaj a0)]⟩ ?_
 refine qI ?_
 rcases iB H with ⟨c2,H⟩ | ⟨c2,H⟩
 ·refine qB hT 0 (show (!v1)=false by rw [c2];rfl) ?_
  refine qE hT 9 (K36 1110 1) ⟨40,[(1,.ptr 0 0 0 0),(13,.b (a0.Kind == 2))],[.box 47 (Qaj a0)]⟩ ?_
  by_cases c3:a0.Kind=2
  ·replace H:=iT c3 H
   rw [eqT c3]
   refine Xl hT 8 (K36 111010 1) ⟨40,[(2,.own 1 2 0 1)],[.box 47 (Qaj a0),.flat false 2 39 1 (fun j=>[Qb.e a0.Over].getD j [])]⟩ ?_
   refine Qje 1 (kk:=2) (fz:=false) (ty:=39) (n:=([a0.Over]:List Qb).length) (vec Qb.e Qb.z ([a0.Over]:List Qb)) (by kernel_rfl) Qh7 (st':=⟨40,[(2,.own 1 2 0 (([a0.Over]:List Qb).length))],[.box 47 (Qaj a0),Qca ([a0.Over]:List Qb)]⟩) (by kernel_rfl) ?_
   refine Qen 1 (kk:=2) (n:=([a0.Over]:List Qb).length) (ty:=39) (g:=vec Qb.e Qb.z ([a0.Over]:List Qb)) (by kernel_rfl) (st':=⟨40,[(2,.own 1 2 0 (([a0.Over]:List Qb).length))],[.box 47 (Qaj a0),Qk1 ([a0.Over]:List Qb)]⟩) (by kernel_rfl) ?_
   refine Qg3 (av:=.own 1 2 0 1) (y:=Yx true ([a0.Over]:List Qb)) [2] 2 (st':=⟨40,[(2,.d (Yx true ([a0.Over]:List Qb)))],[.box 47 (Qaj a0),Qk1 ([a0.Over]:List Qb)]⟩) (by kernel_rfl) (.own (ty:=39) (k:=2) (by kernel_rfl)) (by kernel_rfl) ?_
   obtain rfl:=Xr H
   exact Qc0 hf hX h0 (.d (Yx true ([a0.Over]:List Qb))) [] an (.d (.sl fun _ _=>Qb.nl _))
  replace H:=iF c3 H
  rw [eqF c3]
  refine Xl hT 16 (K36 11111010 0) ⟨40,[(3,.ns),(18,.d (Yi true a0.Pairs)),(19,.i (a0.Pairs.length:Int)),(20,.i 0)],[.box 47 (Qaj a0)]⟩ ?_
  refine Qdj [3,18,19,20] 3 2 39 (vec Qb.e Qb.z []) (st':=⟨40,[(3,.own 1 2 0 0),(18,.d (Yi true a0.Pairs)),(19,.i (a0.Pairs.length:Int)),(20,.i 0)],[.box 47 (Qaj a0),Qca ([]:List Qb)]⟩) (by kernel_rfl) (by kernel_rfl) ?_
  have L:∀ n,(∀ (Qaw:Int) (Qx:List Qb),iter (Qbd.step a0) n (.l1 Qaw Qx)=some r->AK X 36 ((K36 11111010 0)) (Yc X [] (.d (Yx true r))) ⟨40,[(3,.own 0 2 0 Qx.length),(18,.d (Yi true a0.Pairs)),(19,.i (a0.Pairs.length:Int)),(20,.i Qaw)],[Qca Qx]⟩):=by
   intro n
   induction n with
   | zero=>exact fun _ _ H=>Qal H
   | succ n ih=>
    ·intro Qaw Qx H
     refine qI ?_
     rcases sB H with ⟨c4,H⟩ | ⟨c4,H⟩
     ·refine qB hT 5 (decide_eq_true c4) ?_
      refine qE hT 6 (K36 11111010011000 0) ⟨40,[(3,.own 0 2 0 Qx.length),(18,.d (Yi true a0.Pairs)),(19,.i (a0.Pairs.length:Int)),(20,.i Qaw)],[Qca Qx]⟩ ?_
      obtain ⟨h6,H⟩:=sC H
      refine qI ?_
      refine qX hT 0 h6 ?_
      refine qE hT 13 (K36 11111010011001 8) ⟨40,[(18,.d (Yi true a0.Pairs)),(19,.i (a0.Pairs.length:Int)),(20,.i Qaw),(24,.own 0 2 0 Qx.length),(31,.own 2 2 0 1)],[Qca Qx,.box 56 (Qe8 (a0.Pairs.getD Qaw.toNat Qa.z)),.flat false 2 39 1 (fun j=>[[.i ((a0.Pairs.getD Qaw.toNat Qa.z).Key),.i (IntKind.wrap .i64 (((a0.Pairs.getD Qaw.toNat Qa.z).Key)+1))]].getD j [])]⟩ ?_
      obtain ⟨h7,H⟩:=sC H
      refine Qcj (id:=0) (kk:=2) (by':=16) (t:=51) (e:=39) (z:=[.int .i64 0,.int .i64 0]) (dst:=some 32) (id2:=2) (e2:=39) (fz:=false) (k':=(K36 11111010011001 9)) hT Qb.e Qb.z Qx (Qbd.q1 a0 Qaw) [18,19,20,32] (by kernel_rfl) (by kernel_rfl) (by kernel_rfl) (by kernel_rfl) (by kernel_rfl) (by kernel_rfl) (by kernel_rfl) h7 (by omega) (st':=⟨40,[(18,.d (Yi true a0.Pairs)),(19,.i (a0.Pairs.length:Int)),(20,.i Qaw),(32,.own 3 2 0 ((Qx ++ [(Qbd.q1 a0 Qaw)]).length))],[.gone,.box 56 (Qe8 (a0.Pairs.getD Qaw.toNat Qa.z)),.flat false 2 39 1 (fun j=>[[.i ((a0.Pairs.getD Qaw.toNat Qa.z).Key),.i (IntKind.wrap .i64 (((a0.Pairs.getD Qaw.toNat Qa.z).Key)+1))]].getD j []),Qca (Qx ++ [(Qbd.q1 a0 Qaw)])]⟩) (by kernel_rfl) ?_
      exact Yp hT 8 _ [3] _ h0 (ih (IntKind.wrap .i64 (Qaw+1)) (Qx ++ [(Qbd.q1 a0 Qaw)]) H)
     refine qB hT 5 (decide_eq_false c4) ?_
     refine qE hT 5 (K36 1111110 1) ⟨40,[(35,.own 0 2 0 Qx.length)],[Qca Qx]⟩ ?_
     refine Qen 0 (kk:=2) (n:=Qx.length) (ty:=39) (g:=vec Qb.e Qb.z Qx) (by kernel_rfl) (st':=⟨40,[(35,.own 0 2 0 Qx.length)],[Qk1 Qx]⟩) (by kernel_rfl) ?_
     obtain ⟨v2,h5,H⟩:=sbC H
     refine qI ?_
     refine qF hT 0 hP Wfs (Wx.Qy Qx h5) ?_
     obtain rfl:=Xr H
     exact qT hT 11 hf hX h0 [] an (.d (.sl fun _ _=>Qb.nl _))
  refine Qg4 [1] ⟨40,[(3,.own 0 2 0 ([]:List Qb).length),(18,.d (Yi true a0.Pairs)),(19,.i (a0.Pairs.length:Int)),(20,.i 0)],[Qca ([]:List Qb)]⟩ h0 ?_
  obtain ⟨n,H⟩:=Qbp H
  exact (L n) 0 ([]:List Qb) H
 refine qB hT 0 (show (!v1)=true by rw [Jo c2];rfl) ?_
 refine qE hT 5 (K36 11010 1) ⟨40,[(2,.ns)],[.box 47 (Qaj a0)]⟩ ?_
 refine Qg3 (av:=.d (.v (.slice none 0 0))) (y:=Yx true ([]:List Qb)) [2] 2 (st':=⟨40,[(2,.d (Yx true ([]:List Qb)))],[.box 47 (Qaj a0)]⟩) (by kernel_rfl) (.nil _) (by kernel_rfl) ?_
 obtain rfl:=Xr H
 exact Qc0 hf hX h0 (.d (Yx true ([]:List Qb))) [] an (.d (.sl fun _ _=>Qb.nl _))
theorem Qar.Qy {t0:Bool} {t1:Bool} (a0:List Qb) (a1:List Qb) {r:List Qb} (H:Qar a0 a1=some r):Xz Tryz.prog 73 [] [.d (Yx t0 a0),.d (Yx t1 a1)] [Qca r] (.own 0 2 0 r.length):=by
 refine Xj Tryz.func73 rfl (nt:=46) rfl (lb rfl) fun X hP h0 hX=>?_
 have hT:Xb X.P T:=hP▸tok
 have hf:X.P.funcs[73]? = some Tryz.f73:=hP▸Tryz.func73
 refine Xl hT 17 (K73 111010 0) ⟨46,[(1,.d (Yx t1 a1)),(5,.ns),(11,.d (Yx t0 a0)),(12,.i (a0.length:Int)),(13,.i 0)],[]⟩ ?_
 refine Qdj [1,5,11,12,13] 5 2 39 (vec Qb.e Qb.z []) (st':=⟨46,[(1,.d (Yx t1 a1)),(5,.own 0 2 0 0),(11,.d (Yx t0 a0)),(12,.i (a0.length:Int)),(13,.i 0)],[Qca ([]:List Qb)]⟩) (by kernel_rfl) (by kernel_rfl) ?_
 have L:∀ n,(∀ (Ja:Int) (Qx:List Qb),iter (Qar.step a0 a1) n (.l1 Ja Qx)=some r->AK X 73 ((K73 111010 0)) (Yc X [Qca r] (.own 0 2 0 r.length)) ⟨46,[(1,.d (Yx t1 a1)),(5,.own 0 2 0 Qx.length),(11,.d (Yx t0 a0)),(12,.i (a0.length:Int)),(13,.i Ja)],[Qca Qx]⟩)/\(∀ (Qgn:Int) (Qb7:Int) (Zm:List Qb) (Yu:Int) (Ye:Int),iter (Qar.step a0 a1) n (.l2 Qgn Qb7 Zm Yu Ye)=some r->AK X 73 ((K73 11101001100110 0)) (Yc X [Qca r] (.own 0 2 0 r.length)) ⟨46,[(1,.d (Yx t1 a1)),(5,.own 0 2 0 Zm.length),(7,.ptr 1 0 0 0),(11,.d (Yx t0 a0)),(12,.i (a0.length:Int)),(13,.i Qgn),(17,.d (Yx t1 a1)),(18,.i (a1.length:Int)),(19,.i Qb7)],[Qca Zm,.box 39 [.i Yu,.i Ye]]⟩):=by
  intro n
  induction n with
  | zero=>exact ⟨fun _ _ H=>Qal H,fun _ _ _ _ _ H=>Qal H⟩
  | succ n ih=>
   refine ⟨?_, ?_⟩
   ·intro Ja Qx H
    refine qI ?_
    rcases sB H with ⟨c1,H⟩ | ⟨c1,H⟩
    ·refine qB hT 5 (decide_eq_true c1) ?_
     refine qE hT 6 (K73 111010011000 0) ⟨46,[(1,.d (Yx t1 a1)),(5,.own 0 2 0 Qx.length),(11,.d (Yx t0 a0)),(12,.i (a0.length:Int)),(13,.i Ja)],[Qca Qx]⟩ ?_
     obtain ⟨h2,H⟩:=sC H
     refine qI ?_
     refine qX hT 0 h2 ?_
     exact qC hT 12 _ [0,1] _ h0 (ih.2 Ja 0 Qx ((a0.getD Ja.toNat Qb.z).Lo) ((a0.getD Ja.toNat Qb.z).Hi) H)
    refine qB hT 5 (decide_eq_false c1) ?_
    obtain rfl:=Xr H
    exact qT hT 7 hf hX h0 [0] (ac (Qat Qb.nl) an) (.own _ _ _ _)
   intro Qgn Qb7 Zm Yu Ye H
   refine qI ?_
   rcases sB H with ⟨c3,H⟩ | ⟨c3,H⟩
   ·refine qB hT 5 (decide_eq_true c3) ?_
    refine qE hT 6 (K73 11101001100110011000 0) ⟨46,[(1,.d (Yx t1 a1)),(5,.own 0 2 0 Zm.length),(7,.ptr 1 0 0 0),(11,.d (Yx t0 a0)),(12,.i (a0.length:Int)),(13,.i Qgn),(17,.d (Yx t1 a1)),(18,.i (a1.length:Int)),(19,.i Qb7)],[Qca Zm,.box 39 [.i Yu,.i Ye]]⟩ ?_
    obtain ⟨h4,H⟩:=sC H
    have Xy:∀ (Qp4:List Qb),stk (Qar.j1 Qgn Qb7 Yu Ye Qp4) (iter (Qar.step a0 a1) n)=some r->AK X 73 ((K73 11101001100110011 1)) (Yc X [Qca r] (.own 0 2 0 r.length)) ⟨46,[(1,.d (Yx t1 a1)),(5,.own 0 2 0 Qp4.length),(7,.ptr 1 0 0 0),(11,.d (Yx t0 a0)),(12,.i (a0.length:Int)),(13,.i Qgn),(17,.d (Yx t1 a1)),(18,.i (a1.length:Int)),(19,.i Qb7)],[Qca Qp4,.box 39 [.i Yu,.i Ye]]⟩:=by
     intro Qp4 H
     exact Xl hT 5 _ _ (ih.2 Qgn (IntKind.wrap .i64 (Qb7+1)) Qp4 Yu Ye H)
    refine qI ?_
    refine qX hT 0 h4 ?_
    refine qE hT 28 (K73 111010011001100110011 1) ⟨46,[(1,.d (Yx t1 a1)),(5,.own 0 2 0 Zm.length),(7,.ptr 1 0 0 0),(10,.ptr 3 0 0 0),(11,.d (Yx t0 a0)),(12,.i (a0.length:Int)),(13,.i Qgn),(17,.d (Yx t1 a1)),(18,.i (a1.length:Int)),(19,.i Qb7),(38,.b (decide ((Qf6 Yu ((a1.getD Qb7.toNat Qb.z).Lo)) < (Qh3 Ye ((a1.getD Qb7.toNat Qb.z).Hi)))))],[Qca Zm,.box 39 [.i Yu,.i Ye],.box 39 (Qkj (a1.getD Qb7.toNat Qb.z)),.box 39 [.i (Qf6 Yu ((a1.getD Qb7.toNat Qb.z).Lo)),.i (Qh3 Ye ((a1.getD Qb7.toNat Qb.z).Hi))]]⟩ ?_
    refine qI ?_
    rcases sB H with ⟨c5,H⟩ | ⟨c5,H⟩
    ·refine qB hT 0 (decide_eq_true c5) ?_
     refine qE hT 5 (K73 11101001100110011001110 3) ⟨46,[(1,.d (Yx t1 a1)),(7,.ptr 1 0 0 0),(11,.d (Yx t0 a0)),(12,.i (a0.length:Int)),(13,.i Qgn),(17,.d (Yx t1 a1)),(18,.i (a1.length:Int)),(19,.i Qb7),(39,.own 0 2 0 Zm.length),(41,.own 4 2 0 1)],[Qca Zm,.box 39 [.i Yu,.i Ye],.box 39 (Qkj (a1.getD Qb7.toNat Qb.z)),.box 39 [.i (Qf6 Yu ((a1.getD Qb7.toNat Qb.z).Lo)),.i (Qh3 Ye ((a1.getD Qb7.toNat Qb.z).Hi))],.flat false 2 39 1 (fun j=>[[.i (Qf6 Yu ((a1.getD Qb7.toNat Qb.z).Lo)),.i (Qh3 Ye ((a1.getD Qb7.toNat Qb.z).Hi))]].getD j [])]⟩ ?_
     obtain ⟨h6,H⟩:=sC H
     refine Qcj (id:=0) (kk:=2) (by':=16) (t:=51) (e:=39) (z:=[.int .i64 0,.int .i64 0]) (dst:=some 42) (id2:=4) (e2:=39) (fz:=false) (k':=(K73 11101001100110011001110 4)) hT Qb.e Qb.z Zm (⟨Qf6 Yu ((a1.getD Qb7.toNat Qb.z).Lo),Qh3 Ye ((a1.getD Qb7.toNat Qb.z).Hi)⟩:Qb) [1,7,11,12,13,17,18,19,42] (by kernel_rfl) (by kernel_rfl) (by kernel_rfl) (by kernel_rfl) (by kernel_rfl) (by kernel_rfl) (by kernel_rfl) h6 (by omega) (st':=⟨46,[(1,.d (Yx t1 a1)),(7,.ptr 1 0 0 0),(11,.d (Yx t0 a0)),(12,.i (a0.length:Int)),(13,.i Qgn),(17,.d (Yx t1 a1)),(18,.i (a1.length:Int)),(19,.i Qb7),(42,.own 5 2 0 ((Zm ++ [(⟨Qf6 Yu ((a1.getD Qb7.toNat Qb.z).Lo),Qh3 Ye ((a1.getD Qb7.toNat Qb.z).Hi)⟩:Qb)]).length))],[.gone,.box 39 [.i Yu,.i Ye],.box 39 (Qkj (a1.getD Qb7.toNat Qb.z)),.box 39 [.i (Qf6 Yu ((a1.getD Qb7.toNat Qb.z).Lo)),.i (Qh3 Ye ((a1.getD Qb7.toNat Qb.z).Hi))],.flat false 2 39 1 (fun j=>[[.i (Qf6 Yu ((a1.getD Qb7.toNat Qb.z).Lo)),.i (Qh3 Ye ((a1.getD Qb7.toNat Qb.z).Hi))]].getD j []),Qca (Zm ++ [(⟨Qf6 Yu ((a1.getD Qb7.toNat Qb.z).Lo),Qh3 Ye ((a1.getD Qb7.toNat Qb.z).Hi)⟩:Qb)])]⟩) (by kernel_rfl) ?_
     exact Yp hT 3 _ [5,1] _ h0 (Xy (Zm ++ [(⟨Qf6 Yu ((a1.getD Qb7.toNat Qb.z).Lo),Qh3 Ye ((a1.getD Qb7.toNat Qb.z).Hi)⟩:Qb)]) H)
    refine qB hT 0 (decide_eq_false c5) ?_
    exact qC hT 3 _ [0,1] _ h0 (Xy Zm H)
   refine qB hT 5 (decide_eq_false c3) ?_
   exact qC hT 8 _ [0] _ h0 (ih.1 (IntKind.wrap .i64 (Qgn+1)) Zm H)
 refine Qg4 [0] ⟨46,[(1,.d (Yx t1 a1)),(5,.own 0 2 0 ([]:List Qb).length),(11,.d (Yx t0 a0)),(12,.i (a0.length:Int)),(13,.i 0)],[Qca ([]:List Qb)]⟩ h0 ?_
 obtain ⟨n,H⟩:=Qbp H
 exact (L n).1 0 ([]:List Qb) H
theorem Qdx.Qy {t0:Bool} {t1:Bool} (a0:List Qb) (a1:List Qb) {r:Bool} (H:Qdx a0 a1=some r):Xz Tryz.prog 35 [] [.d (Yx t0 a0),.d (Yx t1 a1)] [] (.b r):=by
 refine Xj Tryz.func35 rfl (nt:=18) rfl (lb rfl) fun X hP h0 hX=>?_
 have hT:Xb X.P T:=hP▸tok
 have hf:X.P.funcs[35]? = some Tryz.f35:=hP▸Tryz.func35
 refine qI ?_
 obtain ⟨v1,h1,H⟩:=ibC H
 have Xy:∀ (Qd3:Bool),(Qdx.j1 Qd3)=some r->AK X 35 ((K35 11 1)) (Yc X [] (.b r)) ⟨18,[(4,.b Qd3)],[]⟩:=by
  intro Qd3 H
  obtain rfl:=Xr H
  exact Qc0 hf hX h0 (.b Qd3) [] an (.d (.v _))
 refine qF hT 7 hP Qkq (Zz.Qy (t0:=t0) a0 h1) ?_
 refine qE hT 1 (K35 110 3) ⟨18,[(0,.d (Yx t0 a0)),(1,.d (Yx t1 a1)),(7,.b v1)],[]⟩ ?_
 refine qI ?_
 rcases iB H with ⟨c2,H⟩ | ⟨c2,H⟩
 ·refine qB hT 0 (c2) ?_
  refine qE hT 1 (K35 110 4) ⟨18,[(0,.d (Yx t0 a0)),(1,.d (Yx t1 a1)),(7,.b true),(8,.d (Yx t1 a1))],[]⟩ ?_
  obtain ⟨v2,h3,H⟩:=ibC H
  refine qI ?_
  refine qF hT 0 hP Qkq (Zz.Qy (t0:=t1) a1 h3) ?_
  refine qE hT 2 (K35 110 7) ⟨18,[(0,.d (Yx t0 a0)),(1,.d (Yx t1 a1)),(11,.b v2)],[]⟩ ?_
  refine qI ?_
  rcases iB H with ⟨c4,H⟩ | ⟨c4,H⟩
  ·refine qB hT 0 (c4) ?_
   refine qE hT 2 (K35 110 9) ⟨18,[(11,.b true),(12,.d (Yx t0 a0)),(13,.d (Yx t1 a1))],[]⟩ ?_
   obtain ⟨v3,h5,H⟩:=ibC H
   refine qI ?_
   refine qF hT 0 hP Wfr (Qar.Qy (t0:=t0) (t1:=t1) a0 a1 h5) ?_
   exact qC hT 5 _ [] _ h0 (Xy (decide ((v3.length:Int) > 0)) H)
  refine qB hT 0 (Jo c4) ?_
  exact qE hT 8 _ _ (Xy false H)
 refine qB hT 0 (Jo c2) ?_
 exact qE hT 12 _ _ (Xy false H)
theorem Qgc.Qy (a0:Qm) (a1:We) {r:Bool} (H:Qgc a0 a1=some r):Xz Tryz.prog 87 [] [.d (Qe9 a0),.d (Qb5 a1)] [] (.b r):=by
 refine Xj Tryz.func87 rfl (nt:=10) rfl (lb rfl) fun X hP h0 hX=>?_
 have hT:Xb X.P T:=hP▸tok
 have hf:X.P.funcs[87]? = some Tryz.f87:=hP▸Tryz.func87
 refine Xl hT 7 (K87 11 0) ⟨10,[(2,.ptr 0 0 0 0),(3,.ptr 1 0 0 0)],[.box 44 (Jd a0),.box 47 (Qaj a1)]⟩ ?_
 obtain ⟨v1,h1,H⟩:=ibC H
 refine Qak (hP▸mixed) 3 [2,3] (sm [.d (Qb5 a1),.d (Yx true v1),.d (Qe9 a0)]) (Qe (Jr (Qe op0 hT) (fun R rest h=>Zl (Zk:=[.d (Qb5 a1)]) (dst:=some 6) hP Qqv (Qbd.Qy a1 h1) (by kernel_rfl) (.cons (Wj _) .nil) (by kernel_rfl) h)) hT) ?_
 refine Xl hT 0 (K87 110 3) ⟨10,[(6,.d (Yx true v1)),(7,.d (Qe9 a0))],[.box 44 (Jd a0),.box 47 (Qaj a1)]⟩ ?_
 refine Jj (Zk:=[.d (Qe9 a0)]) (dst:=some 8) (k':=(K87 110 4)) [6,8] [] hP Ql6 (Qa5.Qy a0) (by kernel_rfl) (Jy _) (.cons (Wj _) .nil) (st':=⟨10,[(6,.d (Yx true v1)),(8,.own 2 2 0 ((Qa5 a0).length))],[.box 44 (Jd a0),.box 47 (Qaj a1),Qca (Qa5 a0)]⟩) (by kernel_rfl) ?_
 obtain ⟨v2,h2,H⟩:=idC H
 rw [<- h2]
 obtain ⟨v3,h3,H⟩:=ibC H
 refine qI ?_
 refine qF hT 0 hP Qqu (Qdx.Qy (t0:=true) (t1:=false) v1 v2 h3) ?_
 obtain rfl:=Xr H
 exact qT hT 2 hf hX h0 [] an (.d (.v _))
theorem Xm.Qy {t0:Bool} {ff2:FuncId} {cc2:List DV} (a0:List Qo) (a1:Qo) (p2:Qo->Qo->Option Int) (he2:Sy.Enters Tryz.prog ff2) (hp2:∀ (z0:Qo) (z1:Qo) r,p2 z0 z1=some r->Xz Tryz.prog ff2 [] ([.d (Qfr z0),.d (Qfr z1)] ++ List.map AV.d cc2) [] (.i r)) {r:Int × Bool} (H:Xm a0 a1 p2=some r):Xz Tryz.prog 130 [] [.d (Qej t0 a0),.d (Qfr a1),.d (.fn ff2 cc2)] [] (.Qn [.i r.1,.b r.2]):=by
 refine Xj Tryz.func130 rfl (nt:=49) rfl (lb rfl) fun X hP h0 hX=>?_
 have hT:Xb X.P T:=hP▸tok
 have hf:X.P.funcs[130]? = some Tryz.f130:=hP▸Tryz.func130
 refine Xl hT 21 (Qs3 111100 0) ⟨49,[(0,.d (Qej t0 a0)),(2,.d (.fn ff2 cc2)),(4,.ptr 0 0 0 0),(8,.i (a0.length:Int)),(9,.i 0),(10,.i (a0.length:Int))],[.box 125 (Qi7 a1)]⟩ ?_
 have L:∀ n,(∀ (Qa4:Int) (Xq:Int),iter (Xm.step a0 a1 p2) n (.l1 Qa4 Xq)=some r->AK X 130 ((Qs3 111100 0)) (Yc X [] (.Qn [.i r.1,.b r.2])) ⟨49,[(0,.d (Qej t0 a0)),(2,.d (.fn ff2 cc2)),(4,.ptr 0 0 0 0),(8,.i (a0.length:Int)),(9,.i Qa4),(10,.i Xq)],[.box 125 (Qi7 a1)]⟩):=by
  intro n
  induction n with
  | zero=>exact fun _ _ H=>Qal H
  | succ n ih=>
   ·intro Qa4 Xq H
    refine Xl hT 7 (Qs3 11110000 1) ⟨49,[(0,.d (Qej t0 a0)),(2,.d (.fn ff2 cc2)),(4,.ptr 0 0 0 0),(8,.i (a0.length:Int)),(9,.i Qa4),(10,.i Xq),(17,.b (decide (Qa4 < Xq)))],[.box 125 (Qi7 a1)]⟩ ?_
    by_cases c1:Qa4 < Xq
    ·replace H:=sT c1 H
     rw [decide_eq_true c1]
     refine Xl hT 12 (Qs3 1111000100 7) ⟨49,[(0,.d (Qej t0 a0)),(2,.d (.fn ff2 cc2)),(4,.ptr 0 0 0 0),(8,.i (a0.length:Int)),(9,.i Qa4),(10,.i Xq),(11,.i (IntKind.wrap .i64 (Int.fdiv (IntKind.wrap .u64 (IntKind.wrap .i64 (Qa4+Xq))) 2)))],[.box 125 (Qi7 a1)]⟩ ?_
     obtain ⟨v2,h5,H⟩:=sdC H
     rw [<- h5]
     refine Xl hT 2 (Qs3 1111000101 0) ⟨49,[(0,.d (Qej t0 a0)),(2,.d (.fn ff2 cc2)),(4,.ptr 0 0 0 0),(8,.i (a0.length:Int)),(9,.i Qa4),(10,.i Xq),(11,.i v2)],[.box 125 (Qi7 a1)]⟩ ?_
     obtain ⟨h6,H⟩:=sC H
     obtain ⟨v3,h7,H⟩:=sbC H
     refine Qak (hP▸mixed) 8 [0,2,4,8,9,10,11] (sm [.d (.fn ff2 cc2),.d (Qej t0 a0),.i v2,.d (Qlx t0 a0 v2.toNat 0),.d (Qfr (a0.getD v2.toNat Qo.z)),.d (Qfr a1),.i v3,.b (decide (v3 < 0))]) (Qe (Jr (Qe (Qe (Jr (Qe (Qe (Qe op0 hT) hT) hT) (fun R rest h=>Yf hT (i:=v2) (n:=(a0.length:Int)) h6.1 h6.2 (by kernel_rfl) h)) hT) hT) (fun R rest h=>Zl (Zk:=[.d (Qfr (a0.getD v2.toNat Qo.z)),.d (Qfr a1)] ++ List.map AV.d cc2) (dst:=some 30) hP he2 (hp2 (a0.getD v2.toNat Qo.z) a1 v3 h7) (by kernel_rfl) (.cons (Wj _) (.cons (Wj _) (Qgq _))) (by kernel_rfl) h)) hT) ?_
     refine qI ?_
     rcases sB H with ⟨c8,H⟩ | ⟨c8,H⟩
     ·refine qB hT 1 (decide_eq_true c8) ?_
      exact qE hT 8 _ _ (ih (IntKind.wrap .i64 (v2+1)) Xq H)
     refine qB hT 1 (decide_eq_false c8) ?_
     exact qE hT 7 _ _ (ih Qa4 v2 H)
    replace H:=sF c1 H
    have Xy:∀ (Qlp:Bool),stk (Xm.j1 Qa4 Qlp) (iter (Xm.step a0 a1 p2) n)=some r->AK X 130 ((Qs3 11111 1)) (Yc X [] (.Qn [.i r.1,.b r.2])) ⟨49,[(6,.i Qa4),(7,.b Qlp)],[]⟩:=by
     intro Qlp H
     obtain rfl:=Xr H
     exact Qc0 hf hX h0 (.Qn [.i Qa4,.b Qlp]) [] an (.Qn (.cons (.d (.v _)) (.cons (.d (.v _)) .nil)))
    rw [decide_eq_false c1]
    refine Xl hT 3 (Qs3 11111 0) ⟨49,[(0,.d (Qej t0 a0)),(2,.d (.fn ff2 cc2)),(4,.ptr 0 0 0 0),(8,.i (a0.length:Int)),(9,.i Qa4)],[.box 125 (Qi7 a1)]⟩ ?_
    by_cases c2:Qa4 < (a0.length:Int)
    ·replace H:=sT c2 H
     obtain ⟨h3,H⟩:=sC H
     obtain ⟨v1,h4,H⟩:=sbC H
     refine Qak (hP▸mixed) 15 [0,2,4,8,9] (sm [.i Qa4,.i Qa4,.i (a0.length:Int),.b true,.b true,.d (.fn ff2 cc2),.d (Qej t0 a0),.i Qa4,.d (Qlx t0 a0 Qa4.toNat 0),.d (Qfr (a0.getD Qa4.toNat Qo.z)),.d (Qfr a1),.i v1,.b (v1 == 0),.b (v1 == 0),.i Qa4]) (Qe (Qe (Qe (Jr (Qe (Qe (Jr (Qe (Qe (Qe (Qe (opV (Qe (Qe (Qe op0 hT) hT) hT) hT 38 (.b (decide (Qa4 < (a0.length:Int)))) (.b true) (by rw [decide_eq_true c2]<;>rfl)) hT) hT) hT) hT) (fun R rest h=>Yf hT (i:=Qa4) (n:=(a0.length:Int)) h3.1 h3.2 (by kernel_rfl) h)) hT) hT) (fun R rest h=>Zl (Zk:=[.d (Qfr (a0.getD Qa4.toNat Qo.z)),.d (Qfr a1)] ++ List.map AV.d cc2) (dst:=some 46) hP he2 (hp2 (a0.getD Qa4.toNat Qo.z) a1 v1 h4) (by kernel_rfl) (.cons (Wj _) (.cons (Wj _) (Qgq _))) (by kernel_rfl) h)) hT) hT) hT) ?_
     exact Yp hT 2 _ [] _ h0 (Xy (v1 == 0) H)
    replace H:=sF c2 H
    refine Qak (hP▸mixed) 15 [0,2,4,8,9] (sm [.i Qa4,.i Qa4,.i (a0.length:Int),.b false,.b false,.Qn [],.Qn [],.Qn [],.Qn [],.Qn [],.Qn [],.Qn [],.Qn [],.b false,.i Qa4]) (Qe (Qe (Qe (Qe (Qe (Qe (Qe (Qe (Qe (Qe (Qe (opV (Qe (Qe (Qe op0 hT) hT) hT) hT 38 (.b (decide (Qa4 < (a0.length:Int)))) (.b false) (by rw [decide_eq_false c2]<;>rfl)) hT) hT) hT) hT) hT) hT) hT) hT) hT) hT) hT) ?_
    exact Yp hT 2 _ [] _ h0 (Xy false H)
 obtain ⟨n,H⟩:=Qbp H
 exact (L n) 0 (a0.length:Int) H
theorem Qic.Qy (a0:Qm) (a1:Int) (a2:Int) {r:Int × Bool} (H:Qic a0 a1 a2=some r):Xz Tryz.prog 88 [] [.d (Qe9 a0),.i a1,.i a2] [] (.Qn [.i r.1,.b r.2]):=by
 refine Xj Tryz.func88 rfl (nt:=16) rfl (lb rfl) fun X hP h0 hX=>?_
 have hT:Xb X.P T:=hP▸tok
 have hf:X.P.funcs[88]? = some Tryz.f88:=hP▸Tryz.func88
 refine qI ?_
 obtain ⟨v1,h1,H⟩:=ibC H
 refine qF hT 13 hP Wb3 (Xm.Qy (t0:=true) (ff2:=86) (cc2:=[]) a0.Qs (⟨a1,a2,0,false⟩:Qo) (fun z0 z1=>Qeu z0 z1) Qwc (fun z0 z1 r h=>Qeu.Qy z0 z1 h) h1) ?_
 obtain rfl:=Xr H
 exact qT hT 5 hf hX h0 [] an (.Qn (.cons (.d (.v _)) (.cons (.d (.v _)) .nil)))
abbrev Xk.q1 (a0:Qm) (Xq:Int):List Row:=[.box 44 (Jd a0),.box 50 (Qed (a0.Log.getD Xq.toNat Qc.z))]
abbrev Xk.q2 (a0:Qm) (Xq:Int):=(a0.Log.getD Xq.toNat Qc.z)
abbrev Xk.q3 (a0:Qm) (Xq:Int):=(a0.Log.getD ((IntKind.wrap .i64 (Xq - 1)).toNat) Qc.z)
abbrev Xk.p0 (a0:Qm):List (Nat × AV):=[(1,.ptr 0 0 0 0),(8,.d (Qbg true a0.Log)),(9,.i (a0.Log.length:Int))]
theorem Xk.Qy (a0:Qm) {r:Bool} (H:Xk a0=some r):Xz Tryz.prog 55 [] [.d (Qe9 a0)] [] (.b r):=by
 refine Xj Tryz.func55 rfl (nt:=103) rfl (lb rfl) fun X hP h0 hX=>?_
 have hT:Xb X.P T:=hP▸tok
 have hf:X.P.funcs[55]? = some Tryz.f55:=hP▸Tryz.func55
 refine Xl hT 15 (K55 11010 0) ⟨103,(Xk.p0 a0++[(10,.i 0)]),[.box 44 (Jd a0)]⟩ ?_
 have L:∀ n,(∀ (Xq:Int),iter (Xk.step a0) n (.l1 Xq)=some r->AK X 55 ((K55 11010 0)) (Yc X [] (.b r)) ⟨103,(Xk.p0 a0++[(10,.i Xq)]),[.box 44 (Jd a0)]⟩):=by
  intro n
  induction n with
  | zero=>exact fun _ H=>Qal H
  | succ n ih=>
   ·intro Xq H
    refine qI ?_
    rcases sB H with ⟨c1,H⟩ | ⟨c1,H⟩
    ·refine qB hT 5 (decide_eq_true c1) ?_
     refine qE hT 7 (K55 11010011000 1) ⟨103,(Xk.p0 a0++[(10,.i Xq),(12,.i Xq)]),[.box 44 (Jd a0)]⟩ ?_
     obtain ⟨h2,H⟩:=sC H
     refine qI ?_
     refine qX hT 0 h2 ?_
     refine qE hT 10 (K55 1101001100100 2) ⟨103,[(1,.ptr 0 0 0 0),(3,.i Xq),(4,.ptr 1 0 0 0),(8,.d (Qbg true a0.Log)),(9,.i (a0.Log.length:Int)),(10,.i Xq),(16,.d (Qb5 ((Xk.q2 a0 Xq).M)))],(Xk.q1 a0 Xq)⟩ ?_
     obtain ⟨v1,h3,H⟩:=sbC H
     have Xy:∀ (Qr4:Bool),stk (Xk.j1 a0 Xq Qr4) (iter (Xk.step a0) n)=some r->AK X 55 ((K55 110100110010 1)) (Yc X [] (.b r)) ⟨103,[(1,.ptr 0 0 0 0),(3,.i Xq),(4,.ptr 1 0 0 0),(8,.d (Qbg true a0.Log)),(9,.i (a0.Log.length:Int)),(10,.i Xq),(33,.b Qr4)],(Xk.q1 a0 Xq)⟩:=by
      intro Qr4 H
      by_cases c7:Qr4=true
      ·replace H:=sT c7 H
       rw [c7]
       refine qI ?_
       obtain rfl:=Xr H
       exact qT hT 5 hf hX h0 [] an (.d (.v _))
      replace H:=sF c7 H
      have Jj2:∀ (Qj2:Bool),stk (Xk.j2 a0 Xq Qj2) (iter (Xk.step a0) n)=some r->AK X 55 ((K55 1101001100110 1)) (Yc X [] (.b r)) ⟨103,[(1,.ptr 0 0 0 0),(4,.ptr 1 0 0 0),(8,.d (Qbg true a0.Log)),(9,.i (a0.Log.length:Int)),(10,.i Xq),(59,.b Qj2)],(Xk.q1 a0 Xq)⟩:=by
       intro Qj2 H
       by_cases c11:Qj2=true
       ·replace H:=sT c11 H
        rw [c11]
        refine qI ?_
        obtain rfl:=Xr H
        exact qT hT 5 hf hX h0 [] an (.d (.v _))
       replace H:=sF c11 H
       rw [Jo c11]
       refine qI ?_
       obtain ⟨v4,h12,H⟩:=sbC H
       have Jj3:∀ (Qj3:Bool),stk (Xk.j3 Xq Qj3) (iter (Xk.step a0) n)=some r->AK X 55 ((K55 11010011001111 1)) (Yc X [] (.b r)) ⟨103,(Xk.p0 a0++[(10,.i Xq),(94,.b Qj3)]),[.box 44 (Jd a0)]⟩:=by
        intro Qj3 H
        by_cases c16:Qj3=true
        ·replace H:=sT c16 H
         rw [c16]
         refine qI ?_
         obtain rfl:=Xr H
         exact qT hT 5 hf hX h0 [] an (.d (.v _))
        replace H:=sF c16 H
        rw [Jo c16]
        exact Xl hT 8 _ _ (ih (IntKind.wrap .i64 (Xq+1)) H)
       refine qF hT 11 hP Qwe (Qic.Qy a0 (((Xk.q2 a0 Xq).M).Client) (((Xk.q2 a0 Xq).M).Seq) h12) ?_
       refine qE hT 7 (K55 11010011001111 0) ⟨103,[(1,.ptr 0 0 0 0),(4,.ptr 1 0 0 0),(5,.i v4.1),(6,.b v4.2),(8,.d (Qbg true a0.Log)),(9,.i (a0.Log.length:Int)),(10,.i Xq)],(Xk.q1 a0 Xq)⟩ ?_
       by_cases c13:v4.2=true
       ·replace H:=sT c13 H
        obtain ⟨h14,H⟩:=sC H
        by_cases c15:((a0.Qs.getD v4.1.toNat Qo.z).Time)=((Xk.q2 a0 Xq).Time)
        ·replace H:=sT c15 H
         refine Qak (hP▸mixed) 24 [1,4,5,6,8,9,10] (sm [.b true,.b false,.b false,.ptr 0 0 0 9,.d (Qej true a0.Qs),.i v4.1,.d (Qlx true a0.Qs v4.1.toNat 0),.d (Qlx true a0.Qs v4.1.toNat 2),.i ((a0.Qs.getD v4.1.toNat Qo.z).Time),.ptr 1 0 0 7,.i ((Xk.q2 a0 Xq).Time),.b false,.b false,.b false,.ptr 0 0 0 9,.d (Qej true a0.Qs),.i v4.1,.d (Qlx true a0.Qs v4.1.toNat 0),.d (Qlx true a0.Qs v4.1.toNat 3),.b ((a0.Qs.getD v4.1.toNat Qo.z).Zw),.ptr 1 0 0 8,.b ((Xk.q2 a0 Xq).Zw),.b (!(((a0.Qs.getD v4.1.toNat Qo.z).Zw) == ((Xk.q2 a0 Xq).Zw))),.b (!(((a0.Qs.getD v4.1.toNat Qo.z).Zw) == ((Xk.q2 a0 Xq).Zw)))]) (Qe (Qe (Qe (Qe (Qe (Qe (Jr (Qe (Qe (Qe (Qe (Qe (opV (Qe (Qe (Qe (Qe (Jr (Qe (Qe (Qe (Qe (Qe (opV op0 hT 71 (.b v4.2) (.b true) (by rw [c13]<;>rfl)) hT) hT) hT) hT) hT) (fun R rest h=>Yf hT (i:=v4.1) (n:=(a0.Qs.length:Int)) h14.1 h14.2 (by kernel_rfl) h)) hT) hT) hT) hT) hT 82 (.b (((a0.Qs.getD v4.1.toNat Qo.z).Time) != ((Xk.q2 a0 Xq).Time))) (.b false) (by rw [neF c15]<;>rfl)) hT) hT) hT) hT) hT) (fun R rest h=>Yf hT (i:=v4.1) (n:=(a0.Qs.length:Int)) h14.1 h14.2 (by kernel_rfl) h)) hT) hT) hT) hT) hT) hT) ?_
         exact Yp hT 1 _ [0] _ h0 (Jj3 (!(((a0.Qs.getD v4.1.toNat Qo.z).Zw) == ((Xk.q2 a0 Xq).Zw))) H)
        replace H:=sF c15 H
        refine Qak (hP▸mixed) 24 [1,4,5,6,8,9,10] (sm [.b true,.b false,.b false,.ptr 0 0 0 9,.d (Qej true a0.Qs),.i v4.1,.d (Qlx true a0.Qs v4.1.toNat 0),.d (Qlx true a0.Qs v4.1.toNat 2),.i ((a0.Qs.getD v4.1.toNat Qo.z).Time),.ptr 1 0 0 7,.i ((Xk.q2 a0 Xq).Time),.b true,.b true,.b true,.Qn [],.Qn [],.Qn [],.Qn [],.Qn [],.Qn [],.Qn [],.Qn [],.Qn [],.b true]) (Qe (Qe (Qe (Qe (Qe (Qe (Qe (Qe (Qe (Qe (Qe (Qe (opV (Qe (Qe (Qe (Qe (Jr (Qe (Qe (Qe (Qe (Qe (opV op0 hT 71 (.b v4.2) (.b true) (by rw [c13]<;>rfl)) hT) hT) hT) hT) hT) (fun R rest h=>Yf hT (i:=v4.1) (n:=(a0.Qs.length:Int)) h14.1 h14.2 (by kernel_rfl) h)) hT) hT) hT) hT) hT 82 (.b (((a0.Qs.getD v4.1.toNat Qo.z).Time) != ((Xk.q2 a0 Xq).Time))) (.b true) (by rw [neT c15]<;>rfl)) hT) hT) hT) hT) hT) hT) hT) hT) hT) hT) hT) hT) ?_
        exact Yp hT 1 _ [0] _ h0 (Jj3 true H)
       replace H:=sF c13 H
       refine Qak (hP▸mixed) 24 [1,4,5,6,8,9,10] (sm [.b false,.b true,.b true,.Qn [],.Qn [],.Qn [],.Qn [],.Qn [],.Qn [],.Qn [],.Qn [],.Qn [],.b true,.b true,.Qn [],.Qn [],.Qn [],.Qn [],.Qn [],.Qn [],.Qn [],.Qn [],.Qn [],.b true]) (Qe (Qe (Qe (Qe (Qe (Qe (Qe (Qe (Qe (Qe (Qe (Qe (Qe (Qe (Qe (Qe (Qe (Qe (Qe (Qe (Qe (Qe (Qe (opV op0 hT 71 (.b v4.2) (.b false) (by rw [Jo c13]<;>rfl)) hT) hT) hT) hT) hT) hT) hT) hT) hT) hT) hT) hT) hT) hT) hT) hT) hT) hT) hT) hT) hT) hT) hT) ?_
       exact Yp hT 1 _ [0] _ h0 (Jj3 true H)
      rw [Jo c7]
      refine Xl hT 4 (K55 1101001100110 0) ⟨103,[(1,.ptr 0 0 0 0),(3,.i Xq),(4,.ptr 1 0 0 0),(8,.d (Qbg true a0.Log)),(9,.i (a0.Log.length:Int)),(10,.i Xq)],(Xk.q1 a0 Xq)⟩ ?_
      by_cases c8:Xq > 0
      ·replace H:=sT c8 H
       obtain ⟨h9,H⟩:=sC H
       obtain ⟨v3,h10,H⟩:=sbC H
       refine Qak (hP▸mixed) 26 [1,3,4,8,9,10] (sm [.i Xq,.b true,.b true,.ptr 0 0 0 8,.d (Qbg true a0.Log),.i Xq,.i (IntKind.wrap .i64 (Xq - 1)),.d (Qh0 true a0.Log ((IntKind.wrap .i64 (Xq - 1)).toNat) 0),.d (Qh0 true a0.Log ((IntKind.wrap .i64 (Xq - 1)).toNat) 7),.i ((Xk.q3 a0 Xq).Time),.ptr 0 0 0 8,.d (Qbg true a0.Log),.i Xq,.i (IntKind.wrap .i64 (Xq - 1)),.d (Qh0 true a0.Log ((IntKind.wrap .i64 (Xq - 1)).toNat) 0),.d (Qh0 true a0.Log ((IntKind.wrap .i64 (Xq - 1)).toNat) 0),.d (Qb5 ((Xk.q3 a0 Xq).M)),.d (Qf0 (Qbr ((Xk.q3 a0 Xq).Time) ((Xk.q3 a0 Xq).M))),.ptr 1 0 0 7,.i ((Xk.q2 a0 Xq).Time),.ptr 1 0 0 0,.d (Qb5 ((Xk.q2 a0 Xq).M)),.d (Qf0 (Qbr ((Xk.q2 a0 Xq).Time) ((Xk.q2 a0 Xq).M))),.i v3,.b (decide (v3>=0)),.b (decide (v3>=0))]) (Qe (Qe (Jr (Jr (Qe (Qe (Qe (Qe (Jr (Qe (Qe (Jr (Qe (Qe (Qe (Qe (Qe (Qe (Jr (Qe (Qe (Qe (Qe (Qe (opV (Qe op0 hT) hT 35 (.b (decide (Xq > 0))) (.b true) (by rw [decide_eq_true c8]<;>rfl)) hT) hT) hT) hT) hT) (fun R rest h=>Yf hT (i:=IntKind.wrap .i64 (Xq - 1)) (n:=(a0.Log.length:Int)) h9.1 h9.2 (by kernel_rfl) h)) hT) hT) hT) hT) hT) hT) (fun R rest h=>Yf hT (i:=IntKind.wrap .i64 (Xq - 1)) (n:=(a0.Log.length:Int)) h9.1 h9.2 (by kernel_rfl) h)) hT) hT) (fun R rest h=>Zl (Zk:=[.i ((Xk.q3 a0 Xq).Time),.d (Qb5 ((Xk.q3 a0 Xq).M))]) (dst:=some 51) hP Qkr (Qbr.Qy ((Xk.q3 a0 Xq).Time) ((Xk.q3 a0 Xq).M)) (by kernel_rfl) (.cons (Wj _) (.cons (Wj _) .nil)) (by kernel_rfl) h)) hT) hT) hT) hT) (fun R rest h=>Zl (Zk:=[.i ((Xk.q2 a0 Xq).Time),.d (Qb5 ((Xk.q2 a0 Xq).M))]) (dst:=some 56) hP Qkr (Qbr.Qy ((Xk.q2 a0 Xq).Time) ((Xk.q2 a0 Xq).M)) (by kernel_rfl) (.cons (Wj _) (.cons (Wj _) .nil)) (by kernel_rfl) h)) (fun R rest h=>Zl (Zk:=[.d (Qf0 (Qbr ((Xk.q3 a0 Xq).Time) ((Xk.q3 a0 Xq).M))),.d (Qf0 (Qbr ((Xk.q2 a0 Xq).Time) ((Xk.q2 a0 Xq).M)))]) (dst:=some 57) hP Qnq (Qcw.Qy (Qbr ((Xk.q3 a0 Xq).Time) ((Xk.q3 a0 Xq).M)) (Qbr ((Xk.q2 a0 Xq).Time) ((Xk.q2 a0 Xq).M)) h10) (by kernel_rfl) (.cons (Wj _) (.cons (Wj _) .nil)) (by kernel_rfl) h)) hT) hT) ?_
       exact Xl hT 1 _ _ (Jj2 (decide (v3>=0)) H)
      replace H:=sF c8 H
      refine Qak (hP▸mixed) 26 [1,3,4,8,9,10] (sm [.i Xq,.b false,.b false,.Qn [],.Qn [],.Qn [],.Qn [],.Qn [],.Qn [],.Qn [],.Qn [],.Qn [],.Qn [],.Qn [],.Qn [],.Qn [],.Qn [],.Qn [],.Qn [],.Qn [],.Qn [],.Qn [],.Qn [],.Qn [],.Qn [],.b false]) (Qe (Qe (Qe (Qe (Qe (Qe (Qe (Qe (Qe (Qe (Qe (Qe (Qe (Qe (Qe (Qe (Qe (Qe (Qe (Qe (Qe (Qe (Qe (Qe (opV (Qe op0 hT) hT 35 (.b (decide (Xq > 0))) (.b false) (by rw [decide_eq_false c8]<;>rfl)) hT) hT) hT) hT) hT) hT) hT) hT) hT) hT) hT) hT) hT) hT) hT) hT) hT) hT) hT) hT) hT) hT) hT) hT) ?_
      exact Xl hT 1 _ _ (Jj2 false H)
     refine qI ?_
     refine qF hT 0 hP Qid (Qbx.Qy ((Xk.q2 a0 Xq).M) h3) ?_
     refine qE hT 2 (K55 1101001100100 5) ⟨103,[(1,.ptr 0 0 0 0),(3,.i Xq),(4,.ptr 1 0 0 0),(8,.d (Qbg true a0.Log)),(9,.i (a0.Log.length:Int)),(10,.i Xq),(19,.b (!v1))],(Xk.q1 a0 Xq)⟩ ?_
     refine qI ?_
     rcases sB H with ⟨c4,H⟩ | ⟨c4,H⟩
     ·refine qB hT 0 (show (!v1)=false by rw [c4];rfl) ?_
      refine qE hT 3 (K55 1101001100100 8) ⟨103,[(1,.ptr 0 0 0 0),(3,.i Xq),(4,.ptr 1 0 0 0),(8,.d (Qbg true a0.Log)),(9,.i (a0.Log.length:Int)),(10,.i Xq),(19,.b false),(20,.d (Qe9 a0)),(22,.d (Qb5 ((Xk.q2 a0 Xq).M)))],(Xk.q1 a0 Xq)⟩ ?_
      obtain ⟨v2,h5,H⟩:=sbC H
      refine qI ?_
      refine qF hT 0 hP Qwd (Qgc.Qy a0 ((Xk.q2 a0 Xq).M) h5) ?_
      refine qE hT 3 (K55 1101001100100 12) ⟨103,[(1,.ptr 0 0 0 0),(3,.i Xq),(4,.ptr 1 0 0 0),(8,.d (Qbg true a0.Log)),(9,.i (a0.Log.length:Int)),(10,.i Xq),(26,.b (!v2))],(Xk.q1 a0 Xq)⟩ ?_
      refine qI ?_
      rcases sB H with ⟨c6,H⟩ | ⟨c6,H⟩
      ·refine qB hT 0 (show (!v2)=false by rw [c6];rfl) ?_
       refine qE hT 4 (K55 1101001100100 16) ⟨103,[(1,.ptr 0 0 0 0),(3,.i Xq),(4,.ptr 1 0 0 0),(8,.d (Qbg true a0.Log)),(9,.i (a0.Log.length:Int)),(10,.i Xq),(26,.b false),(28,.i ((Xk.q2 a0 Xq).Time)),(30,.i a0.Clock)],(Xk.q1 a0 Xq)⟩ ?_
       refine qI ?_
       refine qF hT 0 hP Qfh (Qbj.Qy ((Xk.q2 a0 Xq).Time) 0 a0.Clock) ?_
       exact qE hT 3 _ _ (Xy (!(Qbj ((Xk.q2 a0 Xq).Time) 0 a0.Clock)) H)
      refine qB hT 0 (show (!v2)=true by rw [Jo c6];rfl) ?_
      exact qE hT 8 _ _ (Xy true H)
     refine qB hT 0 (show (!v1)=true by rw [Jo c4];rfl) ?_
     exact qE hT 15 _ _ (Xy true H)
    refine qB hT 5 (decide_eq_false c1) ?_
    obtain rfl:=Xr H
    exact qT hT 13 hf hX h0 [] an (.d (.v _))
 obtain ⟨n,H⟩:=Qbp H
 exact (L n) 0 H
theorem Zv.Qy {t0:Bool} {ff1:FuncId} {cc1:List DV} (a0:List Qr) (p1:Qr->Option Bool) (he1:Sy.Enters Tryz.prog ff1) (hp1:∀ (z0:Qr) r,p1 z0=some r->Xz Tryz.prog ff1 [] ([.d (Qtg z0)] ++ List.map AV.d cc1) [] (.b r)) {r:Int} (H:Zv a0 p1=some r):Xz Tryz.prog 131 [] [.d (Qfa t0 a0),.d (.fn ff1 cc1)] [] (.i r):=by
 refine Xj Tryz.func131 rfl (nt:=19) rfl (lb rfl) fun X hP h0 hX=>?_
 have hT:Xb X.P T:=hP▸tok
 have hf:X.P.funcs[131]? = some Tryz.f131:=hP▸Tryz.func131
 refine Xl hT 13 (Qxu 11010 0) ⟨19,[(0,.d (Qfa t0 a0)),(1,.d (.fn ff1 cc1)),(7,.i (a0.length:Int)),(8,.i 0)],[]⟩ ?_
 have L:∀ n,(∀ (Xd:Int),iter (Zv.step a0 p1) n (.l1 Xd)=some r->AK X 131 ((Qxu 11010 0)) (Yc X [] (.i r)) ⟨19,[(0,.d (Qfa t0 a0)),(1,.d (.fn ff1 cc1)),(7,.i (a0.length:Int)),(8,.i Xd)],[]⟩):=by
  intro n
  induction n with
  | zero=>exact fun _ H=>Qal H
  | succ n ih=>
   ·intro Xd H
    refine qI ?_
    rcases sB H with ⟨c1,H⟩ | ⟨c1,H⟩
    ·refine qB hT 5 (decide_eq_true c1) ?_
     refine qE hT 14 (Qxu 110100110010 3) ⟨19,[(0,.d (Qfa t0 a0)),(1,.d (.fn ff1 cc1)),(5,.i Xd),(7,.i (a0.length:Int)),(8,.i Xd),(11,.d (.fn ff1 cc1)),(12,.d (Qfa t0 a0)),(13,.i Xd)],[]⟩ ?_
     obtain ⟨h2,H⟩:=sC H
     refine qI ?_
     refine qX hT 0 h2 ?_
     refine qE hT 1 (Qxu 110100110010 5) ⟨19,[(0,.d (Qfa t0 a0)),(1,.d (.fn ff1 cc1)),(5,.i Xd),(7,.i (a0.length:Int)),(8,.i Xd),(11,.d (.fn ff1 cc1)),(15,.d (Qtg (a0.getD Xd.toNat Qr.z)))],[]⟩ ?_
     obtain ⟨v1,h3,H⟩:=sbC H
     refine Jj (Zk:=[.d (Qtg (a0.getD Xd.toNat Qr.z))] ++ List.map AV.d cc1) (dst:=some 16) (k':=(Qxu 110100110010 6)) [0,1,5,7,8,16] [] hP he1 (hp1 (a0.getD Xd.toNat Qr.z) v1 h3) (by kernel_rfl) (Jy _) (.cons (Wj _) (Qgq _)) (st':=⟨19,[(0,.d (Qfa t0 a0)),(1,.d (.fn ff1 cc1)),(5,.i Xd),(7,.i (a0.length:Int)),(8,.i Xd),(16,.b v1)],[]⟩) (by kernel_rfl) ?_
     refine qI ?_
     rcases sB H with ⟨c4,H⟩ | ⟨c4,H⟩
     ·refine qB hT 1 (c4) ?_
      obtain rfl:=Xr H
      exact qT hT 6 hf hX h0 [] an (.d (.v _))
     refine qB hT 1 (Jo c4) ?_
     exact qE hT 8 _ _ (ih (IntKind.wrap .i64 (Xd+1)) H)
    refine qB hT 5 (decide_eq_false c1) ?_
    obtain rfl:=Xr H
    exact qT hT 6 hf hX h0 [] an (.d (.v _))
 obtain ⟨n,H⟩:=Qbp H
 exact (L n) 0 H
theorem Qd4.Qy (a0:Qr) (k0:Int) (k1:Int):Xz Tryz.prog 132 [] [.d (Qtg a0),.d (.rop false 1 (fun _=>[.i k0]) 0 0),.d (.rop false 1 (fun _=>[.i k1]) 0 0)] [] (.b (Qd4 a0 k0 k1)):=by
 obtain ⟨r,H⟩:∃ r,Qd4 a0 k0 k1=r:=⟨_,rfl⟩
 rw [H]
 refine Xj Tryz.func132 rfl (nt:=17) rfl (lb rfl) fun X hP h0 hX=>?_
 have hT:Xb X.P T:=hP▸tok
 have hf:X.P.funcs[132]? = some Tryz.f132:=hP▸Tryz.func132
 have Xy:∀ (Qd3:Bool),(Qd4.j1 Qd3)=r->AK X 132 ((Wlc 11 1)) (Yc X [] (.b r)) ⟨17,[(4,.b Qd3)],[]⟩:=by
  intro Qd3 H
  obtain rfl:=H
  exact Qc0 hf hX h0 (.b Qd3) [] an (.d (.v _))
 refine Xl hT 13 (Wlc 110 6) ⟨17,[(2,.d (.rop false 1 (fun _=>[.i k1]) 0 0)),(3,.ptr 0 0 0 0),(10,.b (a0.M.Client == k0))],[.box 94 (Qtd a0)]⟩ ?_
 by_cases c1:a0.M.Client=k0
 ·replace H:=iT c1 H
  rw [eqT c1]
  exact Yp hT 8 _ [] _ h0 (Xy (a0.M.Seq == k1) H)
 replace H:=iF c1 H
 rw [eqF c1]
 exact Yp hT 8 _ [] _ h0 (Xy false H)
theorem Qkp.Qy (a0:Qm) (a1:Int) (a2:Int) {r:Int} (H:Qkp a0 a1 a2=some r):Xz Tryz.prog 89 [] [.d (Qe9 a0),.i a1,.i a2] [] (.i r):=by
 refine Xj Tryz.func89 rfl (nt:=11) rfl (lb rfl) fun X hP h0 hX=>?_
 have hT:Xb X.P T:=hP▸tok
 have hf:X.P.funcs[89]? = some Tryz.f89:=hP▸Tryz.func89
 refine Xl hT 12 (K89 110 3) ⟨11,[(8,.d (Qfa true a0.Held)),(9,.fn 132 [.ptr 1 0 0 0,.ptr 2 0 0 0])],[.box 44 (Jd a0),.box 3 [.i a1],.box 3 [.i a2]]⟩ ?_
 obtain ⟨v1,h1,H⟩:=ibC H
 refine Jj (Zk:=[.d (Qfa true a0.Held),.fn 132 [.ptr 1 0 0 0,.ptr 2 0 0 0]]) (dst:=some 10) (k':=(K89 110 4)) [10] [] hP Wb4 (Zv.Qy (t0:=true) (ff1:=132) (cc1:=[.rop false 1 (fun _=>[.i a1]) 0 0,.rop false 1 (fun _=>[.i a2]) 0 0]) a0.Held (fun z0=>some (Qd4 z0 a1 a2)) Wb5 (fun z0 r h=>by obtain rfl:=Xr h;exact Qd4.Qy z0 a1 a2) h1) (by kernel_rfl) (Jy _) (.cons (Wj _) (.cons (.fn 132 (.cons (.look (ty:=3) (cs:=[.i a1]) (by kernel_rfl) rfl) (.cons (.look (ty:=3) (cs:=[.i a2]) (by kernel_rfl) rfl) .nil))) .nil)) (st':=⟨11,[(10,.i v1)],[.box 44 (Jd a0),.box 3 [.i a1],.box 3 [.i a2]]⟩) (by kernel_rfl) ?_
 refine qI ?_
 obtain rfl:=Xr H
 exact qT hT 2 hf hX h0 [] an (.d (.v _))
theorem Qgx.Qy (a0:Qr):Xz Tryz.prog 90 [] [.d (Qtg a0)] [] (.d (Qf0 (Qgx a0))):=by
 obtain ⟨r,H⟩:∃ r,Qgx a0=r:=⟨_,rfl⟩
 rw [H]
 refine Xj Tryz.func90 rfl (nt:=8) rfl (lb rfl) fun X hP h0 hX=>?_
 have hT:Xb X.P T:=hP▸tok
 have hf:X.P.funcs[90]? = some Tryz.f90:=hP▸Tryz.func90
 refine Xl hT 11 (K90 110 4) ⟨8,[(2,.ptr 1 0 0 0),(4,.i a0.Time),(6,.d (Qb5 a0.M))],[.box 94 (Qtd a0),.box 65 [.i 0,.i 0,.i 0]]⟩ ?_
 refine Jj (Zk:=[.i a0.Time,.d (Qb5 a0.M)]) (dst:=some 7) (k':=(K90 110 5)) [2,7] [] hP Qkr (Qbr.Qy a0.Time a0.M) (by kernel_rfl) (Jy _) (.cons (Wj _) (.cons (Wj _) .nil)) (st':=⟨8,[(2,.ptr 1 0 0 0),(7,.d (Qf0 (Qbr a0.Time a0.M)))],[.box 94 (Qtd a0),.box 65 [.i 0,.i 0,.i 0]]⟩) (by kernel_rfl) ?_
 obtain ⟨v1,h1,H⟩:=idC H
 rw [<- h1]
 refine Xl hT 2 (K90 11 1) ⟨8,[(2,.ptr 1 0 0 0)],[.box 94 (Qtd a0),.box 65 (Qpc v1)]⟩ ?_
 obtain rfl:=H
 exact Qhw hT hf hX (av:=.d (Qf0 v1)) (by kernel_rfl) [] (Qbu (by kernel_rfl)) (by decide) (by rw [h0];rfl) (by kernel_rfl) an (.d (.agg (Jk.nl _)))
abbrev Xh.q1 (a0:Qm) (Ju:Int):List Row:=[.box 44 (Jd a0),.box 94 (Qtd (a0.Held.getD Ju.toNat Qr.z))]
abbrev Xh.q2 (a0:Qm):=(a0.Log.getD ((IntKind.wrap .i64 ((a0.Log.length:Int) - 1)).toNat) Qc.z)
abbrev Xh.q3 (a0:Qm):=(IntKind.wrap .i64 ((a0.Log.length:Int) - 1))
abbrev Xh.q4 (a0:Qm) (Ju:Int):=(a0.Held.getD Ju.toNat Qr.z)
abbrev Xh.p0 (a0:Qm):List (Nat × AV):=[(1,.ptr 0 0 0 0),(9,.d (Qfa true a0.Held)),(10,.i (a0.Held.length:Int))]
theorem Xh.Qy (a0:Qm) {r:Bool} (H:Xh a0=some r):Xz Tryz.prog 56 [] [.d (Qe9 a0)] [] (.b r):=by
 refine Xj Tryz.func56 rfl (nt:=85) rfl (lb rfl) fun X hP h0 hX=>?_
 have hT:Xb X.P T:=hP▸tok
 have hf:X.P.funcs[56]? = some Tryz.f56:=hP▸Tryz.func56
 refine Xl hT 15 (K56 11010 0) ⟨85,(Xh.p0 a0++[(11,.i 0)]),[.box 44 (Jd a0)]⟩ ?_
 have L:∀ n,(∀ (Ju:Int),iter (Xh.step a0) n (.l1 Ju)=some r->AK X 56 ((K56 11010 0)) (Yc X [] (.b r)) ⟨85,(Xh.p0 a0++[(11,.i Ju)]),[.box 44 (Jd a0)]⟩):=by
  intro n
  induction n with
  | zero=>exact fun _ H=>Qal H
  | succ n ih=>
   ·intro Ju H
    refine qI ?_
    rcases sB H with ⟨c1,H⟩ | ⟨c1,H⟩
    ·refine qB hT 5 (decide_eq_true c1) ?_
     refine qE hT 7 (K56 11010011000 1) ⟨85,(Xh.p0 a0++[(11,.i Ju),(13,.i Ju)]),[.box 44 (Jd a0)]⟩ ?_
     obtain ⟨h2,H⟩:=sC H
     refine qI ?_
     refine qX hT 0 h2 ?_
     refine qE hT 10 (K56 1101001100100 2) ⟨85,[(1,.ptr 0 0 0 0),(3,.i Ju),(4,.ptr 1 0 0 0),(9,.d (Qfa true a0.Held)),(10,.i (a0.Held.length:Int)),(11,.i Ju),(17,.d (Qb5 ((Xh.q4 a0 Ju).M)))],(Xh.q1 a0 Ju)⟩ ?_
     obtain ⟨v1,h3,H⟩:=sbC H
     have Xy:∀ (Qsa:Bool),stk (Xh.j1 a0 Ju Qsa) (iter (Xh.step a0) n)=some r->AK X 56 ((K56 110100110010 1)) (Yc X [] (.b r)) ⟨85,[(1,.ptr 0 0 0 0),(4,.ptr 1 0 0 0),(9,.d (Qfa true a0.Held)),(10,.i (a0.Held.length:Int)),(11,.i Ju),(46,.b Qsa)],(Xh.q1 a0 Ju)⟩:=by
      intro Qsa H
      by_cases c9:Qsa=true
      ·replace H:=sT c9 H
       rw [c9]
       refine qI ?_
       obtain rfl:=Xr H
       exact qT hT 5 hf hX h0 [] an (.d (.v _))
      replace H:=sF c9 H
      rw [Jo c9]
      refine qI ?_
      obtain ⟨v4,h10,H⟩:=sbC H
      refine qF hT 12 hP Qwe (Qic.Qy a0 (((Xh.q4 a0 Ju).M).Client) (((Xh.q4 a0 Ju).M).Seq) h10) ?_
      refine qE hT 10 (K56 11010011001101 1) ⟨85,[(1,.ptr 0 0 0 0),(4,.ptr 1 0 0 0),(9,.d (Qfa true a0.Held)),(10,.i (a0.Held.length:Int)),(11,.i Ju),(58,.b v4.2)],(Xh.q1 a0 Ju)⟩ ?_
      by_cases c11:v4.2=true
      ·replace H:=sT c11 H
       rw [c11]
       refine qI ?_
       obtain rfl:=Xr H
       exact qT hT 5 hf hX h0 [] an (.d (.v _))
      replace H:=sF c11 H
      have Jj2:∀ (Qsl:Bool),stk (Xh.j2 Ju Qsl) (iter (Xh.step a0) n)=some r->AK X 56 ((K56 11010011001111 1)) (Yc X [] (.b r)) ⟨85,(Xh.p0 a0++[(11,.i Ju),(83,.b Qsl)]),[.box 44 (Jd a0)]⟩:=by
       intro Qsl H
       by_cases c15:Qsl=true
       ·replace H:=sT c15 H
        rw [c15]
        refine qI ?_
        obtain rfl:=Xr H
        exact qT hT 5 hf hX h0 [] an (.d (.v _))
       replace H:=sF c15 H
       rw [Jo c15]
       exact Xl hT 8 _ _ (ih (IntKind.wrap .i64 (Ju+1)) H)
      rw [Jo c11]
      refine Xl hT 11 (K56 11010011001111 0) ⟨85,[(1,.ptr 0 0 0 0),(4,.ptr 1 0 0 0),(7,.i (Xh.q3 a0)),(9,.d (Qfa true a0.Held)),(10,.i (a0.Held.length:Int)),(11,.i Ju)],(Xh.q1 a0 Ju)⟩ ?_
      by_cases c12:(Xh.q3 a0)>=0
      ·replace H:=sT c12 H
       obtain ⟨h13,H⟩:=sC H
       obtain ⟨v5,h14,H⟩:=sbC H
       refine Qak (hP▸mixed) 21 [1,4,7,9,10,11] (sm [.i (Xh.q3 a0),.b true,.b true,.d (Qtg (Xh.q4 a0 Ju)),.d (Qf0 (Qgx (Xh.q4 a0 Ju))),.ptr 0 0 0 8,.d (Qbg true a0.Log),.i (Xh.q3 a0),.d (Qh0 true a0.Log ((Xh.q3 a0).toNat) 0),.d (Qh0 true a0.Log ((Xh.q3 a0).toNat) 7),.i ((Xh.q2 a0).Time),.ptr 0 0 0 8,.d (Qbg true a0.Log),.i (Xh.q3 a0),.d (Qh0 true a0.Log ((Xh.q3 a0).toNat) 0),.d (Qh0 true a0.Log ((Xh.q3 a0).toNat) 0),.d (Qb5 ((Xh.q2 a0).M)),.d (Qf0 (Qbr ((Xh.q2 a0).Time) ((Xh.q2 a0).M))),.i v5,.b (decide (v5 < 0)),.b (decide (v5 < 0))]) (Qe (Qe (Jr (Jr (Qe (Qe (Jr (Qe (Qe (Qe (Qe (Qe (Jr (Qe (Qe (Qe (Jr (Qe (Qe (opV (Qe op0 hT) hT 64 (.b (decide ((Xh.q3 a0)>=0))) (.b true) (by rw [decide_eq_true c12]<;>rfl)) hT) hT) (fun R rest h=>Zl (Zk:=[.d (Qtg (Xh.q4 a0 Ju))]) (dst:=some 67) hP Wf1 (Qgx.Qy (Xh.q4 a0 Ju)) (by kernel_rfl) (.cons (Wj _) .nil) (by kernel_rfl) h)) hT) hT) hT) (fun R rest h=>Yf hT (i:=IntKind.wrap .i64 ((a0.Log.length:Int) - 1)) (n:=(a0.Log.length:Int)) h13.1 h13.2 (by kernel_rfl) h)) hT) hT) hT) hT) hT) (fun R rest h=>Yf hT (i:=IntKind.wrap .i64 ((a0.Log.length:Int) - 1)) (n:=(a0.Log.length:Int)) h13.1 h13.2 (by kernel_rfl) h)) hT) hT) (fun R rest h=>Zl (Zk:=[.i ((Xh.q2 a0).Time),.d (Qb5 ((Xh.q2 a0).M))]) (dst:=some 80) hP Qkr (Qbr.Qy ((Xh.q2 a0).Time) ((Xh.q2 a0).M)) (by kernel_rfl) (.cons (Wj _) (.cons (Wj _) .nil)) (by kernel_rfl) h)) (fun R rest h=>Zl (Zk:=[.d (Qf0 (Qgx (Xh.q4 a0 Ju))),.d (Qf0 (Qbr ((Xh.q2 a0).Time) ((Xh.q2 a0).M)))]) (dst:=some 81) hP Qnq (Qcw.Qy (Qgx (Xh.q4 a0 Ju)) (Qbr ((Xh.q2 a0).Time) ((Xh.q2 a0).M)) h14) (by kernel_rfl) (.cons (Wj _) (.cons (Wj _) .nil)) (by kernel_rfl) h)) hT) hT) ?_
       exact Yp hT 1 _ [0] _ h0 (Jj2 (decide (v5 < 0)) H)
      replace H:=sF c12 H
      refine Qak (hP▸mixed) 21 [1,4,7,9,10,11] (sm [.i (Xh.q3 a0),.b false,.b false,.Qn [],.Qn [],.Qn [],.Qn [],.Qn [],.Qn [],.Qn [],.Qn [],.Qn [],.Qn [],.Qn [],.Qn [],.Qn [],.Qn [],.Qn [],.Qn [],.Qn [],.b false]) (Qe (Qe (Qe (Qe (Qe (Qe (Qe (Qe (Qe (Qe (Qe (Qe (Qe (Qe (Qe (Qe (Qe (Qe (Qe (opV (Qe op0 hT) hT 64 (.b (decide ((Xh.q3 a0)>=0))) (.b false) (by rw [decide_eq_false c12]<;>rfl)) hT) hT) hT) hT) hT) hT) hT) hT) hT) hT) hT) hT) hT) hT) hT) hT) hT) hT) hT) ?_
      exact Yp hT 1 _ [0] _ h0 (Jj2 false H)
     refine qI ?_
     refine qF hT 0 hP Qid (Qbx.Qy ((Xh.q4 a0 Ju).M) h3) ?_
     refine qE hT 2 (K56 1101001100100 5) ⟨85,[(1,.ptr 0 0 0 0),(3,.i Ju),(4,.ptr 1 0 0 0),(9,.d (Qfa true a0.Held)),(10,.i (a0.Held.length:Int)),(11,.i Ju),(20,.b (!v1))],(Xh.q1 a0 Ju)⟩ ?_
     refine qI ?_
     rcases sB H with ⟨c4,H⟩ | ⟨c4,H⟩
     ·refine qB hT 0 (show (!v1)=false by rw [c4];rfl) ?_
      refine qE hT 3 (K56 1101001100100 8) ⟨85,[(1,.ptr 0 0 0 0),(3,.i Ju),(4,.ptr 1 0 0 0),(9,.d (Qfa true a0.Held)),(10,.i (a0.Held.length:Int)),(11,.i Ju),(20,.b false),(21,.d (Qe9 a0)),(23,.d (Qb5 ((Xh.q4 a0 Ju).M)))],(Xh.q1 a0 Ju)⟩ ?_
      obtain ⟨v2,h5,H⟩:=sbC H
      refine qI ?_
      refine qF hT 0 hP Qwd (Qgc.Qy a0 ((Xh.q4 a0 Ju).M) h5) ?_
      refine qE hT 3 (K56 1101001100100 12) ⟨85,[(1,.ptr 0 0 0 0),(3,.i Ju),(4,.ptr 1 0 0 0),(9,.d (Qfa true a0.Held)),(10,.i (a0.Held.length:Int)),(11,.i Ju),(27,.b (!v2))],(Xh.q1 a0 Ju)⟩ ?_
      refine qI ?_
      rcases sB H with ⟨c6,H⟩ | ⟨c6,H⟩
      ·refine qB hT 0 (show (!v2)=false by rw [c6];rfl) ?_
       refine qE hT 4 (K56 1101001100100 16) ⟨85,[(1,.ptr 0 0 0 0),(3,.i Ju),(4,.ptr 1 0 0 0),(9,.d (Qfa true a0.Held)),(10,.i (a0.Held.length:Int)),(11,.i Ju),(27,.b false),(29,.i ((Xh.q4 a0 Ju).Time)),(31,.i a0.Clock)],(Xh.q1 a0 Ju)⟩ ?_
       refine qI ?_
       refine qF hT 0 hP Qfh (Qbj.Qy ((Xh.q4 a0 Ju).Time) 1 a0.Clock) ?_
       refine qE hT 3 (K56 1101001100100 20) ⟨85,[(1,.ptr 0 0 0 0),(3,.i Ju),(4,.ptr 1 0 0 0),(9,.d (Qfa true a0.Held)),(10,.i (a0.Held.length:Int)),(11,.i Ju),(35,.b (!(Qbj ((Xh.q4 a0 Ju).Time) 1 a0.Clock)))],(Xh.q1 a0 Ju)⟩ ?_
       refine qI ?_
       rcases sB H with ⟨c7,H⟩ | ⟨c7,H⟩
       ·refine qB hT 0 (show (!(Qbj ((Xh.q4 a0 Ju).Time) 1 a0.Clock))=false by rw [c7];rfl) ?_
        refine qE hT 7 (K56 1101001100100 27) ⟨85,[(1,.ptr 0 0 0 0),(3,.i Ju),(4,.ptr 1 0 0 0),(9,.d (Qfa true a0.Held)),(10,.i (a0.Held.length:Int)),(11,.i Ju),(35,.b false),(36,.d (Qe9 a0)),(39,.i (((Xh.q4 a0 Ju).M).Client)),(42,.i (((Xh.q4 a0 Ju).M).Seq))],(Xh.q1 a0 Ju)⟩ ?_
        obtain ⟨v3,h8,H⟩:=sbC H
        refine qI ?_
        refine qF hT 0 hP Wf0 (Qkp.Qy a0 (((Xh.q4 a0 Ju).M).Client) (((Xh.q4 a0 Ju).M).Seq) h8) ?_
        exact qE hT 4 _ _ (Xy (v3 != Ju) H)
       refine qB hT 0 (show (!(Qbj ((Xh.q4 a0 Ju).Time) 1 a0.Clock))=true by rw [Jo c7];rfl) ?_
       exact qE hT 12 _ _ (Xy true H)
      refine qB hT 0 (show (!v2)=true by rw [Jo c6];rfl) ?_
      exact qE hT 20 _ _ (Xy true H)
     refine qB hT 0 (show (!v1)=true by rw [Jo c4];rfl) ?_
     exact qE hT 27 _ _ (Xy true H)
    refine qB hT 5 (decide_eq_false c1) ?_
    obtain rfl:=Xr H
    exact qT hT 6 hf hX h0 [] an (.d (.v _))
 obtain ⟨n,H⟩:=Qbp H
 exact (L n) 0 H
theorem Qa9.Qy (a0:Qm) {r:Bool} (H:Qa9 a0=some r):Xz Tryz.prog 19 [] [.d (Qe9 a0)] [] (.b r):=by
 refine Xj Tryz.func19 rfl (nt:=70) rfl (lb rfl) fun X hP h0 hX=>?_
 have hT:Xb X.P T:=hP▸tok
 have hf:X.P.funcs[19]? = some Tryz.f19:=hP▸Tryz.func19
 have Xy:∀ (Qr2:Bool),(Qa9.j1 a0 Qr2)=some r->AK X 19 ((K19 110 1)) (Yc X [] (.b r)) ⟨70,[(1,.ptr 0 0 0 0),(28,.b Qr2)],[.box 44 (Jd a0)]⟩:=by
  intro Qr2 H
  by_cases c4:Qr2=true
  ·replace H:=iT c4 H
   rw [c4]
   refine qI ?_
   obtain rfl:=Xr H
   exact qT hT 5 hf hX h0 [] an (.d (.v _))
  replace H:=iF c4 H
  rw [Jo c4]
  refine Xl hT 4 (K19 1110 0) ⟨70,[(1,.ptr 0 0 0 0)],[.box 44 (Jd a0)]⟩ ?_
  obtain ⟨v1,h5,H⟩:=ibC H
  have Jj2:∀ (Qj2:Bool),(Qa9.j2 a0 Qj2)=some r->AK X 19 ((K19 1110 1)) (Yc X [] (.b r)) ⟨70,[(1,.ptr 0 0 0 0),(59,.b Qj2)],[.box 44 (Jd a0)]⟩:=by
   intro Qj2 H
   by_cases c11:Qj2=true
   ·replace H:=iT c11 H
    rw [c11]
    refine qI ?_
    obtain rfl:=Xr H
    exact qT hT 5 hf hX h0 [] an (.d (.v _))
   replace H:=iF c11 H
   rw [Jo c11]
   refine qI ?_
   obtain ⟨v3,h12,H⟩:=ibC H
   have Jj3:∀ (Qkn:Bool),(Qa9.j3 Qkn)=some r->AK X 19 ((K19 1111 1)) (Yc X [] (.b r)) ⟨70,[(2,.b Qkn)],[]⟩:=by
    intro Qkn H
    obtain rfl:=Xr H
    exact Qc0 hf hX h0 (.b Qkn) [] an (.d (.v _))
   refine qF hT 5 hP Wfh (Xt.Qy a0 h12) ?_
   refine qE hT 1 (K19 11110 3) ⟨70,[(1,.ptr 0 0 0 0),(62,.b v3)],[.box 44 (Jd a0)]⟩ ?_
   refine qI ?_
   rcases iB H with ⟨c13,H⟩ | ⟨c13,H⟩
   ·refine qB hT 0 (c13) ?_
    refine qE hT 1 (K19 11110 4) ⟨70,[(1,.ptr 0 0 0 0),(62,.b true),(63,.d (Qe9 a0))],[.box 44 (Jd a0)]⟩ ?_
    obtain ⟨v4,h14,H⟩:=ibC H
    refine qI ?_
    refine qF hT 0 hP Wfi (Xk.Qy a0 h14) ?_
    refine qE hT 2 (K19 11110 7) ⟨70,[(1,.ptr 0 0 0 0),(66,.b v4)],[.box 44 (Jd a0)]⟩ ?_
    refine qI ?_
    rcases iB H with ⟨c15,H⟩ | ⟨c15,H⟩
    ·refine qB hT 0 (c15) ?_
     refine qE hT 1 (K19 11110 8) ⟨70,[(66,.b true),(67,.d (Qe9 a0))],[.box 44 (Jd a0)]⟩ ?_
     obtain ⟨v5,h16,H⟩:=ibC H
     refine qI ?_
     refine qF hT 0 hP Wfj (Xh.Qy a0 h16) ?_
     exact qC hT 3 _ [] _ h0 (Jj3 v5 H)
    refine qB hT 0 (Jo c15) ?_
    exact qC hT 5 _ [] _ h0 (Jj3 false H)
   refine qB hT 0 (Jo c13) ?_
   exact qC hT 9 _ [] _ h0 (Jj3 false H)
  by_cases c6:v1=true
  ·replace H:=iT c6 H
   obtain ⟨v2,h7,H⟩:=ibC H
   by_cases c8:(v2.length:Int)=(a0.Base.length:Int)
   ·replace H:=iT c8 H
    by_cases c9:a0.Qag=true
    ·replace H:=iT c9 H
     by_cases c10:a0.Qa1=true
     ·replace H:=iT c10 H
      refine Qdv (nt:=70) (hP▸mixed) 31 [8,9] [1] [(1,.ptr 0 0 0 0)] (sm [.ptr 0 0 0 7,.d (Yi true a0.Base),.b true,.b false,.b false,.ptr 0 0 0 7,.d (Yi true a0.Base),.d (Qe9 a0),.own 1 2 0 ((Qa5 a0).length),.own 2 2 0 v2.length,.i (v2.length:Int),.ptr 0 0 0 7,.d (Yi true a0.Base),.i (a0.Base.length:Int),.b false,.b false,.b false,.ptr 0 0 0 5,.b true,.b true,.ptr 0 0 0 4,.b true,.b false,.b false,.ptr 0 0 0 6,.d (Qfa true a0.Held),.i (a0.Held.length:Int),.b (decide ((a0.Held.length:Int) > 0)),.b (decide ((a0.Held.length:Int) > 0)),.b (decide ((a0.Held.length:Int) > 0)),.b (decide ((a0.Held.length:Int) > 0))]) [[.box 44 (Jd a0)],[.box 44 (Jd a0),Qca (Qa5 a0)],[.box 44 (Jd a0),Qca (Qa5 a0),Zg v2]] (by kernel_rfl) (by kernel_rfl) (by kernel_rfl) (by kernel_rfl) ⟨?_,(fun R rest h=>Qib (Zk:=[.d (Qe9 a0)]) (dst:=some 37) hP Ql6 (Qa5.Qy a0) (by kernel_rfl) (.cons (Wj _) .nil) (by kernel_rfl) h),⟨?_,(fun R rest h=>Qib (Zk:=[.d (Yi true a0.Base),.own 1 2 0 ((Qa5 a0).length)]) (dst:=some 38) hP Qnt (Qap.Qy (t0:=true) (t1:=false) a0.Base (Qa5 a0) h7) (by kernel_rfl) (.cons (Wj _) (.cons (.Qog (ty:=39) (by kernel_rfl) rfl) .nil)) (by kernel_rfl) h),?_⟩⟩ ?_
      iterate 3 exact (Xa (Xa (Xa (Xa (Xa (Xa (Xa (Xa (Xa (Qlk (Xa (Xa (Qlk (Xa (Xa (Xa (Qlk (Xa (Xa (Xa (Xa (Qgz (Qgz (Xa (Xa (Xa (Xa (Xa (Qfc (Xa (Xa Qi6 hT) hT) (fun R rest h=>Zl (Zk:=[.d (Yi true a0.Base)]) (dst:=some 31) hP Qie (by have q:=Xn.Qy (t0:=true) a0.Base h5;rw [c6] at q;exact q) (by kernel_rfl) (.cons (Wj _) .nil) (by kernel_rfl) h)) hT) hT) hT) hT) hT))) hT) hT) hT) hT) hT 43 (.b ((v2.length:Int) != (a0.Base.length:Int))) (.b false) (by rw [neF c8]<;>rfl)) hT) hT) hT) hT 47 (.b a0.Qag) (.b true) (by rw [c9]<;>rfl)) hT) hT) hT 50 (.b a0.Qa1) (.b true) (by rw [c10]<;>rfl)) hT) hT) hT) hT) hT) hT) hT) hT) hT)
      exact Yp hT 1 _ [0] _ h0 (Jj2 (decide ((a0.Held.length:Int) > 0)) H)
     replace H:=iF c10 H
     refine Qdv (nt:=70) (hP▸mixed) 31 [8,9] [1] [(1,.ptr 0 0 0 0)] (sm [.ptr 0 0 0 7,.d (Yi true a0.Base),.b true,.b false,.b false,.ptr 0 0 0 7,.d (Yi true a0.Base),.d (Qe9 a0),.own 1 2 0 ((Qa5 a0).length),.own 2 2 0 v2.length,.i (v2.length:Int),.ptr 0 0 0 7,.d (Yi true a0.Base),.i (a0.Base.length:Int),.b false,.b false,.b false,.ptr 0 0 0 5,.b true,.b true,.ptr 0 0 0 4,.b false,.b true,.b true,.Qn [],.Qn [],.Qn [],.Qn [],.b true,.b true,.b true]) [[.box 44 (Jd a0)],[.box 44 (Jd a0),Qca (Qa5 a0)],[.box 44 (Jd a0),Qca (Qa5 a0),Zg v2]] (by kernel_rfl) (by kernel_rfl) (by kernel_rfl) (by kernel_rfl) ⟨?_,(fun R rest h=>Qib (Zk:=[.d (Qe9 a0)]) (dst:=some 37) hP Ql6 (Qa5.Qy a0) (by kernel_rfl) (.cons (Wj _) .nil) (by kernel_rfl) h),⟨?_,(fun R rest h=>Qib (Zk:=[.d (Yi true a0.Base),.own 1 2 0 ((Qa5 a0).length)]) (dst:=some 38) hP Qnt (Qap.Qy (t0:=true) (t1:=false) a0.Base (Qa5 a0) h7) (by kernel_rfl) (.cons (Wj _) (.cons (.Qog (ty:=39) (by kernel_rfl) rfl) .nil)) (by kernel_rfl) h),?_⟩⟩ ?_
     iterate 3 exact (Xa (Xa (Xa (Xa (Xa (Xa (Xa (Xa (Xa (Qlk (Xa (Xa (Qlk (Xa (Xa (Xa (Qlk (Xa (Xa (Xa (Xa (Qgz (Qgz (Xa (Xa (Xa (Xa (Xa (Qfc (Xa (Xa Qi6 hT) hT) (fun R rest h=>Zl (Zk:=[.d (Yi true a0.Base)]) (dst:=some 31) hP Qie (by have q:=Xn.Qy (t0:=true) a0.Base h5;rw [c6] at q;exact q) (by kernel_rfl) (.cons (Wj _) .nil) (by kernel_rfl) h)) hT) hT) hT) hT) hT))) hT) hT) hT) hT) hT 43 (.b ((v2.length:Int) != (a0.Base.length:Int))) (.b false) (by rw [neF c8]<;>rfl)) hT) hT) hT) hT 47 (.b a0.Qag) (.b true) (by rw [c9]<;>rfl)) hT) hT) hT 50 (.b a0.Qa1) (.b false) (by rw [Jo c10]<;>rfl)) hT) hT) hT) hT) hT) hT) hT) hT) hT)
     exact Yp hT 1 _ [0] _ h0 (Jj2 true H)
    replace H:=iF c9 H
    refine Qdv (nt:=70) (hP▸mixed) 31 [8,9] [1] [(1,.ptr 0 0 0 0)] (sm [.ptr 0 0 0 7,.d (Yi true a0.Base),.b true,.b false,.b false,.ptr 0 0 0 7,.d (Yi true a0.Base),.d (Qe9 a0),.own 1 2 0 ((Qa5 a0).length),.own 2 2 0 v2.length,.i (v2.length:Int),.ptr 0 0 0 7,.d (Yi true a0.Base),.i (a0.Base.length:Int),.b false,.b false,.b false,.ptr 0 0 0 5,.b false,.b false,.Qn [],.Qn [],.Qn [],.Qn [],.Qn [],.Qn [],.Qn [],.Qn [],.Qn [],.b false,.b false]) [[.box 44 (Jd a0)],[.box 44 (Jd a0),Qca (Qa5 a0)],[.box 44 (Jd a0),Qca (Qa5 a0),Zg v2]] (by kernel_rfl) (by kernel_rfl) (by kernel_rfl) (by kernel_rfl) ⟨?_,(fun R rest h=>Qib (Zk:=[.d (Qe9 a0)]) (dst:=some 37) hP Ql6 (Qa5.Qy a0) (by kernel_rfl) (.cons (Wj _) .nil) (by kernel_rfl) h),⟨?_,(fun R rest h=>Qib (Zk:=[.d (Yi true a0.Base),.own 1 2 0 ((Qa5 a0).length)]) (dst:=some 38) hP Qnt (Qap.Qy (t0:=true) (t1:=false) a0.Base (Qa5 a0) h7) (by kernel_rfl) (.cons (Wj _) (.cons (.Qog (ty:=39) (by kernel_rfl) rfl) .nil)) (by kernel_rfl) h),?_⟩⟩ ?_
    iterate 3 exact (Xa (Xa (Xa (Xa (Xa (Xa (Xa (Xa (Xa (Xa (Xa (Xa (Qlk (Xa (Xa (Xa (Qlk (Xa (Xa (Xa (Xa (Qgz (Qgz (Xa (Xa (Xa (Xa (Xa (Qfc (Xa (Xa Qi6 hT) hT) (fun R rest h=>Zl (Zk:=[.d (Yi true a0.Base)]) (dst:=some 31) hP Qie (by have q:=Xn.Qy (t0:=true) a0.Base h5;rw [c6] at q;exact q) (by kernel_rfl) (.cons (Wj _) .nil) (by kernel_rfl) h)) hT) hT) hT) hT) hT))) hT) hT) hT) hT) hT 43 (.b ((v2.length:Int) != (a0.Base.length:Int))) (.b false) (by rw [neF c8]<;>rfl)) hT) hT) hT) hT 47 (.b a0.Qag) (.b false) (by rw [Jo c9]<;>rfl)) hT) hT) hT) hT) hT) hT) hT) hT) hT) hT) hT) hT)
    exact Yp hT 1 _ [0] _ h0 (Jj2 false H)
   replace H:=iF c8 H
   refine Qdv (nt:=70) (hP▸mixed) 31 [8,9] [1] [(1,.ptr 0 0 0 0)] (sm [.ptr 0 0 0 7,.d (Yi true a0.Base),.b true,.b false,.b false,.ptr 0 0 0 7,.d (Yi true a0.Base),.d (Qe9 a0),.own 1 2 0 ((Qa5 a0).length),.own 2 2 0 v2.length,.i (v2.length:Int),.ptr 0 0 0 7,.d (Yi true a0.Base),.i (a0.Base.length:Int),.b true,.b true,.b true,.Qn [],.Qn [],.Qn [],.Qn [],.Qn [],.Qn [],.Qn [],.Qn [],.Qn [],.Qn [],.Qn [],.Qn [],.Qn [],.b true]) [[.box 44 (Jd a0)],[.box 44 (Jd a0),Qca (Qa5 a0)],[.box 44 (Jd a0),Qca (Qa5 a0),Zg v2]] (by kernel_rfl) (by kernel_rfl) (by kernel_rfl) (by kernel_rfl) ⟨?_,(fun R rest h=>Qib (Zk:=[.d (Qe9 a0)]) (dst:=some 37) hP Ql6 (Qa5.Qy a0) (by kernel_rfl) (.cons (Wj _) .nil) (by kernel_rfl) h),⟨?_,(fun R rest h=>Qib (Zk:=[.d (Yi true a0.Base),.own 1 2 0 ((Qa5 a0).length)]) (dst:=some 38) hP Qnt (Qap.Qy (t0:=true) (t1:=false) a0.Base (Qa5 a0) h7) (by kernel_rfl) (.cons (Wj _) (.cons (.Qog (ty:=39) (by kernel_rfl) rfl) .nil)) (by kernel_rfl) h),?_⟩⟩ ?_
   iterate 3 exact (Xa (Xa (Xa (Xa (Xa (Xa (Xa (Xa (Xa (Xa (Xa (Xa (Xa (Xa (Xa (Xa (Qlk (Xa (Xa (Xa (Xa (Qgz (Qgz (Xa (Xa (Xa (Xa (Xa (Qfc (Xa (Xa Qi6 hT) hT) (fun R rest h=>Zl (Zk:=[.d (Yi true a0.Base)]) (dst:=some 31) hP Qie (by have q:=Xn.Qy (t0:=true) a0.Base h5;rw [c6] at q;exact q) (by kernel_rfl) (.cons (Wj _) .nil) (by kernel_rfl) h)) hT) hT) hT) hT) hT))) hT) hT) hT) hT) hT 43 (.b ((v2.length:Int) != (a0.Base.length:Int))) (.b true) (by rw [neT c8]<;>rfl)) hT) hT) hT) hT) hT) hT) hT) hT) hT) hT) hT) hT) hT) hT) hT) hT)
   exact Yp hT 1 _ [0] _ h0 (Jj2 true H)
  replace H:=iF c6 H
  refine Qak (hP▸mixed) 31 [1] (sm [.ptr 0 0 0 7,.d (Yi true a0.Base),.b false,.b true,.b true,.Qn [],.Qn [],.Qn [],.Qn [],.Qn [],.Qn [],.Qn [],.Qn [],.Qn [],.Qn [],.b true,.b true,.Qn [],.Qn [],.Qn [],.Qn [],.Qn [],.Qn [],.Qn [],.Qn [],.Qn [],.Qn [],.Qn [],.Qn [],.Qn [],.b true]) (Qe (Qe (Qe (Qe (Qe (Qe (Qe (Qe (Qe (Qe (Qe (Qe (Qe (Qe (Qe (Qe (Qe (Qe (Qe (Qe (Qe (Qe (Qe (Qe (Qe (Qe (Qe (Qe (Jr (Qe (Qe op0 hT) hT) (fun R rest h=>Zl (Zk:=[.d (Yi true a0.Base)]) (dst:=some 31) hP Qie (by have q:=Xn.Qy (t0:=true) a0.Base h5;rw [Jo c6] at q;exact q) (by kernel_rfl) (.cons (Wj _) .nil) (by kernel_rfl) h)) hT) hT) hT) hT) hT) hT) hT) hT) hT) hT) hT) hT) hT) hT) hT) hT) hT) hT) hT) hT) hT) hT) hT) hT) hT) hT) hT) hT) ?_
  exact Xl hT 1 _ _ (Jj2 true H)
 refine qI ?_
 refine qF hT 10 hP Qfh (Qbj.Qy a0.ID 1 65536) ?_
 refine qE hT 2 (K19 1100 5) ⟨70,[(1,.ptr 0 0 0 0),(7,.b (!(Qbj a0.ID 1 65536)))],[.box 44 (Jd a0)]⟩ ?_
 refine qI ?_
 rcases iB H with ⟨c1,H⟩ | ⟨c1,H⟩
 ·refine qB hT 0 (show (!(Qbj a0.ID 1 65536))=false by rw [c1];rfl) ?_
  refine qE hT 2 (K19 1100 7) ⟨70,[(1,.ptr 0 0 0 0),(7,.b false),(9,.d (Qhd a0.Keys))],[.box 44 (Jd a0)]⟩ ?_
  refine qI ?_
  refine qF hT 0 hP Qjg (Qcd.Qy a0.Keys) ?_
  refine qE hT 3 (K19 1100 11) ⟨70,[(1,.ptr 0 0 0 0),(13,.b (!(Qcd a0.Keys)))],[.box 44 (Jd a0)]⟩ ?_
  refine qI ?_
  rcases iB H with ⟨c2,H⟩ | ⟨c2,H⟩
  ·refine qB hT 0 (show (!(Qcd a0.Keys))=false by rw [c2];rfl) ?_
   refine qE hT 2 (K19 1100 13) ⟨70,[(1,.ptr 0 0 0 0),(13,.b false),(15,.i a0.Clock)],[.box 44 (Jd a0)]⟩ ?_
   refine qI ?_
   refine qF hT 0 hP Qns (Qec.Qy a0.Clock) ?_
   refine qE hT 3 (K19 1100 17) ⟨70,[(1,.ptr 0 0 0 0),(19,.b (!(Qec a0.Clock)))],[.box 44 (Jd a0)]⟩ ?_
   refine qI ?_
   rcases iB H with ⟨c3,H⟩ | ⟨c3,H⟩
   ·refine qB hT 0 (show (!(Qec a0.Clock))=false by rw [c3];rfl) ?_
    exact qE hT 10 _ _ (Xy (decide ((IntKind.wrap .i64 ((a0.Held.length:Int)+(a0.Qs.length:Int))) > 1000)) H)
   refine qB hT 0 (show (!(Qec a0.Clock))=true by rw [Jo c3];rfl) ?_
   exact qE hT 10 _ _ (Xy true H)
  refine qB hT 0 (show (!(Qcd a0.Keys))=true by rw [Jo c2];rfl) ?_
  exact qE hT 16 _ _ (Xy true H)
 refine qB hT 0 (show (!(Qbj a0.ID 1 65536))=true by rw [Jo c1];rfl) ?_
 exact qE hT 22 _ _ (Xy true H)
theorem Qgf.Qy (a0:Qc) (a1:Qc):Xz Tryz.prog 22 [] [.d (Qff a0),.d (Qff a1)] [] (.b (Qgf a0 a1)):=by
 obtain ⟨r,H⟩:∃ r,Qgf a0 a1=r:=⟨_,rfl⟩
 rw [H]
 refine Xj Tryz.func22 rfl (nt:=21) rfl (lb rfl) fun X hP h0 hX=>?_
 have hT:Xb X.P T:=hP▸tok
 have hf:X.P.funcs[22]? = some Tryz.f22:=hP▸Tryz.func22
 have Xy:∀ (Qd3:Bool),(Qgf.j1 Qd3)=r->AK X 22 ((K22 11 1)) (Yc X [] (.b r)) ⟨21,[(4,.b Qd3)],[]⟩:=by
  intro Qd3 H
  obtain rfl:=H
  exact Qc0 hf hX h0 (.b Qd3) [] an (.d (.v _))
 refine Xl hT 16 (K22 110 8) ⟨21,[(2,.ptr 0 0 0 0),(3,.ptr 1 0 0 0),(12,.b (a0.M.Client == a1.M.Client))],[.box 50 (Qed a0),.box 50 (Qed a1)]⟩ ?_
 by_cases c1:a0.M.Client=a1.M.Client
 ·replace H:=iT c1 H
  rw [eqT c1]
  exact Yp hT 10 _ [] _ h0 (Xy (a0.M.Seq == a1.M.Seq) H)
 replace H:=iF c1 H
 rw [eqF c1]
 exact Yp hT 10 _ [] _ h0 (Xy false H)
theorem Qfe.Qy (a0:Qc) (k0:Qc):Xz Tryz.prog 21 [] [.d (Qff a0),.d (.rop false 1 (fun _=>[.i k0.M.Client,.i k0.M.Seq,.i k0.M.Kind,Yi true k0.M.Pairs,.i k0.M.Over.Lo,.i k0.M.Over.Hi,.i k0.M.Old,.i k0.Time,.b k0.Zw]) 0 0)] [] (.b (Qfe a0 k0)):=by
 obtain ⟨r,H⟩:∃ r,Qfe a0 k0=r:=⟨_,rfl⟩
 rw [H]
 refine Xj Tryz.func21 rfl (nt:=7) rfl (lb rfl) fun X hP h0 hX=>?_
 have hT:Xb X.P T:=hP▸tok
 have hf:X.P.funcs[21]? = some Tryz.f21:=hP▸Tryz.func21
 refine qI ?_
 refine qF hT 9 hP We5 (Qgf.Qy a0 k0) ?_
 obtain rfl:=H
 exact qT hT 2 hf hX h0 [] an (.d (.v _))
theorem Js.Qy {t0:Bool} {t1:Bool} (a0:List Qa) (a1:List Qa) {r:Bool} (H:Js a0 a1=some r):Xz Tryz.prog 91 [] [.d (Yi t0 a0),.d (Yi t1 a1)] [] (.b r):=by
 refine Xj Tryz.func91 rfl (nt:=26) rfl (lb rfl) fun X hP h0 hX=>?_
 have hT:Xb X.P T:=hP▸tok
 have hf:X.P.funcs[91]? = some Tryz.f91:=hP▸Tryz.func91
 refine Xl hT 13 (K91 110 1) ⟨26,[(0,.d (Yi t0 a0)),(1,.d (Yi t1 a1)),(10,.b ((a0.length:Int) != (a1.length:Int)))],[]⟩ ?_
 by_cases c1:(a0.length:Int)=(a1.length:Int)
 ·replace H:=iT c1 H
  rw [neF c1]
  refine Xl hT 11 (K91 111010 0) ⟨26,[(0,.d (Yi t0 a0)),(1,.d (Yi t1 a1)),(12,.i (a0.length:Int)),(13,.i 0)],[]⟩ ?_
  have L:∀ n,(∀ (Ja:Int),iter (Js.step a0 a1) n (.l1 Ja)=some r->AK X 91 ((K91 111010 0)) (Yc X [] (.b r)) ⟨26,[(0,.d (Yi t0 a0)),(1,.d (Yi t1 a1)),(12,.i (a0.length:Int)),(13,.i Ja)],[]⟩):=by
   intro n
   induction n with
   | zero=>exact fun _ H=>Qal H
   | succ n ih=>
    ·intro Ja H
     refine qI ?_
     rcases sB H with ⟨c2,H⟩ | ⟨c2,H⟩
     ·refine qB hT 5 (decide_eq_true c2) ?_
      refine qE hT 10 (K91 111010011001 0) ⟨26,[(0,.d (Yi t0 a0)),(1,.d (Yi t1 a1)),(5,.i Ja),(12,.i (a0.length:Int)),(13,.i Ja)],[]⟩ ?_
      obtain ⟨h3,H⟩:=sC H
      obtain ⟨h4,H⟩:=sC H
      refine Qak (hP▸mixed) 9 [0,1,5,12,13] (sm [.d (Yi t0 a0),.i Ja,.d (Qhq t0 a0 Ja.toNat 0),.d (Qhe (a0.getD Ja.toNat Qa.z)),.d (Yi t1 a1),.i Ja,.d (Qhq t1 a1 Ja.toNat 0),.d (Qhe (a1.getD Ja.toNat Qa.z)),.b (!((((a0.getD Ja.toNat Qa.z).Key) == ((a1.getD Ja.toNat Qa.z).Key)) && (((a0.getD Ja.toNat Qa.z).Val) == ((a1.getD Ja.toNat Qa.z).Val))))]) (Qe (Qe (Jr (Qe (Qe (Qe (Jr (Qe (Qe op0 hT) hT) (fun R rest h=>Yf hT (i:=Ja) (n:=(a0.length:Int)) h3.1 h3.2 (by kernel_rfl) h)) hT) hT) hT) (fun R rest h=>Yf hT (i:=Ja) (n:=(a1.length:Int)) h4.1 h4.2 (by kernel_rfl) h)) hT) hT) ?_
      refine Xl hT 1 (K91 111010011001 1) ⟨26,[(0,.d (Yi t0 a0)),(1,.d (Yi t1 a1)),(12,.i (a0.length:Int)),(13,.i Ja),(24,.b (!((((a0.getD Ja.toNat Qa.z).Key) == ((a1.getD Ja.toNat Qa.z).Key)) && (((a0.getD Ja.toNat Qa.z).Val) == ((a1.getD Ja.toNat Qa.z).Val)))))],[]⟩ ?_
      by_cases c5:((a0.getD Ja.toNat Qa.z).Key)=((a1.getD Ja.toNat Qa.z).Key)
      ·replace H:=sT c5 H
       rw [eqT c5]
       by_cases c6:((a0.getD Ja.toNat Qa.z).Val)=((a1.getD Ja.toNat Qa.z).Val)
       ·replace H:=sT c6 H
        rw [eqT c6]
        exact Xl hT 8 _ _ (ih (IntKind.wrap .i64 (Ja+1)) H)
       replace H:=sF c6 H
       rw [eqF c6]
       refine qI ?_
       obtain rfl:=Xr H
       exact qT hT 5 hf hX h0 [] an (.d (.v _))
      replace H:=sF c5 H
      rw [eqF c5]
      by_cases c7:((a0.getD Ja.toNat Qa.z).Val)=((a1.getD Ja.toNat Qa.z).Val)
      ·replace H:=sT c7 H
       rw [eqT c7]
       refine qI ?_
       obtain rfl:=Xr H
       exact qT hT 5 hf hX h0 [] an (.d (.v _))
      replace H:=sF c7 H
      rw [eqF c7]
      refine qI ?_
      obtain rfl:=Xr H
      exact qT hT 5 hf hX h0 [] an (.d (.v _))
     refine qB hT 5 (decide_eq_false c2) ?_
     obtain rfl:=Xr H
     exact qT hT 6 hf hX h0 [] an (.d (.v _))
  obtain ⟨n,H⟩:=Qbp H
  exact (L n) 0 H
 replace H:=iF c1 H
 rw [neT c1]
 refine qI ?_
 obtain rfl:=Xr H
 exact qT hT 5 hf hX h0 [] an (.d (.v _))
abbrev Qdh.p0:List (Nat × AV):=[(2,.ptr 0 0 0 0),(3,.ptr 1 0 0 0)]
theorem Qdh.Qy (a0:We) (a1:We) {r:Bool} (H:Qdh a0 a1=some r):Xz Tryz.prog 57 [] [.d (Qb5 a0),.d (Qb5 a1)] [] (.b r):=by
 refine Xj Tryz.func57 rfl (nt:=45) rfl (lb rfl) fun X hP h0 hX=>?_
 have hT:Xb X.P T:=hP▸tok
 have hf:X.P.funcs[57]? = some Tryz.f57:=hP▸Tryz.func57
 have Xy:∀ (Qd3:Bool),(Qdh.j1 Qd3)=some r->AK X 57 ((K57 11 1)) (Yc X [] (.b r)) ⟨45,[(4,.b Qd3)],[]⟩:=by
  intro Qd3 H
  obtain rfl:=Xr H
  exact Qc0 hf hX h0 (.b Qd3) [] an (.d (.v _))
 refine Xl hT 14 (K57 110 6) ⟨45,(Qdh.p0++[(10,.b (a0.Client == a1.Client))]),[.box 47 (Qaj a0),.box 47 (Qaj a1)]⟩ ?_
 by_cases c1:a0.Client=a1.Client
 ·replace H:=iT c1 H
  rw [eqT c1]
  refine Xl hT 7 (K57 110 13) ⟨45,(Qdh.p0++[(17,.b (a0.Seq == a1.Seq))]),[.box 47 (Qaj a0),.box 47 (Qaj a1)]⟩ ?_
  by_cases c2:a0.Seq=a1.Seq
  ·replace H:=iT c2 H
   rw [eqT c2]
   refine Xl hT 7 (K57 110 20) ⟨45,(Qdh.p0++[(24,.b (a0.Kind == a1.Kind))]),[.box 47 (Qaj a0),.box 47 (Qaj a1)]⟩ ?_
   by_cases c3:a0.Kind=a1.Kind
   ·replace H:=iT c3 H
    rw [eqT c3]
    refine Xl hT 7 (K57 110 27) ⟨45,(Qdh.p0++[(31,.b ((a0.Over.Lo == a1.Over.Lo) && (a0.Over.Hi == a1.Over.Hi)))]),[.box 47 (Qaj a0),.box 47 (Qaj a1)]⟩ ?_
    by_cases c4:a0.Over.Lo=a1.Over.Lo
    ·replace H:=iT c4 H
     rw [eqT c4]
     by_cases c5:a0.Over.Hi=a1.Over.Hi
     ·replace H:=iT c5 H
      rw [eqT c5]
      refine Xl hT 7 (K57 110 34) ⟨45,(Qdh.p0++[(38,.b (a0.Old == a1.Old))]),[.box 47 (Qaj a0),.box 47 (Qaj a1)]⟩ ?_
      by_cases c6:a0.Old=a1.Old
      ·replace H:=iT c6 H
       rw [eqT c6]
       refine qI ?_
       obtain ⟨v1,h7,H⟩:=ibC H
       refine qF hT 4 hP Wf2 (Js.Qy (t0:=true) (t1:=true) a0.Pairs a1.Pairs h7) ?_
       exact qC hT 3 _ [] _ h0 (Xy v1 H)
      replace H:=iF c6 H
      rw [eqF c6]
      exact Yp hT 8 _ [] _ h0 (Xy false H)
     replace H:=iF c5 H
     rw [eqF c5]
     exact Yp hT 15 _ [] _ h0 (Xy false H)
    replace H:=iF c4 H
    rw [eqF c4]
    by_cases c8:a0.Over.Hi=a1.Over.Hi
    ·replace H:=iT c8 H
     rw [eqT c8]
     exact Yp hT 15 _ [] _ h0 (Xy false H)
    replace H:=iF c8 H
    rw [eqF c8]
    exact Yp hT 15 _ [] _ h0 (Xy false H)
   replace H:=iF c3 H
   rw [eqF c3]
   exact Yp hT 22 _ [] _ h0 (Xy false H)
  replace H:=iF c2 H
  rw [eqF c2]
  exact Yp hT 29 _ [] _ h0 (Xy false H)
 replace H:=iF c1 H
 rw [eqF c1]
 exact Yp hT 36 _ [] _ h0 (Xy false H)
theorem Qe1.Qy (a0:Qc) (a1:Qc) {r:Bool} (H:Qe1 a0 a1=some r):Xz Tryz.prog 23 [] [.d (Qff a0),.d (Qff a1)] [] (.b r):=by
 refine Xj Tryz.func23 rfl (nt:=24) rfl (lb rfl) fun X hP h0 hX=>?_
 have hT:Xb X.P T:=hP▸tok
 have hf:X.P.funcs[23]? = some Tryz.f23:=hP▸Tryz.func23
 refine qI ?_
 obtain ⟨v1,h1,H⟩:=ibC H
 have Xy:∀ (Qd3:Bool),(Qe1.j1 Qd3)=some r->AK X 23 ((K23 11 1)) (Yc X [] (.b r)) ⟨24,[(4,.b Qd3)],[]⟩:=by
  intro Qd3 H
  obtain rfl:=Xr H
  exact Qc0 hf hX h0 (.b Qd3) [] an (.d (.v _))
 refine qF hT 12 hP Wfk (Qdh.Qy a0.M a1.M h1) ?_
 refine qE hT 1 (K23 110 6) ⟨24,[(2,.ptr 0 0 0 0),(3,.ptr 1 0 0 0),(10,.b v1)],[.box 50 (Qed a0),.box 50 (Qed a1)]⟩ ?_
 refine qI ?_
 rcases iB H with ⟨c2,H⟩ | ⟨c2,H⟩
 ·refine qB hT 0 (c2) ?_
  refine qE hT 7 (K23 110 13) ⟨24,[(2,.ptr 0 0 0 0),(3,.ptr 1 0 0 0),(17,.b (a0.Time == a1.Time))],[.box 50 (Qed a0),.box 50 (Qed a1)]⟩ ?_
  by_cases c3:a0.Time=a1.Time
  ·replace H:=iT c3 H
   rw [eqT c3]
   exact Yp hT 8 _ [] _ h0 (Xy (a0.Zw == a1.Zw) H)
  replace H:=iF c3 H
  rw [eqF c3]
  exact Yp hT 8 _ [] _ h0 (Xy false H)
 refine qB hT 0 (Jo c2) ?_
 exact qC hT 15 _ [] _ h0 (Xy false H)
abbrev Qt.q1 (Yt:List Qc) (Yr:Int):List AV:=[.i (((Yt.getD Yr.toNat Qc.z).M).Client),.i (((Yt.getD Yr.toNat Qc.z).M).Seq),.i (((Yt.getD Yr.toNat Qc.z).M).Kind),.own 2 2 0 ((((Yt.getD Yr.toNat Qc.z).M).Pairs).length),.i ((((Yt.getD Yr.toNat Qc.z).M).Over).Lo),.i ((((Yt.getD Yr.toNat Qc.z).M).Over).Hi),.i (((Yt.getD Yr.toNat Qc.z).M).Old),.i ((Yt.getD Yr.toNat Qc.z).Time),.b ((Yt.getD Yr.toNat Qc.z).Zw)]
abbrev Qt.q2 (Yt:List Qc) (Yr:Int):=(Yt.getD Yr.toNat Qc.z)
abbrev Qt.p0 (t0:Bool) (a0:List Qm):List (Nat × AV):=[(0,.d (Qbn t0 a0)),(4,.ns),(12,.d (Qbn t0 a0)),(13,.i (a0.length:Int))]
theorem Qt.Qy {t0:Bool} (a0:List Qm) {r:(List Qc) × Int} (H:Qt a0=some r):Xz Tryz.prog 7 [] [.d (Qbn t0 a0)] [Qb6 r.1] (.Qn [.own 0 9 0 r.1.length,.i r.2]):=by
 refine Xj Tryz.func7 rfl (nt:=66) rfl (lb rfl) fun X hP h0 hX=>?_
 have hT:Xb X.P T:=hP▸tok
 have hf:X.P.funcs[7]? = some Tryz.f7:=hP▸Tryz.func7
 refine Xl hT 18 (K7 111010 0) ⟨66,(Qt.p0 t0 a0++[(14,.i 0)]),[]⟩ ?_
 have L:∀ n,(∀ (Qf4:Int),iter (Qt.step a0) n (.l1 Qf4)=some r->AK X 7 ((K7 111010 0)) (Yc X [Qb6 r.1] (.Qn [.own 0 9 0 r.1.length,.i r.2])) ⟨66,(Qt.p0 t0 a0++[(14,.i Qf4)]),[]⟩)/\(∀ (Qho:Int) (Zm:List Qc),iter (Qt.step a0) n (.l2 Qho Zm)=some r->AK X 7 ((K7 1111010 0)) (Yc X [Qb6 r.1] (.Qn [.own 0 9 0 r.1.length,.i r.2])) ⟨66,[(4,.own 0 9 0 Zm.length),(22,.d (Qbn t0 a0)),(23,.i (a0.length:Int)),(24,.i Qho)],[Qb6 Zm]⟩)/\(∀ (Qef:Int) (Yt:List Qc) (Qek:Int) (Yr:Int) (Wm:List Qc),iter (Qt.step a0) n (.l3 Qef Yt Qek Yr Wm)=some r->AK X 7 ((K7 111101001100110 0)) (Yc X [Qb6 r.1] (.Qn [.own 0 9 0 r.1.length,.i r.2])) ⟨66,[(4,.own 0 9 0 Wm.length),(22,.d (Qbn t0 a0)),(23,.i (a0.length:Int)),(24,.i Qef),(29,.d (Qbg true Yt)),(30,.i Qek),(31,.i Yr)],[Qb6 Wm]⟩):=by
  intro n
  induction n with
  | zero=>exact ⟨fun _ H=>Qal H,fun _ _ H=>Qal H,fun _ _ _ _ _ H=>Qal H⟩
  | succ n ih=>
   refine ⟨?_, ?_, ?_⟩
   ·intro Qf4 H
    refine qI ?_
    rcases sB H with ⟨c1,H⟩ | ⟨c1,H⟩
    ·refine qB hT 5 (decide_eq_true c1) ?_
     refine qE hT 6 (K7 111010011000 0) ⟨66,(Qt.p0 t0 a0++[(14,.i Qf4)]),[]⟩ ?_
     obtain ⟨h2,H⟩:=sC H
     refine qI ?_
     refine qX hT 0 h2 ?_
     refine qE hT 7 (K7 1110100110010 1) ⟨66,(Qt.p0 t0 a0++[(14,.i Qf4),(18,.d (Qe9 (a0.getD Qf4.toNat Qm.z)))]),[.box 44 (Jd (a0.getD Qf4.toNat Qm.z))]⟩ ?_
     obtain ⟨v1,h3,H⟩:=sbC H
     refine qI ?_
     refine qF hT 0 hP Qv0 (Qa9.Qy (a0.getD Qf4.toNat Qm.z) h3) ?_
     refine qE hT 2 (K7 111010011001 1) ⟨66,(Qt.p0 t0 a0++[(14,.i Qf4),(20,.b (!v1))]),[.box 44 (Jd (a0.getD Qf4.toNat Qm.z))]⟩ ?_
     refine qI ?_
     rcases sB H with ⟨c4,H⟩ | ⟨c4,H⟩
     ·refine qB hT 0 (show (!v1)=false by rw [c4];rfl) ?_
      exact qC hT 8 _ [] _ h0 (ih.1 (IntKind.wrap .i64 (Qf4+1)) H)
     refine qB hT 0 (show (!v1)=true by rw [Jo c4];rfl) ?_
     refine qE hT 6 (K7 11101001100110 1) ⟨66,[(2,.ns),(3,.i 1)],[.box 44 (Jd (a0.getD Qf4.toNat Qm.z))]⟩ ?_
     refine Qdj [2,3] 2 9 50 (vec Qc.e Qc.z []) (st':=⟨66,[(2,.own 1 9 0 0),(3,.i 1)],[.box 44 (Jd (a0.getD Qf4.toNat Qm.z)),Qb6 ([]:List Qc)]⟩) (by kernel_rfl) (by kernel_rfl) ?_
     obtain rfl:=Xr H
     exact Qc0 hf hX h0 (.Qn [.own 1 9 0 0,.i 1]) [1] (ac (Qat Qc.nl) an) (.Qn (.cons (.own _ _ _ _) (.cons (.d (.v _)) .nil)))
    refine qB hT 5 (decide_eq_false c1) ?_
    refine qE hT 11 (K7 1111010 0) ⟨66,[(4,.ns),(22,.d (Qbn t0 a0)),(23,.i (a0.length:Int)),(24,.i 0)],[]⟩ ?_
    refine Qdj [4,22,23,24] 4 9 50 (vec Qc.e Qc.z []) (st':=⟨66,[(4,.own 0 9 0 0),(22,.d (Qbn t0 a0)),(23,.i (a0.length:Int)),(24,.i 0)],[Qb6 ([]:List Qc)]⟩) (by kernel_rfl) (by kernel_rfl) ?_
    refine Qg4 [0] ⟨66,[(4,.own 0 9 0 ([]:List Qc).length),(22,.d (Qbn t0 a0)),(23,.i (a0.length:Int)),(24,.i 0)],[Qb6 ([]:List Qc)]⟩ h0 ?_
    exact ih.2.1 0 ([]:List Qc) H
   ·intro Qho Zm H
    refine qI ?_
    rcases sB H with ⟨c5,H⟩ | ⟨c5,H⟩
    ·refine qB hT 5 (decide_eq_true c5) ?_
     refine qE hT 6 (K7 1111010011000 0) ⟨66,[(4,.own 0 9 0 Zm.length),(22,.d (Qbn t0 a0)),(23,.i (a0.length:Int)),(24,.i Qho)],[Qb6 Zm]⟩ ?_
     obtain ⟨h7,H⟩:=sC H
     refine qI ?_
     refine qX hT 0 h7 ?_
     exact qC hT 13 _ [0] _ h0 (ih.2.2 Qho ((a0.getD Qho.toNat Qm.z).Log) (((a0.getD Qho.toNat Qm.z).Log).length:Int) 0 Zm H)
    refine qB hT 5 (decide_eq_false c5) ?_
    refine qE hT 5 (K7 111110 1) ⟨66,[(4,.own 0 9 0 Zm.length),(63,.own 0 9 0 Zm.length)],[Qb6 Zm]⟩ ?_
    obtain ⟨h6,H⟩:=sC H
    refine Jj (Zk:=[.own 0 9 0 Zm.length,.d (.fn 26 [])]) (dst:=some 64) (k':=(K7 111110 2)) [4] [0] hP We7 (Wl9 We8 Qdd Qhb (fun x y=>Qqc x y) Zm h6) (by kernel_rfl) (Qev rfl rfl) (.cons (.same (.own 0 9 0 Zm.length)) (.cons (Wj _) .nil)) (st':=⟨66,[(4,.own 0 9 0 (Zm.length))],[.flat false 9 50 Zm.length (vec Qc.e Qc.z (Qfm Qc.z Qdd Zm))]⟩) (by kernel_rfl) ?_
    refine Qnm (show Zm.length=(Qfm Qc.z Qdd Zm).length from (Qng _ Qhb _).symm) (fun nn=>⟨66,[(4,.own 0 9 0 (nn))],[.flat false 9 50 nn (vec Qc.e Qc.z (Qfm Qc.z Qdd Zm))]⟩) ?_
    refine qI ?_
    obtain rfl:=Xr H
    exact qT hT 7 hf hX h0 [0] (ac (Qat Qc.nl) an) (.Qn (.cons (.own _ _ _ _) (.cons (.d (.v _)) .nil)))
   intro Qef Yt Qek Yr Wm H
   refine qI ?_
   rcases sB H with ⟨c8,H⟩ | ⟨c8,H⟩
   ·refine qB hT 5 (decide_eq_true c8) ?_
    refine qE hT 6 (K7 111101001100110011000 0) ⟨66,[(4,.own 0 9 0 Wm.length),(22,.d (Qbn t0 a0)),(23,.i (a0.length:Int)),(24,.i Qef),(29,.d (Qbg true Yt)),(30,.i Qek),(31,.i Yr)],[Qb6 Wm]⟩ ?_
    obtain ⟨h9,H⟩:=sC H
    refine qI ?_
    refine qX hT 0 h9 ?_
    refine qE hT 8 (K7 1111010011001100110010 2) ⟨66,[(4,.own 0 9 0 Wm.length),(10,.ptr 1 0 0 0),(22,.d (Qbn t0 a0)),(23,.i (a0.length:Int)),(24,.i Qef),(29,.d (Qbg true Yt)),(30,.i Qek),(31,.i Yr),(35,.own 0 9 0 Wm.length),(36,.fn 21 [.ptr 1 0 0 0])],[Qb6 Wm,.box 50 (Qed (Qt.q2 Yt Yr))]⟩ ?_
    obtain ⟨v2,h10,H⟩:=sbC H
    have Xy:∀ (Qsc:Bool),stk (Qt.j1 Qef Yt Qek Yr Wm v2 Qsc) (iter (Qt.step a0) n)=some r->AK X 7 ((K7 11110100110011001100110 1)) (Yc X [Qb6 r.1] (.Qn [.own 0 9 0 r.1.length,.i r.2])) ⟨66,[(4,.own 0 9 0 Wm.length),(10,.ptr 1 0 0 0),(11,.i v2),(22,.d (Qbn t0 a0)),(23,.i (a0.length:Int)),(24,.i Qef),(29,.d (Qbg true Yt)),(30,.i Qek),(31,.i Yr),(48,.b Qsc)],[Qb6 Wm,.box 50 (Qed (Qt.q2 Yt Yr))]⟩:=by
     intro Qsc H
     by_cases c14:Qsc=true
     ·replace H:=sT c14 H
      rw [c14]
      refine Xl hT 6 (K7 1111010011001100110011010 1) ⟨66,[(2,.ns),(3,.i 3)],[Qb6 Wm,.box 50 (Qed (Qt.q2 Yt Yr))]⟩ ?_
      refine Qdj [2,3] 2 9 50 (vec Qc.e Qc.z []) (st':=⟨66,[(2,.own 2 9 0 0),(3,.i 3)],[Qb6 Wm,.box 50 (Qed (Qt.q2 Yt Yr)),Qb6 ([]:List Qc)]⟩) (by kernel_rfl) (by kernel_rfl) ?_
      obtain rfl:=Xr H
      exact Qc0 hf hX h0 (.Qn [.own 2 9 0 0,.i 3]) [2] (ac (Qat Qc.nl) an) (.Qn (.cons (.own _ _ _ _) (.cons (.d (.v _)) .nil)))
     replace H:=sF c14 H
     have Jj2:∀ (Qfy:List Qc),stk (Qt.j2 Qef Yt Qek Yr Qfy) (iter (Qt.step a0) n)=some r->AK X 7 ((K7 111101001100110011 1)) (Yc X [Qb6 r.1] (.Qn [.own 0 9 0 r.1.length,.i r.2])) ⟨66,[(4,.own 0 9 0 Qfy.length),(22,.d (Qbn t0 a0)),(23,.i (a0.length:Int)),(24,.i Qef),(29,.d (Qbg true Yt)),(30,.i Qek),(31,.i Yr)],[Qb6 Qfy]⟩:=by
      intro Qfy H
      exact Xl hT 5 _ _ (ih.2.2 Qef Yt Qek (IntKind.wrap .i64 (Yr+1)) Qfy H)
     rw [Jo c14]
     refine qI ?_
     rcases sB H with ⟨c15,H⟩ | ⟨c15,H⟩
     ·refine qB hT 7 (decide_eq_true c15) ?_
      refine qE hT 6 (K7 11110100110011001100111100 3) ⟨66,[(4,.own 0 9 0 Wm.length),(10,.ptr 1 0 0 0),(22,.d (Qbn t0 a0)),(23,.i (a0.length:Int)),(24,.i Qef),(29,.d (Qbg true Yt)),(30,.i Qek),(31,.i Yr),(53,.d (Yi true (((Qt.q2 Yt Yr).M).Pairs)))],[Qb6 Wm,.box 50 (Qed (Qt.q2 Yt Yr))]⟩ ?_
      obtain ⟨h16,H⟩:=sC H
      refine qI ?_
      refine qF hT 0 hP Qnp (Qro (tg:=true) (((Qt.q2 Yt Yr).M).Pairs) h16) ?_
      refine qE hT 7 (K7 11110100110011001100111101 2) ⟨66,[(22,.d (Qbn t0 a0)),(23,.i (a0.length:Int)),(24,.i Qef),(29,.d (Qbg true Yt)),(30,.i Qek),(31,.i Yr),(57,.own 0 9 0 Wm.length),(58,.agg [.i (((Qt.q2 Yt Yr).M).Client),.i (((Qt.q2 Yt Yr).M).Seq),.i (((Qt.q2 Yt Yr).M).Kind),.own 2 2 0 ((((Qt.q2 Yt Yr).M).Pairs).length),.i ((((Qt.q2 Yt Yr).M).Over).Lo),.i ((((Qt.q2 Yt Yr).M).Over).Hi),.i (((Qt.q2 Yt Yr).M).Old),.i ((Qt.q2 Yt Yr).Time),.b ((Qt.q2 Yt Yr).Zw)])],[Qb6 Wm,.box 50 (Qt.q1 Yt Yr),Zg (((Qt.q2 Yt Yr).M).Pairs)]⟩ ?_
      refine Qen 2 (kk:=2) (n:=(((Qt.q2 Yt Yr).M).Pairs).length) (ty:=56) (g:=vec Qa.e Qa.z (((Qt.q2 Yt Yr).M).Pairs)) (by kernel_rfl) (st':=⟨66,[(22,.d (Qbn t0 a0)),(23,.i (a0.length:Int)),(24,.i Qef),(29,.d (Qbg true Yt)),(30,.i Qek),(31,.i Yr),(57,.own 0 9 0 Wm.length),(58,.agg [.i (((Qt.q2 Yt Yr).M).Client),.i (((Qt.q2 Yt Yr).M).Seq),.i (((Qt.q2 Yt Yr).M).Kind),.own 2 2 0 ((((Qt.q2 Yt Yr).M).Pairs).length),.i ((((Qt.q2 Yt Yr).M).Over).Lo),.i ((((Qt.q2 Yt Yr).M).Over).Hi),.i (((Qt.q2 Yt Yr).M).Old),.i ((Qt.q2 Yt Yr).Time),.b ((Qt.q2 Yt Yr).Zw)])],[Qb6 Wm,.box 50 (Qt.q1 Yt Yr),Qof (((Qt.q2 Yt Yr).M).Pairs)]⟩) (by kernel_rfl) ?_
      refine Qg3 (av:=.agg [.i (((Qt.q2 Yt Yr).M).Client),.i (((Qt.q2 Yt Yr).M).Seq),.i (((Qt.q2 Yt Yr).M).Kind),.own 2 2 0 ((((Qt.q2 Yt Yr).M).Pairs).length),.i ((((Qt.q2 Yt Yr).M).Over).Lo),.i ((((Qt.q2 Yt Yr).M).Over).Hi),.i (((Qt.q2 Yt Yr).M).Old),.i ((Qt.q2 Yt Yr).Time),.b ((Qt.q2 Yt Yr).Zw)]) (y:=Qff (Qt.q2 Yt Yr)) [22,23,24,29,30,31,57,58] 58 (st':=⟨66,[(22,.d (Qbn t0 a0)),(23,.i (a0.length:Int)),(24,.i Qef),(29,.d (Qbg true Yt)),(30,.i Qek),(31,.i Yr),(57,.own 0 9 0 Wm.length),(58,.d (Qff (Qt.q2 Yt Yr)))],[Qb6 Wm,.box 50 (Qt.q1 Yt Yr),Qof (((Qt.q2 Yt Yr).M).Pairs)]⟩) (by kernel_rfl) (.agg (.cons (.d _) (.cons (.d _) (.cons (.d _) (.cons (.own (ty:=56) (k:=2) (by kernel_rfl)) (.cons (.d _) (.cons (.d _) (.cons (.d _) (.cons (.d _) (.cons (.d _) .nil)))))))))) (by kernel_rfl) ?_
      refine Xl hT 1 (K7 11110100110011001100111101 3) ⟨66,[(22,.d (Qbn t0 a0)),(23,.i (a0.length:Int)),(24,.i Qef),(29,.d (Qbg true Yt)),(30,.i Qek),(31,.i Yr),(57,.own 0 9 0 Wm.length),(59,.own 3 9 0 1)],[Qb6 Wm,.box 50 (Qt.q1 Yt Yr),Qof (((Qt.q2 Yt Yr).M).Pairs),.flat false 9 50 1 (fun j=>[Qc.e (Qt.q2 Yt Yr)].getD j [])]⟩ ?_
      obtain ⟨h17,H⟩:=sC H
      refine Qcj (id:=0) (kk:=9) (by':=88) (t:=25) (e:=50) (z:=[.int .i64 0,.int .i64 0,.int .i64 0,.slice none 0 0,.int .i64 0,.int .i64 0,.int .i64 0,.int .i64 0,.bool false]) (dst:=some 60) (id2:=3) (e2:=50) (fz:=false) (k':=(K7 11110100110011001100111101 4)) hT Qc.e Qc.z Wm (Qt.q2 Yt Yr) [22,23,24,29,30,31,60] (by kernel_rfl) (by kernel_rfl) (by kernel_rfl) (by kernel_rfl) (by kernel_rfl) (by kernel_rfl) (by kernel_rfl) h17 (by omega) (st':=⟨66,[(22,.d (Qbn t0 a0)),(23,.i (a0.length:Int)),(24,.i Qef),(29,.d (Qbg true Yt)),(30,.i Qek),(31,.i Yr),(60,.own 4 9 0 ((Wm ++ [(Qt.q2 Yt Yr)]).length))],[.gone,.box 50 (Qt.q1 Yt Yr),Qof (((Qt.q2 Yt Yr).M).Pairs),.flat false 9 50 1 (fun j=>[Qc.e (Qt.q2 Yt Yr)].getD j []),Qb6 (Wm ++ [(Qt.q2 Yt Yr)])]⟩) (by kernel_rfl) ?_
      exact Yp hT 3 _ [4] _ h0 (Jj2 (Wm ++ [(Qt.q2 Yt Yr)]) H)
     refine qB hT 7 (decide_eq_false c15) ?_
     exact qC hT 3 _ [0] _ h0 (Jj2 Wm H)
    refine Jj (Zk:=[.own 0 9 0 Wm.length,.fn 21 [.ptr 1 0 0 0]]) (dst:=some 37) (k':=(K7 1111010011001100110010 3)) [4,10,22,23,24,29,30,31,37] [] hP Qv1 (Yy.Qy (t0:=false) (ff1:=21) (cc1:=[.rop false 1 (fun _=>[.i (((Qt.q2 Yt Yr).M).Client),.i (((Qt.q2 Yt Yr).M).Seq),.i (((Qt.q2 Yt Yr).M).Kind),Yi true (((Qt.q2 Yt Yr).M).Pairs),.i ((((Qt.q2 Yt Yr).M).Over).Lo),.i ((((Qt.q2 Yt Yr).M).Over).Hi),.i (((Qt.q2 Yt Yr).M).Old),.i ((Qt.q2 Yt Yr).Time),.b ((Qt.q2 Yt Yr).Zw)]) 0 0]) Wm (fun z0=>some (Qfe z0 (Qt.q2 Yt Yr))) We4 (fun z0 r h=>by obtain rfl:=Xr h;exact Qfe.Qy z0 (Qt.q2 Yt Yr)) h10) (by kernel_rfl) (Jy _) (.cons (.Qog (ty:=50) (by kernel_rfl) rfl) (.cons (.fn 21 (.cons (.look (ty:=50) (cs:=[.i (((Qt.q2 Yt Yr).M).Client),.i (((Qt.q2 Yt Yr).M).Seq),.i (((Qt.q2 Yt Yr).M).Kind),Yi true (((Qt.q2 Yt Yr).M).Pairs),.i ((((Qt.q2 Yt Yr).M).Over).Lo),.i ((((Qt.q2 Yt Yr).M).Over).Hi),.i (((Qt.q2 Yt Yr).M).Old),.i ((Qt.q2 Yt Yr).Time),.b ((Qt.q2 Yt Yr).Zw)]) (by kernel_rfl) rfl) .nil)) .nil)) (st':=⟨66,[(4,.own 0 9 0 Wm.length),(10,.ptr 1 0 0 0),(22,.d (Qbn t0 a0)),(23,.i (a0.length:Int)),(24,.i Qef),(29,.d (Qbg true Yt)),(30,.i Qek),(31,.i Yr),(37,.i v2)],[Qb6 Wm,.box 50 (Qed (Qt.q2 Yt Yr))]⟩) (by kernel_rfl) ?_
    refine Xl hT 4 (K7 11110100110011001100110 0) ⟨66,[(4,.own 0 9 0 Wm.length),(10,.ptr 1 0 0 0),(11,.i v2),(22,.d (Qbn t0 a0)),(23,.i (a0.length:Int)),(24,.i Qef),(29,.d (Qbg true Yt)),(30,.i Qek),(31,.i Yr)],[Qb6 Wm,.box 50 (Qed (Qt.q2 Yt Yr))]⟩ ?_
    by_cases c11:v2>=0
    ·replace H:=sT c11 H
     obtain ⟨h12,H⟩:=sC H
     obtain ⟨v3,h13,H⟩:=sbC H
     refine Qak (hP▸mixed) 11 [4,10,11,22,23,24,29,30,31] (sm [.i v2,.b true,.b true,.own 0 9 0 Wm.length,.i v2,.ptr 0 9 v2.toNat 0,.d (Qff (Wm.getD v2.toNat Qc.z)),.d (Qff (Qt.q2 Yt Yr)),.b v3,.b (!v3),.b (!v3)]) (Qe (Qe (Jr (Qe (Jr (Jr (Qe (Qe (Qe (opV (Qe op0 hT) hT 39 (.b (decide (v2>=0))) (.b true) (by rw [decide_eq_true c11]<;>rfl)) hT) hT) hT) (fun R rest h=>Yf hT (i:=v2) (n:=(Wm.length:Int)) h12.1 h12.2 (by kernel_rfl) h)) (fun R rest h=>Qgs hT (i:=v2.toNat) (n:=Wm.length) (ltN h12.1 h12.2) (by kernel_rfl) h)) hT) (fun R rest h=>Zl (Zk:=[.d (Qff (Wm.getD v2.toNat Qc.z)),.d (Qff (Qt.q2 Yt Yr))]) (dst:=some 46) hP We6 (Qe1.Qy (Wm.getD v2.toNat Qc.z) (Qt.q2 Yt Yr) h13) (by kernel_rfl) (.cons (Wj _) (.cons (Wj _) .nil)) (by kernel_rfl) h)) hT) hT) ?_
     exact Xl hT 1 _ _ (Xy (!v3) H)
    replace H:=sF c11 H
    refine Qak (hP▸mixed) 11 [4,10,11,22,23,24,29,30,31] (sm [.i v2,.b false,.b false,.Qn [],.Qn [],.Qn [],.Qn [],.Qn [],.Qn [],.Qn [],.b false]) (Qe (Qe (Qe (Qe (Qe (Qe (Qe (Qe (Qe (opV (Qe op0 hT) hT 39 (.b (decide (v2>=0))) (.b false) (by rw [decide_eq_false c11]<;>rfl)) hT) hT) hT) hT) hT) hT) hT) hT) hT) ?_
    exact Xl hT 1 _ _ (Xy false H)
   refine qB hT 5 (decide_eq_false c8) ?_
   exact qE hT 8 _ _ (ih.2.1 (IntKind.wrap .i64 (Qef+1)) Wm H)
 obtain ⟨n,H⟩:=Qbp H
 exact (L n).1 0 H
abbrev Jl.q1 (a0:List Qa) (Wy:Int):=(⟨(a0.getD Wy.toNat Qa.z).Key,(a0.getD Wy.toNat Qa.z).Val⟩:Qg)
theorem Jl.Qy {t0:Bool} (a0:List Qa) {r:List Qg} (H:Jl a0=some r):Xz Tryz.prog 68 [] [.d (Yi t0 a0)] [Qhk r] (.own 0 2 0 r.length):=by
 refine Xj Tryz.func68 rfl (nt:=19) rfl (lb rfl) fun X hP h0 hX=>?_
 have hT:Xb X.P T:=hP▸tok
 have hf:X.P.funcs[68]? = some Tryz.f68:=hP▸Tryz.func68
 refine Xl hT 15 (K68 111010 0) ⟨19,[(0,.d (Yi t0 a0)),(3,.ns),(4,.i 0)],[]⟩ ?_
 refine Qdj [0,3,4] 3 2 116 (vec Qg.e Qg.z []) (st':=⟨19,[(0,.d (Yi t0 a0)),(3,.own 0 2 0 0),(4,.i 0)],[Qhk ([]:List Qg)]⟩) (by kernel_rfl) (by kernel_rfl) ?_
 have L:∀ n,(∀ (Wy:Int) (Qx:List Qg),iter (Jl.step a0) n (.l1 Wy Qx)=some r->AK X 68 ((K68 111010 0)) (Yc X [Qhk r] (.own 0 2 0 r.length)) ⟨19,[(0,.d (Yi t0 a0)),(3,.own 0 2 0 Qx.length),(4,.i Wy)],[Qhk Qx]⟩):=by
  intro n
  induction n with
  | zero=>exact fun _ _ H=>Qal H
  | succ n ih=>
   ·intro Wy Qx H
    refine qI ?_
    rcases sB H with ⟨c1,H⟩ | ⟨c1,H⟩
    ·refine qB hT 8 (decide_eq_true c1) ?_
     refine qE hT 8 (K68 1110100100 3) ⟨19,[(0,.d (Yi t0 a0)),(4,.i Wy),(11,.own 0 2 0 Qx.length),(12,.d (Yi t0 a0)),(13,.i Wy)],[Qhk Qx]⟩ ?_
     obtain ⟨h2,H⟩:=sC H
     refine qI ?_
     refine qX hT 0 h2 ?_
     refine qE hT 2 (K68 1110100100 6) ⟨19,[(0,.d (Yi t0 a0)),(4,.i Wy),(11,.own 0 2 0 Qx.length),(16,.own 1 2 0 1)],[Qhk Qx,.flat false 2 116 1 (fun j=>[Qa.e (a0.getD Wy.toNat Qa.z)].getD j [])]⟩ ?_
     obtain ⟨h3,H⟩:=sC H
     refine Qcj (id:=0) (kk:=2) (by':=16) (t:=71) (e:=116) (z:=[.int .i64 0,.int .i64 0]) (dst:=some 17) (id2:=1) (e2:=116) (fz:=false) (k':=(K68 1110100100 7)) hT Qg.e Qg.z Qx (Jl.q1 a0 Wy) [0,4,17] (by kernel_rfl) (by kernel_rfl) (by kernel_rfl) (by kernel_rfl) (by kernel_rfl) (by kernel_rfl) (by kernel_rfl) h3 (by omega) (st':=⟨19,[(0,.d (Yi t0 a0)),(4,.i Wy),(17,.own 2 2 0 ((Qx ++ [(Jl.q1 a0 Wy)]).length))],[.gone,.flat false 2 116 1 (fun j=>[Qa.e (a0.getD Wy.toNat Qa.z)].getD j []),Qhk (Qx ++ [(Jl.q1 a0 Wy)])]⟩) (by kernel_rfl) ?_
     exact Yp hT 9 _ [2] _ h0 (ih (IntKind.wrap .i64 (Wy+1)) (Qx ++ [(Jl.q1 a0 Wy)]) H)
    refine qB hT 8 (decide_eq_false c1) ?_
    obtain rfl:=Xr H
    exact qT hT 7 hf hX h0 [0] (ac (Qat Qg.nl) an) (.own _ _ _ _)
 refine Qg4 [0] ⟨19,[(0,.d (Yi t0 a0)),(3,.own 0 2 0 ([]:List Qg).length),(4,.i 0)],[Qhk ([]:List Qg)]⟩ h0 ?_
 obtain ⟨n,H⟩:=Qbp H
 exact (L n) 0 ([]:List Qg) H
abbrev Xg.q1 (a0:We) (Zx:List Qg):List AV:=[.i a0.Client,.i a0.Seq,.i a0.Kind,.own 3 2 0 Zx.length,.i a0.Over.Lo,.i a0.Over.Hi,.i a0.Old]
abbrev Xg.q2 (a0:We) (Wy:Int):=(⟨(a0.Pairs.getD Wy.toNat Qa.z).Key,(a0.Pairs.getD Wy.toNat Qa.z).Val⟩:Qg)
abbrev Xg.q3:List AV:=[.i 0,.i 0,.i 0,.ns,.i 0,.i 0,.i 0]
abbrev Xg.s1 (Wy:Int) (a0:We) (Zx:List Qg):St:=⟨34,[(1,.ptr 0 0 0 0),(2,.ptr 1 0 0 0),(3,.ptr 2 0 0 0),(4,.i Wy)],[.box 47 (Qaj a0),.box 76 (Xg.q3),.box 76 (Xg.q1 a0 Zx),Qhk Zx]⟩
abbrev Xg.p0:List (Nat × AV):=[(1,.ptr 0 0 0 0),(2,.ptr 1 0 0 0),(3,.ptr 2 0 0 0)]
theorem Xg.Qy (a0:We) {r:Xe} (H:Xg a0=some r):Xz Tryz.prog 69 [] [.d (Qb5 a0)] [] (.d (Qe0 r)):=by
 refine Xj Tryz.func69 rfl (nt:=34) rfl (lb rfl) fun X hP h0 hX=>?_
 have hT:Xb X.P T:=hP▸tok
 have hf:X.P.funcs[69]? = some Tryz.f69:=hP▸Tryz.func69
 refine Xl hT 28 (K69 111010 0) ⟨34,(Xg.p0++[(4,.i 0)]),[.box 47 (Qaj a0),.box 76 (Xg.q3),.box 76 [.i a0.Client,.i a0.Seq,.i a0.Kind,.ns,.i a0.Over.Lo,.i a0.Over.Hi,.i a0.Old]]⟩ ?_
 refine Qjc (tb:=76) (cs:=[.i a0.Client,.i a0.Seq,.i a0.Kind,.ns,.i a0.Over.Lo,.i a0.Over.Hi,.i a0.Old]) 2 3 2 116 (vec Qg.e Qg.z []) (st':=⟨34,(Xg.p0++[(4,.i 0)]),[.box 47 (Qaj a0),.box 76 (Xg.q3),.box 76 [.i a0.Client,.i a0.Seq,.i a0.Kind,.own 3 2 0 0,.i a0.Over.Lo,.i a0.Over.Hi,.i a0.Old],Qhk ([]:List Qg)]⟩) (by kernel_rfl) (by kernel_rfl) ?_
 have L:∀ n,(∀ (Wy:Int) (Zx:List Qg),iter (Xg.step a0) n (.l1 Wy Zx)=some r->AK X 69 ((K69 111010 0)) (Yc X [] (.d (Qe0 r))) ⟨34,(Xg.p0++[(4,.i Wy)]),[.box 47 (Qaj a0),.box 76 (Xg.q3),.box 76 (Xg.q1 a0 Zx),Qhk Zx]⟩):=by
  intro n
  induction n with
  | zero=>exact fun _ _ H=>Qal H
  | succ n ih=>
   ·intro Wy Zx H
    refine qI ?_
    rcases sB H with ⟨c1,H⟩ | ⟨c1,H⟩
    ·refine qB hT 9 (decide_eq_true c1) ?_
     refine qE hT 4 (K69 111010010 0) (Xg.s1 Wy a0 Zx) ?_
     obtain ⟨h2,H⟩:=sC H
     refine Qdv (nt:=34) (hP▸mixed) 8 [7] [1,2,3,4] [(1,.ptr 0 0 0 0),(2,.ptr 1 0 0 0),(3,.ptr 2 0 0 0),(4,.i Wy)] (sm [.ptr 2 0 0 3,.own 3 2 0 Zx.length,.ptr 0 0 0 3,.d (Yi true a0.Pairs),.i Wy,.d (Qhq true a0.Pairs Wy.toNat 0),.d (Qhe (a0.Pairs.getD Wy.toNat Qa.z)),.own 4 2 0 1]) [[.box 47 (Qaj a0),.box 76 (Xg.q3),.box 76 (Xg.q1 a0 Zx),Qhk Zx],[.box 47 (Qaj a0),.box 76 (Xg.q3),.box 76 (Xg.q1 a0 Zx),Qhk Zx,.flat false 2 116 1 (fun j=>[Qa.e (a0.Pairs.getD Wy.toNat Qa.z)].getD j [])]] (by kernel_rfl) (by kernel_rfl) (by kernel_rfl) (by kernel_rfl) ⟨(Qgz (Xa (Qfc (Xa (Xa (Xa (Xa (Xa Qi6 hT) hT) hT) hT) hT) (fun R rest h=>Yf hT (i:=Wy) (n:=(a0.Pairs.length:Int)) h2.1 h2.2 (by kernel_rfl) h)) hT)),(Qhg hT),(Qgz (Xa (Qfc (Xa (Xa (Xa (Xa (Xa Qi6 hT) hT) hT) hT) hT) (fun R rest h=>Yf hT (i:=Wy) (n:=(a0.Pairs.length:Int)) h2.1 h2.2 (by kernel_rfl) h)) hT))⟩ ?_
     refine Xl hT 0 (K69 1110100100 8) ⟨34,(Xg.p0++[(4,.i Wy),(24,.own 3 2 0 Zx.length),(30,.own 4 2 0 1)]),[.box 47 (Qaj a0),.box 76 (Xg.q3),.box 76 (Xg.q1 a0 Zx),Qhk Zx,.flat false 2 116 1 (fun j=>[Qa.e (a0.Pairs.getD Wy.toNat Qa.z)].getD j [])]⟩ ?_
     obtain ⟨h3,H⟩:=sC H
     refine Qcj (id:=3) (kk:=2) (by':=16) (t:=71) (e:=116) (z:=[.int .i64 0,.int .i64 0]) (dst:=some 31) (id2:=4) (e2:=116) (fz:=false) (k':=(K69 1110100100 9)) hT Qg.e Qg.z Zx (Xg.q2 a0 Wy) [1,2,3,4,31] (by kernel_rfl) (by kernel_rfl) (by kernel_rfl) (by kernel_rfl) (by kernel_rfl) (by kernel_rfl) (by kernel_rfl) h3 (by omega) (st':=⟨34,(Xg.p0++[(4,.i Wy),(31,.own 5 2 0 ((Zx ++ [(Xg.q2 a0 Wy)]).length))]),[.box 47 (Qaj a0),.box 76 (Xg.q3),.box 76 (Xg.q1 a0 Zx),.gone,.flat false 2 116 1 (fun j=>[Qa.e (a0.Pairs.getD Wy.toNat Qa.z)].getD j []),Qhk (Zx ++ [(Xg.q2 a0 Wy)])]⟩) (by kernel_rfl) ?_
     exact Yp hT 10 _ [0,1,2,5] _ h0 (ih (IntKind.wrap .i64 (Wy+1)) (Zx ++ [(Xg.q2 a0 Wy)]) H)
    refine qB hT 9 (decide_eq_false c1) ?_
    refine qE hT 5 (K69 11110 1) ⟨34,[(2,.ptr 1 0 0 0),(33,.agg [.i a0.Client,.i a0.Seq,.i a0.Kind,.own 3 2 0 Zx.length,.i a0.Over.Lo,.i a0.Over.Hi,.i a0.Old])],[.box 47 (Qaj a0),.box 76 (Xg.q3),.box 76 (Xg.q1 a0 Zx),Qhk Zx]⟩ ?_
    refine Qen 3 (kk:=2) (n:=Zx.length) (ty:=116) (g:=vec Qg.e Qg.z Zx) (by kernel_rfl) (st':=⟨34,[(2,.ptr 1 0 0 0),(33,.agg [.i a0.Client,.i a0.Seq,.i a0.Kind,.own 3 2 0 Zx.length,.i a0.Over.Lo,.i a0.Over.Hi,.i a0.Old])],[.box 47 (Qaj a0),.box 76 (Xg.q3),.box 76 (Xg.q1 a0 Zx),Wbk Zx]⟩) (by kernel_rfl) ?_
    refine Qg3 (av:=.agg [.i a0.Client,.i a0.Seq,.i a0.Kind,.own 3 2 0 Zx.length,.i a0.Over.Lo,.i a0.Over.Hi,.i a0.Old]) (y:=.agg [.i a0.Client,.i a0.Seq,.i a0.Kind,Yg true Zx,.i a0.Over.Lo,.i a0.Over.Hi,.i a0.Old]) [2,33] 33 (st':=⟨34,[(2,.ptr 1 0 0 0),(33,.d (.agg [.i a0.Client,.i a0.Seq,.i a0.Kind,Yg true Zx,.i a0.Over.Lo,.i a0.Over.Hi,.i a0.Old]))],[.box 47 (Qaj a0),.box 76 (Xg.q3),.box 76 (Xg.q1 a0 Zx),Wbk Zx]⟩) (by kernel_rfl) (.agg (.cons (.d _) (.cons (.d _) (.cons (.d _) (.cons (.own (ty:=116) (k:=2) (by kernel_rfl)) (.cons (.d _) (.cons (.d _) (.cons (.d _) .nil)))))))) (by kernel_rfl) ?_
    refine Xl hT 2 (K69 1111 1) ⟨34,[(2,.ptr 1 0 0 0)],[.box 47 (Qaj a0),.box 76 [.i a0.Client,.i a0.Seq,.i a0.Kind,.d (Yg true Zx),.i a0.Over.Lo,.i a0.Over.Hi,.i a0.Old],.box 76 (Xg.q1 a0 Zx),Wbk Zx]⟩ ?_
    obtain rfl:=Xr H
    exact Qhw hT hf hX (av:=.d (.agg [.i a0.Client,.i a0.Seq,.i a0.Kind,Yg true Zx,.i a0.Over.Lo,.i a0.Over.Hi,.i a0.Old])) (by kernel_rfl) [] (Qbu (by kernel_rfl)) (by decide) (by rw [h0];rfl) (by kernel_rfl) an (.d (.agg (Xe.nl _)))
 refine Qg4 [0,1,2,3] ⟨34,(Xg.p0++[(4,.i 0)]),[.box 47 (Qaj a0),.box 76 (Xg.q3),.box 76 [.i a0.Client,.i a0.Seq,.i a0.Kind,.own 3 2 0 ([]:List Qg).length,.i a0.Over.Lo,.i a0.Over.Hi,.i a0.Old],Qhk ([]:List Qg)]⟩ h0 ?_
 obtain ⟨n,H⟩:=Qbp H
 exact (L n) 0 ([]:List Qg) H
abbrev Qj.q1:List AV:=[.i 0,.i 0,.i 0,.i 0,.b false,.b false,.ns,.ns,.ns,.ns]
abbrev Qj.q2 (a0:Qm) (Qcg:List Qz) (v1:List Qg):List AV:=[.i a0.ID,.i a0.Keys.Lo,.i a0.Keys.Hi,.i a0.Clock,.b a0.Qa1,.b a0.Qag,.own 3 10 0 Qcg.length,.d (Yg true v1),.ns,.ns]
abbrev Qj.q3 (a0:Qm) (Qb8:List Qz) (v1:List Qg) (Qb9:List Qd) (Qbw:List Wh):List AV:=[.i a0.ID,.i a0.Keys.Lo,.i a0.Keys.Hi,.i a0.Clock,.b a0.Qa1,.b a0.Qag,.own 3 10 0 Qb8.length,.d (Yg true v1),.own 4 9 0 Qb9.length,.own 5 4 0 Qbw.length]
abbrev Qj.q4 (v2:Xe) (Qbz:Int) (Qb0:Bool) (Qbq:List Yh):List AV:=[.i v2.Client,.i v2.Seq,.i v2.Kind,.d (Yg true v2.Pairs),.i v2.Over.Lo,.i v2.Over.Hi,.i v2.Old,.i Qbz,.b Qb0,.own 5 2 0 Qbq.length]
abbrev Qj.q5 (a0:Qm) (Qeg:Int):=(⟨(a0.Qs.getD Qeg.toNat Qo.z).Client,(a0.Qs.getD Qeg.toNat Qo.z).Seq,(a0.Qs.getD Qeg.toNat Qo.z).Time,(a0.Qs.getD Qeg.toNat Qo.z).Zw⟩:Wh)
abbrev Qj.q6 (a0:Qm) (Zx:List Qz) (v1:List Qg):List AV:=[.i a0.ID,.i a0.Keys.Lo,.i a0.Keys.Hi,.i a0.Clock,.b a0.Qa1,.b a0.Qag,.own 3 10 0 Zx.length,.d (Yg true v1),.ns,.ns]
abbrev Qj.q7 (a0:Qm) (Jn:List Qz) (v1:List Qg) (Qdg:List Qd):List AV:=[.i a0.ID,.i a0.Keys.Lo,.i a0.Keys.Hi,.i a0.Clock,.b a0.Qa1,.b a0.Qag,.own 3 10 0 Jn.length,.d (Yg true v1),.own 4 9 0 Qdg.length,.ns]
abbrev Qj.q8 (a0:Qm) (Qc7:Int) (Wn:Int):=(⟨(((a0.Held.getD Qc7.toNat Qr.z).Qdk).getD Wn.toNat Qbb.z).Qo8,(((a0.Held.getD Qc7.toNat Qr.z).Qdk).getD Wn.toNat Qbb.z).Time⟩:Yh)
abbrev Qj.q9 (v3:Xe) (a0:Qm) (Jv:Int):=(⟨v3,(a0.Log.getD Jv.toNat Qc.z).Time,(a0.Log.getD Jv.toNat Qc.z).Zw⟩:Qd)
abbrev Qj.s1 (Qc7:Int) (Wn:Int) (a0:Qm) (Qcg:List Qz) (v1:List Qg) (v2:Xe) (Qbz:Int) (Qb0:Bool) (Qbq:List Yh):St:=⟨131,(Xg.p0++[(4,.i Qc7),(5,.ptr 4 0 0 0),(6,.i Wn)]),[.box 44 (Jd a0),.box 74 (Qj.q1),.box 74 (Qj.q2 a0 Qcg v1),Qcy Qcg,.box 121 (Qj.q4 v2 Qbz Qb0 Qbq),Qly Qbq]⟩
abbrev Qj.s2 (Qeg:Int) (a0:Qm) (Qb8:List Qz) (v1:List Qg) (Qb9:List Qd) (Qbw:List Wh):St:=⟨131,(Xg.p0++[(8,.i Qeg)]),[.box 44 (Jd a0),.box 74 (Qj.q1),.box 74 (Qj.q3 a0 Qb8 v1 Qb9 Qbw),Qcy Qb8,Jq Qb9,Qm4 Qbw]⟩
abbrev Qj.s3 (Jv:Int) (a0:Qm) (Jn:List Qz) (v1:List Qg) (Qdg:List Qd):St:=⟨131,(Xg.p0++[(7,.i Jv)]),[.box 44 (Jd a0),.box 74 (Qj.q1),.box 74 (Qj.q7 a0 Jn v1 Qdg),Qcy Jn,Jq Qdg]⟩
abbrev Qj.s4 (Wy:Int) (a0:Qm) (Zx:List Qz) (v1:List Qg):St:=⟨131,(Xg.p0++[(4,.i Wy)]),[.box 44 (Jd a0),.box 74 (Qj.q1),.box 74 (Qj.q6 a0 Zx v1),Qcy Zx]⟩
end
end Go.SyP
