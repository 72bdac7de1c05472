/- Certificates, printed by gen.py. -/
import Derived.Test.YtdhmflhncidjaaaGreatGthzCp1
set_option linter.unusedVariables false
set_option linter.unusedSimpArgs false
namespace Go.SyP
open Go Go.Sy Go.Proofs
abbrev Qf.p0 (t0:Bool) (a0:List Qp) (a1:Int):List (Nat × AV):=[(0,.d (Wn9 t0 a0)),(1,.i a1)]
theorem Qf.Qt {t0:Bool} (a0:List Qp) (a1:Int) {r:Bool} (H:Qf a0 a1=some r):Xt Tryz.prog 3 [] [.d (Wn9 t0 a0),.i a1] [] (.b r):=by
 refine Wx Tryz.func3 rfl (nt:=155) rfl (lb rfl) fun X hP h0 hX=>?_
 have hT:Qw X.P T:=hP▸tok
 have hf:X.P.funcs[3]? = some Tryz.f3:=hP▸Tryz.func3
 refine Xq hT 6 (K3 110 0) ⟨155,(Qf.p0 t0 a0 a1),[]⟩ ?_
 refine Zd (Xx:=[]) (dst:=some 18) (k':=(K3 110 1)) [0,1,18] [] hP Wjk (Qeu.Qt) (by kernel_rfl) (Qao _) .nil (st':=⟨155,(Qf.p0 t0 a0 a1++[(18,.d (Qcc Qeu))]),[]⟩) (by kernel_rfl) ?_
 obtain ⟨v1,h1,H⟩:=idC H
 rw [<- h1]
 refine qI ?_
 refine qF hT 6 hP Wjl (Qnk.Qt) ?_
 refine qE hT 2 (K3 1110 1) ⟨155,(Qf.p0 t0 a0 a1++[(5,.own 0 10 0 1),(21,.b (!Qnk))]),[.flat false 10 30 1 (fun j=>[Qc.e v1].getD j [])]⟩ ?_
 by_cases c2:Qnk=true
 ·replace H:=iT c2 H
  rw [c2]
  refine Xq hT 9 (K3 1111010 0) ⟨155,(Qf.p0 t0 a0 a1++[(5,.own 0 10 0 1),(6,.i 0)]),[.flat false 10 30 1 (fun j=>[Qc.e v1].getD j [])]⟩ ?_
  refine Qgp 0 (kk:=10) (fz:=false) (ty:=30) (n:=([v1]:List Qc).length) (vec Qc.e Qc.z ([v1]:List Qc)) (by kernel_rfl) Qhh (st':=⟨155,(Qf.p0 t0 a0 a1++[(5,.own 0 10 0 (([v1]:List Qc).length)),(6,.i 0)]),[Qax ([v1]:List Qc)]⟩) (by kernel_rfl) ?_
  have L:∀ n,(∀ (Xz:Int) (Qm:List Qc),iter (Qf.step a0 a1) n (.l1 Xz Qm)=some r->AK X 3 ((K3 1111010 0)) (Ym X [] (.b r)) ⟨155,(Qf.p0 t0 a0 a1++[(5,.own 0 10 0 Qm.length),(6,.i Xz)]),[Qax Qm]⟩)/\(∀ (v4:(List Qa) × Bool) (Xc:Int) (Qbb:Int) (Qbc:Int) (Qbd:Int) (Qau:Int) (Qa7:List Qh) (Qa8:List Qa) (Qa9:List Qe) (Qah:List Qg) (Xe:List Qc),iter (Qf.step a0 a1) n (.l2 v4 Xc Qbb Qbc Qbd Qau Qa7 Qa8 Qa9 Qah Xe)=some r->AK X 3 ((K3 111111111111010 0)) (Ym X [] (.b r)) ⟨155,[(8,.ptr 0 0 0 0),(10,.own 1 10 0 Xe.length),(12,.own 2 2 0 v4.1.length),(13,.b v4.2),(14,.i Xc)],[.box 30 (Qf.q4 Qbb Qbc Qbd Qau Qa7 Qa8 Qa9 Qah),Qax Xe,Yb v4.1]⟩):=by
   intro n
   induction n with
   | zero=>exact ⟨fun _ _ H=>Qbh H,fun _ _ _ _ _ _ _ _ _ _ _ H=>Qbh H⟩
   | succ n ih=>
    refine ⟨?_, ?_⟩
    ·intro Xz Qm H
     have Yx:∀ (Qi4:Bool),Jq (Qf.j1 a0 a1 Xz Qm Qi4) (iter (Qf.step a0 a1) n)=some r->AK X 3 ((K3 111101000 1)) (Ym X [] (.b r)) ⟨155,(Qf.p0 t0 a0 a1++[(5,.own 0 10 0 Qm.length),(6,.i Xz),(29,.b Qi4)]),[Qax Qm]⟩:=by
      intro Qi4 H
      by_cases c4:Qi4=true
      ·replace H:=sT c4 H
       rw [c4]
       refine qI ?_
       obtain ⟨h11,H⟩:=sC H
       refine qX hT 8 h11 ?_
       refine qE hT 17 (K3 11110100100111 0) ⟨155,(Qf.p0 t0 a0 a1++[(5,.own 0 10 0 Qm.length),(6,.i Xz),(7,.ptr 1 0 0 0)]),[Qax Qm,.box 35 (Qf.q6 Xz a0)]⟩ ?_
       by_cases c12:(((a0.getD Xz.toNat Qp.z).Pairs).length:Int)<=8
       ·replace H:=sT c12 H
        obtain ⟨v5,h13,H⟩:=sbC H
        by_cases c14:v5=true
        ·replace H:=sT c14 H
         obtain ⟨v6,h15,H⟩:=sbC H
         refine Qab (hP▸mixed) 12 [0,1,5,6,7] (sm [.ptr 1 0 0 3,.d (We true ((a0.getD Xz.toNat Qp.z).Pairs)),.i (((a0.getD Xz.toNat Qp.z).Pairs).length:Int),.b true,.b true,.d (.agg [.i 1,.i (IntKind.wrap .i64 (Xz+1)),.i ((a0.getD Xz.toNat Qp.z).Kind),We true ((a0.getD Xz.toNat Qp.z).Pairs),.i (((a0.getD Xz.toNat Qp.z).Over).Lo),.i (((a0.getD Xz.toNat Qp.z).Over).Hi),.i ((a0.getD Xz.toNat Qp.z).Old)]),.b true,.b true,.b true,.own 0 10 0 Qm.length,.d (Qic v6),.d (.agg [.i 1,.i (IntKind.wrap .i64 (Xz+1)),.i ((a0.getD Xz.toNat Qp.z).Kind),We true ((a0.getD Xz.toNat Qp.z).Pairs),.i (((a0.getD Xz.toNat Qp.z).Over).Lo),.i (((a0.getD Xz.toNat Qp.z).Over).Hi),.i ((a0.getD Xz.toNat Qp.z).Old)])]) (Qd (opS (Qd (Qd (Qd (opS (Qd (Qd (opV (Qd (Qd (Qd op0 hT) hT) hT) hT 43 (.b (decide ((((a0.getD Xz.toNat Qp.z).Pairs).length:Int)<=8))) (.b true) (by rw [decide_eq_true c12]<;>rfl)) hT) hT) (fun R rest h=>Zk (Xx:=[.d (.agg [.i 1,.i (IntKind.wrap .i64 (Xz+1)),.i ((a0.getD Xz.toNat Qp.z).Kind),We true ((a0.getD Xz.toNat Qp.z).Pairs),.i (((a0.getD Xz.toNat Qp.z).Over).Lo),.i (((a0.getD Xz.toNat Qp.z).Over).Hi),.i ((a0.getD Xz.toNat Qp.z).Old)])]) (dst:=some 46) hP Qg0 (by have q:=Qbi.Qt (⟨1,IntKind.wrap .i64 (Xz+1),(a0.getD Xz.toNat Qp.z).Kind,(a0.getD Xz.toNat Qp.z).Pairs,((a0.getD Xz.toNat Qp.z).Over),(a0.getD Xz.toNat Qp.z).Old⟩:Qp) h13;rw [c14] at q;exact q) (by kernel_rfl) (.cons (Qk _) .nil) (by kernel_rfl) h)) hT) hT) hT) (fun R rest h=>Zk (Xx:=[]) (dst:=some 50) hP Wjn (Qf6.Qt h15) (by kernel_rfl) .nil (by kernel_rfl) h)) hT) ?_
         refine Xq hT 0 (K3 111101001001110 12) ⟨155,(Qf.p0 t0 a0 a1++[(5,.own 0 10 0 Qm.length),(6,.i Xz),(48,.b true),(49,.own 0 10 0 Qm.length),(50,.d (Qic v6)),(51,.d (.agg [.i 1,.i (IntKind.wrap .i64 (Xz+1)),.i ((a0.getD Xz.toNat Qp.z).Kind),We true ((a0.getD Xz.toNat Qp.z).Pairs),.i (((a0.getD Xz.toNat Qp.z).Over).Lo),.i (((a0.getD Xz.toNat Qp.z).Over).Hi),.i ((a0.getD Xz.toNat Qp.z).Old)]))]),[Qax Qm,.box 35 (Qf.q6 Xz a0)]⟩ ?_
         obtain ⟨v7,h16,H⟩:=sbC H
         refine Zd (Xx:=[.own 0 10 0 Qm.length,.d (Qic v6),.d (.agg [.i 1,.i (IntKind.wrap .i64 (Xz+1)),.i ((a0.getD Xz.toNat Qp.z).Kind),We true ((a0.getD Xz.toNat Qp.z).Pairs),.i (((a0.getD Xz.toNat Qp.z).Over).Lo),.i (((a0.getD Xz.toNat Qp.z).Over).Hi),.i ((a0.getD Xz.toNat Qp.z).Old)])]) (dst:=some 52) (k':=(K3 111101001001110 13)) [0,1,5,6,48,52] [0] hP Wjm (Wj.Qt Qm v6 (⟨1,IntKind.wrap .i64 (Xz+1),(a0.getD Xz.toNat Qp.z).Kind,(a0.getD Xz.toNat Qp.z).Pairs,((a0.getD Xz.toNat Qp.z).Over),(a0.getD Xz.toNat Qp.z).Old⟩:Qp) h16) (by kernel_rfl) (Qel rfl rfl) (.cons (.same (.own 0 10 0 Qm.length)) (.cons (Qk _) (.cons (Qk _) .nil))) (st':=⟨155,(Qf.p0 t0 a0 a1++[(5,.own 0 10 0 Qm.length),(6,.i Xz),(48,.b true),(52,.b v7.1)]),[Qax v7.2,.box 35 (Qf.q6 Xz a0)]⟩) (by kernel_rfl) ?_
         obtain ⟨h17,H⟩:=sC H
         refine Qiw (show Qm.length=v7.2.length from h17.symm) (fun nn=>⟨155,(Qf.p0 t0 a0 a1++[(5,.own 0 10 0 nn),(6,.i Xz),(48,.b true),(52,.b v7.1)]),[Qax v7.2,.box 35 (Qf.q6 Xz a0)]⟩) ?_
         refine Xq hT 3 (K3 11110100100111 1) ⟨155,(Qf.p0 t0 a0 a1++[(5,.own 0 10 0 v7.2.length),(6,.i Xz),(54,.b (!v7.1))]),[Qax v7.2,.box 35 (Qf.q6 Xz a0)]⟩ ?_
         by_cases c18:v7.1=true
         ·replace H:=sT c18 H
          rw [c18]
          exact Zr hT 9 _ [0] _ h0 (ih.1 (IntKind.wrap .i64 (Xz+1)) v7.2 H)
         replace H:=sF c18 H
         cases (show (none:Option _)=some _ from H)
        replace H:=sF c14 H
        refine Qab (hP▸mixed) 12 [0,1,5,6,7] (sm [.ptr 1 0 0 3,.d (We true ((a0.getD Xz.toNat Qp.z).Pairs)),.i (((a0.getD Xz.toNat Qp.z).Pairs).length:Int),.b true,.b true,.d (.agg [.i 1,.i (IntKind.wrap .i64 (Xz+1)),.i ((a0.getD Xz.toNat Qp.z).Kind),We true ((a0.getD Xz.toNat Qp.z).Pairs),.i (((a0.getD Xz.toNat Qp.z).Over).Lo),.i (((a0.getD Xz.toNat Qp.z).Over).Hi),.i ((a0.getD Xz.toNat Qp.z).Old)]),.b false,.b false,.b false,.Ql [],.Ql [],.Ql []]) (Qd (Qd (Qd (Qd (Qd (opS (Qd (Qd (opV (Qd (Qd (Qd op0 hT) hT) hT) hT 43 (.b (decide ((((a0.getD Xz.toNat Qp.z).Pairs).length:Int)<=8))) (.b true) (by rw [decide_eq_true c12]<;>rfl)) hT) hT) (fun R rest h=>Zk (Xx:=[.d (.agg [.i 1,.i (IntKind.wrap .i64 (Xz+1)),.i ((a0.getD Xz.toNat Qp.z).Kind),We true ((a0.getD Xz.toNat Qp.z).Pairs),.i (((a0.getD Xz.toNat Qp.z).Over).Lo),.i (((a0.getD Xz.toNat Qp.z).Over).Hi),.i ((a0.getD Xz.toNat Qp.z).Old)])]) (dst:=some 46) hP Qg0 (by have q:=Qbi.Qt (⟨1,IntKind.wrap .i64 (Xz+1),(a0.getD Xz.toNat Qp.z).Kind,(a0.getD Xz.toNat Qp.z).Pairs,((a0.getD Xz.toNat Qp.z).Over),(a0.getD Xz.toNat Qp.z).Old⟩:Qp) h13;rw [boF c14] at q;exact q) (by kernel_rfl) (.cons (Qk _) .nil) (by kernel_rfl) h)) hT) hT) hT) hT) hT) ?_
        exact Zr hT 13 _ [0] _ h0 (ih.1 (IntKind.wrap .i64 (Xz+1)) Qm H)
       replace H:=sF c12 H
       refine Qab (hP▸mixed) 12 [0,1,5,6,7] (sm [.ptr 1 0 0 3,.d (We true ((a0.getD Xz.toNat Qp.z).Pairs)),.i (((a0.getD Xz.toNat Qp.z).Pairs).length:Int),.b false,.b false,.Ql [],.Ql [],.b false,.b false,.Ql [],.Ql [],.Ql []]) (Qd (Qd (Qd (Qd (Qd (Qd (Qd (Qd (opV (Qd (Qd (Qd op0 hT) hT) hT) hT 43 (.b (decide ((((a0.getD Xz.toNat Qp.z).Pairs).length:Int)<=8))) (.b false) (by rw [decide_eq_false c12]<;>rfl)) hT) hT) hT) hT) hT) hT) hT) hT) ?_
       exact Zr hT 13 _ [0] _ h0 (ih.1 (IntKind.wrap .i64 (Xz+1)) Qm H)
      replace H:=sF c4 H
      rw [boF c4]
      refine Xq hT 5 (K3 111110 1) ⟨155,[(1,.i a1),(55,.own 0 10 0 Qm.length)],[Qax Qm]⟩ ?_
      obtain ⟨h5,H⟩:=sC H
      refine Qh2 hT [1,56] (i:=0) (n:=(Qm.length:Int)) h5.1 h5.2 (k':=(K3 111110 2)) (st':=⟨155,[(1,.i a1),(56,.ptr 0 10 0 0)],[Qax Qm]⟩) (by kernel_rfl) ?_
      refine Qjl hT [1,57] (i:=0) (n:=Qm.length) (by first | omega | decide) (k':=(K3 111110 3)) (st':=⟨155,[(1,.i a1),(57,.d (Qcc (Qm.getD 0 Qc.z)))],[Qax Qm]⟩) (by kernel_rfl) ?_
      refine qI ?_
      obtain ⟨v2,h6,H⟩:=sbC H
      refine qF hT 16 hP Wjo (Qhg.Qt a1 4095 h6) ?_
      refine qE hT 14 (K3 1111111110 9) ⟨155,[(8,.ptr 1 0 0 0),(65,.own 2 10 0 1),(72,.own 3 4 0 2)],[Qax Qm,.box 30 (Qf.q2 Qm),.flat false 10 30 1 (fun j=>[[.i ((Qm.getD 0 Qc.z).ID),.i (((Qm.getD 0 Qc.z).Keys).Lo),.i (((Qm.getD 0 Qc.z).Keys).Hi),.i ((Qm.getD 0 Qc.z).Clock),.b true,.b true,Qac true ((Qm.getD 0 Qc.z).Held),We true ((Qm.getD 0 Qc.z).Base),Zl true ((Qm.getD 0 Qc.z).Log),Zy true ((Qm.getD 0 Qc.z).Known)]].getD j []),.flat false 4 47 2 (fun j=>[[.i 2,.i 0,.i (IntKind.wrap .i64 (1+v2)),.i 0],[.i 3,.i (IntKind.wrap .i64 (1+v2)),.i 4096,.i 0]].getD j [])]⟩ ?_
      refine Qgp 2 (kk:=10) (fz:=false) (ty:=30) (n:=(Qf.q5 Qm).length) (vec Qc.e Qc.z (Qf.q5 Qm)) (by kernel_rfl) Qhh (st':=⟨155,[(8,.ptr 1 0 0 0),(65,.own 2 10 0 ((Qf.q5 Qm).length)),(72,.own 3 4 0 2)],[Qax Qm,.box 30 (Qf.q2 Qm),Qax (Qf.q5 Qm),.flat false 4 47 2 (fun j=>[[.i 2,.i 0,.i (IntKind.wrap .i64 (1+v2)),.i 0],[.i 3,.i (IntKind.wrap .i64 (1+v2)),.i 4096,.i 0]].getD j [])]⟩) (by kernel_rfl) ?_
      refine Qgp 3 (kk:=4) (fz:=false) (ty:=47) (n:=(Qf.q7 v2).length) (vec Qi.e Qi.z (Qf.q7 v2)) (by kernel_rfl) Qhh (st':=⟨155,[(8,.ptr 1 0 0 0),(65,.own 2 10 0 ((Qf.q5 Qm).length)),(72,.own 3 4 0 ((Qf.q7 v2).length))],[Qax Qm,.box 30 (Qf.q2 Qm),Qax (Qf.q5 Qm),Qku (Qf.q7 v2)]⟩) (by kernel_rfl) ?_
      obtain ⟨v3,h7,H⟩:=sbC H
      have Jj2:∀ (Qsh:Bool),Jq (Qf.j2 Qm v3 Qsh) (iter (Qf.step a0 a1) n)=some r->AK X 3 ((K3 11111111110 1)) (Ym X [] (.b r)) ⟨155,[(8,.ptr 0 0 0 0),(10,.own 1 10 0 v3.1.length),(82,.b Qsh)],[.box 30 (Qf.q2 Qm),Qax v3.1]⟩:=by
       intro Qsh H
       by_cases c9:Qsh=true
       ·replace H:=sT c9 H
        cases (show (none:Option _)=some _ from H)
       replace H:=sF c9 H
       rw [boF c9]
       refine qI ?_
       obtain ⟨v4,h10,H⟩:=sbC H
       refine qF hT 5 hP Wf0 (Jh.Qt (t0:=false) v3.1 h10) ?_
       exact qE hT 13 _ _ (ih.2 v4 0 ((Qm.getD 0 Qc.z).ID) (((Qm.getD 0 Qc.z).Keys).Lo) (((Qm.getD 0 Qc.z).Keys).Hi) ((Qm.getD 0 Qc.z).Clock) ((Qm.getD 0 Qc.z).Held) ((Qm.getD 0 Qc.z).Base) ((Qm.getD 0 Qc.z).Log) ((Qm.getD 0 Qc.z).Known) v3.1 H)
      refine qI ?_
      refine qF hT 0 hP Qv9 (Wl.Qt (t0:=false) (t1:=false) (Qf.q5 Qm) (Qf.q7 v2) h7) ?_
      refine qE hT 12 (K3 111111111100 3) ⟨155,[(8,.ptr 1 0 0 0),(10,.own 4 10 0 v3.1.length),(78,.b (v3.2 != 0))],[Qax Qm,.box 30 (Qf.q2 Qm),Qax (Qf.q5 Qm),Qku (Qf.q7 v2),Qax v3.1]⟩ ?_
      by_cases c8:v3.2=0
      ·replace H:=sT c8 H
       rw [neF c8]
       exact Zr hT 5 _ [1,4] _ h0 (Jj2 ((v3.1.length:Int) != 2) H)
      replace H:=sF c8 H
      rw [neT c8]
      exact Zr hT 5 _ [1,4] _ h0 (Jj2 true H)
     refine qI ?_
     rcases sB H with ⟨c3,H⟩ | ⟨c3,H⟩
     ·refine qB hT 8 (decide_eq_true c3) ?_
      exact qE hT 4 _ _ (Yx (decide (Xz < 20)) H)
     refine qB hT 8 (decide_eq_false c3) ?_
     exact qE hT 4 _ _ (Yx false H)
    intro v4 Xc Qbb Qbc Qbd Qau Qa7 Qa8 Qa9 Qah Xe H
    refine qI ?_
    rcases sB H with ⟨c19,H⟩ | ⟨c19,H⟩
    ·refine qB hT 6 (decide_eq_true c19) ?_
     obtain ⟨h36,H⟩:=sC H
     refine qX hT 8 h36 ?_
     refine qE hT 1 (K3 11111111111101001000 4) ⟨155,[(8,.ptr 0 0 0 0),(10,.own 1 10 0 Xe.length),(12,.own 2 2 0 v4.1.length),(13,.b v4.2),(14,.i Xc),(95,.ptr 1 10 Xc.toNat 4)],[.box 30 (Qf.q4 Qbb Qbc Qbd Qau Qa7 Qa8 Qa9 Qah),Qax Xe,Yb v4.1]⟩ ?_
     refine Qnc (id:=1) (kk:=10) (i:=Xc.toNat) (off:=4) (s:=1) (n:=Xe.length) (ty:=30) (ds:=[.b true]) (g:=vec Qc.e Qc.z Xe) (k':=(K3 11111111111101001000 5)) hT [8,10,12,13,14] (vec Qc.e Qc.z (Qf.q1 Xe Xc)) (by kernel_rfl) (by kernel_rfl) (ltN h36.1 h36.2) ((Qi1 (ltN h36.1 h36.2)).trans (by kernel_rfl)) Qfx (st':=⟨155,[(8,.ptr 0 0 0 0),(10,.own 1 10 0 (Xe.length)),(12,.own 2 2 0 v4.1.length),(13,.b v4.2),(14,.i Xc)],[.box 30 (Qf.q9 Qbb Qbc Qbd Qau Qa7 Qa8 Qa9 Qah),.flat false 10 30 Xe.length (vec Qc.e Qc.z (Qf.q1 Xe Xc)),.flat false 2 97 v4.1.length (vec Qa.e Qa.z v4.1)]⟩) (by kernel_rfl) ?_
     refine Qiw (show Xe.length=(Qf.q1 Xe Xc).length from (List.length_set ..).symm) (fun nn=>⟨155,[(8,.ptr 0 0 0 0),(10,.own 1 10 0 (nn)),(12,.own 2 2 0 v4.1.length),(13,.b v4.2),(14,.i Xc)],[.box 30 (Qf.q9 Qbb Qbc Qbd Qau Qa7 Qa8 Qa9 Qah),.flat false 10 30 nn (vec Qc.e Qc.z (Qf.q1 Xe Xc)),.flat false 2 97 v4.1.length (vec Qa.e Qa.z v4.1)]⟩) ?_
     refine qI ?_
     obtain ⟨h37,H⟩:=sC H
     refine qX hT 4 h37 ?_
     refine qE hT 1 (K3 11111111111101001001 4) ⟨155,[(8,.ptr 0 0 0 0),(10,.own 1 10 0 ((Qf.q1 Xe Xc).length)),(12,.own 2 2 0 v4.1.length),(13,.b v4.2),(14,.i Xc),(99,.ptr 1 10 Xc.toNat 5)],[.box 30 (Qf.q4 Qbb Qbc Qbd Qau Qa7 Qa8 Qa9 Qah),Qax (Qf.q1 Xe Xc),Yb v4.1]⟩ ?_
     refine Qnc (id:=1) (kk:=10) (i:=Xc.toNat) (off:=5) (s:=1) (n:=(Qf.q1 Xe Xc).length) (ty:=30) (ds:=[.b true]) (g:=vec Qc.e Qc.z (Qf.q1 Xe Xc)) (k':=(K3 11111111111101001001 5)) hT [8,10,12,13,14] (vec Qc.e Qc.z (Qf.q3 Xe Xc)) (by kernel_rfl) (by kernel_rfl) (ltN h37.1 h37.2) ((Qi1 (ltN h37.1 h37.2)).trans (by kernel_rfl)) Qfx (st':=⟨155,[(8,.ptr 0 0 0 0),(10,.own 1 10 0 ((Qf.q1 Xe Xc).length)),(12,.own 2 2 0 v4.1.length),(13,.b v4.2),(14,.i Xc)],[.box 30 (Qf.q9 Qbb Qbc Qbd Qau Qa7 Qa8 Qa9 Qah),.flat false 10 30 (Qf.q1 Xe Xc).length (vec Qc.e Qc.z (Qf.q3 Xe Xc)),.flat false 2 97 v4.1.length (vec Qa.e Qa.z v4.1)]⟩) (by kernel_rfl) ?_
     refine Qiw (show (Qf.q1 Xe Xc).length=(Qf.q3 Xe Xc).length from (List.length_set ..).symm) (fun nn=>⟨155,[(8,.ptr 0 0 0 0),(10,.own 1 10 0 (nn)),(12,.own 2 2 0 v4.1.length),(13,.b v4.2),(14,.i Xc)],[.box 30 (Qf.q9 Qbb Qbc Qbd Qau Qa7 Qa8 Qa9 Qah),.flat false 10 30 nn (vec Qc.e Qc.z (Qf.q3 Xe Xc)),.flat false 2 97 v4.1.length (vec Qa.e Qa.z v4.1)]⟩) ?_
     exact Zr hT 8 _ [0,1,2] _ h0 (ih.2 v4 (IntKind.wrap .i64 (Xc+1)) Qbb Qbc Qbd Qau Qa7 Qa8 Qa9 Qah (Qf.q3 Xe Xc) H)
    refine qB hT 6 (decide_eq_false c19) ?_
    refine qE hT 8 (K3 11111111111110 4) ⟨155,[(8,.ptr 0 0 0 0),(12,.own 2 2 0 v4.1.length),(13,.b v4.2),(101,.own 1 10 0 Xe.length),(104,.own 3 4 0 1)],[.box 30 (Qf.q4 Qbb Qbc Qbd Qau Qa7 Qa8 Qa9 Qah),Qax Xe,Yb v4.1,.flat false 4 47 1 (fun j=>[[.i 4,.i 0,.i 4096,.i 0]].getD j [])]⟩ ?_
    refine Qgp 3 (kk:=4) (fz:=false) (ty:=47) (n:=(Qf.q8).length) (vec Qi.e Qi.z (Qf.q8)) (by kernel_rfl) Qhh (st':=⟨155,[(8,.ptr 0 0 0 0),(12,.own 2 2 0 v4.1.length),(13,.b v4.2),(101,.own 1 10 0 Xe.length),(104,.own 3 4 0 ((Qf.q8).length))],[.box 30 (Qf.q4 Qbb Qbc Qbd Qau Qa7 Qa8 Qa9 Qah),Qax Xe,Yb v4.1,Qku (Qf.q8)]⟩) (by kernel_rfl) ?_
    obtain ⟨v8,h20,H⟩:=sbC H
    have Jj3:∀ (Qom:Bool),Jq (Qf.j3 Qbb Qbc Qbd Qau Qa7 Qa8 Qa9 Qah v4 v8 Qom) (iter (Qf.step a0 a1) n)=some r->AK X 3 ((K3 111111111111110 1)) (Ym X [] (.b r)) ⟨155,[(8,.ptr 0 0 0 0),(12,.own 1 2 0 v4.1.length),(15,.own 2 10 0 v8.1.length),(138,.b Qom)],[.box 30 (Qf.q4 Qbb Qbc Qbd Qau Qa7 Qa8 Qa9 Qah),Yb v4.1,Qax v8.1]⟩:=by
     intro Qom H
     by_cases c26:Qom=true
     ·replace H:=sT c26 H
      cases (show (none:Option _)=some _ from H)
     replace H:=sF c26 H
     rw [boF c26]
     refine qI ?_
     obtain ⟨v9,h27,H⟩:=sbC H
     refine qF hT 5 hP Qqc (Qdq.Qt (⟨Qbb,(⟨Qbc,Qbd⟩:Qb),Qau,true,true,Qa7,Qa8,Qa9,Qah⟩:Qc) h27) ?_
     obtain ⟨v10,h28,H⟩:=sbC H
     refine qF hT 0 hP Qqb (Zh.Qt (t0:=false) v9 h28) ?_
     refine qE hT 5 (K3 11111111111111110 1) ⟨155,[(15,.own 2 10 0 v8.1.length),(17,.own 4 2 0 v10.length),(142,.own 1 2 0 v4.1.length)],[.box 30 (Qf.q4 Qbb Qbc Qbd Qau Qa7 Qa8 Qa9 Qah),Yb v4.1,Qax v8.1,Yb v9,Qhu v10]⟩ ?_
     obtain ⟨v11,h29,H⟩:=sbC H
     refine qI ?_
     refine qF hT 0 hP Qqb (Zh.Qt (t0:=false) v4.1 h29) ?_
     obtain ⟨v12,h30,H⟩:=sbC H
     have Jj4:∀ (Qv0:Bool),Jq (Qf.j4 Qv0) (iter (Qf.step a0 a1) n)=some r->AK X 3 ((K3 1111111111111111 1)) (Ym X [] (.b r)) ⟨155,[(4,.b Qv0)],[]⟩:=by
      intro Qv0 H
      obtain rfl:=Yt H
      exact Qd9 hf hX h0 (.b Qv0) [] an (.d (.v _))
     refine qF hT 1 hP Qwa (Jn.Qt (t0:=false) (t1:=false) v11 v10 h30) ?_
     refine qE hT 1 (K3 11111111111111110 5) ⟨155,[(15,.own 2 10 0 v8.1.length),(17,.own 4 2 0 v10.length),(146,.b v12)],[.box 30 (Qf.q4 Qbb Qbc Qbd Qau Qa7 Qa8 Qa9 Qah),Yb v4.1,Qax v8.1,Yb v9,Qhu v10,Qhu v11]⟩ ?_
     refine qI ?_
     rcases sB H with ⟨c31,H⟩ | ⟨c31,H⟩
     ·refine qB hT 0 (c31) ?_
      refine qE hT 1 (K3 11111111111111110 6) ⟨155,[(17,.own 4 2 0 v10.length),(146,.b true),(147,.own 2 10 0 v8.1.length)],[.box 30 (Qf.q4 Qbb Qbc Qbd Qau Qa7 Qa8 Qa9 Qah),Yb v4.1,Qax v8.1,Yb v9,Qhu v10,Qhu v11]⟩ ?_
      obtain ⟨h32,H⟩:=sC H
      refine Qh2 hT [17,146,148] (i:=0) (n:=(v8.1.length:Int)) h32.1 h32.2 (k':=(K3 11111111111111110 7)) (st':=⟨155,[(17,.own 4 2 0 v10.length),(146,.b true),(148,.ptr 2 10 0 0)],[.box 30 (Qf.q4 Qbb Qbc Qbd Qau Qa7 Qa8 Qa9 Qah),Yb v4.1,Qax v8.1,Yb v9,Qhu v10,Qhu v11]⟩) (by kernel_rfl) ?_
      refine Qjl hT [17,146,149] (i:=0) (n:=v8.1.length) (by first | omega | decide) (k':=(K3 11111111111111110 8)) (st':=⟨155,[(17,.own 4 2 0 v10.length),(146,.b true),(149,.d (Qcc (v8.1.getD 0 Qc.z)))],[.box 30 (Qf.q4 Qbb Qbc Qbd Qau Qa7 Qa8 Qa9 Qah),Yb v4.1,Qax v8.1,Yb v9,Qhu v10,Qhu v11]⟩) (by kernel_rfl) ?_
      obtain ⟨v13,h33,H⟩:=sbC H
      refine qI ?_
      refine qF hT 0 hP Qqc (Qdq.Qt (v8.1.getD 0 Qc.z) h33) ?_
      obtain ⟨v14,h34,H⟩:=sbC H
      refine qF hT 0 hP Qqb (Zh.Qt (t0:=false) v13 h34) ?_
      refine qE hT 1 (K3 11111111111111110 11) ⟨155,[(146,.b true),(151,.own 7 2 0 v14.length),(152,.own 4 2 0 v10.length)],[.box 30 (Qf.q4 Qbb Qbc Qbd Qau Qa7 Qa8 Qa9 Qah),Yb v4.1,Qax v8.1,Yb v9,Qhu v10,Qhu v11,Yb v13,Qhu v14]⟩ ?_
      obtain ⟨v15,h35,H⟩:=sbC H
      refine qI ?_
      refine qF hT 0 hP Qwa (Jn.Qt (t0:=false) (t1:=false) v14 v10 h35) ?_
      exact qC hT 3 _ [] _ h0 (Jj4 v15 H)
     refine qB hT 0 (boF c31) ?_
     exact qC hT 10 _ [] _ h0 (Jj4 false H)
    refine qI ?_
    refine qF hT 0 hP Qv9 (Wl.Qt (t0:=false) (t1:=false) Xe (Qf.q8) h20) ?_
    refine qE hT 8 (K3 111111111111110 0) ⟨155,[(8,.ptr 0 0 0 0),(12,.own 2 2 0 v4.1.length),(13,.b v4.2),(15,.own 4 10 0 v8.1.length),(16,.i v8.2)],[.box 30 (Qf.q4 Qbb Qbc Qbd Qau Qa7 Qa8 Qa9 Qah),Qax Xe,Yb v4.1,Qku (Qf.q8),Qax v8.1]⟩ ?_
    by_cases c21:v4.2=true
    ·replace H:=sT c21 H
     by_cases c22:v8.2=0
     ·replace H:=sT c22 H
      by_cases c23:(v8.1.length:Int)=1
      ·replace H:=sT c23 H
       obtain ⟨h24,H⟩:=sC H
       by_cases c25:(((v8.1.getD 0 Qc.z).Known).length:Int)=(Qah.length:Int)
       ·replace H:=sT c25 H
        refine Qab (hP▸mixed) 31 [8,12,13,15,16] (sm [.b true,.b false,.b false,.i v8.2,.b false,.b false,.b false,.own 4 10 0 v8.1.length,.i (v8.1.length:Int),.b false,.b false,.b false,.own 4 10 0 v8.1.length,.ptr 4 10 0 0,.ptr 4 10 0 9,.d (Zy true ((v8.1.getD 0 Qc.z).Known)),.i (((v8.1.getD 0 Qc.z).Known).length:Int),.ptr 0 0 0 9,.d (Zy true Qah),.i (Qah.length:Int),.b false,.b false,.b false,.own 4 10 0 v8.1.length,.ptr 4 10 0 0,.ptr 4 10 0 3,.i ((v8.1.getD 0 Qc.z).Clock),.ptr 0 0 0 3,.i Qau,.b (((v8.1.getD 0 Qc.z).Clock) != Qau),.b (((v8.1.getD 0 Qc.z).Clock) != Qau)]) (Qd (Qd (Qd (Qd (opS (Qd (opS (Qd (Qd (Qd (opV (Qd (Qd (Qd (Qd (opS (Qd (opS (Qd (Qd (Qd (opV (Qd (Qd (Qd (Qd (opV (Qd (Qd (Qd (opV op0 hT 108 (.b v4.2) (.b true) (by rw [c21]<;>rfl)) hT) hT) hT) hT 112 (.b (v8.2 != 0)) (.b false) (by rw [neF c22]<;>rfl)) hT) hT) hT) hT) hT 117 (.b ((v8.1.length:Int) != 1)) (.b false) (by rw [neF c23]<;>rfl)) hT) hT) hT) (fun R rest h=>Qba hT (i:=0) (n:=(v8.1.length:Int)) h24.1 h24.2 (by kernel_rfl) h)) hT) (fun R rest h=>Qf8 hT (i:=0) (n:=v8.1.length) (by first | omega | decide) (by kernel_rfl) h)) hT) hT) hT) hT) hT 128 (.b ((((v8.1.getD 0 Qc.z).Known).length:Int) != (Qah.length:Int))) (.b false) (by rw [neF c25]<;>rfl)) hT) hT) hT) (fun R rest h=>Qba hT (i:=0) (n:=(v8.1.length:Int)) h24.1 h24.2 (by kernel_rfl) h)) hT) (fun R rest h=>Qf8 hT (i:=0) (n:=v8.1.length) (by first | omega | decide) (by kernel_rfl) h)) hT) hT) hT) hT) ?_
        exact Zr hT 1 _ [0,2,4] _ h0 (Jj3 (((v8.1.getD 0 Qc.z).Clock) != Qau) H)
       replace H:=sF c25 H
       refine Qab (hP▸mixed) 31 [8,12,13,15,16] (sm [.b true,.b false,.b false,.i v8.2,.b false,.b false,.b false,.own 4 10 0 v8.1.length,.i (v8.1.length:Int),.b false,.b false,.b false,.own 4 10 0 v8.1.length,.ptr 4 10 0 0,.ptr 4 10 0 9,.d (Zy true ((v8.1.getD 0 Qc.z).Known)),.i (((v8.1.getD 0 Qc.z).Known).length:Int),.ptr 0 0 0 9,.d (Zy true Qah),.i (Qah.length:Int),.b true,.b true,.b true,.Ql [],.Ql [],.Ql [],.Ql [],.Ql [],.Ql [],.Ql [],.b true]) (Qd (Qd (Qd (Qd (Qd (Qd (Qd (Qd (Qd (Qd (opV (Qd (Qd (Qd (Qd (opS (Qd (opS (Qd (Qd (Qd (opV (Qd (Qd (Qd (Qd (opV (Qd (Qd (Qd (opV op0 hT 108 (.b v4.2) (.b true) (by rw [c21]<;>rfl)) hT) hT) hT) hT 112 (.b (v8.2 != 0)) (.b false) (by rw [neF c22]<;>rfl)) hT) hT) hT) hT) hT 117 (.b ((v8.1.length:Int) != 1)) (.b false) (by rw [neF c23]<;>rfl)) hT) hT) hT) (fun R rest h=>Qba hT (i:=0) (n:=(v8.1.length:Int)) h24.1 h24.2 (by kernel_rfl) h)) hT) (fun R rest h=>Qf8 hT (i:=0) (n:=v8.1.length) (by first | omega | decide) (by kernel_rfl) h)) hT) hT) hT) hT) hT 128 (.b ((((v8.1.getD 0 Qc.z).Known).length:Int) != (Qah.length:Int))) (.b true) (by rw [neT c25]<;>rfl)) hT) hT) hT) hT) hT) hT) hT) hT) hT) hT) ?_
       exact Zr hT 1 _ [0,2,4] _ h0 (Jj3 true H)
      replace H:=sF c23 H
      refine Qab (hP▸mixed) 31 [8,12,13,15,16] (sm [.b true,.b false,.b false,.i v8.2,.b false,.b false,.b false,.own 4 10 0 v8.1.length,.i (v8.1.length:Int),.b true,.b true,.b true,.Ql [],.Ql [],.Ql [],.Ql [],.Ql [],.Ql [],.Ql [],.Ql [],.Ql [],.b true,.b true,.Ql [],.Ql [],.Ql [],.Ql [],.Ql [],.Ql [],.Ql [],.b true]) (Qd (Qd (Qd (Qd (Qd (Qd (Qd (Qd (Qd (Qd (Qd (Qd (Qd (Qd (Qd (Qd (Qd (Qd (Qd (Qd (Qd (opV (Qd (Qd (Qd (Qd (opV (Qd (Qd (Qd (opV op0 hT 108 (.b v4.2) (.b true) (by rw [c21]<;>rfl)) hT) hT) hT) hT 112 (.b (v8.2 != 0)) (.b false) (by rw [neF c22]<;>rfl)) hT) hT) hT) hT) hT 117 (.b ((v8.1.length:Int) != 1)) (.b true) (by rw [neT c23]<;>rfl)) hT) hT) hT) hT) hT) hT) hT) hT) hT) hT) hT) hT) hT) hT) hT) hT) hT) hT) hT) hT) hT) ?_
      exact Zr hT 1 _ [0,2,4] _ h0 (Jj3 true H)
     replace H:=sF c22 H
     refine Qab (hP▸mixed) 31 [8,12,13,15,16] (sm [.b true,.b false,.b false,.i v8.2,.b true,.b true,.b true,.Ql [],.Ql [],.Ql [],.b true,.b true,.Ql [],.Ql [],.Ql [],.Ql [],.Ql [],.Ql [],.Ql [],.Ql [],.Ql [],.b true,.b true,.Ql [],.Ql [],.Ql [],.Ql [],.Ql [],.Ql [],.Ql [],.b true]) (Qd (Qd (Qd (Qd (Qd (Qd (Qd (Qd (Qd (Qd (Qd (Qd (Qd (Qd (Qd (Qd (Qd (Qd (Qd (Qd (Qd (Qd (Qd (Qd (Qd (Qd (opV (Qd (Qd (Qd (opV op0 hT 108 (.b v4.2) (.b true) (by rw [c21]<;>rfl)) hT) hT) hT) hT 112 (.b (v8.2 != 0)) (.b true) (by rw [neT c22]<;>rfl)) hT) hT) hT) hT) hT) hT) hT) hT) hT) hT) hT) hT) hT) hT) hT) hT) hT) hT) hT) hT) hT) hT) hT) hT) hT) hT) ?_
     exact Zr hT 1 _ [0,2,4] _ h0 (Jj3 true H)
    replace H:=sF c21 H
    refine Qab (hP▸mixed) 31 [8,12,13,15,16] (sm [.b false,.b true,.b true,.Ql [],.Ql [],.b true,.b true,.Ql [],.Ql [],.Ql [],.b true,.b true,.Ql [],.Ql [],.Ql [],.Ql [],.Ql [],.Ql [],.Ql [],.Ql [],.Ql [],.b true,.b true,.Ql [],.Ql [],.Ql [],.Ql [],.Ql [],.Ql [],.Ql [],.b true]) (Qd (Qd (Qd (Qd (Qd (Qd (Qd (Qd (Qd (Qd (Qd (Qd (Qd (Qd (Qd (Qd (Qd (Qd (Qd (Qd (Qd (Qd (Qd (Qd (Qd (Qd (Qd (Qd (Qd (Qd (opV op0 hT 108 (.b v4.2) (.b false) (by rw [boF c21]<;>rfl)) hT) hT) hT) hT) hT) hT) hT) hT) hT) hT) hT) hT) hT) hT) hT) hT) hT) hT) hT) hT) hT) hT) hT) hT) hT) hT) hT) hT) hT) hT) ?_
    exact Zr hT 1 _ [0,2,4] _ h0 (Jj3 true H)
  refine Qik [0] ⟨155,(Qf.p0 t0 a0 a1++[(5,.own 0 10 0 ([v1]:List Qc).length),(6,.i 0)]),[Qax ([v1]:List Qc)]⟩ h0 ?_
  obtain ⟨n,H⟩:=Qbw H
  exact (L n).1 0 ([v1]:List Qc) H
 replace H:=iF c2 H
 cases (show (none:Option _)=some _ from H)
end Go.SyP
