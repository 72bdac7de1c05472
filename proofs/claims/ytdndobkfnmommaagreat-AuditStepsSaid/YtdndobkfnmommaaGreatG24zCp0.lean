/- Certificates, printed by gen.py. -/
import Derived.Test.YtdndobkfnmommaaGreatG24zD
import Derived.Test.YtdndobkfnmommaaGreatG24zI
import Derived.Test.YtdndobkfnmommaaGreatG24zW
set_option linter.unusedVariables false
set_option linter.unusedSimpArgs false
namespace Go.SyP
open Go Go.Sy Go.Proofs
noncomputable section
abbrev Zx.q1 (a0:List Qa) (Xn:Int):=(⟨(a0.getD Xn.toNat Qa.z).Key,(a0.getD Xn.toNat Qa.z).Val⟩:Qd)
theorem Zx.Wv {t0:Bool} (a0:List Qa) {r:List Qd} (H:Zx a0=some r):Zd Tryz.prog 67 [] [.d (Yb t0 a0)] [Qb3 r] (.own 0 2 0 r.length):=by
 refine Ye Tryz.func67 rfl (nt:=19) rfl (lb rfl) fun X hP h0 hX=>?_
 have hT:Xo X.P T:=hP▸tok
 have hf:X.P.funcs[67]? = some Tryz.f67:=hP▸Tryz.func67
 refine Qh hT 15 (K67 111010 0) ⟨19,[(0,.d (Yb t0 a0)),(3,.ns),(4,.i 0)],[]⟩ ?_
 refine Qb8 [0,3,4] 3 2 98 (vec Qd.e Qd.z []) (st':=⟨19,[(0,.d (Yb t0 a0)),(3,.own 0 2 0 0),(4,.i 0)],[Qb3 ([]:List Qd)]⟩) (by kernel_rfl) (by kernel_rfl) ?_
 have L:∀ n,(∀ (Xn:Int) (Qi:List Qd),iter (Zx.step a0) n (.l1 Xn Qi)=some r->AK X 67 ((K67 111010 0)) (Yq X [Qb3 r] (.own 0 2 0 r.length)) ⟨19,[(0,.d (Yb t0 a0)),(3,.own 0 2 0 Qi.length),(4,.i Xn)],[Qb3 Qi]⟩):=by
  intro n
  induction n with
  | zero=>exact fun _ _ H=>Qay H
  | succ n ih=>
   ·intro Xn Qi H
    refine Qh hT 8 (K67 11101000 1) ⟨19,[(0,.d (Yb t0 a0)),(3,.own 0 2 0 Qi.length),(4,.i Xn),(8,.b (decide (Xn < (a0.length:Int))))],[Qb3 Qi]⟩ ?_
    by_cases c1:Xn < (a0.length:Int)
    ·replace H:=sT c1 H
     rw [decide_eq_true c1]
     refine Qh hT 2 (K67 1110100 1) ⟨19,[(0,.d (Yb t0 a0)),(3,.own 0 2 0 Qi.length),(4,.i Xn)],[Qb3 Qi]⟩ ?_
     refine Qh hT 6 (K67 1110100100 3) ⟨19,[(0,.d (Yb t0 a0)),(4,.i Xn),(11,.own 0 2 0 Qi.length),(12,.d (Yb t0 a0)),(13,.i Xn)],[Qb3 Qi]⟩ ?_
     obtain ⟨h2,H⟩:=sC H
     refine Zv hT [0,4,11,14] (i:=Xn) (n:=(a0.length:Int)) h2.1 h2.2 (k':=(K67 1110100100 4)) (st':=⟨19,[(0,.d (Yb t0 a0)),(4,.i Xn),(11,.own 0 2 0 Qi.length),(14,.d (Qer t0 a0 Xn.toNat 0))],[Qb3 Qi]⟩) (by kernel_rfl) ?_
     refine Qh hT 2 (K67 1110100100 6) ⟨19,[(0,.d (Yb t0 a0)),(4,.i Xn),(11,.own 0 2 0 Qi.length),(16,.own 1 2 0 1)],[Qb3 Qi,.flat false 2 98 1 (fun j=>[Qa.e (a0.getD Xn.toNat Qa.z)].getD j [])]⟩ ?_
     obtain ⟨h3,H⟩:=sC H
     refine Qca (id:=0) (kk:=2) (by':=16) (t:=45) (e:=98) (z:=[.int .i64 0,.int .i64 0]) (dst:=some 17) (id2:=1) (e2:=98) (fz:=false) (k':=(K67 1110100100 7)) hT Qd.e Qd.z Qi (Zx.q1 a0 Xn) [0,4,17] (by kernel_rfl) (by kernel_rfl) (by kernel_rfl) (by kernel_rfl) (by kernel_rfl) (by kernel_rfl) (by kernel_rfl) h3 (by omega) (st':=⟨19,[(0,.d (Yb t0 a0)),(4,.i Xn),(17,.own 2 2 0 ((Qi ++ [(Zx.q1 a0 Xn)]).length))],[.gone,.flat false 2 98 1 (fun j=>[Qa.e (a0.getD Xn.toNat Qa.z)].getD j []),Qb3 (Qi ++ [(Zx.q1 a0 Xn)])]⟩) (by kernel_rfl) ?_
     refine Xq hT 9 (K67 111010 0) [2] ⟨19,[(0,.d (Yb t0 a0)),(3,.own 0 2 0 (Qi ++ [(Zx.q1 a0 Xn)]).length),(4,.i (IntKind.wrap .i64 (Xn+1)))],[Qb3 (Qi ++ [(Zx.q1 a0 Xn)])]⟩ h0 ?_
     exact ih (IntKind.wrap .i64 (Xn+1)) (Qi ++ [(Zx.q1 a0 Xn)]) H
    replace H:=sF c1 H
    rw [decide_eq_false c1]
    refine Qh hT 7 (K67 1111 1) ⟨19,[(2,.own 0 2 0 Qi.length)],[Qb3 Qi]⟩ ?_
    obtain rfl:=Yi H
    exact Ym hf hX h0 (.own 0 2 0 Qi.length) [0] (ac (Qat Qd.nl) an) (.own _ _ _ _)
 refine Qgo [0] ⟨19,[(0,.d (Yb t0 a0)),(3,.own 0 2 0 ([]:List Qd).length),(4,.i 0)],[Qb3 ([]:List Qd)]⟩ h0 ?_
 obtain ⟨n,H⟩:=Qbu H
 exact (L n) 0 ([]:List Qd) H
abbrev Xg.q1 (a0:Qn) (Yr:List Qd):List AV:=[.i a0.Client,.i a0.Seq,.i a0.Kind,.own 3 2 0 Yr.length,.i a0.Over.Lo,.i a0.Over.Hi,.i a0.Old]
abbrev Xg.q2 (a0:Qn) (Xn:Int):=(⟨(a0.Pairs.getD Xn.toNat Qa.z).Key,(a0.Pairs.getD Xn.toNat Qa.z).Val⟩:Qd)
abbrev Xg.q3:List AV:=[.i 0,.i 0,.i 0,.ns,.i 0,.i 0,.i 0]
abbrev Xg.s1 (Xn:Int) (a0:Qn) (Yr:List Qd):St:=⟨34,[(1,.ptr 0 0 0 0),(2,.ptr 1 0 0 0),(3,.ptr 2 0 0 0),(4,.i Xn)],[.box 39 (Yg a0),.box 48 (Xg.q3),.box 48 (Xg.q1 a0 Yr),Qb3 Yr]⟩
abbrev Xg.p0:List (Nat × AV):=[(1,.ptr 0 0 0 0),(2,.ptr 1 0 0 0),(3,.ptr 2 0 0 0)]
theorem Xg.Wv (a0:Qn) {r:Xd} (H:Xg a0=some r):Zd Tryz.prog 11 [] [.d (Qa3 a0)] [] (.d (Qc4 r)):=by
 refine Ye Tryz.func11 rfl (nt:=34) rfl (lb rfl) fun X hP h0 hX=>?_
 have hT:Xo X.P T:=hP▸tok
 have hf:X.P.funcs[11]? = some Tryz.f11:=hP▸Tryz.func11
 refine Qh hT 28 (K11 111010 0) ⟨34,(Xg.p0++[(4,.i 0)]),[.box 39 (Yg a0),.box 48 (Xg.q3),.box 48 [.i a0.Client,.i a0.Seq,.i a0.Kind,.ns,.i a0.Over.Lo,.i a0.Over.Hi,.i a0.Old]]⟩ ?_
 refine Qom (tb:=48) (cs:=[.i a0.Client,.i a0.Seq,.i a0.Kind,.ns,.i a0.Over.Lo,.i a0.Over.Hi,.i a0.Old]) 2 3 2 98 (vec Qd.e Qd.z []) (st':=⟨34,(Xg.p0++[(4,.i 0)]),[.box 39 (Yg a0),.box 48 (Xg.q3),.box 48 [.i a0.Client,.i a0.Seq,.i a0.Kind,.own 3 2 0 0,.i a0.Over.Lo,.i a0.Over.Hi,.i a0.Old],Qb3 ([]:List Qd)]⟩) (by kernel_rfl) (by kernel_rfl) ?_
 have L:∀ n,(∀ (Xn:Int) (Yr:List Qd),iter (Xg.step a0) n (.l1 Xn Yr)=some r->AK X 11 ((K11 111010 0)) (Yq X [] (.d (Qc4 r))) ⟨34,(Xg.p0++[(4,.i Xn)]),[.box 39 (Yg a0),.box 48 (Xg.q3),.box 48 (Xg.q1 a0 Yr),Qb3 Yr]⟩):=by
  intro n
  induction n with
  | zero=>exact fun _ _ H=>Qay H
  | succ n ih=>
   ·intro Xn Yr H
    refine Qh hT 9 (K11 11101000 1) ⟨34,(Xg.p0++[(4,.i Xn),(20,.b (decide (Xn < (a0.Pairs.length:Int))))]),[.box 39 (Yg a0),.box 48 (Xg.q3),.box 48 (Xg.q1 a0 Yr),Qb3 Yr]⟩ ?_
    by_cases c1:Xn < (a0.Pairs.length:Int)
    ·replace H:=sT c1 H
     rw [decide_eq_true c1]
     refine Qh hT 2 (K11 1110100 1) (Xg.s1 Xn a0 Yr) ?_
     refine Qh hT 2 (K11 111010010 0) (Xg.s1 Xn a0 Yr) ?_
     obtain ⟨h2,H⟩:=sC H
     refine Qcb (nt:=34) (hP▸mixed) 8 [7] [1,2,3,4] [(1,.ptr 0 0 0 0),(2,.ptr 1 0 0 0),(3,.ptr 2 0 0 0),(4,.i Xn)] (sm [.ptr 2 0 0 3,.own 3 2 0 Yr.length,.ptr 0 0 0 3,.d (Yb true a0.Pairs),.i Xn,.d (Qer true a0.Pairs Xn.toNat 0),.d (Qf0 (a0.Pairs.getD Xn.toNat Qa.z)),.own 4 2 0 1]) [[.box 39 (Yg a0),.box 48 (Xg.q3),.box 48 (Xg.q1 a0 Yr),Qb3 Yr],[.box 39 (Yg a0),.box 48 (Xg.q3),.box 48 (Xg.q1 a0 Yr),Qb3 Yr,.flat false 2 98 1 (fun j=>[Qa.e (a0.Pairs.getD Xn.toNat Qa.z)].getD j [])]] (by kernel_rfl) (by kernel_rfl) (by kernel_rfl) (by kernel_rfl) ⟨(Qdt (We (Zu (We (We (We (We (We Qf2 hT) hT) hT) hT) hT) (fun R rest h=>Xw hT (i:=Xn) (n:=(a0.Pairs.length:Int)) h2.1 h2.2 (by kernel_rfl) h)) hT)),(Qdg hT),(Qdt (We (Zu (We (We (We (We (We Qf2 hT) hT) hT) hT) hT) (fun R rest h=>Xw hT (i:=Xn) (n:=(a0.Pairs.length:Int)) h2.1 h2.2 (by kernel_rfl) h)) hT))⟩ ?_
     refine Qh hT 0 (K11 1110100100 8) ⟨34,(Xg.p0++[(4,.i Xn),(24,.own 3 2 0 Yr.length),(30,.own 4 2 0 1)]),[.box 39 (Yg a0),.box 48 (Xg.q3),.box 48 (Xg.q1 a0 Yr),Qb3 Yr,.flat false 2 98 1 (fun j=>[Qa.e (a0.Pairs.getD Xn.toNat Qa.z)].getD j [])]⟩ ?_
     obtain ⟨h3,H⟩:=sC H
     refine Qca (id:=3) (kk:=2) (by':=16) (t:=45) (e:=98) (z:=[.int .i64 0,.int .i64 0]) (dst:=some 31) (id2:=4) (e2:=98) (fz:=false) (k':=(K11 1110100100 9)) hT Qd.e Qd.z Yr (Xg.q2 a0 Xn) [1,2,3,4,31] (by kernel_rfl) (by kernel_rfl) (by kernel_rfl) (by kernel_rfl) (by kernel_rfl) (by kernel_rfl) (by kernel_rfl) h3 (by omega) (st':=⟨34,(Xg.p0++[(4,.i Xn),(31,.own 5 2 0 ((Yr ++ [(Xg.q2 a0 Xn)]).length))]),[.box 39 (Yg a0),.box 48 (Xg.q3),.box 48 (Xg.q1 a0 Yr),.gone,.flat false 2 98 1 (fun j=>[Qa.e (a0.Pairs.getD Xn.toNat Qa.z)].getD j []),Qb3 (Yr ++ [(Xg.q2 a0 Xn)])]⟩) (by kernel_rfl) ?_
     refine Xq hT 10 (K11 111010 0) [0,1,2,5] ⟨34,(Xg.p0++[(4,.i (IntKind.wrap .i64 (Xn+1)))]),[.box 39 (Yg a0),.box 48 (Xg.q3),.box 48 [.i a0.Client,.i a0.Seq,.i a0.Kind,.own 3 2 0 (Yr ++ [(Xg.q2 a0 Xn)]).length,.i a0.Over.Lo,.i a0.Over.Hi,.i a0.Old],Qb3 (Yr ++ [(Xg.q2 a0 Xn)])]⟩ h0 ?_
     exact ih (IntKind.wrap .i64 (Xn+1)) (Yr ++ [(Xg.q2 a0 Xn)]) H
    replace H:=sF c1 H
    rw [decide_eq_false c1]
    refine Qh hT 5 (K11 11110 1) ⟨34,[(2,.ptr 1 0 0 0),(33,.agg [.i a0.Client,.i a0.Seq,.i a0.Kind,.own 3 2 0 Yr.length,.i a0.Over.Lo,.i a0.Over.Hi,.i a0.Old])],[.box 39 (Yg a0),.box 48 (Xg.q3),.box 48 (Xg.q1 a0 Yr),Qb3 Yr]⟩ ?_
    refine Qcf 3 (kk:=2) (n:=Yr.length) (ty:=98) (g:=vec Qd.e Qd.z Yr) (by kernel_rfl) (st':=⟨34,[(2,.ptr 1 0 0 0),(33,.agg [.i a0.Client,.i a0.Seq,.i a0.Kind,.own 3 2 0 Yr.length,.i a0.Over.Lo,.i a0.Over.Hi,.i a0.Old])],[.box 39 (Yg a0),.box 48 (Xg.q3),.box 48 (Xg.q1 a0 Yr),Qwh Yr]⟩) (by kernel_rfl) ?_
    refine Qeu (av:=.agg [.i a0.Client,.i a0.Seq,.i a0.Kind,.own 3 2 0 Yr.length,.i a0.Over.Lo,.i a0.Over.Hi,.i a0.Old]) (y:=.agg [.i a0.Client,.i a0.Seq,.i a0.Kind,Yl true Yr,.i a0.Over.Lo,.i a0.Over.Hi,.i a0.Old]) [2,33] 33 (st':=⟨34,[(2,.ptr 1 0 0 0),(33,.d (.agg [.i a0.Client,.i a0.Seq,.i a0.Kind,Yl true Yr,.i a0.Over.Lo,.i a0.Over.Hi,.i a0.Old]))],[.box 39 (Yg a0),.box 48 (Xg.q3),.box 48 (Xg.q1 a0 Yr),Qwh Yr]⟩) (by kernel_rfl) (.agg (.cons (.d _) (.cons (.d _) (.cons (.d _) (.cons (.own (ty:=98) (k:=2) (by kernel_rfl)) (.cons (.d _) (.cons (.d _) (.cons (.d _) .nil)))))))) (by kernel_rfl) ?_
    refine Qh hT 2 (K11 1111 1) ⟨34,[(2,.ptr 1 0 0 0)],[.box 39 (Yg a0),.box 48 [.i a0.Client,.i a0.Seq,.i a0.Kind,.d (Yl true Yr),.i a0.Over.Lo,.i a0.Over.Hi,.i a0.Old],.box 48 (Xg.q1 a0 Yr),Qwh Yr]⟩ ?_
    obtain rfl:=Yi H
    exact Qen hT hf hX (av:=.d (.agg [.i a0.Client,.i a0.Seq,.i a0.Kind,Yl true Yr,.i a0.Over.Lo,.i a0.Over.Hi,.i a0.Old])) (by kernel_rfl) [] (Jq (by kernel_rfl)) (by decide) (by rw [h0];rfl) (by kernel_rfl) an (.d (.agg (Xd.nl _)))
 refine Qgo [0,1,2,3] ⟨34,(Xg.p0++[(4,.i 0)]),[.box 39 (Yg a0),.box 48 (Xg.q3),.box 48 [.i a0.Client,.i a0.Seq,.i a0.Kind,.own 3 2 0 ([]:List Qd).length,.i a0.Over.Lo,.i a0.Over.Hi,.i a0.Old],Qb3 ([]:List Qd)]⟩ h0 ?_
 obtain ⟨n,H⟩:=Qbu H
 exact (L n) 0 ([]:List Qd) H
theorem Zh.Wv {t0:Bool} {Jl:FuncId} {Jo:List DV} (a0:List Qa) (p1:Qa->Option Bool) (he1:Sy.Enters Tryz.prog Jl) (hp1:∀ (z0:Qa) r,p1 z0=some r->Zd Tryz.prog Jl [] ([.d (Qf0 z0)] ++ List.map AV.d Jo) [] (.b r)) {r:Int} (H:Zh a0 p1=some r):Zd Tryz.prog 108 [] [.d (Yb t0 a0),.d (.fn Jl Jo)] [] (.i r):=by
 refine Ye Tryz.func108 rfl (nt:=19) rfl (lb rfl) fun X hP h0 hX=>?_
 have hT:Xo X.P T:=hP▸tok
 have hf:X.P.funcs[108]? = some Tryz.f108:=hP▸Tryz.func108
 refine Qh hT 13 (Qji 11010 0) ⟨19,[(0,.d (Yb t0 a0)),(1,.d (.fn Jl Jo)),(7,.i (a0.length:Int)),(8,.i 0)],[]⟩ ?_
 have L:∀ n,(∀ (Qy:Int),iter (Zh.step a0 p1) n (.l1 Qy)=some r->AK X 108 ((Qji 11010 0)) (Yq X [] (.i r)) ⟨19,[(0,.d (Yb t0 a0)),(1,.d (.fn Jl Jo)),(7,.i (a0.length:Int)),(8,.i Qy)],[]⟩):=by
  intro n
  induction n with
  | zero=>exact fun _ H=>Qay H
  | succ n ih=>
   ·intro Qy H
    refine Qh hT 5 (Qji 1101001 0) ⟨19,[(0,.d (Yb t0 a0)),(1,.d (.fn Jl Jo)),(7,.i (a0.length:Int)),(8,.i Qy),(9,.b (decide (Qy < (a0.length:Int))))],[]⟩ ?_
    by_cases c1:Qy < (a0.length:Int)
    ·replace H:=sT c1 H
     rw [decide_eq_true c1]
     refine Qh hT 2 (Qji 1101001 1) ⟨19,[(0,.d (Yb t0 a0)),(1,.d (.fn Jl Jo)),(7,.i (a0.length:Int)),(8,.i Qy)],[]⟩ ?_
     refine Qh hT 12 (Qji 110100110010 3) ⟨19,[(0,.d (Yb t0 a0)),(1,.d (.fn Jl Jo)),(5,.i Qy),(7,.i (a0.length:Int)),(8,.i Qy),(11,.d (.fn Jl Jo)),(12,.d (Yb t0 a0)),(13,.i Qy)],[]⟩ ?_
     obtain ⟨h2,H⟩:=sC H
     refine Zv hT [0,1,5,7,8,11,14] (i:=Qy) (n:=(a0.length:Int)) h2.1 h2.2 (k':=(Qji 110100110010 4)) (st':=⟨19,[(0,.d (Yb t0 a0)),(1,.d (.fn Jl Jo)),(5,.i Qy),(7,.i (a0.length:Int)),(8,.i Qy),(11,.d (.fn Jl Jo)),(14,.d (Qer t0 a0 Qy.toNat 0))],[]⟩) (by kernel_rfl) ?_
     refine Qh hT 1 (Qji 110100110010 5) ⟨19,[(0,.d (Yb t0 a0)),(1,.d (.fn Jl Jo)),(5,.i Qy),(7,.i (a0.length:Int)),(8,.i Qy),(11,.d (.fn Jl Jo)),(15,.d (Qf0 (a0.getD Qy.toNat Qa.z)))],[]⟩ ?_
     obtain ⟨v1,h3,H⟩:=sbC H
     refine Wx (Yh:=[.d (Qf0 (a0.getD Qy.toNat Qa.z))] ++ List.map AV.d Jo) (dst:=some 16) (k':=(Qji 110100110010 6)) [0,1,5,7,8,16] [] hP he1 (hp1 (a0.getD Qy.toNat Qa.z) v1 h3) (by kernel_rfl) (Wh _) (.cons (Qp _) (Qh1 _)) (st':=⟨19,[(0,.d (Yb t0 a0)),(1,.d (.fn Jl Jo)),(5,.i Qy),(7,.i (a0.length:Int)),(8,.i Qy),(16,.b v1)],[]⟩) (by kernel_rfl) ?_
     refine Qh hT 1 (Qji 11010011001 1) ⟨19,[(0,.d (Yb t0 a0)),(1,.d (.fn Jl Jo)),(5,.i Qy),(7,.i (a0.length:Int)),(8,.i Qy),(16,.b v1)],[]⟩ ?_
     by_cases c4:v1=true
     ·replace H:=sT c4 H
      rw [c4]
      refine Qh hT 6 (Qji 1101001100110 1) ⟨19,[(4,.i Qy)],[]⟩ ?_
      obtain rfl:=Yi H
      exact Ym hf hX h0 (.i Qy) [] an (.d (.v _))
     replace H:=sF c4 H
     rw [Jk c4]
     refine Qh hT 3 (Qji 11010011 1) ⟨19,[(0,.d (Yb t0 a0)),(1,.d (.fn Jl Jo)),(7,.i (a0.length:Int)),(8,.i Qy)],[]⟩ ?_
     refine Qh hT 5 (Qji 11010 0) ⟨19,[(0,.d (Yb t0 a0)),(1,.d (.fn Jl Jo)),(7,.i (a0.length:Int)),(8,.i (IntKind.wrap .i64 (Qy+1)))],[]⟩ ?_
     exact ih (IntKind.wrap .i64 (Qy+1)) H
    replace H:=sF c1 H
    rw [decide_eq_false c1]
    refine Qh hT 6 (Qji 111 1) ⟨19,[(4,.i (-1))],[]⟩ ?_
    obtain rfl:=Yi H
    exact Ym hf hX h0 (.i (-1)) [] an (.d (.v _))
 obtain ⟨n,H⟩:=Qbu H
 exact (L n) 0 H
theorem Qcx.Wv {t0:Bool} {Jl:FuncId} {Jo:List DV} (a0:List Qa) (p1:Qa->Option Bool) (he1:Sy.Enters Tryz.prog Jl) (hp1:∀ (z0:Qa) r,p1 z0=some r->Zd Tryz.prog Jl [] ([.d (Qf0 z0)] ++ List.map AV.d Jo) [] (.b r)) {r:Bool} (H:Qcx a0 p1=some r):Zd Tryz.prog 95 [] [.d (Yb t0 a0),.d (.fn Jl Jo)] [] (.b r):=by
 refine Ye Tryz.func95 rfl (nt:=9) rfl (lb rfl) fun X hP h0 hX=>?_
 have hT:Xo X.P T:=hP▸tok
 have hf:X.P.funcs[95]? = some Tryz.f95:=hP▸Tryz.func95
 refine Qh hT 8 (K95 110 2) ⟨9,[(5,.d (Yb t0 a0)),(6,.d (.fn Jl Jo))],[]⟩ ?_
 obtain ⟨v1,h1,H⟩:=ibC H
 refine Wx (Yh:=[.d (Yb t0 a0),.d (.fn Jl Jo)]) (dst:=some 7) (k':=(K95 110 3)) [7] [] hP Qsi (Zh.Wv (t0:=t0) (Jl:=Jl) (Jo:=Jo) a0 p1 he1 hp1 h1) (by kernel_rfl) (Wh _) (.cons (Qp _) (.cons (Qp _) .nil)) (st':=⟨9,[(7,.i v1)],[]⟩) (by kernel_rfl) ?_
 refine Qh hT 3 (K95 11 1) ⟨9,[(4,.b (decide (v1>=0)))],[]⟩ ?_
 obtain rfl:=Yi H
 exact Ym hf hX h0 (.b (decide (v1>=0))) [] an (.d (.v _))
theorem Qc2.Wv (a0:Int):Zd Tryz.prog 74 [] [.i a0] [] (.b (Qc2 a0)):=by
 obtain ⟨r,H⟩:∃ r,Qc2 a0=r:=⟨_,rfl⟩
 rw [H]
 refine Ye Tryz.func74 rfl (nt:=9) rfl (lb rfl) fun X hP h0 hX=>?_
 have hT:Xo X.P T:=hP▸tok
 have hf:X.P.funcs[74]? = some Tryz.f74:=hP▸Tryz.func74
 have Yv:∀ (Qbx:Bool),(Qc2.j1 Qbx)=r->AK X 74 ((K74 11 1)) (Yq X [] (.b r)) ⟨9,[(2,.b Qbx)],[]⟩:=by
  intro Qbx H
  obtain rfl:=H
  exact Ym hf hX h0 (.b Qbx) [] an (.d (.v _))
 refine Qh hT 9 (K74 110 3) ⟨9,[(0,.i a0),(5,.b (decide (a0>=(-1099511627776))))],[]⟩ ?_
 by_cases c1:a0>=(-1099511627776)
 ·replace H:=iT c1 H
  rw [decide_eq_true c1]
  refine Qh hT 5 (K74 11 1) ⟨9,[(2,.b (decide (a0<=1099511627776)))],[]⟩ ?_
  exact Yv (decide (a0<=1099511627776)) H
 replace H:=iF c1 H
 rw [decide_eq_false c1]
 refine Qh hT 5 (K74 11 1) ⟨9,[(2,.b false)],[]⟩ ?_
 exact Yv false H
theorem Qei.Wv (a0:Qa):Zd Tryz.prog 97 [] [.d (Qf0 a0)] [] (.b (Qei a0)):=by
 obtain ⟨r,H⟩:∃ r,Qei a0=r:=⟨_,rfl⟩
 rw [H]
 refine Ye Tryz.func97 rfl (nt:=16) rfl (lb rfl) fun X hP h0 hX=>?_
 have hT:Xo X.P T:=hP▸tok
 have hf:X.P.funcs[97]? = some Tryz.f97:=hP▸Tryz.func97
 have Yv:∀ (Qbx:Bool),(Qei.j1 Qbx)=r->AK X 97 ((K97 11 1)) (Yq X [] (.b r)) ⟨16,[(2,.b Qbx)],[]⟩:=by
  intro Qbx H
  obtain rfl:=H
  exact Ym hf hX h0 (.b Qbx) [] an (.d (.v _))
 refine Qh hT 11 (K97 110 4) ⟨16,[(1,.ptr 0 0 0 0),(6,.b (decide (a0.Key>=0)))],[.box 81 (Qcd a0)]⟩ ?_
 by_cases c1:a0.Key>=0
 ·replace H:=iT c1 H
  rw [decide_eq_true c1]
  refine Qh hT 5 (K97 110 9) ⟨16,[(1,.ptr 0 0 0 0),(11,.b (decide (a0.Key < 4096)))],[.box 81 (Qcd a0)]⟩ ?_
  by_cases c2:a0.Key < 4096
  ·replace H:=iT c2 H
   rw [decide_eq_true c2]
   refine Qh hT 2 (K97 110 11) ⟨16,[(11,.b true),(13,.i a0.Val)],[.box 81 (Qcd a0)]⟩ ?_
   refine Wx (Yh:=[.i a0.Val]) (dst:=some 14) (k':=(K97 110 12)) [11,14] [] hP Qui (Qc2.Wv a0.Val) (by kernel_rfl) (Wh _) (.cons (Qp _) .nil) (st':=⟨16,[(11,.b true),(14,.b (Qc2 a0.Val))],[.box 81 (Qcd a0)]⟩) (by kernel_rfl) ?_
   refine Xq hT 3 (K97 11 1) [] ⟨16,[(2,.b (Qc2 a0.Val))],[]⟩ h0 ?_
   exact Yv (Qc2 a0.Val) H
  replace H:=iF c2 H
  rw [decide_eq_false c2]
  refine Xq hT 6 (K97 11 1) [] ⟨16,[(2,.b false)],[]⟩ h0 ?_
  exact Yv false H
 replace H:=iF c1 H
 rw [decide_eq_false c1]
 refine Xq hT 11 (K97 11 1) [] ⟨16,[(2,.b false)],[]⟩ h0 ?_
 exact Yv false H
theorem Qga.Wv (a0:Qa):Zd Tryz.prog 96 [] [.d (Qf0 a0)] [] (.b (Qga a0)):=by
 obtain ⟨r,H⟩:∃ r,Qga a0=r:=⟨_,rfl⟩
 rw [H]
 refine Ye Tryz.func96 rfl (nt:=6) rfl (lb rfl) fun X hP h0 hX=>?_
 have hT:Xo X.P T:=hP▸tok
 have hf:X.P.funcs[96]? = some Tryz.f96:=hP▸Tryz.func96
 refine Qh hT 8 (K96 110 1) ⟨6,[(3,.d (Qf0 a0))],[.box 81 (Qcd a0)]⟩ ?_
 refine Wx (Yh:=[.d (Qf0 a0)]) (dst:=some 4) (k':=(K96 110 2)) [4] [] hP Wc4 (Qei.Wv a0) (by kernel_rfl) (Wh _) (.cons (Qp _) .nil) (st':=⟨6,[(4,.b (Qei a0))],[.box 81 (Qcd a0)]⟩) (by kernel_rfl) ?_
 refine Qh hT 3 (K96 11 1) ⟨6,[(2,.b (!(Qei a0)))],[.box 81 (Qcd a0)]⟩ ?_
 obtain rfl:=H
 exact Ym hf hX h0 (.b (!(Qei a0))) [] an (.d (.v _))
theorem Qct.Wv (a0:Qn) (a1:Int) (a2:Int) {r:Bool} (H:Qct a0 a1 a2=some r):Zd Tryz.prog 72 [] [.d (Qa3 a0),.i a1,.i a2] [] (.b r):=by
 refine Ye Tryz.func72 rfl (nt:=25) rfl (lb rfl) fun X hP h0 hX=>?_
 have hT:Xo X.P T:=hP▸tok
 have hf:X.P.funcs[72]? = some Tryz.f72:=hP▸Tryz.func72
 have Yv:∀ (Qtw:Bool),(Qct.j1 Qtw)=some r->AK X 72 ((K72 11 1)) (Yq X [] (.b r)) ⟨25,[(6,.b Qtw)],[]⟩:=by
  intro Qtw H
  obtain rfl:=Yi H
  exact Ym hf hX h0 (.b Qtw) [] an (.d (.v _))
 refine Qh hT 13 (K72 110 6) ⟨25,[(2,.i a2),(3,.ptr 0 0 0 0),(12,.b (decide ((a0.Pairs.length:Int)>=a1)))],[.box 39 (Yg a0)]⟩ ?_
 by_cases c1:(a0.Pairs.length:Int)>=a1
 ·replace H:=iT c1 H
  rw [decide_eq_true c1]
  refine Qh hT 7 (K72 110 13) ⟨25,[(3,.ptr 0 0 0 0),(19,.b (decide ((a0.Pairs.length:Int)<=a2)))],[.box 39 (Yg a0)]⟩ ?_
  by_cases c2:(a0.Pairs.length:Int)<=a2
  ·replace H:=iT c2 H
   rw [decide_eq_true c2]
   refine Qh hT 2 (K72 110 15) ⟨25,[(19,.b true),(21,.d (Yb true a0.Pairs))],[.box 39 (Yg a0)]⟩ ?_
   obtain ⟨v1,h3,H⟩:=ibC H
   refine Wx (Yh:=[.d (Yb true a0.Pairs),.d (.fn 96 [])]) (dst:=some 22) (k':=(K72 110 16)) [19,22] [] hP Wc2 (Qcx.Wv (t0:=true) (Jl:=96) (Jo:=[]) a0.Pairs (fun z0=>some (Qga z0)) Wc3 (fun z0 r h=>by obtain rfl:=Yi h;exact Qga.Wv z0) h3) (by kernel_rfl) (Wh _) (.cons (Qp _) (.cons (Qp _) .nil)) (st':=⟨25,[(19,.b true),(22,.b v1)],[.box 39 (Yg a0)]⟩) (by kernel_rfl) ?_
   refine Xq hT 4 (K72 11 1) [] ⟨25,[(6,.b (!v1))],[]⟩ h0 ?_
   exact Yv (!v1) H
  replace H:=iF c2 H
  rw [decide_eq_false c2]
  refine Xq hT 7 (K72 11 1) [] ⟨25,[(6,.b false)],[]⟩ h0 ?_
  exact Yv false H
 replace H:=iF c1 H
 rw [decide_eq_false c1]
 refine Xq hT 14 (K72 11 1) [] ⟨25,[(6,.b false)],[]⟩ h0 ?_
 exact Yv false H
theorem Qce.Wv {t0:Bool} (a0:List Qa) {r:Bool} (H:Qce a0=some r):Zd Tryz.prog 73 [] [.d (Yb t0 a0)] [] (.b r):=by
 refine Ye Tryz.func73 rfl (nt:=22) rfl (lb rfl) fun X hP h0 hX=>?_
 have hT:Xo X.P T:=hP▸tok
 have hf:X.P.funcs[73]? = some Tryz.f73:=hP▸Tryz.func73
 refine Qh hT 11 (K73 11010 0) ⟨22,[(0,.d (Yb t0 a0)),(3,.i 1)],[]⟩ ?_
 have L:∀ n,(∀ (Wi:Int),iter (Qce.step a0) n (.l1 Wi)=some r->AK X 73 ((K73 11010 0)) (Yq X [] (.b r)) ⟨22,[(0,.d (Yb t0 a0)),(3,.i Wi)],[]⟩):=by
  intro n
  induction n with
  | zero=>exact fun _ H=>Qay H
  | succ n ih=>
   ·intro Wi H
    refine Qh hT 8 (K73 1101000 1) ⟨22,[(0,.d (Yb t0 a0)),(3,.i Wi),(7,.b (decide (Wi < (a0.length:Int))))],[]⟩ ?_
    by_cases c1:Wi < (a0.length:Int)
    ·replace H:=sT c1 H
     rw [decide_eq_true c1]
     refine Qh hT 2 (K73 110100 1) ⟨22,[(0,.d (Yb t0 a0)),(3,.i Wi)],[]⟩ ?_
     refine Qh hT 3 (K73 110100100 0) ⟨22,[(0,.d (Yb t0 a0)),(3,.i Wi)],[]⟩ ?_
     obtain ⟨h2,H⟩:=sC H
     obtain ⟨h3,H⟩:=sC H
     refine Qbp (hP▸mixed) 12 [0,3] (sm [.d (Yb t0 a0),.i Wi,.i (IntKind.wrap .i64 (Wi - 1)),.d (Qer t0 a0 ((IntKind.wrap .i64 (Wi - 1)).toNat) 0),.d (Qer t0 a0 ((IntKind.wrap .i64 (Wi - 1)).toNat) 0),.i ((a0.getD ((IntKind.wrap .i64 (Wi - 1)).toNat) Qa.z).Key),.d (Yb t0 a0),.i Wi,.d (Qer t0 a0 Wi.toNat 0),.d (Qer t0 a0 Wi.toNat 0),.i ((a0.getD Wi.toNat Qa.z).Key),.b (decide (((a0.getD ((IntKind.wrap .i64 (Wi - 1)).toNat) Qa.z).Key)>=((a0.getD Wi.toNat Qa.z).Key)))]) (Qj (Qj (Qj (opS (Qj (Qj (Qj (Qj (opS (Qj (Qj (Qj op0 hT) hT) hT) (fun R rest h=>Xw hT (i:=IntKind.wrap .i64 (Wi - 1)) (n:=(a0.length:Int)) h2.1 h2.2 (by kernel_rfl) h)) hT) hT) hT) hT) (fun R rest h=>Xw hT (i:=Wi) (n:=(a0.length:Int)) h3.1 h3.2 (by kernel_rfl) h)) hT) hT) hT) ?_
     refine Qh hT 1 (K73 110100100 1) ⟨22,[(0,.d (Yb t0 a0)),(3,.i Wi),(21,.b (decide (((a0.getD ((IntKind.wrap .i64 (Wi - 1)).toNat) Qa.z).Key)>=((a0.getD Wi.toNat Qa.z).Key))))],[]⟩ ?_
     by_cases c4:((a0.getD ((IntKind.wrap .i64 (Wi - 1)).toNat) Qa.z).Key)>=((a0.getD Wi.toNat Qa.z).Key)
     ·replace H:=sT c4 H
      rw [decide_eq_true c4]
      refine Qh hT 5 (K73 11010010010 1) ⟨22,[(2,.b false)],[]⟩ ?_
      obtain rfl:=Yi H
      exact Ym hf hX h0 (.b false) [] an (.d (.v _))
     replace H:=sF c4 H
     rw [decide_eq_false c4]
     refine Qh hT 3 (K73 1101001 1) ⟨22,[(0,.d (Yb t0 a0)),(3,.i Wi)],[]⟩ ?_
     refine Qh hT 6 (K73 11010 0) ⟨22,[(0,.d (Yb t0 a0)),(3,.i (IntKind.wrap .i64 (Wi+1)))],[]⟩ ?_
     exact ih (IntKind.wrap .i64 (Wi+1)) H
    replace H:=sF c1 H
    rw [decide_eq_false c1]
    refine Qh hT 6 (K73 111 1) ⟨22,[(2,.b true)],[]⟩ ?_
    obtain rfl:=Yi H
    exact Ym hf hX h0 (.b true) [] an (.d (.v _))
 obtain ⟨n,H⟩:=Qbu H
 exact (L n) 1 H
theorem Qbr.Wv (a0:Qb):Zd Tryz.prog 59 [] [.d (Qfo a0)] [] (.b (Qbr a0)):=by
 obtain ⟨r,H⟩:∃ r,Qbr a0=r:=⟨_,rfl⟩
 rw [H]
 refine Ye Tryz.func59 rfl (nt:=18) rfl (lb rfl) fun X hP h0 hX=>?_
 have hT:Xo X.P T:=hP▸tok
 have hf:X.P.funcs[59]? = some Tryz.f59:=hP▸Tryz.func59
 have Yv:∀ (Qbx:Bool),(Qbr.j1 Qbx)=r->AK X 59 ((K59 11 1)) (Yq X [] (.b r)) ⟨18,[(2,.b Qbx)],[]⟩:=by
  intro Qbx H
  obtain rfl:=H
  exact Ym hf hX h0 (.b Qbx) [] an (.d (.v _))
 refine Qh hT 11 (K59 110 4) ⟨18,[(1,.ptr 0 0 0 0),(6,.b (decide (a0.Lo>=0)))],[.box 33 (Qe8 a0)]⟩ ?_
 by_cases c1:a0.Lo>=0
 ·replace H:=iT c1 H
  rw [decide_eq_true c1]
  refine Qh hT 7 (K59 110 11) ⟨18,[(1,.ptr 0 0 0 0),(13,.b (decide (a0.Lo < a0.Hi)))],[.box 33 (Qe8 a0)]⟩ ?_
  by_cases c2:a0.Lo < a0.Hi
  ·replace H:=iT c2 H
   rw [decide_eq_true c2]
   refine Xq hT 6 (K59 11 1) [] ⟨18,[(2,.b (decide (a0.Hi<=4096)))],[]⟩ h0 ?_
   exact Yv (decide (a0.Hi<=4096)) H
  replace H:=iF c2 H
  rw [decide_eq_false c2]
  refine Xq hT 6 (K59 11 1) [] ⟨18,[(2,.b false)],[]⟩ h0 ?_
  exact Yv false H
 replace H:=iF c1 H
 rw [decide_eq_false c1]
 refine Xq hT 13 (K59 11 1) [] ⟨18,[(2,.b false)],[]⟩ h0 ?_
 exact Yv false H
abbrev Zf.p0:List (Nat × AV):=[(1,.ptr 0 0 0 0)]
theorem Zf.Wv (a0:Qn) {r:Bool} (H:Zf a0=some r):Zd Tryz.prog 43 [] [.d (Qa3 a0)] [] (.b r):=by
 refine Ye Tryz.func43 rfl (nt:=102) rfl (lb rfl) fun X hP h0 hX=>?_
 have hT:Xo X.P T:=hP▸tok
 have hf:X.P.funcs[43]? = some Tryz.f43:=hP▸Tryz.func43
 have Yv:∀ (Qqb:Bool),(Zf.j1 a0 Qqb)=some r->AK X 43 ((K43 1110 1)) (Yq X [] (.b r)) ⟨102,(Zf.p0++[(23,.b Qqb)]),[.box 39 (Yg a0)]⟩:=by
  intro Qqb H
  by_cases c7:Qqb=true
  ·replace H:=iT c7 H
   rw [c7]
   refine Qh hT 5 (K43 111010 1) ⟨102,[(2,.b false)],[.box 39 (Yg a0)]⟩ ?_
   obtain rfl:=Yi H
   exact Ym hf hX h0 (.b false) [] an (.d (.v _))
  replace H:=iF c7 H
  rw [Jk c7]
  refine Qh hT 2 (K43 111 1) ⟨102,(Zf.p0),[.box 39 (Yg a0)]⟩ ?_
  refine Qh hT 12 (K43 1111010 1) ⟨102,(Zf.p0++[(25,.i a0.Kind),(26,.b (a0.Kind == 1))]),[.box 39 (Yg a0)]⟩ ?_
  by_cases c8:a0.Kind=1
  ·replace H:=iT c8 H
   rw [eqT c8]
   refine Qh hT 4 (K43 1111010100 1) ⟨102,(Zf.p0++[(28,.d (Qa3 a0))]),[.box 39 (Yg a0)]⟩ ?_
   obtain ⟨v1,h9,H⟩:=ibC H
   have Jj2:∀ (Qhe:Bool),(Zf.j2 Qhe)=some r->AK X 43 ((K43 111101010 1)) (Yq X [] (.b r)) ⟨102,[(2,.b Qhe)],[]⟩:=by
    intro Qhe H
    obtain rfl:=Yi H
    exact Ym hf hX h0 (.b Qhe) [] an (.d (.v _))
   refine Wx (Yh:=[.d (Qa3 a0),.i 1,.i 8]) (dst:=some 29) (k':=(K43 1111010100 2)) [1,29] [] hP Qiu (Qct.Wv a0 1 8 h9) (by kernel_rfl) (Wh _) (.cons (Qp _) (.cons (Qp _) (.cons (Qp _) .nil))) (st':=⟨102,(Zf.p0++[(29,.b v1)]),[.box 39 (Yg a0)]⟩) (by kernel_rfl) ?_
   refine Qh hT 1 (K43 1111010100 3) ⟨102,(Zf.p0++[(30,.b v1)]),[.box 39 (Yg a0)]⟩ ?_
   by_cases c10:v1=true
   ·replace H:=iT c10 H
    rw [c10]
    refine Qh hT 2 (K43 1111010100 5) ⟨102,[(30,.b true),(32,.d (Yb true a0.Pairs))],[.box 39 (Yg a0)]⟩ ?_
    obtain ⟨v2,h11,H⟩:=ibC H
    refine Wx (Yh:=[.d (Yb true a0.Pairs)]) (dst:=some 33) (k':=(K43 1111010100 6)) [30,33] [] hP Wcn (Qce.Wv (t0:=true) a0.Pairs h11) (by kernel_rfl) (Wh _) (.cons (Qp _) .nil) (st':=⟨102,[(30,.b true),(33,.b v2)],[.box 39 (Yg a0)]⟩) (by kernel_rfl) ?_
    refine Xq hT 3 (K43 111101010 1) [] ⟨102,[(2,.b v2)],[]⟩ h0 ?_
    exact Jj2 v2 H
   replace H:=iF c10 H
   rw [Jk c10]
   refine Xq hT 6 (K43 111101010 1) [] ⟨102,[(2,.b false)],[]⟩ h0 ?_
   exact Jj2 false H
  replace H:=iF c8 H
  rw [eqF c8]
  refine Qh hT 6 (K43 111101011 1) ⟨102,(Zf.p0++[(25,.i a0.Kind),(35,.b (a0.Kind == 2))]),[.box 39 (Yg a0)]⟩ ?_
  by_cases c12:a0.Kind=2
  ·replace H:=iT c12 H
   have Jj3:∀ (Qty:Bool),(Zf.j3 Qty)=some r->AK X 43 ((K43 11110101110 1)) (Yq X [] (.b r)) ⟨102,[(2,.b Qty)],[]⟩:=by
    intro Qty H
    obtain rfl:=Yi H
    exact Ym hf hX h0 (.b Qty) [] an (.d (.v _))
   rw [eqT c12]
   refine Qh hT 8 (K43 111101011100 5) ⟨102,(Zf.p0++[(41,.b ((a0.Pairs.length:Int) == 0))]),[.box 39 (Yg a0)]⟩ ?_
   by_cases c13:(a0.Pairs.length:Int)=0
   ·replace H:=iT c13 H
    rw [eqT c13]
    refine Qh hT 2 (K43 111101011100 7) ⟨102,[(41,.b true),(43,.d (Qfo a0.Over))],[.box 39 (Yg a0)]⟩ ?_
    refine Wx (Yh:=[.d (Qfo a0.Over)]) (dst:=some 44) (k':=(K43 111101011100 8)) [41,44] [] hP Qis (Qbr.Wv a0.Over) (by kernel_rfl) (Wh _) (.cons (Qp _) .nil) (st':=⟨102,[(41,.b true),(44,.b (Qbr a0.Over))],[.box 39 (Yg a0)]⟩) (by kernel_rfl) ?_
    refine Xq hT 3 (K43 11110101110 1) [] ⟨102,[(2,.b (Qbr a0.Over))],[]⟩ h0 ?_
    exact Jj3 (Qbr a0.Over) H
   replace H:=iF c13 H
   rw [eqF c13]
   refine Xq hT 6 (K43 11110101110 1) [] ⟨102,[(2,.b false)],[]⟩ h0 ?_
   exact Jj3 false H
  replace H:=iF c12 H
  rw [eqF c12]
  refine Qh hT 6 (K43 11110101111 1) ⟨102,(Zf.p0++[(25,.i a0.Kind),(46,.b (a0.Kind == 3))]),[.box 39 (Yg a0)]⟩ ?_
  by_cases c14:a0.Kind=3
  ·replace H:=iT c14 H
   rw [eqT c14]
   refine Qh hT 4 (K43 11110101111100 1) ⟨102,[(48,.d (Qa3 a0))],[.box 39 (Yg a0)]⟩ ?_
   obtain ⟨v3,h15,H⟩:=ibC H
   refine Wx (Yh:=[.d (Qa3 a0),.i 1,.i 1]) (dst:=some 49) (k':=(K43 11110101111100 2)) [49] [] hP Qiu (Qct.Wv a0 1 1 h15) (by kernel_rfl) (Wh _) (.cons (Qp _) (.cons (Qp _) (.cons (Qp _) .nil))) (st':=⟨102,[(49,.b v3)],[.box 39 (Yg a0)]⟩) (by kernel_rfl) ?_
   refine Qh hT 2 (K43 1111010111110 1) ⟨102,[(2,.b v3)],[.box 39 (Yg a0)]⟩ ?_
   obtain rfl:=Yi H
   exact Ym hf hX h0 (.b v3) [] an (.d (.v _))
  replace H:=iF c14 H
  rw [eqF c14]
  refine Qh hT 6 (K43 1111010111111 1) ⟨102,(Zf.p0++[(25,.i a0.Kind),(50,.b (a0.Kind == 4))]),[.box 39 (Yg a0)]⟩ ?_
  by_cases c16:a0.Kind=4
  ·replace H:=iT c16 H
   rw [eqT c16]
   refine Qh hT 4 (K43 1111010111111100 1) ⟨102,(Zf.p0++[(52,.d (Qa3 a0))]),[.box 39 (Yg a0)]⟩ ?_
   obtain ⟨v4,h17,H⟩:=ibC H
   have Jj4:∀ (Qjz:Bool),(Zf.j4 Qjz)=some r->AK X 43 ((K43 111101011111110 1)) (Yq X [] (.b r)) ⟨102,[(2,.b Qjz)],[]⟩:=by
    intro Qjz H
    obtain rfl:=Yi H
    exact Ym hf hX h0 (.b Qjz) [] an (.d (.v _))
   refine Wx (Yh:=[.d (Qa3 a0),.i 1,.i 1]) (dst:=some 53) (k':=(K43 1111010111111100 2)) [1,53] [] hP Qiu (Qct.Wv a0 1 1 h17) (by kernel_rfl) (Wh _) (.cons (Qp _) (.cons (Qp _) (.cons (Qp _) .nil))) (st':=⟨102,(Zf.p0++[(53,.b v4)]),[.box 39 (Yg a0)]⟩) (by kernel_rfl) ?_
   refine Qh hT 1 (K43 1111010111111100 3) ⟨102,(Zf.p0++[(54,.b v4)]),[.box 39 (Yg a0)]⟩ ?_
   by_cases c18:v4=true
   ·replace H:=iT c18 H
    rw [c18]
    refine Qh hT 2 (K43 1111010111111100 5) ⟨102,(Zf.p0++[(54,.b true),(56,.i a0.Old)]),[.box 39 (Yg a0)]⟩ ?_
    refine Wx (Yh:=[.i a0.Old]) (dst:=some 57) (k':=(K43 1111010111111100 6)) [1,54,57] [] hP Qui (Qc2.Wv a0.Old) (by kernel_rfl) (Wh _) (.cons (Qp _) .nil) (st':=⟨102,(Zf.p0++[(54,.b true),(57,.b (Qc2 a0.Old))]),[.box 39 (Yg a0)]⟩) (by kernel_rfl) ?_
    refine Qh hT 1 (K43 1111010111111100 7) ⟨102,(Zf.p0++[(54,.b true),(58,.b (Qc2 a0.Old))]),[.box 39 (Yg a0)]⟩ ?_
    by_cases c19:(Qc2 a0.Old)=true
    ·replace H:=iT c19 H
     rw [c19]
     refine Xq hT 7 (K43 111101011111110 1) [] ⟨102,[(2,.b true)],[]⟩ h0 ?_
     exact Jj4 true H
    replace H:=iF c19 H
    rw [Jk c19]
    refine Xq hT 7 (K43 111101011111110 1) [] ⟨102,[(2,.b (a0.Old == 1099511627777))],[]⟩ h0 ?_
    exact Jj4 (a0.Old == 1099511627777) H
   replace H:=iF c18 H
   rw [Jk c18]
   refine Xq hT 11 (K43 111101011111110 1) [] ⟨102,[(2,.b false)],[]⟩ h0 ?_
   exact Jj4 false H
  replace H:=iF c16 H
  rw [eqF c16]
  refine Qh hT 6 (K43 111101011111111 1) ⟨102,(Zf.p0++[(64,.b (a0.Kind == 5))]),[.box 39 (Yg a0)]⟩ ?_
  by_cases c20:a0.Kind=5
  ·replace H:=iT c20 H
   rw [eqT c20]
   refine Qh hT 2 (K43 11110101111111110 0) ⟨102,(Zf.p0),[.box 39 (Yg a0)]⟩ ?_
   obtain ⟨v5,h21,H⟩:=ibC H
   have Jj5:∀ (Qj2:Bool),(Zf.j5 Qj2)=some r->AK X 43 ((K43 11110101111111110 1)) (Yq X [] (.b r)) ⟨102,[(2,.b Qj2)],[]⟩:=by
    intro Qj2 H
    obtain rfl:=Yi H
    exact Ym hf hX h0 (.b Qj2) [] an (.d (.v _))
   by_cases c22:v5=true
   ·replace H:=iT c22 H
    obtain ⟨h23,H⟩:=iC H
    obtain ⟨h24,H⟩:=iC H
    by_cases c25:((a0.Pairs.getD 0 Qa.z).Key)=((a0.Pairs.getD 1 Qa.z).Key)
    ·replace H:=iT c25 H
     refine Qbp (hP▸mixed) 26 [1] (sm [.d (Qa3 a0),.b true,.b true,.ptr 0 0 0 3,.d (Yb true a0.Pairs),.d (Qer true a0.Pairs 0 0),.d (Qer true a0.Pairs 0 0),.i ((a0.Pairs.getD 0 Qa.z).Key),.ptr 0 0 0 3,.d (Yb true a0.Pairs),.d (Qer true a0.Pairs 1 0),.d (Qer true a0.Pairs 1 0),.i ((a0.Pairs.getD 1 Qa.z).Key),.b false,.b false,.b false,.Qo [],.Qo [],.Qo [],.Qo [],.Qo [],.Qo [],.Qo [],.Qo [],.Qo [],.Qo []]) (Qj (Qj (Qj (Qj (Qj (Qj (Qj (Qj (Qj (Qj (Qj (Qj (opV (Qj (Qj (opS (Qj (Qj (Qj (Qj (opS (Qj (Qj (Qj (opS (Qj op0 hT) (fun R rest h=>Zw (Yh:=[.d (Qa3 a0),.i 2,.i 2]) (dst:=some 67) hP Qiu (by have q:=Qct.Wv a0 2 2 h21;rw [c22] at q;exact q) (by kernel_rfl) (.cons (Qp _) (.cons (Qp _) (.cons (Qp _) .nil))) (by kernel_rfl) h)) hT) hT) hT) (fun R rest h=>Xw hT (i:=0) (n:=(a0.Pairs.length:Int)) h23.1 h23.2 (by kernel_rfl) h)) hT) hT) hT) hT) (fun R rest h=>Xw hT (i:=1) (n:=(a0.Pairs.length:Int)) h24.1 h24.2 (by kernel_rfl) h)) hT) hT) hT 79 (.b (((a0.Pairs.getD 0 Qa.z).Key) != ((a0.Pairs.getD 1 Qa.z).Key))) (.b false) (by rw [neF c25]<;>rfl)) hT) hT) hT) hT) hT) hT) hT) hT) hT) hT) hT) hT) ?_
     refine Xq hT 12 (K43 11110101111111110 1) [] ⟨102,[(2,.b false)],[]⟩ h0 ?_
     exact Jj5 false H
    replace H:=iF c25 H
    refine Qbp (hP▸mixed) 26 [1] (sm [.d (Qa3 a0),.b true,.b true,.ptr 0 0 0 3,.d (Yb true a0.Pairs),.d (Qer true a0.Pairs 0 0),.d (Qer true a0.Pairs 0 0),.i ((a0.Pairs.getD 0 Qa.z).Key),.ptr 0 0 0 3,.d (Yb true a0.Pairs),.d (Qer true a0.Pairs 1 0),.d (Qer true a0.Pairs 1 0),.i ((a0.Pairs.getD 1 Qa.z).Key),.b true,.b true,.b true,.ptr 0 0 0 3,.d (Yb true a0.Pairs),.d (Qer true a0.Pairs 0 0),.d (Qer true a0.Pairs 0 1),.i ((a0.Pairs.getD 0 Qa.z).Val),.ptr 0 0 0 3,.d (Yb true a0.Pairs),.d (Qer true a0.Pairs 1 0),.d (Qer true a0.Pairs 1 1),.i ((a0.Pairs.getD 1 Qa.z).Val)]) (Qj (Qj (opS (Qj (Qj (Qj (Qj (opS (Qj (Qj (Qj (Qj (opV (Qj (Qj (opS (Qj (Qj (Qj (Qj (opS (Qj (Qj (Qj (opS (Qj op0 hT) (fun R rest h=>Zw (Yh:=[.d (Qa3 a0),.i 2,.i 2]) (dst:=some 67) hP Qiu (by have q:=Qct.Wv a0 2 2 h21;rw [c22] at q;exact q) (by kernel_rfl) (.cons (Qp _) (.cons (Qp _) (.cons (Qp _) .nil))) (by kernel_rfl) h)) hT) hT) hT) (fun R rest h=>Xw hT (i:=0) (n:=(a0.Pairs.length:Int)) h23.1 h23.2 (by kernel_rfl) h)) hT) hT) hT) hT) (fun R rest h=>Xw hT (i:=1) (n:=(a0.Pairs.length:Int)) h24.1 h24.2 (by kernel_rfl) h)) hT) hT) hT 79 (.b (((a0.Pairs.getD 0 Qa.z).Key) != ((a0.Pairs.getD 1 Qa.z).Key))) (.b true) (by rw [neT c25]<;>rfl)) hT) hT) hT) hT) (fun R rest h=>Xw hT (i:=0) (n:=(a0.Pairs.length:Int)) h23.1 h23.2 (by kernel_rfl) h)) hT) hT) hT) hT) (fun R rest h=>Xw hT (i:=1) (n:=(a0.Pairs.length:Int)) h24.1 h24.2 (by kernel_rfl) h)) hT) hT) ?_
    refine Qh hT 3 (K43 111101011111111100 29) ⟨102,(Zf.p0++[(94,.b (((a0.Pairs.getD 0 Qa.z).Val) == ((a0.Pairs.getD 1 Qa.z).Val)))]),[.box 39 (Yg a0)]⟩ ?_
    by_cases c26:((a0.Pairs.getD 0 Qa.z).Val)=((a0.Pairs.getD 1 Qa.z).Val)
    ·replace H:=iT c26 H
     rw [eqT c26]
     refine Qh hT 2 (K43 111101011111111100 31) ⟨102,[(94,.b true),(96,.d (Yb true a0.Pairs))],[.box 39 (Yg a0)]⟩ ?_
     refine Zv hT [94,97] (i:=0) (n:=(a0.Pairs.length:Int)) h23.1 h23.2 (k':=(K43 111101011111111100 32)) (st':=⟨102,[(94,.b true),(97,.d (Qer true a0.Pairs 0 0))],[.box 39 (Yg a0)]⟩) (by kernel_rfl) ?_
     refine Xq hT 6 (K43 11110101111111110 1) [] ⟨102,[(2,.b (decide (((a0.Pairs.getD 0 Qa.z).Val)>=0)))],[]⟩ h0 ?_
     exact Jj5 (decide (((a0.Pairs.getD 0 Qa.z).Val)>=0)) H
    replace H:=iF c26 H
    rw [eqF c26]
    refine Xq hT 9 (K43 11110101111111110 1) [] ⟨102,[(2,.b false)],[]⟩ h0 ?_
    exact Jj5 false H
   replace H:=iF c22 H
   refine Qbp (hP▸mixed) 26 [1] (sm [.d (Qa3 a0),.b false,.b false,.Qo [],.Qo [],.Qo [],.Qo [],.Qo [],.Qo [],.Qo [],.Qo [],.Qo [],.Qo [],.Qo [],.b false,.b false,.Qo [],.Qo [],.Qo [],.Qo [],.Qo [],.Qo [],.Qo [],.Qo [],.Qo [],.Qo []]) (Qj (Qj (Qj (Qj (Qj (Qj (Qj (Qj (Qj (Qj (Qj (Qj (Qj (Qj (Qj (Qj (Qj (Qj (Qj (Qj (Qj (Qj (Qj (Qj (opS (Qj op0 hT) (fun R rest h=>Zw (Yh:=[.d (Qa3 a0),.i 2,.i 2]) (dst:=some 67) hP Qiu (by have q:=Qct.Wv a0 2 2 h21;rw [Jk c22] at q;exact q) (by kernel_rfl) (.cons (Qp _) (.cons (Qp _) (.cons (Qp _) .nil))) (by kernel_rfl) h)) hT) hT) hT) hT) hT) hT) hT) hT) hT) hT) hT) hT) hT) hT) hT) hT) hT) hT) hT) hT) hT) hT) hT) hT) ?_
   refine Xq hT 12 (K43 11110101111111110 1) [] ⟨102,[(2,.b false)],[]⟩ h0 ?_
   exact Jj5 false H
  replace H:=iF c20 H
  rw [eqF c20]
  refine Qh hT 3 (K43 1111 1) ⟨102,[],[.box 39 (Yg a0)]⟩ ?_
  refine Qh hT 4 (K43 11111 1) ⟨102,[(2,.b false)],[.box 39 (Yg a0)]⟩ ?_
  obtain rfl:=Yi H
  exact Ym hf hX h0 (.b false) [] an (.d (.v _))
 refine Qh hT 18 (K43 11100 4) ⟨102,(Zf.p0++[(3,.ptr 1 0 0 0),(8,.b (a0.Kind != 2))]),[.box 39 (Yg a0),.box 33 [.i 0,.i 0]]⟩ ?_
 by_cases c1:a0.Kind=2
 ·replace H:=iT c1 H
  rw [neF c1]
  refine Qh hT 10 (K43 11100 14) ⟨102,(Zf.p0++[(14,.b false),(18,.b (a0.Kind != 4))]),[.box 39 (Yg a0),.box 33 [.i 0,.i 0]]⟩ ?_
  by_cases c2:a0.Kind=4
  ·replace H:=iT c2 H
   rw [neF c2]
   refine Xq hT 6 (K43 1110 1) [0] ⟨102,(Zf.p0++[(23,.b false)]),[.box 39 (Yg a0)]⟩ h0 ?_
   exact Yv false H
  replace H:=iF c2 H
  rw [neT c2]
  refine Xq hT 6 (K43 1110 1) [0] ⟨102,(Zf.p0++[(23,.b (a0.Old != 0))]),[.box 39 (Yg a0)]⟩ h0 ?_
  exact Yv (a0.Old != 0) H
 replace H:=iF c1 H
 rw [neT c1]
 refine Qh hT 6 (K43 11100 10) ⟨102,(Zf.p0++[(14,.b (!((a0.Over.Lo == 0) && (a0.Over.Hi == 0))))]),[.box 39 (Yg a0),.box 33 [.i 0,.i 0]]⟩ ?_
 by_cases c3:a0.Over.Lo=0
 ·replace H:=iT c3 H
  rw [eqT c3]
  by_cases c4:a0.Over.Hi=0
  ·replace H:=iT c4 H
   rw [eqT c4]
   refine Qh hT 4 (K43 11100 14) ⟨102,(Zf.p0++[(14,.b false),(18,.b (a0.Kind != 4))]),[.box 39 (Yg a0),.box 33 [.i 0,.i 0]]⟩ ?_
   by_cases c5:a0.Kind=4
   ·replace H:=iT c5 H
    rw [neF c5]
    refine Xq hT 6 (K43 1110 1) [0] ⟨102,(Zf.p0++[(23,.b false)]),[.box 39 (Yg a0)]⟩ h0 ?_
    exact Yv false H
   replace H:=iF c5 H
   rw [neT c5]
   refine Xq hT 6 (K43 1110 1) [0] ⟨102,(Zf.p0++[(23,.b (a0.Old != 0))]),[.box 39 (Yg a0)]⟩ h0 ?_
   exact Yv (a0.Old != 0) H
  replace H:=iF c4 H
  rw [eqF c4]
  refine Xq hT 10 (K43 1110 1) [0] ⟨102,(Zf.p0++[(23,.b true)]),[.box 39 (Yg a0)]⟩ h0 ?_
  exact Yv true H
 replace H:=iF c3 H
 rw [eqF c3]
 by_cases c6:a0.Over.Hi=0
 ·replace H:=iT c6 H
  rw [eqT c6]
  refine Xq hT 10 (K43 1110 1) [0] ⟨102,(Zf.p0++[(23,.b true)]),[.box 39 (Yg a0)]⟩ h0 ?_
  exact Yv true H
 replace H:=iF c6 H
 rw [eqF c6]
 refine Xq hT 10 (K43 1110 1) [0] ⟨102,(Zf.p0++[(23,.b true)]),[.box 39 (Yg a0)]⟩ h0 ?_
 exact Yv true H
theorem Qbo.Wv (a0:Qn) {r:Bool} (H:Qbo a0=some r):Zd Tryz.prog 21 [] [.d (Qa3 a0)] [] (.b r):=by
 refine Ye Tryz.func21 rfl (nt:=25) rfl (lb rfl) fun X hP h0 hX=>?_
 have hT:Xo X.P T:=hP▸tok
 have hf:X.P.funcs[21]? = some Tryz.f21:=hP▸Tryz.func21
 have Yv:∀ (Qbx:Bool),(Qbo.j1 Qbx)=some r->AK X 21 ((K21 11 1)) (Yq X [] (.b r)) ⟨25,[(2,.b Qbx)],[]⟩:=by
  intro Qbx H
  obtain rfl:=Yi H
  exact Ym hf hX h0 (.b Qbx) [] an (.d (.v _))
 refine Qh hT 11 (K21 110 4) ⟨25,[(1,.ptr 0 0 0 0),(6,.b (decide (a0.Client>=1)))],[.box 39 (Yg a0)]⟩ ?_
 by_cases c1:a0.Client>=1
 ·replace H:=iT c1 H
  rw [decide_eq_true c1]
  refine Qh hT 5 (K21 110 9) ⟨25,[(1,.ptr 0 0 0 0),(11,.b (decide (a0.Client<=1048576)))],[.box 39 (Yg a0)]⟩ ?_
  by_cases c2:a0.Client<=1048576
  ·replace H:=iT c2 H
   rw [decide_eq_true c2]
   refine Qh hT 5 (K21 110 14) ⟨25,[(1,.ptr 0 0 0 0),(16,.b (decide (a0.Seq>=1)))],[.box 39 (Yg a0)]⟩ ?_
   by_cases c3:a0.Seq>=1
   ·replace H:=iT c3 H
    rw [decide_eq_true c3]
    refine Qh hT 5 (K21 110 19) ⟨25,[(1,.ptr 0 0 0 0),(21,.b (decide (a0.Seq<=1073741824)))],[.box 39 (Yg a0)]⟩ ?_
    by_cases c4:a0.Seq<=1073741824
    ·replace H:=iT c4 H
     rw [decide_eq_true c4]
     refine Qh hT 1 (K21 110 20) ⟨25,[(21,.b true),(22,.d (Qa3 a0))],[.box 39 (Yg a0)]⟩ ?_
     obtain ⟨v1,h5,H⟩:=ibC H
     refine Wx (Yh:=[.d (Qa3 a0)]) (dst:=some 23) (k':=(K21 110 21)) [21,23] [] hP Wb7 (Zf.Wv a0 h5) (by kernel_rfl) (Wh _) (.cons (Qp _) .nil) (st':=⟨25,[(21,.b true),(23,.b v1)],[.box 39 (Yg a0)]⟩) (by kernel_rfl) ?_
     refine Xq hT 3 (K21 11 1) [] ⟨25,[(2,.b v1)],[]⟩ h0 ?_
     exact Yv v1 H
    replace H:=iF c4 H
    rw [decide_eq_false c4]
    refine Xq hT 5 (K21 11 1) [] ⟨25,[(2,.b false)],[]⟩ h0 ?_
    exact Yv false H
   replace H:=iF c3 H
   rw [decide_eq_false c3]
   refine Xq hT 10 (K21 11 1) [] ⟨25,[(2,.b false)],[]⟩ h0 ?_
   exact Yv false H
  replace H:=iF c2 H
  rw [decide_eq_false c2]
  refine Xq hT 15 (K21 11 1) [] ⟨25,[(2,.b false)],[]⟩ h0 ?_
  exact Yv false H
 replace H:=iF c1 H
 rw [decide_eq_false c1]
 refine Xq hT 20 (K21 11 1) [] ⟨25,[(2,.b false)],[]⟩ h0 ?_
 exact Yv false H
theorem Qix.Wv (a0:Int) (a1:Qn):Zd Tryz.prog 46 [] [.i a0,.d (Qa3 a1)] [] (.d (Qmh (Qix a0 a1))):=by
 obtain ⟨r,H⟩:∃ r,Qix a0 a1=r:=⟨_,rfl⟩
 rw [H]
 refine Ye Tryz.func46 rfl (nt:=11) rfl (lb rfl) fun X hP h0 hX=>?_
 have hT:Xo X.P T:=hP▸tok
 have hf:X.P.funcs[46]? = some Tryz.f46:=hP▸Tryz.func46
 refine Qh hT 15 (K46 11 1) ⟨11,[(4,.ptr 1 0 0 0)],[.box 39 (Yg a1),.box 78 [.i a0,.i a1.Client,.i a1.Seq]]⟩ ?_
 obtain rfl:=H
 exact Qen hT hf hX (av:=.d (.agg [.i a0,.i a1.Client,.i a1.Seq])) (by kernel_rfl) [] (Jq (by kernel_rfl)) (by decide) (by rw [h0];rfl) (by kernel_rfl) an (.d (.agg (Qbf.nl _)))
theorem Qdk.Wv (a0:Qe):Zd Tryz.prog 23 [] [.d (Qdr a0)] [] (.d (Qmh (Qdk a0))):=by
 obtain ⟨r,H⟩:∃ r,Qdk a0=r:=⟨_,rfl⟩
 rw [H]
 refine Ye Tryz.func23 rfl (nt:=8) rfl (lb rfl) fun X hP h0 hX=>?_
 have hT:Xo X.P T:=hP▸tok
 have hf:X.P.funcs[23]? = some Tryz.f23:=hP▸Tryz.func23
 refine Qh hT 11 (K23 110 4) ⟨8,[(2,.ptr 1 0 0 0),(4,.i a0.Time),(6,.d (Qa3 a0.M))],[.box 41 (Qb2 a0),.box 78 [.i 0,.i 0,.i 0]]⟩ ?_
 refine Wx (Yh:=[.i a0.Time,.d (Qa3 a0.M)]) (dst:=some 7) (k':=(K23 110 5)) [2,7] [] hP Wb9 (Qix.Wv a0.Time a0.M) (by kernel_rfl) (Wh _) (.cons (Qp _) (.cons (Qp _) .nil)) (st':=⟨8,[(2,.ptr 1 0 0 0),(7,.d (Qmh (Qix a0.Time a0.M)))],[.box 41 (Qb2 a0),.box 78 [.i 0,.i 0,.i 0]]⟩) (by kernel_rfl) ?_
 obtain ⟨v1,h1,H⟩:=idC H
 rw [<- h1]
 refine Qh hT 2 (K23 11 1) ⟨8,[(2,.ptr 1 0 0 0)],[.box 41 (Qb2 a0),.box 78 (Qin v1)]⟩ ?_
 obtain rfl:=H
 exact Qen hT hf hX (av:=.d (Qmh v1)) (by kernel_rfl) [] (Jq (by kernel_rfl)) (by decide) (by rw [h0];rfl) (by kernel_rfl) an (.d (.agg (Qbf.nl _)))
theorem cmp_isNaN_int.Wv (a0:Int):Zd Tryz.prog 75 [] [.i a0] [] (.b (cmp_isNaN_int a0)):=by
 obtain ⟨r,H⟩:∃ r,cmp_isNaN_int a0=r:=⟨_,rfl⟩
 rw [H]
 refine Ye Tryz.func75 rfl (nt:=6) rfl (lb rfl) fun X hP h0 hX=>?_
 have hT:Xo X.P T:=hP▸tok
 have hf:X.P.funcs[75]? = some Tryz.f75:=hP▸Tryz.func75
 refine Qh hT 11 (K75 11 1) ⟨6,[(2,.b (a0 != a0))],[]⟩ ?_
 obtain rfl:=H
 exact Ym hf hX h0 (.b (a0 != a0)) [] an (.d (.v _))
theorem Zj.Wv (a0:Int) (a1:Int):Zd Tryz.prog 45 [] [.i a0,.i a1] [] (.i (Zj a0 a1)):=by
 obtain ⟨r,H⟩:∃ r,Zj a0 a1=r:=⟨_,rfl⟩
 rw [H]
 refine Ye Tryz.func45 rfl (nt:=20) rfl (lb rfl) fun X hP h0 hX=>?_
 have hT:Xo X.P T:=hP▸tok
 have hf:X.P.funcs[45]? = some Tryz.f45:=hP▸Tryz.func45
 refine Qh hT 7 (K45 110 1) ⟨20,[(0,.i a0),(1,.i a1),(7,.i a0)],[]⟩ ?_
 refine Wx (Yh:=[.i a0]) (dst:=some 8) (k':=(K45 110 2)) [0,1,8] [] hP Quj (cmp_isNaN_int.Wv a0) (by kernel_rfl) (Wh _) (.cons (Qp _) .nil) (st':=⟨20,[(0,.i a0),(1,.i a1),(8,.b (cmp_isNaN_int a0))],[]⟩) (by kernel_rfl) ?_
 refine Qh hT 5 (K45 1110 1) ⟨20,[(0,.i a0),(1,.i a1),(5,.b (cmp_isNaN_int a0)),(9,.i a1)],[]⟩ ?_
 refine Wx (Yh:=[.i a1]) (dst:=some 10) (k':=(K45 1110 2)) [0,1,5,10] [] hP Quj (cmp_isNaN_int.Wv a1) (by kernel_rfl) (Wh _) (.cons (Qp _) .nil) (st':=⟨20,[(0,.i a0),(1,.i a1),(5,.b (cmp_isNaN_int a0)),(10,.b (cmp_isNaN_int a1))],[]⟩) (by kernel_rfl) ?_
 refine Qh hT 7 (K45 11110 1) ⟨20,[(0,.i a0),(1,.i a1),(6,.b (cmp_isNaN_int a1)),(11,.b (cmp_isNaN_int a0))],[]⟩ ?_
 by_cases c1:(cmp_isNaN_int a0)=true
 ·replace H:=iT c1 H
  rw [c1]
  refine Qh hT 6 (K45 11110100 1) ⟨20,[(12,.b (cmp_isNaN_int a1))],[]⟩ ?_
  by_cases c2:(cmp_isNaN_int a1)=true
  ·replace H:=iT c2 H
   rw [c2]
   refine Qh hT 5 (K45 1111010010 1) ⟨20,[(4,.i 0)],[]⟩ ?_
   obtain rfl:=H
   exact Ym hf hX h0 (.i 0) [] an (.d (.v _))
  replace H:=iF c2 H
  rw [Jk c2]
  refine Qh hT 2 (K45 1111010 1) ⟨20,[],[]⟩ ?_
  refine Qh hT 4 (K45 11110101 1) ⟨20,[(4,.i (-1))],[]⟩ ?_
  obtain rfl:=H
  exact Ym hf hX h0 (.i (-1)) [] an (.d (.v _))
 replace H:=iF c1 H
 rw [Jk c1]
 refine Qh hT 2 (K45 1111 1) ⟨20,[(0,.i a0),(1,.i a1),(6,.b (cmp_isNaN_int a1))],[]⟩ ?_
 refine Qh hT 5 (K45 111110 1) ⟨20,[(0,.i a0),(1,.i a1),(13,.b (cmp_isNaN_int a1))],[]⟩ ?_
 by_cases c3:(cmp_isNaN_int a1)=true
 ·replace H:=iT c3 H
  rw [c3]
  refine Qh hT 5 (K45 11111010 1) ⟨20,[(4,.i 1)],[]⟩ ?_
  obtain rfl:=H
  exact Ym hf hX h0 (.i 1) [] an (.d (.v _))
 replace H:=iF c3 H
 rw [Jk c3]
 refine Qh hT 2 (K45 11111 1) ⟨20,[(0,.i a0),(1,.i a1)],[]⟩ ?_
 refine Qh hT 7 (K45 1111110 1) ⟨20,[(0,.i a0),(1,.i a1),(16,.b (decide (a0 < a1)))],[]⟩ ?_
 by_cases c4:a0 < a1
 ·replace H:=iT c4 H
  rw [decide_eq_true c4]
  refine Qh hT 5 (K45 111111010 1) ⟨20,[(4,.i (-1))],[]⟩ ?_
  obtain rfl:=H
  exact Ym hf hX h0 (.i (-1)) [] an (.d (.v _))
 replace H:=iF c4 H
 rw [decide_eq_false c4]
 refine Qh hT 2 (K45 111111 1) ⟨20,[(0,.i a0),(1,.i a1)],[]⟩ ?_
 refine Qh hT 7 (K45 11111110 1) ⟨20,[(19,.b (decide (a0 > a1)))],[]⟩ ?_
 by_cases c5:a0 > a1
 ·replace H:=iT c5 H
  rw [decide_eq_true c5]
  refine Qh hT 5 (K45 1111111010 1) ⟨20,[(4,.i 1)],[]⟩ ?_
  obtain rfl:=H
  exact Ym hf hX h0 (.i 1) [] an (.d (.v _))
 replace H:=iF c5 H
 rw [decide_eq_false c5]
 refine Qh hT 2 (K45 1111111 1) ⟨20,[],[]⟩ ?_
 refine Qh hT 4 (K45 11111111 1) ⟨20,[(4,.i 0)],[]⟩ ?_
 obtain rfl:=H
 exact Ym hf hX h0 (.i 0) [] an (.d (.v _))
abbrev Qax.p0 (t0:Bool) (a0:List Int):List (Nat × AV):=[(3,.i 0),(6,.d (eL3 t0 a0)),(7,.i (a0.length:Int))]
theorem Qax.Wv {t0:Bool} (a0:List Int) {r:Int} (H:Qax a0=some r):Zd Tryz.prog 44 [] [.d (eL3 t0 a0)] [] (.i r):=by
 refine Ye Tryz.func44 rfl (nt:=18) rfl (lb rfl) fun X hP h0 hX=>?_
 have hT:Xo X.P T:=hP▸tok
 have hf:X.P.funcs[44]? = some Tryz.f44:=hP▸Tryz.func44
 refine Qh hT 17 (K44 111010 0) ⟨18,(Qax.p0 t0 a0++[(8,.i 0)]),[]⟩ ?_
 have L:∀ n,(∀ (Qy:Int),iter (Qax.step a0) n (.l1 Qy)=some r->AK X 44 ((K44 111010 0)) (Yq X [] (.i r)) ⟨18,(Qax.p0 t0 a0++[(8,.i Qy)]),[]⟩):=by
  intro n
  induction n with
  | zero=>exact fun _ H=>Qay H
  | succ n ih=>
   ·intro Qy H
    refine Qh hT 5 (K44 11101001 0) ⟨18,(Qax.p0 t0 a0++[(8,.i Qy),(9,.b (decide (Qy < (a0.length:Int))))]),[]⟩ ?_
    by_cases c1:Qy < (a0.length:Int)
    ·replace H:=sT c1 H
     rw [decide_eq_true c1]
     refine Qh hT 2 (K44 11101001 1) ⟨18,(Qax.p0 t0 a0++[(8,.i Qy)]),[]⟩ ?_
     refine Qh hT 4 (K44 111010011000 0) ⟨18,(Qax.p0 t0 a0++[(8,.i Qy)]),[]⟩ ?_
     obtain ⟨h2,H⟩:=sC H
     refine Zv hT [3,6,7,8,10] (i:=Qy) (n:=(a0.length:Int)) h2.1 h2.2 (k':=(K44 111010011000 1)) (st':=⟨18,(Qax.p0 t0 a0++[(8,.i Qy),(10,.d (eP3 t0 a0 Qy.toNat 0))]),[]⟩) (by kernel_rfl) ?_
     refine Qh hT 9 (K44 111010011001 1) ⟨18,[(3,.i 0),(5,.i (a0.getD Qy.toNat 0)),(6,.d (eL3 t0 a0)),(7,.i (a0.length:Int)),(8,.i Qy),(14,.b ((a0.getD Qy.toNat 0) != 0))],[]⟩ ?_
     by_cases c3:(a0.getD Qy.toNat 0)=0
     ·replace H:=sT c3 H
      rw [neF c3]
      refine Qh hT 3 (K44 111010011 1) ⟨18,(Qax.p0 t0 a0++[(8,.i Qy)]),[]⟩ ?_
      refine Qh hT 5 (K44 111010 0) ⟨18,(Qax.p0 t0 a0++[(8,.i (IntKind.wrap .i64 (Qy+1)))]),[]⟩ ?_
      exact ih (IntKind.wrap .i64 (Qy+1)) H
     replace H:=sF c3 H
     rw [neT c3]
     refine Qh hT 6 (K44 11101001100110 1) ⟨18,[(2,.i (a0.getD Qy.toNat 0))],[]⟩ ?_
     obtain rfl:=Yi H
     exact Ym hf hX h0 (.i (a0.getD Qy.toNat 0)) [] an (.d (.v _))
    replace H:=sF c1 H
    rw [decide_eq_false c1]
    refine Qh hT 7 (K44 1111 1) ⟨18,[(2,.i 0)],[]⟩ ?_
    obtain rfl:=Yi H
    exact Ym hf hX h0 (.i 0) [] an (.d (.v _))
 obtain ⟨n,H⟩:=Qbu H
 exact (L n) 0 H
abbrev Qc8.q1 (a0:Qbf) (a1:Qbf):=([Zj a0.Time a1.Time,Zj a0.Client a1.Client,Zj a0.Seq a1.Seq]:List Int)
theorem Qc8.Wv (a0:Qbf) (a1:Qbf) {r:Int} (H:Qc8 a0 a1=some r):Zd Tryz.prog 22 [] [.d (Qmh a0),.d (Qmh a1)] [] (.i r):=by
 refine Ye Tryz.func22 rfl (nt:=22) rfl (lb rfl) fun X hP h0 hX=>?_
 have hT:Xo X.P T:=hP▸tok
 have hf:X.P.funcs[22]? = some Tryz.f22:=hP▸Tryz.func22
 refine Qh hT 7 (K22 11 0) ⟨22,[(2,.ptr 0 0 0 0),(3,.ptr 1 0 0 0)],[.box 78 (Qin a0),.box 78 (Qin a1)]⟩ ?_
 refine Qbp (hP▸mixed) 14 [2,3] (sm [.ptr 0 0 0 0,.i a0.Time,.ptr 1 0 0 0,.i a1.Time,.i (Zj a0.Time a1.Time),.ptr 0 0 0 1,.i a0.Client,.ptr 1 0 0 1,.i a1.Client,.i (Zj a0.Client a1.Client),.ptr 0 0 0 2,.i a0.Seq,.ptr 1 0 0 2,.i a1.Seq]) (Qj (Qj (Qj (Qj (opS (Qj (Qj (Qj (Qj (opS (Qj (Qj (Qj (Qj op0 hT) hT) hT) hT) (fun R rest h=>Zw (Yh:=[.i a0.Time,.i a1.Time]) (dst:=some 9) hP Qkb (Zj.Wv a0.Time a1.Time) (by kernel_rfl) (.cons (Qp _) (.cons (Qp _) .nil)) (by kernel_rfl) h)) hT) hT) hT) hT) (fun R rest h=>Zw (Yh:=[.i a0.Client,.i a1.Client]) (dst:=some 14) hP Qkb (Zj.Wv a0.Client a1.Client) (by kernel_rfl) (.cons (Qp _) (.cons (Qp _) .nil)) (by kernel_rfl) h)) hT) hT) hT) hT) ?_
 refine Qh hT 0 (K22 110 14) ⟨22,[(9,.i (Zj a0.Time a1.Time)),(14,.i (Zj a0.Client a1.Client)),(16,.i a0.Seq),(18,.i a1.Seq)],[.box 78 (Qin a0),.box 78 (Qin a1)]⟩ ?_
 refine Wx (Yh:=[.i a0.Seq,.i a1.Seq]) (dst:=some 19) (k':=(K22 110 15)) [9,14,19] [] hP Qkb (Zj.Wv a0.Seq a1.Seq) (by kernel_rfl) (Wh _) (.cons (Qp _) (.cons (Qp _) .nil)) (st':=⟨22,[(9,.i (Zj a0.Time a1.Time)),(14,.i (Zj a0.Client a1.Client)),(19,.i (Zj a0.Seq a1.Seq))],[.box 78 (Qin a0),.box 78 (Qin a1)]⟩) (by kernel_rfl) ?_
 refine Qh hT 1 (K22 110 16) ⟨22,[(20,.own 2 1 0 3)],[.box 78 (Qin a0),.box 78 (Qin a1),.flat false 1 3 3 (fun j=>[[.i (Zj a0.Time a1.Time)],[.i (Zj a0.Client a1.Client)],[.i (Zj a0.Seq a1.Seq)]].getD j [])]⟩ ?_
 refine Qfd 2 (kk:=1) (fz:=false) (ty:=3) (n:=(Qc8.q1 a0 a1).length) (vec (eI .i64) 0 (Qc8.q1 a0 a1)) (by kernel_rfl) Qep (st':=⟨22,[(20,.own 2 1 0 ((Qc8.q1 a0 a1).length))],[.box 78 (Qin a0),.box 78 (Qin a1),eR3 (Qc8.q1 a0 a1)]⟩) (by kernel_rfl) ?_
 obtain ⟨v1,h1,H⟩:=ibC H
 refine Wx (Yh:=[.own 2 1 0 ((Qc8.q1 a0 a1).length)]) (dst:=some 21) (k':=(K22 110 17)) [21] [] hP Wb8 (Qax.Wv (t0:=false) (Qc8.q1 a0 a1) h1) (by kernel_rfl) (Wh _) (.cons (.Qds (ty:=3) (by kernel_rfl) rfl) .nil) (st':=⟨22,[(21,.i v1)],[.box 78 (Qin a0),.box 78 (Qin a1),eR3 (Qc8.q1 a0 a1)]⟩) (by kernel_rfl) ?_
 refine Qh hT 2 (K22 11 1) ⟨22,[(4,.i v1)],[.box 78 (Qin a0),.box 78 (Qin a1),eR3 (Qc8.q1 a0 a1)]⟩ ?_
 obtain rfl:=Yi H
 exact Ym hf hX h0 (.i v1) [] an (.d (.v _))
abbrev Zn.p0 (t0:Bool) (a0:List Qe):List (Nat × AV):=[(0,.d (Xj t0 a0)),(5,.d (Xj t0 a0)),(6,.i (a0.length:Int))]
theorem Zn.Wv {t0:Bool} (a0:List Qe) {r:Bool} (H:Zn a0=some r):Zd Tryz.prog 6 [] [.d (Xj t0 a0)] [] (.b r):=by
 refine Ye Tryz.func6 rfl (nt:=33) rfl (lb rfl) fun X hP h0 hX=>?_
 have hT:Xo X.P T:=hP▸tok
 have hf:X.P.funcs[6]? = some Tryz.f6:=hP▸Tryz.func6
 refine Qh hT 13 (K6 11010 0) ⟨33,(Zn.p0 t0 a0++[(7,.i 0)]),[]⟩ ?_
 have L:∀ n,(∀ (Qr:Int),iter (Zn.step a0) n (.l1 Qr)=some r->AK X 6 ((K6 11010 0)) (Yq X [] (.b r)) ⟨33,(Zn.p0 t0 a0++[(7,.i Qr)]),[]⟩):=by
  intro n
  induction n with
  | zero=>exact fun _ H=>Qay H
  | succ n ih=>
   ·intro Qr H
    refine Qh hT 5 (K6 1101001 0) ⟨33,(Zn.p0 t0 a0++[(7,.i Qr),(8,.b (decide (Qr < (a0.length:Int))))]),[]⟩ ?_
    by_cases c1:Qr < (a0.length:Int)
    ·replace H:=sT c1 H
     rw [decide_eq_true c1]
     refine Qh hT 2 (K6 1101001 1) ⟨33,(Zn.p0 t0 a0++[(7,.i Qr)]),[]⟩ ?_
     refine Qh hT 5 (K6 11010011000 1) ⟨33,(Zn.p0 t0 a0++[(7,.i Qr),(9,.i Qr)]),[]⟩ ?_
     obtain ⟨h2,H⟩:=sC H
     refine Zv hT [0,5,6,7,9,10] (i:=Qr) (n:=(a0.length:Int)) h2.1 h2.2 (k':=(K6 11010011000 2)) (st':=⟨33,(Zn.p0 t0 a0++[(7,.i Qr),(9,.i Qr),(10,.d (Qjp t0 a0 Qr.toNat 0))]),[]⟩) (by kernel_rfl) ?_
     refine Qh hT 6 (K6 11010011001 0) ⟨33,[(0,.d (Xj t0 a0)),(3,.i Qr),(4,.ptr 0 0 0 0),(5,.d (Xj t0 a0)),(6,.i (a0.length:Int)),(7,.i Qr)],[.box 41 (Qb2 (a0.getD Qr.toNat Qe.z))]⟩ ?_
     obtain ⟨v1,h3,H⟩:=sbC H
     have Yv:∀ (Qqf:Bool),stk (Zn.j1 Qr Qqf) (iter (Zn.step a0) n)=some r->AK X 6 ((K6 11010011001 1)) (Yq X [] (.b r)) ⟨33,(Zn.p0 t0 a0++[(7,.i Qr),(31,.b Qqf)]),[]⟩:=by
      intro Qqf H
      by_cases c8:Qqf=true
      ·replace H:=sT c8 H
       rw [c8]
       refine Qh hT 5 (K6 1101001100110 1) ⟨33,[(2,.b false)],[]⟩ ?_
       obtain rfl:=Yi H
       exact Ym hf hX h0 (.b false) [] an (.d (.v _))
      replace H:=sF c8 H
      rw [Jk c8]
      refine Qh hT 3 (K6 11010011 1) ⟨33,(Zn.p0 t0 a0++[(7,.i Qr)]),[]⟩ ?_
      refine Qh hT 5 (K6 11010 0) ⟨33,(Zn.p0 t0 a0++[(7,.i (IntKind.wrap .i64 (Qr+1)))]),[]⟩ ?_
      exact ih (IntKind.wrap .i64 (Qr+1)) H
     by_cases c4:v1=true
     ·replace H:=sT c4 H
      by_cases c5:Qr > 0
      ·replace H:=sT c5 H
       obtain ⟨h6,H⟩:=sC H
       obtain ⟨v2,h7,H⟩:=sbC H
       refine Qbp (hP▸mixed) 20 [0,3,4,5,6,7] (sm [.ptr 0 0 0 0,.d (Qa3 ((a0.getD Qr.toNat Qe.z).M)),.b true,.b false,.b false,.i Qr,.b true,.b true,.d (Xj t0 a0),.i Qr,.i (IntKind.wrap .i64 (Qr - 1)),.d (Qjp t0 a0 ((IntKind.wrap .i64 (Qr - 1)).toNat) 0),.d (Qdr (a0.getD ((IntKind.wrap .i64 (Qr - 1)).toNat) Qe.z)),.d (Qmh (Qdk (a0.getD ((IntKind.wrap .i64 (Qr - 1)).toNat) Qe.z))),.d (Qdr (a0.getD Qr.toNat Qe.z)),.d (Qmh (Qdk (a0.getD Qr.toNat Qe.z))),.i v2,.b (decide (v2>=0)),.b (decide (v2>=0)),.b (decide (v2>=0))]) (Qj (Qj (Qj (opS (opS (Qj (opS (Qj (opS (Qj (Qj (Qj (Qj (opV (Qj (Qj (Qj (opS (Qj (Qj op0 hT) hT) (fun R rest h=>Zw (Yh:=[.d (Qa3 ((a0.getD Qr.toNat Qe.z).M))]) (dst:=some 14) hP Qgy (by have q:=Qbo.Wv ((a0.getD Qr.toNat Qe.z).M) h3;rw [c4] at q;exact q) (by kernel_rfl) (.cons (Qp _) .nil) (by kernel_rfl) h)) hT) hT) hT) hT 18 (.b (decide (Qr > 0))) (.b true) (by rw [decide_eq_true c5]<;>rfl)) hT) hT) hT) hT) (fun R rest h=>Xw hT (i:=IntKind.wrap .i64 (Qr - 1)) (n:=(a0.length:Int)) h6.1 h6.2 (by kernel_rfl) h)) hT) (fun R rest h=>Zw (Yh:=[.d (Qdr (a0.getD ((IntKind.wrap .i64 (Qr - 1)).toNat) Qe.z))]) (dst:=some 25) hP Qt9 (Qdk.Wv (a0.getD ((IntKind.wrap .i64 (Qr - 1)).toNat) Qe.z)) (by kernel_rfl) (.cons (Qp _) .nil) (by kernel_rfl) h)) hT) (fun R rest h=>Zw (Yh:=[.d (Qdr (a0.getD Qr.toNat Qe.z))]) (dst:=some 27) hP Qt9 (Qdk.Wv (a0.getD Qr.toNat Qe.z)) (by kernel_rfl) (.cons (Qp _) .nil) (by kernel_rfl) h)) (fun R rest h=>Zw (Yh:=[.d (Qmh (Qdk (a0.getD ((IntKind.wrap .i64 (Qr - 1)).toNat) Qe.z))),.d (Qmh (Qdk (a0.getD Qr.toNat Qe.z)))]) (dst:=some 28) hP Wb0 (Qc8.Wv (Qdk (a0.getD ((IntKind.wrap .i64 (Qr - 1)).toNat) Qe.z)) (Qdk (a0.getD Qr.toNat Qe.z)) h7) (by kernel_rfl) (.cons (Qp _) (.cons (Qp _) .nil)) (by kernel_rfl) h)) hT) hT) hT) ?_
       refine Xq hT 1 (K6 11010011001 1) [] ⟨33,(Zn.p0 t0 a0++[(7,.i Qr),(31,.b (decide (v2>=0)))]),[]⟩ h0 ?_
       exact Yv (decide (v2>=0)) H
      replace H:=sF c5 H
      refine Qbp (hP▸mixed) 20 [0,3,4,5,6,7] (sm [.ptr 0 0 0 0,.d (Qa3 ((a0.getD Qr.toNat Qe.z).M)),.b true,.b false,.b false,.i Qr,.b false,.b false,.Qo [],.Qo [],.Qo [],.Qo [],.Qo [],.Qo [],.Qo [],.Qo [],.Qo [],.Qo [],.b false,.b false]) (Qj (Qj (Qj (Qj (Qj (Qj (Qj (Qj (Qj (Qj (Qj (Qj (Qj (opV (Qj (Qj (Qj (opS (Qj (Qj op0 hT) hT) (fun R rest h=>Zw (Yh:=[.d (Qa3 ((a0.getD Qr.toNat Qe.z).M))]) (dst:=some 14) hP Qgy (by have q:=Qbo.Wv ((a0.getD Qr.toNat Qe.z).M) h3;rw [c4] at q;exact q) (by kernel_rfl) (.cons (Qp _) .nil) (by kernel_rfl) h)) hT) hT) hT) hT 18 (.b (decide (Qr > 0))) (.b false) (by rw [decide_eq_false c5]<;>rfl)) hT) hT) hT) hT) hT) hT) hT) hT) hT) hT) hT) hT) hT) ?_
      refine Xq hT 1 (K6 11010011001 1) [] ⟨33,(Zn.p0 t0 a0++[(7,.i Qr),(31,.b false)]),[]⟩ h0 ?_
      exact Yv false H
     replace H:=sF c4 H
     refine Qbp (hP▸mixed) 20 [0,3,4,5,6,7] (sm [.ptr 0 0 0 0,.d (Qa3 ((a0.getD Qr.toNat Qe.z).M)),.b false,.b true,.b true,.Qo [],.Qo [],.Qo [],.Qo [],.Qo [],.Qo [],.Qo [],.Qo [],.Qo [],.Qo [],.Qo [],.Qo [],.Qo [],.Qo [],.b true]) (Qj (Qj (Qj (Qj (Qj (Qj (Qj (Qj (Qj (Qj (Qj (Qj (Qj (Qj (Qj (Qj (Qj (opS (Qj (Qj op0 hT) hT) (fun R rest h=>Zw (Yh:=[.d (Qa3 ((a0.getD Qr.toNat Qe.z).M))]) (dst:=some 14) hP Qgy (by have q:=Qbo.Wv ((a0.getD Qr.toNat Qe.z).M) h3;rw [Jk c4] at q;exact q) (by kernel_rfl) (.cons (Qp _) .nil) (by kernel_rfl) h)) hT) hT) hT) hT) hT) hT) hT) hT) hT) hT) hT) hT) hT) hT) hT) hT) hT) ?_
     refine Xq hT 1 (K6 11010011001 1) [] ⟨33,(Zn.p0 t0 a0++[(7,.i Qr),(31,.b true)]),[]⟩ h0 ?_
     exact Yv true H
    replace H:=sF c1 H
    rw [decide_eq_false c1]
    refine Qh hT 6 (K6 111 1) ⟨33,[(2,.b true)],[]⟩ ?_
    obtain rfl:=Yi H
    exact Ym hf hX h0 (.b true) [] an (.d (.v _))
 obtain ⟨n,H⟩:=Qbu H
 exact (L n) 0 H
abbrev Zc.p0 (t0:Bool) (a0:List Qa) (t1:Bool) (a1:List Qa):List (Nat × AV):=[(0,.d (Yb t0 a0)),(1,.d (Yb t1 a1)),(12,.i (a0.length:Int))]
theorem Zc.Wv {t0:Bool} {t1:Bool} (a0:List Qa) (a1:List Qa) {r:Bool} (H:Zc a0 a1=some r):Zd Tryz.prog 115 [] [.d (Yb t0 a0),.d (Yb t1 a1)] [] (.b r):=by
 refine Ye Tryz.func115 rfl (nt:=26) rfl (lb rfl) fun X hP h0 hX=>?_
 have hT:Xo X.P T:=hP▸tok
 have hf:X.P.funcs[115]? = some Tryz.f115:=hP▸Tryz.func115
 refine Qh hT 13 (Qij 110 1) ⟨26,[(0,.d (Yb t0 a0)),(1,.d (Yb t1 a1)),(10,.b ((a0.length:Int) != (a1.length:Int)))],[]⟩ ?_
 by_cases c1:(a0.length:Int)=(a1.length:Int)
 ·replace H:=iT c1 H
  rw [neF c1]
  refine Qh hT 2 (Qij 11 1) ⟨26,[(0,.d (Yb t0 a0)),(1,.d (Yb t1 a1))],[]⟩ ?_
  refine Qh hT 9 (Qij 111010 0) ⟨26,(Zc.p0 t0 a0 t1 a1++[(13,.i 0)]),[]⟩ ?_
  have L:∀ n,(∀ (Jv:Int),iter (Zc.step a0 a1) n (.l1 Jv)=some r->AK X 115 ((Qij 111010 0)) (Yq X [] (.b r)) ⟨26,(Zc.p0 t0 a0 t1 a1++[(13,.i Jv)]),[]⟩):=by
   intro n
   induction n with
   | zero=>exact fun _ H=>Qay H
   | succ n ih=>
    ·intro Jv H
     refine Qh hT 5 (Qij 11101001 0) ⟨26,(Zc.p0 t0 a0 t1 a1++[(13,.i Jv),(14,.b (decide (Jv < (a0.length:Int))))]),[]⟩ ?_
     by_cases c2:Jv < (a0.length:Int)
     ·replace H:=sT c2 H
      rw [decide_eq_true c2]
      refine Qh hT 2 (Qij 11101001 1) ⟨26,(Zc.p0 t0 a0 t1 a1++[(13,.i Jv)]),[]⟩ ?_
      refine Qh hT 8 (Qij 111010011001 0) ⟨26,[(0,.d (Yb t0 a0)),(1,.d (Yb t1 a1)),(5,.i Jv),(12,.i (a0.length:Int)),(13,.i Jv)],[]⟩ ?_
      obtain ⟨h3,H⟩:=sC H
      obtain ⟨h4,H⟩:=sC H
      refine Qbp (hP▸mixed) 9 [0,1,5,12,13] (sm [.d (Yb t0 a0),.i Jv,.d (Qer t0 a0 Jv.toNat 0),.d (Qf0 (a0.getD Jv.toNat Qa.z)),.d (Yb t1 a1),.i Jv,.d (Qer t1 a1 Jv.toNat 0),.d (Qf0 (a1.getD Jv.toNat Qa.z)),.b (!((((a0.getD Jv.toNat Qa.z).Key) == ((a1.getD Jv.toNat Qa.z).Key)) && (((a0.getD Jv.toNat Qa.z).Val) == ((a1.getD Jv.toNat Qa.z).Val))))]) (Qj (Qj (opS (Qj (Qj (Qj (opS (Qj (Qj op0 hT) hT) (fun R rest h=>Xw hT (i:=Jv) (n:=(a0.length:Int)) h3.1 h3.2 (by kernel_rfl) h)) hT) hT) hT) (fun R rest h=>Xw hT (i:=Jv) (n:=(a1.length:Int)) h4.1 h4.2 (by kernel_rfl) h)) hT) hT) ?_
      refine Qh hT 1 (Qij 111010011001 1) ⟨26,(Zc.p0 t0 a0 t1 a1++[(13,.i Jv),(24,.b (!((((a0.getD Jv.toNat Qa.z).Key) == ((a1.getD Jv.toNat Qa.z).Key)) && (((a0.getD Jv.toNat Qa.z).Val) == ((a1.getD Jv.toNat Qa.z).Val)))))]),[]⟩ ?_
      by_cases c5:((a0.getD Jv.toNat Qa.z).Key)=((a1.getD Jv.toNat Qa.z).Key)
      ·replace H:=sT c5 H
       rw [eqT c5]
       by_cases c6:((a0.getD Jv.toNat Qa.z).Val)=((a1.getD Jv.toNat Qa.z).Val)
       ·replace H:=sT c6 H
        rw [eqT c6]
        refine Qh hT 3 (Qij 111010011 1) ⟨26,(Zc.p0 t0 a0 t1 a1++[(13,.i Jv)]),[]⟩ ?_
        refine Qh hT 5 (Qij 111010 0) ⟨26,(Zc.p0 t0 a0 t1 a1++[(13,.i (IntKind.wrap .i64 (Jv+1)))]),[]⟩ ?_
        exact ih (IntKind.wrap .i64 (Jv+1)) H
       replace H:=sF c6 H
       rw [eqF c6]
       refine Qh hT 5 (Qij 11101001100110 1) ⟨26,[(4,.b false)],[]⟩ ?_
       obtain rfl:=Yi H
       exact Ym hf hX h0 (.b false) [] an (.d (.v _))
      replace H:=sF c5 H
      rw [eqF c5]
      by_cases c7:((a0.getD Jv.toNat Qa.z).Val)=((a1.getD Jv.toNat Qa.z).Val)
      ·replace H:=sT c7 H
       rw [eqT c7]
       refine Qh hT 5 (Qij 11101001100110 1) ⟨26,[(4,.b false)],[]⟩ ?_
       obtain rfl:=Yi H
       exact Ym hf hX h0 (.b false) [] an (.d (.v _))
      replace H:=sF c7 H
      rw [eqF c7]
      refine Qh hT 5 (Qij 11101001100110 1) ⟨26,[(4,.b false)],[]⟩ ?_
      obtain rfl:=Yi H
      exact Ym hf hX h0 (.b false) [] an (.d (.v _))
     replace H:=sF c2 H
     rw [decide_eq_false c2]
     refine Qh hT 6 (Qij 1111 1) ⟨26,[(4,.b true)],[]⟩ ?_
     obtain rfl:=Yi H
     exact Ym hf hX h0 (.b true) [] an (.d (.v _))
  obtain ⟨n,H⟩:=Qbu H
  exact (L n) 0 H
 replace H:=iF c1 H
 rw [neT c1]
 refine Qh hT 5 (Qij 11010 1) ⟨26,[(4,.b false)],[]⟩ ?_
 obtain rfl:=Yi H
 exact Ym hf hX h0 (.b false) [] an (.d (.v _))
abbrev Qcz.p0:List (Nat × AV):=[(2,.ptr 0 0 0 0),(3,.ptr 1 0 0 0)]
theorem Qcz.Wv (a0:Qn) (a1:Qn) {r:Bool} (H:Qcz a0 a1=some r):Zd Tryz.prog 98 [] [.d (Qa3 a0),.d (Qa3 a1)] [] (.b r):=by
 refine Ye Tryz.func98 rfl (nt:=45) rfl (lb rfl) fun X hP h0 hX=>?_
 have hT:Xo X.P T:=hP▸tok
 have hf:X.P.funcs[98]? = some Tryz.f98:=hP▸Tryz.func98
 have Yv:∀ (Qdj:Bool),(Qcz.j1 Qdj)=some r->AK X 98 ((K98 11 1)) (Yq X [] (.b r)) ⟨45,[(4,.b Qdj)],[]⟩:=by
  intro Qdj H
  obtain rfl:=Yi H
  exact Ym hf hX h0 (.b Qdj) [] an (.d (.v _))
 refine Qh hT 14 (K98 110 6) ⟨45,(Qcz.p0++[(10,.b (a0.Client == a1.Client))]),[.box 39 (Yg a0),.box 39 (Yg a1)]⟩ ?_
 by_cases c1:a0.Client=a1.Client
 ·replace H:=iT c1 H
  rw [eqT c1]
  refine Qh hT 7 (K98 110 13) ⟨45,(Qcz.p0++[(17,.b (a0.Seq == a1.Seq))]),[.box 39 (Yg a0),.box 39 (Yg a1)]⟩ ?_
  by_cases c2:a0.Seq=a1.Seq
  ·replace H:=iT c2 H
   rw [eqT c2]
   refine Qh hT 7 (K98 110 20) ⟨45,(Qcz.p0++[(24,.b (a0.Kind == a1.Kind))]),[.box 39 (Yg a0),.box 39 (Yg a1)]⟩ ?_
   by_cases c3:a0.Kind=a1.Kind
   ·replace H:=iT c3 H
    rw [eqT c3]
    refine Qh hT 7 (K98 110 27) ⟨45,(Qcz.p0++[(31,.b ((a0.Over.Lo == a1.Over.Lo) && (a0.Over.Hi == a1.Over.Hi)))]),[.box 39 (Yg a0),.box 39 (Yg a1)]⟩ ?_
    by_cases c4:a0.Over.Lo=a1.Over.Lo
    ·replace H:=iT c4 H
     rw [eqT c4]
     by_cases c5:a0.Over.Hi=a1.Over.Hi
     ·replace H:=iT c5 H
      rw [eqT c5]
      refine Qh hT 7 (K98 110 34) ⟨45,(Qcz.p0++[(38,.b (a0.Old == a1.Old))]),[.box 39 (Yg a0),.box 39 (Yg a1)]⟩ ?_
      by_cases c6:a0.Old=a1.Old
      ·replace H:=iT c6 H
       rw [eqT c6]
       refine Qh hT 4 (K98 110 38) ⟨45,[(38,.b true),(40,.d (Yb true a0.Pairs)),(42,.d (Yb true a1.Pairs))],[.box 39 (Yg a0),.box 39 (Yg a1)]⟩ ?_
       obtain ⟨v1,h7,H⟩:=ibC H
       refine Wx (Yh:=[.d (Yb true a0.Pairs),.d (Yb true a1.Pairs)]) (dst:=some 43) (k':=(K98 110 39)) [38,43] [] hP Qzs (Zc.Wv (t0:=true) (t1:=true) a0.Pairs a1.Pairs h7) (by kernel_rfl) (Wh _) (.cons (Qp _) (.cons (Qp _) .nil)) (st':=⟨45,[(38,.b true),(43,.b v1)],[.box 39 (Yg a0),.box 39 (Yg a1)]⟩) (by kernel_rfl) ?_
       refine Xq hT 3 (K98 11 1) [] ⟨45,[(4,.b v1)],[]⟩ h0 ?_
       exact Yv v1 H
      replace H:=iF c6 H
      rw [eqF c6]
      refine Xq hT 8 (K98 11 1) [] ⟨45,[(4,.b false)],[]⟩ h0 ?_
      exact Yv false H
     replace H:=iF c5 H
     rw [eqF c5]
     refine Xq hT 15 (K98 11 1) [] ⟨45,[(4,.b false)],[]⟩ h0 ?_
     exact Yv false H
    replace H:=iF c4 H
    rw [eqF c4]
    by_cases c8:a0.Over.Hi=a1.Over.Hi
    ·replace H:=iT c8 H
     rw [eqT c8]
     refine Xq hT 15 (K98 11 1) [] ⟨45,[(4,.b false)],[]⟩ h0 ?_
     exact Yv false H
    replace H:=iF c8 H
    rw [eqF c8]
    refine Xq hT 15 (K98 11 1) [] ⟨45,[(4,.b false)],[]⟩ h0 ?_
    exact Yv false H
   replace H:=iF c3 H
   rw [eqF c3]
   refine Xq hT 22 (K98 11 1) [] ⟨45,[(4,.b false)],[]⟩ h0 ?_
   exact Yv false H
  replace H:=iF c2 H
  rw [eqF c2]
  refine Xq hT 29 (K98 11 1) [] ⟨45,[(4,.b false)],[]⟩ h0 ?_
  exact Yv false H
 replace H:=iF c1 H
 rw [eqF c1]
 refine Xq hT 36 (K98 11 1) [] ⟨45,[(4,.b false)],[]⟩ h0 ?_
 exact Yv false H
theorem Qdq.Wv (a0:Ze):Zd Tryz.prog 99 [] [.d (Qid a0)] [] (.b (Qdq a0)):=by
 obtain ⟨r,H⟩:∃ r,Qdq a0=r:=⟨_,rfl⟩
 rw [H]
 refine Ye Tryz.func99 rfl (nt:=17) rfl (lb rfl) fun X hP h0 hX=>?_
 have hT:Xo X.P T:=hP▸tok
 have hf:X.P.funcs[99]? = some Tryz.f99:=hP▸Tryz.func99
 refine Qh hT 12 (K99 110 1) ⟨17,[(1,.ptr 0 0 0 0),(5,.b (!a0.Some))],[.box 36 (Qzg a0)]⟩ ?_
 by_cases c1:a0.Some=true
 ·replace H:=iT c1 H
  have Yv:∀ (Qbx:Bool),(Qdq.j1 Qbx)=r->AK X 99 ((K99 111 1)) (Yq X [] (.b r)) ⟨17,[(2,.b Qbx)],[]⟩:=by
   intro Qbx H
   obtain rfl:=H
   exact Ym hf hX h0 (.b Qbx) [] an (.d (.v _))
  rw [c1]
  refine Qh hT 2 (K99 11 1) ⟨17,[(1,.ptr 0 0 0 0)],[.box 36 (Qzg a0)]⟩ ?_
  refine Qh hT 6 (K99 1110 4) ⟨17,[(1,.ptr 0 0 0 0),(12,.b (decide (a0.Val>=(-1099511627776))))],[.box 36 (Qzg a0)]⟩ ?_
  by_cases c2:a0.Val>=(-1099511627776)
  ·replace H:=iT c2 H
   rw [decide_eq_true c2]
   refine Xq hT 6 (K99 111 1) [] ⟨17,[(2,.b (decide (a0.Val<=1099511627776)))],[]⟩ h0 ?_
   exact Yv (decide (a0.Val<=1099511627776)) H
  replace H:=iF c2 H
  rw [decide_eq_false c2]
  refine Xq hT 6 (K99 111 1) [] ⟨17,[(2,.b false)],[]⟩ h0 ?_
  exact Yv false H
 replace H:=iF c1 H
 rw [Jk c1]
 refine Qh hT 8 (K99 11010 1) ⟨17,[(2,.b (a0.Val == 0))],[.box 36 (Qzg a0)]⟩ ?_
 obtain rfl:=H
 exact Ym hf hX h0 (.b (a0.Val == 0)) [] an (.d (.v _))
abbrev Zl.p0:List (Nat × AV):=[(1,.ptr 0 0 0 0)]
theorem Zl.Wv (a0:Wn) {r:Bool} (H:Zl a0=some r):Zd Tryz.prog 76 [] [.d (Qrd a0)] [] (.b r):=by
 refine Ye Tryz.func76 rfl (nt:=70) rfl (lb rfl) fun X hP h0 hX=>?_
 have hT:Xo X.P T:=hP▸tok
 have hf:X.P.funcs[76]? = some Tryz.f76:=hP▸Tryz.func76
 refine Qh hT 17 (K76 11010 1) ⟨70,(Zl.p0++[(4,.i a0.Kind),(5,.b (a0.Kind == 1))]),[.box 74 (Qbb a0)]⟩ ?_
 by_cases c1:a0.Kind=1
 ·replace H:=iT c1 H
  rw [eqT c1]
  refine Qh hT 5 (K76 11010100 2) ⟨70,(Zl.p0++[(8,.d (Qa3 a0.M))]),[.box 74 (Qbb a0)]⟩ ?_
  obtain ⟨v1,h2,H⟩:=ibC H
  have Yv:∀ (Qbx:Bool),(Zl.j1 Qbx)=some r->AK X 76 ((K76 1101010 1)) (Yq X [] (.b r)) ⟨70,[(2,.b Qbx)],[]⟩:=by
   intro Qbx H
   obtain rfl:=Yi H
   exact Ym hf hX h0 (.b Qbx) [] an (.d (.v _))
  refine Wx (Yh:=[.d (Qa3 a0.M)]) (dst:=some 9) (k':=(K76 11010100 3)) [1,9] [] hP Qgy (Qbo.Wv a0.M h2) (by kernel_rfl) (Wh _) (.cons (Qp _) .nil) (st':=⟨70,(Zl.p0++[(9,.b v1)]),[.box 74 (Qbb a0)]⟩) (by kernel_rfl) ?_
  refine Qh hT 1 (K76 11010100 4) ⟨70,(Zl.p0++[(10,.b v1)]),[.box 74 (Qbb a0)]⟩ ?_
  by_cases c3:v1=true
  ·replace H:=iT c3 H
   rw [c3]
   refine Qh hT 8 (K76 11010100 12) ⟨70,(Zl.p0++[(18,.b (a0.M.Client == a0.Client))]),[.box 74 (Qbb a0)]⟩ ?_
   by_cases c4:a0.M.Client=a0.Client
   ·replace H:=iT c4 H
    rw [eqT c4]
    refine Qh hT 5 (K76 11010100 17) ⟨70,(Zl.p0++[(23,.b (a0.Key == 0))]),[.box 74 (Qbb a0)]⟩ ?_
    by_cases c5:a0.Key=0
    ·replace H:=iT c5 H
     rw [eqT c5]
     refine Qh hT 6 (K76 11010100 23) ⟨70,(Zl.p0++[(29,.b ((a0.Cell.Val == 0) && (a0.Cell.Some == false)))]),[.box 74 (Qbb a0)]⟩ ?_
     by_cases c6:a0.Cell.Val=0
     ·replace H:=iT c6 H
      rw [eqT c6]
      by_cases c7:a0.Cell.Some=true
      ·replace H:=iT c7 H
       rw [c7]
       refine Xq hT 6 (K76 1101010 1) [] ⟨70,[(2,.b false)],[]⟩ h0 ?_
       exact Yv false H
      replace H:=iF c7 H
      rw [Jk c7]
      refine Xq hT 6 (K76 1101010 1) [] ⟨70,[(2,.b (a0.Mark == 0))],[]⟩ h0 ?_
      exact Yv (a0.Mark == 0) H
     replace H:=iF c6 H
     rw [eqF c6]
     by_cases c8:a0.Cell.Some=true
     ·replace H:=iT c8 H
      rw [c8]
      refine Xq hT 6 (K76 1101010 1) [] ⟨70,[(2,.b false)],[]⟩ h0 ?_
      exact Yv false H
     replace H:=iF c8 H
     rw [Jk c8]
     refine Xq hT 6 (K76 1101010 1) [] ⟨70,[(2,.b false)],[]⟩ h0 ?_
     exact Yv false H
    replace H:=iF c5 H
    rw [eqF c5]
    refine Xq hT 12 (K76 1101010 1) [] ⟨70,[(2,.b false)],[]⟩ h0 ?_
    exact Yv false H
   replace H:=iF c4 H
   rw [eqF c4]
   refine Xq hT 17 (K76 1101010 1) [] ⟨70,[(2,.b false)],[]⟩ h0 ?_
   exact Yv false H
  replace H:=iF c3 H
  rw [Jk c3]
  refine Xq hT 25 (K76 1101010 1) [] ⟨70,[(2,.b false)],[]⟩ h0 ?_
  exact Yv false H
 replace H:=iF c1 H
 rw [eqF c1]
 refine Qh hT 6 (K76 1101011 1) ⟨70,(Zl.p0++[(34,.b (a0.Kind == 2))]),[.box 74 (Qbb a0)]⟩ ?_
 by_cases c9:a0.Kind=2
 ·replace H:=iT c9 H
  rw [eqT c9]
  refine Qh hT 6 (K76 1101011100 3) ⟨70,(Zl.p0++[(37,.d (Qa3 a0.M)),(38,.d (.agg [.i 0,.i 0,.i 0,.ns,.i 0,.i 0,.i 0]))]),[.box 74 (Qbb a0)]⟩ ?_
  obtain ⟨v2,h10,H⟩:=ibC H
  have Jj2:∀ (Qhe:Bool),(Zl.j2 Qhe)=some r->AK X 76 ((K76 110101110 1)) (Yq X [] (.b r)) ⟨70,[(2,.b Qhe)],[]⟩:=by
   intro Qhe H
   obtain rfl:=Yi H
   exact Ym hf hX h0 (.b Qhe) [] an (.d (.v _))
  refine Wx (Yh:=[.d (Qa3 a0.M),.d (.agg [.i 0,.i 0,.i 0,.ns,.i 0,.i 0,.i 0])]) (dst:=some 39) (k':=(K76 1101011100 4)) [1,39] [] hP Wc5 (Qcz.Wv a0.M (⟨0,0,0,[],(⟨0,0⟩:Qb),0⟩:Qn) h10) (by kernel_rfl) (Wh _) (.cons (Qp _) (.cons (.Qs9 (.cons (Qp _) (.cons (Qp _) (.cons (Qp _) (.cons (.nil _ _) (.cons (Qp _) (.cons (Qp _) (.cons (Qp _) .nil)))))))) .nil)) (st':=⟨70,(Zl.p0++[(39,.b v2)]),[.box 74 (Qbb a0)]⟩) (by kernel_rfl) ?_
  refine Qh hT 1 (K76 1101011100 5) ⟨70,(Zl.p0++[(40,.b v2)]),[.box 74 (Qbb a0)]⟩ ?_
  by_cases c11:v2=true
  ·replace H:=iT c11 H
   rw [c11]
   refine Qh hT 5 (K76 1101011100 10) ⟨70,(Zl.p0++[(45,.b (decide (a0.Client>=1)))]),[.box 74 (Qbb a0)]⟩ ?_
   by_cases c12:a0.Client>=1
   ·replace H:=iT c12 H
    rw [decide_eq_true c12]
    refine Qh hT 5 (K76 1101011100 15) ⟨70,(Zl.p0++[(50,.b (decide (a0.Client<=1048576)))]),[.box 74 (Qbb a0)]⟩ ?_
    by_cases c13:a0.Client<=1048576
    ·replace H:=iT c13 H
     rw [decide_eq_true c13]
     refine Qh hT 5 (K76 1101011100 20) ⟨70,(Zl.p0++[(55,.b (decide (a0.Key>=0)))]),[.box 74 (Qbb a0)]⟩ ?_
     by_cases c14:a0.Key>=0
     ·replace H:=iT c14 H
      rw [decide_eq_true c14]
      refine Qh hT 5 (K76 1101011100 25) ⟨70,(Zl.p0++[(60,.b (decide (a0.Key < 4096)))]),[.box 74 (Qbb a0)]⟩ ?_
      by_cases c15:a0.Key < 4096
      ·replace H:=iT c15 H
       rw [decide_eq_true c15]
       refine Qh hT 2 (K76 1101011100 27) ⟨70,(Zl.p0++[(60,.b true),(62,.d (Qid a0.Cell))]),[.box 74 (Qbb a0)]⟩ ?_
       refine Wx (Yh:=[.d (Qid a0.Cell)]) (dst:=some 63) (k':=(K76 1101011100 28)) [1,60,63] [] hP Wc6 (Qdq.Wv a0.Cell) (by kernel_rfl) (Wh _) (.cons (Qp _) .nil) (st':=⟨70,(Zl.p0++[(60,.b true),(63,.b (Qdq a0.Cell))]),[.box 74 (Qbb a0)]⟩) (by kernel_rfl) ?_
       refine Qh hT 2 (K76 1101011100 30) ⟨70,(Zl.p0++[(65,.b (Qdq a0.Cell))]),[.box 74 (Qbb a0)]⟩ ?_
       by_cases c16:(Qdq a0.Cell)=true
       ·replace H:=iT c16 H
        rw [c16]
        refine Xq hT 6 (K76 110101110 1) [] ⟨70,[(2,.b (decide (a0.Mark>=0)))],[]⟩ h0 ?_
        exact Jj2 (decide (a0.Mark>=0)) H
       replace H:=iF c16 H
       rw [Jk c16]
       refine Xq hT 6 (K76 110101110 1) [] ⟨70,[(2,.b false)],[]⟩ h0 ?_
       exact Jj2 false H
      replace H:=iF c15 H
      rw [decide_eq_false c15]
      refine Xq hT 11 (K76 110101110 1) [] ⟨70,[(2,.b false)],[]⟩ h0 ?_
      exact Jj2 false H
     replace H:=iF c14 H
     rw [decide_eq_false c14]
     refine Xq hT 16 (K76 110101110 1) [] ⟨70,[(2,.b false)],[]⟩ h0 ?_
     exact Jj2 false H
    replace H:=iF c13 H
    rw [decide_eq_false c13]
    refine Xq hT 21 (K76 110101110 1) [] ⟨70,[(2,.b false)],[]⟩ h0 ?_
    exact Jj2 false H
   replace H:=iF c12 H
   rw [decide_eq_false c12]
   refine Xq hT 26 (K76 110101110 1) [] ⟨70,[(2,.b false)],[]⟩ h0 ?_
   exact Jj2 false H
  replace H:=iF c11 H
  rw [Jk c11]
  refine Xq hT 31 (K76 110101110 1) [] ⟨70,[(2,.b false)],[]⟩ h0 ?_
  exact Jj2 false H
 replace H:=iF c9 H
 rw [eqF c9]
 refine Qh hT 3 (K76 11 1) ⟨70,[],[.box 74 (Qbb a0)]⟩ ?_
 refine Qh hT 4 (K76 111 1) ⟨70,[(2,.b false)],[.box 74 (Qbb a0)]⟩ ?_
 obtain rfl:=Yi H
 exact Ym hf hX h0 (.b false) [] an (.d (.v _))
theorem Zp.Wv {t0:Bool} {Jl:FuncId} {Jo:List DV} (a0:List Qe) (p1:Qe->Option Bool) (he1:Sy.Enters Tryz.prog Jl) (hp1:∀ (z0:Qe) r,p1 z0=some r->Zd Tryz.prog Jl [] ([.d (Qdr z0)] ++ List.map AV.d Jo) [] (.b r)) {r:Int} (H:Zp a0 p1=some r):Zd Tryz.prog 87 [] [.d (Xj t0 a0),.d (.fn Jl Jo)] [] (.i r):=by
 refine Ye Tryz.func87 rfl (nt:=19) rfl (lb rfl) fun X hP h0 hX=>?_
 have hT:Xo X.P T:=hP▸tok
 have hf:X.P.funcs[87]? = some Tryz.f87:=hP▸Tryz.func87
 refine Qh hT 13 (K87 11010 0) ⟨19,[(0,.d (Xj t0 a0)),(1,.d (.fn Jl Jo)),(7,.i (a0.length:Int)),(8,.i 0)],[]⟩ ?_
 have L:∀ n,(∀ (Qy:Int),iter (Zp.step a0 p1) n (.l1 Qy)=some r->AK X 87 ((K87 11010 0)) (Yq X [] (.i r)) ⟨19,[(0,.d (Xj t0 a0)),(1,.d (.fn Jl Jo)),(7,.i (a0.length:Int)),(8,.i Qy)],[]⟩):=by
  intro n
  induction n with
  | zero=>exact fun _ H=>Qay H
  | succ n ih=>
   ·intro Qy H
    refine Qh hT 5 (K87 1101001 0) ⟨19,[(0,.d (Xj t0 a0)),(1,.d (.fn Jl Jo)),(7,.i (a0.length:Int)),(8,.i Qy),(9,.b (decide (Qy < (a0.length:Int))))],[]⟩ ?_
    by_cases c1:Qy < (a0.length:Int)
    ·replace H:=sT c1 H
     rw [decide_eq_true c1]
     refine Qh hT 2 (K87 1101001 1) ⟨19,[(0,.d (Xj t0 a0)),(1,.d (.fn Jl Jo)),(7,.i (a0.length:Int)),(8,.i Qy)],[]⟩ ?_
     refine Qh hT 12 (K87 110100110010 3) ⟨19,[(0,.d (Xj t0 a0)),(1,.d (.fn Jl Jo)),(5,.i Qy),(7,.i (a0.length:Int)),(8,.i Qy),(11,.d (.fn Jl Jo)),(12,.d (Xj t0 a0)),(13,.i Qy)],[]⟩ ?_
     obtain ⟨h2,H⟩:=sC H
     refine Zv hT [0,1,5,7,8,11,14] (i:=Qy) (n:=(a0.length:Int)) h2.1 h2.2 (k':=(K87 110100110010 4)) (st':=⟨19,[(0,.d (Xj t0 a0)),(1,.d (.fn Jl Jo)),(5,.i Qy),(7,.i (a0.length:Int)),(8,.i Qy),(11,.d (.fn Jl Jo)),(14,.d (Qjp t0 a0 Qy.toNat 0))],[]⟩) (by kernel_rfl) ?_
     refine Qh hT 1 (K87 110100110010 5) ⟨19,[(0,.d (Xj t0 a0)),(1,.d (.fn Jl Jo)),(5,.i Qy),(7,.i (a0.length:Int)),(8,.i Qy),(11,.d (.fn Jl Jo)),(15,.d (Qdr (a0.getD Qy.toNat Qe.z)))],[]⟩ ?_
     obtain ⟨v1,h3,H⟩:=sbC H
     refine Wx (Yh:=[.d (Qdr (a0.getD Qy.toNat Qe.z))] ++ List.map AV.d Jo) (dst:=some 16) (k':=(K87 110100110010 6)) [0,1,5,7,8,16] [] hP he1 (hp1 (a0.getD Qy.toNat Qe.z) v1 h3) (by kernel_rfl) (Wh _) (.cons (Qp _) (Qh1 _)) (st':=⟨19,[(0,.d (Xj t0 a0)),(1,.d (.fn Jl Jo)),(5,.i Qy),(7,.i (a0.length:Int)),(8,.i Qy),(16,.b v1)],[]⟩) (by kernel_rfl) ?_
     refine Qh hT 1 (K87 11010011001 1) ⟨19,[(0,.d (Xj t0 a0)),(1,.d (.fn Jl Jo)),(5,.i Qy),(7,.i (a0.length:Int)),(8,.i Qy),(16,.b v1)],[]⟩ ?_
     by_cases c4:v1=true
     ·replace H:=sT c4 H
      rw [c4]
      refine Qh hT 6 (K87 1101001100110 1) ⟨19,[(4,.i Qy)],[]⟩ ?_
      obtain rfl:=Yi H
      exact Ym hf hX h0 (.i Qy) [] an (.d (.v _))
     replace H:=sF c4 H
     rw [Jk c4]
     refine Qh hT 3 (K87 11010011 1) ⟨19,[(0,.d (Xj t0 a0)),(1,.d (.fn Jl Jo)),(7,.i (a0.length:Int)),(8,.i Qy)],[]⟩ ?_
     refine Qh hT 5 (K87 11010 0) ⟨19,[(0,.d (Xj t0 a0)),(1,.d (.fn Jl Jo)),(7,.i (a0.length:Int)),(8,.i (IntKind.wrap .i64 (Qy+1)))],[]⟩ ?_
     exact ih (IntKind.wrap .i64 (Qy+1)) H
    replace H:=sF c1 H
    rw [decide_eq_false c1]
    refine Qh hT 6 (K87 111 1) ⟨19,[(4,.i (-1))],[]⟩ ?_
    obtain rfl:=Yi H
    exact Ym hf hX h0 (.i (-1)) [] an (.d (.v _))
 obtain ⟨n,H⟩:=Qbu H
 exact (L n) 0 H
theorem Qa5.Wv {t0:Bool} {Jl:FuncId} {Jo:List DV} (a0:List Qe) (p1:Qe->Option Bool) (he1:Sy.Enters Tryz.prog Jl) (hp1:∀ (z0:Qe) r,p1 z0=some r->Zd Tryz.prog Jl [] ([.d (Qdr z0)] ++ List.map AV.d Jo) [] (.b r)) {r:Bool} (H:Qa5 a0 p1=some r):Zd Tryz.prog 60 [] [.d (Xj t0 a0),.d (.fn Jl Jo)] [] (.b r):=by
 refine Ye Tryz.func60 rfl (nt:=9) rfl (lb rfl) fun X hP h0 hX=>?_
 have hT:Xo X.P T:=hP▸tok
 have hf:X.P.funcs[60]? = some Tryz.f60:=hP▸Tryz.func60
 refine Qh hT 8 (K60 110 2) ⟨9,[(5,.d (Xj t0 a0)),(6,.d (.fn Jl Jo))],[]⟩ ?_
 obtain ⟨v1,h1,H⟩:=ibC H
 refine Wx (Yh:=[.d (Xj t0 a0),.d (.fn Jl Jo)]) (dst:=some 7) (k':=(K60 110 3)) [7] [] hP Wcx (Zp.Wv (t0:=t0) (Jl:=Jl) (Jo:=Jo) a0 p1 he1 hp1 h1) (by kernel_rfl) (Wh _) (.cons (Qp _) (.cons (Qp _) .nil)) (st':=⟨9,[(7,.i v1)],[]⟩) (by kernel_rfl) ?_
 refine Qh hT 3 (K60 11 1) ⟨9,[(4,.b (decide (v1>=0)))],[]⟩ ?_
 obtain rfl:=Yi H
 exact Ym hf hX h0 (.b (decide (v1>=0))) [] an (.d (.v _))
theorem Qb1.Wv (a0:Qe) (k0:Qn) (k1:Int):Zd Tryz.prog 124 [] [.d (Qdr a0),.d (.rop false 1 (fun _=>[.i k0.Client,.i k0.Seq,.i k0.Kind,Yb true k0.Pairs,.i k0.Over.Lo,.i k0.Over.Hi,.i k0.Old]) 0 0),.d (.rop false 1 (fun _=>[.i k1]) 0 0)] [] (.b (Qb1 a0 k0 k1)):=by
 obtain ⟨r,H⟩:∃ r,Qb1 a0 k0 k1=r:=⟨_,rfl⟩
 rw [H]
 refine Ye Tryz.func124 rfl (nt:=25) rfl (lb rfl) fun X hP h0 hX=>?_
 have hT:Xo X.P T:=hP▸tok
 have hf:X.P.funcs[124]? = some Tryz.f124:=hP▸Tryz.func124
 have Yv:∀ (Qdj:Bool),(Qb1.j1 Qdj)=r->AK X 124 ((Qs7 11 1)) (Yq X [] (.b r)) ⟨25,[(4,.b Qdj)],[]⟩:=by
  intro Qdj H
  obtain rfl:=H
  exact Ym hf hX h0 (.b Qdj) [] an (.d (.v _))
 refine Qh hT 14 (Qs7 110 7) ⟨25,[(1,.d (.rop false 1 (fun _=>[.i k0.Client,.i k0.Seq,.i k0.Kind,Yb true k0.Pairs,.i k0.Over.Lo,.i k0.Over.Hi,.i k0.Old]) 0 0)),(2,.d (.rop false 1 (fun _=>[.i k1]) 0 0)),(3,.ptr 0 0 0 0),(11,.b (a0.M.Client == k0.Client))],[.box 41 (Qb2 a0)]⟩ ?_
 by_cases c1:a0.M.Client=k0.Client
 ·replace H:=iT c1 H
  rw [eqT c1]
  refine Qh hT 8 (Qs7 110 15) ⟨25,[(2,.d (.rop false 1 (fun _=>[.i k1]) 0 0)),(3,.ptr 0 0 0 0),(19,.b (a0.M.Seq == k0.Seq))],[.box 41 (Qb2 a0)]⟩ ?_
  by_cases c2:a0.M.Seq=k0.Seq
  ·replace H:=iT c2 H
   rw [eqT c2]
   refine Xq hT 7 (Qs7 11 1) [] ⟨25,[(4,.b (decide (a0.Time<=k1)))],[]⟩ h0 ?_
   exact Yv (decide (a0.Time<=k1)) H
  replace H:=iF c2 H
  rw [eqF c2]
  refine Xq hT 7 (Qs7 11 1) [] ⟨25,[(4,.b false)],[]⟩ h0 ?_
  exact Yv false H
 replace H:=iF c1 H
 rw [eqF c1]
 refine Xq hT 15 (Qs7 11 1) [] ⟨25,[(4,.b false)],[]⟩ h0 ?_
 exact Yv false H
theorem Qfv.Wv {t0:Bool} (a0:List Qe) (a1:Qn) (a2:Int) {r:Bool} (H:Qfv a0 a1 a2=some r):Zd Tryz.prog 118 [] [.d (Xj t0 a0),.d (Qa3 a1),.i a2] [] (.b r):=by
 refine Ye Tryz.func118 rfl (nt:=10) rfl (lb rfl) fun X hP h0 hX=>?_
 have hT:Xo X.P T:=hP▸tok
 have hf:X.P.funcs[118]? = some Tryz.f118:=hP▸Tryz.func118
 refine Qh hT 10 (Wet 110 2) ⟨10,[(7,.d (Xj t0 a0)),(8,.fn 124 [.ptr 0 0 0 0,.ptr 1 0 0 0])],[.box 39 (Yg a1),.box 3 [.i a2]]⟩ ?_
 obtain ⟨v1,h1,H⟩:=ibC H
 refine Wx (Yh:=[.d (Xj t0 a0),.fn 124 [.ptr 0 0 0 0,.ptr 1 0 0 0]]) (dst:=some 9) (k':=(Wet 110 3)) [9] [] hP Quf (Qa5.Wv (t0:=t0) (Jl:=124) (Jo:=[.rop false 1 (fun _=>[.i a1.Client,.i a1.Seq,.i a1.Kind,Yb true a1.Pairs,.i a1.Over.Lo,.i a1.Over.Hi,.i a1.Old]) 0 0,.rop false 1 (fun _=>[.i a2]) 0 0]) a0 (fun z0=>some (Qb1 z0 a1 a2)) Qz0 (fun z0 r h=>by obtain rfl:=Yi h;exact Qb1.Wv z0 a1 a2) h1) (by kernel_rfl) (Wh _) (.cons (Qp _) (.cons (.fn 124 (.cons (.look (ty:=39) (cs:=[.i a1.Client,.i a1.Seq,.i a1.Kind,Yb true a1.Pairs,.i a1.Over.Lo,.i a1.Over.Hi,.i a1.Old]) (by kernel_rfl) rfl) (.cons (.look (ty:=3) (cs:=[.i a2]) (by kernel_rfl) rfl) .nil))) .nil)) (st':=⟨10,[(9,.b v1)],[.box 39 (Yg a1),.box 3 [.i a2]]⟩) (by kernel_rfl) ?_
 refine Qh hT 2 (Wet 11 1) ⟨10,[(6,.b v1)],[.box 39 (Yg a1),.box 3 [.i a2]]⟩ ?_
 obtain rfl:=Yi H
 exact Ym hf hX h0 (.b v1) [] an (.d (.v _))
theorem Qex.Wv:Zd Tryz.prog 101 [] [] [Qav (Qex)] (.own 0 2 0 ((Qex).length)):=by
 obtain ⟨r,H⟩:∃ r,Qex=r:=⟨_,rfl⟩
 rw [H]
 refine Ye Tryz.func101 rfl (nt:=3) rfl (lb rfl) fun X hP h0 hX=>?_
 have hT:Xo X.P T:=hP▸tok
 have hf:X.P.funcs[101]? = some Tryz.f101:=hP▸Tryz.func101
 refine Qh hT 10 (Wjr 11 1) ⟨3,[(0,.own 0 2 0 1)],[.flat false 2 33 1 (fun j=>[[.i 0,.i 4096]].getD j [])]⟩ ?_
 refine Qfd 0 (kk:=2) (fz:=false) (ty:=33) (n:=([(⟨0,4096⟩:Qb)]:List Qb).length) (vec Qb.e Qb.z ([(⟨0,4096⟩:Qb)]:List Qb)) (by kernel_rfl) Qep (st':=⟨3,[(0,.own 0 2 0 (([(⟨0,4096⟩:Qb)]:List Qb).length))],[Qav ([(⟨0,4096⟩:Qb)]:List Qb)]⟩) (by kernel_rfl) ?_
 obtain rfl:=H
 exact Ym hf hX h0 (.own 0 2 0 (([(⟨0,4096⟩:Qb)]:List Qb).length)) [0] (ac (Qat Qb.nl) an) (.own _ _ _ _)
abbrev Xz.p0 (t0:Bool) (a0:List Qe) (a2:Int):List (Nat × AV):=[(0,.d (Xj t0 a0)),(2,.i a2)]
theorem Xz.Wv {t0:Bool} (a0:List Qe) (a1:Qf5) (a2:Int) {r:List Qn} (H:Xz a0 a1 a2=some r):Zd Tryz.prog 102 [] [.d (Xj t0 a0),.d (.rop false 1 (fun _=>[Qcg false a1.l,.i a1.mark]) 0 0),.i a2] [Qeg r] (.own 0 7 0 r.length):=by
 refine Ye Tryz.func102 rfl (nt:=32) rfl (lb rfl) fun X hP h0 hX=>?_
 have hT:Xo X.P T:=hP▸tok
 have hf:X.P.funcs[102]? = some Tryz.f102:=hP▸Tryz.func102
 refine Qh hT 28 (Qib 1111010 0) ⟨32,(Xz.p0 t0 a0 a2++[(7,.ns),(15,.d (Qcg false a1.l)),(16,.i (a1.l.length:Int)),(17,.i 0)]),[]⟩ ?_
 refine Qb8 [0,2,7,15,16,17] 7 7 39 (vec Qn.e Qn.z []) (st':=⟨32,(Xz.p0 t0 a0 a2++[(7,.own 0 7 0 0),(15,.d (Qcg false a1.l)),(16,.i (a1.l.length:Int)),(17,.i 0)]),[Qeg ([]:List Qn)]⟩) (by kernel_rfl) (by kernel_rfl) ?_
 have L:∀ n,(∀ (Zo:Int) (Qi:List Qn),iter (Xz.step a0 a1 a2) n (.l1 Zo Qi)=some r->AK X 102 ((Qib 1111010 0)) (Yq X [Qeg r] (.own 0 7 0 r.length)) ⟨32,(Xz.p0 t0 a0 a2++[(7,.own 0 7 0 Qi.length),(15,.d (Qcg false a1.l)),(16,.i (a1.l.length:Int)),(17,.i Zo)]),[Qeg Qi]⟩):=by
  intro n
  induction n with
  | zero=>exact fun _ _ H=>Qay H
  | succ n ih=>
   ·intro Zo Qi H
    refine Qh hT 5 (Qib 111101001 0) ⟨32,(Xz.p0 t0 a0 a2++[(7,.own 0 7 0 Qi.length),(15,.d (Qcg false a1.l)),(16,.i (a1.l.length:Int)),(17,.i Zo),(18,.b (decide (Zo < (a1.l.length:Int))))]),[Qeg Qi]⟩ ?_
    by_cases c1:Zo < (a1.l.length:Int)
    ·replace H:=sT c1 H
     rw [decide_eq_true c1]
     refine Qh hT 2 (Qib 111101001 1) ⟨32,(Xz.p0 t0 a0 a2++[(7,.own 0 7 0 Qi.length),(15,.d (Qcg false a1.l)),(16,.i (a1.l.length:Int)),(17,.i Zo)]),[Qeg Qi]⟩ ?_
     refine Qh hT 4 (Qib 1111010011000 0) ⟨32,(Xz.p0 t0 a0 a2++[(7,.own 0 7 0 Qi.length),(15,.d (Qcg false a1.l)),(16,.i (a1.l.length:Int)),(17,.i Zo)]),[Qeg Qi]⟩ ?_
     obtain ⟨h2,H⟩:=sC H
     refine Zv hT [0,2,7,15,16,17,19] (i:=Zo) (n:=(a1.l.length:Int)) h2.1 h2.2 (k':=(Qib 1111010011000 1)) (st':=⟨32,(Xz.p0 t0 a0 a2++[(7,.own 0 7 0 Qi.length),(15,.d (Qcg false a1.l)),(16,.i (a1.l.length:Int)),(17,.i Zo),(19,.d (Wfd false a1.l Zo.toNat 0))]),[Qeg Qi]⟩) (by kernel_rfl) ?_
     refine Qh hT 9 (Qib 11110100110010 3) ⟨32,(Xz.p0 t0 a0 a2++[(7,.own 0 7 0 Qi.length),(9,.ptr 1 0 0 0),(15,.d (Qcg false a1.l)),(16,.i (a1.l.length:Int)),(17,.i Zo),(21,.d (Xj t0 a0)),(22,.d (Qa3 (a1.l.getD Zo.toNat Qn.z))),(23,.i a2)]),[Qeg Qi,.box 39 (Yg (a1.l.getD Zo.toNat Qn.z))]⟩ ?_
     obtain ⟨v1,h3,H⟩:=sbC H
     have Yv:∀ (Qd3:List Qn),stk (Xz.j1 Zo Qd3) (iter (Xz.step a0 a1 a2) n)=some r->AK X 102 ((Qib 1111010011 1)) (Yq X [Qeg r] (.own 0 7 0 r.length)) ⟨32,(Xz.p0 t0 a0 a2++[(7,.own 0 7 0 Qd3.length),(15,.d (Qcg false a1.l)),(16,.i (a1.l.length:Int)),(17,.i Zo)]),[Qeg Qd3]⟩:=by
      intro Qd3 H
      refine Qh hT 5 (Qib 1111010 0) ⟨32,(Xz.p0 t0 a0 a2++[(7,.own 0 7 0 Qd3.length),(15,.d (Qcg false a1.l)),(16,.i (a1.l.length:Int)),(17,.i (IntKind.wrap .i64 (Zo+1)))]),[Qeg Qd3]⟩ ?_
      exact ih (IntKind.wrap .i64 (Zo+1)) Qd3 H
     refine Wx (Yh:=[.d (Xj t0 a0),.d (Qa3 (a1.l.getD Zo.toNat Qn.z)),.i a2]) (dst:=some 24) (k':=(Qib 11110100110010 4)) [0,2,7,9,15,16,17,24] [] hP Qzv (Qfv.Wv (t0:=t0) a0 (a1.l.getD Zo.toNat Qn.z) a2 h3) (by kernel_rfl) (Wh _) (.cons (Qp _) (.cons (Qp _) (.cons (Qp _) .nil))) (st':=⟨32,(Xz.p0 t0 a0 a2++[(7,.own 0 7 0 Qi.length),(9,.ptr 1 0 0 0),(15,.d (Qcg false a1.l)),(16,.i (a1.l.length:Int)),(17,.i Zo),(24,.b v1)]),[Qeg Qi,.box 39 (Yg (a1.l.getD Zo.toNat Qn.z))]⟩) (by kernel_rfl) ?_
     refine Qh hT 2 (Qib 1111010011001 1) ⟨32,(Xz.p0 t0 a0 a2++[(7,.own 0 7 0 Qi.length),(9,.ptr 1 0 0 0),(15,.d (Qcg false a1.l)),(16,.i (a1.l.length:Int)),(17,.i Zo),(25,.b (!v1))]),[Qeg Qi,.box 39 (Yg (a1.l.getD Zo.toNat Qn.z))]⟩ ?_
     by_cases c4:v1=true
     ·replace H:=sT c4 H
      rw [c4]
      refine Xq hT 3 (Qib 1111010011 1) [0] ⟨32,(Xz.p0 t0 a0 a2++[(7,.own 0 7 0 Qi.length),(15,.d (Qcg false a1.l)),(16,.i (a1.l.length:Int)),(17,.i Zo)]),[Qeg Qi]⟩ h0 ?_
      exact Yv Qi H
     replace H:=sF c4 H
     rw [Jk c4]
     refine Qh hT 5 (Qib 111101001100110 3) ⟨32,(Xz.p0 t0 a0 a2++[(15,.d (Qcg false a1.l)),(16,.i (a1.l.length:Int)),(17,.i Zo),(26,.own 0 7 0 Qi.length),(28,.own 2 7 0 1)]),[Qeg Qi,.box 39 (Yg (a1.l.getD Zo.toNat Qn.z)),.flat false 7 39 1 (fun j=>[Qn.e (a1.l.getD Zo.toNat Qn.z)].getD j [])]⟩ ?_
     obtain ⟨h5,H⟩:=sC H
     refine Qca (id:=0) (kk:=7) (by':=72) (t:=169) (e:=39) (z:=[.int .i64 0,.int .i64 0,.int .i64 0,.slice none 0 0,.int .i64 0,.int .i64 0,.int .i64 0]) (dst:=some 29) (id2:=2) (e2:=39) (fz:=false) (k':=(Qib 111101001100110 4)) hT Qn.e Qn.z Qi (a1.l.getD Zo.toNat Qn.z) [0,2,15,16,17,29] (by kernel_rfl) (by kernel_rfl) (by kernel_rfl) (by kernel_rfl) (by kernel_rfl) (by kernel_rfl) (by kernel_rfl) h5 (by omega) (st':=⟨32,(Xz.p0 t0 a0 a2++[(15,.d (Qcg false a1.l)),(16,.i (a1.l.length:Int)),(17,.i Zo),(29,.own 3 7 0 ((Qi ++ [(a1.l.getD Zo.toNat Qn.z)]).length))]),[.gone,.box 39 (Yg (a1.l.getD Zo.toNat Qn.z)),.flat false 7 39 1 (fun j=>[Qn.e (a1.l.getD Zo.toNat Qn.z)].getD j []),Qeg (Qi ++ [(a1.l.getD Zo.toNat Qn.z)])]⟩) (by kernel_rfl) ?_
     refine Xq hT 3 (Qib 1111010011 1) [3] ⟨32,(Xz.p0 t0 a0 a2++[(7,.own 0 7 0 (Qi ++ [(a1.l.getD Zo.toNat Qn.z)]).length),(15,.d (Qcg false a1.l)),(16,.i (a1.l.length:Int)),(17,.i Zo)]),[Qeg (Qi ++ [(a1.l.getD Zo.toNat Qn.z)])]⟩ h0 ?_
     exact Yv (Qi ++ [(a1.l.getD Zo.toNat Qn.z)]) H
    replace H:=sF c1 H
    rw [decide_eq_false c1]
    refine Qh hT 7 (Qib 11111 1) ⟨32,[(6,.own 0 7 0 Qi.length)],[Qeg Qi]⟩ ?_
    obtain rfl:=Yi H
    exact Ym hf hX h0 (.own 0 7 0 Qi.length) [0] (ac (Qat Qn.nl) an) (.own _ _ _ _)
 refine Qgo [0] ⟨32,(Xz.p0 t0 a0 a2++[(7,.own 0 7 0 ([]:List Qn).length),(15,.d (Qcg false a1.l)),(16,.i (a1.l.length:Int)),(17,.i 0)]),[Qeg ([]:List Qn)]⟩ h0 ?_
 obtain ⟨n,H⟩:=Qbu H
 exact (L n) 0 ([]:List Qn) H
abbrev Zb.p0 (t0:Bool) (a0:List Qb):List (Nat × AV):=[(0,.d (Wu t0 a0)),(5,.d (Wu t0 a0)),(6,.i (a0.length:Int))]
theorem Zb.Wv {t0:Bool} (a0:List Qb) {r:Bool} (H:Zb a0=some r):Zd Tryz.prog 29 [] [.d (Wu t0 a0)] [] (.b r):=by
 refine Ye Tryz.func29 rfl (nt:=34) rfl (lb rfl) fun X hP h0 hX=>?_
 have hT:Xo X.P T:=hP▸tok
 have hf:X.P.funcs[29]? = some Tryz.f29:=hP▸Tryz.func29
 refine Qh hT 13 (K29 11010 0) ⟨34,(Zb.p0 t0 a0++[(7,.i 0)]),[]⟩ ?_
 have L:∀ n,(∀ (Qr:Int),iter (Zb.step a0) n (.l1 Qr)=some r->AK X 29 ((K29 11010 0)) (Yq X [] (.b r)) ⟨34,(Zb.p0 t0 a0++[(7,.i Qr)]),[]⟩):=by
  intro n
  induction n with
  | zero=>exact fun _ H=>Qay H
  | succ n ih=>
   ·intro Qr H
    refine Qh hT 5 (K29 1101001 0) ⟨34,(Zb.p0 t0 a0++[(7,.i Qr),(8,.b (decide (Qr < (a0.length:Int))))]),[]⟩ ?_
    by_cases c1:Qr < (a0.length:Int)
    ·replace H:=sT c1 H
     rw [decide_eq_true c1]
     refine Qh hT 2 (K29 1101001 1) ⟨34,(Zb.p0 t0 a0++[(7,.i Qr)]),[]⟩ ?_
     refine Qh hT 5 (K29 11010011000 1) ⟨34,(Zb.p0 t0 a0++[(7,.i Qr),(9,.i Qr)]),[]⟩ ?_
     obtain ⟨h2,H⟩:=sC H
     have Yv:∀ (Qqd:Bool),stk (Zb.j1 Qr Qqd) (iter (Zb.step a0) n)=some r->AK X 29 ((K29 11010011001 1)) (Yq X [] (.b r)) ⟨34,(Zb.p0 t0 a0++[(7,.i Qr),(29,.b Qqd)]),[]⟩:=by
      intro Qqd H
      by_cases c6:Qqd=true
      ·replace H:=sT c6 H
       rw [c6]
       refine Qh hT 5 (K29 1101001100110 1) ⟨34,[(2,.b false)],[]⟩ ?_
       obtain rfl:=Yi H
       exact Ym hf hX h0 (.b false) [] an (.d (.v _))
      replace H:=sF c6 H
      rw [Jk c6]
      refine Qh hT 3 (K29 11010011 1) ⟨34,(Zb.p0 t0 a0++[(7,.i Qr)]),[]⟩ ?_
      refine Qh hT 5 (K29 11010 0) ⟨34,(Zb.p0 t0 a0++[(7,.i (IntKind.wrap .i64 (Qr+1)))]),[]⟩ ?_
      exact ih (IntKind.wrap .i64 (Qr+1)) H
     refine Zv hT [0,5,6,7,9,10] (i:=Qr) (n:=(a0.length:Int)) h2.1 h2.2 (k':=(K29 11010011000 2)) (st':=⟨34,(Zb.p0 t0 a0++[(7,.i Qr),(9,.i Qr),(10,.d (Qre t0 a0 Qr.toNat 0))]),[]⟩) (by kernel_rfl) ?_
     refine Qh hT 6 (K29 11010011001 0) ⟨34,[(0,.d (Wu t0 a0)),(3,.i Qr),(4,.ptr 0 0 0 0),(5,.d (Wu t0 a0)),(6,.i (a0.length:Int)),(7,.i Qr)],[.box 33 (Qe8 (a0.getD Qr.toNat Qb.z))]⟩ ?_
     by_cases c3:(Qbr (a0.getD Qr.toNat Qb.z))=true
     ·replace H:=sT c3 H
      by_cases c4:Qr > 0
      ·replace H:=sT c4 H
       obtain ⟨h5,H⟩:=sC H
       refine Qbp (hP▸mixed) 18 [0,3,4,5,6,7] (sm [.d (Qfo (a0.getD Qr.toNat Qb.z)),.b true,.b false,.b false,.i Qr,.b true,.b true,.ptr 0 0 0 0,.i ((a0.getD Qr.toNat Qb.z).Lo),.d (Wu t0 a0),.i Qr,.i (IntKind.wrap .i64 (Qr - 1)),.d (Qre t0 a0 ((IntKind.wrap .i64 (Qr - 1)).toNat) 0),.d (Qre t0 a0 ((IntKind.wrap .i64 (Qr - 1)).toNat) 1),.i ((a0.getD ((IntKind.wrap .i64 (Qr - 1)).toNat) Qb.z).Hi),.b (decide (((a0.getD Qr.toNat Qb.z).Lo)<=((a0.getD ((IntKind.wrap .i64 (Qr - 1)).toNat) Qb.z).Hi))),.b (decide (((a0.getD Qr.toNat Qb.z).Lo)<=((a0.getD ((IntKind.wrap .i64 (Qr - 1)).toNat) Qb.z).Hi))),.b (decide (((a0.getD Qr.toNat Qb.z).Lo)<=((a0.getD ((IntKind.wrap .i64 (Qr - 1)).toNat) Qb.z).Hi)))]) (Qj (Qj (Qj (Qj (Qj (opS (Qj (Qj (Qj (Qj (Qj (Qj (opV (Qj (Qj (Qj (opS (Qj op0 hT) (fun R rest h=>Zw (Yh:=[.d (Qfo (a0.getD Qr.toNat Qb.z))]) (dst:=some 13) hP Qis (by have q:=Qbr.Wv (a0.getD Qr.toNat Qb.z);rw [c3] at q;exact q) (by kernel_rfl) (.cons (Qp _) .nil) (by kernel_rfl) h)) hT) hT) hT) hT 17 (.b (decide (Qr > 0))) (.b true) (by rw [decide_eq_true c4]<;>rfl)) hT) hT) hT) hT) hT) hT) (fun R rest h=>Xw hT (i:=IntKind.wrap .i64 (Qr - 1)) (n:=(a0.length:Int)) h5.1 h5.2 (by kernel_rfl) h)) hT) hT) hT) hT) hT) ?_
       refine Xq hT 1 (K29 11010011001 1) [] ⟨34,(Zb.p0 t0 a0++[(7,.i Qr),(29,.b (decide (((a0.getD Qr.toNat Qb.z).Lo)<=((a0.getD ((IntKind.wrap .i64 (Qr - 1)).toNat) Qb.z).Hi))))]),[]⟩ h0 ?_
       exact Yv (decide (((a0.getD Qr.toNat Qb.z).Lo)<=((a0.getD ((IntKind.wrap .i64 (Qr - 1)).toNat) Qb.z).Hi))) H
      replace H:=sF c4 H
      refine Qbp (hP▸mixed) 18 [0,3,4,5,6,7] (sm [.d (Qfo (a0.getD Qr.toNat Qb.z)),.b true,.b false,.b false,.i Qr,.b false,.b false,.Qo [],.Qo [],.Qo [],.Qo [],.Qo [],.Qo [],.Qo [],.Qo [],.Qo [],.b false,.b false]) (Qj (Qj (Qj (Qj (Qj (Qj (Qj (Qj (Qj (Qj (Qj (Qj (opV (Qj (Qj (Qj (opS (Qj op0 hT) (fun R rest h=>Zw (Yh:=[.d (Qfo (a0.getD Qr.toNat Qb.z))]) (dst:=some 13) hP Qis (by have q:=Qbr.Wv (a0.getD Qr.toNat Qb.z);rw [c3] at q;exact q) (by kernel_rfl) (.cons (Qp _) .nil) (by kernel_rfl) h)) hT) hT) hT) hT 17 (.b (decide (Qr > 0))) (.b false) (by rw [decide_eq_false c4]<;>rfl)) hT) hT) hT) hT) hT) hT) hT) hT) hT) hT) hT) hT) ?_
      refine Xq hT 1 (K29 11010011001 1) [] ⟨34,(Zb.p0 t0 a0++[(7,.i Qr),(29,.b false)]),[]⟩ h0 ?_
      exact Yv false H
     replace H:=sF c3 H
     refine Qbp (hP▸mixed) 18 [0,3,4,5,6,7] (sm [.d (Qfo (a0.getD Qr.toNat Qb.z)),.b false,.b true,.b true,.Qo [],.Qo [],.Qo [],.Qo [],.Qo [],.Qo [],.Qo [],.Qo [],.Qo [],.Qo [],.Qo [],.Qo [],.Qo [],.b true]) (Qj (Qj (Qj (Qj (Qj (Qj (Qj (Qj (Qj (Qj (Qj (Qj (Qj (Qj (Qj (Qj (opS (Qj op0 hT) (fun R rest h=>Zw (Yh:=[.d (Qfo (a0.getD Qr.toNat Qb.z))]) (dst:=some 13) hP Qis (by have q:=Qbr.Wv (a0.getD Qr.toNat Qb.z);rw [Jk c3] at q;exact q) (by kernel_rfl) (.cons (Qp _) .nil) (by kernel_rfl) h)) hT) hT) hT) hT) hT) hT) hT) hT) hT) hT) hT) hT) hT) hT) hT) hT) ?_
     refine Xq hT 1 (K29 11010011001 1) [] ⟨34,(Zb.p0 t0 a0++[(7,.i Qr),(29,.b true)]),[]⟩ h0 ?_
     exact Yv true H
    replace H:=sF c1 H
    rw [decide_eq_false c1]
    refine Qh hT 9 (K29 111 1) ⟨34,[(2,.b (decide ((a0.length:Int)<=64)))],[]⟩ ?_
    obtain rfl:=Yi H
    exact Ym hf hX h0 (.b (decide ((a0.length:Int)<=64))) [] an (.d (.v _))
 obtain ⟨n,H⟩:=Qbu H
 exact (L n) 0 H
theorem Qgg.Wv (a0:Qe) {r:Bool} (H:Qgg a0=some r):Zd Tryz.prog 61 [] [.d (Qdr a0)] [] (.b r):=by
 refine Ye Tryz.func61 rfl (nt:=7) rfl (lb rfl) fun X hP h0 hX=>?_
 have hT:Xo X.P T:=hP▸tok
 have hf:X.P.funcs[61]? = some Tryz.f61:=hP▸Tryz.func61
 refine Qh hT 9 (K61 110 2) ⟨7,[(4,.d (Qa3 a0.M))],[.box 41 (Qb2 a0)]⟩ ?_
 obtain ⟨v1,h1,H⟩:=ibC H
 refine Wx (Yh:=[.d (Qa3 a0.M)]) (dst:=some 5) (k':=(K61 110 3)) [5] [] hP Qgy (Qbo.Wv a0.M h1) (by kernel_rfl) (Wh _) (.cons (Qp _) .nil) (st':=⟨7,[(5,.b v1)],[.box 41 (Qb2 a0)]⟩) (by kernel_rfl) ?_
 refine Qh hT 3 (K61 11 1) ⟨7,[(2,.b (!v1))],[.box 41 (Qb2 a0)]⟩ ?_
 obtain rfl:=Yi H
 exact Ym hf hX h0 (.b (!v1)) [] an (.d (.v _))
abbrev Xl.q1 (a0:List Qa) (Qr:Int):=((a0.getD Qr.toNat Qa.z).Key)
abbrev Xl.p0 (t0:Bool) (a0:List Qa):List (Nat × AV):=[(0,.d (Yb t0 a0)),(5,.d (Yb t0 a0)),(6,.i (a0.length:Int))]
theorem Xl.Wv {t0:Bool} (a0:List Qa) {r:Bool} (H:Xl a0=some r):Zd Tryz.prog 51 [] [.d (Yb t0 a0)] [] (.b r):=by
 refine Ye Tryz.func51 rfl (nt:=46) rfl (lb rfl) fun X hP h0 hX=>?_
 have hT:Xo X.P T:=hP▸tok
 have hf:X.P.funcs[51]? = some Tryz.f51:=hP▸Tryz.func51
 refine Qh hT 13 (K51 11010 0) ⟨46,(Xl.p0 t0 a0++[(7,.i 0)]),[]⟩ ?_
 have L:∀ n,(∀ (Qr:Int),iter (Xl.step a0) n (.l1 Qr)=some r->AK X 51 ((K51 11010 0)) (Yq X [] (.b r)) ⟨46,(Xl.p0 t0 a0++[(7,.i Qr)]),[]⟩):=by
  intro n
  induction n with
  | zero=>exact fun _ H=>Qay H
  | succ n ih=>
   ·intro Qr H
    refine Qh hT 5 (K51 1101001 0) ⟨46,(Xl.p0 t0 a0++[(7,.i Qr),(8,.b (decide (Qr < (a0.length:Int))))]),[]⟩ ?_
    by_cases c1:Qr < (a0.length:Int)
    ·replace H:=sT c1 H
     rw [decide_eq_true c1]
     refine Qh hT 2 (K51 1101001 1) ⟨46,(Xl.p0 t0 a0++[(7,.i Qr)]),[]⟩ ?_
     refine Qh hT 5 (K51 11010011000 1) ⟨46,(Xl.p0 t0 a0++[(7,.i Qr),(9,.i Qr)]),[]⟩ ?_
     obtain ⟨h2,H⟩:=sC H
     have Yv:∀ (Qql:Bool),stk (Xl.j1 Qr Qql) (iter (Xl.step a0) n)=some r->AK X 51 ((K51 11010011001 1)) (Yq X [] (.b r)) ⟨46,(Xl.p0 t0 a0++[(7,.i Qr),(44,.b Qql)]),[]⟩:=by
      intro Qql H
      by_cases c9:Qql=true
      ·replace H:=sT c9 H
       rw [c9]
       refine Qh hT 5 (K51 1101001100110 1) ⟨46,[(2,.b false)],[]⟩ ?_
       obtain rfl:=Yi H
       exact Ym hf hX h0 (.b false) [] an (.d (.v _))
      replace H:=sF c9 H
      rw [Jk c9]
      refine Qh hT 3 (K51 11010011 1) ⟨46,(Xl.p0 t0 a0++[(7,.i Qr)]),[]⟩ ?_
      refine Qh hT 5 (K51 11010 0) ⟨46,(Xl.p0 t0 a0++[(7,.i (IntKind.wrap .i64 (Qr+1)))]),[]⟩ ?_
      exact ih (IntKind.wrap .i64 (Qr+1)) H
     refine Zv hT [0,5,6,7,9,10] (i:=Qr) (n:=(a0.length:Int)) h2.1 h2.2 (k':=(K51 11010011000 2)) (st':=⟨46,(Xl.p0 t0 a0++[(7,.i Qr),(9,.i Qr),(10,.d (Qer t0 a0 Qr.toNat 0))]),[]⟩) (by kernel_rfl) ?_
     refine Qh hT 6 (K51 11010011001 0) ⟨46,[(0,.d (Yb t0 a0)),(3,.i Qr),(4,.ptr 0 0 0 0),(5,.d (Yb t0 a0)),(6,.i (a0.length:Int)),(7,.i Qr)],[.box 81 (Qcd (a0.getD Qr.toNat Qa.z))]⟩ ?_
     by_cases c3:(Xl.q1 a0 Qr) < 0
     ·replace H:=sT c3 H
      refine Qbp (hP▸mixed) 33 [0,3,4,5,6,7] (sm [.ptr 0 0 0 0,.i (Xl.q1 a0 Qr),.b true,.b true,.Qo [],.Qo [],.Qo [],.b true,.b true,.Qo [],.Qo [],.Qo [],.b true,.b true,.Qo [],.Qo [],.Qo [],.b true,.b true,.Qo [],.Qo [],.Qo [],.Qo [],.Qo [],.Qo [],.Qo [],.Qo [],.Qo [],.Qo [],.Qo [],.Qo [],.Qo [],.b true]) (Qj (Qj (Qj (Qj (Qj (Qj (Qj (Qj (Qj (Qj (Qj (Qj (Qj (Qj (Qj (Qj (Qj (Qj (Qj (Qj (Qj (Qj (Qj (Qj (Qj (Qj (Qj (Qj (Qj (Qj (opV (Qj (Qj op0 hT) hT) hT 14 (.b (decide ((Xl.q1 a0 Qr) < 0))) (.b true) (by rw [decide_eq_true c3]<;>rfl)) hT) hT) hT) hT) hT) hT) hT) hT) hT) hT) hT) hT) hT) hT) hT) hT) hT) hT) hT) hT) hT) hT) hT) hT) hT) hT) hT) hT) hT) hT) ?_
      refine Xq hT 1 (K51 11010011001 1) [] ⟨46,(Xl.p0 t0 a0++[(7,.i Qr),(44,.b true)]),[]⟩ h0 ?_
      exact Yv true H
     replace H:=sF c3 H
     by_cases c4:(Xl.q1 a0 Qr)>=4096
     ·replace H:=sT c4 H
      refine Qbp (hP▸mixed) 33 [0,3,4,5,6,7] (sm [.ptr 0 0 0 0,.i (Xl.q1 a0 Qr),.b false,.b false,.ptr 0 0 0 0,.i (Xl.q1 a0 Qr),.b true,.b true,.b true,.Qo [],.Qo [],.Qo [],.b true,.b true,.Qo [],.Qo [],.Qo [],.b true,.b true,.Qo [],.Qo [],.Qo [],.Qo [],.Qo [],.Qo [],.Qo [],.Qo [],.Qo [],.Qo [],.Qo [],.Qo [],.Qo [],.b true]) (Qj (Qj (Qj (Qj (Qj (Qj (Qj (Qj (Qj (Qj (Qj (Qj (Qj (Qj (Qj (Qj (Qj (Qj (Qj (Qj (Qj (Qj (Qj (Qj (Qj (Qj (opV (Qj (Qj (Qj (opV (Qj (Qj op0 hT) hT) hT 14 (.b (decide ((Xl.q1 a0 Qr) < 0))) (.b false) (by rw [decide_eq_false c3]<;>rfl)) hT) hT) hT) hT 18 (.b (decide ((Xl.q1 a0 Qr)>=4096))) (.b true) (by rw [decide_eq_true c4]<;>rfl)) hT) hT) hT) hT) hT) hT) hT) hT) hT) hT) hT) hT) hT) hT) hT) hT) hT) hT) hT) hT) hT) hT) hT) hT) hT) hT) ?_
      refine Xq hT 1 (K51 11010011001 1) [] ⟨46,(Xl.p0 t0 a0++[(7,.i Qr),(44,.b true)]),[]⟩ h0 ?_
      exact Yv true H
     replace H:=sF c4 H
     by_cases c5:((a0.getD Qr.toNat Qa.z).Val) < (-1099511627776)
     ·replace H:=sT c5 H
      refine Qbp (hP▸mixed) 33 [0,3,4,5,6,7] (sm [.ptr 0 0 0 0,.i (Xl.q1 a0 Qr),.b false,.b false,.ptr 0 0 0 0,.i (Xl.q1 a0 Qr),.b false,.b false,.b false,.ptr 0 0 0 1,.i ((a0.getD Qr.toNat Qa.z).Val),.b true,.b true,.b true,.Qo [],.Qo [],.Qo [],.b true,.b true,.Qo [],.Qo [],.Qo [],.Qo [],.Qo [],.Qo [],.Qo [],.Qo [],.Qo [],.Qo [],.Qo [],.Qo [],.Qo [],.b true]) (Qj (Qj (Qj (Qj (Qj (Qj (Qj (Qj (Qj (Qj (Qj (Qj (Qj (Qj (Qj (Qj (Qj (Qj (Qj (Qj (Qj (opV (Qj (Qj (Qj (Qj (opV (Qj (Qj (Qj (opV (Qj (Qj op0 hT) hT) hT 14 (.b (decide ((Xl.q1 a0 Qr) < 0))) (.b false) (by rw [decide_eq_false c3]<;>rfl)) hT) hT) hT) hT 18 (.b (decide ((Xl.q1 a0 Qr)>=4096))) (.b false) (by rw [decide_eq_false c4]<;>rfl)) hT) hT) hT) hT) hT 23 (.b (decide (((a0.getD Qr.toNat Qa.z).Val) < (-1099511627776)))) (.b true) (by rw [decide_eq_true c5]<;>rfl)) hT) hT) hT) hT) hT) hT) hT) hT) hT) hT) hT) hT) hT) hT) hT) hT) hT) hT) hT) hT) hT) ?_
      refine Xq hT 1 (K51 11010011001 1) [] ⟨46,(Xl.p0 t0 a0++[(7,.i Qr),(44,.b true)]),[]⟩ h0 ?_
      exact Yv true H
     replace H:=sF c5 H
     by_cases c6:((a0.getD Qr.toNat Qa.z).Val) > 1099511627776
     ·replace H:=sT c6 H
      refine Qbp (hP▸mixed) 33 [0,3,4,5,6,7] (sm [.ptr 0 0 0 0,.i (Xl.q1 a0 Qr),.b false,.b false,.ptr 0 0 0 0,.i (Xl.q1 a0 Qr),.b false,.b false,.b false,.ptr 0 0 0 1,.i ((a0.getD Qr.toNat Qa.z).Val),.b false,.b false,.b false,.ptr 0 0 0 1,.i ((a0.getD Qr.toNat Qa.z).Val),.b true,.b true,.b true,.Qo [],.Qo [],.Qo [],.Qo [],.Qo [],.Qo [],.Qo [],.Qo [],.Qo [],.Qo [],.Qo [],.Qo [],.Qo [],.b true]) (Qj (Qj (Qj (Qj (Qj (Qj (Qj (Qj (Qj (Qj (Qj (Qj (Qj (Qj (Qj (Qj (opV (Qj (Qj (Qj (Qj (opV (Qj (Qj (Qj (Qj (opV (Qj (Qj (Qj (opV (Qj (Qj op0 hT) hT) hT 14 (.b (decide ((Xl.q1 a0 Qr) < 0))) (.b false) (by rw [decide_eq_false c3]<;>rfl)) hT) hT) hT) hT 18 (.b (decide ((Xl.q1 a0 Qr)>=4096))) (.b false) (by rw [decide_eq_false c4]<;>rfl)) hT) hT) hT) hT) hT 23 (.b (decide (((a0.getD Qr.toNat Qa.z).Val) < (-1099511627776)))) (.b false) (by rw [decide_eq_false c5]<;>rfl)) hT) hT) hT) hT) hT 28 (.b (decide (((a0.getD Qr.toNat Qa.z).Val) > 1099511627776))) (.b true) (by rw [decide_eq_true c6]<;>rfl)) hT) hT) hT) hT) hT) hT) hT) hT) hT) hT) hT) hT) hT) hT) hT) hT) ?_
      refine Xq hT 1 (K51 11010011001 1) [] ⟨46,(Xl.p0 t0 a0++[(7,.i Qr),(44,.b true)]),[]⟩ h0 ?_
      exact Yv true H
     replace H:=sF c6 H
     by_cases c7:Qr > 0
     ·replace H:=sT c7 H
      obtain ⟨h8,H⟩:=sC H
      refine Qbp (hP▸mixed) 33 [0,3,4,5,6,7] (sm [.ptr 0 0 0 0,.i (Xl.q1 a0 Qr),.b false,.b false,.ptr 0 0 0 0,.i (Xl.q1 a0 Qr),.b false,.b false,.b false,.ptr 0 0 0 1,.i ((a0.getD Qr.toNat Qa.z).Val),.b false,.b false,.b false,.ptr 0 0 0 1,.i ((a0.getD Qr.toNat Qa.z).Val),.b false,.b false,.b false,.i Qr,.b true,.b true,.d (Yb t0 a0),.i Qr,.i (IntKind.wrap .i64 (Qr - 1)),.d (Qer t0 a0 ((IntKind.wrap .i64 (Qr - 1)).toNat) 0),.d (Qer t0 a0 ((IntKind.wrap .i64 (Qr - 1)).toNat) 0),.i ((a0.getD ((IntKind.wrap .i64 (Qr - 1)).toNat) Qa.z).Key),.ptr 0 0 0 0,.i (Xl.q1 a0 Qr),.b (decide (((a0.getD ((IntKind.wrap .i64 (Qr - 1)).toNat) Qa.z).Key)>=(Xl.q1 a0 Qr))),.b (decide (((a0.getD ((IntKind.wrap .i64 (Qr - 1)).toNat) Qa.z).Key)>=(Xl.q1 a0 Qr))),.b (decide (((a0.getD ((IntKind.wrap .i64 (Qr - 1)).toNat) Qa.z).Key)>=(Xl.q1 a0 Qr)))]) (Qj (Qj (Qj (Qj (Qj (Qj (Qj (opS (Qj (Qj (Qj (Qj (opV (Qj (Qj (Qj (opV (Qj (Qj (Qj (Qj (opV (Qj (Qj (Qj (Qj (opV (Qj (Qj (Qj (opV (Qj (Qj op0 hT) hT) hT 14 (.b (decide ((Xl.q1 a0 Qr) < 0))) (.b false) (by rw [decide_eq_false c3]<;>rfl)) hT) hT) hT) hT 18 (.b (decide ((Xl.q1 a0 Qr)>=4096))) (.b false) (by rw [decide_eq_false c4]<;>rfl)) hT) hT) hT) hT) hT 23 (.b (decide (((a0.getD Qr.toNat Qa.z).Val) < (-1099511627776)))) (.b false) (by rw [decide_eq_false c5]<;>rfl)) hT) hT) hT) hT) hT 28 (.b (decide (((a0.getD Qr.toNat Qa.z).Val) > 1099511627776))) (.b false) (by rw [decide_eq_false c6]<;>rfl)) hT) hT) hT) hT 32 (.b (decide (Qr > 0))) (.b true) (by rw [decide_eq_true c7]<;>rfl)) hT) hT) hT) hT) (fun R rest h=>Xw hT (i:=IntKind.wrap .i64 (Qr - 1)) (n:=(a0.length:Int)) h8.1 h8.2 (by kernel_rfl) h)) hT) hT) hT) hT) hT) hT) hT) ?_
      refine Xq hT 1 (K51 11010011001 1) [] ⟨46,(Xl.p0 t0 a0++[(7,.i Qr),(44,.b (decide (((a0.getD ((IntKind.wrap .i64 (Qr - 1)).toNat) Qa.z).Key)>=(Xl.q1 a0 Qr))))]),[]⟩ h0 ?_
      exact Yv (decide (((a0.getD ((IntKind.wrap .i64 (Qr - 1)).toNat) Qa.z).Key)>=(Xl.q1 a0 Qr))) H
     replace H:=sF c7 H
     refine Qbp (hP▸mixed) 33 [0,3,4,5,6,7] (sm [.ptr 0 0 0 0,.i (Xl.q1 a0 Qr),.b false,.b false,.ptr 0 0 0 0,.i (Xl.q1 a0 Qr),.b false,.b false,.b false,.ptr 0 0 0 1,.i ((a0.getD Qr.toNat Qa.z).Val),.b false,.b false,.b false,.ptr 0 0 0 1,.i ((a0.getD Qr.toNat Qa.z).Val),.b false,.b false,.b false,.i Qr,.b false,.b false,.Qo [],.Qo [],.Qo [],.Qo [],.Qo [],.Qo [],.Qo [],.Qo [],.Qo [],.b false,.b false]) (Qj (Qj (Qj (Qj (Qj (Qj (Qj (Qj (Qj (Qj (Qj (Qj (opV (Qj (Qj (Qj (opV (Qj (Qj (Qj (Qj (opV (Qj (Qj (Qj (Qj (opV (Qj (Qj (Qj (opV (Qj (Qj op0 hT) hT) hT 14 (.b (decide ((Xl.q1 a0 Qr) < 0))) (.b false) (by rw [decide_eq_false c3]<;>rfl)) hT) hT) hT) hT 18 (.b (decide ((Xl.q1 a0 Qr)>=4096))) (.b false) (by rw [decide_eq_false c4]<;>rfl)) hT) hT) hT) hT) hT 23 (.b (decide (((a0.getD Qr.toNat Qa.z).Val) < (-1099511627776)))) (.b false) (by rw [decide_eq_false c5]<;>rfl)) hT) hT) hT) hT) hT 28 (.b (decide (((a0.getD Qr.toNat Qa.z).Val) > 1099511627776))) (.b false) (by rw [decide_eq_false c6]<;>rfl)) hT) hT) hT) hT 32 (.b (decide (Qr > 0))) (.b false) (by rw [decide_eq_false c7]<;>rfl)) hT) hT) hT) hT) hT) hT) hT) hT) hT) hT) hT) hT) ?_
     refine Xq hT 1 (K51 11010011001 1) [] ⟨46,(Xl.p0 t0 a0++[(7,.i Qr),(44,.b false)]),[]⟩ h0 ?_
     exact Yv false H
    replace H:=sF c1 H
    rw [decide_eq_false c1]
    refine Qh hT 6 (K51 111 1) ⟨46,[(2,.b true)],[]⟩ ?_
    obtain rfl:=Yi H
    exact Ym hf hX h0 (.b true) [] an (.d (.v _))
 obtain ⟨n,H⟩:=Qbu H
 exact (L n) 0 H
theorem Yd.Wv {Jl:FuncId} {Jo:List DV} (a0:List Qa) (p1:Qa->Option Bool) (he1:Sy.Enters Tryz.prog Jl) (hp1:∀ (z0:Qa) r,p1 z0=some r->Zd Tryz.prog Jl [] ([.d (Qf0 z0)] ++ List.map AV.d Jo) [] (.b r)) {r:List Qa} (H:Yd a0 p1=some r):Zd Tryz.prog 81 [Xk a0] [.own 0 2 0 a0.length,.d (.fn Jl Jo)] [.gone,Xk r] (.own 1 2 0 r.length):=by
 refine Ye Tryz.func81 rfl (nt:=42) rfl (lb rfl) fun X hP h0 hX=>?_
 have hT:Xo X.P T:=hP▸tok
 have hf:X.P.funcs[81]? = some Tryz.f81:=hP▸Tryz.func81
 refine Qlb 0 (r:=Xk a0) rfl rfl (st':=⟨42,[(0,.own 1 2 0 a0.length),(1,.d (.fn Jl Jo))],[.gone,Xk a0]⟩) (by kernel_rfl) (by kernel_rfl) rfl ?_
 refine Qh hT 8 (K81 110 2) ⟨42,[(0,.own 1 2 0 a0.length),(1,.d (.fn Jl Jo)),(8,.own 1 2 0 a0.length),(9,.d (.fn Jl Jo))],[.gone,Xk a0]⟩ ?_
 obtain ⟨v1,h1,H⟩:=ibC H
 refine Wx (Yh:=[.own 1 2 0 a0.length,.d (.fn Jl Jo)]) (dst:=some 10) (k':=(K81 110 3)) [0,1,10] [] hP Qsi (Zh.Wv (t0:=false) (Jl:=Jl) (Jo:=Jo) a0 p1 he1 hp1 h1) (by kernel_rfl) (Wh _) (.cons (.Qds (ty:=81) (by kernel_rfl) rfl) (.cons (Qp _) .nil)) (st':=⟨42,[(0,.own 1 2 0 a0.length),(1,.d (.fn Jl Jo)),(10,.i v1)],[.gone,Xk a0]⟩) (by kernel_rfl) ?_
 refine Qh hT 8 (K81 1110 1) ⟨42,[(0,.own 1 2 0 a0.length),(1,.d (.fn Jl Jo)),(5,.i v1),(12,.b (v1 == (-1)))],[.gone,Xk a0]⟩ ?_
 by_cases c2:v1=(-1)
 ·replace H:=iT c2 H
  rw [eqT c2]
  refine Qh hT 6 (K81 111010 1) ⟨42,[(4,.own 1 2 0 a0.length)],[.gone,Xk a0]⟩ ?_
  obtain rfl:=Yi H
  exact Ym hf hX h0 (.own 1 2 0 a0.length) [0,1] (ac .gone (ac (Qat Qa.nl) an)) (.own _ _ _ _)
 replace H:=iF c2 H
 rw [eqF c2]
 refine Qh hT 2 (K81 111 1) ⟨42,[(0,.own 1 2 0 a0.length),(1,.d (.fn Jl Jo)),(5,.i v1)],[.gone,Xk a0]⟩ ?_
 refine Qh hT 9 (K81 1111010 0) ⟨42,[(0,.own 1 2 0 a0.length),(1,.d (.fn Jl Jo)),(5,.i v1),(6,.i (IntKind.wrap .i64 (v1+1)))],[.gone,Xk a0]⟩ ?_
 have L:∀ n,(∀ (Wz:Int) (Jg:Int) (Wm:List Qa),iter (Yd.step p1) n (.l1 Wz Jg Wm)=some r->AK X 81 ((K81 1111010 0)) (Yq X [.gone,Xk r] (.own 1 2 0 r.length)) ⟨42,[(0,.own 1 2 0 Wm.length),(1,.d (.fn Jl Jo)),(5,.i Wz),(6,.i Jg)],[.gone,Xk Wm]⟩):=by
  intro n
  induction n with
  | zero=>exact fun _ _ _ H=>Qay H
  | succ n ih=>
   ·intro Wz Jg Wm H
    refine Qh hT 8 (K81 111101000 1) ⟨42,[(0,.own 1 2 0 Wm.length),(1,.d (.fn Jl Jo)),(5,.i Wz),(6,.i Jg),(19,.b (decide (Jg < (Wm.length:Int))))],[.gone,Xk Wm]⟩ ?_
    by_cases c3:Jg < (Wm.length:Int)
    ·replace H:=sT c3 H
     rw [decide_eq_true c3]
     refine Qh hT 2 (K81 11110100 1) ⟨42,[(0,.own 1 2 0 Wm.length),(1,.d (.fn Jl Jo)),(5,.i Wz),(6,.i Jg)],[.gone,Xk Wm]⟩ ?_
     refine Qh hT 6 (K81 111101001000 2) ⟨42,[(0,.own 1 2 0 Wm.length),(1,.d (.fn Jl Jo)),(5,.i Wz),(6,.i Jg),(22,.own 1 2 0 Wm.length),(23,.i Jg)],[.gone,Xk Wm]⟩ ?_
     obtain ⟨h5,H⟩:=sC H
     refine Zv hT [0,1,5,6,24] (i:=Jg) (n:=(Wm.length:Int)) h5.1 h5.2 (k':=(K81 111101001000 3)) (st':=⟨42,[(0,.own 1 2 0 Wm.length),(1,.d (.fn Jl Jo)),(5,.i Wz),(6,.i Jg),(24,.ptr 1 2 Jg.toNat 0)],[.gone,Xk Wm]⟩) (by kernel_rfl) ?_
     refine Qr7 hT [0,1,5,6,25] (i:=Jg.toNat) (n:=Wm.length) (ltN h5.1 h5.2) (k':=(K81 111101001000 4)) (st':=⟨42,[(0,.own 1 2 0 Wm.length),(1,.d (.fn Jl Jo)),(5,.i Wz),(6,.i Jg),(25,.d (Qf0 (Wm.getD Jg.toNat Qa.z)))],[.gone,Xk Wm]⟩) (by kernel_rfl) ?_
     refine Qh hT 7 (K81 1111010010010 2) ⟨42,[(0,.own 1 2 0 Wm.length),(1,.d (.fn Jl Jo)),(5,.i Wz),(6,.i Jg),(7,.ptr 2 0 0 0),(26,.d (.fn Jl Jo)),(27,.d (Qf0 (Wm.getD Jg.toNat Qa.z)))],[.gone,Xk Wm,.box 81 (Qcd (Wm.getD Jg.toNat Qa.z))]⟩ ?_
     obtain ⟨v2,h6,H⟩:=sbC H
     have Yv:∀ (Qr3:Int) (Qkz:List Qa),stk (Yd.j1 Jg Qr3 Qkz) (iter (Yd.step p1) n)=some r->AK X 81 ((K81 111101001 1)) (Yq X [.gone,Xk r] (.own 1 2 0 r.length)) ⟨42,[(0,.own 1 2 0 Qkz.length),(1,.d (.fn Jl Jo)),(5,.i Qr3),(6,.i Jg)],[.gone,Xk Qkz]⟩:=by
      intro Qr3 Qkz H
      refine Qh hT 6 (K81 1111010 0) ⟨42,[(0,.own 1 2 0 Qkz.length),(1,.d (.fn Jl Jo)),(5,.i Qr3),(6,.i (IntKind.wrap .i64 (Jg+1)))],[.gone,Xk Qkz]⟩ ?_
      exact ih Qr3 (IntKind.wrap .i64 (Jg+1)) Qkz H
     refine Wx (Yh:=[.d (Qf0 (Wm.getD Jg.toNat Qa.z))] ++ List.map AV.d Jo) (dst:=some 28) (k':=(K81 1111010010010 3)) [0,1,5,6,7,28] [] hP he1 (hp1 (Wm.getD Jg.toNat Qa.z) v2 h6) (by kernel_rfl) (Wh _) (.cons (Qp _) (Qh1 _)) (st':=⟨42,[(0,.own 1 2 0 Wm.length),(1,.d (.fn Jl Jo)),(5,.i Wz),(6,.i Jg),(7,.ptr 2 0 0 0),(28,.b v2)],[.gone,Xk Wm,.box 81 (Qcd (Wm.getD Jg.toNat Qa.z))]⟩) (by kernel_rfl) ?_
     refine Qh hT 2 (K81 111101001001 1) ⟨42,[(0,.own 1 2 0 Wm.length),(1,.d (.fn Jl Jo)),(5,.i Wz),(6,.i Jg),(7,.ptr 2 0 0 0),(29,.b (!v2))],[.gone,Xk Wm,.box 81 (Qcd (Wm.getD Jg.toNat Qa.z))]⟩ ?_
     by_cases c7:v2=true
     ·replace H:=sT c7 H
      rw [c7]
      refine Xq hT 3 (K81 111101001 1) [0,1] ⟨42,[(0,.own 1 2 0 Wm.length),(1,.d (.fn Jl Jo)),(5,.i Wz),(6,.i Jg)],[.gone,Xk Wm]⟩ h0 ?_
      exact Yv Wz Wm H
     replace H:=sF c7 H
     rw [Jk c7]
     refine Qh hT 6 (K81 111101001001100 3) ⟨42,[(0,.own 1 2 0 Wm.length),(1,.d (.fn Jl Jo)),(5,.i Wz),(6,.i Jg),(30,.own 1 2 0 Wm.length),(31,.i Wz),(32,.d (Qf0 (Wm.getD Jg.toNat Qa.z)))],[.gone,Xk Wm,.box 81 (Qcd (Wm.getD Jg.toNat Qa.z))]⟩ ?_
     obtain ⟨h8,H⟩:=sC H
     refine Zv hT [0,1,5,6,32,33] (i:=Wz) (n:=(Wm.length:Int)) h8.1 h8.2 (k':=(K81 111101001001100 4)) (st':=⟨42,[(0,.own 1 2 0 Wm.length),(1,.d (.fn Jl Jo)),(5,.i Wz),(6,.i Jg),(32,.d (Qf0 (Wm.getD Jg.toNat Qa.z))),(33,.ptr 1 2 Wz.toNat 0)],[.gone,Xk Wm,.box 81 (Qcd (Wm.getD Jg.toNat Qa.z))]⟩) (by kernel_rfl) ?_
     refine Qsa (id:=1) (kk:=2) (i:=Wz.toNat) (off:=0) (s:=2) (n:=Wm.length) (ty:=81) (ds:=[.i ((Wm.getD Jg.toNat Qa.z).Key),.i ((Wm.getD Jg.toNat Qa.z).Val)]) (g:=vec Qa.e Qa.z Wm) (k':=(K81 111101001001100 5)) hT [0,1,5,6] (vec Qa.e Qa.z (Wm.set Wz.toNat (Wm.getD Jg.toNat Qa.z))) (by kernel_rfl) (by kernel_rfl) (ltN h8.1 h8.2) ((Qm2 (ltN h8.1 h8.2)).trans (by kernel_rfl)) Qjh (st':=⟨42,[(0,.own 1 2 0 (Wm.length)),(1,.d (.fn Jl Jo)),(5,.i Wz),(6,.i Jg)],[.gone,.flat false 2 81 Wm.length (vec Qa.e Qa.z (Wm.set Wz.toNat (Wm.getD Jg.toNat Qa.z))),.box 81 (Qcd (Wm.getD Jg.toNat Qa.z))]⟩) (by kernel_rfl) ?_
     refine Qpt (show Wm.length=(Wm.set Wz.toNat (Wm.getD Jg.toNat Qa.z)).length from (List.length_set ..).symm) (fun nn=>⟨42,[(0,.own 1 2 0 (nn)),(1,.d (.fn Jl Jo)),(5,.i Wz),(6,.i Jg)],[.gone,.flat false 2 81 nn (vec Qa.e Qa.z (Wm.set Wz.toNat (Wm.getD Jg.toNat Qa.z))),.box 81 (Qcd (Wm.getD Jg.toNat Qa.z))]⟩) ?_
     refine Xq hT 7 (K81 111101001 1) [0,1] ⟨42,[(0,.own 1 2 0 (Wm.set Wz.toNat (Wm.getD Jg.toNat Qa.z)).length),(1,.d (.fn Jl Jo)),(5,.i (IntKind.wrap .i64 (Wz+1))),(6,.i Jg)],[.gone,Xk (Wm.set Wz.toNat (Wm.getD Jg.toNat Qa.z))]⟩ h0 ?_
     exact Yv (IntKind.wrap .i64 (Wz+1)) (Wm.set Wz.toNat (Wm.getD Jg.toNat Qa.z)) H
    replace H:=sF c3 H
    rw [decide_eq_false c3]
    refine Qh hT 6 (K81 111110 2) ⟨42,[(0,.own 1 2 0 Wm.length),(5,.i Wz),(36,.own 1 2 0 Wm.length),(37,.i Wz)],[.gone,Xk Wm]⟩ ?_
    obtain ⟨h4,H⟩:=sC H
    refine We1 (id:=1) (s:=2) (off:=0) (n:=Wm.length) (N:=Wm.length) (kk:=.i64) (l:=Wz) (d:=38) (ty:=81) (g:=vec Qa.e Qa.z Wm) (k':=(K81 111110 4)) hT [0,5] (by kernel_rfl) (by kernel_rfl) h4.1 h4.2 rfl rfl (by decide) (by decide) (st':=⟨42,[(0,.own 1 2 0 Wm.length),(5,.i Wz)],[.gone,.flat false 2 81 Wz.toNat (vec Qa.e Qa.z Wm)]⟩) (by kernel_rfl) ?_
    refine We4 1 (kk:=2) (n:=Wz.toNat) (m:=(Wm.take Wz.toNat).length) (fz:=false) (ty:=81) (g:=vec Qa.e Qa.z Wm) (vec Qa.e Qa.z (Wm.take Wz.toNat)) (by kernel_rfl) (by simp only [List.length_take];omega) Wgp (st':=⟨42,[(0,.own 1 2 0 Wm.length),(5,.i Wz)],[.gone,Xk (Wm.take Wz.toNat)]⟩) (by kernel_rfl) ?_
    refine Qh hT 5 (K81 1111110 2) ⟨42,[(39,.own 1 2 0 Wm.length),(40,.i Wz)],[.gone,Xk (Wm.take Wz.toNat)]⟩ ?_
    refine Wbm (id:=1) (s:=2) (off:=0) (n:=Wm.length) (kk:=.i64) (i:=Wz) (dst:=some 41) (k':=(K81 1111110 3)) hT [41] (by kernel_rfl) h4.1 h4.2 (st':=⟨42,[(41,.own 1 2 0 Wz.toNat)],[.gone,Xk (Wm.take Wz.toNat)]⟩) (by kernel_rfl) ?_
    refine Qpt (show Wz.toNat=(Wm.take Wz.toNat).length from by simp only [List.length_take];omega) (fun nn=>⟨42,[(41,.own 1 2 0 nn)],[.gone,Xk (Wm.take Wz.toNat)]⟩) ?_
    refine Qh hT 2 (K81 111111 1) ⟨42,[(4,.own 1 2 0 ((Wm.take Wz.toNat).length))],[.gone,Xk (Wm.take Wz.toNat)]⟩ ?_
    obtain rfl:=Yi H
    exact Ym hf hX h0 (.own 1 2 0 ((Wm.take Wz.toNat).length)) [0,1] (ac .gone (ac (Qat Qa.nl) an)) (.own _ _ _ _)
 obtain ⟨n,H⟩:=Qbu H
 exact (L n) v1 (IntKind.wrap .i64 (v1+1)) a0 H
theorem Zr.Wv {t0:Bool} {Jl:FuncId} {Jo:List DV} (a0:List Qb) (p1:Qb->Option Bool) (he1:Sy.Enters Tryz.prog Jl) (hp1:∀ (z0:Qb) r,p1 z0=some r->Zd Tryz.prog Jl [] ([.d (Qfo z0)] ++ List.map AV.d Jo) [] (.b r)) {r:Int} (H:Zr a0 p1=some r):Zd Tryz.prog 109 [] [.d (Wu t0 a0),.d (.fn Jl Jo)] [] (.i r):=by
 refine Ye Tryz.func109 rfl (nt:=19) rfl (lb rfl) fun X hP h0 hX=>?_
 have hT:Xo X.P T:=hP▸tok
 have hf:X.P.funcs[109]? = some Tryz.f109:=hP▸Tryz.func109
 refine Qh hT 13 (Qjj 11010 0) ⟨19,[(0,.d (Wu t0 a0)),(1,.d (.fn Jl Jo)),(7,.i (a0.length:Int)),(8,.i 0)],[]⟩ ?_
 have L:∀ n,(∀ (Qy:Int),iter (Zr.step a0 p1) n (.l1 Qy)=some r->AK X 109 ((Qjj 11010 0)) (Yq X [] (.i r)) ⟨19,[(0,.d (Wu t0 a0)),(1,.d (.fn Jl Jo)),(7,.i (a0.length:Int)),(8,.i Qy)],[]⟩):=by
  intro n
  induction n with
  | zero=>exact fun _ H=>Qay H
  | succ n ih=>
   ·intro Qy H
    refine Qh hT 5 (Qjj 1101001 0) ⟨19,[(0,.d (Wu t0 a0)),(1,.d (.fn Jl Jo)),(7,.i (a0.length:Int)),(8,.i Qy),(9,.b (decide (Qy < (a0.length:Int))))],[]⟩ ?_
    by_cases c1:Qy < (a0.length:Int)
    ·replace H:=sT c1 H
     rw [decide_eq_true c1]
     refine Qh hT 2 (Qjj 1101001 1) ⟨19,[(0,.d (Wu t0 a0)),(1,.d (.fn Jl Jo)),(7,.i (a0.length:Int)),(8,.i Qy)],[]⟩ ?_
     refine Qh hT 12 (Qjj 110100110010 3) ⟨19,[(0,.d (Wu t0 a0)),(1,.d (.fn Jl Jo)),(5,.i Qy),(7,.i (a0.length:Int)),(8,.i Qy),(11,.d (.fn Jl Jo)),(12,.d (Wu t0 a0)),(13,.i Qy)],[]⟩ ?_
     obtain ⟨h2,H⟩:=sC H
     refine Zv hT [0,1,5,7,8,11,14] (i:=Qy) (n:=(a0.length:Int)) h2.1 h2.2 (k':=(Qjj 110100110010 4)) (st':=⟨19,[(0,.d (Wu t0 a0)),(1,.d (.fn Jl Jo)),(5,.i Qy),(7,.i (a0.length:Int)),(8,.i Qy),(11,.d (.fn Jl Jo)),(14,.d (Qre t0 a0 Qy.toNat 0))],[]⟩) (by kernel_rfl) ?_
     refine Qh hT 1 (Qjj 110100110010 5) ⟨19,[(0,.d (Wu t0 a0)),(1,.d (.fn Jl Jo)),(5,.i Qy),(7,.i (a0.length:Int)),(8,.i Qy),(11,.d (.fn Jl Jo)),(15,.d (Qfo (a0.getD Qy.toNat Qb.z)))],[]⟩ ?_
     obtain ⟨v1,h3,H⟩:=sbC H
     refine Wx (Yh:=[.d (Qfo (a0.getD Qy.toNat Qb.z))] ++ List.map AV.d Jo) (dst:=some 16) (k':=(Qjj 110100110010 6)) [0,1,5,7,8,16] [] hP he1 (hp1 (a0.getD Qy.toNat Qb.z) v1 h3) (by kernel_rfl) (Wh _) (.cons (Qp _) (Qh1 _)) (st':=⟨19,[(0,.d (Wu t0 a0)),(1,.d (.fn Jl Jo)),(5,.i Qy),(7,.i (a0.length:Int)),(8,.i Qy),(16,.b v1)],[]⟩) (by kernel_rfl) ?_
     refine Qh hT 1 (Qjj 11010011001 1) ⟨19,[(0,.d (Wu t0 a0)),(1,.d (.fn Jl Jo)),(5,.i Qy),(7,.i (a0.length:Int)),(8,.i Qy),(16,.b v1)],[]⟩ ?_
     by_cases c4:v1=true
     ·replace H:=sT c4 H
      rw [c4]
      refine Qh hT 6 (Qjj 1101001100110 1) ⟨19,[(4,.i Qy)],[]⟩ ?_
      obtain rfl:=Yi H
      exact Ym hf hX h0 (.i Qy) [] an (.d (.v _))
     replace H:=sF c4 H
     rw [Jk c4]
     refine Qh hT 3 (Qjj 11010011 1) ⟨19,[(0,.d (Wu t0 a0)),(1,.d (.fn Jl Jo)),(7,.i (a0.length:Int)),(8,.i Qy)],[]⟩ ?_
     refine Qh hT 5 (Qjj 11010 0) ⟨19,[(0,.d (Wu t0 a0)),(1,.d (.fn Jl Jo)),(7,.i (a0.length:Int)),(8,.i (IntKind.wrap .i64 (Qy+1)))],[]⟩ ?_
     exact ih (IntKind.wrap .i64 (Qy+1)) H
    replace H:=sF c1 H
    rw [decide_eq_false c1]
    refine Qh hT 6 (Qjj 111 1) ⟨19,[(4,.i (-1))],[]⟩ ?_
    obtain rfl:=Yi H
    exact Ym hf hX h0 (.i (-1)) [] an (.d (.v _))
 obtain ⟨n,H⟩:=Qbu H
 exact (L n) 0 H
theorem Qbw.Wv {t0:Bool} {Jl:FuncId} {Jo:List DV} (a0:List Qb) (p1:Qb->Option Bool) (he1:Sy.Enters Tryz.prog Jl) (hp1:∀ (z0:Qb) r,p1 z0=some r->Zd Tryz.prog Jl [] ([.d (Qfo z0)] ++ List.map AV.d Jo) [] (.b r)) {r:Bool} (H:Qbw a0 p1=some r):Zd Tryz.prog 83 [] [.d (Wu t0 a0),.d (.fn Jl Jo)] [] (.b r):=by
 refine Ye Tryz.func83 rfl (nt:=9) rfl (lb rfl) fun X hP h0 hX=>?_
 have hT:Xo X.P T:=hP▸tok
 have hf:X.P.funcs[83]? = some Tryz.f83:=hP▸Tryz.func83
 refine Qh hT 8 (K83 110 2) ⟨9,[(5,.d (Wu t0 a0)),(6,.d (.fn Jl Jo))],[]⟩ ?_
 obtain ⟨v1,h1,H⟩:=ibC H
 refine Wx (Yh:=[.d (Wu t0 a0),.d (.fn Jl Jo)]) (dst:=some 7) (k':=(K83 110 3)) [7] [] hP Qzp (Zr.Wv (t0:=t0) (Jl:=Jl) (Jo:=Jo) a0 p1 he1 hp1 h1) (by kernel_rfl) (Wh _) (.cons (Qp _) (.cons (Qp _) .nil)) (st':=⟨9,[(7,.i v1)],[]⟩) (by kernel_rfl) ?_
 refine Qh hT 3 (K83 11 1) ⟨9,[(4,.b (decide (v1>=0)))],[]⟩ ?_
 obtain rfl:=Yi H
 exact Ym hf hX h0 (.b (decide (v1>=0))) [] an (.d (.v _))
abbrev Qc0.p0 (k0:Int):List (Nat × AV):=[(1,.d (.rop false 1 (fun _=>[.i k0]) 0 0)),(2,.ptr 0 0 0 0)]
theorem Qc0.Wv (a0:Qb) (k0:Int):Zd Tryz.prog 84 [] [.d (Qfo a0),.d (.rop false 1 (fun _=>[.i k0]) 0 0)] [] (.b (Qc0 a0 k0)):=by
 obtain ⟨r,H⟩:∃ r,Qc0 a0 k0=r:=⟨_,rfl⟩
 rw [H]
 refine Ye Tryz.func84 rfl (nt:=18) rfl (lb rfl) fun X hP h0 hX=>?_
 have hT:Xo X.P T:=hP▸tok
 have hf:X.P.funcs[84]? = some Tryz.f84:=hP▸Tryz.func84
 have Yv:∀ (Qtv:Bool),(Qc0.j1 Qtv)=r->AK X 84 ((K84 11 1)) (Yq X [] (.b r)) ⟨18,[(3,.b Qtv)],[]⟩:=by
  intro Qtv H
  obtain rfl:=H
  exact Ym hf hX h0 (.b Qtv) [] an (.d (.v _))
 refine Qh hT 8 (K84 110 1) ⟨18,(Qc0.p0 k0++[(4,.d (Qfo a0))]),[.box 33 (Qe8 a0)]⟩ ?_
 refine Wx (Yh:=[.d (Qfo a0)]) (dst:=some 5) (k':=(K84 110 2)) [1,2,5] [] hP Qis (Qbr.Wv a0) (by kernel_rfl) (Wh _) (.cons (Qp _) .nil) (st':=⟨18,(Qc0.p0 k0++[(5,.b (Qbr a0))]),[.box 33 (Qe8 a0)]⟩) (by kernel_rfl) ?_
 refine Qh hT 1 (K84 110 3) ⟨18,(Qc0.p0 k0++[(6,.b (Qbr a0))]),[.box 33 (Qe8 a0)]⟩ ?_
 by_cases c1:(Qbr a0)=true
 ·replace H:=iT c1 H
  rw [c1]
  refine Qh hT 6 (K84 110 9) ⟨18,(Qc0.p0 k0++[(12,.b (decide (k0>=a0.Lo)))]),[.box 33 (Qe8 a0)]⟩ ?_
  by_cases c2:k0>=a0.Lo
  ·replace H:=iT c2 H
   rw [decide_eq_true c2]
   refine Xq hT 7 (K84 11 1) [] ⟨18,[(3,.b (decide (k0 < a0.Hi)))],[]⟩ h0 ?_
   exact Yv (decide (k0 < a0.Hi)) H
  replace H:=iF c2 H
  rw [decide_eq_false c2]
  refine Xq hT 7 (K84 11 1) [] ⟨18,[(3,.b false)],[]⟩ h0 ?_
  exact Yv false H
 replace H:=iF c1 H
 rw [Jk c1]
 refine Xq hT 13 (K84 11 1) [] ⟨18,[(3,.b false)],[]⟩ h0 ?_
 exact Yv false H
theorem Qgk.Wv {t0:Bool} (a0:List Qb) (a1:Int) {r:Bool} (H:Qgk a0 a1=some r):Zd Tryz.prog 54 [] [.d (Wu t0 a0),.i a1] [] (.b r):=by
 refine Ye Tryz.func54 rfl (nt:=8) rfl (lb rfl) fun X hP h0 hX=>?_
 have hT:Xo X.P T:=hP▸tok
 have hf:X.P.funcs[54]? = some Tryz.f54:=hP▸Tryz.func54
 refine Qh hT 9 (K54 110 2) ⟨8,[(5,.d (Wu t0 a0)),(6,.fn 84 [.ptr 0 0 0 0])],[.box 3 [.i a1]]⟩ ?_
 obtain ⟨v1,h1,H⟩:=ibC H
 refine Wx (Yh:=[.d (Wu t0 a0),.fn 84 [.ptr 0 0 0 0]]) (dst:=some 7) (k':=(K54 110 3)) [7] [] hP Quk (Qbw.Wv (t0:=t0) (Jl:=84) (Jo:=[.rop false 1 (fun _=>[.i a1]) 0 0]) a0 (fun z0=>some (Qc0 z0 a1)) Wcv (fun z0 r h=>by obtain rfl:=Yi h;exact Qc0.Wv z0 a1) h1) (by kernel_rfl) (Wh _) (.cons (Qp _) (.cons (.fn 84 (.cons (.look (ty:=3) (cs:=[.i a1]) (by kernel_rfl) rfl) .nil)) .nil)) (st':=⟨8,[(7,.b v1)],[.box 3 [.i a1]]⟩) (by kernel_rfl) ?_
 refine Qh hT 2 (K54 11 1) ⟨8,[(4,.b v1)],[.box 3 [.i a1]]⟩ ?_
 obtain rfl:=Yi H
 exact Ym hf hX h0 (.b v1) [] an (.d (.v _))
theorem Qd0.Wv (a0:Qa) (k0:Qb) (k1:List Qb) {r:Bool} (H:Qd0 a0 k0 k1=some r):Zd Tryz.prog 82 [] [.d (Qf0 a0),.d (.rop false 1 (fun _=>[.i k0.Lo,.i k0.Hi]) 0 0),.d (.rop false 1 (fun _=>[Wu true k1]) 0 0)] [] (.b r):=by
 refine Ye Tryz.func82 rfl (nt:=23) rfl (lb rfl) fun X hP h0 hX=>?_
 have hT:Xo X.P T:=hP▸tok
 have hf:X.P.funcs[82]? = some Tryz.f82:=hP▸Tryz.func82
 have Yv:∀ (Qdj:Bool),(Qd0.j1 Qdj)=some r->AK X 82 ((K82 11 1)) (Yq X [] (.b r)) ⟨23,[(4,.b Qdj)],[]⟩:=by
  intro Qdj H
  obtain rfl:=Yi H
  exact Ym hf hX h0 (.b Qdj) [] an (.d (.v _))
 refine Qh hT 13 (K82 110 6) ⟨23,[(1,.d (.rop false 1 (fun _=>[.i k0.Lo,.i k0.Hi]) 0 0)),(2,.d (.rop false 1 (fun _=>[Wu true k1]) 0 0)),(3,.ptr 0 0 0 0),(10,.b (decide (a0.Key>=k0.Lo)))],[.box 81 (Qcd a0)]⟩ ?_
 by_cases c1:a0.Key>=k0.Lo
 ·replace H:=iT c1 H
  rw [decide_eq_true c1]
  refine Qh hT 7 (K82 110 13) ⟨23,[(2,.d (.rop false 1 (fun _=>[Wu true k1]) 0 0)),(3,.ptr 0 0 0 0),(17,.b (decide (a0.Key < k0.Hi)))],[.box 81 (Qcd a0)]⟩ ?_
  by_cases c2:a0.Key < k0.Hi
  ·replace H:=iT c2 H
   rw [decide_eq_true c2]
   refine Qh hT 3 (K82 110 16) ⟨23,[(17,.b true),(18,.d (Wu true k1)),(20,.i a0.Key)],[.box 81 (Qcd a0)]⟩ ?_
   obtain ⟨v1,h3,H⟩:=ibC H
   refine Wx (Yh:=[.d (Wu true k1),.i a0.Key]) (dst:=some 21) (k':=(K82 110 17)) [17,21] [] hP Qou (Qgk.Wv (t0:=true) k1 a0.Key h3) (by kernel_rfl) (Wh _) (.cons (Qp _) (.cons (Qp _) .nil)) (st':=⟨23,[(17,.b true),(21,.b v1)],[.box 81 (Qcd a0)]⟩) (by kernel_rfl) ?_
   refine Xq hT 3 (K82 11 1) [] ⟨23,[(4,.b v1)],[]⟩ h0 ?_
   exact Yv v1 H
  replace H:=iF c2 H
  rw [decide_eq_false c2]
  refine Xq hT 7 (K82 11 1) [] ⟨23,[(4,.b false)],[]⟩ h0 ?_
  exact Yv false H
 replace H:=iF c1 H
 rw [decide_eq_false c1]
 refine Xq hT 14 (K82 11 1) [] ⟨23,[(4,.b false)],[]⟩ h0 ?_
 exact Yv false H
theorem Qi0.Wv (a0:List Qa) (a1:Qb) (a2:List Qb) {r:List Qa} (H:Qi0 a0 a1 a2=some r):Zd Tryz.prog 52 [Xk a0] [.own 0 2 0 a0.length,.d (Qfo a1),.d (Wu true a2)] [.gone,Xk r] (.own 1 2 0 r.length):=by
 refine Ye Tryz.func52 rfl (nt:=10) rfl (lb rfl) fun X hP h0 hX=>?_
 have hT:Xo X.P T:=hP▸tok
 have hf:X.P.funcs[52]? = some Tryz.f52:=hP▸Tryz.func52
 refine Qlb 0 (r:=Xk a0) rfl rfl (st':=⟨10,[(0,.own 1 2 0 a0.length),(1,.d (Qfo a1)),(2,.d (Wu true a2))],[.gone,Xk a0]⟩) (by kernel_rfl) (by kernel_rfl) rfl ?_
 refine Qh hT 10 (K52 110 2) ⟨10,[(7,.own 1 2 0 a0.length),(8,.fn 82 [.ptr 2 0 0 0,.ptr 3 0 0 0])],[.gone,Xk a0,.box 33 (Qe8 a1),.box 34 [.d (Wu true a2)]]⟩ ?_
 obtain ⟨v1,h1,H⟩:=ibC H
 refine Wx (Yh:=[.own 1 2 0 a0.length,.fn 82 [.ptr 2 0 0 0,.ptr 3 0 0 0]]) (dst:=some 9) (k':=(K52 110 3)) [9] [1] hP Wct (Yd.Wv (Jl:=82) (Jo:=[.rop false 1 (fun _=>[.i a1.Lo,.i a1.Hi]) 0 0,.rop false 1 (fun _=>[Wu true a2]) 0 0]) a0 (fun z0=>Qd0 z0 a1 a2) Wcu (fun z0 r h=>Qd0.Wv z0 a1 a2 h) h1) (by kernel_rfl) (Qf9 rfl rfl) (.cons (.same (.own 0 2 0 a0.length)) (.cons (.fn 82 (.cons (.look (ty:=33) (cs:=[.i a1.Lo,.i a1.Hi]) (by kernel_rfl) rfl) (.cons (.look (ty:=34) (cs:=[Wu true a2]) (by kernel_rfl) rfl) .nil))) .nil)) (st':=⟨10,[(9,.own 4 2 0 v1.length)],[.gone,.gone,.box 33 (Qe8 a1),.box 34 [.d (Wu true a2)],Xk v1]⟩) (by kernel_rfl) ?_
 refine Qh hT 2 (K52 11 1) ⟨10,[(6,.own 4 2 0 v1.length)],[.gone,.gone,.box 33 (Qe8 a1),.box 34 [.d (Wu true a2)],Xk v1]⟩ ?_
 obtain rfl:=Yi H
 exact Ym hf hX h0 (.own 4 2 0 v1.length) [0,4] (ac .gone (ac (Qat Qa.nl) an)) (.own _ _ _ _)
theorem Qd7.Wv (a0:Qn) {r:Bool} (H:Qd7 a0=some r):Zd Tryz.prog 53 [] [.d (Qa3 a0)] [] (.b r):=by
 refine Ye Tryz.func53 rfl (nt:=15) rfl (lb rfl) fun X hP h0 hX=>?_
 have hT:Xo X.P T:=hP▸tok
 have hf:X.P.funcs[53]? = some Tryz.f53:=hP▸Tryz.func53
 refine Qh hT 8 (K53 110 1) ⟨15,[(1,.ptr 0 0 0 0),(3,.d (Qa3 a0))],[.box 39 (Yg a0)]⟩ ?_
 obtain ⟨v1,h1,H⟩:=ibC H
 have Yv:∀ (Qbx:Bool),(Qd7.j1 Qbx)=some r->AK X 53 ((K53 11 1)) (Yq X [] (.b r)) ⟨15,[(2,.b Qbx)],[]⟩:=by
  intro Qbx H
  obtain rfl:=Yi H
  exact Ym hf hX h0 (.b Qbx) [] an (.d (.v _))
 refine Wx (Yh:=[.d (Qa3 a0)]) (dst:=some 4) (k':=(K53 110 2)) [1,4] [] hP Qgy (Qbo.Wv a0 h1) (by kernel_rfl) (Wh _) (.cons (Qp _) .nil) (st':=⟨15,[(1,.ptr 0 0 0 0),(4,.b v1)],[.box 39 (Yg a0)]⟩) (by kernel_rfl) ?_
 refine Qh hT 1 (K53 110 3) ⟨15,[(1,.ptr 0 0 0 0),(5,.b v1)],[.box 39 (Yg a0)]⟩ ?_
 by_cases c2:v1=true
 ·replace H:=iT c2 H
  rw [c2]
  refine Qh hT 4 (K53 110 7) ⟨15,[(1,.ptr 0 0 0 0),(5,.b true),(9,.b (a0.Kind == 3))],[.box 39 (Yg a0)]⟩ ?_
  by_cases c3:a0.Kind=3
  ·replace H:=iT c3 H
   rw [eqT c3]
   refine Xq hT 7 (K53 11 1) [] ⟨15,[(2,.b true)],[]⟩ h0 ?_
   exact Yv true H
  replace H:=iF c3 H
  rw [eqF c3]
  refine Xq hT 7 (K53 11 1) [] ⟨15,[(2,.b (a0.Kind == 4))],[]⟩ h0 ?_
  exact Yv (a0.Kind == 4) H
 replace H:=iF c2 H
 rw [Jk c2]
 refine Xq hT 11 (K53 11 1) [] ⟨15,[(2,.b false)],[]⟩ h0 ?_
 exact Yv false H
abbrev Xa.p0 (t0:Bool) (a0:List Qa) (a1:Int):List (Nat × AV):=[(0,.d (Yb t0 a0)),(1,.i a1)]
theorem Xa.Wv {t0:Bool} {ff2:FuncId} {cc2:List DV} (a0:List Qa) (a1:Int) (p2:Qa->Int->Option Int) (he2:Sy.Enters Tryz.prog ff2) (hp2:∀ (z0:Qa) (z1:Int) r,p2 z0 z1=some r->Zd Tryz.prog ff2 [] ([.d (Qf0 z0),.i z1] ++ List.map AV.d cc2) [] (.i r)) {r:Int × Bool} (H:Xa a0 a1 p2=some r):Zd Tryz.prog 110 [] [.d (Yb t0 a0),.i a1,.d (.fn ff2 cc2)] [] (.Qo [.i r.1,.b r.2]):=by
 refine Ye Tryz.func110 rfl (nt:=49) rfl (lb rfl) fun X hP h0 hX=>?_
 have hT:Xo X.P T:=hP▸tok
 have hf:X.P.funcs[110]? = some Tryz.f110:=hP▸Tryz.func110
 refine Qh hT 20 (Qg9 111100 0) ⟨49,(Xa.p0 t0 a0 a1++[(2,.d (.fn ff2 cc2)),(8,.i (a0.length:Int)),(9,.i 0),(10,.i (a0.length:Int))]),[]⟩ ?_
 have L:∀ n,(∀ (Qau:Int) (Yk:Int),iter (Xa.step a0 a1 p2) n (.l1 Qau Yk)=some r->AK X 110 ((Qg9 111100 0)) (Yq X [] (.Qo [.i r.1,.b r.2])) ⟨49,(Xa.p0 t0 a0 a1++[(2,.d (.fn ff2 cc2)),(8,.i (a0.length:Int)),(9,.i Qau),(10,.i Yk)]),[]⟩):=by
  intro n
  induction n with
  | zero=>exact fun _ _ H=>Qay H
  | succ n ih=>
   ·intro Qau Yk H
    refine Qh hT 7 (Qg9 11110000 1) ⟨49,(Xa.p0 t0 a0 a1++[(2,.d (.fn ff2 cc2)),(8,.i (a0.length:Int)),(9,.i Qau),(10,.i Yk),(17,.b (decide (Qau < Yk)))]),[]⟩ ?_
    by_cases c1:Qau < Yk
    ·replace H:=sT c1 H
     rw [decide_eq_true c1]
     refine Qh hT 2 (Qg9 1111000 1) ⟨49,(Xa.p0 t0 a0 a1++[(2,.d (.fn ff2 cc2)),(8,.i (a0.length:Int)),(9,.i Qau),(10,.i Yk)]),[]⟩ ?_
     refine Qh hT 10 (Qg9 1111000100 7) ⟨49,(Xa.p0 t0 a0 a1++[(2,.d (.fn ff2 cc2)),(8,.i (a0.length:Int)),(9,.i Qau),(10,.i Yk),(11,.i (IntKind.wrap .i64 (Int.fdiv (IntKind.wrap .u64 (IntKind.wrap .i64 (Qau+Yk))) 2)))]),[]⟩ ?_
     obtain ⟨v2,h5,H⟩:=sdC H
     rw [<- h5]
     refine Qh hT 6 (Qg9 11110001010 3) ⟨49,(Xa.p0 t0 a0 a1++[(2,.d (.fn ff2 cc2)),(8,.i (a0.length:Int)),(9,.i Qau),(10,.i Yk),(11,.i v2),(24,.d (.fn ff2 cc2)),(25,.d (Yb t0 a0)),(26,.i v2)]),[]⟩ ?_
     obtain ⟨h6,H⟩:=sC H
     refine Zv hT [0,1,2,8,9,10,11,24,27] (i:=v2) (n:=(a0.length:Int)) h6.1 h6.2 (k':=(Qg9 11110001010 4)) (st':=⟨49,(Xa.p0 t0 a0 a1++[(2,.d (.fn ff2 cc2)),(8,.i (a0.length:Int)),(9,.i Qau),(10,.i Yk),(11,.i v2),(24,.d (.fn ff2 cc2)),(27,.d (Qer t0 a0 v2.toNat 0))]),[]⟩) (by kernel_rfl) ?_
     refine Qh hT 2 (Qg9 11110001010 6) ⟨49,(Xa.p0 t0 a0 a1++[(2,.d (.fn ff2 cc2)),(8,.i (a0.length:Int)),(9,.i Qau),(10,.i Yk),(11,.i v2),(24,.d (.fn ff2 cc2)),(28,.d (Qf0 (a0.getD v2.toNat Qa.z))),(29,.i a1)]),[]⟩ ?_
     obtain ⟨v3,h7,H⟩:=sbC H
     refine Wx (Yh:=[.d (Qf0 (a0.getD v2.toNat Qa.z)),.i a1] ++ List.map AV.d cc2) (dst:=some 30) (k':=(Qg9 11110001010 7)) [0,1,2,8,9,10,11,30] [] hP he2 (hp2 (a0.getD v2.toNat Qa.z) a1 v3 h7) (by kernel_rfl) (Wh _) (.cons (Qp _) (.cons (Qp _) (Qh1 _))) (st':=⟨49,(Xa.p0 t0 a0 a1++[(2,.d (.fn ff2 cc2)),(8,.i (a0.length:Int)),(9,.i Qau),(10,.i Yk),(11,.i v2),(30,.i v3)]),[]⟩) (by kernel_rfl) ?_
     refine Qh hT 2 (Qg9 1111000101 1) ⟨49,(Xa.p0 t0 a0 a1++[(2,.d (.fn ff2 cc2)),(8,.i (a0.length:Int)),(9,.i Qau),(10,.i Yk),(11,.i v2),(31,.b (decide (v3 < 0)))]),[]⟩ ?_
     by_cases c8:v3 < 0
     ·replace H:=sT c8 H
      rw [decide_eq_true c8]
      refine Qh hT 8 (Qg9 111100 0) ⟨49,(Xa.p0 t0 a0 a1++[(2,.d (.fn ff2 cc2)),(8,.i (a0.length:Int)),(9,.i (IntKind.wrap .i64 (v2+1))),(10,.i Yk)]),[]⟩ ?_
      exact ih (IntKind.wrap .i64 (v2+1)) Yk H
     replace H:=sF c8 H
     rw [decide_eq_false c8]
     refine Qh hT 7 (Qg9 111100 0) ⟨49,(Xa.p0 t0 a0 a1++[(2,.d (.fn ff2 cc2)),(8,.i (a0.length:Int)),(9,.i Qau),(10,.i v2)]),[]⟩ ?_
     exact ih Qau v2 H
    replace H:=sF c1 H
    have Yv:∀ (Qtx:Bool),stk (Xa.j1 Qau Qtx) (iter (Xa.step a0 a1 p2) n)=some r->AK X 110 ((Qg9 11111 1)) (Yq X [] (.Qo [.i r.1,.b r.2])) ⟨49,[(6,.i Qau),(7,.b Qtx)],[]⟩:=by
     intro Qtx H
     obtain rfl:=Yi H
     exact Ym hf hX h0 (.Qo [.i Qau,.b Qtx]) [] an (.Qo (.cons (.d (.v _)) (.cons (.d (.v _)) .nil)))
    rw [decide_eq_false c1]
    refine Qh hT 9 (Qg9 111110 5) ⟨49,(Xa.p0 t0 a0 a1++[(2,.d (.fn ff2 cc2)),(9,.i Qau),(35,.i Qau),(39,.b (decide (Qau < (a0.length:Int))))]),[]⟩ ?_
    by_cases c2:Qau < (a0.length:Int)
    ·replace H:=sT c2 H
     rw [decide_eq_true c2]
     refine Qh hT 3 (Qg9 111110 8) ⟨49,[(1,.i a1),(35,.i Qau),(39,.b true),(40,.d (.fn ff2 cc2)),(41,.d (Yb t0 a0)),(42,.i Qau)],[]⟩ ?_
     obtain ⟨h3,H⟩:=sC H
     refine Zv hT [1,35,39,40,43] (i:=Qau) (n:=(a0.length:Int)) h3.1 h3.2 (k':=(Qg9 111110 9)) (st':=⟨49,[(1,.i a1),(35,.i Qau),(39,.b true),(40,.d (.fn ff2 cc2)),(43,.d (Qer t0 a0 Qau.toNat 0))],[]⟩) (by kernel_rfl) ?_
     refine Qh hT 2 (Qg9 111110 11) ⟨49,[(35,.i Qau),(39,.b true),(40,.d (.fn ff2 cc2)),(44,.d (Qf0 (a0.getD Qau.toNat Qa.z))),(45,.i a1)],[]⟩ ?_
     obtain ⟨v1,h4,H⟩:=sbC H
     refine Wx (Yh:=[.d (Qf0 (a0.getD Qau.toNat Qa.z)),.i a1] ++ List.map AV.d cc2) (dst:=some 46) (k':=(Qg9 111110 12)) [35,39,46] [] hP he2 (hp2 (a0.getD Qau.toNat Qa.z) a1 v1 h4) (by kernel_rfl) (Wh _) (.cons (Qp _) (.cons (Qp _) (Qh1 _))) (st':=⟨49,[(35,.i Qau),(39,.b true),(46,.i v1)],[]⟩) (by kernel_rfl) ?_
     refine Qh hT 5 (Qg9 11111 1) ⟨49,[(6,.i Qau),(7,.b (v1 == 0))],[]⟩ ?_
     exact Yv (v1 == 0) H
    replace H:=sF c2 H
    rw [decide_eq_false c2]
    refine Qh hT 12 (Qg9 11111 1) ⟨49,[(6,.i Qau),(7,.b false)],[]⟩ ?_
    exact Yv false H
 obtain ⟨n,H⟩:=Qbu H
 exact (L n) 0 (a0.length:Int) H
theorem Qfu.Wv (a0:Qa) (a1:Int):Zd Tryz.prog 111 [] [.d (Qf0 a0),.i a1] [] (.i (Qfu a0 a1)):=by
 obtain ⟨r,H⟩:∃ r,Qfu a0 a1=r:=⟨_,rfl⟩
 rw [H]
 refine Ye Tryz.func111 rfl (nt:=9) rfl (lb rfl) fun X hP h0 hX=>?_
 have hT:Xo X.P T:=hP▸tok
 have hf:X.P.funcs[111]? = some Tryz.f111:=hP▸Tryz.func111
 refine Qh hT 10 (Weq 110 3) ⟨9,[(6,.i a0.Key),(7,.i a1)],[.box 81 (Qcd a0)]⟩ ?_
 refine Wx (Yh:=[.i a0.Key,.i a1]) (dst:=some 8) (k':=(Weq 110 4)) [8] [] hP Qkb (Zj.Wv a0.Key a1) (by kernel_rfl) (Wh _) (.cons (Qp _) (.cons (Qp _) .nil)) (st':=⟨9,[(8,.i (Zj a0.Key a1))],[.box 81 (Qcd a0)]⟩) (by kernel_rfl) ?_
 refine Qh hT 2 (Weq 11 1) ⟨9,[(4,.i (Zj a0.Key a1))],[.box 81 (Qcd a0)]⟩ ?_
 obtain rfl:=H
 exact Ym hf hX h0 (.i (Zj a0.Key a1)) [] an (.d (.v _))
theorem Qg2.Wv {t0:Bool} (a0:List Qa) (a1:Int) {r:Int × Bool} (H:Qg2 a0 a1=some r):Zd Tryz.prog 85 [] [.d (Yb t0 a0),.i a1] [] (.Qo [.i r.1,.b r.2]):=by
 refine Ye Tryz.func85 rfl (nt:=11) rfl (lb rfl) fun X hP h0 hX=>?_
 have hT:Xo X.P T:=hP▸tok
 have hf:X.P.funcs[85]? = some Tryz.f85:=hP▸Tryz.func85
 refine Qh hT 9 (K85 110 2) ⟨11,[(6,.d (Yb t0 a0)),(7,.i a1)],[]⟩ ?_
 obtain ⟨v1,h1,H⟩:=ibC H
 refine Wx (Yh:=[.d (Yb t0 a0),.i a1,.d (.fn 111 [])]) (dst:=some 8) (k':=(K85 110 3)) [8] [] hP Qzq (Xa.Wv (t0:=t0) (ff2:=111) (cc2:=[]) a0 a1 (fun z0 z1=>some (Qfu z0 z1)) Qzr (fun z0 z1 r h=>by obtain rfl:=Yi h;exact Qfu.Wv z0 z1) h1) (by kernel_rfl) (Wh _) (.cons (Qp _) (.cons (Qp _) (.cons (Qp _) .nil))) (st':=⟨11,[(8,.Qo [.i v1.1,.b v1.2])],[]⟩) (by kernel_rfl) ?_
 refine Qh hT 5 (K85 11 1) ⟨11,[(4,.i v1.1),(5,.b v1.2)],[]⟩ ?_
 obtain rfl:=Yi H
 exact Ym hf hX h0 (.Qo [.i v1.1,.b v1.2]) [] an (.Qo (.cons (.d (.v _)) (.cons (.d (.v _)) .nil)))
theorem Qgb.Wv {t0:Bool} (a0:List Qa) (a1:Int) {r:Int × Bool} (H:Qgb a0 a1=some r):Zd Tryz.prog 58 [] [.d (Yb t0 a0),.i a1] [] (.Qo [.i r.1,.b r.2]):=by
 refine Ye Tryz.func58 rfl (nt:=20) rfl (lb rfl) fun X hP h0 hX=>?_
 have hT:Xo X.P T:=hP▸tok
 have hf:X.P.funcs[58]? = some Tryz.f58:=hP▸Tryz.func58
 refine Qh hT 10 (K58 1100 2) ⟨20,[(0,.d (Yb t0 a0)),(9,.d (Yb t0 a0)),(10,.i a1)],[]⟩ ?_
 obtain ⟨v1,h1,H⟩:=ibC H
 refine Wx (Yh:=[.d (Yb t0 a0),.i a1]) (dst:=some 11) (k':=(K58 1100 3)) [0,11] [] hP Qul (Qg2.Wv (t0:=t0) a0 a1 h1) (by kernel_rfl) (Wh _) (.cons (Qp _) (.cons (Qp _) .nil)) (st':=⟨20,[(0,.d (Yb t0 a0)),(11,.Qo [.i v1.1,.b v1.2])],[]⟩) (by kernel_rfl) ?_
 refine Qh hT 10 (K58 1101 1) ⟨20,[(0,.d (Yb t0 a0)),(6,.i v1.1),(14,.b v1.2)],[]⟩ ?_
 by_cases c2:v1.2=true
 ·replace H:=iT c2 H
  rw [c2]
  refine Qh hT 5 (K58 1101100 2) ⟨20,[(15,.d (Yb t0 a0)),(16,.i v1.1)],[]⟩ ?_
  obtain ⟨h3,H⟩:=iC H
  refine Zv hT [17] (i:=v1.1) (n:=(a0.length:Int)) h3.1 h3.2 (k':=(K58 1101100 3)) (st':=⟨20,[(17,.d (Qer t0 a0 v1.1.toNat 0))],[]⟩) (by kernel_rfl) ?_
  refine Qh hT 5 (K58 110110 1) ⟨20,[(4,.i ((a0.getD v1.1.toNat Qa.z).Val)),(5,.b true)],[]⟩ ?_
  obtain rfl:=Yi H
  exact Ym hf hX h0 (.Qo [.i ((a0.getD v1.1.toNat Qa.z).Val),.b true]) [] an (.Qo (.cons (.d (.v _)) (.cons (.d (.v _)) .nil)))
 replace H:=iF c2 H
 rw [Jk c2]
 refine Qh hT 2 (K58 11 1) ⟨20,[],[]⟩ ?_
 refine Qh hT 5 (K58 111 1) ⟨20,[(4,.i 0),(5,.b false)],[]⟩ ?_
 obtain rfl:=Yi H
 exact Ym hf hX h0 (.Qo [.i 0,.b false]) [] an (.Qo (.cons (.d (.v _)) (.cons (.d (.v _)) .nil)))
theorem Qek.Wv (a0:List Qa) (a1:Int) (a2:Int) {r:List Qa} (H:Qek a0 a1 a2=some r):Zd Tryz.prog 56 [Xk a0] [.own 0 2 0 a0.length,.i a1,.i a2] [.gone,Xk r] (.own 1 2 0 r.length):=by
 refine Ye Tryz.func56 rfl (nt:=29) rfl (lb rfl) fun X hP h0 hX=>?_
 have hT:Xo X.P T:=hP▸tok
 have hf:X.P.funcs[56]? = some Tryz.f56:=hP▸Tryz.func56
 refine Qlb 0 (r:=Xk a0) rfl rfl (st':=⟨29,[(0,.own 1 2 0 a0.length),(1,.i a1),(2,.i a2)],[.gone,Xk a0]⟩) (by kernel_rfl) (by kernel_rfl) rfl ?_
 refine Qh hT 8 (K56 110 2) ⟨29,[(0,.own 1 2 0 a0.length),(1,.i a1),(2,.i a2),(10,.own 1 2 0 a0.length),(11,.i a1)],[.gone,Xk a0]⟩ ?_
 obtain ⟨v1,h1,H⟩:=ibC H
 refine Wx (Yh:=[.own 1 2 0 a0.length,.i a1]) (dst:=some 12) (k':=(K56 110 3)) [0,1,2,12] [] hP Qul (Qg2.Wv (t0:=false) a0 a1 h1) (by kernel_rfl) (Wh _) (.cons (.Qds (ty:=81) (by kernel_rfl) rfl) (.cons (Qp _) .nil)) (st':=⟨29,[(0,.own 1 2 0 a0.length),(1,.i a1),(2,.i a2),(12,.Qo [.i v1.1,.b v1.2])],[.gone,Xk a0]⟩) (by kernel_rfl) ?_
 refine Qh hT 11 (K56 1110 1) ⟨29,[(0,.own 1 2 0 a0.length),(1,.i a1),(2,.i a2),(7,.i v1.1),(15,.b v1.2)],[.gone,Xk a0]⟩ ?_
 by_cases c2:v1.2=true
 ·replace H:=iT c2 H
  rw [c2]
  refine Qh hT 6 (K56 1110100 3) ⟨29,[(0,.own 1 2 0 a0.length),(16,.own 1 2 0 a0.length),(17,.i v1.1),(18,.i a2)],[.gone,Xk a0]⟩ ?_
  obtain ⟨h3,H⟩:=iC H
  refine Zv hT [0,18,19] (i:=v1.1) (n:=(a0.length:Int)) h3.1 h3.2 (k':=(K56 1110100 4)) (st':=⟨29,[(0,.own 1 2 0 a0.length),(18,.i a2),(19,.ptr 1 2 v1.1.toNat 0)],[.gone,Xk a0]⟩) (by kernel_rfl) ?_
  refine Qh hT 1 (K56 1110100 5) ⟨29,[(0,.own 1 2 0 a0.length),(18,.i a2),(20,.ptr 1 2 v1.1.toNat 1)],[.gone,Xk a0]⟩ ?_
  refine Qsa (id:=1) (kk:=2) (i:=v1.1.toNat) (off:=1) (s:=1) (n:=a0.length) (ty:=81) (ds:=[.i a2]) (g:=vec Qa.e Qa.z a0) (k':=(K56 1110100 6)) hT [0] (vec Qa.e Qa.z (a0.set v1.1.toNat (⟨(a0.getD v1.1.toNat Qa.z).Key,a2⟩:Qa))) (by kernel_rfl) (by kernel_rfl) (ltN h3.1 h3.2) ((Qm2 (ltN h3.1 h3.2)).trans (by kernel_rfl)) Qjh (st':=⟨29,[(0,.own 1 2 0 (a0.length))],[.gone,.flat false 2 81 a0.length (vec Qa.e Qa.z (a0.set v1.1.toNat (⟨(a0.getD v1.1.toNat Qa.z).Key,a2⟩:Qa)))]⟩) (by kernel_rfl) ?_
  refine Qpt (show a0.length=(a0.set v1.1.toNat (⟨(a0.getD v1.1.toNat Qa.z).Key,a2⟩:Qa)).length from (List.length_set ..).symm) (fun nn=>⟨29,[(0,.own 1 2 0 (nn))],[.gone,.flat false 2 81 nn (vec Qa.e Qa.z (a0.set v1.1.toNat (⟨(a0.getD v1.1.toNat Qa.z).Key,a2⟩:Qa)))]⟩) ?_
  refine Qh hT 6 (K56 1110101 1) ⟨29,[(6,.own 1 2 0 ((a0.set v1.1.toNat (⟨(a0.getD v1.1.toNat Qa.z).Key,a2⟩:Qa)).length))],[.gone,Xk (a0.set v1.1.toNat (⟨(a0.getD v1.1.toNat Qa.z).Key,a2⟩:Qa))]⟩ ?_
  obtain rfl:=Yi H
  exact Ym hf hX h0 (.own 1 2 0 ((a0.set v1.1.toNat (⟨(a0.getD v1.1.toNat Qa.z).Key,a2⟩:Qa)).length)) [0,1] (ac .gone (ac (Qat Qa.nl) an)) (.own _ _ _ _)
 replace H:=iF c2 H
 rw [Jk c2]
 refine Qh hT 2 (K56 111 1) ⟨29,[(0,.own 1 2 0 a0.length),(1,.i a1),(2,.i a2),(7,.i v1.1)],[.gone,Xk a0]⟩ ?_
 refine Qh hT 8 (K56 11110 6) ⟨29,[(22,.own 1 2 0 a0.length),(23,.i v1.1),(27,.own 2 2 0 1)],[.gone,Xk a0,.flat false 2 81 1 (fun j=>[[.i a1,.i a2]].getD j [])]⟩ ?_
 obtain ⟨h4,H⟩:=iC H
 refine Wx (Yh:=[.own 1 2 0 a0.length,.i v1.1,.own 2 2 0 1]) (dst:=some 28) (k':=(K56 11110 7)) [28] [1,2] hP Wcw (Wfx a0 v1.1 (⟨a1,a2⟩:Qa) h4) (by kernel_rfl) (Quo rfl rfl rfl rfl (by decide)) (.cons (.same (.own 0 2 0 a0.length)) (.cons (Qp _) (.cons (.same (.own 1 2 0 1)) .nil))) (st':=⟨29,[(28,.own 3 2 0 ((a0.take v1.1.toNat ++ (⟨a1,a2⟩:Qa) :: a0.drop v1.1.toNat).length))],[.gone,.gone,.gone,Xk (a0.take v1.1.toNat ++ (⟨a1,a2⟩:Qa) :: a0.drop v1.1.toNat)]⟩) (by kernel_rfl) ?_
 refine Qh hT 2 (K56 1111 1) ⟨29,[(6,.own 3 2 0 ((a0.take v1.1.toNat ++ (⟨a1,a2⟩:Qa) :: a0.drop v1.1.toNat).length))],[.gone,.gone,.gone,Xk (a0.take v1.1.toNat ++ (⟨a1,a2⟩:Qa) :: a0.drop v1.1.toNat)]⟩ ?_
 obtain rfl:=Yi H
 exact Ym hf hX h0 (.own 3 2 0 ((a0.take v1.1.toNat ++ (⟨a1,a2⟩:Qa) :: a0.drop v1.1.toNat).length)) [0,3] (ac .gone (ac (Qat Qa.nl) an)) (.own _ _ _ _)
abbrev Jm.q1 (a0:List Qa) (a1:Qn):List Row:=[.gone,Xk a0,.box 39 (Yg a1),.box 81 (Qcd (a1.Pairs.getD 0 Qa.z))]
abbrev Jm.p0 (a0:List Qa):List (Nat × AV):=[(0,.own 1 2 0 a0.length),(3,.ptr 2 0 0 0),(6,.ptr 3 0 0 0)]
theorem Jm.Wv (a0:List Qa) (a1:Qn) {r:(List Qa) × Bool} (H:Jm a0 a1=some r):Zd Tryz.prog 55 [Xk a0] [.own 0 2 0 a0.length,.d (Qa3 a1)] [.gone,Xk r.1] (.Qo [.own 1 2 0 r.1.length,.b r.2]):=by
 refine Ye Tryz.func55 rfl (nt:=57) rfl (lb rfl) fun X hP h0 hX=>?_
 have hT:Xo X.P T:=hP▸tok
 have hf:X.P.funcs[55]? = some Tryz.f55:=hP▸Tryz.func55
 refine Qlb 0 (r:=Xk a0) rfl rfl (st':=⟨57,[(0,.own 1 2 0 a0.length),(1,.d (Qa3 a1))],[.gone,Xk a0]⟩) (by kernel_rfl) (by kernel_rfl) rfl ?_
 refine Qh hT 10 (K55 110 2) ⟨57,[(0,.own 1 2 0 a0.length),(3,.ptr 2 0 0 0),(10,.d (Yb true a1.Pairs))],[.gone,Xk a0,.box 39 (Yg a1)]⟩ ?_
 obtain ⟨h1,H⟩:=iC H
 refine Zv hT [0,3,11] (i:=0) (n:=(a1.Pairs.length:Int)) h1.1 h1.2 (k':=(K55 110 3)) (st':=⟨57,[(0,.own 1 2 0 a0.length),(3,.ptr 2 0 0 0),(11,.d (Qer true a1.Pairs 0 0))],[.gone,Xk a0,.box 39 (Yg a1)]⟩) (by kernel_rfl) ?_
 refine Qh hT 9 (K55 1110 3) ⟨57,(Jm.p0 a0++[(14,.own 1 2 0 a0.length),(16,.i ((a1.Pairs.getD 0 Qa.z).Key))]),(Jm.q1 a0 a1)⟩ ?_
 obtain ⟨v1,h2,H⟩:=ibC H
 refine Wx (Yh:=[.own 1 2 0 a0.length,.i ((a1.Pairs.getD 0 Qa.z).Key)]) (dst:=some 17) (k':=(K55 1110 4)) [0,3,6,17] [] hP Qov (Qgb.Wv (t0:=false) a0 ((a1.Pairs.getD 0 Qa.z).Key) h2) (by kernel_rfl) (Wh _) (.cons (.Qds (ty:=81) (by kernel_rfl) rfl) (.cons (Qp _) .nil)) (st':=⟨57,(Jm.p0 a0++[(17,.Qo [.i v1.1,.b v1.2])]),(Jm.q1 a0 a1)⟩) (by kernel_rfl) ?_
 refine Qh hT 13 (K55 11110 1) ⟨57,(Jm.p0 a0++[(7,.i v1.1),(8,.b v1.2),(22,.b (a1.Kind == 3))]),(Jm.q1 a0 a1)⟩ ?_
 by_cases c3:a1.Kind=3
 ·replace H:=iT c3 H
  have Yv:∀ (Qfx:Bool),(Jm.j1 a0 a1 v1 Qfx)=some r->AK X 55 ((K55 11110100 1)) (Yq X [.gone,Xk r.1] (.Qo [.own 1 2 0 r.1.length,.b r.2])) ⟨57,[(0,.own 1 2 0 a0.length),(6,.ptr 2 0 0 0),(7,.i v1.1),(34,.b Qfx)],[.gone,Xk a0,.box 81 (Qcd (a1.Pairs.getD 0 Qa.z))]⟩:=by
   intro Qfx H
   by_cases c5:Qfx=true
   ·replace H:=iT c5 H
    rw [c5]
    refine Qh hT 7 (K55 1111010010 1) ⟨57,[(4,.own 1 2 0 a0.length),(5,.b false)],[.gone,Xk a0,.box 81 (Qcd (a1.Pairs.getD 0 Qa.z))]⟩ ?_
    obtain rfl:=Yi H
    exact Ym hf hX h0 (.Qo [.own 1 2 0 a0.length,.b false]) [0,1] (ac .gone (ac (Qat Qa.nl) an)) (.Qo (.cons (.own _ _ _ _) (.cons (.d (.v _)) .nil)))
   replace H:=iF c5 H
   rw [Jk c5]
   refine Qh hT 2 (K55 1111010 1) ⟨57,[(0,.own 1 2 0 a0.length),(6,.ptr 2 0 0 0),(7,.i v1.1)],[.gone,Xk a0,.box 81 (Qcd (a1.Pairs.getD 0 Qa.z))]⟩ ?_
   refine Qh hT 9 (K55 111101010 7) ⟨57,[(36,.own 1 2 0 a0.length),(38,.i ((a1.Pairs.getD 0 Qa.z).Key)),(42,.i (IntKind.wrap .i64 (v1.1+((a1.Pairs.getD 0 Qa.z).Val))))],[.gone,Xk a0,.box 81 (Qcd (a1.Pairs.getD 0 Qa.z))]⟩ ?_
   obtain ⟨v2,h6,H⟩:=ibC H
   refine Wx (Yh:=[.own 1 2 0 a0.length,.i ((a1.Pairs.getD 0 Qa.z).Key),.i (IntKind.wrap .i64 (v1.1+((a1.Pairs.getD 0 Qa.z).Val)))]) (dst:=some 43) (k':=(K55 111101010 8)) [43] [1] hP Ql2 (Qek.Wv a0 ((a1.Pairs.getD 0 Qa.z).Key) (IntKind.wrap .i64 (v1.1+((a1.Pairs.getD 0 Qa.z).Val))) h6) (by kernel_rfl) (Qf9 rfl rfl) (.cons (.same (.own 0 2 0 a0.length)) (.cons (Qp _) (.cons (Qp _) .nil))) (st':=⟨57,[(43,.own 3 2 0 v2.length)],[.gone,.gone,.box 81 (Qcd (a1.Pairs.getD 0 Qa.z)),Xk v2]⟩) (by kernel_rfl) ?_
   refine Qh hT 3 (K55 11110101 1) ⟨57,[(4,.own 3 2 0 v2.length),(5,.b true)],[.gone,.gone,.box 81 (Qcd (a1.Pairs.getD 0 Qa.z)),Xk v2]⟩ ?_
   obtain rfl:=Yi H
   exact Ym hf hX h0 (.Qo [.own 3 2 0 v2.length,.b true]) [0,3] (ac .gone (ac (Qat Qa.nl) an)) (.Qo (.cons (.own _ _ _ _) (.cons (.d (.v _)) .nil)))
  rw [eqT c3]
  refine Qh hT 10 (K55 111101000 6) ⟨57,[(0,.own 1 2 0 a0.length),(6,.ptr 3 0 0 0),(7,.i v1.1),(28,.b (decide ((IntKind.wrap .i64 (v1.1+((a1.Pairs.getD 0 Qa.z).Val))) < 0)))],(Jm.q1 a0 a1)⟩ ?_
  by_cases c4:(IntKind.wrap .i64 (v1.1+((a1.Pairs.getD 0 Qa.z).Val))) < 0
  ·replace H:=iT c4 H
   rw [decide_eq_true c4]
   refine Xq hT 7 (K55 11110100 1) [0,1,3] ⟨57,[(0,.own 1 2 0 a0.length),(6,.ptr 2 0 0 0),(7,.i v1.1),(34,.b true)],[.gone,Xk a0,.box 81 (Qcd (a1.Pairs.getD 0 Qa.z))]⟩ h0 ?_
   exact Yv true H
  replace H:=iF c4 H
  rw [decide_eq_false c4]
  refine Xq hT 7 (K55 11110100 1) [0,1,3] ⟨57,[(0,.own 1 2 0 a0.length),(6,.ptr 2 0 0 0),(7,.i v1.1),(34,.b (decide ((IntKind.wrap .i64 (v1.1+((a1.Pairs.getD 0 Qa.z).Val))) > 1099511627776)))],[.gone,Xk a0,.box 81 (Qcd (a1.Pairs.getD 0 Qa.z))]⟩ h0 ?_
  exact Yv (decide ((IntKind.wrap .i64 (v1.1+((a1.Pairs.getD 0 Qa.z).Val))) > 1099511627776)) H
 replace H:=iF c3 H
 have Jj2:∀ (Qr4:Int),(Jm.j2 a0 a1 Qr4)=some r->AK X 55 ((K55 11111 1)) (Yq X [.gone,Xk r.1] (.Qo [.own 1 2 0 r.1.length,.b r.2])) ⟨57,(Jm.p0 a0++[(7,.i Qr4)]),(Jm.q1 a0 a1)⟩:=by
  intro Qr4 H
  refine Qh hT 8 (K55 1111110 1) ⟨57,[(0,.own 1 2 0 a0.length),(6,.ptr 3 0 0 0),(49,.b (Qr4 != a1.Old))],(Jm.q1 a0 a1)⟩ ?_
  by_cases c8:Qr4=a1.Old
  ·replace H:=iT c8 H
   rw [neF c8]
   refine Qh hT 2 (K55 111111 1) ⟨57,[(0,.own 1 2 0 a0.length),(6,.ptr 3 0 0 0)],(Jm.q1 a0 a1)⟩ ?_
   refine Qh hT 7 (K55 11111110 5) ⟨57,[(51,.own 1 2 0 a0.length),(53,.i ((a1.Pairs.getD 0 Qa.z).Key)),(55,.i ((a1.Pairs.getD 0 Qa.z).Val))],(Jm.q1 a0 a1)⟩ ?_
   obtain ⟨v3,h9,H⟩:=ibC H
   refine Wx (Yh:=[.own 1 2 0 a0.length,.i ((a1.Pairs.getD 0 Qa.z).Key),.i ((a1.Pairs.getD 0 Qa.z).Val)]) (dst:=some 56) (k':=(K55 11111110 6)) [56] [1] hP Ql2 (Qek.Wv a0 ((a1.Pairs.getD 0 Qa.z).Key) ((a1.Pairs.getD 0 Qa.z).Val) h9) (by kernel_rfl) (Qf9 rfl rfl) (.cons (.same (.own 0 2 0 a0.length)) (.cons (Qp _) (.cons (Qp _) .nil))) (st':=⟨57,[(56,.own 4 2 0 v3.length)],[.gone,.gone,.box 39 (Yg a1),.box 81 (Qcd (a1.Pairs.getD 0 Qa.z)),Xk v3]⟩) (by kernel_rfl) ?_
   refine Qh hT 3 (K55 1111111 1) ⟨57,[(4,.own 4 2 0 v3.length),(5,.b true)],[.gone,.gone,.box 39 (Yg a1),.box 81 (Qcd (a1.Pairs.getD 0 Qa.z)),Xk v3]⟩ ?_
   obtain rfl:=Yi H
   exact Ym hf hX h0 (.Qo [.own 4 2 0 v3.length,.b true]) [0,4] (ac .gone (ac (Qat Qa.nl) an)) (.Qo (.cons (.own _ _ _ _) (.cons (.d (.v _)) .nil)))
  replace H:=iF c8 H
  rw [neT c8]
  refine Qh hT 7 (K55 111111010 1) ⟨57,[(4,.own 1 2 0 a0.length),(5,.b false)],(Jm.q1 a0 a1)⟩ ?_
  obtain rfl:=Yi H
  exact Ym hf hX h0 (.Qo [.own 1 2 0 a0.length,.b false]) [0,1] (ac .gone (ac (Qat Qa.nl) an)) (.Qo (.cons (.own _ _ _ _) (.cons (.d (.v _)) .nil)))
 rw [eqF c3]
 refine Qh hT 2 (K55 1111 1) ⟨57,(Jm.p0 a0++[(7,.i v1.1),(8,.b v1.2)]),(Jm.q1 a0 a1)⟩ ?_
 refine Qh hT 6 (K55 111110 1) ⟨57,(Jm.p0 a0++[(7,.i v1.1),(45,.b (!v1.2))]),(Jm.q1 a0 a1)⟩ ?_
 by_cases c7:v1.2=true
 ·replace H:=iT c7 H
  rw [c7]
  refine Qh hT 2 (K55 11111 1) ⟨57,(Jm.p0 a0++[(7,.i v1.1)]),(Jm.q1 a0 a1)⟩ ?_
  exact Jj2 v1.1 H
 replace H:=iF c7 H
 rw [Jk c7]
 refine Qh hT 4 (K55 11111 1) ⟨57,(Jm.p0 a0++[(7,.i 1099511627777)]),(Jm.q1 a0 a1)⟩ ?_
 exact Jj2 1099511627777 H
theorem Qf7.Wv (a0:List Qa) (a1:Int) (a2:Int) {r:List Qa} (H:Qf7 a0 a1 a2=some r):Zd Tryz.prog 57 [Xk a0] [.own 0 2 0 a0.length,.i a1,.i a2] [.gone,Xk r] (.own 1 2 0 r.length):=by
 refine Ye Tryz.func57 rfl (nt:=23) rfl (lb rfl) fun X hP h0 hX=>?_
 have hT:Xo X.P T:=hP▸tok
 have hf:X.P.funcs[57]? = some Tryz.f57:=hP▸Tryz.func57
 refine Qlb 0 (r:=Xk a0) rfl rfl (st':=⟨23,[(0,.own 1 2 0 a0.length),(1,.i a1),(2,.i a2)],[.gone,Xk a0]⟩) (by kernel_rfl) (by kernel_rfl) rfl ?_
 refine Qh hT 8 (K57 110 2) ⟨23,[(0,.own 1 2 0 a0.length),(1,.i a1),(2,.i a2),(10,.own 1 2 0 a0.length),(11,.i a1)],[.gone,Xk a0]⟩ ?_
 obtain ⟨v1,h1,H⟩:=ibC H
 refine Wx (Yh:=[.own 1 2 0 a0.length,.i a1]) (dst:=some 12) (k':=(K57 110 3)) [0,1,2,12] [] hP Qov (Qgb.Wv (t0:=false) a0 a1 h1) (by kernel_rfl) (Wh _) (.cons (.Qds (ty:=81) (by kernel_rfl) rfl) (.cons (Qp _) .nil)) (st':=⟨23,[(0,.own 1 2 0 a0.length),(1,.i a1),(2,.i a2),(12,.Qo [.i v1.1,.b v1.2])],[.gone,Xk a0]⟩) (by kernel_rfl) ?_
 refine Qh hT 15 (K57 1110 7) ⟨23,[(15,.own 1 2 0 a0.length),(16,.i a1),(21,.i (Qgf (Qet (IntKind.wrap .i64 (v1.1+a2)) (-1099511627776)) 1099511627776))],[.gone,Xk a0]⟩ ?_
 obtain ⟨v2,h2,H⟩:=ibC H
 refine Wx (Yh:=[.own 1 2 0 a0.length,.i a1,.i (Qgf (Qet (IntKind.wrap .i64 (v1.1+a2)) (-1099511627776)) 1099511627776)]) (dst:=some 22) (k':=(K57 1110 8)) [22] [1] hP Ql2 (Qek.Wv a0 a1 (Qgf (Qet (IntKind.wrap .i64 (v1.1+a2)) (-1099511627776)) 1099511627776) h2) (by kernel_rfl) (Qf9 rfl rfl) (.cons (.same (.own 0 2 0 a0.length)) (.cons (Qp _) (.cons (Qp _) .nil))) (st':=⟨23,[(22,.own 2 2 0 v2.length)],[.gone,.gone,Xk v2]⟩) (by kernel_rfl) ?_
 refine Qh hT 2 (K57 111 1) ⟨23,[(6,.own 2 2 0 v2.length)],[.gone,.gone,Xk v2]⟩ ?_
 obtain rfl:=Yi H
 exact Ym hf hX h0 (.own 2 2 0 v2.length) [0,2] (ac .gone (ac (Qat Qa.nl) an)) (.own _ _ _ _)
abbrev Wp.q1 (a1:Qn) (Ja:Int):=(a1.Pairs.getD Ja.toNat Qa.z)
abbrev Wp.p0 (a2:List Qb):List (Nat × AV):=[(2,.d (Wu true a2)),(4,.ptr 0 0 0 0)]
theorem Wp.Wv {t0:Bool} (a0:List Qa) (a1:Qn) (a2:List Qb) {r:(List Qa) × Bool} (H:Wp a0 a1 a2=some r):Zd Tryz.prog 27 [] [.d (Yb t0 a0),.d (Qa3 a1),.d (Wu true a2)] [Xk r.1] (.Qo [.own 0 2 0 r.1.length,.b r.2]):=by
 refine Ye Tryz.func27 rfl (nt:=93) rfl (lb rfl) fun X hP h0 hX=>?_
 have hT:Xo X.P T:=hP▸tok
 have hf:X.P.funcs[27]? = some Tryz.f27:=hP▸Tryz.func27
 refine Qh hT 10 (K27 1100 1) ⟨93,[(0,.d (Yb t0 a0)),(2,.d (Wu true a2)),(4,.ptr 0 0 0 0),(10,.d (Yb t0 a0))],[.box 39 (Yg a1)]⟩ ?_
 obtain ⟨v1,h1,H⟩:=ibC H
 have Yv:∀ (Qqa:Bool),(Wp.j1 a0 a1 a2 Qqa)=some r->AK X 27 ((K27 110 1)) (Yq X [Xk r.1] (.Qo [.own 0 2 0 r.1.length,.b r.2])) ⟨93,[(0,.d (Yb t0 a0)),(2,.d (Wu true a2)),(4,.ptr 0 0 0 0),(22,.b Qqa)],[.box 39 (Yg a1)]⟩:=by
  intro Qqa H
  by_cases c6:Qqa=true
  ·replace H:=iT c6 H
   rw [c6]
   refine Qh hT 6 (K27 11010 1) ⟨93,[(6,.ns),(7,.b false)],[.box 39 (Yg a1)]⟩ ?_
   refine Qb8 [6,7] 6 2 81 (vec Qa.e Qa.z []) (st':=⟨93,[(6,.own 1 2 0 0),(7,.b false)],[.box 39 (Yg a1),Xk ([]:List Qa)]⟩) (by kernel_rfl) (by kernel_rfl) ?_
   obtain rfl:=Yi H
   exact Ym hf hX h0 (.Qo [.own 1 2 0 0,.b false]) [1] (ac (Qat Qa.nl) an) (.Qo (.cons (.own _ _ _ _) (.cons (.d (.v _)) .nil)))
  replace H:=iF c6 H
  rw [Jk c6]
  refine Qh hT 2 (K27 11 1) ⟨93,[(0,.d (Yb t0 a0)),(2,.d (Wu true a2)),(4,.ptr 0 0 0 0)],[.box 39 (Yg a1)]⟩ ?_
  refine Qh hT 3 (K27 1110 1) ⟨93,(Wp.p0 a2++[(23,.d (Yb t0 a0))]),[.box 39 (Yg a1)]⟩ ?_
  obtain ⟨h7,H⟩:=iC H
  refine Wx (Yh:=[.d (Yb t0 a0)]) (dst:=some 24) (k':=(K27 1110 2)) [2,4,24] [] hP Ql1 (Qpv (tg:=t0) a0 h7) (by kernel_rfl) (Wh _) (.cons (Qp _) .nil) (st':=⟨93,(Wp.p0 a2++[(24,.own 1 2 0 a0.length)]),[.box 39 (Yg a1),Xk a0]⟩) (by kernel_rfl) ?_
  refine Qh hT 11 (K27 111100 1) ⟨93,(Wp.p0 a2++[(6,.own 1 2 0 a0.length),(25,.b (a1.Kind == 2))]),[.box 39 (Yg a1),Xk a0]⟩ ?_
  by_cases c8:a1.Kind=2
  ·replace H:=iT c8 H
   rw [eqT c8]
   refine Qh hT 7 (K27 111100100 4) ⟨93,[(29,.own 1 2 0 a0.length),(31,.d (Qfo a1.Over)),(32,.d (Wu true a2))],[.box 39 (Yg a1),Xk a0]⟩ ?_
   obtain ⟨v4,h9,H⟩:=ibC H
   refine Wx (Yh:=[.own 1 2 0 a0.length,.d (Qfo a1.Over),.d (Wu true a2)]) (dst:=some 33) (k':=(K27 111100100 5)) [33] [1] hP Wcd (Qi0.Wv a0 a1.Over a2 h9) (by kernel_rfl) (Qf9 rfl rfl) (.cons (.same (.own 0 2 0 a0.length)) (.cons (Qp _) (.cons (Qp _) .nil))) (st':=⟨93,[(33,.own 2 2 0 v4.length)],[.box 39 (Yg a1),.gone,Xk v4]⟩) (by kernel_rfl) ?_
   refine Qh hT 3 (K27 11110010 1) ⟨93,[(6,.own 2 2 0 v4.length),(7,.b true)],[.box 39 (Yg a1),.gone,Xk v4]⟩ ?_
   obtain rfl:=Yi H
   exact Ym hf hX h0 (.Qo [.own 2 2 0 v4.length,.b true]) [2] (ac (Qat Qa.nl) an) (.Qo (.cons (.own _ _ _ _) (.cons (.d (.v _)) .nil)))
  replace H:=iF c8 H
  rw [eqF c8]
  refine Qh hT 4 (K27 111100110 1) ⟨93,(Wp.p0 a2++[(6,.own 1 2 0 a0.length),(35,.d (Qa3 a1))]),[.box 39 (Yg a1),Xk a0]⟩ ?_
  obtain ⟨v5,h10,H⟩:=ibC H
  refine Wx (Yh:=[.d (Qa3 a1)]) (dst:=some 36) (k':=(K27 111100110 2)) [2,4,6,36] [] hP Wce (Qd7.Wv a1 h10) (by kernel_rfl) (Wh _) (.cons (Qp _) .nil) (st':=⟨93,(Wp.p0 a2++[(6,.own 1 2 0 a0.length),(36,.b v5)]),[.box 39 (Yg a1),Xk a0]⟩) (by kernel_rfl) ?_
  refine Qh hT 2 (K27 11110011 1) ⟨93,(Wp.p0 a2++[(6,.own 1 2 0 a0.length),(34,.b v5)]),[.box 39 (Yg a1),Xk a0]⟩ ?_
  by_cases c11:v5=true
  ·replace H:=iT c11 H
   rw [c11]
   refine Qh hT 7 (K27 111100111000 3) ⟨93,[(4,.ptr 0 0 0 0),(6,.own 1 2 0 a0.length),(37,.d (Wu true a2)),(39,.d (Yb true a1.Pairs))],[.box 39 (Yg a1),Xk a0]⟩ ?_
   obtain ⟨h12,H⟩:=iC H
   refine Zv hT [4,6,37,40] (i:=0) (n:=(a1.Pairs.length:Int)) h12.1 h12.2 (k':=(K27 111100111000 4)) (st':=⟨93,[(4,.ptr 0 0 0 0),(6,.own 1 2 0 a0.length),(37,.d (Wu true a2)),(40,.d (Qer true a1.Pairs 0 0))],[.box 39 (Yg a1),Xk a0]⟩) (by kernel_rfl) ?_
   refine Qh hT 2 (K27 111100111000 6) ⟨93,[(4,.ptr 0 0 0 0),(6,.own 1 2 0 a0.length),(37,.d (Wu true a2)),(42,.i ((a1.Pairs.getD 0 Qa.z).Key))],[.box 39 (Yg a1),Xk a0]⟩ ?_
   obtain ⟨v6,h13,H⟩:=ibC H
   refine Wx (Yh:=[.d (Wu true a2),.i ((a1.Pairs.getD 0 Qa.z).Key)]) (dst:=some 43) (k':=(K27 111100111000 7)) [4,6,43] [] hP Qou (Qgk.Wv (t0:=true) a2 ((a1.Pairs.getD 0 Qa.z).Key) h13) (by kernel_rfl) (Wh _) (.cons (Qp _) (.cons (Qp _) .nil)) (st':=⟨93,[(4,.ptr 0 0 0 0),(6,.own 1 2 0 a0.length),(43,.b v6)],[.box 39 (Yg a1),Xk a0]⟩) (by kernel_rfl) ?_
   refine Qh hT 2 (K27 11110011100 1) ⟨93,[(4,.ptr 0 0 0 0),(6,.own 1 2 0 a0.length),(44,.b (!v6))],[.box 39 (Yg a1),Xk a0]⟩ ?_
   by_cases c14:v6=true
   ·replace H:=iT c14 H
    rw [c14]
    refine Qh hT 2 (K27 1111001110 1) ⟨93,[(4,.ptr 0 0 0 0),(6,.own 1 2 0 a0.length)],[.box 39 (Yg a1),Xk a0]⟩ ?_
    refine Qh hT 4 (K27 111100111010 2) ⟨93,[(46,.own 1 2 0 a0.length),(47,.d (Qa3 a1))],[.box 39 (Yg a1),Xk a0]⟩ ?_
    obtain ⟨v7,h15,H⟩:=ibC H
    refine Wx (Yh:=[.own 1 2 0 a0.length,.d (Qa3 a1)]) (dst:=some 48) (k':=(K27 111100111010 3)) [48] [1] hP Wcf (Jm.Wv a0 a1 h15) (by kernel_rfl) (Qf9 rfl rfl) (.cons (.same (.own 0 2 0 a0.length)) (.cons (Qp _) .nil)) (st':=⟨93,[(48,.Qo [.own 2 2 0 v7.1.length,.b v7.2])],[.box 39 (Yg a1),.gone,Xk v7.1]⟩) (by kernel_rfl) ?_
    refine Qh hT 5 (K27 11110011101 1) ⟨93,[(6,.own 2 2 0 v7.1.length),(7,.b v7.2)],[.box 39 (Yg a1),.gone,Xk v7.1]⟩ ?_
    obtain rfl:=Yi H
    exact Ym hf hX h0 (.Qo [.own 2 2 0 v7.1.length,.b v7.2]) [2] (ac (Qat Qa.nl) an) (.Qo (.cons (.own _ _ _ _) (.cons (.d (.v _)) .nil)))
   replace H:=iF c14 H
   rw [Jk c14]
   refine Qh hT 7 (K27 1111001110010 1) ⟨93,[(6,.own 1 2 0 a0.length),(7,.b true)],[.box 39 (Yg a1),Xk a0]⟩ ?_
   obtain rfl:=Yi H
   exact Ym hf hX h0 (.Qo [.own 1 2 0 a0.length,.b true]) [1] (ac (Qat Qa.nl) an) (.Qo (.cons (.own _ _ _ _) (.cons (.d (.v _)) .nil)))
  replace H:=iF c11 H
  rw [Jk c11]
  refine Qh hT 3 (K27 1111 1) ⟨93,(Wp.p0 a2++[(6,.own 1 2 0 a0.length)]),[.box 39 (Yg a1),Xk a0]⟩ ?_
  refine Qh hT 10 (K27 11111010 0) ⟨93,(Wp.p0 a2++[(6,.own 1 2 0 a0.length),(52,.d (Yb true a1.Pairs)),(53,.i (a1.Pairs.length:Int)),(54,.i 0)]),[.box 39 (Yg a1),Xk a0]⟩ ?_
  have L:∀ n,(∀ (Ja:Int) (Wm:List Qa),iter (Wp.step a1 a2) n (.l1 Ja Wm)=some r->AK X 27 ((K27 11111010 0)) (Yq X [Xk r.1] (.Qo [.own 0 2 0 r.1.length,.b r.2])) ⟨93,(Wp.p0 a2++[(6,.own 1 2 0 Wm.length),(52,.d (Yb true a1.Pairs)),(53,.i (a1.Pairs.length:Int)),(54,.i Ja)]),[.box 39 (Yg a1),Xk Wm]⟩):=by
   intro n
   induction n with
   | zero=>exact fun _ _ H=>Qay H
   | succ n ih=>
    ·intro Ja Wm H
     refine Qh hT 5 (K27 1111101001 0) ⟨93,(Wp.p0 a2++[(6,.own 1 2 0 Wm.length),(52,.d (Yb true a1.Pairs)),(53,.i (a1.Pairs.length:Int)),(54,.i Ja),(55,.b (decide (Ja < (a1.Pairs.length:Int))))]),[.box 39 (Yg a1),Xk Wm]⟩ ?_
     by_cases c16:Ja < (a1.Pairs.length:Int)
     ·replace H:=sT c16 H
      rw [decide_eq_true c16]
      refine Qh hT 2 (K27 1111101001 1) ⟨93,(Wp.p0 a2++[(6,.own 1 2 0 Wm.length),(52,.d (Yb true a1.Pairs)),(53,.i (a1.Pairs.length:Int)),(54,.i Ja)]),[.box 39 (Yg a1),Xk Wm]⟩ ?_
      refine Qh hT 5 (K27 11111010011000 1) ⟨93,(Wp.p0 a2++[(6,.own 1 2 0 Wm.length),(52,.d (Yb true a1.Pairs)),(53,.i (a1.Pairs.length:Int)),(54,.i Ja),(56,.i Ja)]),[.box 39 (Yg a1),Xk Wm]⟩ ?_
      obtain ⟨h17,H⟩:=sC H
      refine Zv hT [2,4,6,52,53,54,56,57] (i:=Ja) (n:=(a1.Pairs.length:Int)) h17.1 h17.2 (k':=(K27 11111010011000 2)) (st':=⟨93,(Wp.p0 a2++[(6,.own 1 2 0 Wm.length),(52,.d (Yb true a1.Pairs)),(53,.i (a1.Pairs.length:Int)),(54,.i Ja),(56,.i Ja),(57,.d (Qer true a1.Pairs Ja.toNat 0))]),[.box 39 (Yg a1),Xk Wm]⟩) (by kernel_rfl) ?_
      refine Qh hT 11 (K27 1111101001100100 3) ⟨93,(Wp.p0 a2++[(6,.own 1 2 0 Wm.length),(8,.i Ja),(9,.ptr 2 0 0 0),(52,.d (Yb true a1.Pairs)),(53,.i (a1.Pairs.length:Int)),(54,.i Ja),(66,.d (Wu true a2)),(68,.i ((Wp.q1 a1 Ja).Key))]),[.box 39 (Yg a1),Xk Wm,.box 81 (Qcd (Wp.q1 a1 Ja))]⟩ ?_
      obtain ⟨v8,h18,H⟩:=sbC H
      have Jj2:∀ (Qk2:List Qa),stk (Wp.j2 Ja Qk2) (iter (Wp.step a1 a2) n)=some r->AK X 27 ((K27 11111010011 1)) (Yq X [Xk r.1] (.Qo [.own 0 2 0 r.1.length,.b r.2])) ⟨93,(Wp.p0 a2++[(6,.own 1 2 0 Qk2.length),(52,.d (Yb true a1.Pairs)),(53,.i (a1.Pairs.length:Int)),(54,.i Ja)]),[.box 39 (Yg a1),Xk Qk2]⟩:=by
       intro Qk2 H
       refine Qh hT 5 (K27 11111010 0) ⟨93,(Wp.p0 a2++[(6,.own 1 2 0 Qk2.length),(52,.d (Yb true a1.Pairs)),(53,.i (a1.Pairs.length:Int)),(54,.i (IntKind.wrap .i64 (Ja+1)))]),[.box 39 (Yg a1),Xk Qk2]⟩ ?_
       exact ih (IntKind.wrap .i64 (Ja+1)) Qk2 H
      refine Wx (Yh:=[.d (Wu true a2),.i ((Wp.q1 a1 Ja).Key)]) (dst:=some 69) (k':=(K27 1111101001100100 4)) [2,4,6,8,9,52,53,54,69] [] hP Qou (Qgk.Wv (t0:=true) a2 ((Wp.q1 a1 Ja).Key) h18) (by kernel_rfl) (Wh _) (.cons (Qp _) (.cons (Qp _) .nil)) (st':=⟨93,(Wp.p0 a2++[(6,.own 1 2 0 Wm.length),(8,.i Ja),(9,.ptr 2 0 0 0),(52,.d (Yb true a1.Pairs)),(53,.i (a1.Pairs.length:Int)),(54,.i Ja),(69,.b v8)]),[.box 39 (Yg a1),Xk Wm,.box 81 (Qcd (Wp.q1 a1 Ja))]⟩) (by kernel_rfl) ?_
      refine Qh hT 3 (K27 111110100110010 1) ⟨93,(Wp.p0 a2++[(6,.own 1 2 0 Wm.length),(8,.i Ja),(9,.ptr 2 0 0 0),(52,.d (Yb true a1.Pairs)),(53,.i (a1.Pairs.length:Int)),(54,.i Ja),(65,.b (!v8))]),[.box 39 (Yg a1),Xk Wm,.box 81 (Qcd (Wp.q1 a1 Ja))]⟩ ?_
      by_cases c19:v8=true
      ·replace H:=sT c19 H
       rw [c19]
       refine Qh hT 8 (K27 11111010011001011 1) ⟨93,(Wp.p0 a2++[(6,.own 1 2 0 Wm.length),(8,.i Ja),(9,.ptr 2 0 0 0),(52,.d (Yb true a1.Pairs)),(53,.i (a1.Pairs.length:Int)),(54,.i Ja),(71,.b (a1.Kind == 1))]),[.box 39 (Yg a1),Xk Wm,.box 81 (Qcd (Wp.q1 a1 Ja))]⟩ ?_
       by_cases c20:a1.Kind=1
       ·replace H:=sT c20 H
        rw [eqT c20]
        refine Qh hT 7 (K27 1111101001100101110 5) ⟨93,(Wp.p0 a2++[(52,.d (Yb true a1.Pairs)),(53,.i (a1.Pairs.length:Int)),(54,.i Ja),(75,.own 1 2 0 Wm.length),(77,.i ((Wp.q1 a1 Ja).Key)),(79,.i ((Wp.q1 a1 Ja).Val))]),[.box 39 (Yg a1),Xk Wm,.box 81 (Qcd (Wp.q1 a1 Ja))]⟩ ?_
        obtain ⟨v9,h21,H⟩:=sbC H
        refine Wx (Yh:=[.own 1 2 0 Wm.length,.i ((Wp.q1 a1 Ja).Key),.i ((Wp.q1 a1 Ja).Val)]) (dst:=some 80) (k':=(K27 1111101001100101110 6)) [2,4,52,53,54,80] [1] hP Ql2 (Qek.Wv Wm ((Wp.q1 a1 Ja).Key) ((Wp.q1 a1 Ja).Val) h21) (by kernel_rfl) (Qf9 rfl rfl) (.cons (.same (.own 0 2 0 Wm.length)) (.cons (Qp _) (.cons (Qp _) .nil))) (st':=⟨93,(Wp.p0 a2++[(52,.d (Yb true a1.Pairs)),(53,.i (a1.Pairs.length:Int)),(54,.i Ja),(80,.own 3 2 0 v9.length)]),[.box 39 (Yg a1),.gone,.box 81 (Qcd (Wp.q1 a1 Ja)),Xk v9]⟩) (by kernel_rfl) ?_
        refine Xq hT 4 (K27 11111010011 1) [0,3] ⟨93,(Wp.p0 a2++[(6,.own 1 2 0 v9.length),(52,.d (Yb true a1.Pairs)),(53,.i (a1.Pairs.length:Int)),(54,.i Ja)]),[.box 39 (Yg a1),Xk v9]⟩ h0 ?_
        exact Jj2 v9 H
       replace H:=sF c20 H
       rw [eqF c20]
       refine Qh hT 7 (K27 1111101001100101111 1) ⟨93,(Wp.p0 a2++[(6,.own 1 2 0 Wm.length),(9,.ptr 2 0 0 0),(52,.d (Yb true a1.Pairs)),(53,.i (a1.Pairs.length:Int)),(54,.i Ja),(81,.b (Ja == 0))]),[.box 39 (Yg a1),Xk Wm,.box 81 (Qcd (Wp.q1 a1 Ja))]⟩ ?_
       by_cases c22:Ja=0
       ·replace H:=sT c22 H
        rw [eqT c22]
        refine Qh hT 8 (K27 111110100110010111110 6) ⟨93,(Wp.p0 a2++[(52,.d (Yb true a1.Pairs)),(53,.i (a1.Pairs.length:Int)),(54,.i Ja),(84,.own 1 2 0 Wm.length),(86,.i ((Wp.q1 a1 Ja).Key)),(89,.i (IntKind.wrap .i64 (0 - ((Wp.q1 a1 Ja).Val))))]),[.box 39 (Yg a1),Xk Wm,.box 81 (Qcd (Wp.q1 a1 Ja))]⟩ ?_
        obtain ⟨v10,h23,H⟩:=sbC H
        refine Wx (Yh:=[.own 1 2 0 Wm.length,.i ((Wp.q1 a1 Ja).Key),.i (IntKind.wrap .i64 (0 - ((Wp.q1 a1 Ja).Val)))]) (dst:=some 90) (k':=(K27 111110100110010111110 7)) [2,4,52,53,54,90] [1] hP Que (Qf7.Wv Wm ((Wp.q1 a1 Ja).Key) (IntKind.wrap .i64 (0 - ((Wp.q1 a1 Ja).Val))) h23) (by kernel_rfl) (Qf9 rfl rfl) (.cons (.same (.own 0 2 0 Wm.length)) (.cons (Qp _) (.cons (Qp _) .nil))) (st':=⟨93,(Wp.p0 a2++[(52,.d (Yb true a1.Pairs)),(53,.i (a1.Pairs.length:Int)),(54,.i Ja),(90,.own 3 2 0 v10.length)]),[.box 39 (Yg a1),.gone,.box 81 (Qcd (Wp.q1 a1 Ja)),Xk v10]⟩) (by kernel_rfl) ?_
        refine Xq hT 4 (K27 11111010011 1) [0,3] ⟨93,(Wp.p0 a2++[(6,.own 1 2 0 v10.length),(52,.d (Yb true a1.Pairs)),(53,.i (a1.Pairs.length:Int)),(54,.i Ja)]),[.box 39 (Yg a1),Xk v10]⟩ h0 ?_
        exact Jj2 v10 H
       replace H:=sF c22 H
       rw [eqF c22]
       refine Qh hT 7 (K27 111110100110010111111 5) ⟨93,(Wp.p0 a2++[(52,.d (Yb true a1.Pairs)),(53,.i (a1.Pairs.length:Int)),(54,.i Ja),(59,.own 1 2 0 Wm.length),(61,.i ((Wp.q1 a1 Ja).Key)),(63,.i ((Wp.q1 a1 Ja).Val))]),[.box 39 (Yg a1),Xk Wm,.box 81 (Qcd (Wp.q1 a1 Ja))]⟩ ?_
       obtain ⟨v11,h24,H⟩:=sbC H
       refine Wx (Yh:=[.own 1 2 0 Wm.length,.i ((Wp.q1 a1 Ja).Key),.i ((Wp.q1 a1 Ja).Val)]) (dst:=some 64) (k':=(K27 111110100110010111111 6)) [2,4,52,53,54,64] [1] hP Que (Qf7.Wv Wm ((Wp.q1 a1 Ja).Key) ((Wp.q1 a1 Ja).Val) h24) (by kernel_rfl) (Qf9 rfl rfl) (.cons (.same (.own 0 2 0 Wm.length)) (.cons (Qp _) (.cons (Qp _) .nil))) (st':=⟨93,(Wp.p0 a2++[(52,.d (Yb true a1.Pairs)),(53,.i (a1.Pairs.length:Int)),(54,.i Ja),(64,.own 3 2 0 v11.length)]),[.box 39 (Yg a1),.gone,.box 81 (Qcd (Wp.q1 a1 Ja)),Xk v11]⟩) (by kernel_rfl) ?_
       refine Xq hT 4 (K27 11111010011 1) [0,3] ⟨93,(Wp.p0 a2++[(6,.own 1 2 0 v11.length),(52,.d (Yb true a1.Pairs)),(53,.i (a1.Pairs.length:Int)),(54,.i Ja)]),[.box 39 (Yg a1),Xk v11]⟩ h0 ?_
       exact Jj2 v11 H
      replace H:=sF c19 H
      rw [Jk c19]
      refine Xq hT 4 (K27 11111010011 1) [0,1] ⟨93,(Wp.p0 a2++[(6,.own 1 2 0 Wm.length),(52,.d (Yb true a1.Pairs)),(53,.i (a1.Pairs.length:Int)),(54,.i Ja)]),[.box 39 (Yg a1),Xk Wm]⟩ h0 ?_
      exact Jj2 Wm H
     replace H:=sF c16 H
     rw [decide_eq_false c16]
     refine Qh hT 8 (K27 111111 1) ⟨93,[(6,.own 1 2 0 Wm.length),(7,.b true)],[.box 39 (Yg a1),Xk Wm]⟩ ?_
     obtain rfl:=Yi H
     exact Ym hf hX h0 (.Qo [.own 1 2 0 Wm.length,.b true]) [1] (ac (Qat Qa.nl) an) (.Qo (.cons (.own _ _ _ _) (.cons (.d (.v _)) .nil)))
  obtain ⟨n,H⟩:=Qbu H
  exact (L n) 0 a0 H
 refine Wx (Yh:=[.d (Yb t0 a0)]) (dst:=some 11) (k':=(K27 1100 2)) [0,2,4,11] [] hP Qot (Xl.Wv (t0:=t0) a0 h1) (by kernel_rfl) (Wh _) (.cons (Qp _) .nil) (st':=⟨93,[(0,.d (Yb t0 a0)),(2,.d (Wu true a2)),(4,.ptr 0 0 0 0),(11,.b v1)],[.box 39 (Yg a1)]⟩) (by kernel_rfl) ?_
 refine Qh hT 2 (K27 1100 4) ⟨93,[(0,.d (Yb t0 a0)),(2,.d (Wu true a2)),(4,.ptr 0 0 0 0),(13,.b (!v1))],[.box 39 (Yg a1)]⟩ ?_
 by_cases c2:v1=true
 ·replace H:=iT c2 H
  rw [c2]
  refine Qh hT 1 (K27 1100 5) ⟨93,[(0,.d (Yb t0 a0)),(2,.d (Wu true a2)),(4,.ptr 0 0 0 0),(13,.b false),(14,.d (Qa3 a1))],[.box 39 (Yg a1)]⟩ ?_
  obtain ⟨v2,h3,H⟩:=ibC H
  refine Wx (Yh:=[.d (Qa3 a1)]) (dst:=some 15) (k':=(K27 1100 6)) [0,2,4,13,15] [] hP Qgy (Qbo.Wv a1 h3) (by kernel_rfl) (Wh _) (.cons (Qp _) .nil) (st':=⟨93,[(0,.d (Yb t0 a0)),(2,.d (Wu true a2)),(4,.ptr 0 0 0 0),(13,.b false),(15,.b v2)],[.box 39 (Yg a1)]⟩) (by kernel_rfl) ?_
  refine Qh hT 3 (K27 1100 9) ⟨93,[(0,.d (Yb t0 a0)),(2,.d (Wu true a2)),(4,.ptr 0 0 0 0),(18,.b (!v2))],[.box 39 (Yg a1)]⟩ ?_
  by_cases c4:v2=true
  ·replace H:=iT c4 H
   rw [c4]
   refine Qh hT 1 (K27 1100 10) ⟨93,[(0,.d (Yb t0 a0)),(2,.d (Wu true a2)),(4,.ptr 0 0 0 0),(18,.b false),(19,.d (Wu true a2))],[.box 39 (Yg a1)]⟩ ?_
   obtain ⟨v3,h5,H⟩:=ibC H
   refine Wx (Yh:=[.d (Wu true a2)]) (dst:=some 20) (k':=(K27 1100 11)) [0,2,4,18,20] [] hP Qhu (Zb.Wv (t0:=true) a2 h5) (by kernel_rfl) (Wh _) (.cons (Qp _) .nil) (st':=⟨93,[(0,.d (Yb t0 a0)),(2,.d (Wu true a2)),(4,.ptr 0 0 0 0),(18,.b false),(20,.b v3)],[.box 39 (Yg a1)]⟩) (by kernel_rfl) ?_
   refine Qh hT 3 (K27 110 1) ⟨93,[(0,.d (Yb t0 a0)),(2,.d (Wu true a2)),(4,.ptr 0 0 0 0),(22,.b (!v3))],[.box 39 (Yg a1)]⟩ ?_
   exact Yv (!v3) H
  replace H:=iF c4 H
  rw [Jk c4]
  refine Qh hT 5 (K27 110 1) ⟨93,[(0,.d (Yb t0 a0)),(2,.d (Wu true a2)),(4,.ptr 0 0 0 0),(22,.b true)],[.box 39 (Yg a1)]⟩ ?_
  exact Yv true H
 replace H:=iF c2 H
 rw [Jk c2]
 refine Qh hT 10 (K27 110 1) ⟨93,[(0,.d (Yb t0 a0)),(2,.d (Wu true a2)),(4,.ptr 0 0 0 0),(22,.b true)],[.box 39 (Yg a1)]⟩ ?_
 exact Yv true H
abbrev Yy.p0 (a1:List Qb) (a2:Int):List (Nat × AV):=[(1,.d (Wu true a1)),(2,.i a2)]
theorem Yy.Wv {t0:Bool} (a0:List Qe) (a1:List Qb) (a2:Int) {r:List Qa} (H:Yy a0 a1 a2=some r):Zd Tryz.prog 30 [] [.d (Xj t0 a0),.d (Wu true a1),.i a2] [Xk r] (.own 0 2 0 r.length):=by
 refine Ye Tryz.func30 rfl (nt:=41) rfl (lb rfl) fun X hP h0 hX=>?_
 have hT:Xo X.P T:=hP▸tok
 have hf:X.P.funcs[30]? = some Tryz.f30:=hP▸Tryz.func30
 refine Qh hT 8 (K30 1100 1) ⟨41,[(0,.d (Xj t0 a0)),(1,.d (Wu true a1)),(2,.i a2),(10,.d (Wu true a1))],[]⟩ ?_
 obtain ⟨v1,h1,H⟩:=ibC H
 have Yv:∀ (Qp8:Bool),(Yy.j1 a0 a1 a2 Qp8)=some r->AK X 30 ((K30 110 1)) (Yq X [Xk r] (.own 0 2 0 r.length)) ⟨41,[(0,.d (Xj t0 a0)),(1,.d (Wu true a1)),(2,.i a2),(16,.b Qp8)],[]⟩:=by
  intro Qp8 H
  by_cases c4:Qp8=true
  ·replace H:=iT c4 H
   rw [c4]
   refine Qh hT 5 (K30 11010 1) ⟨41,[(6,.ns)],[]⟩ ?_
   refine Qb8 [6] 6 2 81 (vec Qa.e Qa.z []) (st':=⟨41,[(6,.own 0 2 0 0)],[Xk ([]:List Qa)]⟩) (by kernel_rfl) (by kernel_rfl) ?_
   obtain rfl:=Yi H
   exact Ym hf hX h0 (.own 0 2 0 0) [0] (ac (Qat Qa.nl) an) (.own _ _ _ _)
  replace H:=iF c4 H
  rw [Jk c4]
  refine Qh hT 2 (K30 11 1) ⟨41,[(0,.d (Xj t0 a0)),(1,.d (Wu true a1)),(2,.i a2)],[]⟩ ?_
  refine Qh hT 13 (K30 1111010 0) ⟨41,(Yy.p0 a1 a2++[(7,.ns),(17,.d (Xj t0 a0)),(18,.i (a0.length:Int)),(19,.i 0)]),[]⟩ ?_
  refine Qb8 [1,2,7,17,18,19] 7 2 81 (vec Qa.e Qa.z []) (st':=⟨41,(Yy.p0 a1 a2++[(7,.own 0 2 0 0),(17,.d (Xj t0 a0)),(18,.i (a0.length:Int)),(19,.i 0)]),[Xk ([]:List Qa)]⟩) (by kernel_rfl) (by kernel_rfl) ?_
  have L:∀ n,(∀ (Qbi:Int) (Qi:List Qa),iter (Yy.step a0 a1 a2) n (.l1 Qbi Qi)=some r->AK X 30 ((K30 1111010 0)) (Yq X [Xk r] (.own 0 2 0 r.length)) ⟨41,(Yy.p0 a1 a2++[(7,.own 0 2 0 Qi.length),(17,.d (Xj t0 a0)),(18,.i (a0.length:Int)),(19,.i Qbi)]),[Xk Qi]⟩):=by
   intro n
   induction n with
   | zero=>exact fun _ _ H=>Qay H
   | succ n ih=>
    ·intro Qbi Qi H
     refine Qh hT 5 (K30 111101001 0) ⟨41,(Yy.p0 a1 a2++[(7,.own 0 2 0 Qi.length),(17,.d (Xj t0 a0)),(18,.i (a0.length:Int)),(19,.i Qbi),(20,.b (decide (Qbi < (a0.length:Int))))]),[Xk Qi]⟩ ?_
     by_cases c5:Qbi < (a0.length:Int)
     ·replace H:=sT c5 H
      rw [decide_eq_true c5]
      refine Qh hT 2 (K30 111101001 1) ⟨41,(Yy.p0 a1 a2++[(7,.own 0 2 0 Qi.length),(17,.d (Xj t0 a0)),(18,.i (a0.length:Int)),(19,.i Qbi)]),[Xk Qi]⟩ ?_
      refine Qh hT 4 (K30 1111010011000 0) ⟨41,(Yy.p0 a1 a2++[(7,.own 0 2 0 Qi.length),(17,.d (Xj t0 a0)),(18,.i (a0.length:Int)),(19,.i Qbi)]),[Xk Qi]⟩ ?_
      obtain ⟨h6,H⟩:=sC H
      have Jj2:∀ (Qqo:Bool),stk (Yy.j2 a0 a1 Qbi Qi Qqo) (iter (Yy.step a0 a1 a2) n)=some r->AK X 30 ((K30 1111010011001 1)) (Yq X [Xk r] (.own 0 2 0 r.length)) ⟨41,(Yy.p0 a1 a2++[(7,.own 0 2 0 Qi.length),(9,.ptr 1 0 0 0),(17,.d (Xj t0 a0)),(18,.i (a0.length:Int)),(19,.i Qbi),(30,.b Qqo)]),[Xk Qi,.box 41 (Qb2 (a0.getD Qbi.toNat Qe.z))]⟩:=by
       intro Qqo H
       have Jj3:∀ (Qk3:List Qa),stk (Yy.j3 Qbi Qk3) (iter (Yy.step a0 a1 a2) n)=some r->AK X 30 ((K30 1111010011 1)) (Yq X [Xk r] (.own 0 2 0 r.length)) ⟨41,(Yy.p0 a1 a2++[(7,.own 0 2 0 Qk3.length),(17,.d (Xj t0 a0)),(18,.i (a0.length:Int)),(19,.i Qbi)]),[Xk Qk3]⟩:=by
        intro Qk3 H
        refine Qh hT 5 (K30 1111010 0) ⟨41,(Yy.p0 a1 a2++[(7,.own 0 2 0 Qk3.length),(17,.d (Xj t0 a0)),(18,.i (a0.length:Int)),(19,.i (IntKind.wrap .i64 (Qbi+1)))]),[Xk Qk3]⟩ ?_
        exact ih (IntKind.wrap .i64 (Qbi+1)) Qk3 H
       by_cases c8:Qqo=true
       ·replace H:=sT c8 H
        rw [c8]
        refine Qh hT 6 (K30 111101001100110 4) ⟨41,(Yy.p0 a1 a2++[(17,.d (Xj t0 a0)),(18,.i (a0.length:Int)),(19,.i Qbi),(32,.own 0 2 0 Qi.length),(34,.d (Qa3 ((a0.getD Qbi.toNat Qe.z).M))),(35,.d (Wu true a1))]),[Xk Qi,.box 41 (Qb2 (a0.getD Qbi.toNat Qe.z))]⟩ ?_
        obtain ⟨v3,h9,H⟩:=sbC H
        refine Wx (Yh:=[.own 0 2 0 Qi.length,.d (Qa3 ((a0.getD Qbi.toNat Qe.z).M)),.d (Wu true a1)]) (dst:=some 36) (k':=(K30 111101001100110 5)) [1,2,17,18,19,36] [] hP Qor (Wp.Wv (t0:=false) Qi ((a0.getD Qbi.toNat Qe.z).M) a1 h9) (by kernel_rfl) (Wh _) (.cons (.Qds (ty:=81) (by kernel_rfl) rfl) (.cons (Qp _) (.cons (Qp _) .nil))) (st':=⟨41,(Yy.p0 a1 a2++[(17,.d (Xj t0 a0)),(18,.i (a0.length:Int)),(19,.i Qbi),(36,.Qo [.own 2 2 0 v3.1.length,.b v3.2])]),[Xk Qi,.box 41 (Qb2 (a0.getD Qbi.toNat Qe.z)),Xk v3.1]⟩) (by kernel_rfl) ?_
        refine Xq hT 6 (K30 1111010011 1) [2] ⟨41,(Yy.p0 a1 a2++[(7,.own 0 2 0 v3.1.length),(17,.d (Xj t0 a0)),(18,.i (a0.length:Int)),(19,.i Qbi)]),[Xk v3.1]⟩ h0 ?_
        exact Jj3 v3.1 H
       replace H:=sF c8 H
       rw [Jk c8]
       refine Xq hT 3 (K30 1111010011 1) [0] ⟨41,(Yy.p0 a1 a2++[(7,.own 0 2 0 Qi.length),(17,.d (Xj t0 a0)),(18,.i (a0.length:Int)),(19,.i Qbi)]),[Xk Qi]⟩ h0 ?_
       exact Jj3 Qi H
      refine Zv hT [1,2,7,17,18,19,21] (i:=Qbi) (n:=(a0.length:Int)) h6.1 h6.2 (k':=(K30 1111010011000 1)) (st':=⟨41,(Yy.p0 a1 a2++[(7,.own 0 2 0 Qi.length),(17,.d (Xj t0 a0)),(18,.i (a0.length:Int)),(19,.i Qbi),(21,.d (Qjp t0 a0 Qbi.toNat 0))]),[Xk Qi]⟩) (by kernel_rfl) ?_
      refine Qh hT 9 (K30 11110100110010 3) ⟨41,(Yy.p0 a1 a2++[(7,.own 0 2 0 Qi.length),(9,.ptr 1 0 0 0),(17,.d (Xj t0 a0)),(18,.i (a0.length:Int)),(19,.i Qbi),(25,.b ((a0.getD Qbi.toNat Qe.z).Qai))]),[Xk Qi,.box 41 (Qb2 (a0.getD Qbi.toNat Qe.z))]⟩ ?_
      by_cases c7:((a0.getD Qbi.toNat Qe.z).Qai)=true
      ·replace H:=sT c7 H
       rw [c7]
       refine Qh hT 6 (K30 1111010011001 1) ⟨41,(Yy.p0 a1 a2++[(7,.own 0 2 0 Qi.length),(9,.ptr 1 0 0 0),(17,.d (Xj t0 a0)),(18,.i (a0.length:Int)),(19,.i Qbi),(30,.b (decide (((a0.getD Qbi.toNat Qe.z).Time)<=a2)))]),[Xk Qi,.box 41 (Qb2 (a0.getD Qbi.toNat Qe.z))]⟩ ?_
       exact Jj2 (decide (((a0.getD Qbi.toNat Qe.z).Time)<=a2)) H
      replace H:=sF c7 H
      rw [Jk c7]
      refine Qh hT 6 (K30 1111010011001 1) ⟨41,(Yy.p0 a1 a2++[(7,.own 0 2 0 Qi.length),(9,.ptr 1 0 0 0),(17,.d (Xj t0 a0)),(18,.i (a0.length:Int)),(19,.i Qbi),(30,.b false)]),[Xk Qi,.box 41 (Qb2 (a0.getD Qbi.toNat Qe.z))]⟩ ?_
      exact Jj2 false H
     replace H:=sF c5 H
     rw [decide_eq_false c5]
     refine Qh hT 7 (K30 11111 1) ⟨41,[(6,.own 0 2 0 Qi.length)],[Xk Qi]⟩ ?_
     obtain rfl:=Yi H
     exact Ym hf hX h0 (.own 0 2 0 Qi.length) [0] (ac (Qat Qa.nl) an) (.own _ _ _ _)
  refine Qgo [0] ⟨41,(Yy.p0 a1 a2++[(7,.own 0 2 0 ([]:List Qa).length),(17,.d (Xj t0 a0)),(18,.i (a0.length:Int)),(19,.i 0)]),[Xk ([]:List Qa)]⟩ h0 ?_
  obtain ⟨n,H⟩:=Qbu H
  exact (L n) 0 ([]:List Qa) H
 refine Wx (Yh:=[.d (Wu true a1)]) (dst:=some 11) (k':=(K30 1100 2)) [0,1,2,11] [] hP Qhu (Zb.Wv (t0:=true) a1 h1) (by kernel_rfl) (Wh _) (.cons (Qp _) .nil) (st':=⟨41,[(0,.d (Xj t0 a0)),(1,.d (Wu true a1)),(2,.i a2),(11,.b v1)],[]⟩) (by kernel_rfl) ?_
 refine Qh hT 2 (K30 1100 4) ⟨41,[(0,.d (Xj t0 a0)),(1,.d (Wu true a1)),(2,.i a2),(13,.b (!v1))],[]⟩ ?_
 by_cases c2:v1=true
 ·replace H:=iT c2 H
  rw [c2]
  refine Qh hT 1 (K30 1100 5) ⟨41,[(0,.d (Xj t0 a0)),(1,.d (Wu true a1)),(2,.i a2),(13,.b false),(14,.d (Xj t0 a0))],[]⟩ ?_
  obtain ⟨v2,h3,H⟩:=ibC H
  refine Wx (Yh:=[.d (Xj t0 a0),.d (.fn 61 [])]) (dst:=some 15) (k':=(K30 1100 6)) [0,1,2,13,15] [] hP Quf (Qa5.Wv (t0:=t0) (Jl:=61) (Jo:=[]) a0 (fun z0=>Qgg z0) Wcg (fun z0 r h=>Qgg.Wv z0 h) h3) (by kernel_rfl) (Wh _) (.cons (Qp _) (.cons (Qp _) .nil)) (st':=⟨41,[(0,.d (Xj t0 a0)),(1,.d (Wu true a1)),(2,.i a2),(13,.b false),(15,.b v2)],[]⟩) (by kernel_rfl) ?_
  refine Qh hT 2 (K30 110 1) ⟨41,[(0,.d (Xj t0 a0)),(1,.d (Wu true a1)),(2,.i a2),(16,.b v2)],[]⟩ ?_
  exact Yv v2 H
 replace H:=iF c2 H
 rw [Jk c2]
 refine Qh hT 4 (K30 110 1) ⟨41,[(0,.d (Xj t0 a0)),(1,.d (Wu true a1)),(2,.i a2),(16,.b true)],[]⟩ ?_
 exact Yv true H
theorem Zt.Wv {t0:Bool} {Jl:FuncId} {Jo:List DV} (a0:List Qn) (p1:Qn->Option Bool) (he1:Sy.Enters Tryz.prog Jl) (hp1:∀ (z0:Qn) r,p1 z0=some r->Zd Tryz.prog Jl [] ([.d (Qa3 z0)] ++ List.map AV.d Jo) [] (.b r)) {r:Int} (H:Zt a0 p1=some r):Zd Tryz.prog 123 [] [.d (Qcg t0 a0),.d (.fn Jl Jo)] [] (.i r):=by
 refine Ye Tryz.func123 rfl (nt:=19) rfl (lb rfl) fun X hP h0 hX=>?_
 have hT:Xo X.P T:=hP▸tok
 have hf:X.P.funcs[123]? = some Tryz.f123:=hP▸Tryz.func123
 refine Qh hT 13 (Qjk 11010 0) ⟨19,[(0,.d (Qcg t0 a0)),(1,.d (.fn Jl Jo)),(7,.i (a0.length:Int)),(8,.i 0)],[]⟩ ?_
 have L:∀ n,(∀ (Qy:Int),iter (Zt.step a0 p1) n (.l1 Qy)=some r->AK X 123 ((Qjk 11010 0)) (Yq X [] (.i r)) ⟨19,[(0,.d (Qcg t0 a0)),(1,.d (.fn Jl Jo)),(7,.i (a0.length:Int)),(8,.i Qy)],[]⟩):=by
  intro n
  induction n with
  | zero=>exact fun _ H=>Qay H
  | succ n ih=>
   ·intro Qy H
    refine Qh hT 5 (Qjk 1101001 0) ⟨19,[(0,.d (Qcg t0 a0)),(1,.d (.fn Jl Jo)),(7,.i (a0.length:Int)),(8,.i Qy),(9,.b (decide (Qy < (a0.length:Int))))],[]⟩ ?_
    by_cases c1:Qy < (a0.length:Int)
    ·replace H:=sT c1 H
     rw [decide_eq_true c1]
     refine Qh hT 2 (Qjk 1101001 1) ⟨19,[(0,.d (Qcg t0 a0)),(1,.d (.fn Jl Jo)),(7,.i (a0.length:Int)),(8,.i Qy)],[]⟩ ?_
     refine Qh hT 12 (Qjk 110100110010 3) ⟨19,[(0,.d (Qcg t0 a0)),(1,.d (.fn Jl Jo)),(5,.i Qy),(7,.i (a0.length:Int)),(8,.i Qy),(11,.d (.fn Jl Jo)),(12,.d (Qcg t0 a0)),(13,.i Qy)],[]⟩ ?_
     obtain ⟨h2,H⟩:=sC H
     refine Zv hT [0,1,5,7,8,11,14] (i:=Qy) (n:=(a0.length:Int)) h2.1 h2.2 (k':=(Qjk 110100110010 4)) (st':=⟨19,[(0,.d (Qcg t0 a0)),(1,.d (.fn Jl Jo)),(5,.i Qy),(7,.i (a0.length:Int)),(8,.i Qy),(11,.d (.fn Jl Jo)),(14,.d (Wfd t0 a0 Qy.toNat 0))],[]⟩) (by kernel_rfl) ?_
     refine Qh hT 1 (Qjk 110100110010 5) ⟨19,[(0,.d (Qcg t0 a0)),(1,.d (.fn Jl Jo)),(5,.i Qy),(7,.i (a0.length:Int)),(8,.i Qy),(11,.d (.fn Jl Jo)),(15,.d (Qa3 (a0.getD Qy.toNat Qn.z)))],[]⟩ ?_
     obtain ⟨v1,h3,H⟩:=sbC H
     refine Wx (Yh:=[.d (Qa3 (a0.getD Qy.toNat Qn.z))] ++ List.map AV.d Jo) (dst:=some 16) (k':=(Qjk 110100110010 6)) [0,1,5,7,8,16] [] hP he1 (hp1 (a0.getD Qy.toNat Qn.z) v1 h3) (by kernel_rfl) (Wh _) (.cons (Qp _) (Qh1 _)) (st':=⟨19,[(0,.d (Qcg t0 a0)),(1,.d (.fn Jl Jo)),(5,.i Qy),(7,.i (a0.length:Int)),(8,.i Qy),(16,.b v1)],[]⟩) (by kernel_rfl) ?_
     refine Qh hT 1 (Qjk 11010011001 1) ⟨19,[(0,.d (Qcg t0 a0)),(1,.d (.fn Jl Jo)),(5,.i Qy),(7,.i (a0.length:Int)),(8,.i Qy),(16,.b v1)],[]⟩ ?_
     by_cases c4:v1=true
     ·replace H:=sT c4 H
      rw [c4]
      refine Qh hT 6 (Qjk 1101001100110 1) ⟨19,[(4,.i Qy)],[]⟩ ?_
      obtain rfl:=Yi H
      exact Ym hf hX h0 (.i Qy) [] an (.d (.v _))
     replace H:=sF c4 H
     rw [Jk c4]
     refine Qh hT 3 (Qjk 11010011 1) ⟨19,[(0,.d (Qcg t0 a0)),(1,.d (.fn Jl Jo)),(7,.i (a0.length:Int)),(8,.i Qy)],[]⟩ ?_
     refine Qh hT 5 (Qjk 11010 0) ⟨19,[(0,.d (Qcg t0 a0)),(1,.d (.fn Jl Jo)),(7,.i (a0.length:Int)),(8,.i (IntKind.wrap .i64 (Qy+1)))],[]⟩ ?_
     exact ih (IntKind.wrap .i64 (Qy+1)) H
    replace H:=sF c1 H
    rw [decide_eq_false c1]
    refine Qh hT 6 (Qjk 111 1) ⟨19,[(4,.i (-1))],[]⟩ ?_
    obtain rfl:=Yi H
    exact Ym hf hX h0 (.i (-1)) [] an (.d (.v _))
 obtain ⟨n,H⟩:=Qbu H
 exact (L n) 0 H
theorem Qck.Wv {t0:Bool} {Jl:FuncId} {Jo:List DV} (a0:List Qn) (p1:Qn->Option Bool) (he1:Sy.Enters Tryz.prog Jl) (hp1:∀ (z0:Qn) r,p1 z0=some r->Zd Tryz.prog Jl [] ([.d (Qa3 z0)] ++ List.map AV.d Jo) [] (.b r)) {r:Bool} (H:Qck a0 p1=some r):Zd Tryz.prog 116 [] [.d (Qcg t0 a0),.d (.fn Jl Jo)] [] (.b r):=by
 refine Ye Tryz.func116 rfl (nt:=9) rfl (lb rfl) fun X hP h0 hX=>?_
 have hT:Xo X.P T:=hP▸tok
 have hf:X.P.funcs[116]? = some Tryz.f116:=hP▸Tryz.func116
 refine Qh hT 8 (Wer 110 2) ⟨9,[(5,.d (Qcg t0 a0)),(6,.d (.fn Jl Jo))],[]⟩ ?_
 obtain ⟨v1,h1,H⟩:=ibC H
 refine Wx (Yh:=[.d (Qcg t0 a0),.d (.fn Jl Jo)]) (dst:=some 7) (k':=(Wer 110 3)) [7] [] hP Qzz (Zt.Wv (t0:=t0) (Jl:=Jl) (Jo:=Jo) a0 p1 he1 hp1 h1) (by kernel_rfl) (Wh _) (.cons (Qp _) (.cons (Qp _) .nil)) (st':=⟨9,[(7,.i v1)],[]⟩) (by kernel_rfl) ?_
 refine Qh hT 3 (Wer 11 1) ⟨9,[(4,.b (decide (v1>=0)))],[]⟩ ?_
 obtain rfl:=Yi H
 exact Ym hf hX h0 (.b (decide (v1>=0))) [] an (.d (.v _))
theorem Qgh.Wv (a0:Qn) {r:Bool} (H:Qgh a0=some r):Zd Tryz.prog 117 [] [.d (Qa3 a0)] [] (.b r):=by
 refine Ye Tryz.func117 rfl (nt:=6) rfl (lb rfl) fun X hP h0 hX=>?_
 have hT:Xo X.P T:=hP▸tok
 have hf:X.P.funcs[117]? = some Tryz.f117:=hP▸Tryz.func117
 refine Qh hT 8 (Wes 110 1) ⟨6,[(3,.d (Qa3 a0))],[.box 39 (Yg a0)]⟩ ?_
 obtain ⟨v1,h1,H⟩:=ibC H
 refine Wx (Yh:=[.d (Qa3 a0)]) (dst:=some 4) (k':=(Wes 110 2)) [4] [] hP Qgy (Qbo.Wv a0 h1) (by kernel_rfl) (Wh _) (.cons (Qp _) .nil) (st':=⟨6,[(4,.b v1)],[.box 39 (Yg a0)]⟩) (by kernel_rfl) ?_
 refine Qh hT 3 (Wes 11 1) ⟨6,[(2,.b (!v1))],[.box 39 (Yg a0)]⟩ ?_
 obtain rfl:=Yi H
 exact Ym hf hX h0 (.b (!v1)) [] an (.d (.v _))
abbrev Jj.p0 (t0:Bool) (a0:List Qa) (t1:Bool) (a1:List Qn) (a2:List Qb):List (Nat × AV):=[(0,.d (Yb t0 a0)),(1,.d (Qcg t1 a1)),(2,.d (Wu true a2))]
theorem Jj.Wv {t0:Bool} {t1:Bool} (a0:List Qa) (a1:List Qn) (a2:List Qb) {r:List Qa} (H:Jj a0 a1 a2=some r):Zd Tryz.prog 100 [] [.d (Yb t0 a0),.d (Qcg t1 a1),.d (Wu true a2)] [Xk r] (.own 0 2 0 r.length):=by
 refine Ye Tryz.func100 rfl (nt:=39) rfl (lb rfl) fun X hP h0 hX=>?_
 have hT:Xo X.P T:=hP▸tok
 have hf:X.P.funcs[100]? = some Tryz.f100:=hP▸Tryz.func100
 refine Qh hT 8 (Qfm 1100 1) ⟨39,(Jj.p0 t0 a0 t1 a1 a2++[(10,.d (Yb t0 a0))]),[]⟩ ?_
 obtain ⟨v1,h1,H⟩:=ibC H
 have Yv:∀ (Qc9:Bool),(Jj.j1 a0 a1 a2 Qc9)=some r->AK X 100 ((Qfm 110 1)) (Yq X [Xk r] (.own 0 2 0 r.length)) ⟨39,(Jj.p0 t0 a0 t1 a1 a2++[(21,.b Qc9)]),[]⟩:=by
  intro Qc9 H
  by_cases c6:Qc9=true
  ·replace H:=iT c6 H
   rw [c6]
   refine Qh hT 5 (Qfm 11010 1) ⟨39,[(6,.ns)],[]⟩ ?_
   refine Qb8 [6] 6 2 81 (vec Qa.e Qa.z []) (st':=⟨39,[(6,.own 0 2 0 0)],[Xk ([]:List Qa)]⟩) (by kernel_rfl) (by kernel_rfl) ?_
   obtain rfl:=Yi H
   exact Ym hf hX h0 (.own 0 2 0 0) [0] (ac (Qat Qa.nl) an) (.own _ _ _ _)
  replace H:=iF c6 H
  rw [Jk c6]
  refine Qh hT 2 (Qfm 11 1) ⟨39,(Jj.p0 t0 a0 t1 a1 a2),[]⟩ ?_
  refine Qh hT 3 (Qfm 1110 1) ⟨39,[(1,.d (Qcg t1 a1)),(2,.d (Wu true a2)),(22,.d (Yb t0 a0))],[]⟩ ?_
  obtain ⟨h7,H⟩:=iC H
  refine Wx (Yh:=[.d (Yb t0 a0)]) (dst:=some 23) (k':=(Qfm 1110 2)) [1,2,23] [] hP Ql1 (Qpv (tg:=t0) a0 h7) (by kernel_rfl) (Wh _) (.cons (Qp _) .nil) (st':=⟨39,[(1,.d (Qcg t1 a1)),(2,.d (Wu true a2)),(23,.own 0 2 0 a0.length)],[Xk a0]⟩) (by kernel_rfl) ?_
  refine Qh hT 11 (Qfm 1111010 0) ⟨39,[(2,.d (Wu true a2)),(7,.own 0 2 0 a0.length),(24,.d (Qcg t1 a1)),(25,.i (a1.length:Int)),(26,.i 0)],[Xk a0]⟩ ?_
  have L:∀ n,(∀ (Qd2:Int) (Qi:List Qa),iter (Jj.step a1 a2) n (.l1 Qd2 Qi)=some r->AK X 100 ((Qfm 1111010 0)) (Yq X [Xk r] (.own 0 2 0 r.length)) ⟨39,[(2,.d (Wu true a2)),(7,.own 0 2 0 Qi.length),(24,.d (Qcg t1 a1)),(25,.i (a1.length:Int)),(26,.i Qd2)],[Xk Qi]⟩):=by
   intro n
   induction n with
   | zero=>exact fun _ _ H=>Qay H
   | succ n ih=>
    ·intro Qd2 Qi H
     refine Qh hT 5 (Qfm 111101001 0) ⟨39,[(2,.d (Wu true a2)),(7,.own 0 2 0 Qi.length),(24,.d (Qcg t1 a1)),(25,.i (a1.length:Int)),(26,.i Qd2),(27,.b (decide (Qd2 < (a1.length:Int))))],[Xk Qi]⟩ ?_
     by_cases c8:Qd2 < (a1.length:Int)
     ·replace H:=sT c8 H
      rw [decide_eq_true c8]
      refine Qh hT 2 (Qfm 111101001 1) ⟨39,[(2,.d (Wu true a2)),(7,.own 0 2 0 Qi.length),(24,.d (Qcg t1 a1)),(25,.i (a1.length:Int)),(26,.i Qd2)],[Xk Qi]⟩ ?_
      refine Qh hT 4 (Qfm 1111010011000 0) ⟨39,[(2,.d (Wu true a2)),(7,.own 0 2 0 Qi.length),(24,.d (Qcg t1 a1)),(25,.i (a1.length:Int)),(26,.i Qd2)],[Xk Qi]⟩ ?_
      obtain ⟨h9,H⟩:=sC H
      refine Zv hT [2,7,24,25,26,28] (i:=Qd2) (n:=(a1.length:Int)) h9.1 h9.2 (k':=(Qfm 1111010011000 1)) (st':=⟨39,[(2,.d (Wu true a2)),(7,.own 0 2 0 Qi.length),(24,.d (Qcg t1 a1)),(25,.i (a1.length:Int)),(26,.i Qd2),(28,.d (Wfd t1 a1 Qd2.toNat 0))],[Xk Qi]⟩) (by kernel_rfl) ?_
      refine Qh hT 8 (Qfm 1111010011001 3) ⟨39,[(2,.d (Wu true a2)),(24,.d (Qcg t1 a1)),(25,.i (a1.length:Int)),(26,.i Qd2),(31,.own 0 2 0 Qi.length),(32,.d (Qa3 (a1.getD Qd2.toNat Qn.z))),(33,.d (Wu true a2))],[Xk Qi,.box 39 (Yg (a1.getD Qd2.toNat Qn.z))]⟩ ?_
      obtain ⟨v4,h10,H⟩:=sbC H
      refine Wx (Yh:=[.own 0 2 0 Qi.length,.d (Qa3 (a1.getD Qd2.toNat Qn.z)),.d (Wu true a2)]) (dst:=some 34) (k':=(Qfm 1111010011001 4)) [2,24,25,26,34] [] hP Qor (Wp.Wv (t0:=false) Qi (a1.getD Qd2.toNat Qn.z) a2 h10) (by kernel_rfl) (Wh _) (.cons (.Qds (ty:=81) (by kernel_rfl) rfl) (.cons (Qp _) (.cons (Qp _) .nil))) (st':=⟨39,[(2,.d (Wu true a2)),(24,.d (Qcg t1 a1)),(25,.i (a1.length:Int)),(26,.i Qd2),(34,.Qo [.own 2 2 0 v4.1.length,.b v4.2])],[Xk Qi,.box 39 (Yg (a1.getD Qd2.toNat Qn.z)),Xk v4.1]⟩) (by kernel_rfl) ?_
      refine Xq hT 11 (Qfm 1111010 0) [2] ⟨39,[(2,.d (Wu true a2)),(7,.own 0 2 0 v4.1.length),(24,.d (Qcg t1 a1)),(25,.i (a1.length:Int)),(26,.i (IntKind.wrap .i64 (Qd2+1)))],[Xk v4.1]⟩ h0 ?_
      exact ih (IntKind.wrap .i64 (Qd2+1)) v4.1 H
     replace H:=sF c8 H
     rw [decide_eq_false c8]
     refine Qh hT 7 (Qfm 11111 1) ⟨39,[(6,.own 0 2 0 Qi.length)],[Xk Qi]⟩ ?_
     obtain rfl:=Yi H
     exact Ym hf hX h0 (.own 0 2 0 Qi.length) [0] (ac (Qat Qa.nl) an) (.own _ _ _ _)
  obtain ⟨n,H⟩:=Qbu H
  exact (L n) 0 a0 H
 refine Wx (Yh:=[.d (Yb t0 a0)]) (dst:=some 11) (k':=(Qfm 1100 2)) [0,1,2,11] [] hP Qot (Xl.Wv (t0:=t0) a0 h1) (by kernel_rfl) (Wh _) (.cons (Qp _) .nil) (st':=⟨39,(Jj.p0 t0 a0 t1 a1 a2++[(11,.b v1)]),[]⟩) (by kernel_rfl) ?_
 refine Qh hT 2 (Qfm 1100 4) ⟨39,(Jj.p0 t0 a0 t1 a1 a2++[(13,.b (!v1))]),[]⟩ ?_
 by_cases c2:v1=true
 ·replace H:=iT c2 H
  rw [c2]
  refine Qh hT 1 (Qfm 1100 5) ⟨39,(Jj.p0 t0 a0 t1 a1 a2++[(13,.b false),(14,.d (Wu true a2))]),[]⟩ ?_
  obtain ⟨v2,h3,H⟩:=ibC H
  refine Wx (Yh:=[.d (Wu true a2)]) (dst:=some 15) (k':=(Qfm 1100 6)) [0,1,2,13,15] [] hP Qhu (Zb.Wv (t0:=true) a2 h3) (by kernel_rfl) (Wh _) (.cons (Qp _) .nil) (st':=⟨39,(Jj.p0 t0 a0 t1 a1 a2++[(13,.b false),(15,.b v2)]),[]⟩) (by kernel_rfl) ?_
  refine Qh hT 3 (Qfm 1100 9) ⟨39,(Jj.p0 t0 a0 t1 a1 a2++[(18,.b (!v2))]),[]⟩ ?_
  by_cases c4:v2=true
  ·replace H:=iT c4 H
   rw [c4]
   refine Qh hT 1 (Qfm 1100 10) ⟨39,(Jj.p0 t0 a0 t1 a1 a2++[(18,.b false),(19,.d (Qcg t1 a1))]),[]⟩ ?_
   obtain ⟨v3,h5,H⟩:=ibC H
   refine Wx (Yh:=[.d (Qcg t1 a1),.d (.fn 117 [])]) (dst:=some 20) (k':=(Qfm 1100 11)) [0,1,2,18,20] [] hP Qzt (Qck.Wv (t0:=t1) (Jl:=117) (Jo:=[]) a1 (fun z0=>Qgh z0) Qzu (fun z0 r h=>Qgh.Wv z0 h) h5) (by kernel_rfl) (Wh _) (.cons (Qp _) (.cons (Qp _) .nil)) (st':=⟨39,(Jj.p0 t0 a0 t1 a1 a2++[(18,.b false),(20,.b v3)]),[]⟩) (by kernel_rfl) ?_
   refine Qh hT 2 (Qfm 110 1) ⟨39,(Jj.p0 t0 a0 t1 a1 a2++[(21,.b v3)]),[]⟩ ?_
   exact Yv v3 H
  replace H:=iF c4 H
  rw [Jk c4]
  refine Qh hT 4 (Qfm 110 1) ⟨39,(Jj.p0 t0 a0 t1 a1 a2++[(21,.b true)]),[]⟩ ?_
  exact Yv true H
 replace H:=iF c2 H
 rw [Jk c2]
 refine Qh hT 9 (Qfm 110 1) ⟨39,(Jj.p0 t0 a0 t1 a1 a2++[(21,.b true)]),[]⟩ ?_
 exact Yv true H
theorem Qg1.Wv {t0:Bool} (a0:List Qa) (a1:Int) {r:Int × Bool} (H:Qg1 a0 a1=some r):Zd Tryz.prog 28 [] [.d (Yb t0 a0),.i a1] [] (.Qo [.i r.1,.b r.2]):=by
 refine Ye Tryz.func28 rfl (nt:=14) rfl (lb rfl) fun X hP h0 hX=>?_
 have hT:Xo X.P T:=hP▸tok
 have hf:X.P.funcs[28]? = some Tryz.f28:=hP▸Tryz.func28
 refine Qh hT 9 (K28 1100 1) ⟨14,[(0,.d (Yb t0 a0)),(1,.i a1),(6,.d (Yb t0 a0))],[]⟩ ?_
 obtain ⟨v1,h1,H⟩:=ibC H
 refine Wx (Yh:=[.d (Yb t0 a0)]) (dst:=some 7) (k':=(K28 1100 2)) [0,1,7] [] hP Qot (Xl.Wv (t0:=t0) a0 h1) (by kernel_rfl) (Wh _) (.cons (Qp _) .nil) (st':=⟨14,[(0,.d (Yb t0 a0)),(1,.i a1),(7,.b v1)],[]⟩) (by kernel_rfl) ?_
 refine Qh hT 2 (K28 110 1) ⟨14,[(0,.d (Yb t0 a0)),(1,.i a1),(8,.b (!v1))],[]⟩ ?_
 by_cases c2:v1=true
 ·replace H:=iT c2 H
  rw [c2]
  refine Qh hT 2 (K28 11 1) ⟨14,[(0,.d (Yb t0 a0)),(1,.i a1)],[]⟩ ?_
  refine Qh hT 4 (K28 1110 2) ⟨14,[(9,.d (Yb t0 a0)),(10,.i a1)],[]⟩ ?_
  obtain ⟨v2,h3,H⟩:=ibC H
  refine Wx (Yh:=[.d (Yb t0 a0),.i a1]) (dst:=some 11) (k':=(K28 1110 3)) [11] [] hP Qov (Qgb.Wv (t0:=t0) a0 a1 h3) (by kernel_rfl) (Wh _) (.cons (Qp _) (.cons (Qp _) .nil)) (st':=⟨14,[(11,.Qo [.i v2.1,.b v2.2])],[]⟩) (by kernel_rfl) ?_
  refine Qh hT 5 (K28 111 1) ⟨14,[(4,.i v2.1),(5,.b v2.2)],[]⟩ ?_
  obtain rfl:=Yi H
  exact Ym hf hX h0 (.Qo [.i v2.1,.b v2.2]) [] an (.Qo (.cons (.d (.v _)) (.cons (.d (.v _)) .nil)))
 replace H:=iF c2 H
 rw [Jk c2]
 refine Qh hT 6 (K28 11010 1) ⟨14,[(4,.i 0),(5,.b false)],[]⟩ ?_
 obtain rfl:=Yi H
 exact Ym hf hX h0 (.Qo [.i 0,.b false]) [] an (.Qo (.cons (.d (.v _)) (.cons (.d (.v _)) .nil)))
abbrev Qde.p0 (t0:Bool) (a0:List Qe) (a1:Qf5) (a2:Int) (a3:Int):List (Nat × AV):=[(0,.d (Xj t0 a0)),(1,.d (.rop false 1 (fun _=>[Qcg false a1.l,.i a1.mark]) 0 0)),(2,.i a2),(3,.i a3),(8,.ptr 0 0 0 0)]
theorem Qde.Wv {t0:Bool} (a0:List Qe) (a1:Qf5) (a2:Int) (a3:Int) {r:Ze} (H:Qde a0 a1 a2 a3=some r):Zd Tryz.prog 78 [] [.d (Xj t0 a0),.d (.rop false 1 (fun _=>[Qcg false a1.l,.i a1.mark]) 0 0),.i a2,.i a3] [] (.d (Qid r)):=by
 refine Ye Tryz.func78 rfl (nt:=31) rfl (lb rfl) fun X hP h0 hX=>?_
 have hT:Xo X.P T:=hP▸tok
 have hf:X.P.funcs[78]? = some Tryz.f78:=hP▸Tryz.func78
 refine Qh hT 7 (K78 110 1) ⟨31,(Qde.p0 t0 a0 a1 a2 a3++[(12,.d (Xj t0 a0))]),[.box 36 [.i 0,.b false]]⟩ ?_
 refine Wx (Yh:=[]) (dst:=some 13) (k':=(K78 110 2)) [0,1,2,3,8,12,13] [] hP Qsh (Qex.Wv) (by kernel_rfl) (Wh _) .nil (st':=⟨31,(Qde.p0 t0 a0 a1 a2 a3++[(12,.d (Xj t0 a0)),(13,.own 1 2 0 Qex.length)]),[.box 36 [.i 0,.b false],Qav Qex]⟩) (by kernel_rfl) ?_
 obtain ⟨v1,h1,H⟩:=idC H
 rw [<- h1]
 refine Qh hT 1 (K78 110 3) ⟨31,(Qde.p0 t0 a0 a1 a2 a3++[(12,.d (Xj t0 a0)),(13,.own 1 2 0 v1.length),(14,.i a3)]),[.box 36 [.i 0,.b false],Qav v1]⟩ ?_
 refine Qcf 1 (kk:=2) (n:=v1.length) (ty:=33) (g:=vec Qb.e Qb.z v1) (by kernel_rfl) (st':=⟨31,(Qde.p0 t0 a0 a1 a2 a3++[(12,.d (Xj t0 a0)),(13,.own 1 2 0 v1.length),(14,.i a3)]),[.box 36 [.i 0,.b false],Qb9 v1]⟩) (by kernel_rfl) ?_
 obtain ⟨v2,h2,H⟩:=ibC H
 refine Wx (Yh:=[.d (Xj t0 a0),.own 1 2 0 v1.length,.i a3]) (dst:=some 15) (k':=(K78 110 4)) [0,1,2,3,8,15] [] hP Quc (Yy.Wv (t0:=t0) a0 v1 a3 h2) (by kernel_rfl) (Wh _) (.cons (Qp _) (.cons (.Qds (ty:=33) (by kernel_rfl) rfl) (.cons (Qp _) .nil))) (st':=⟨31,(Qde.p0 t0 a0 a1 a2 a3++[(15,.own 2 2 0 v2.length)]),[.box 36 [.i 0,.b false],Qb9 v1,Xk v2]⟩) (by kernel_rfl) ?_
 refine Qh hT 3 (K78 110 7) ⟨31,[(2,.i a2),(8,.ptr 0 0 0 0),(15,.own 2 2 0 v2.length),(16,.d (Xj t0 a0)),(17,.d (.rop false 1 (fun _=>[Qcg false a1.l,.i a1.mark]) 0 0)),(18,.i a3)],[.box 36 [.i 0,.b false],Qb9 v1,Xk v2]⟩ ?_
 obtain ⟨v3,h3,H⟩:=ibC H
 refine Wx (Yh:=[.d (Xj t0 a0),.d (.rop false 1 (fun _=>[Qcg false a1.l,.i a1.mark]) 0 0),.i a3]) (dst:=some 19) (k':=(K78 110 8)) [2,8,15,19] [] hP Qzj (Xz.Wv (t0:=t0) a0 a1 a3 h3) (by kernel_rfl) (Wh _) (.cons (Qp _) (.cons (Qp _) (.cons (Qp _) .nil))) (st':=⟨31,[(2,.i a2),(8,.ptr 0 0 0 0),(15,.own 2 2 0 v2.length),(19,.own 3 7 0 v3.length)],[.box 36 [.i 0,.b false],Qb9 v1,Xk v2,Qeg v3]⟩) (by kernel_rfl) ?_
 refine Wx (Yh:=[]) (dst:=some 20) (k':=(K78 110 9)) [2,8,15,19,20] [] hP Qsh (Qex.Wv) (by kernel_rfl) (Wh _) .nil (st':=⟨31,[(2,.i a2),(8,.ptr 0 0 0 0),(15,.own 2 2 0 v2.length),(19,.own 3 7 0 v3.length),(20,.own 4 2 0 Qex.length)],[.box 36 [.i 0,.b false],Qb9 v1,Xk v2,Qeg v3,Qav Qex]⟩) (by kernel_rfl) ?_
 obtain ⟨v4,h4,H⟩:=idC H
 rw [<- h4]
 refine Qcf 4 (kk:=2) (n:=v4.length) (ty:=33) (g:=vec Qb.e Qb.z v4) (by kernel_rfl) (st':=⟨31,[(2,.i a2),(8,.ptr 0 0 0 0),(15,.own 2 2 0 v2.length),(19,.own 3 7 0 v3.length),(20,.own 4 2 0 v4.length)],[.box 36 [.i 0,.b false],Qb9 v1,Xk v2,Qeg v3,Qb9 v4]⟩) (by kernel_rfl) ?_
 obtain ⟨v5,h5,H⟩:=ibC H
 refine Wx (Yh:=[.own 2 2 0 v2.length,.own 3 7 0 v3.length,.own 4 2 0 v4.length]) (dst:=some 21) (k':=(K78 110 10)) [2,8,21] [] hP Qzi (Jj.Wv (t0:=false) (t1:=false) v2 v3 v4 h5) (by kernel_rfl) (Wh _) (.cons (.Qds (ty:=81) (by kernel_rfl) rfl) (.cons (.Qds (ty:=39) (by kernel_rfl) rfl) (.cons (.Qds (ty:=33) (by kernel_rfl) rfl) .nil))) (st':=⟨31,[(2,.i a2),(8,.ptr 0 0 0 0),(21,.own 5 2 0 v5.length)],[.box 36 [.i 0,.b false],Qb9 v1,Xk v2,Qeg v3,Qb9 v4,Xk v5]⟩) (by kernel_rfl) ?_
 refine Qh hT 6 (K78 1110 2) ⟨31,[(8,.ptr 0 0 0 0),(23,.own 5 2 0 v5.length),(24,.i a2)],[.box 36 [.i 0,.b false],Qb9 v1,Xk v2,Qeg v3,Qb9 v4,Xk v5]⟩ ?_
 obtain ⟨v6,h6,H⟩:=ibC H
 refine Wx (Yh:=[.own 5 2 0 v5.length,.i a2]) (dst:=some 25) (k':=(K78 1110 3)) [8,25] [] hP Qub (Qg1.Wv (t0:=false) v5 a2 h6) (by kernel_rfl) (Wh _) (.cons (.Qds (ty:=81) (by kernel_rfl) rfl) (.cons (Qp _) .nil)) (st':=⟨31,[(8,.ptr 0 0 0 0),(25,.Qo [.i v6.1,.b v6.2])],[.box 36 [.i 0,.b false],Qb9 v1,Xk v2,Qeg v3,Qb9 v4,Xk v5]⟩) (by kernel_rfl) ?_
 refine Qh hT 13 (K78 1111 1) ⟨31,[(8,.ptr 0 0 0 0)],[.box 36 [.i v6.1,.b v6.2],Qb9 v1,Xk v2,Qeg v3,Qb9 v4,Xk v5]⟩ ?_
 obtain rfl:=Yi H
 exact Qen hT hf hX (av:=.d (.agg [.i v6.1,.b v6.2])) (by kernel_rfl) [] (Jq (by kernel_rfl)) (by decide) (by rw [h0];rfl) (by kernel_rfl) an (.d (.agg (Ze.nl _)))
abbrev Qt.q1 (a0:List Qe) (v1:List Qd) (Qar:List Qg):List Row:=[.box 114 [.i 0,.i 0,.i 0,.i 0,.b false,.b false,.ns,.ns,.d (Xj true a0),.ns],.box 109 [.i 0,.i 0,.i 0,.i 0,.b false,.b false,.ns,.ns,.ns,.ns],.box 109 [.i 0,.i 0,.i 0,.i 0,.b false,.b false,.ns,.d (Yl true v1),.own 3 9 0 Qar.length,.ns],Qbg Qar]
abbrev Qt.q2 (a0:List Qe):List AV:=[.i 0,.i 0,.i 0,.i 0,.b false,.b false,.ns,.ns,.d (Xj true a0),.ns]
abbrev Qt.q3:List AV:=[.i 0,.i 0,.i 0,.i 0,.b false,.b false,.ns,.ns,.ns,.ns]
abbrev Qt.q4 (v1:List Qd) (Qar:List Qg):List AV:=[.i 0,.i 0,.i 0,.i 0,.b false,.b false,.ns,.d (Yl true v1),.own 3 9 0 Qar.length,.ns]
abbrev Qt.s1 (Yp:Int) (a0:List Qe) (v1:List Qd) (Qar:List Qg):St:=⟨131,[(1,.ptr 0 0 0 0),(2,.ptr 1 0 0 0),(3,.ptr 2 0 0 0),(7,.i Yp)],(Qt.q1 a0 v1 Qar)⟩
end
end Go.SyP
