/- Certificates, printed by gen.py. -/
import Derived.Test.YtdhmflhncidjaaaGreatGthzCp0
set_option linter.unusedVariables false
set_option linter.unusedSimpArgs false
namespace Go.SyP
open Go Go.Sy Go.Proofs
noncomputable section
theorem Qdq.Qt (a0:Qc) {r:List Qa} (H:Qdq a0=some r):Xt Tryz.prog 13 [] [.d (Qcc a0)] [Yb r] (.own 0 2 0 r.length):=by
 refine Wx Tryz.func13 rfl (nt:=9) rfl (lb rfl) fun X hP h0 hX=>?_
 have hT:Qw X.P T:=hP▸tok
 have hf:X.P.funcs[13]? = some Tryz.f13:=hP▸Tryz.func13
 refine qI ?_
 obtain ⟨v1,h1,H⟩:=ibC H
 refine qF hT 9 hP Qqd (Jg.Qt a0 h1) ?_
 rcases iB H with ⟨c2,H⟩ | ⟨c2,H⟩
 ·refine qB hT 2 (show (!v1)=false by rw [c2];rfl) ?_
  refine qE hT 5 (K13 1110 1) ⟨9,[(6,.d (Qcc a0))],[.box 30 (Jo a0)]⟩ ?_
  obtain ⟨v2,h3,H⟩:=ibC H
  refine qI ?_
  refine qF hT 0 hP Qqe (Qar.Qt a0 h3) ?_
  obtain ⟨h4,H⟩:=iC H
  refine qF hT 0 hP Qng (Qrj (tg:=true) v2 h4) ?_
  obtain rfl:=Yt H
  exact qT hT 2 hf hX h0 [1] (ac (Xa Qa.nl) an) (.own _ _ _ _)
 refine qB hT 2 (show (!v1)=true by rw [boF c2];rfl) ?_
 refine qE hT 5 (K13 11010 1) ⟨9,[(2,.ns)],[.box 30 (Jo a0)]⟩ ?_
 refine Qd1 [2] 2 2 97 (vec Qa.e Qa.z []) (st':=⟨9,[(2,.own 1 2 0 0)],[.box 30 (Jo a0),Yb ([]:List Qa)]⟩) (by kernel_rfl) (by kernel_rfl) ?_
 obtain rfl:=Yt H
 exact Qd9 hf hX h0 (.own 1 2 0 0) [1] (ac (Xa Qa.nl) an) (.own _ _ _ _)
theorem Xw.Qt {t0:Bool} (a0:List (List Qa)) {r:List Qa} (H:Xw a0=some r):Xt Tryz.prog 79 [] [.d (Qlt t0 a0)] [Yb r] (.own 0 2 0 r.length):=by
 refine Wx Tryz.func79 rfl (nt:=36) rfl (lb rfl) fun X hP h0 hX=>?_
 have hT:Qw X.P T:=hP▸tok
 have hf:X.P.funcs[79]? = some Tryz.f79:=hP▸Tryz.func79
 refine Xq hT 17 (K79 111010 0) ⟨36,[(0,.d (Qlt t0 a0)),(3,.i 0),(9,.d (Qlt t0 a0)),(10,.i (a0.length:Int)),(11,.i 0)],[]⟩ ?_
 have L:∀ n,(∀ (Yz:Int) (Yg:Int),iter (Xw.step a0) n (.l1 Yz Yg)=some r->AK X 79 ((K79 111010 0)) (Ym X [Yb r] (.own 0 2 0 r.length)) ⟨36,[(0,.d (Qlt t0 a0)),(3,.i Yz),(9,.d (Qlt t0 a0)),(10,.i (a0.length:Int)),(11,.i Yg)],[]⟩)/\(∀ (Qe3:Int) (Qa2:List Qa),iter (Xw.step a0) n (.l2 Qe3 Qa2)=some r->AK X 79 ((K79 11111010 0)) (Ym X [Yb r] (.own 0 2 0 r.length)) ⟨36,[(6,.own 0 2 0 Qa2.length),(25,.d (Qlt t0 a0)),(26,.i (a0.length:Int)),(27,.i Qe3)],[Yb Qa2]⟩):=by
  intro n
  induction n with
  | zero=>exact ⟨fun _ _ H=>Qbh H,fun _ _ H=>Qbh H⟩
  | succ n ih=>
   refine ⟨?_, ?_⟩
   ·intro Yz Yg H
    refine qI ?_
    rcases sB H with ⟨c1,H⟩ | ⟨c1,H⟩
    ·refine qB hT 5 (decide_eq_true c1) ?_
     obtain ⟨h3,H⟩:=sC H
     refine qX hT 6 h3 ?_
     refine qE hT 10 (K79 1110100110010 5) ⟨36,[(0,.d (Qlt t0 a0)),(3,.i (IntKind.wrap .i64 (Yz+((a0.getD Yg.toNat []).length:Int)))),(9,.d (Qlt t0 a0)),(10,.i (a0.length:Int)),(11,.i Yg)],[]⟩ ?_
     obtain ⟨v1,h4,H⟩:=sdC H
     rw [<- h4]
     refine Xq hT 6 (K79 1110100110011 1) ⟨36,[(0,.d (Qlt t0 a0)),(3,.i v1),(9,.d (Qlt t0 a0)),(10,.i (a0.length:Int)),(11,.i Yg),(20,.b (decide (v1 < 0)))],[]⟩ ?_
     by_cases c5:v1 < 0
     ·replace H:=sT c5 H
      cases (show (none:Option _)=some _ from H)
     replace H:=sF c5 H
     rw [decide_eq_false c5]
     exact Xq hT 8 _ _ (ih.1 v1 (IntKind.wrap .i64 (Yg+1)) H)
    refine qB hT 5 (decide_eq_false c1) ?_
    obtain ⟨h2,H⟩:=sC H
    refine qF hT 5 hP Wcu (Wme Yz h2) ?_
    exact qC hT 11 _ [0] _ h0 (ih.2 0 ([]:List Qa) H)
   intro Qe3 Qa2 H
   refine qI ?_
   rcases sB H with ⟨c6,H⟩ | ⟨c6,H⟩
   ·refine qB hT 5 (decide_eq_true c6) ?_
    obtain ⟨h7,H⟩:=sC H
    refine qX hT 6 h7 ?_
    refine qE hT 6 (K79 11111010011001 2) ⟨36,[(25,.d (Qlt t0 a0)),(26,.i (a0.length:Int)),(27,.i Qe3),(31,.own 0 2 0 Qa2.length),(32,.d (We true (a0.getD Qe3.toNat [])))],[Yb Qa2]⟩ ?_
    obtain ⟨h8,H⟩:=sC H
    refine Qiu (id:=0) (kk:=2) (by':=16) (t:=26) (e:=97) (z:=[.int .i64 0,.int .i64 0]) (dst:=some 33) (k':=(K79 11111010011001 3)) (x:=.d (We true (a0.getD Qe3.toNat []))) hT Qa.e Qa.z Qa2 (a0.getD Qe3.toNat []) [25,26,27,33] (by kernel_rfl) (by kernel_rfl) (.sl fun _ _=>rfl) (by kernel_rfl) (by kernel_rfl) (by kernel_rfl) (by kernel_rfl) h8 (by omega) (st':=⟨36,[(25,.d (Qlt t0 a0)),(26,.i (a0.length:Int)),(27,.i Qe3),(33,.own 1 2 0 ((Qa2 ++ (a0.getD Qe3.toNat [])).length))],[.gone,Yb (Qa2 ++ (a0.getD Qe3.toNat []))]⟩) (by kernel_rfl) ?_
    exact Zr hT 8 _ [1] _ h0 (ih.2 (IntKind.wrap .i64 (Qe3+1)) (Qa2 ++ (a0.getD Qe3.toNat [])) H)
   refine qB hT 5 (decide_eq_false c6) ?_
   obtain rfl:=Yt H
   exact qT hT 7 hf hX h0 [0] (ac (Xa Qa.nl) an) (.own _ _ _ _)
 obtain ⟨n,H⟩:=Qbw H
 exact (L n).1 0 0 H
theorem Qcy.Qt (a0:Qa) (a1:Qa):Xt Tryz.prog 81 [] [.d (Qgz a0),.d (Qgz a1)] [] (.i (Qcy a0 a1)):=by
 obtain ⟨r,H⟩:∃ r,Qcy a0 a1=r:=⟨_,rfl⟩
 rw [H]
 refine Wx Tryz.func81 rfl (nt:=10) rfl (lb rfl) fun X hP h0 hX=>?_
 have hT:Qw X.P T:=hP▸tok
 have hf:X.P.funcs[81]? = some Tryz.f81:=hP▸Tryz.func81
 refine qI ?_
 refine qF hT 12 hP Qhm (Yr.Qt a0.Key a1.Key) ?_
 obtain rfl:=H
 exact qT hT 2 hf hX h0 [] an (.d (.v _))
abbrev Qc1.q1 (v3:List Qa):=(Ja Qa.z Qcy v3)
theorem Qc1.Qt (a0:List Qa) (a1:List Qa) {r:(List Qa) × Int} (H:Qc1 a0 a1=some r):Xt Tryz.prog 38 [] [.d (We true a0),.d (We true a1)] [Yb r.1] (.Ql [.own 0 2 0 r.1.length,.i r.2]):=by
 refine Wx Tryz.func38 rfl (nt:=25) rfl (lb rfl) fun X hP h0 hX=>?_
 have hT:Qw X.P T:=hP▸tok
 have hf:X.P.funcs[38]? = some Tryz.f38:=hP▸Tryz.func38
 refine qI ?_
 obtain ⟨v1,h1,H⟩:=ibC H
 have Yx:∀ (Qry:Bool),(Qc1.j1 a0 a1 Qry)=some r->AK X 38 ((K38 110 1)) (Ym X [Yb r.1] (.Ql [.own 0 2 0 r.1.length,.i r.2])) ⟨25,[(0,.d (We true a0)),(1,.d (We true a1)),(14,.b Qry)],[]⟩:=by
  intro Qry H
  by_cases c4:Qry=true
  ·replace H:=iT c4 H
   cases (show (none:Option _)=some _ from H)
  replace H:=iF c4 H
  rw [boF c4]
  refine Xq hT 7 (K38 1110 3) ⟨25,[(17,.own 0 1 0 2)],[.flat false 1 26 2 (fun j=>[[We true a0],[We true a1]].getD j [])]⟩ ?_
  refine Qgp 0 (kk:=1) (fz:=false) (ty:=26) (n:=([a0,a1]:List (List Qa)).length) (vec (eL Qa.e Qa.z) [] ([a0,a1]:List (List Qa))) (by kernel_rfl) Qhh (st':=⟨25,[(17,.own 0 1 0 (([a0,a1]:List (List Qa)).length))],[Wjj ([a0,a1]:List (List Qa))]⟩) (by kernel_rfl) ?_
  obtain ⟨v3,h5,H⟩:=ibC H
  refine qI ?_
  refine qF hT 0 hP Wgp (Xw.Qt (t0:=false) ([a0,a1]:List (List Qa)) h5) ?_
  refine qE hT 5 (K38 11110 1) ⟨25,[(6,.own 1 2 0 v3.length),(19,.own 1 2 0 v3.length)],[Wjj ([a0,a1]:List (List Qa)),Yb v3]⟩ ?_
  obtain ⟨h6,H⟩:=iC H
  refine Zd (Xx:=[.own 1 2 0 v3.length,.d (.fn 81 [])]) (dst:=some 20) (k':=(K38 11110 2)) [6] [1] hP Wgq (Wpd Wgr Qcy Qh0 (fun x y=>Qcy.Qt x y) v3 h6) (by kernel_rfl) (Qel rfl rfl) (.cons (.same (.own 0 2 0 v3.length)) (.cons (Qk _) .nil)) (st':=⟨25,[(6,.own 1 2 0 (v3.length))],[.flat false 1 26 ([a0,a1]:List (List Qa)).length (vec (eL Qa.e Qa.z) [] ([a0,a1]:List (List Qa))),.flat false 2 97 v3.length (vec Qa.e Qa.z (Qc1.q1 v3))]⟩) (by kernel_rfl) ?_
  refine Qiw (show v3.length=(Qc1.q1 v3).length from (Qit _ Qh0 _).symm) (fun nn=>⟨25,[(6,.own 1 2 0 (nn))],[.flat false 1 26 ([a0,a1]:List (List Qa)).length (vec (eL Qa.e Qa.z) [] ([a0,a1]:List (List Qa))),.flat false 2 97 nn (vec Qa.e Qa.z (Qc1.q1 v3))]⟩) ?_
  refine qI ?_
  obtain ⟨v4,h7,H⟩:=ibC H
  refine qF hT 5 hP Qf1 (Wz.Qt (t0:=false) (Qc1.q1 v3) h7) ?_
  refine qE hT 2 (K38 111110 1) ⟨25,[(6,.own 1 2 0 ((Qc1.q1 v3).length)),(23,.b (!v4))],[Wjj ([a0,a1]:List (List Qa)),Yb (Qc1.q1 v3)]⟩ ?_
  by_cases c8:v4=true
  ·replace H:=iT c8 H
   rw [c8]
   refine qI ?_
   obtain rfl:=Yt H
   exact qT hT 8 hf hX h0 [1] (ac (Xa Qa.nl) an) (.Ql (.cons (.own _ _ _ _) (.cons (.d (.v _)) .nil)))
  replace H:=iF c8 H
  cases (show (none:Option _)=some _ from H)
 refine qF hT 9 hP Qf1 (Wz.Qt (t0:=true) a0 h1) ?_
 rcases iB H with ⟨c2,H⟩ | ⟨c2,H⟩
 ·refine qB hT 2 (show (!v1)=false by rw [c2];rfl) ?_
  refine qE hT 1 (K38 1100 5) ⟨25,[(0,.d (We true a0)),(1,.d (We true a1)),(10,.b false),(11,.d (We true a1))],[]⟩ ?_
  obtain ⟨v2,h3,H⟩:=ibC H
  refine qI ?_
  refine qF hT 0 hP Qf1 (Wz.Qt (t0:=true) a1 h3) ?_
  exact qE hT 3 _ _ (Yx (!v2) H)
 refine qB hT 2 (show (!v1)=true by rw [boF c2];rfl) ?_
 exact qE hT 5 _ _ (Yx true H)
theorem Jh.Qt {t0:Bool} (a0:List Qc) {r:(List Qa) × Bool} (H:Jh a0=some r):Xt Tryz.prog 11 [] [.d (Qc8 t0 a0)] [Yb r.1] (.Ql [.own 0 2 0 r.1.length,.b r.2]):=by
 refine Wx Tryz.func11 rfl (nt:=28) rfl (lb rfl) fun X hP h0 hX=>?_
 have hT:Qw X.P T:=hP▸tok
 have hf:X.P.funcs[11]? = some Tryz.f11:=hP▸Tryz.func11
 refine Xq hT 16 (K11 111010 0) ⟨28,[(0,.d (Qc8 t0 a0)),(4,.ns),(5,.i 0)],[]⟩ ?_
 refine Qd1 [0,4,5] 4 2 97 (vec Qa.e Qa.z []) (st':=⟨28,[(0,.d (Qc8 t0 a0)),(4,.own 0 2 0 0),(5,.i 0)],[Yb ([]:List Qa)]⟩) (by kernel_rfl) (by kernel_rfl) ?_
 have L:∀ n,(∀ (Yl:Int) (Qm:List Qa),iter (Jh.step a0) n (.l1 Yl Qm)=some r->AK X 11 ((K11 111010 0)) (Ym X [Yb r.1] (.Ql [.own 0 2 0 r.1.length,.b r.2])) ⟨28,[(0,.d (Qc8 t0 a0)),(4,.own 0 2 0 Qm.length),(5,.i Yl)],[Yb Qm]⟩):=by
  intro n
  induction n with
  | zero=>exact fun _ _ H=>Qbh H
  | succ n ih=>
   ·intro Yl Qm H
    refine qI ?_
    rcases sB H with ⟨c1,H⟩ | ⟨c1,H⟩
    ·refine qB hT 8 (decide_eq_true c1) ?_
     obtain ⟨h2,H⟩:=sC H
     refine qX hT 9 h2 ?_
     refine qE hT 1 (K11 11101001000 5) ⟨28,[(0,.d (Qc8 t0 a0)),(5,.i Yl),(15,.own 0 2 0 Qm.length),(19,.d (Qcc (a0.getD Yl.toNat Qc.z)))],[Yb Qm]⟩ ?_
     obtain ⟨v1,h3,H⟩:=sbC H
     refine Zd (Xx:=[.d (Qcc (a0.getD Yl.toNat Qc.z))]) (dst:=some 20) (k':=(K11 11101001000 6)) [0,5,15,20] [] hP Qqc (Qdq.Qt (a0.getD Yl.toNat Qc.z) h3) (by kernel_rfl) (Qao _) (.cons (Qk _) .nil) (st':=⟨28,[(0,.d (Qc8 t0 a0)),(5,.i Yl),(15,.own 0 2 0 Qm.length),(20,.own 1 2 0 v1.length)],[Yb Qm,Yb v1]⟩) (by kernel_rfl) ?_
     refine Qcb 0 (kk:=2) (n:=Qm.length) (ty:=97) (g:=vec Qa.e Qa.z Qm) (by kernel_rfl) (st':=⟨28,[(0,.d (Qc8 t0 a0)),(5,.i Yl),(15,.own 0 2 0 Qm.length),(20,.own 1 2 0 v1.length)],[Qgj Qm,Yb v1]⟩) (by kernel_rfl) ?_
     refine Qcb 1 (kk:=2) (n:=v1.length) (ty:=97) (g:=vec Qa.e Qa.z v1) (by kernel_rfl) (st':=⟨28,[(0,.d (Qc8 t0 a0)),(5,.i Yl),(15,.own 0 2 0 Qm.length),(20,.own 1 2 0 v1.length)],[Qgj Qm,Qgj v1]⟩) (by kernel_rfl) ?_
     obtain ⟨v2,h4,H⟩:=sbC H
     refine qI ?_
     refine qF hT 0 hP Wf9 (Qc1.Qt Qm v1 h4) ?_
     refine qE hT 12 (K11 111010010010 1) ⟨28,[(0,.d (Qc8 t0 a0)),(5,.i Yl),(6,.own 2 2 0 v2.1.length),(25,.b (v2.2 != 0))],[Qgj Qm,Qgj v1,Yb v2.1]⟩ ?_
     by_cases c5:v2.2=0
     ·replace H:=sT c5 H
      rw [neF c5]
      exact Zr hT 13 _ [2] _ h0 (ih (IntKind.wrap .i64 (Yl+1)) v2.1 H)
     replace H:=sF c5 H
     cases (show (none:Option _)=some _ from H)
    refine qB hT 8 (decide_eq_false c1) ?_
    obtain rfl:=Yt H
    exact qT hT 8 hf hX h0 [0] (ac (Xa Qa.nl) an) (.Ql (.cons (.own _ _ _ _) (.cons (.d (.v _)) .nil)))
 refine Qik [0] ⟨28,[(0,.d (Qc8 t0 a0)),(4,.own 0 2 0 ([]:List Qa).length),(5,.i 0)],[Yb ([]:List Qa)]⟩ h0 ?_
 obtain ⟨n,H⟩:=Qbw H
 exact (L n) 0 ([]:List Qa) H
abbrev Yf.q1 (Qai:Int) (a1:Int) (a0:Int):=(⟨IntKind.wrap .i64 (Qai+1),(⟨IntKind.wrap .i64 (Int.tdiv (IntKind.wrap .i64 (4096 * Qai)) a1),IntKind.wrap .i64 (Int.tdiv (IntKind.wrap .i64 (4096 * (IntKind.wrap .i64 (Qai+1)))) a1)⟩:Qb),Int.tmod Qai a0⟩:Qi)
abbrev Yf.q2 (Qai:Int) (a1:Int):=(IntKind.wrap .i64 (Int.tdiv (IntKind.wrap .i64 (4096 * (IntKind.wrap .i64 (Qai+1)))) a1))
abbrev Yf.q3 (a1:Int) (Zt:List Qi):List AV:=[.i 1,.i (IntKind.wrap .i64 (a1+1)),.own 2 4 0 Zt.length]
abbrev Yf.p0 (a0:Int) (a1:Int):List (Nat × AV):=[(0,.i a0),(1,.i a1),(4,.ptr 0 0 0 0),(6,.ptr 1 0 0 0),(26,.i a1)]
theorem Yf.Qt (a0:Int) (a1:Int) {r:Yi × Int} (H:Yf a0 a1=some r):Xt Tryz.prog 25 [] [.i a0,.i a1] [] (.Ql [.d (Qic r.1),.i r.2]):=by
 refine Wx Tryz.func25 rfl (nt:=53) rfl (lb rfl) fun X hP h0 hX=>?_
 have hT:Qw X.P T:=hP▸tok
 have hf:X.P.funcs[25]? = some Tryz.f25:=hP▸Tryz.func25
 have Yx:∀ (Qr2:Bool),(Yf.j1 a0 a1 Qr2)=some r->AK X 25 ((K25 110 1)) (Ym X [] (.Ql [.d (Qic r.1),.i r.2])) ⟨53,[(0,.i a0),(1,.i a1),(4,.ptr 0 0 0 0),(21,.b Qr2)],[.box 40 [.i 0,.i 0,.ns]]⟩:=by
  intro Qr2 H
  by_cases c4:Qr2=true
  ·replace H:=iT c4 H
   rw [c4]
   refine Xq hT 4 (K25 110100 1) ⟨53,[(4,.ptr 0 0 0 0),(22,.d (.agg [.i 0,.i 0,.ns]))],[.box 40 [.i 0,.i 0,.ns]]⟩ ?_
   refine Qe4 (av:=.d (.agg [.i 0,.i 0,.ns])) (y:=.agg [.i 0,.i 0,Zn true ([]:List Qi)]) [4,22] 22 (st':=⟨53,[(4,.ptr 0 0 0 0),(22,.d (.agg [.i 0,.i 0,Zn true ([]:List Qi)]))],[.box 40 [.i 0,.i 0,.ns]]⟩) (by kernel_rfl) (.Qp6 (.cons (.d _) (.cons (.d _) (.cons (.nil _) .nil)))) (by kernel_rfl) ?_
   refine Xq hT 3 (K25 11010 1) ⟨53,[(4,.ptr 0 0 0 0),(5,.i 1)],[.box 40 [.i 0,.i 0,.d (Zn true ([]:List Qi))]]⟩ ?_
   obtain rfl:=Yt H
   exact Qh4 hT hf hX (av:=.Ql [.d (.agg [.i 0,.i 0,Zn true ([]:List Qi)]),.i 1]) (by kernel_rfl) [] (Qal (by kernel_rfl)) (by decide) (by rw [h0];rfl) (by kernel_rfl) an (.Ql (.cons (.d (.agg (Yi.nl _))) (.cons (.d (.v _)) .nil)))
  replace H:=iF c4 H
  rw [boF c4]
  refine Xq hT 18 (K25 1111010 0) ⟨53,(Yf.p0 a0 a1++[(27,.i 0)]),[.box 40 [.i 0,.i 0,.ns],.box 40 [.i 1,.i (IntKind.wrap .i64 (a1+1)),.ns]]⟩ ?_
  refine Qjx (tb:=40) (cs:=[.i 1,.i (IntKind.wrap .i64 (a1+1)),.ns]) 1 2 4 47 (vec Qi.e Qi.z []) (st':=⟨53,(Yf.p0 a0 a1++[(27,.i 0)]),[.box 40 [.i 0,.i 0,.ns],.box 40 [.i 1,.i (IntKind.wrap .i64 (a1+1)),.own 2 4 0 0],Qku ([]:List Qi)]⟩) (by kernel_rfl) (by kernel_rfl) ?_
  have L:∀ n,(∀ (Qai:Int) (Zt:List Qi),iter (Yf.step a0 a1) n (.l1 Qai Zt)=some r->AK X 25 ((K25 1111010 0)) (Ym X [] (.Ql [.d (Qic r.1),.i r.2])) ⟨53,(Yf.p0 a0 a1++[(27,.i Qai)]),[.box 40 [.i 0,.i 0,.ns],.box 40 (Yf.q3 a1 Zt),Qku Zt]⟩):=by
   intro n
   induction n with
   | zero=>exact fun _ _ H=>Qbh H
   | succ n ih=>
    ·intro Qai Zt H
     refine qI ?_
     rcases sB H with ⟨c5,H⟩ | ⟨c5,H⟩
     ·refine qB hT 5 (decide_eq_true c5) ?_
      refine qE hT 9 (K25 111101001100 1) ⟨53,[(0,.i a0),(1,.i a1),(4,.ptr 0 0 0 0),(6,.ptr 1 0 0 0),(7,.i Qai),(26,.i a1),(27,.i Qai)],[.box 40 [.i 0,.i 0,.ns],.box 40 (Yf.q3 a1 Zt),Qku Zt]⟩ ?_
      obtain ⟨h6,H⟩:=sC H
      obtain ⟨h7,H⟩:=sC H
      refine Qcz (nt:=53) (hP▸mixed) 19 [18] [0,1,4,6,7,26,27] [(0,.i a0),(1,.i a1),(4,.ptr 0 0 0 0),(6,.ptr 1 0 0 0),(7,.i Qai),(26,.i a1),(27,.i Qai)] (sm [.ptr 1 0 0 2,.own 2 4 0 Zt.length,.i Qai,.i (IntKind.wrap .i64 (Qai+1)),.i Qai,.i (IntKind.wrap .i64 (4096 * Qai)),.i a1,.i (IntKind.wrap .i64 (Int.tdiv (IntKind.wrap .i64 (4096 * Qai)) a1)),.i Qai,.i (IntKind.wrap .i64 (Qai+1)),.i (IntKind.wrap .i64 (4096 * (IntKind.wrap .i64 (Qai+1)))),.i a1,.i (Yf.q2 Qai a1),.d (.agg [.i (IntKind.wrap .i64 (Int.tdiv (IntKind.wrap .i64 (4096 * Qai)) a1)),.i (Yf.q2 Qai a1)]),.i Qai,.i a0,.i (Int.tmod Qai a0),.d (.agg [.i (IntKind.wrap .i64 (Qai+1)),.i (IntKind.wrap .i64 (Int.tdiv (IntKind.wrap .i64 (4096 * Qai)) a1)),.i (Yf.q2 Qai a1),.i (Int.tmod Qai a0)]),.own 3 4 0 1]) [[.box 40 [.i 0,.i 0,.ns],.box 40 (Yf.q3 a1 Zt),Qku Zt],[.box 40 [.i 0,.i 0,.ns],.box 40 (Yf.q3 a1 Zt),Qku Zt,.flat false 4 47 1 (fun j=>[[.i (IntKind.wrap .i64 (Qai+1)),.i (IntKind.wrap .i64 (Int.tdiv (IntKind.wrap .i64 (4096 * Qai)) a1)),.i (Yf.q2 Qai a1),.i (Int.tmod Qai a0)]].getD j [])]] (by kernel_rfl) (by kernel_rfl) (by kernel_rfl) (by kernel_rfl) ⟨?_,(Qj4 hT),?_⟩ ?_
      iterate 2 exact (Qcj (Wh (Qir (Wh (Wh (Wh (Qir (Wh (Wh (Wh (Wh (Qir (Wh (Wh (Wh (Wh (Wh (Wh (Wh Qer hT) hT) hT) hT) hT) hT) hT) (fun R rest h=>Qrf hT (op:=.quo) (t:=3) (u:=.int .i64 (IntKind.wrap .i64 (4096 * Qai))) (v:=.int .i64 a1) (z:=.int .i64 (IntKind.wrap .i64 (Int.tdiv (IntKind.wrap .i64 (4096 * Qai)) a1))) (dst:=some 37) (by kernel_rfl) (by simp only [Qjs,if_neg h6];rfl) (by kernel_rfl) h)) hT) hT) hT) hT) (fun R rest h=>Qrf hT (op:=.quo) (t:=3) (u:=.int .i64 (IntKind.wrap .i64 (4096 * (IntKind.wrap .i64 (Qai+1))))) (v:=.int .i64 a1) (z:=.int .i64 (Yf.q2 Qai a1)) (dst:=some 42) (by kernel_rfl) (by simp only [Qjs,if_neg h6];rfl) (by kernel_rfl) h)) hT) hT) hT) (fun R rest h=>Qrf hT (op:=.rem) (t:=3) (u:=.int .i64 Qai) (v:=.int .i64 a0) (z:=.int .i64 (Int.tmod Qai a0)) (dst:=some 46) (by kernel_rfl) (by simp only [Qjs,if_neg h7];rfl) (by kernel_rfl) h)) hT))
      refine Xq hT 0 (K25 1111010011001 19) ⟨53,(Yf.p0 a0 a1++[(27,.i Qai),(31,.own 2 4 0 Zt.length),(48,.own 3 4 0 1)]),[.box 40 [.i 0,.i 0,.ns],.box 40 (Yf.q3 a1 Zt),Qku Zt,.flat false 4 47 1 (fun j=>[[.i (IntKind.wrap .i64 (Qai+1)),.i (IntKind.wrap .i64 (Int.tdiv (IntKind.wrap .i64 (4096 * Qai)) a1)),.i (Yf.q2 Qai a1),.i (Int.tmod Qai a0)]].getD j [])]⟩ ?_
      obtain ⟨h8,H⟩:=sC H
      refine Qeq (id:=2) (kk:=4) (by':=32) (t:=38) (e:=47) (z:=[.int .i64 0,.int .i64 0,.int .i64 0,.int .i64 0]) (dst:=some 49) (id2:=3) (e2:=47) (fz:=false) (k':=(K25 1111010011001 20)) hT Qi.e Qi.z Zt (Yf.q1 Qai a1 a0) [0,1,4,6,26,27,49] (by kernel_rfl) (by kernel_rfl) (by kernel_rfl) (by kernel_rfl) (by kernel_rfl) (by kernel_rfl) (by kernel_rfl) h8 (by omega) (st':=⟨53,(Yf.p0 a0 a1++[(27,.i Qai),(49,.own 4 4 0 ((Zt ++ [(Yf.q1 Qai a1 a0)]).length))]),[.box 40 [.i 0,.i 0,.ns],.box 40 (Yf.q3 a1 Zt),.gone,.flat false 4 47 1 (fun j=>[[.i (IntKind.wrap .i64 (Qai+1)),.i (IntKind.wrap .i64 (Int.tdiv (IntKind.wrap .i64 (4096 * Qai)) a1)),.i (Yf.q2 Qai a1),.i (Int.tmod Qai a0)]].getD j []),Qku (Zt ++ [(Yf.q1 Qai a1 a0)])]⟩) (by kernel_rfl) ?_
      exact Zr hT 9 _ [0,1,4] _ h0 (ih (IntKind.wrap .i64 (Qai+1)) (Zt ++ [(Yf.q1 Qai a1 a0)]) H)
     refine qB hT 5 (decide_eq_false c5) ?_
     refine qE hT 5 (K25 111110 1) ⟨53,[(4,.ptr 0 0 0 0),(52,.agg [.i 1,.i (IntKind.wrap .i64 (a1+1)),.own 2 4 0 Zt.length])],[.box 40 [.i 0,.i 0,.ns],.box 40 (Yf.q3 a1 Zt),Qku Zt]⟩ ?_
     refine Qcb 2 (kk:=4) (n:=Zt.length) (ty:=47) (g:=vec Qi.e Qi.z Zt) (by kernel_rfl) (st':=⟨53,[(4,.ptr 0 0 0 0),(52,.agg [.i 1,.i (IntKind.wrap .i64 (a1+1)),.own 2 4 0 Zt.length])],[.box 40 [.i 0,.i 0,.ns],.box 40 (Yf.q3 a1 Zt),Wjg Zt]⟩) (by kernel_rfl) ?_
     refine Qe4 (av:=.agg [.i 1,.i (IntKind.wrap .i64 (a1+1)),.own 2 4 0 Zt.length]) (y:=.agg [.i 1,.i (IntKind.wrap .i64 (a1+1)),Zn true Zt]) [4,52] 52 (st':=⟨53,[(4,.ptr 0 0 0 0),(52,.d (.agg [.i 1,.i (IntKind.wrap .i64 (a1+1)),Zn true Zt]))],[.box 40 [.i 0,.i 0,.ns],.box 40 (Yf.q3 a1 Zt),Wjg Zt]⟩) (by kernel_rfl) (.agg (.cons (.d _) (.cons (.d _) (.cons (.own (ty:=47) (k:=4) (by kernel_rfl)) .nil)))) (by kernel_rfl) ?_
     refine Xq hT 3 (K25 11111 1) ⟨53,[(4,.ptr 0 0 0 0),(5,.i 0)],[.box 40 [.i 1,.i (IntKind.wrap .i64 (a1+1)),.d (Zn true Zt)],.box 40 (Yf.q3 a1 Zt),Wjg Zt]⟩ ?_
     obtain rfl:=Yt H
     exact Qh4 hT hf hX (av:=.Ql [.d (.agg [.i 1,.i (IntKind.wrap .i64 (a1+1)),Zn true Zt]),.i 0]) (by kernel_rfl) [] (Qal (by kernel_rfl)) (by decide) (by rw [h0];rfl) (by kernel_rfl) an (.Ql (.cons (.d (.agg (Yi.nl _))) (.cons (.d (.v _)) .nil)))
  refine Qik [0,1,2] ⟨53,(Yf.p0 a0 a1++[(27,.i 0)]),[.box 40 [.i 0,.i 0,.ns],.box 40 [.i 1,.i (IntKind.wrap .i64 (a1+1)),.own 2 4 0 ([]:List Qi).length],Qku ([]:List Qi)]⟩ h0 ?_
  obtain ⟨n,H⟩:=Qbw H
  exact (L n) 0 ([]:List Qi) H
 refine qI ?_
 rcases iB H with ⟨c1,H⟩ | ⟨c1,H⟩
 ·refine qB hT 11 (decide_eq_true c1) ?_
  exact qE hT 12 _ _ (Yx true H)
 refine qB hT 11 (decide_eq_false c1) ?_
 rcases iB H with ⟨c2,H⟩ | ⟨c2,H⟩
 ·refine qB hT 4 (decide_eq_true c2) ?_
  exact qE hT 8 _ _ (Yx true H)
 refine qB hT 4 (decide_eq_false c2) ?_
 refine qE hT 4 (K25 1100 11) ⟨53,[(0,.i a0),(1,.i a1),(4,.ptr 0 0 0 0),(18,.b (decide (a1 < 1)))],[.box 40 [.i 0,.i 0,.ns]]⟩ ?_
 refine qI ?_
 rcases iB H with ⟨c3,H⟩ | ⟨c3,H⟩
 ·refine qB hT 0 (decide_eq_true c3) ?_
  exact qE hT 4 _ _ (Yx true H)
 refine qB hT 0 (decide_eq_false c3) ?_
 exact qE hT 4 _ _ (Yx (decide (a1 > 24)) H)
theorem Qf6.Qt {r:Yi} (H:Qf6=some r):Xt Tryz.prog 8 [] [] [] (.d (Qic r)):=by
 refine Wx Tryz.func8 rfl (nt:=8) rfl (lb rfl) fun X hP h0 hX=>?_
 have hT:Qw X.P T:=hP▸tok
 have hf:X.P.funcs[8]? = some Tryz.f8:=hP▸Tryz.func8
 refine qI ?_
 obtain ⟨v1,h1,H⟩:=ibC H
 refine qF hT 6 hP Wf3 (Yf.Qt 1 1 h1) ?_
 refine qE hT 12 (K8 111 1) ⟨8,[(0,.ptr 0 0 0 0)],[.box 40 (Qdi v1.1),.box 40 (Qdi v1.1)]⟩ ?_
 obtain rfl:=Yt H
 exact Qh4 hT hf hX (av:=.d (Qic v1.1)) (by kernel_rfl) [] (Qal (by kernel_rfl)) (by decide) (by rw [h0];rfl) (by kernel_rfl) an (.d (.agg (Yi.nl _)))
theorem Qee.Qt (a0:Int):Xt Tryz.prog 98 [] [.i a0] [] (.b (Qee a0)):=by
 obtain ⟨r,H⟩:∃ r,Qee a0=r:=⟨_,rfl⟩
 rw [H]
 refine Wx Tryz.func98 rfl (nt:=9) rfl (lb rfl) fun X hP h0 hX=>?_
 have hT:Qw X.P T:=hP▸tok
 have hf:X.P.funcs[98]? = some Tryz.f98:=hP▸Tryz.func98
 have Yx:∀ (Qcu:Bool),(Qee.j1 Qcu)=r->AK X 98 ((K98 11 1)) (Ym X [] (.b r)) ⟨9,[(2,.b Qcu)],[]⟩:=by
  intro Qcu H
  obtain rfl:=H
  exact Qd9 hf hX h0 (.b Qcu) [] an (.d (.v _))
 refine qI ?_
 rcases iB H with ⟨c1,H⟩ | ⟨c1,H⟩
 ·refine qB hT 9 (decide_eq_true c1) ?_
  exact qE hT 5 _ _ (Yx (decide (a0 < 5)) H)
 refine qB hT 9 (decide_eq_false c1) ?_
 exact qE hT 5 _ _ (Yx false H)
theorem Qga.Qt (a0:Qi) (k0:Qi):Xt Tryz.prog 141 [] [.d (Qu7 a0),.d (.rop false 1 (fun _=>[.i k0.ID,.i k0.Keys.Lo,.i k0.Keys.Hi,.i k0.Node]) 0 0)] [] (.b (Qga a0 k0)):=by
 obtain ⟨r,H⟩:∃ r,Qga a0 k0=r:=⟨_,rfl⟩
 rw [H]
 refine Wx Tryz.func141 rfl (nt:=9) rfl (lb rfl) fun X hP h0 hX=>?_
 have hT:Qw X.P T:=hP▸tok
 have hf:X.P.funcs[141]? = some Tryz.f141:=hP▸Tryz.func141
 refine qI ?_
 obtain rfl:=H
 exact qT hT 14 hf hX h0 [] an (.d (.v _))
abbrev Qbp.p0 (t0:Bool) (a0:List Qi):List (Nat × AV):=[(0,.d (Zn t0 a0)),(5,.d (Zn t0 a0)),(6,.i (a0.length:Int))]
theorem Qbp.Qt {t0:Bool} (a0:List Qi) {r:Bool} (H:Qbp a0=some r):Xt Tryz.prog 99 [] [.d (Zn t0 a0)] [] (.b r):=by
 refine Wx Tryz.func99 rfl (nt:=18) rfl (lb rfl) fun X hP h0 hX=>?_
 have hT:Qw X.P T:=hP▸tok
 have hf:X.P.funcs[99]? = some Tryz.f99:=hP▸Tryz.func99
 refine Xq hT 13 (K99 11010 0) ⟨18,(Qbp.p0 t0 a0++[(7,.i 0)]),[]⟩ ?_
 have L:∀ n,(∀ (Xp:Int),iter (Qbp.step a0) n (.l1 Xp)=some r->AK X 99 ((K99 11010 0)) (Ym X [] (.b r)) ⟨18,(Qbp.p0 t0 a0++[(7,.i Xp)]),[]⟩):=by
  intro n
  induction n with
  | zero=>exact fun _ H=>Qbh H
  | succ n ih=>
   ·intro Xp H
    refine qI ?_
    rcases sB H with ⟨c1,H⟩ | ⟨c1,H⟩
    ·refine qB hT 5 (decide_eq_true c1) ?_
     obtain ⟨h2,H⟩:=sC H
     refine qX hT 7 h2 ?_
     refine qE hT 9 (K99 110100110010 2) ⟨18,[(0,.d (Zn t0 a0)),(4,.ptr 0 0 0 0),(5,.d (Zn t0 a0)),(6,.i (a0.length:Int)),(7,.i Xp),(12,.d (Zn t0 a0)),(13,.i Xp)],[.box 47 (Qfc (a0.getD Xp.toNat Qi.z))]⟩ ?_
     obtain ⟨h3,H⟩:=sC H
     refine Wff (tg:=t0) (s:=4) (l:=none) (h:=(some (.i64,Xp))) (dst:=some 14) (k':=(K99 110100110010 3)) hT [0,4,5,6,7,14] Qi.e Qi.z a0 (by kernel_rfl) h3 (fun _=>rfl) (st':=⟨18,[(0,.d (Zn t0 a0)),(4,.ptr 0 0 0 0),(5,.d (Zn t0 a0)),(6,.i (a0.length:Int)),(7,.i Xp),(14,.d (Zn t0 ((a0.drop 0).take (Xp.toNat - 0))))],[.box 47 (Qfc (a0.getD Xp.toNat Qi.z))]⟩) (by kernel_rfl) ?_
     refine Xq hT 1 (K99 110100110010 4) ⟨18,(Qbp.p0 t0 a0++[(7,.i Xp),(14,.d (Zn t0 ((a0.drop 0).take (Xp.toNat - 0)))),(15,.fn 141 [.ptr 0 0 0 0])]),[.box 47 (Qfc (a0.getD Xp.toNat Qi.z))]⟩ ?_
     obtain ⟨v1,h4,H⟩:=sbC H
     refine Zd (Xx:=[.d (Zn t0 ((a0.drop 0).take (Xp.toNat - 0))),.fn 141 [.ptr 0 0 0 0]]) (dst:=some 16) (k':=(K99 110100110010 5)) [0,5,6,7,16] [] hP Qwd (Qap.Qt (t0:=t0) (ff1:=141) (cc1:=[.rop false 1 (fun _=>[.i ((a0.getD Xp.toNat Qi.z).ID),.i (((a0.getD Xp.toNat Qi.z).Keys).Lo),.i (((a0.getD Xp.toNat Qi.z).Keys).Hi),.i ((a0.getD Xp.toNat Qi.z).Node)]) 0 0]) ((a0.drop 0).take (Xp.toNat - 0)) (fun z0=>some (Qga z0 (a0.getD Xp.toNat Qi.z))) Wcz (fun z0 r h=>by obtain rfl:=Yt h;exact Qga.Qt z0 (a0.getD Xp.toNat Qi.z)) h4) (by kernel_rfl) (Qao _) (.cons (Qk _) (.cons (.fn 141 (.cons (.look (ty:=47) (cs:=[.i ((a0.getD Xp.toNat Qi.z).ID),.i (((a0.getD Xp.toNat Qi.z).Keys).Lo),.i (((a0.getD Xp.toNat Qi.z).Keys).Hi),.i ((a0.getD Xp.toNat Qi.z).Node)]) (by kernel_rfl) rfl) .nil)) .nil)) (st':=⟨18,(Qbp.p0 t0 a0++[(7,.i Xp),(16,.b v1)]),[.box 47 (Qfc (a0.getD Xp.toNat Qi.z))]⟩) (by kernel_rfl) ?_
     refine qI ?_
     rcases sB H with ⟨c5,H⟩ | ⟨c5,H⟩
     ·refine qB hT 1 (c5) ?_
      obtain rfl:=Yt H
      exact qT hT 5 hf hX h0 [] an (.d (.v _))
     refine qB hT 1 (boF c5) ?_
     exact qC hT 8 _ [] _ h0 (ih (IntKind.wrap .i64 (Xp+1)) H)
    refine qB hT 5 (decide_eq_false c1) ?_
    obtain rfl:=Yt H
    exact qT hT 6 hf hX h0 [] an (.d (.v _))
 obtain ⟨n,H⟩:=Qbw H
 exact (L n) 0 H
abbrev Yo.q1 (a0:Yi) (Qbq:Int):List Row:=[.box 40 (Qdi a0),.box 47 (Qfc (a0.L.getD Qbq.toNat Qi.z))]
theorem Yo.Qt (a0:Yi) {r:Bool} (H:Yo a0=some r):Xt Tryz.prog 59 [] [.d (Qic a0)] [] (.b r):=by
 refine Wx Tryz.func59 rfl (nt:=83) rfl (lb rfl) fun X hP h0 hX=>?_
 have hT:Qw X.P T:=hP▸tok
 have hf:X.P.funcs[59]? = some Tryz.f59:=hP▸Tryz.func59
 have Yx:∀ (Qsa:Bool),(Yo.j1 a0 Qsa)=some r->AK X 59 ((K59 110 1)) (Ym X [] (.b r)) ⟨83,[(1,.ptr 0 0 0 0),(35,.b Qsa)],[.box 40 (Qdi a0)]⟩:=by
  intro Qsa H
  by_cases c6:Qsa=true
  ·replace H:=iT c6 H
   cases (show (none:Option _)=some _ from H)
  replace H:=iF c6 H
  rw [boF c6]
  refine Xq hT 16 (K59 1111010 0) ⟨83,[(1,.ptr 0 0 0 0),(3,.i 0),(37,.d (Zn true a0.L)),(38,.i (a0.L.length:Int)),(39,.i 0)],[.box 40 (Qdi a0)]⟩ ?_
  have L:∀ n,(∀ (Yz:Int) (Qbq:Int),iter (Yo.step a0) n (.l1 Yz Qbq)=some r->AK X 59 ((K59 1111010 0)) (Ym X [] (.b r)) ⟨83,[(1,.ptr 0 0 0 0),(3,.i Yz),(37,.d (Zn true a0.L)),(38,.i (a0.L.length:Int)),(39,.i Qbq)],[.box 40 (Qdi a0)]⟩):=by
   intro n
   induction n with
   | zero=>exact fun _ _ H=>Qbh H
   | succ n ih=>
    ·intro Yz Qbq H
     refine Xq hT 5 (K59 111101001 0) ⟨83,[(1,.ptr 0 0 0 0),(3,.i Yz),(37,.d (Zn true a0.L)),(38,.i (a0.L.length:Int)),(39,.i Qbq),(40,.b (decide (Qbq < (a0.L.length:Int))))],[.box 40 (Qdi a0)]⟩ ?_
     by_cases c7:Qbq < (a0.L.length:Int)
     ·replace H:=sT c7 H
      rw [decide_eq_true c7]
      refine qI ?_
      obtain ⟨h10,H⟩:=sC H
      have Jj3:∀ (Qsi:Bool),Jq (Yo.j3 a0 Qbq Qsi) (iter (Yo.step a0) n)=some r->AK X 59 ((K59 11110100110010 1)) (Ym X [] (.b r)) ⟨83,[(1,.ptr 0 0 0 0),(5,.ptr 1 0 0 0),(37,.d (Zn true a0.L)),(38,.i (a0.L.length:Int)),(39,.i Qbq),(71,.b Qsi)],(Yo.q1 a0 Qbq)⟩:=by
       intro Qsi H
       by_cases c15:Qsi=true
       ·replace H:=sT c15 H
        cases (show (none:Option _)=some _ from H)
       replace H:=sF c15 H
       rw [boF c15]
       exact Zr hT 14 _ [0] _ h0 (ih (((a0.L.getD Qbq.toNat Qi.z).Keys).Hi) (IntKind.wrap .i64 (Qbq+1)) H)
      refine qX hT 6 h10 ?_
      rcases sB H with ⟨c11,H⟩ | ⟨c11,H⟩
      ·refine qB hT 11 (decide_eq_true c11) ?_
       exact qE hT 26 _ _ (Jj3 true H)
      refine qB hT 11 (decide_eq_false c11) ?_
      refine qE hT 7 (K59 111101001100100 11) ⟨83,[(1,.ptr 0 0 0 0),(3,.i Yz),(5,.ptr 1 0 0 0),(37,.d (Zn true a0.L)),(38,.i (a0.L.length:Int)),(39,.i Qbq),(53,.b (decide (((a0.L.getD Qbq.toNat Qi.z).ID)>=a0.Next)))],(Yo.q1 a0 Qbq)⟩ ?_
      refine qI ?_
      rcases sB H with ⟨c12,H⟩ | ⟨c12,H⟩
      ·refine qB hT 0 (decide_eq_true c12) ?_
       exact qE hT 19 _ _ (Jj3 true H)
      refine qB hT 0 (decide_eq_false c12) ?_
      refine qF hT 2 hP Wgy (Qee.Qt ((a0.L.getD Qbq.toNat Qi.z).Node)) ?_
      refine qE hT 3 (K59 111101001100100 17) ⟨83,[(1,.ptr 0 0 0 0),(3,.i Yz),(5,.ptr 1 0 0 0),(37,.d (Zn true a0.L)),(38,.i (a0.L.length:Int)),(39,.i Qbq),(59,.b (!(Qee ((a0.L.getD Qbq.toNat Qi.z).Node))))],(Yo.q1 a0 Qbq)⟩ ?_
      refine qI ?_
      rcases sB H with ⟨c13,H⟩ | ⟨c13,H⟩
      ·refine qB hT 0 (show (!(Qee ((a0.L.getD Qbq.toNat Qi.z).Node)))=false by rw [c13];rfl) ?_
       refine qF hT 2 hP Qhl (Qbk.Qt ((a0.L.getD Qbq.toNat Qi.z).Keys)) ?_
       refine qE hT 3 (K59 111101001100100 23) ⟨83,[(1,.ptr 0 0 0 0),(3,.i Yz),(5,.ptr 1 0 0 0),(37,.d (Zn true a0.L)),(38,.i (a0.L.length:Int)),(39,.i Qbq),(65,.b (!(Qbk ((a0.L.getD Qbq.toNat Qi.z).Keys))))],(Yo.q1 a0 Qbq)⟩ ?_
       refine qI ?_
       rcases sB H with ⟨c14,H⟩ | ⟨c14,H⟩
       ·refine qB hT 0 (show (!(Qbk ((a0.L.getD Qbq.toNat Qi.z).Keys)))=false by rw [c14];rfl) ?_
        exact qE hT 7 _ _ (Jj3 ((((a0.L.getD Qbq.toNat Qi.z).Keys).Lo) != Yz) H)
       refine qB hT 0 (show (!(Qbk ((a0.L.getD Qbq.toNat Qi.z).Keys)))=true by rw [boF c14];rfl) ?_
       exact qE hT 7 _ _ (Jj3 true H)
      refine qB hT 0 (show (!(Qee ((a0.L.getD Qbq.toNat Qi.z).Node)))=true by rw [boF c13];rfl) ?_
      exact qE hT 13 _ _ (Jj3 true H)
     replace H:=sF c7 H
     have Jj2:∀ (Qk7:Bool),Jq (Yo.j2 Qk7) (iter (Yo.step a0) n)=some r->AK X 59 ((K59 11111 1)) (Ym X [] (.b r)) ⟨83,[(2,.b Qk7)],[]⟩:=by
      intro Qk7 H
      obtain rfl:=Yt H
      exact Qd9 hf hX h0 (.b Qk7) [] an (.d (.v _))
     rw [decide_eq_false c7]
     refine Xq hT 7 (K59 111110 3) ⟨83,[(1,.ptr 0 0 0 0),(78,.b (Yz == 4096))],[.box 40 (Qdi a0)]⟩ ?_
     by_cases c8:Yz=4096
     ·replace H:=sT c8 H
      rw [eqT c8]
      refine qI ?_
      obtain ⟨v1,h9,H⟩:=sbC H
      refine qF hT 2 hP Wgz (Qbp.Qt (t0:=true) a0.L h9) ?_
      exact qC hT 3 _ [] _ h0 (Jj2 v1 H)
     replace H:=sF c8 H
     rw [eqF c8]
     exact Zr hT 6 _ [] _ h0 (Jj2 false H)
  obtain ⟨n,H⟩:=Qbw H
  exact (L n) 0 0 H
 refine qI ?_
 rcases iB H with ⟨c1,H⟩ | ⟨c1,H⟩
 ·refine qB hT 12 (decide_eq_true c1) ?_
  exact qE hT 27 _ _ (Yx true H)
 refine qB hT 12 (decide_eq_false c1) ?_
 rcases iB H with ⟨c2,H⟩ | ⟨c2,H⟩
 ·refine qB hT 5 (decide_eq_true c2) ?_
  exact qE hT 22 _ _ (Yx true H)
 refine qB hT 5 (decide_eq_false c2) ?_
 refine qE hT 5 (K59 1100 14) ⟨83,[(1,.ptr 0 0 0 0),(19,.b (decide (a0.Next < 1)))],[.box 40 (Qdi a0)]⟩ ?_
 refine qI ?_
 rcases iB H with ⟨c3,H⟩ | ⟨c3,H⟩
 ·refine qB hT 0 (decide_eq_true c3) ?_
  exact qE hT 17 _ _ (Yx true H)
 refine qB hT 0 (decide_eq_false c3) ?_
 rcases iB H with ⟨c4,H⟩ | ⟨c4,H⟩
 ·refine qB hT 5 (decide_eq_true c4) ?_
  exact qE hT 12 _ _ (Yx true H)
 refine qB hT 5 (decide_eq_false c4) ?_
 refine qE hT 6 (K59 1100 25) ⟨83,[(1,.ptr 0 0 0 0),(30,.b (decide ((a0.L.length:Int) < 1)))],[.box 40 (Qdi a0)]⟩ ?_
 refine qI ?_
 rcases iB H with ⟨c5,H⟩ | ⟨c5,H⟩
 ·refine qB hT 0 (decide_eq_true c5) ?_
  exact qE hT 6 _ _ (Yx true H)
 refine qB hT 0 (decide_eq_false c5) ?_
 exact qE hT 6 _ _ (Yx (decide ((a0.L.length:Int) > 24)) H)
abbrev Zv.q1 (a0:Yi) (Qca:Int):=([((a0.L.getD Qca.toNat Qi.z).Keys)]:List Qb)
theorem Zv.Qt {t1:Bool} (a0:Yi) (a1:List Qb) {r:List Int} (H:Zv a0 a1=some r):Xt Tryz.prog 22 [] [.d (Qic a0),.d (Yp t1 a1)] [eR3 r] (.own 0 1 0 r.length):=by
 refine Wx Tryz.func22 rfl (nt:=30) rfl (lb rfl) fun X hP h0 hX=>?_
 have hT:Qw X.P T:=hP▸tok
 have hf:X.P.funcs[22]? = some Tryz.f22:=hP▸Tryz.func22
 refine qI ?_
 obtain ⟨v1,h1,H⟩:=ibC H
 refine qF hT 9 hP Qwg (Yo.Qt a0 h1) ?_
 rcases iB H with ⟨c2,H⟩ | ⟨c2,H⟩
 ·refine qB hT 2 (show (!v1)=false by rw [c2];rfl) ?_
  refine qE hT 16 (K22 1111010 0) ⟨30,[(1,.d (Yp t1 a1)),(5,.ns),(12,.d (Zn true a0.L)),(13,.i (a0.L.length:Int)),(14,.i 0)],[.box 40 (Qdi a0)]⟩ ?_
  refine Qd1 [1,5,12,13,14] 5 1 3 (vec (eI .i64) 0 []) (st':=⟨30,[(1,.d (Yp t1 a1)),(5,.own 1 1 0 0),(12,.d (Zn true a0.L)),(13,.i (a0.L.length:Int)),(14,.i 0)],[.box 40 (Qdi a0),eR3 ([]:List Int)]⟩) (by kernel_rfl) (by kernel_rfl) ?_
  have L:∀ n,(∀ (Qca:Int) (Qm:List Int),iter (Zv.step a0 a1) n (.l1 Qca Qm)=some r->AK X 22 ((K22 1111010 0)) (Ym X [eR3 r] (.own 0 1 0 r.length)) ⟨30,[(1,.d (Yp t1 a1)),(5,.own 0 1 0 Qm.length),(12,.d (Zn true a0.L)),(13,.i (a0.L.length:Int)),(14,.i Qca)],[eR3 Qm]⟩):=by
   intro n
   induction n with
   | zero=>exact fun _ _ H=>Qbh H
   | succ n ih=>
    ·intro Qca Qm H
     refine qI ?_
     rcases sB H with ⟨c3,H⟩ | ⟨c3,H⟩
     ·refine qB hT 5 (decide_eq_true c3) ?_
      obtain ⟨h4,H⟩:=sC H
      refine qX hT 6 h4 ?_
      refine qE hT 10 (K22 11110100110010 4) ⟨30,[(1,.d (Yp t1 a1)),(5,.own 0 1 0 Qm.length),(7,.ptr 1 0 0 0),(12,.d (Zn true a0.L)),(13,.i (a0.L.length:Int)),(14,.i Qca),(20,.own 2 2 0 1),(21,.d (Yp t1 a1))],[eR3 Qm,.box 47 (Qfc (a0.L.getD Qca.toNat Qi.z)),.flat false 2 24 1 (fun j=>[Qb.e ((a0.L.getD Qca.toNat Qi.z).Keys)].getD j [])]⟩ ?_
      refine Qgp 2 (kk:=2) (fz:=false) (ty:=24) (n:=(Zv.q1 a0 Qca).length) (vec Qb.e Qb.z (Zv.q1 a0 Qca)) (by kernel_rfl) Qhh (st':=⟨30,[(1,.d (Yp t1 a1)),(5,.own 0 1 0 Qm.length),(7,.ptr 1 0 0 0),(12,.d (Zn true a0.L)),(13,.i (a0.L.length:Int)),(14,.i Qca),(20,.own 2 2 0 ((Zv.q1 a0 Qca).length)),(21,.d (Yp t1 a1))],[eR3 Qm,.box 47 (Qfc (a0.L.getD Qca.toNat Qi.z)),Je (Zv.q1 a0 Qca)]⟩) (by kernel_rfl) ?_
      obtain ⟨v2,h5,H⟩:=sbC H
      have Yx:∀ (Qh1:List Int),Jq (Zv.j1 Qca Qh1) (iter (Zv.step a0 a1) n)=some r->AK X 22 ((K22 1111010011 1)) (Ym X [eR3 r] (.own 0 1 0 r.length)) ⟨30,[(1,.d (Yp t1 a1)),(5,.own 0 1 0 Qh1.length),(12,.d (Zn true a0.L)),(13,.i (a0.L.length:Int)),(14,.i Qca)],[eR3 Qh1]⟩:=by
       intro Qh1 H
       exact Xq hT 5 _ _ (ih (IntKind.wrap .i64 (Qca+1)) Qh1 H)
      refine qI ?_
      refine qF hT 0 hP Qqf (Qc0.Qt (t0:=false) (t1:=t1) (Zv.q1 a0 Qca) a1 h5) ?_
      rcases sB H with ⟨c6,H⟩ | ⟨c6,H⟩
      ·refine qB hT 1 (c6) ?_
       refine qE hT 6 (K22 111101001100110 4) ⟨30,[(1,.d (Yp t1 a1)),(12,.d (Zn true a0.L)),(13,.i (a0.L.length:Int)),(14,.i Qca),(23,.own 0 1 0 Qm.length),(26,.own 3 1 0 1)],[eR3 Qm,.box 47 (Qfc (a0.L.getD Qca.toNat Qi.z)),Je (Zv.q1 a0 Qca),.flat false 1 3 1 (fun j=>[[.i ((a0.L.getD Qca.toNat Qi.z).ID)]].getD j [])]⟩ ?_
       obtain ⟨h7,H⟩:=sC H
       refine Qeq (id:=0) (kk:=1) (by':=8) (t:=64) (e:=3) (z:=[.int .i64 0]) (dst:=some 27) (id2:=3) (e2:=3) (fz:=false) (k':=(K22 111101001100110 5)) hT (eI .i64) 0 Qm ((a0.L.getD Qca.toNat Qi.z).ID) [1,12,13,14,27] (by kernel_rfl) (by kernel_rfl) (by kernel_rfl) (by kernel_rfl) (by kernel_rfl) (by kernel_rfl) (by kernel_rfl) h7 (by omega) (st':=⟨30,[(1,.d (Yp t1 a1)),(12,.d (Zn true a0.L)),(13,.i (a0.L.length:Int)),(14,.i Qca),(27,.own 4 1 0 ((Qm ++ [(a0.L.getD Qca.toNat Qi.z).ID]).length))],[.gone,.box 47 (Qfc (a0.L.getD Qca.toNat Qi.z)),Je (Zv.q1 a0 Qca),.flat false 1 3 1 (fun j=>[[.i ((a0.L.getD Qca.toNat Qi.z).ID)]].getD j []),eR3 (Qm ++ [(a0.L.getD Qca.toNat Qi.z).ID])]⟩) (by kernel_rfl) ?_
       exact Zr hT 3 _ [4] _ h0 (Yx (Qm ++ [(a0.L.getD Qca.toNat Qi.z).ID]) H)
      refine qB hT 1 (boF c6) ?_
      exact qC hT 3 _ [0] _ h0 (Yx Qm H)
     refine qB hT 5 (decide_eq_false c3) ?_
     obtain rfl:=Yt H
     exact qT hT 7 hf hX h0 [0] (ac (Xa (nlI .i64)) an) (.own _ _ _ _)
  refine Qik [1] ⟨30,[(1,.d (Yp t1 a1)),(5,.own 0 1 0 ([]:List Int).length),(12,.d (Zn true a0.L)),(13,.i (a0.L.length:Int)),(14,.i 0)],[eR3 ([]:List Int)]⟩ h0 ?_
  obtain ⟨n,H⟩:=Qbw H
  exact (L n) 0 ([]:List Int) H
 refine qB hT 2 (show (!v1)=true by rw [boF c2];rfl) ?_
 refine qE hT 5 (K22 11010 1) ⟨30,[(4,.ns)],[.box 40 (Qdi a0)]⟩ ?_
 refine Qd1 [4] 4 1 3 (vec (eI .i64) 0 []) (st':=⟨30,[(4,.own 1 1 0 0)],[.box 40 (Qdi a0),eR3 ([]:List Int)]⟩) (by kernel_rfl) (by kernel_rfl) ?_
 obtain rfl:=Yt H
 exact Qd9 hf hX h0 (.own 1 1 0 0) [1] (ac (Xa (nlI .i64)) an) (.own _ _ _ _)
theorem Qdl.Qt (a0:Qc) (a1:Int) (a2:Int) {r:Int × Bool} (H:Qdl a0 a1 a2=some r):Xt Tryz.prog 70 [] [.d (.agg [.i a0.ID,.i a0.Keys.Lo,.i a0.Keys.Hi,.i a0.Clock,.b a0.Ws,.b a0.Wn,Qac false a0.Held,We true a0.Base,Zl false a0.Log,Zy false a0.Known]),.i a1,.i a2] [] (.Ql [.i r.1,.b r.2]):=by
 refine Wx Tryz.func70 rfl (nt:=16) rfl (lb rfl) fun X hP h0 hX=>?_
 have hT:Qw X.P T:=hP▸tok
 have hf:X.P.funcs[70]? = some Tryz.f70:=hP▸Tryz.func70
 refine qI ?_
 obtain ⟨v1,h1,H⟩:=ibC H
 refine qF hT 13 hP Qo3 (Qu.Qt (t0:=false) (ff2:=114) (cc2:=[]) a0.Known (⟨a1,a2,0,false⟩:Qg) (fun z0 z1=>Qcp z0 z1) Ql0 (fun z0 z1 r h=>Qcp.Qt z0 z1 h) h1) ?_
 obtain rfl:=Yt H
 exact qT hT 5 hf hX h0 [] an (.Ql (.cons (.d (.v _)) (.cons (.d (.v _)) .nil)))
theorem Zg.Qt {t0:Bool} {ff1:FuncId} {cc1:List DV} (a0:List Qh) (p1:Qh->Option Bool) (he1:Sy.Enters Tryz.prog ff1) (hp1:∀ (z0:Qh) r,p1 z0=some r->Xt Tryz.prog ff1 [] ([.d (Qft z0)] ++ List.map AV.d cc1) [] (.b r)) {r:Int} (H:Zg a0 p1=some r):Xt Tryz.prog 156 [] [.d (Qac t0 a0),.d (.fn ff1 cc1)] [] (.i r):=by
 refine Wx Tryz.func156 rfl (nt:=19) rfl (lb rfl) fun X hP h0 hX=>?_
 have hT:Qw X.P T:=hP▸tok
 have hf:X.P.funcs[156]? = some Tryz.f156:=hP▸Tryz.func156
 refine Xq hT 13 (Wb4 11010 0) ⟨19,[(0,.d (Qac t0 a0)),(1,.d (.fn ff1 cc1)),(7,.i (a0.length:Int)),(8,.i 0)],[]⟩ ?_
 have L:∀ n,(∀ (Wi:Int),iter (Zg.step a0 p1) n (.l1 Wi)=some r->AK X 156 ((Wb4 11010 0)) (Ym X [] (.i r)) ⟨19,[(0,.d (Qac t0 a0)),(1,.d (.fn ff1 cc1)),(7,.i (a0.length:Int)),(8,.i Wi)],[]⟩):=by
  intro n
  induction n with
  | zero=>exact fun _ H=>Qbh H
  | succ n ih=>
   ·intro Wi H
    refine qI ?_
    rcases sB H with ⟨c1,H⟩ | ⟨c1,H⟩
    ·refine qB hT 5 (decide_eq_true c1) ?_
     obtain ⟨h2,H⟩:=sC H
     refine qX hT 14 h2 ?_
     refine qE hT 1 (Wb4 110100110010 5) ⟨19,[(0,.d (Qac t0 a0)),(1,.d (.fn ff1 cc1)),(5,.i Wi),(7,.i (a0.length:Int)),(8,.i Wi),(11,.d (.fn ff1 cc1)),(15,.d (Qft (a0.getD Wi.toNat Qh.z)))],[]⟩ ?_
     obtain ⟨v1,h3,H⟩:=sbC H
     refine Zd (Xx:=[.d (Qft (a0.getD Wi.toNat Qh.z))] ++ List.map AV.d cc1) (dst:=some 16) (k':=(Wb4 110100110010 6)) [0,1,5,7,8,16] [] hP he1 (hp1 (a0.getD Wi.toNat Qh.z) v1 h3) (by kernel_rfl) (Qao _) (.cons (Qk _) (Qfn _)) (st':=⟨19,[(0,.d (Qac t0 a0)),(1,.d (.fn ff1 cc1)),(5,.i Wi),(7,.i (a0.length:Int)),(8,.i Wi),(16,.b v1)],[]⟩) (by kernel_rfl) ?_
     refine qI ?_
     rcases sB H with ⟨c4,H⟩ | ⟨c4,H⟩
     ·refine qB hT 1 (c4) ?_
      obtain rfl:=Yt H
      exact qT hT 6 hf hX h0 [] an (.d (.v _))
     refine qB hT 1 (boF c4) ?_
     exact qE hT 8 _ _ (ih (IntKind.wrap .i64 (Wi+1)) H)
    refine qB hT 5 (decide_eq_false c1) ?_
    obtain rfl:=Yt H
    exact qT hT 6 hf hX h0 [] an (.d (.v _))
 obtain ⟨n,H⟩:=Qbw H
 exact (L n) 0 H
theorem Qd0.Qt (a0:Qh) (k0:Int) (k1:Int):Xt Tryz.prog 157 [] [.d (Qft a0),.d (.rop false 1 (fun _=>[.i k0]) 0 0),.d (.rop false 1 (fun _=>[.i k1]) 0 0)] [] (.b (Qd0 a0 k0 k1)):=by
 obtain ⟨r,H⟩:∃ r,Qd0 a0 k0 k1=r:=⟨_,rfl⟩
 rw [H]
 refine Wx Tryz.func157 rfl (nt:=17) rfl (lb rfl) fun X hP h0 hX=>?_
 have hT:Qw X.P T:=hP▸tok
 have hf:X.P.funcs[157]? = some Tryz.f157:=hP▸Tryz.func157
 have Yx:∀ (Qhj:Bool),(Qd0.j1 Qhj)=r->AK X 157 ((Wnq 11 1)) (Ym X [] (.b r)) ⟨17,[(4,.b Qhj)],[]⟩:=by
  intro Qhj H
  obtain rfl:=H
  exact Qd9 hf hX h0 (.b Qhj) [] an (.d (.v _))
 refine Xq hT 13 (Wnq 110 6) ⟨17,[(2,.d (.rop false 1 (fun _=>[.i k1]) 0 0)),(3,.ptr 0 0 0 0),(10,.b (a0.M.Client == k0))],[.box 138 (Qef a0)]⟩ ?_
 by_cases c1:a0.M.Client=k0
 ·replace H:=iT c1 H
  rw [eqT c1]
  exact Zr hT 8 _ [] _ h0 (Yx (a0.M.Seq == k1) H)
 replace H:=iF c1 H
 rw [eqF c1]
 exact Zr hT 8 _ [] _ h0 (Yx false H)
abbrev Qaz.q1 (a0:Qc):List AV:=[.i a0.ID,.i a0.Keys.Lo,.i a0.Keys.Hi,.i a0.Clock,.b a0.Ws,.b a0.Wn,.d (Qac false a0.Held),.d (We true a0.Base),.d (Zl false a0.Log),.d (Zy false a0.Known)]
theorem Qaz.Qt (a0:Qc) (a1:Int) (a2:Int) {r:Int} (H:Qaz a0 a1 a2=some r):Xt Tryz.prog 118 [] [.d (.agg [.i a0.ID,.i a0.Keys.Lo,.i a0.Keys.Hi,.i a0.Clock,.b a0.Ws,.b a0.Wn,Qac false a0.Held,We true a0.Base,Zl false a0.Log,Zy false a0.Known]),.i a1,.i a2] [] (.i r):=by
 refine Wx Tryz.func118 rfl (nt:=11) rfl (lb rfl) fun X hP h0 hX=>?_
 have hT:Qw X.P T:=hP▸tok
 have hf:X.P.funcs[118]? = some Tryz.f118:=hP▸Tryz.func118
 refine Xq hT 12 (Wnj 110 3) ⟨11,[(8,.d (Qac false a0.Held)),(9,.fn 157 [.ptr 1 0 0 0,.ptr 2 0 0 0])],[.box 30 (Qaz.q1 a0),.box 3 [.i a1],.box 3 [.i a2]]⟩ ?_
 obtain ⟨v1,h1,H⟩:=ibC H
 refine Zd (Xx:=[.d (Qac false a0.Held),.fn 157 [.ptr 1 0 0 0,.ptr 2 0 0 0]]) (dst:=some 10) (k':=(Wnj 110 4)) [10] [] hP Wc8 (Zg.Qt (t0:=false) (ff1:=157) (cc1:=[.rop false 1 (fun _=>[.i a1]) 0 0,.rop false 1 (fun _=>[.i a2]) 0 0]) a0.Held (fun z0=>some (Qd0 z0 a1 a2)) Wc9 (fun z0 r h=>by obtain rfl:=Yt h;exact Qd0.Qt z0 a1 a2) h1) (by kernel_rfl) (Qao _) (.cons (Qk _) (.cons (.fn 157 (.cons (.look (ty:=3) (cs:=[.i a1]) (by kernel_rfl) rfl) (.cons (.look (ty:=3) (cs:=[.i a2]) (by kernel_rfl) rfl) .nil))) .nil)) (st':=⟨11,[(10,.i v1)],[.box 30 (Qaz.q1 a0),.box 3 [.i a1],.box 3 [.i a2]]⟩) (by kernel_rfl) ?_
 refine qI ?_
 obtain rfl:=Yt H
 exact qT hT 2 hf hX h0 [] an (.d (.v _))
theorem Qbf.Qt {t0:Bool} (a0:List Int) (a1:Int) {r:Int} (H:Qbf a0 a1=some r):Xt Tryz.prog 94 [] [.d (eL3 t0 a0),.i a1] [] (.i r):=by
 refine Wx Tryz.func94 rfl (nt:=19) rfl (lb rfl) fun X hP h0 hX=>?_
 have hT:Qw X.P T:=hP▸tok
 have hf:X.P.funcs[94]? = some Tryz.f94:=hP▸Tryz.func94
 refine Xq hT 13 (K94 11010 0) ⟨19,[(0,.d (eL3 t0 a0)),(1,.i a1),(7,.i (a0.length:Int)),(8,.i 0)],[]⟩ ?_
 have L:∀ n,(∀ (Wi:Int),iter (Qbf.step a0 a1) n (.l1 Wi)=some r->AK X 94 ((K94 11010 0)) (Ym X [] (.i r)) ⟨19,[(0,.d (eL3 t0 a0)),(1,.i a1),(7,.i (a0.length:Int)),(8,.i Wi)],[]⟩):=by
  intro n
  induction n with
  | zero=>exact fun _ H=>Qbh H
  | succ n ih=>
   ·intro Wi H
    refine qI ?_
    rcases sB H with ⟨c1,H⟩ | ⟨c1,H⟩
    ·refine qB hT 5 (decide_eq_true c1) ?_
     obtain ⟨h2,H⟩:=sC H
     refine qX hT 14 h2 ?_
     refine qE hT 3 (K94 11010011001 1) ⟨19,[(0,.d (eL3 t0 a0)),(1,.i a1),(5,.i Wi),(7,.i (a0.length:Int)),(8,.i Wi),(16,.b (a1 == (a0.getD Wi.toNat 0)))],[]⟩ ?_
     by_cases c3:a1=(a0.getD Wi.toNat 0)
     ·replace H:=sT c3 H
      rw [eqT c3]
      refine qI ?_
      obtain rfl:=Yt H
      exact qT hT 6 hf hX h0 [] an (.d (.v _))
     replace H:=sF c3 H
     rw [eqF c3]
     exact Xq hT 8 _ _ (ih (IntKind.wrap .i64 (Wi+1)) H)
    refine qB hT 5 (decide_eq_false c1) ?_
    obtain rfl:=Yt H
    exact qT hT 6 hf hX h0 [] an (.d (.v _))
 obtain ⟨n,H⟩:=Qbw H
 exact (L n) 0 H
theorem Qec.Qt {t0:Bool} (a0:List Int) (a1:Int) {r:Bool} (H:Qec a0 a1=some r):Xt Tryz.prog 53 [] [.d (eL3 t0 a0),.i a1] [] (.b r):=by
 refine Wx Tryz.func53 rfl (nt:=9) rfl (lb rfl) fun X hP h0 hX=>?_
 have hT:Qw X.P T:=hP▸tok
 have hf:X.P.funcs[53]? = some Tryz.f53:=hP▸Tryz.func53
 refine qI ?_
 obtain ⟨v1,h1,H⟩:=ibC H
 refine qF hT 8 hP Wgu (Qbf.Qt (t0:=t0) a0 a1 h1) ?_
 obtain rfl:=Yt H
 exact qT hT 3 hf hX h0 [] an (.d (.v _))
abbrev Qcv.q1 (a0:Qn):List AV:=(eT a0 1 2 3 4 5 a0 a0)
theorem Qcv.Qt (a0:Qn) (a1:Qp) {r:(List Int) × Bool} (H:Qcv a0 a1=some r):Xt Tryz.prog 152 [.box 126 (Qcv.q1 a0),Xk a0.c.Held,Xh a0.c.Log,Wy a0.c.Known,Xu a0.recs,Yk a0.notes] [.ptr 0 0 0 0,.d (Qan a1)] [.box 126 (Qcv.q1 a0),Xk a0.c.Held,Xh a0.c.Log,Wy a0.c.Known,Xu a0.recs,Yk a0.notes,eR3 r.1] (.Ql [.own 6 1 0 r.1.length,.b r.2]):=by
 refine Wx Tryz.func152 rfl (nt:=22) rfl (lb rfl) fun X hP h0 hX=>?_
 have hT:Qw X.P T:=hP▸tok
 have hf:X.P.funcs[152]? = some Tryz.f152:=hP▸Tryz.func152
 refine Xq hT 7 (Wpz 11 0) ⟨22,[(0,.ptr 0 0 0 0),(3,.ptr 6 0 0 0)],[.box 126 (Qcv.q1 a0),Xk a0.c.Held,Xh a0.c.Log,Wy a0.c.Known,Xu a0.recs,Yk a0.notes,.box 35 (Qak a1)]⟩ ?_
 obtain ⟨v1,h1,H⟩:=ibC H
 refine Qab (hP▸mixed) 6 [0,3] (sm [.ptr 0 0 0 0,.ptr 0 0 0 0,.ptr 0 0 0 10,.d (Qic a0.x),.d (Qan a1),.d (Yp true v1)]) (opS (Qd (Qd (Qd (Qd (Qd op0 hT) hT) hT) hT) hT) (fun R rest h=>Zk (Xx:=[.d (Qan a1)]) (dst:=some 12) hP Qnf (Qaj.Qt a1 h1) (by kernel_rfl) (.cons (Qk _) .nil) (by kernel_rfl) h)) ?_
 refine qI ?_
 obtain ⟨v2,h2,H⟩:=ibC H
 refine qF hT 0 hP Qwb (Zv.Qt (t1:=true) a0.x v1 h2) ?_
 obtain ⟨v3,h3,H⟩:=ibC H
 refine qF hT 11 hP Wgb (Qec.Qt (t0:=false) v2 a0.c.ID h3) ?_
 obtain rfl:=Yt H
 exact qT hT 3 hf hX h0 [0,1,2,3,4,5,7] (ac nrT (ac (Xa Qh.nl) (ac (Xa Qe.nl) (ac (Xa Qg.nl) (ac (Xa Wu.nl) (ac (Xa Xg.nl) (ac (Xa (nlI .i64)) an))))))) (.Ql (.cons (.own _ _ _ _) (.cons (.d (.v _)) .nil)))
abbrev Qb1.q1 (a0:Qc):List AV:=[.i a0.ID,.i a0.Keys.Lo,.i a0.Keys.Hi,.i a0.Clock,.b a0.Ws,.b a0.Wn,.d (Qac false a0.Held),.d (We true a0.Base),.d (Zl false a0.Log),.d (Zy false a0.Known)]
theorem Qb1.Qt (a0:Qc) (a1:Qp) {r:Bool} (H:Qb1 a0 a1=some r):Xt Tryz.prog 115 [] [.d (.agg [.i a0.ID,.i a0.Keys.Lo,.i a0.Keys.Hi,.i a0.Clock,.b a0.Ws,.b a0.Wn,Qac false a0.Held,We true a0.Base,Zl false a0.Log,Zy false a0.Known]),.d (Qan a1)] [] (.b r):=by
 refine Wx Tryz.func115 rfl (nt:=10) rfl (lb rfl) fun X hP h0 hX=>?_
 have hT:Qw X.P T:=hP▸tok
 have hf:X.P.funcs[115]? = some Tryz.f115:=hP▸Tryz.func115
 refine Xq hT 7 (Qu3 11 0) ⟨10,[(2,.ptr 0 0 0 0),(3,.ptr 1 0 0 0)],[.box 30 (Qb1.q1 a0),.box 35 (Qak a1)]⟩ ?_
 obtain ⟨v1,h1,H⟩:=ibC H
 refine Qab (hP▸mixed) 3 [2,3] (sm [.d (Qan a1),.d (Yp true v1),.d (.agg [.i a0.ID,.i a0.Keys.Lo,.i a0.Keys.Hi,.i a0.Clock,.b a0.Ws,.b a0.Wn,Qac false a0.Held,We true a0.Base,Zl false a0.Log,Zy false a0.Known])]) (Qd (opS (Qd op0 hT) (fun R rest h=>Zk (Xx:=[.d (Qan a1)]) (dst:=some 6) hP Qnf (Qaj.Qt a1 h1) (by kernel_rfl) (.cons (Qk _) .nil) (by kernel_rfl) h)) hT) ?_
 refine Xq hT 0 (Qu3 110 3) ⟨10,[(6,.d (Yp true v1)),(7,.d (.agg [.i a0.ID,.i a0.Keys.Lo,.i a0.Keys.Hi,.i a0.Clock,.b a0.Ws,.b a0.Wn,Qac false a0.Held,We true a0.Base,Zl false a0.Log,Zy false a0.Known]))],[.box 30 (Qb1.q1 a0),.box 35 (Qak a1)]⟩ ?_
 refine Zd (Xx:=[.d (.agg [.i a0.ID,.i a0.Keys.Lo,.i a0.Keys.Hi,.i a0.Clock,.b a0.Ws,.b a0.Wn,Qac false a0.Held,We true a0.Base,Zl false a0.Log,Zy false a0.Known])]) (dst:=some 8) (k':=(Qu3 110 4)) [6,8] [] hP Qf0 (Ze.Qt a0) (by kernel_rfl) (Qao _) (.cons (Qk _) .nil) (st':=⟨10,[(6,.d (Yp true v1)),(8,.own 2 2 0 ((Ze a0).length))],[.box 30 (Qb1.q1 a0),.box 35 (Qak a1),Je (Ze a0)]⟩) (by kernel_rfl) ?_
 obtain ⟨v2,h2,H⟩:=idC H
 rw [<- h2]
 obtain ⟨v3,h3,H⟩:=ibC H
 refine qI ?_
 refine qF hT 0 hP Qqf (Qc0.Qt (t0:=true) (t1:=false) v1 v2 h3) ?_
 obtain rfl:=Yt H
 exact qT hT 2 hf hX h0 [] an (.d (.v _))
abbrev Zp.q1 (a0:Qn) (a1:Wu):List Row:=[.box 126 (eT a0 7 2 3 4 5 a0 a0),.gone,Xh a0.c.Log,Wy a0.c.Known,Xu a0.recs,Yk a0.notes,.box 185 (Qe2 a1),Xk a0.c.Held]
abbrev Zp.q2 (a0:Qn):List AV:=(eT a0 6 2 3 4 5 a0 a0)
abbrev Zp.q3 (a0:Qn):List AV:=(eT a0 7 2 3 4 5 a0 a0)
abbrev Zp.q4 (a0:Qn):=(⟨a0.c.ID,a0.c.Keys,a0.c.Clock,a0.c.Ws,a0.c.Wn,a0.c.Held,a0.c.Base,a0.c.Log,a0.c.Known⟩:Qc)
abbrev Zp.s1 (a0:Qn) (a1:Wu):St:=⟨96,[(0,.ptr 0 0 0 0),(3,.ptr 6 0 0 0)],(Zp.q1 a0 a1)⟩
abbrev Zp.p0:List (Nat × AV):=[(0,.ptr 0 0 0 0),(3,.ptr 6 0 0 0)]
theorem Zp.Qt (a0:Qn) (a1:Wu) {r:Int × Qn} (H:Zp a0 a1=some r):Xt Tryz.prog 190 [.box 126 (eT a0 1 2 3 4 5 a0 a0),Xk a0.c.Held,Xh a0.c.Log,Wy a0.c.Known,Xu a0.recs,Yk a0.notes] [.ptr 0 0 0 0,.d (Qjo a1)] [.box 126 (eTo r.2 6 r.2.c.Held.length 2 a0.c.Log.length 3 a0.c.Known.length 4 a0.recs.length 5 a0.notes.length),.gone,Xh a0.c.Log,Wy a0.c.Known,Xu a0.recs,Yk a0.notes,Xk r.2.c.Held] (.i r.1):=by
 refine Wx Tryz.func190 rfl (nt:=96) rfl (lb rfl) fun X hP h0 hX=>?_
 have hT:Qw X.P T:=hP▸tok
 have hf:X.P.funcs[190]? = some Tryz.f190:=hP▸Tryz.func190
 refine Qgs [1] ⟨96,[(0,.ptr 0 0 0 0),(1,.d (Qjo a1))],[.box 126 (Zp.q2 a0),.gone,Xh a0.c.Log,Wy a0.c.Known,Xu a0.recs,Yk a0.notes,Xk a0.c.Held]⟩ ?_
 refine Xq hT 6 (Qnz 11 0) ⟨96,[(0,.ptr 0 0 0 0),(3,.ptr 7 0 0 0)],[.box 126 (Zp.q2 a0),.gone,Xh a0.c.Log,Wy a0.c.Known,Xu a0.recs,Yk a0.notes,Xk a0.c.Held,.box 185 (Qe2 a1)]⟩ ?_
 obtain ⟨v1,h1,H⟩:=ibC H
 refine Qab (hP▸mixed) 14 [0,3] (sm [.ptr 0 0 0 0,.ptr 0 0 0 0,.agg (eK a0.c 6 2 3),.ptr 7 0 0 5,.ptr 7 0 0 5,.i a1.M.Client,.ptr 7 0 0 5,.ptr 7 0 0 6,.i a1.M.Seq,.Ql [.i v1.1,.b v1.2],.Ql [.i v1.1,.b v1.2],.i v1.1,.b v1.2,.i v1.1]) (Qd (Qd (Qd (Qd (opS (Qd (Qd (Qd (Qd (Qd (Qd (Qd (Qd (Qd op0 hT) hT) hT) hT) hT) hT) hT) hT) hT) (fun R rest h=>Zk (Xx:=[.agg (eK a0.c 6 2 3),.i a1.M.Client,.i a1.M.Seq]) (dst:=some 17) hP Qlm (Qdl.Qt (Zp.q4 a0) a1.M.Client a1.M.Seq h1) (by kernel_rfl) (.cons (.agg (.cons (Qk _) (.cons (Qk _) (.cons (Qk _) (.cons (Qk _) (.cons (Qk _) (.cons (Qk _) (.cons (.Qcr (ty:=138) (by kernel_rfl) rfl) (.cons (Qk _) (.cons (.Qcr (ty:=141) (by kernel_rfl) rfl) (.cons (.Qcr (ty:=131) (by kernel_rfl) rfl) .nil))))))))))) (.cons (Qk _) (.cons (Qk _) .nil))) (by kernel_rfl) h)) hT) hT) hT) hT) ?_
 refine Xq hT 5 (Qnz 11100 0) ⟨96,[(0,.ptr 0 0 0 0),(3,.ptr 7 0 0 0),(6,.b v1.2)],[.box 126 (Zp.q2 a0),.gone,Xh a0.c.Log,Wy a0.c.Known,Xu a0.recs,Yk a0.notes,Xk a0.c.Held,.box 185 (Qe2 a1)]⟩ ?_
 obtain ⟨v2,h2,H⟩:=ibC H
 have Yx:∀ (Qi2:Bool),(Zp.j1 a0 a1 v1 Qi2)=some r->AK X 190 ((Qnz 11100 1)) (Ym X [.box 126 (eTo r.2 6 r.2.c.Held.length 2 a0.c.Log.length 3 a0.c.Known.length 4 a0.recs.length 5 a0.notes.length),.gone,Xh a0.c.Log,Wy a0.c.Known,Xu a0.recs,Yk a0.notes,Xk r.2.c.Held] (.i r.1)) ⟨96,(Zp.p0++[(6,.b v1.2),(20,.b Qi2)]),(Zp.q1 a0 a1)⟩:=by
  intro Qi2 H
  by_cases c7:Qi2=true
  ·replace H:=iT c7 H
   cases (show (none:Option _)=some _ from H)
  replace H:=iF c7 H
  have Jj2:∀ (Qsf:Bool),(Zp.j2 a0 a1 Qsf)=some r->AK X 190 ((Qnz 1110011 1)) (Ym X [.box 126 (eTo r.2 6 r.2.c.Held.length 2 a0.c.Log.length 3 a0.c.Known.length 4 a0.recs.length 5 a0.notes.length),.gone,Xh a0.c.Log,Wy a0.c.Known,Xu a0.recs,Yk a0.notes,Xk r.2.c.Held] (.i r.1)) ⟨96,(Zp.p0++[(48,.b Qsf)]),(Zp.q1 a0 a1)⟩:=by
   intro Qsf H
   by_cases c10:Qsf=true
   ·replace H:=iT c10 H
    cases (show (none:Option _)=some _ from H)
   replace H:=iF c10 H
   rw [boF c10]
   refine Xq hT 2 (Qnz 111001111 0) ⟨96,(Zp.p0),(Zp.q1 a0 a1)⟩ ?_
   refine Qab (hP▸mixed) 10 [0,3] (sm [.ptr 0 0 0 0,.ptr 0 0 0 0,.ptr 0 0 0 6,.own 7 10 0 a0.c.Held.length,.i (a0.c.Held.length:Int),.ptr 0 0 0 0,.ptr 0 0 0 0,.ptr 0 0 0 9,.own 3 4 0 a0.c.Known.length,.i (a0.c.Known.length:Int)]) (Qd (Qd (Qd (Qd (Qd (Qd (Qd (Qd (Qd (Qd op0 hT) hT) hT) hT) hT) hT) hT) hT) hT) hT) ?_
   refine Xq hT 4 (Qnz 111001111 1) ⟨96,(Zp.p0++[(63,.b (decide ((IntKind.wrap .i64 ((a0.c.Held.length:Int)+(a0.c.Known.length:Int)))>=1000)))]),(Zp.q1 a0 a1)⟩ ?_
   by_cases c11:(IntKind.wrap .i64 ((a0.c.Held.length:Int)+(a0.c.Known.length:Int)))>=1000
   ·replace H:=iT c11 H
    cases (show (none:Option _)=some _ from H)
   replace H:=iF c11 H
   rw [decide_eq_false c11]
   refine Xq hT 4 (Qnz 1111 0) (Zp.s1 a0 a1) ?_
   obtain ⟨v5,h12,H⟩:=ibC H
   obtain ⟨h13,H⟩:=iC H
   refine Qcz (nt:=96) (hP▸mixed) 13 [11,12] [0,3] [(0,.ptr 0 0 0 0),(3,.ptr 6 0 0 0)] (sm [.ptr 0 0 0 0,.ptr 0 0 0 0,.ptr 0 0 0 0,.ptr 0 0 0 6,.own 7 10 0 a0.c.Held.length,.ptr 6 0 0 5,.d (Qan a1.M),.d (Qan v5),.ptr 6 0 0 4,.i a1.Time,.d (.agg [.i v5.Client,.i v5.Seq,.i v5.Kind,We true v5.Pairs,.i v5.Over.Lo,.i v5.Over.Hi,.i v5.Old,.i a1.Time,.b false,.ns]),.own 8 10 0 1,.own 9 10 0 ((a0.c.Held ++ [(⟨v5,a1.Time,false,([]:List Qaq)⟩:Qh)]).length)]) [[.box 126 (Zp.q3 a0),.gone,Xh a0.c.Log,Wy a0.c.Known,Xu a0.recs,Yk a0.notes,.box 185 (Qe2 a1),Xk a0.c.Held],[.box 126 (Zp.q3 a0),.gone,Xh a0.c.Log,Wy a0.c.Known,Xu a0.recs,Yk a0.notes,.box 185 (Qe2 a1),Xk a0.c.Held,.flat false 10 138 1 (fun j=>[[.i v5.Client,.i v5.Seq,.i v5.Kind,We true v5.Pairs,.i v5.Over.Lo,.i v5.Over.Hi,.i v5.Old,.i a1.Time,.b false,.ns]].getD j [])],[.box 126 (Zp.q3 a0),.gone,Xh a0.c.Log,Wy a0.c.Known,Xu a0.recs,Yk a0.notes,.box 185 (Qe2 a1),.gone,.flat false 10 138 1 (fun j=>[[.i v5.Client,.i v5.Seq,.i v5.Kind,We true v5.Pairs,.i v5.Over.Lo,.i v5.Over.Hi,.i v5.Old,.i a1.Time,.b false,Qle true ([]:List Qaq)]].getD j []),Xk (a0.c.Held ++ [(⟨v5,a1.Time,false,([]:List Qaq)⟩:Qh)])]] (by kernel_rfl) (by kernel_rfl) (by kernel_rfl) (by kernel_rfl) ⟨?_,(Qj4 hT),⟨?_,(fun R rest h=>Wi3 8 (fz:=false) (kk:=10) (ty:=138) [.i v5.Client,.i v5.Seq,.i v5.Kind,We true v5.Pairs,.i v5.Over.Lo,.i v5.Over.Hi,.i v5.Old,.i a1.Time,.b false,Qle true ([]:List Qaq)] (by kernel_rfl) (.same _ (.same _ (.same _ (.same _ (.same _ (.same _ (.same _ (.same _ (.same _ (.ns _ _ .nil)))))))))) (Qlb (id:=7) (kk:=10) (id2:=8) (by':=112) (t:=25) (e:=138) (e2:=138) (z:=[.int .i64 0,.int .i64 0,.int .i64 0,.slice none 0 0,.int .i64 0,.int .i64 0,.int .i64 0,.int .i64 0,.bool false,.slice none 0 0]) (dst:=some 88) (fz:=false) hT Qh.e Qh.z a0.c.Held (⟨v5,a1.Time,false,([]:List Qaq)⟩:Qh) (by kernel_rfl) (by kernel_rfl) (by kernel_rfl) (by kernel_rfl) (by kernel_rfl) (by kernel_rfl) (by kernel_rfl) h13 (by omega) (by kernel_rfl) h)),?_⟩⟩ ?_
   iterate 3 exact (Qcj (Qcj (Wh (Wh (Wh (Qir (Wh (Wh (Wh (Wh (Wh (Wh (Wh Qer hT) hT) hT) hT) hT) hT) hT) (fun R rest h=>Zk (Xx:=[.d (Qan a1.M)]) (dst:=some 83) hP Qqg (Qci.Qt a1.M h12) (by kernel_rfl) (.cons (Qk _) .nil) (by kernel_rfl) h)) hT) hT) hT)))
   refine qI ?_
   obtain rfl:=Yt H
   exact qT hT 17 hf hX h0 [0,1,2,3,4,5,9] (ac nrT (ac .gone (ac (Xa Qe.nl) (ac (Xa Qg.nl) (ac (Xa Wu.nl) (ac (Xa Xg.nl) (ac (Xa Qh.nl) an))))))) (.d (.v _))
  rw [boF c7]
  refine Xq hT 2 (Qnz 1110011 0) ⟨96,(Zp.p0++[(6,.b v1.2)]),(Zp.q1 a0 a1)⟩ ?_
  by_cases c8:v1.2=true
  ·replace H:=iT c8 H
   refine Qab (hP▸mixed) 11 [0,3,6] (sm [.b true,.b true,.Ql [],.Ql [],.Ql [],.Ql [],.Ql [],.Ql [],.Ql [],.Ql [],.Ql []]) (Qd (Qd (Qd (Qd (Qd (Qd (Qd (Qd (Qd (Qd (opV op0 hT 49 (.b v1.2) (.b true) (by rw [c8]<;>rfl)) hT) hT) hT) hT) hT) hT) hT) hT) hT) hT) ?_
   exact Xq hT 5 _ _ (Jj2 true H)
  replace H:=iF c8 H
  refine Qab (hP▸mixed) 11 [0,3,6] (sm [.b false,.b false,.ptr 0 0 0 0,.ptr 0 0 0 0,.agg (eK a0.c 7 2 3),.ptr 6 0 0 5,.ptr 6 0 0 5,.i a1.M.Client,.ptr 6 0 0 5,.ptr 6 0 0 6,.i a1.M.Seq]) (Qd (Qd (Qd (Qd (Qd (Qd (Qd (Qd (Qd (Qd (opV op0 hT 49 (.b v1.2) (.b false) (by rw [boF c8]<;>rfl)) hT) hT) hT) hT) hT) hT) hT) hT) hT) hT) ?_
  refine Xq hT 0 (Qnz 11100110 11) ⟨96,(Zp.p0++[(50,.b false),(53,.agg (eK a0.c 7 2 3)),(56,.i a1.M.Client),(59,.i a1.M.Seq)]),(Zp.q1 a0 a1)⟩ ?_
  obtain ⟨v4,h9,H⟩:=ibC H
  refine Zd (Xx:=[.agg (eK a0.c 7 2 3),.i a1.M.Client,.i a1.M.Seq]) (dst:=some 60) (k':=(Qnz 11100110 12)) [0,3,50,60] [] hP Qo2 (Qaz.Qt (Zp.q4 a0) a1.M.Client a1.M.Seq h9) (by kernel_rfl) (Qao _) (.cons (.agg (.cons (Qk _) (.cons (Qk _) (.cons (Qk _) (.cons (Qk _) (.cons (Qk _) (.cons (Qk _) (.cons (.Qcr (ty:=138) (by kernel_rfl) rfl) (.cons (Qk _) (.cons (.Qcr (ty:=141) (by kernel_rfl) rfl) (.cons (.Qcr (ty:=131) (by kernel_rfl) rfl) .nil))))))))))) (.cons (Qk _) (.cons (Qk _) .nil))) (st':=⟨96,(Zp.p0++[(50,.b false),(60,.i v4)]),(Zp.q1 a0 a1)⟩) (by kernel_rfl) ?_
  exact Xq hT 4 _ _ (Jj2 (decide (v4>=0)) H)
 by_cases c3:v2=true
 ·replace H:=iT c3 H
  obtain ⟨v3,h4,H⟩:=ibC H
  by_cases c5:v3=true
  ·replace H:=iT c5 H
   refine Qab (hP▸mixed) 20 [0,3,6] (sm [.ptr 7 0 0 5,.d (Qan a1.M),.b true,.b false,.b false,.ptr 0 0 0 0,.ptr 0 0 0 0,.agg (eK a0.c 6 2 3),.ptr 7 0 0 5,.d (Qan a1.M),.b true,.b false,.b false,.b false,.ptr 7 0 0 4,.i a1.Time,.ptr 0 0 0 0,.ptr 0 0 0 0,.ptr 0 0 0 3,.i a0.c.Clock]) (Qd (Qd (Qd (Qd (Qd (Qd (Qd (Qd (Qd (opS (Qd (Qd (Qd (Qd (Qd (Qd (Qd (opS (Qd (Qd op0 hT) hT) (fun R rest h=>Zk (Xx:=[.d (Qan a1.M)]) (dst:=some 23) hP Qg0 (by have q:=Qbi.Qt a1.M h2;rw [c3] at q;exact q) (by kernel_rfl) (.cons (Qk _) .nil) (by kernel_rfl) h)) hT) hT) hT) hT) hT) hT) hT) (fun R rest h=>Zk (Xx:=[.agg (eK a0.c 6 2 3),.d (Qan a1.M)]) (dst:=some 31) hP Qoz (by have q:=Qb1.Qt (Zp.q4 a0) a1.M h4;rw [c5] at q;exact q) (by kernel_rfl) (.cons (.agg (.cons (Qk _) (.cons (Qk _) (.cons (Qk _) (.cons (Qk _) (.cons (Qk _) (.cons (Qk _) (.cons (.Qcr (ty:=138) (by kernel_rfl) rfl) (.cons (Qk _) (.cons (.Qcr (ty:=141) (by kernel_rfl) rfl) (.cons (.Qcr (ty:=131) (by kernel_rfl) rfl) .nil))))))))))) (.cons (Qk _) .nil)) (by kernel_rfl) h)) hT) hT) hT) hT) hT) hT) hT) hT) hT) ?_
   refine qI ?_
   rcases iB H with ⟨c6,H⟩ | ⟨c6,H⟩
   ·refine qB hT 3 (decide_eq_true c6) ?_
    exact qC hT 6 _ [0,1,2,3,4,5,7,6] _ h0 (Yx true H)
   refine qB hT 3 (decide_eq_false c6) ?_
   exact qC hT 6 _ [0,1,2,3,4,5,7,6] _ h0 (Yx (decide (a1.Time > 1099511627775)) H)
  replace H:=iF c5 H
  refine Qab (hP▸mixed) 20 [0,3,6] (sm [.ptr 7 0 0 5,.d (Qan a1.M),.b true,.b false,.b false,.ptr 0 0 0 0,.ptr 0 0 0 0,.agg (eK a0.c 6 2 3),.ptr 7 0 0 5,.d (Qan a1.M),.b false,.b true,.b true,.b true,.Ql [],.Ql [],.Ql [],.Ql [],.Ql [],.Ql []]) (Qd (Qd (Qd (Qd (Qd (Qd (Qd (Qd (Qd (opS (Qd (Qd (Qd (Qd (Qd (Qd (Qd (opS (Qd (Qd op0 hT) hT) (fun R rest h=>Zk (Xx:=[.d (Qan a1.M)]) (dst:=some 23) hP Qg0 (by have q:=Qbi.Qt a1.M h2;rw [c3] at q;exact q) (by kernel_rfl) (.cons (Qk _) .nil) (by kernel_rfl) h)) hT) hT) hT) hT) hT) hT) hT) (fun R rest h=>Zk (Xx:=[.agg (eK a0.c 6 2 3),.d (Qan a1.M)]) (dst:=some 31) hP Qoz (by have q:=Qb1.Qt (Zp.q4 a0) a1.M h4;rw [boF c5] at q;exact q) (by kernel_rfl) (.cons (.agg (.cons (Qk _) (.cons (Qk _) (.cons (Qk _) (.cons (Qk _) (.cons (Qk _) (.cons (Qk _) (.cons (.Qcr (ty:=138) (by kernel_rfl) rfl) (.cons (Qk _) (.cons (.Qcr (ty:=141) (by kernel_rfl) rfl) (.cons (.Qcr (ty:=131) (by kernel_rfl) rfl) .nil))))))))))) (.cons (Qk _) .nil)) (by kernel_rfl) h)) hT) hT) hT) hT) hT) hT) hT) hT) hT) ?_
  exact Zr hT 9 _ [0,1,2,3,4,5,7,6] _ h0 (Yx true H)
 replace H:=iF c3 H
 refine Qab (hP▸mixed) 20 [0,3,6] (sm [.ptr 7 0 0 5,.d (Qan a1.M),.b false,.b true,.b true,.Ql [],.Ql [],.Ql [],.Ql [],.Ql [],.Ql [],.Ql [],.b true,.b true,.Ql [],.Ql [],.Ql [],.Ql [],.Ql [],.Ql []]) (Qd (Qd (Qd (Qd (Qd (Qd (Qd (Qd (Qd (Qd (Qd (Qd (Qd (Qd (Qd (Qd (Qd (opS (Qd (Qd op0 hT) hT) (fun R rest h=>Zk (Xx:=[.d (Qan a1.M)]) (dst:=some 23) hP Qg0 (by have q:=Qbi.Qt a1.M h2;rw [boF c3] at q;exact q) (by kernel_rfl) (.cons (Qk _) .nil) (by kernel_rfl) h)) hT) hT) hT) hT) hT) hT) hT) hT) hT) hT) hT) hT) hT) hT) hT) hT) hT) ?_
 exact Zr hT 9 _ [0,1,2,3,4,5,7,6] _ h0 (Yx true H)
theorem Qbv.Qt (a0:Qh):Xt Tryz.prog 119 [] [.d (Qft a0)] [] (.d (Qgg (Qbv a0))):=by
 obtain ⟨r,H⟩:∃ r,Qbv a0=r:=⟨_,rfl⟩
 rw [H]
 refine Wx Tryz.func119 rfl (nt:=8) rfl (lb rfl) fun X hP h0 hX=>?_
 have hT:Qw X.P T:=hP▸tok
 have hf:X.P.funcs[119]? = some Tryz.f119:=hP▸Tryz.func119
 refine Xq hT 11 (Wiw 110 4) ⟨8,[(2,.ptr 1 0 0 0),(4,.i a0.Time),(6,.d (Qan a0.M))],[.box 138 (Qef a0),.box 190 [.i 0,.i 0,.i 0]]⟩ ?_
 refine Zd (Xx:=[.i a0.Time,.d (Qan a0.M)]) (dst:=some 7) (k':=(Wiw 110 5)) [2,7] [] hP Qo1 (Qdf.Qt a0.Time a0.M) (by kernel_rfl) (Qao _) (.cons (Qk _) (.cons (Qk _) .nil)) (st':=⟨8,[(2,.ptr 1 0 0 0),(7,.d (Qgg (Qdf a0.Time a0.M)))],[.box 138 (Qef a0),.box 190 [.i 0,.i 0,.i 0]]⟩) (by kernel_rfl) ?_
 obtain ⟨v1,h1,H⟩:=idC H
 rw [<- h1]
 refine Xq hT 2 (Wiw 11 1) ⟨8,[(2,.ptr 1 0 0 0)],[.box 138 (Qef a0),.box 190 (Qox v1)]⟩ ?_
 obtain rfl:=H
 exact Qh4 hT hf hX (av:=.d (Qgg v1)) (by kernel_rfl) [] (Qal (by kernel_rfl)) (by decide) (by rw [h0];rfl) (by kernel_rfl) an (.d (.agg (Qbu.nl _)))
abbrev Xf.q1 (a0:Qc):List AV:=[.i a0.ID,.i a0.Keys.Lo,.i a0.Keys.Hi,.i a0.Clock,.b a0.Ws,.b a0.Wn,.d (Qac false a0.Held),.d (We true a0.Base),.d (Zl false a0.Log),.d (Zy false a0.Known)]
theorem Xf.Qt (a0:Qc) {r:Int} (H:Xf a0=some r):Xt Tryz.prog 221 [] [.d (.agg [.i a0.ID,.i a0.Keys.Lo,.i a0.Keys.Hi,.i a0.Clock,.b a0.Ws,.b a0.Wn,Qac false a0.Held,We true a0.Base,Zl false a0.Log,Zy false a0.Known])] [] (.i r):=by
 refine Wx Tryz.func221 rfl (nt:=31) rfl (lb rfl) fun X hP h0 hX=>?_
 have hT:Qw X.P T:=hP▸tok
 have hf:X.P.funcs[221]? = some Tryz.f221:=hP▸Tryz.func221
 refine Xq hT 19 (Qxv 111010 0) ⟨31,[(1,.ptr 0 0 0 0),(3,.i (-1)),(7,.d (Qac false a0.Held)),(8,.i (a0.Held.length:Int)),(9,.i 0)],[.box 30 (Xf.q1 a0)]⟩ ?_
 have L:∀ n,(∀ (Yz:Int) (Zo:Int),iter (Xf.step a0) n (.l1 Yz Zo)=some r->AK X 221 ((Qxv 111010 0)) (Ym X [] (.i r)) ⟨31,[(1,.ptr 0 0 0 0),(3,.i Yz),(7,.d (Qac false a0.Held)),(8,.i (a0.Held.length:Int)),(9,.i Zo)],[.box 30 (Xf.q1 a0)]⟩):=by
  intro n
  induction n with
  | zero=>exact fun _ _ H=>Qbh H
  | succ n ih=>
   ·intro Yz Zo H
    refine qI ?_
    rcases sB H with ⟨c1,H⟩ | ⟨c1,H⟩
    ·refine qB hT 5 (decide_eq_true c1) ?_
     obtain ⟨h2,H⟩:=sC H
     have Yx:∀ (Qr7:Bool),Jq (Xf.j1 Yz Zo Qr7) (iter (Xf.step a0) n)=some r->AK X 221 ((Qxv 111010011001 1)) (Ym X [] (.i r)) ⟨31,[(1,.ptr 0 0 0 0),(3,.i Yz),(4,.i Zo),(7,.d (Qac false a0.Held)),(8,.i (a0.Held.length:Int)),(9,.i Zo),(27,.b Qr7)],[.box 30 (Xf.q1 a0)]⟩:=by
      intro Qr7 H
      have Jj2:∀ (Qvw:Int),Jq (Xf.j2 Zo Qvw) (iter (Xf.step a0) n)=some r->AK X 221 ((Qxv 111010011 1)) (Ym X [] (.i r)) ⟨31,[(1,.ptr 0 0 0 0),(3,.i Qvw),(7,.d (Qac false a0.Held)),(8,.i (a0.Held.length:Int)),(9,.i Zo)],[.box 30 (Xf.q1 a0)]⟩:=by
       intro Qvw H
       exact Xq hT 5 _ _ (ih Qvw (IntKind.wrap .i64 (Zo+1)) H)
      by_cases c6:Qr7=true
      ·replace H:=sT c6 H
       rw [c6]
       exact Xq hT 6 _ _ (Jj2 Zo H)
      replace H:=sF c6 H
      rw [boF c6]
      exact Xq hT 3 _ _ (Jj2 Yz H)
     refine qX hT 7 h2 ?_
     refine qE hT 6 (Qxv 111010011001 0) ⟨31,[(1,.ptr 0 0 0 0),(3,.i Yz),(4,.i Zo),(5,.ptr 1 0 0 0),(7,.d (Qac false a0.Held)),(8,.i (a0.Held.length:Int)),(9,.i Zo)],[.box 30 (Xf.q1 a0),.box 138 (Qef (a0.Held.getD Zo.toNat Qh.z))]⟩ ?_
     by_cases c3:Yz < 0
     ·replace H:=sT c3 H
      refine Qab (hP▸mixed) 14 [1,3,4,5,7,8,9] (sm [.i Yz,.b true,.b true,.Ql [],.Ql [],.Ql [],.Ql [],.Ql [],.Ql [],.Ql [],.Ql [],.Ql [],.Ql [],.b true]) (Qd (Qd (Qd (Qd (Qd (Qd (Qd (Qd (Qd (Qd (Qd (Qd (opV (Qd op0 hT) hT 15 (.b (decide (Yz < 0))) (.b true) (by rw [decide_eq_true c3]<;>rfl)) hT) hT) hT) hT) hT) hT) hT) hT) hT) hT) hT) hT) ?_
      exact Zr hT 1 _ [0] _ h0 (Yx true H)
     replace H:=sF c3 H
     obtain ⟨h4,H⟩:=sC H
     obtain ⟨v1,h5,H⟩:=sbC H
     refine Qab (hP▸mixed) 14 [1,3,4,5,7,8,9] (sm [.i Yz,.b false,.b false,.d (Qft (a0.Held.getD Zo.toNat Qh.z)),.d (Qgg (Qbv (a0.Held.getD Zo.toNat Qh.z))),.ptr 0 0 0 6,.d (Qac false a0.Held),.i Yz,.d (Wpn false a0.Held Yz.toNat 0),.d (Qft (a0.Held.getD Yz.toNat Qh.z)),.d (Qgg (Qbv (a0.Held.getD Yz.toNat Qh.z))),.i v1,.b (decide (v1 < 0)),.b (decide (v1 < 0))]) (Qd (Qd (opS (opS (Qd (opS (Qd (Qd (Qd (opS (Qd (Qd (opV (Qd op0 hT) hT 15 (.b (decide (Yz < 0))) (.b false) (by rw [decide_eq_false c3]<;>rfl)) hT) hT) (fun R rest h=>Zk (Xx:=[.d (Qft (a0.Held.getD Zo.toNat Qh.z))]) (dst:=some 18) hP Ql1 (Qbv.Qt (a0.Held.getD Zo.toNat Qh.z)) (by kernel_rfl) (.cons (Qk _) .nil) (by kernel_rfl) h)) hT) hT) hT) (fun R rest h=>Qba hT (i:=Yz) (n:=(a0.Held.length:Int)) h4.1 h4.2 (by kernel_rfl) h)) hT) (fun R rest h=>Zk (Xx:=[.d (Qft (a0.Held.getD Yz.toNat Qh.z))]) (dst:=some 24) hP Ql1 (Qbv.Qt (a0.Held.getD Yz.toNat Qh.z)) (by kernel_rfl) (.cons (Qk _) .nil) (by kernel_rfl) h)) (fun R rest h=>Zk (Xx:=[.d (Qgg (Qbv (a0.Held.getD Zo.toNat Qh.z))),.d (Qgg (Qbv (a0.Held.getD Yz.toNat Qh.z)))]) (dst:=some 25) hP Qo0 (Qc6.Qt (Qbv (a0.Held.getD Zo.toNat Qh.z)) (Qbv (a0.Held.getD Yz.toNat Qh.z)) h5) (by kernel_rfl) (.cons (Qk _) (.cons (Qk _) .nil)) (by kernel_rfl) h)) hT) hT) ?_
     exact Zr hT 1 _ [0] _ h0 (Yx (decide (v1 < 0)) H)
    refine qB hT 5 (decide_eq_false c1) ?_
    obtain rfl:=Yt H
    exact qT hT 7 hf hX h0 [] an (.d (.v _))
 obtain ⟨n,H⟩:=Qbw H
 exact (L n) (-1) 0 H
abbrev Xv.q1 (a0:Qc):List AV:=[.i a0.ID,.i a0.Keys.Lo,.i a0.Keys.Hi,.i a0.Clock,.b a0.Ws,.b a0.Wn,.d (Qac false a0.Held),.d (We true a0.Base),.d (Zl false a0.Log),.d (Zy false a0.Known)]
theorem Xv.Qt (a0:Qc) {r:List Qa} (H:Xv a0=some r):Xt Tryz.prog 40 [] [.d (.agg [.i a0.ID,.i a0.Keys.Lo,.i a0.Keys.Hi,.i a0.Clock,.b a0.Ws,.b a0.Wn,Qac false a0.Held,We true a0.Base,Zl false a0.Log,Zy false a0.Known])] [] (.d (We true r)):=by
 refine Wx Tryz.func40 rfl (nt:=28) rfl (lb rfl) fun X hP h0 hX=>?_
 have hT:Qw X.P T:=hP▸tok
 have hf:X.P.funcs[40]? = some Tryz.f40:=hP▸Tryz.func40
 refine Xq hT 21 (K40 111010 0) ⟨28,[(1,.ptr 0 0 0 0),(3,.d (We true a0.Base)),(9,.d (Zl false a0.Log)),(10,.i (a0.Log.length:Int)),(11,.i 0)],[.box 30 (Xv.q1 a0)]⟩ ?_
 have L:∀ n,(∀ (Yz:List Qa) (Yg:Int),iter (Xv.step a0) n (.l1 Yz Yg)=some r->AK X 40 ((K40 111010 0)) (Ym X [] (.d (We true r))) ⟨28,[(1,.ptr 0 0 0 0),(3,.d (We true Yz)),(9,.d (Zl false a0.Log)),(10,.i (a0.Log.length:Int)),(11,.i Yg)],[.box 30 (Xv.q1 a0)]⟩):=by
  intro n
  induction n with
  | zero=>exact fun _ _ H=>Qbh H
  | succ n ih=>
   ·intro Yz Yg H
    refine qI ?_
    rcases sB H with ⟨c1,H⟩ | ⟨c1,H⟩
    ·refine qB hT 5 (decide_eq_true c1) ?_
     obtain ⟨h2,H⟩:=sC H
     have Yx:∀ (Qhi:List Qa),Jq (Xv.j1 Yg Qhi) (iter (Xv.step a0) n)=some r->AK X 40 ((K40 111010011 1)) (Ym X [] (.d (We true r))) ⟨28,[(1,.ptr 0 0 0 0),(3,.d (We true Qhi)),(9,.d (Zl false a0.Log)),(10,.i (a0.Log.length:Int)),(11,.i Yg)],[.box 30 (Xv.q1 a0)]⟩:=by
      intro Qhi H
      exact Xq hT 5 _ _ (ih Qhi (IntKind.wrap .i64 (Yg+1)) H)
     refine qX hT 6 h2 ?_
     refine qE hT 9 (K40 111010011001 1) ⟨28,[(1,.ptr 0 0 0 0),(3,.d (We true Yz)),(5,.ptr 1 0 0 0),(9,.d (Zl false a0.Log)),(10,.i (a0.Log.length:Int)),(11,.i Yg),(16,.b ((a0.Log.getD Yg.toNat Qe.z).Qa3))],[.box 30 (Xv.q1 a0),.box 141 (Qe9 (a0.Log.getD Yg.toNat Qe.z))]⟩ ?_
     refine qI ?_
     rcases sB H with ⟨c3,H⟩ | ⟨c3,H⟩
     ·refine qB hT 0 (c3) ?_
      refine qE hT 1 (K40 1110100110011 0) ⟨28,[(1,.ptr 0 0 0 0),(3,.d (We true Yz)),(5,.ptr 1 0 0 0),(9,.d (Zl false a0.Log)),(10,.i (a0.Log.length:Int)),(11,.i Yg)],[.box 30 (Xv.q1 a0),.box 141 (Qe9 (a0.Log.getD Yg.toNat Qe.z))]⟩ ?_
      obtain ⟨v1,h4,H⟩:=sbC H
      refine Qcz (nt:=28) (hP▸mixed) 10 [4,5] [1,3,5,9,10,11] [(1,.ptr 0 0 0 0),(3,.d (We true Yz)),(5,.ptr 1 0 0 0),(9,.d (Zl false a0.Log)),(10,.i (a0.Log.length:Int)),(11,.i Yg)] (sm [.d (We true Yz),.ptr 1 0 0 0,.d (Qan ((a0.Log.getD Yg.toNat Qe.z).M)),.d (.agg [.i a0.ID,.i a0.Keys.Lo,.i a0.Keys.Hi,.i a0.Clock,.b a0.Ws,.b a0.Wn,Qac false a0.Held,We true a0.Base,Zl false a0.Log,Zy false a0.Known]),.own 2 2 0 ((Ze a0).length),.Ql [.own 3 2 0 v1.1.length,.b v1.2],.Ql [.own 3 2 0 v1.1.length,.b v1.2],.own 3 2 0 v1.1.length,.b v1.2,.own 3 2 0 v1.1.length]) [[.box 30 (Xv.q1 a0),.box 141 (Qe9 (a0.Log.getD Yg.toNat Qe.z))],[.box 30 (Xv.q1 a0),.box 141 (Qe9 (a0.Log.getD Yg.toNat Qe.z)),Je (Ze a0)],[.box 30 (Xv.q1 a0),.box 141 (Qe9 (a0.Log.getD Yg.toNat Qe.z)),Qfm (Ze a0),Yb v1.1]] (by kernel_rfl) (by kernel_rfl) (by kernel_rfl) (by kernel_rfl) ⟨(Wh (Wh (Wh (Wh (Qcj (Qcj (Wh (Wh (Wh (Wh Qer hT) hT) hT) hT))) hT) hT) hT) hT),(fun R rest h=>Qdb (Xx:=[.d (.agg [.i a0.ID,.i a0.Keys.Lo,.i a0.Keys.Hi,.i a0.Clock,.b a0.Ws,.b a0.Wn,Qac false a0.Held,We true a0.Base,Zl false a0.Log,Zy false a0.Known])]) (dst:=some 22) hP Qf0 (Ze.Qt a0) (by kernel_rfl) (.cons (Qk _) .nil) (by kernel_rfl) h),⟨(Wh (Wh (Wh (Wh (Qcj (Qcj (Wh (Wh (Wh (Wh Qer hT) hT) hT) hT))) hT) hT) hT) hT),(fun R rest h=>Qcb 2 (kk:=2) (n:=(Ze a0).length) (ty:=24) (g:=vec Qb.e Qb.z (Ze a0)) (by kernel_rfl) rfl ((fun R rest h=>Qdb (Xx:=[.d (We true Yz),.d (Qan ((a0.Log.getD Yg.toNat Qe.z).M)),.own 2 2 0 ((Ze a0).length)]) (dst:=some 23) hP Qqh (Wm.Qt (t0:=true) Yz ((a0.Log.getD Yg.toNat Qe.z).M) (Ze a0) h4) (by kernel_rfl) (.cons (Qk _) (.cons (Qk _) (.cons (.Qcr (ty:=24) (by kernel_rfl) rfl) .nil))) (by kernel_rfl) h) R rest h)),(Wh (Wh (Wh (Wh (Qcj (Qcj (Wh (Wh (Wh (Wh Qer hT) hT) hT) hT))) hT) hT) hT) hT)⟩⟩ ?_
      refine Xq hT 2 (K40 111010011 1) ⟨28,[(1,.ptr 0 0 0 0),(3,.own 3 2 0 v1.1.length),(9,.d (Zl false a0.Log)),(10,.i (a0.Log.length:Int)),(11,.i Yg)],[.box 30 (Xv.q1 a0),.box 141 (Qe9 (a0.Log.getD Yg.toNat Qe.z)),Qfm (Ze a0),Yb v1.1]⟩ ?_
      refine Qcb 3 (kk:=2) (n:=v1.1.length) (ty:=97) (g:=vec Qa.e Qa.z v1.1) (by kernel_rfl) (st':=⟨28,[(1,.ptr 0 0 0 0),(3,.own 3 2 0 v1.1.length),(9,.d (Zl false a0.Log)),(10,.i (a0.Log.length:Int)),(11,.i Yg)],[.box 30 (Xv.q1 a0),.box 141 (Qe9 (a0.Log.getD Yg.toNat Qe.z)),Qfm (Ze a0),Qgj v1.1]⟩) (by kernel_rfl) ?_
      refine Qe4 (av:=.own 3 2 0 v1.1.length) (y:=We true v1.1) [1,3,9,10,11] 3 (st':=⟨28,[(1,.ptr 0 0 0 0),(3,.d (We true v1.1)),(9,.d (Zl false a0.Log)),(10,.i (a0.Log.length:Int)),(11,.i Yg)],[.box 30 (Xv.q1 a0),.box 141 (Qe9 (a0.Log.getD Yg.toNat Qe.z)),Qfm (Ze a0),Qgj v1.1]⟩) (by kernel_rfl) (.own (ty:=97) (k:=2) (by kernel_rfl)) (by kernel_rfl) ?_
      refine Qik [0] ⟨28,[(1,.ptr 0 0 0 0),(3,.d (We true v1.1)),(9,.d (Zl false a0.Log)),(10,.i (a0.Log.length:Int)),(11,.i Yg)],[.box 30 (Xv.q1 a0)]⟩ h0 ?_
      exact Yx v1.1 H
     refine qB hT 0 (boF c3) ?_
     exact qC hT 3 _ [0] _ h0 (Yx Yz H)
    refine qB hT 5 (decide_eq_false c1) ?_
    obtain rfl:=Yt H
    exact qT hT 7 hf hX h0 [] an (.d (.sl fun _ _=>Qa.nl _))
 obtain ⟨n,H⟩:=Qbw H
 exact (L n) a0.Base 0 H
abbrev Qj.q1 (a0:Qn) (Qs:List Qh) (Yh:List Qe) (Yc:List Qg):List AV:=(eTo a0 6 Qs.length 7 Yh.length 8 Yc.length 4 a0.recs.length 5 a0.notes.length)
abbrev Qj.q2 (a0:Qn) (Qs:List Qh) (Yh:List Qe) (Yc:List Qg):=(Ze (⟨a0.c.ID,a0.c.Keys,a0.c.Clock,a0.c.Ws,a0.c.Wn,Qs,a0.c.Base,Yh,Yc⟩:Qc))
abbrev Qj.q3 (a0:Qn) (Qs:List Qh) (Yh:List Qe) (Yc:List Qg):List Row:=[.box 126 (Qj.q1 a0 Qs Yh Yc),.gone,.gone,.gone,Xu a0.recs,Yk a0.notes,Xk Qs,Xh Yh,Wy Yc]
abbrev Qj.q4 (a0:Qn) (Qs:List Qh) (v1:Int) (Yh:List Qe) (v3:(List Qa) × Bool) (Yc:List Qg):List AV:=[.i a0.c.ID,.i a0.c.Keys.Lo,.i a0.c.Keys.Hi,.i a0.c.Clock,.b a0.c.Ws,.b a0.c.Wn,.own 6 10 0 ((Qs.take v1.toNat).length),.d (We true a0.c.Base),.own 13 9 0 ((Yh ++ [(⟨((Qs.getD v1.toNat Qh.z).M),(Qs.getD v1.toNat Qh.z).Time,v3.2⟩:Qe)]).length),.own 8 4 0 Yc.length,.i a0.x.Qbl,.i a0.x.Next,.d (Zn true a0.x.L),.own 4 25 0 a0.recs.length,.own 5 23 0 a0.notes.length]
abbrev Qj.q5 (Qs:List Qh) (v1:Int):=((Qs.getD v1.toNat Qh.z).M)
abbrev Qj.q6 (Qs:List Qh) (v1:Int) (v3:(List Qa) × Bool):=(⟨(Qj.q5 Qs v1),(Qs.getD v1.toNat Qh.z).Time,v3.2⟩:Qe)
abbrev Qj.q7 (a0:Qn) (Qs:List Qh) (v1:Int) (Yh:List Qe) (Yc:List Qg):List AV:=(eTo a0 6 ((Qs.take v1.toNat).length) 7 Yh.length 8 Yc.length 4 a0.recs.length 5 a0.notes.length)
abbrev Qj.q8 (Qs:List Qh) (v1:Int) (v3:(List Qa) × Bool):=(⟨(Qj.q5 Qs v1).Client,(Qj.q5 Qs v1).Seq,(Qs.getD v1.toNat Qh.z).Time,v3.2⟩:Qg)
abbrev Qj.p0:List (Nat × AV):=[(0,.ptr 0 0 0 0)]
theorem Qj.Qt (a0:Qn) {r:Qn} (H:Qj a0=some r):Xt Tryz.prog 214 [.box 126 (eT a0 1 2 3 4 5 a0 a0),Xk a0.c.Held,Xh a0.c.Log,Wy a0.c.Known,Xu a0.recs,Yk a0.notes] [.ptr 0 0 0 0] [.box 126 (eT r 6 7 8 4 5 a0 a0),.gone,.gone,.gone,Xu a0.recs,Yk a0.notes,Xk r.c.Held,Xh r.c.Log,Wy r.c.Known] (.Ql []):=by
 refine Wx Tryz.func214 rfl (nt:=105) rfl (lb rfl) fun X hP h0 hX=>?_
 have hT:Qw X.P T:=hP▸tok
 have hf:X.P.funcs[214]? = some Tryz.f214:=hP▸Tryz.func214
 refine Qgs [3,2,1] ⟨105,(Qj.p0),[.box 126 (eT a0 6 7 8 4 5 a0 a0),.gone,.gone,.gone,Xu a0.recs,Yk a0.notes,Xk a0.c.Held,Xh a0.c.Log,Wy a0.c.Known]⟩ ?_
 refine Xq hT 2 (Qi9 10 0) ⟨105,(Qj.p0),[.box 126 (eT a0 6 7 8 4 5 a0 a0),.gone,.gone,.gone,Xu a0.recs,Yk a0.notes,Xk a0.c.Held,Xh a0.c.Log,Wy a0.c.Known]⟩ ?_
 have L:∀ n,(∀ (Qs:List Qh) (Yh:List Qe) (Yc:List Qg),iter (Qj.step a0) n (.l1 Qs Yh Yc)=some r->AK X 214 ((Qi9 10 0)) (Ym X [.box 126 (eT r 6 7 8 4 5 a0 a0),.gone,.gone,.gone,Xu a0.recs,Yk a0.notes,Xk r.c.Held,Xh r.c.Log,Wy r.c.Known] (.Ql [])) ⟨105,(Qj.p0),(Qj.q3 a0 Qs Yh Yc)⟩):=by
  intro n
  induction n with
  | zero=>exact fun _ _ _ H=>Qbh H
  | succ n ih=>
   ·intro Qs Yh Yc H
    refine Xq hT 6 (Qi9 10000 3) ⟨105,(Qj.p0++[(10,.agg (eKo a0.c 6 Qs.length 7 Yh.length 8 Yc.length))]),(Qj.q3 a0 Qs Yh Yc)⟩ ?_
    obtain ⟨v1,h1,H⟩:=sbC H
    have Yx:∀ (Qr5:Bool),Jq (Qj.j1 a0 Qs Yh Yc v1 Qr5) (iter (Qj.step a0) n)=some r->AK X 214 ((Qi9 100010 1)) (Ym X [.box 126 (eT r 6 7 8 4 5 a0 a0),.gone,.gone,.gone,Xu a0.recs,Yk a0.notes,Xk r.c.Held,Xh r.c.Log,Wy r.c.Known] (.Ql [])) ⟨105,(Qj.p0++[(2,.i v1),(24,.b Qr5)]),(Qj.q3 a0 Qs Yh Yc)⟩:=by
     intro Qr5 H
     by_cases c4:Qr5=true
     ·replace H:=sT c4 H
      rw [c4]
      refine qI ?_
      obtain rfl:=Yt H
      exact qT hT 1 hf hX h0 [0,1,2,3,4,5,6,7,8] (ac nrT (ac .gone (ac .gone (ac .gone (ac (Xa Wu.nl) (ac (Xa Xg.nl) (ac (Xa Qh.nl) (ac (Xa Qe.nl) (ac (Xa Qg.nl) an))))))))) (.Ql .nil)
     replace H:=sF c4 H
     rw [boF c4]
     refine Xq hT 9 (Qi9 1000110 5) ⟨105,(Qj.p0++[(2,.i v1),(28,.own 6 10 0 Qs.length),(29,.i v1)]),(Qj.q3 a0 Qs Yh Yc)⟩ ?_
     obtain ⟨h5,H⟩:=sC H
     refine Qh2 hT [0,2,30] (i:=v1) (n:=(Qs.length:Int)) h5.1 h5.2 (k':=(Qi9 1000110 6)) (st':=⟨105,(Qj.p0++[(2,.i v1),(30,.ptr 6 10 v1.toNat 0)]),(Qj.q3 a0 Qs Yh Yc)⟩) (by kernel_rfl) ?_
     refine Qjl hT [0,2,31] (i:=v1.toNat) (n:=Qs.length) (ltN h5.1 h5.2) (k':=(Qi9 1000110 7)) (st':=⟨105,(Qj.p0++[(2,.i v1),(31,.d (Qft (Qs.getD v1.toNat Qh.z)))]),(Qj.q3 a0 Qs Yh Yc)⟩) (by kernel_rfl) ?_
     refine Xq hT 4 (Qi9 1000111 0) ⟨105,(Qj.p0++[(2,.i v1),(3,.ptr 9 0 0 0)]),[.box 126 (Qj.q1 a0 Qs Yh Yc),.gone,.gone,.gone,Xu a0.recs,Yk a0.notes,Xk Qs,Xh Yh,Wy Yc,.box 138 (Qef (Qs.getD v1.toNat Qh.z))]⟩ ?_
     obtain ⟨v2,h6,H⟩:=sbC H
     obtain ⟨v3,h7,H⟩:=sbC H
     refine Qcz (nt:=105) (hP▸mixed) 15 [9,10] [0,2,3] [(0,.ptr 0 0 0 0),(2,.i v1),(3,.ptr 9 0 0 0)] (sm [.ptr 0 0 0 0,.ptr 0 0 0 0,.agg (eKo a0.c 6 Qs.length 7 Yh.length 8 Yc.length),.d (We true v2),.ptr 9 0 0 0,.d (Qan (Qj.q5 Qs v1)),.ptr 0 0 0 0,.ptr 0 0 0 0,.agg (eKo a0.c 6 Qs.length 7 Yh.length 8 Yc.length),.own 10 2 0 ((Qj.q2 a0 Qs Yh Yc).length),.Ql [.own 11 2 0 v3.1.length,.b v3.2],.Ql [.own 11 2 0 v3.1.length,.b v3.2],.own 11 2 0 v3.1.length,.b v3.2,.own 11 2 0 v3.1.length]) [[.box 126 (Qj.q1 a0 Qs Yh Yc),.gone,.gone,.gone,Xu a0.recs,Yk a0.notes,Xk Qs,Xh Yh,Wy Yc,.box 138 (Qef (Qs.getD v1.toNat Qh.z))],[.box 126 (Qj.q1 a0 Qs Yh Yc),.gone,.gone,.gone,Xu a0.recs,Yk a0.notes,Xk Qs,Xh Yh,Wy Yc,.box 138 (Qef (Qs.getD v1.toNat Qh.z)),Je (Qj.q2 a0 Qs Yh Yc)],[.box 126 (Qj.q1 a0 Qs Yh Yc),.gone,.gone,.gone,Xu a0.recs,Yk a0.notes,Xk Qs,Xh Yh,Wy Yc,.box 138 (Qef (Qs.getD v1.toNat Qh.z)),Qfm (Qj.q2 a0 Qs Yh Yc),Yb v3.1]] (by kernel_rfl) (by kernel_rfl) (by kernel_rfl) (by kernel_rfl) ⟨?_,(fun R rest h=>Qdb (Xx:=[.agg (eKo a0.c 6 Qs.length 7 Yh.length 8 Yc.length)]) (dst:=some 42) hP Qf0 (Ze.Qt (⟨a0.c.ID,a0.c.Keys,a0.c.Clock,a0.c.Ws,a0.c.Wn,Qs,a0.c.Base,Yh,Yc⟩:Qc)) (by kernel_rfl) (.cons (.agg (.cons (Qk _) (.cons (Qk _) (.cons (Qk _) (.cons (Qk _) (.cons (Qk _) (.cons (Qk _) (.cons (.Qcr (ty:=138) (by kernel_rfl) rfl) (.cons (Qk _) (.cons (.Qcr (ty:=141) (by kernel_rfl) rfl) (.cons (.Qcr (ty:=131) (by kernel_rfl) rfl) .nil))))))))))) .nil) (by kernel_rfl) h),⟨?_,(fun R rest h=>Qcb 10 (kk:=2) (n:=(Qj.q2 a0 Qs Yh Yc).length) (ty:=24) (g:=vec Qb.e Qb.z (Qj.q2 a0 Qs Yh Yc)) (by kernel_rfl) rfl ((fun R rest h=>Qdb (Xx:=[.d (We true v2),.d (Qan (Qj.q5 Qs v1)),.own 10 2 0 ((Qj.q2 a0 Qs Yh Yc).length)]) (dst:=some 43) hP Qqh (Wm.Qt (t0:=true) v2 (Qj.q5 Qs v1) (Qj.q2 a0 Qs Yh Yc) h7) (by kernel_rfl) (.cons (Qk _) (.cons (Qk _) (.cons (.Qcr (ty:=24) (by kernel_rfl) rfl) .nil))) (by kernel_rfl) h) R rest h)),?_⟩⟩ ?_
     iterate 3 exact (Wh (Wh (Wh (Wh (Qcj (Qcj (Wh (Wh (Wh (Wh (Wh (Qir (Wh (Wh (Wh Qer hT) hT) hT) (fun R rest h=>Zk (Xx:=[.agg (eKo a0.c 6 Qs.length 7 Yh.length 8 Yc.length)]) (dst:=some 36) hP Qqe (Xv.Qt (⟨a0.c.ID,a0.c.Keys,a0.c.Clock,a0.c.Ws,a0.c.Wn,Qs,a0.c.Base,Yh,Yc⟩:Qc) h6) (by kernel_rfl) (.cons (.agg (.cons (Qk _) (.cons (Qk _) (.cons (Qk _) (.cons (Qk _) (.cons (Qk _) (.cons (Qk _) (.cons (.Qcr (ty:=138) (by kernel_rfl) rfl) (.cons (Qk _) (.cons (.Qcr (ty:=141) (by kernel_rfl) rfl) (.cons (.Qcr (ty:=131) (by kernel_rfl) rfl) .nil))))))))))) .nil) (by kernel_rfl) h)) hT) hT) hT) hT) hT))) hT) hT) hT) hT)
     refine Xq hT 12 (Qi9 100011110 8) ⟨105,(Qj.p0++[(3,.ptr 9 0 0 0),(5,.b v3.2),(46,.ptr 0 0 0 0),(50,.own 6 10 0 Qs.length),(51,.i v1),(53,.i (IntKind.wrap .i64 (v1+1)))]),[.box 126 (Qj.q1 a0 Qs Yh Yc),.gone,.gone,.gone,Xu a0.recs,Yk a0.notes,Xk Qs,Xh Yh,Wy Yc,.box 138 (Qef (Qs.getD v1.toNat Qh.z)),Qfm (Qj.q2 a0 Qs Yh Yc),Yb v3.1]⟩ ?_
     obtain ⟨h8,H⟩:=sC H
     refine Zd (Xx:=[.own 6 10 0 Qs.length,.i v1,.i (IntKind.wrap .i64 (v1+1))]) (dst:=some 54) (k':=(Qi9 100011110 9)) [0,3,5,46,54] [6] hP Wdq (Wfx Qs v1 (IntKind.wrap .i64 (v1+1)) h8) (by kernel_rfl) (Qel rfl rfl) (.cons (.same (.own 0 10 0 Qs.length)) (.cons (Qk _) (.cons (Qk _) .nil))) (st':=⟨105,(Qj.p0++[(3,.ptr 9 0 0 0),(5,.b v3.2),(46,.ptr 0 0 0 0),(54,.own 6 10 0 ((Qs.take v1.toNat).length))]),[.box 126 (Qj.q1 a0 Qs Yh Yc),.gone,.gone,.gone,Xu a0.recs,Yk a0.notes,Xk (Qs.take v1.toNat),Xh Yh,Wy Yc,.box 138 (Qef (Qs.getD v1.toNat Qh.z)),Qfm (Qj.q2 a0 Qs Yh Yc),Yb v3.1]⟩) (by kernel_rfl) ?_
     refine Xq hT 5 (Qi9 100011111 0) ⟨105,(Qj.p0++[(3,.ptr 9 0 0 0),(5,.b v3.2)]),[.box 126 (Qj.q7 a0 Qs v1 Yh Yc),.gone,.gone,.gone,Xu a0.recs,Yk a0.notes,Xk (Qs.take v1.toNat),Xh Yh,Wy Yc,.box 138 (Qef (Qs.getD v1.toNat Qh.z)),Qfm (Qj.q2 a0 Qs Yh Yc),Yb v3.1]⟩ ?_
     obtain ⟨h9,H⟩:=sC H
     refine Qcz (nt:=105) (hP▸mixed) 13 [11,12] [0,3,5] [(0,.ptr 0 0 0 0),(3,.ptr 9 0 0 0),(5,.b v3.2)] (sm [.ptr 0 0 0 0,.ptr 0 0 0 0,.ptr 0 0 0 0,.ptr 0 0 0 8,.own 7 9 0 Yh.length,.ptr 9 0 0 0,.d (Qan (Qj.q5 Qs v1)),.ptr 9 0 0 7,.i ((Qs.getD v1.toNat Qh.z).Time),.b v3.2,.d (.agg [.i ((Qj.q5 Qs v1).Client),.i ((Qj.q5 Qs v1).Seq),.i ((Qj.q5 Qs v1).Kind),We true ((Qj.q5 Qs v1).Pairs),.i (((Qj.q5 Qs v1).Over).Lo),.i (((Qj.q5 Qs v1).Over).Hi),.i ((Qj.q5 Qs v1).Old),.i ((Qs.getD v1.toNat Qh.z).Time),.b v3.2]),.own 12 9 0 1,.own 13 9 0 ((Yh ++ [(Qj.q6 Qs v1 v3)]).length)]) [[.box 126 (Qj.q7 a0 Qs v1 Yh Yc),.gone,.gone,.gone,Xu a0.recs,Yk a0.notes,Xk (Qs.take v1.toNat),Xh Yh,Wy Yc,.box 138 (Qef (Qs.getD v1.toNat Qh.z)),Qfm (Qj.q2 a0 Qs Yh Yc),Yb v3.1],[.box 126 (Qj.q7 a0 Qs v1 Yh Yc),.gone,.gone,.gone,Xu a0.recs,Yk a0.notes,Xk (Qs.take v1.toNat),Xh Yh,Wy Yc,.box 138 (Qef (Qs.getD v1.toNat Qh.z)),Qfm (Qj.q2 a0 Qs Yh Yc),Yb v3.1,.flat false 9 141 1 (fun j=>[[.i ((Qj.q5 Qs v1).Client),.i ((Qj.q5 Qs v1).Seq),.i ((Qj.q5 Qs v1).Kind),We true ((Qj.q5 Qs v1).Pairs),.i (((Qj.q5 Qs v1).Over).Lo),.i (((Qj.q5 Qs v1).Over).Hi),.i ((Qj.q5 Qs v1).Old),.i ((Qs.getD v1.toNat Qh.z).Time),.b v3.2]].getD j [])],[.box 126 (Qj.q7 a0 Qs v1 Yh Yc),.gone,.gone,.gone,Xu a0.recs,Yk a0.notes,Xk (Qs.take v1.toNat),.gone,Wy Yc,.box 138 (Qef (Qs.getD v1.toNat Qh.z)),Qfm (Qj.q2 a0 Qs Yh Yc),Yb v3.1,.flat false 9 141 1 (fun j=>[[.i ((Qj.q5 Qs v1).Client),.i ((Qj.q5 Qs v1).Seq),.i ((Qj.q5 Qs v1).Kind),We true ((Qj.q5 Qs v1).Pairs),.i (((Qj.q5 Qs v1).Over).Lo),.i (((Qj.q5 Qs v1).Over).Hi),.i ((Qj.q5 Qs v1).Old),.i ((Qs.getD v1.toNat Qh.z).Time),.b v3.2]].getD j []),Xh (Yh ++ [(Qj.q6 Qs v1 v3)])]] (by kernel_rfl) (by kernel_rfl) (by kernel_rfl) (by kernel_rfl) ⟨?_,(Qj4 hT),⟨?_,(fun R rest h=>Qlb (id:=7) (kk:=9) (id2:=12) (by':=88) (t:=27) (e:=141) (e2:=141) (z:=[.int .i64 0,.int .i64 0,.int .i64 0,.slice none 0 0,.int .i64 0,.int .i64 0,.int .i64 0,.int .i64 0,.bool false]) (dst:=some 69) (fz:=false) hT Qe.e Qe.z Yh (Qj.q6 Qs v1 v3) (by kernel_rfl) (by kernel_rfl) (by kernel_rfl) (by kernel_rfl) (by kernel_rfl) (by kernel_rfl) (by kernel_rfl) h9 (by omega) (by kernel_rfl) h),?_⟩⟩ ?_
     iterate 3 exact (Qcj (Qcj (Wh (Wh (Wh (Wh (Wh (Wh (Wh (Wh (Wh (Wh (Wh Qer hT) hT) hT) hT) hT) hT) hT) hT) hT) hT) hT)))
     refine Xq hT 5 (Qi9 1000111111 0) ⟨105,(Qj.p0++[(3,.ptr 9 0 0 0),(5,.b v3.2)]),[.box 126 (Qj.q4 a0 Qs v1 Yh v3 Yc),.gone,.gone,.gone,Xu a0.recs,Yk a0.notes,Xk (Qs.take v1.toNat),.gone,Wy Yc,.box 138 (Qef (Qs.getD v1.toNat Qh.z)),Qfm (Qj.q2 a0 Qs Yh Yc),Yb v3.1,.flat false 9 141 1 (fun j=>[[.i ((Qj.q5 Qs v1).Client),.i ((Qj.q5 Qs v1).Seq),.i ((Qj.q5 Qs v1).Kind),We true ((Qj.q5 Qs v1).Pairs),.i (((Qj.q5 Qs v1).Over).Lo),.i (((Qj.q5 Qs v1).Over).Hi),.i ((Qj.q5 Qs v1).Old),.i ((Qs.getD v1.toNat Qh.z).Time),.b v3.2]].getD j []),Xh (Yh ++ [(Qj.q6 Qs v1 v3)])]⟩ ?_
     obtain ⟨v4,h10,H⟩:=sbC H
     refine Qab (hP▸mixed) 14 [0,3,5] (sm [.ptr 0 0 0 0,.ptr 0 0 0 0,.agg (eKo a0.c 6 ((Qs.take v1.toNat).length) 13 ((Yh ++ [(Qj.q6 Qs v1 v3)]).length) 8 Yc.length),.ptr 9 0 0 0,.ptr 9 0 0 0,.i ((Qj.q5 Qs v1).Client),.ptr 9 0 0 0,.ptr 9 0 0 1,.i ((Qj.q5 Qs v1).Seq),.Ql [.i v4.1,.b v4.2],.Ql [.i v4.1,.b v4.2],.i v4.1,.b v4.2,.i v4.1]) (Qd (Qd (Qd (Qd (opS (Qd (Qd (Qd (Qd (Qd (Qd (Qd (Qd (Qd op0 hT) hT) hT) hT) hT) hT) hT) hT) hT) (fun R rest h=>Zk (Xx:=[.agg (eKo a0.c 6 ((Qs.take v1.toNat).length) 13 ((Yh ++ [(Qj.q6 Qs v1 v3)]).length) 8 Yc.length),.i ((Qj.q5 Qs v1).Client),.i ((Qj.q5 Qs v1).Seq)]) (dst:=some 82) hP Qlm (Qdl.Qt (⟨a0.c.ID,a0.c.Keys,a0.c.Clock,a0.c.Ws,a0.c.Wn,Qs.take v1.toNat,a0.c.Base,Yh ++ [(Qj.q6 Qs v1 v3)],Yc⟩:Qc) ((Qj.q5 Qs v1).Client) ((Qj.q5 Qs v1).Seq) h10) (by kernel_rfl) (.cons (.agg (.cons (Qk _) (.cons (Qk _) (.cons (Qk _) (.cons (Qk _) (.cons (Qk _) (.cons (Qk _) (.cons (.Qcr (ty:=138) (by kernel_rfl) rfl) (.cons (Qk _) (.cons (.Qcr (ty:=141) (by kernel_rfl) rfl) (.cons (.Qcr (ty:=131) (by kernel_rfl) rfl) .nil))))))))))) (.cons (Qk _) (.cons (Qk _) .nil))) (by kernel_rfl) h)) hT) hT) hT) hT) ?_
     refine Xq hT 2 (Qi9 1000111111 1) ⟨105,(Qj.p0++[(3,.ptr 9 0 0 0),(5,.b v3.2),(6,.i v4.1)]),[.box 126 (Qj.q4 a0 Qs v1 Yh v3 Yc),.gone,.gone,.gone,Xu a0.recs,Yk a0.notes,Xk (Qs.take v1.toNat),.gone,Wy Yc,.box 138 (Qef (Qs.getD v1.toNat Qh.z)),Qfm (Qj.q2 a0 Qs Yh Yc),Yb v3.1,.flat false 9 141 1 (fun j=>[[.i ((Qj.q5 Qs v1).Client),.i ((Qj.q5 Qs v1).Seq),.i ((Qj.q5 Qs v1).Kind),We true ((Qj.q5 Qs v1).Pairs),.i (((Qj.q5 Qs v1).Over).Lo),.i (((Qj.q5 Qs v1).Over).Hi),.i ((Qj.q5 Qs v1).Old),.i ((Qs.getD v1.toNat Qh.z).Time),.b v3.2]].getD j []),Xh (Yh ++ [(Qj.q6 Qs v1 v3)])]⟩ ?_
     obtain ⟨h11,H⟩:=sC H
     refine Qcz (nt:=105) (hP▸mixed) 18 [16,17] [0,3,5,6] [(0,.ptr 0 0 0 0),(3,.ptr 9 0 0 0),(5,.b v3.2),(6,.i v4.1)] (sm [.ptr 0 0 0 0,.ptr 0 0 0 0,.ptr 0 0 0 0,.ptr 0 0 0 9,.own 8 4 0 Yc.length,.i v4.1,.ptr 9 0 0 0,.ptr 9 0 0 0,.i ((Qj.q5 Qs v1).Client),.ptr 9 0 0 0,.ptr 9 0 0 1,.i ((Qj.q5 Qs v1).Seq),.ptr 9 0 0 7,.i ((Qs.getD v1.toNat Qh.z).Time),.b v3.2,.d (.agg [.i ((Qj.q5 Qs v1).Client),.i ((Qj.q5 Qs v1).Seq),.i ((Qs.getD v1.toNat Qh.z).Time),.b v3.2]),.own 14 4 0 1,.own 15 4 0 ((Yc.take v4.1.toNat ++ (Qj.q8 Qs v1 v3) :: Yc.drop v4.1.toNat).length)]) [[.box 126 (Qj.q4 a0 Qs v1 Yh v3 Yc),.gone,.gone,.gone,Xu a0.recs,Yk a0.notes,Xk (Qs.take v1.toNat),.gone,Wy Yc,.box 138 (Qef (Qs.getD v1.toNat Qh.z)),Qfm (Qj.q2 a0 Qs Yh Yc),Yb v3.1,.flat false 9 141 1 (fun j=>[[.i ((Qj.q5 Qs v1).Client),.i ((Qj.q5 Qs v1).Seq),.i ((Qj.q5 Qs v1).Kind),We true ((Qj.q5 Qs v1).Pairs),.i (((Qj.q5 Qs v1).Over).Lo),.i (((Qj.q5 Qs v1).Over).Hi),.i ((Qj.q5 Qs v1).Old),.i ((Qs.getD v1.toNat Qh.z).Time),.b v3.2]].getD j []),Xh (Yh ++ [(Qj.q6 Qs v1 v3)])],[.box 126 (Qj.q4 a0 Qs v1 Yh v3 Yc),.gone,.gone,.gone,Xu a0.recs,Yk a0.notes,Xk (Qs.take v1.toNat),.gone,Wy Yc,.box 138 (Qef (Qs.getD v1.toNat Qh.z)),Qfm (Qj.q2 a0 Qs Yh Yc),Yb v3.1,.flat false 9 141 1 (fun j=>[[.i ((Qj.q5 Qs v1).Client),.i ((Qj.q5 Qs v1).Seq),.i ((Qj.q5 Qs v1).Kind),We true ((Qj.q5 Qs v1).Pairs),.i (((Qj.q5 Qs v1).Over).Lo),.i (((Qj.q5 Qs v1).Over).Hi),.i ((Qj.q5 Qs v1).Old),.i ((Qs.getD v1.toNat Qh.z).Time),.b v3.2]].getD j []),Xh (Yh ++ [(Qj.q6 Qs v1 v3)]),.flat false 4 131 1 (fun j=>[[.i ((Qj.q5 Qs v1).Client),.i ((Qj.q5 Qs v1).Seq),.i ((Qs.getD v1.toNat Qh.z).Time),.b v3.2]].getD j [])],[.box 126 (Qj.q4 a0 Qs v1 Yh v3 Yc),.gone,.gone,.gone,Xu a0.recs,Yk a0.notes,Xk (Qs.take v1.toNat),.gone,.gone,.box 138 (Qef (Qs.getD v1.toNat Qh.z)),Qfm (Qj.q2 a0 Qs Yh Yc),Yb v3.1,.flat false 9 141 1 (fun j=>[[.i ((Qj.q5 Qs v1).Client),.i ((Qj.q5 Qs v1).Seq),.i ((Qj.q5 Qs v1).Kind),We true ((Qj.q5 Qs v1).Pairs),.i (((Qj.q5 Qs v1).Over).Lo),.i (((Qj.q5 Qs v1).Over).Hi),.i ((Qj.q5 Qs v1).Old),.i ((Qs.getD v1.toNat Qh.z).Time),.b v3.2]].getD j []),Xh (Yh ++ [(Qj.q6 Qs v1 v3)]),.gone,Wy (Yc.take v4.1.toNat ++ (Qj.q8 Qs v1 v3) :: Yc.drop v4.1.toNat)]] (by kernel_rfl) (by kernel_rfl) (by kernel_rfl) (by kernel_rfl) ⟨?_,(Qj4 hT),⟨?_,(fun R rest h=>We6 (Xx:=[.own 8 4 0 Yc.length,.i v4.1,.own 14 4 0 1]) (dst:=some 102) [8,14] hP Qwh (Qzc Yc v4.1 (Qj.q8 Qs v1 v3) h11) (by kernel_rfl) (Qj2 rfl rfl rfl rfl (by decide)) (.cons (.same (.own 0 4 0 Yc.length)) (.cons (Qk _) (.cons (.same (.own 1 4 0 1)) .nil))) (by kernel_rfl) h),?_⟩⟩ ?_
     iterate 3 exact (Qcj (Qcj (Wh (Wh (Wh (Wh (Wh (Wh (Wh (Wh (Wh (Wh (Wh (Wh (Wh (Wh (Wh (Wh Qer hT) hT) hT) hT) hT) hT) hT) hT) hT) hT) hT) hT) hT) hT) hT) hT)))
     exact Zr hT 6 _ [0,1,2,3,4,5,6,13,15] _ h0 (ih (Qs.take v1.toNat) (Yh ++ [(Qj.q6 Qs v1 v3)]) (Yc.take v4.1.toNat ++ (Qj.q8 Qs v1 v3) :: Yc.drop v4.1.toNat) H)
    refine Zd (Xx:=[.agg (eKo a0.c 6 Qs.length 7 Yh.length 8 Yc.length)]) (dst:=some 11) (k':=(Qi9 10000 4)) [0,11] [] hP Wdo (Xf.Qt (⟨a0.c.ID,a0.c.Keys,a0.c.Clock,a0.c.Ws,a0.c.Wn,Qs,a0.c.Base,Yh,Yc⟩:Qc) h1) (by kernel_rfl) (Qao _) (.cons (.agg (.cons (Qk _) (.cons (Qk _) (.cons (Qk _) (.cons (Qk _) (.cons (Qk _) (.cons (Qk _) (.cons (.Qcr (ty:=138) (by kernel_rfl) rfl) (.cons (Qk _) (.cons (.Qcr (ty:=141) (by kernel_rfl) rfl) (.cons (.Qcr (ty:=131) (by kernel_rfl) rfl) .nil))))))))))) .nil) (st':=⟨105,(Qj.p0++[(11,.i v1)]),(Qj.q3 a0 Qs Yh Yc)⟩) (by kernel_rfl) ?_
    refine qI ?_
    rcases sB H with ⟨c2,H⟩ | ⟨c2,H⟩
    ·refine qB hT 8 (decide_eq_true c2) ?_
     exact qE hT 11 _ _ (Yx true H)
    refine qB hT 8 (decide_eq_false c2) ?_
    obtain ⟨h3,H⟩:=sC H
    refine qX hT 5 h3 ?_
    refine qE hT 1 (Qi9 1000100 10) ⟨105,(Qj.p0++[(2,.i v1),(14,.b false),(21,.ptr 6 10 v1.toNat 8)]),(Qj.q3 a0 Qs Yh Yc)⟩ ?_
    refine Qjl hT [0,2,14,22] (i:=v1.toNat) (n:=Qs.length) (ltN h3.1 h3.2) (k':=(Qi9 1000100 11)) (st':=⟨105,(Qj.p0++[(2,.i v1),(14,.b false),(22,.b ((Qs.getD v1.toNat Qh.z).Qg5))]),(Qj.q3 a0 Qs Yh Yc)⟩) (by kernel_rfl) ?_
    exact Xq hT 3 _ _ (Yx (!((Qs.getD v1.toNat Qh.z).Qg5)) H)
 obtain ⟨n,H⟩:=Qbw H
 exact (L n) a0.c.Held a0.c.Log a0.c.Known H
abbrev Yv.q1 (a0:Qn) (a1:Wu):List Row:=[.box 126 (eT a0 6 7 8 4 5 a0 a0),.gone,.gone,.gone,Xu a0.recs,Yk a0.notes,Xk a0.c.Held,Xh a0.c.Log,Wy a0.c.Known,.box 185 (Qe2 a1)]
abbrev Yv.q2 (a0:Qn):List AV:=(eT a0 7 8 9 4 5 a0 a0)
abbrev Yv.q3 (v2:List Qh) (v1:Int):=(v2.set v1.toNat (⟨((v2.getD v1.toNat Qh.z).M),(v2.getD v1.toNat Qh.z).Time,true,(v2.getD v1.toNat Qh.z).Qg6⟩:Qh))
abbrev Yv.q4 (a0:Qn) (v1:Int) (a1:Wu):=(a0.c.Held.set v1.toNat (⟨((a0.c.Held.getD v1.toNat Qh.z).M),a1.Time,(a0.c.Held.getD v1.toNat Qh.z).Qg5,(a0.c.Held.getD v1.toNat Qh.z).Qg6⟩:Qh))
abbrev Yv.q5 (a0:Qn) (a1:Wu):List Row:=[.box 126 (Yv.q2 a0),.gone,.gone,.gone,Xu a0.recs,Yk a0.notes,.box 185 (Qe2 a1),Xk a0.c.Held,Xh a0.c.Log,Wy a0.c.Known]
abbrev Yv.s1 (v1:Int) (a0:Qn) (a1:Wu):St:=⟨71,(Qj.p0++[(3,.ptr 6 0 0 0),(5,.i v1)]),(Yv.q5 a0 a1)⟩
abbrev Yv.p0:List (Nat × AV):=[(0,.ptr 0 0 0 0),(3,.ptr 9 0 0 0)]
theorem Yv.Qt (a0:Qn) (a1:Wu) {r:Int × Qn} (H:Yv a0 a1=some r):Xt Tryz.prog 191 [.box 126 (eT a0 1 2 3 4 5 a0 a0),Xk a0.c.Held,Xh a0.c.Log,Wy a0.c.Known,Xu a0.recs,Yk a0.notes] [.ptr 0 0 0 0,.d (Qjo a1)] [.box 126 (eT r.2 6 7 8 4 5 a0 a0),.gone,.gone,.gone,Xu a0.recs,Yk a0.notes,Xk r.2.c.Held,Xh r.2.c.Log,Wy r.2.c.Known] (.i r.1):=by
 refine Wx Tryz.func191 rfl (nt:=71) rfl (lb rfl) fun X hP h0 hX=>?_
 have hT:Qw X.P T:=hP▸tok
 have hf:X.P.funcs[191]? = some Tryz.f191:=hP▸Tryz.func191
 refine Qgs [3,2,1] ⟨71,[(0,.ptr 0 0 0 0),(1,.d (Qjo a1))],[.box 126 (eT a0 6 7 8 4 5 a0 a0),.gone,.gone,.gone,Xu a0.recs,Yk a0.notes,Xk a0.c.Held,Xh a0.c.Log,Wy a0.c.Known]⟩ ?_
 refine Xq hT 6 (Qjr 11 0) ⟨71,(Yv.p0),(Yv.q1 a0 a1)⟩ ?_
 refine Qab (hP▸mixed) 7 [0,3] (sm [.ptr 0 0 0 0,.ptr 0 0 0 0,.agg (eK a0.c 6 7 8),.ptr 9 0 0 2,.i a1.Client,.ptr 9 0 0 3,.i a1.Seq]) (Qd (Qd (Qd (Qd (Qd (Qd (Qd op0 hT) hT) hT) hT) hT) hT) hT) ?_
 refine Xq hT 0 (Qjr 110 7) ⟨71,(Yv.p0++[(8,.agg (eK a0.c 6 7 8)),(10,.i a1.Client),(12,.i a1.Seq)]),(Yv.q1 a0 a1)⟩ ?_
 obtain ⟨v1,h1,H⟩:=ibC H
 refine Zd (Xx:=[.agg (eK a0.c 6 7 8),.i a1.Client,.i a1.Seq]) (dst:=some 13) (k':=(Qjr 110 8)) [0,3,13] [] hP Qo2 (Qaz.Qt (⟨a0.c.ID,a0.c.Keys,a0.c.Clock,a0.c.Ws,a0.c.Wn,a0.c.Held,a0.c.Base,a0.c.Log,a0.c.Known⟩:Qc) a1.Client a1.Seq h1) (by kernel_rfl) (Qao _) (.cons (.agg (.cons (Qk _) (.cons (Qk _) (.cons (Qk _) (.cons (Qk _) (.cons (Qk _) (.cons (Qk _) (.cons (.Qcr (ty:=138) (by kernel_rfl) rfl) (.cons (Qk _) (.cons (.Qcr (ty:=141) (by kernel_rfl) rfl) (.cons (.Qcr (ty:=131) (by kernel_rfl) rfl) .nil))))))))))) (.cons (Qk _) (.cons (Qk _) .nil))) (st':=⟨71,(Yv.p0++[(13,.i v1)]),(Yv.q1 a0 a1)⟩) (by kernel_rfl) ?_
 refine Xq hT 10 (Qjr 11100 1) ⟨71,(Yv.p0++[(5,.i v1),(14,.b (decide (v1 < 0)))]),(Yv.q1 a0 a1)⟩ ?_
 by_cases c2:v1 < 0
 ·replace H:=iT c2 H
  cases (show (none:Option _)=some _ from H)
 replace H:=iF c2 H
 rw [decide_eq_false c2]
 refine qI ?_
 obtain ⟨h3,H⟩:=iC H
 refine qX hT 8 h3 ?_
 refine qE hT 1 (Qjr 11100110 7) ⟨71,(Yv.p0++[(5,.i v1),(24,.ptr 6 10 v1.toNat 8)]),(Yv.q1 a0 a1)⟩ ?_
 refine Qjl hT [0,3,5,25] (i:=v1.toNat) (n:=a0.c.Held.length) (ltN h3.1 h3.2) (k':=(Qjr 11100110 8)) (st':=⟨71,(Yv.p0++[(5,.i v1),(25,.b ((a0.c.Held.getD v1.toNat Qh.z).Qg5))]),(Yv.q1 a0 a1)⟩) (by kernel_rfl) ?_
 refine Xq hT 2 (Qjr 1110011 1) ⟨71,(Yv.p0++[(5,.i v1),(17,.b ((a0.c.Held.getD v1.toNat Qh.z).Qg5))]),(Yv.q1 a0 a1)⟩ ?_
 by_cases c4:((a0.c.Held.getD v1.toNat Qh.z).Qg5)=true
 ·replace H:=iT c4 H
  cases (show (none:Option _)=some _ from H)
 replace H:=iF c4 H
 have Yx:∀ (Qi3:Bool),(Yv.j1 a0 a1 v1 Qi3)=some r->AK X 191 ((Qjr 111001111 1)) (Ym X [.box 126 (eT r.2 6 7 8 4 5 a0 a0),.gone,.gone,.gone,Xu a0.recs,Yk a0.notes,Xk r.2.c.Held,Xh r.2.c.Log,Wy r.2.c.Known] (.i r.1)) ⟨71,[(0,.ptr 0 0 0 0),(3,.ptr 6 0 0 0),(5,.i v1),(26,.b Qi3)],(Yv.q5 a0 a1)⟩:=by
  intro Qi3 H
  by_cases c6:Qi3=true
  ·replace H:=iT c6 H
   cases (show (none:Option _)=some _ from H)
  replace H:=iF c6 H
  rw [boF c6]
  refine Xq hT 4 (Qjr 1111 0) (Yv.s1 v1 a0 a1) ?_
  refine Qto (nt:=71) (hP▸mixed) 15 [14] [0,3,5] [(0,.ptr 0 0 0 0),(3,.ptr 6 0 0 0),(5,.i v1)] [some (.ptr 0 0 0 0),some (.ptr 0 0 0 0),some (.ptr 0 0 0 6),some (.own 7 10 0 a0.c.Held.length),some (.i v1),some (.ptr 0 0 0 0),some (.ptr 0 0 0 0),some (.ptr 0 0 0 6),some (.own 7 10 0 a0.c.Held.length),some (.i v1),some (.ptr 6 0 0 4),some (.i a1.Time),some (.ptr 7 10 v1.toNat 0),some (.ptr 7 10 v1.toNat 7),none] [[.box 126 (Yv.q2 a0),.gone,.gone,.gone,Xu a0.recs,Yk a0.notes,.box 185 (Qe2 a1),Xk a0.c.Held,Xh a0.c.Log,Wy a0.c.Known],[.box 126 (Yv.q2 a0),.gone,.gone,.gone,Xu a0.recs,Yk a0.notes,.box 185 (Qe2 a1),.flat false 10 138 a0.c.Held.length (vec Qh.e Qh.z (Yv.q4 a0 v1 a1)),Xh a0.c.Log,Wy a0.c.Known]] (by kernel_rfl) (by kernel_rfl) (by kernel_rfl) (by kernel_rfl) ⟨(Wo2 (Qkf (Wo1 (Qkf (Qkf (Qkf (Qkf (Qkf (Qkf (Qkf (Qkf (Qkf (Qkf (Qkf (Qkf Wo0 hT) hT) hT) hT) hT) hT) hT) hT) hT) hT) hT) hT) (fun R rest h=>Qba hT (i:=v1) (n:=(a0.c.Held.length:Int)) h3.1 h3.2 (by kernel_rfl) h)) hT)),(fun R rest h=>Qx5 (id:=7) (kk:=10) (i:=v1.toNat) (off:=7) (s:=1) (n:=a0.c.Held.length) (ty:=138) (ds:=[.i a1.Time]) (g:=vec Qh.e Qh.z a0.c.Held) hT (vec Qh.e Qh.z (Yv.q4 a0 v1 a1)) (by kernel_rfl) (by kernel_rfl) (ltN h3.1 h3.2) ((Qi1 (ltN h3.1 h3.2)).trans (by kernel_rfl)) Qfx rfl h),(Wo2 (Qk2 (Qk2 (Qk2 (Qk2 (Qkf (Qk2 (Qk2 (Qk2 (Qk2 (Qk2 (Qk2 (Qk2 (Qk2 (Qk2 Wo0))))))))) hT))))))⟩ ?_
  refine Wlx [0,3,51,52] (st':=⟨71,[(0,.ptr 0 0 0 0),(3,.ptr 6 0 0 0),(51,.own 7 10 0 (a0.c.Held.length)),(52,.i v1)],[.box 126 (eT a0 7 8 9 4 5 a0 a0),.gone,.gone,.gone,.flat false 25 185 a0.recs.length (vec Wu.e Wu.z a0.recs),.flat false 23 78 a0.notes.length (vec Xg.e Xg.z a0.notes),.box 185 (Qe2 a1),.flat false 10 138 a0.c.Held.length (vec Qh.e Qh.z (Yv.q4 a0 v1 a1)),.flat false 9 141 a0.c.Log.length (vec Qe.e Qe.z a0.c.Log),.flat false 4 131 a0.c.Known.length (vec Qg.e Qg.z a0.c.Known)]⟩) (by kernel_rfl) ?_
  refine Qiw (show a0.c.Held.length=(Yv.q4 a0 v1 a1).length from by simp only [List.length_set]) (fun nn=>⟨71,[(0,.ptr 0 0 0 0),(3,.ptr 6 0 0 0),(51,.own 7 10 0 (nn)),(52,.i v1)],[.box 126 (eTo a0 7 (nn) 8 a0.c.Log.length 9 a0.c.Known.length 4 a0.recs.length 5 a0.notes.length),.gone,.gone,.gone,.flat false 25 185 a0.recs.length (vec Wu.e Wu.z a0.recs),.flat false 23 78 a0.notes.length (vec Xg.e Xg.z a0.notes),.box 185 (Qe2 a1),.flat false 10 138 nn (vec Qh.e Qh.z (Yv.q4 a0 v1 a1)),.flat false 9 141 a0.c.Log.length (vec Qe.e Qe.z a0.c.Log),.flat false 4 131 a0.c.Known.length (vec Qg.e Qg.z a0.c.Known)]⟩) ?_
  obtain ⟨v2,h7,H⟩:=idC H
  rw [<- show v2=(Yv.q4 a0 v1 a1) from h7]
  obtain ⟨h8,H⟩:=iC H
  refine qI ?_
  refine qX hT 0 h8 ?_
  refine qE hT 1 (Qjr 11110 17) ⟨71,[(0,.ptr 0 0 0 0),(3,.ptr 6 0 0 0),(58,.ptr 7 10 v1.toNat 8)],[.box 126 (eTo a0 7 v2.length 8 a0.c.Log.length 9 a0.c.Known.length 4 a0.recs.length 5 a0.notes.length),.gone,.gone,.gone,Xu a0.recs,Yk a0.notes,.box 185 (Qe2 a1),Xk v2,Xh a0.c.Log,Wy a0.c.Known]⟩ ?_
  refine Qnc (id:=7) (kk:=10) (i:=v1.toNat) (off:=8) (s:=1) (n:=v2.length) (ty:=138) (ds:=[.b true]) (g:=vec Qh.e Qh.z v2) (k':=(Qjr 11110 18)) hT [0,3] (vec Qh.e Qh.z (Yv.q3 v2 v1)) (by kernel_rfl) (by kernel_rfl) (ltN h8.1 h8.2) ((Qi1 (ltN h8.1 h8.2)).trans (by kernel_rfl)) Qfx (st':=⟨71,[(0,.ptr 0 0 0 0),(3,.ptr 6 0 0 0)],[.box 126 (eTo a0 7 (v2.length) 8 a0.c.Log.length 9 a0.c.Known.length 4 a0.recs.length 5 a0.notes.length),.gone,.gone,.gone,.flat false 25 185 a0.recs.length (vec Wu.e Wu.z a0.recs),.flat false 23 78 a0.notes.length (vec Xg.e Xg.z a0.notes),.box 185 (Qe2 a1),.flat false 10 138 v2.length (vec Qh.e Qh.z (Yv.q3 v2 v1)),.flat false 9 141 a0.c.Log.length (vec Qe.e Qe.z a0.c.Log),.flat false 4 131 a0.c.Known.length (vec Qg.e Qg.z a0.c.Known)]⟩) (by kernel_rfl) ?_
  refine Qiw (show v2.length=(Yv.q3 v2 v1).length from (List.length_set ..).symm) (fun nn=>⟨71,[(0,.ptr 0 0 0 0),(3,.ptr 6 0 0 0)],[.box 126 (eTo a0 7 (nn) 8 a0.c.Log.length 9 a0.c.Known.length 4 a0.recs.length 5 a0.notes.length),.gone,.gone,.gone,.flat false 25 185 a0.recs.length (vec Wu.e Wu.z a0.recs),.flat false 23 78 a0.notes.length (vec Xg.e Xg.z a0.notes),.box 185 (Qe2 a1),.flat false 10 138 nn (vec Qh.e Qh.z (Yv.q3 v2 v1)),.flat false 9 141 a0.c.Log.length (vec Qe.e Qe.z a0.c.Log),.flat false 4 131 a0.c.Known.length (vec Qg.e Qg.z a0.c.Known)]⟩) ?_
  refine Xq hT 2 (Qjr 11111 0) ⟨71,[(0,.ptr 0 0 0 0),(3,.ptr 6 0 0 0)],[.box 126 (eTo a0 7 ((Yv.q3 v2 v1).length) 8 a0.c.Log.length 9 a0.c.Known.length 4 a0.recs.length 5 a0.notes.length),.gone,.gone,.gone,Xu a0.recs,Yk a0.notes,.box 185 (Qe2 a1),Xk (Yv.q3 v2 v1),Xh a0.c.Log,Wy a0.c.Known]⟩ ?_
  refine Qab (hP▸mixed) 8 [0,3] (sm [.ptr 0 0 0 0,.ptr 0 0 0 0,.ptr 0 0 0 0,.ptr 0 0 0 3,.i a0.c.Clock,.ptr 6 0 0 4,.i a1.Time,.i (Qb6 a0.c.Clock a1.Time)]) (Qd (Qd (Qd (Qd (Qd (Qd (Qd (Qd op0 hT) hT) hT) hT) hT) hT) hT) hT) ?_
  refine Xq hT 7 (Qjr 1111110 1) ⟨71,[(69,.ptr 0 0 0 0)],[.box 126 [.i a0.c.ID,.i a0.c.Keys.Lo,.i a0.c.Keys.Hi,.i (Qb6 a0.c.Clock a1.Time),.b a0.c.Ws,.b a0.c.Wn,.own 7 10 0 ((Yv.q3 v2 v1).length),.d (We true a0.c.Base),.own 8 9 0 a0.c.Log.length,.own 9 4 0 a0.c.Known.length,.i a0.x.Qbl,.i a0.x.Next,.d (Zn true a0.x.L),.own 4 25 0 a0.recs.length,.own 5 23 0 a0.notes.length],.gone,.gone,.gone,Xu a0.recs,Yk a0.notes,.box 185 (Qe2 a1),Xk (Yv.q3 v2 v1),Xh a0.c.Log,Wy a0.c.Known]⟩ ?_
  obtain ⟨v3,h9,H⟩:=ibC H
  refine Zd (Xx:=[.ptr 0 0 0 0]) (dst:=some 70) (k':=(Qjr 1111110 2)) [] [0,7,8,9,4,5] hP Wdn (Qj.Qt (⟨(⟨a0.c.ID,a0.c.Keys,Qb6 a0.c.Clock a1.Time,a0.c.Ws,a0.c.Wn,v2.set v1.toNat (⟨((v2.getD v1.toNat Qh.z).M),(v2.getD v1.toNat Qh.z).Time,true,(v2.getD v1.toNat Qh.z).Qg6⟩:Qh),a0.c.Base,a0.c.Log,a0.c.Known⟩:Qc),a0.x,a0.recs,a0.notes⟩:Qn) h9) (by kernel_rfl) (Qdn (by decide) (by kernel_rfl) rfl) (.cons (.same (.ptr 0 0 0 0)) .nil) (st':=⟨71,[],[.box 126 (eT v3 10 11 12 4 5 a0 a0),.gone,.gone,.gone,Xu a0.recs,Yk a0.notes,.box 185 (Qe2 a1),.gone,.gone,.gone,Xk v3.c.Held,Xh v3.c.Log,Wy v3.c.Known]⟩) (by kernel_rfl) ?_
  refine qI ?_
  obtain rfl:=Yt H
  exact qT hT 5 hf hX h0 [0,1,2,3,4,5,10,11,12] (ac nrT (ac .gone (ac .gone (ac .gone (ac (Xa Wu.nl) (ac (Xa Xg.nl) (ac (Xa Qh.nl) (ac (Xa Qe.nl) (ac (Xa Qg.nl) an))))))))) (.d (.v _))
 rw [boF c4]
 refine Xq hT 2 (Qjr 111001111 0) ⟨71,(Yv.p0++[(5,.i v1)]),(Yv.q1 a0 a1)⟩ ?_
 refine Qab (hP▸mixed) 10 [0,3,5] (sm [.ptr 9 0 0 4,.i a1.Time,.ptr 0 0 0 0,.ptr 0 0 0 0,.ptr 0 0 0 6,.own 6 10 0 a0.c.Held.length,.i v1,.ptr 6 10 v1.toNat 0,.ptr 6 10 v1.toNat 7,.i ((a0.c.Held.getD v1.toNat Qh.z).Time)]) (opS (Qd (opS (Qd (Qd (Qd (Qd (Qd (Qd (Qd op0 hT) hT) hT) hT) hT) hT) hT) (fun R rest h=>Qba hT (i:=v1) (n:=(a0.c.Held.length:Int)) h3.1 h3.2 (by kernel_rfl) h)) hT) (fun R rest h=>Qf8 hT (i:=v1.toNat) (n:=a0.c.Held.length) (ltN h3.1 h3.2) (by kernel_rfl) h)) ?_
 refine qI ?_
 rcases iB H with ⟨c5,H⟩ | ⟨c5,H⟩
 ·refine qB hT 2 (decide_eq_true c5) ?_
  exact qC hT 6 _ [0,1,2,3,4,5,9,6,7,8] _ h0 (Yx true H)
 refine qB hT 2 (decide_eq_false c5) ?_
 exact qC hT 6 _ [0,1,2,3,4,5,9,6,7,8] _ h0 (Yx (decide (a1.Time > 1099511627775)) H)
abbrev Qej.q1 (a0:Qn) (a1:Wu):List Row:=[.box 126 [.i a0.c.ID,.i a0.c.Keys.Lo,.i a0.c.Keys.Hi,.i a0.c.Clock,.b a0.c.Ws,.b false,.own 6 10 0 a0.c.Held.length,.d (We true a0.c.Base),.own 7 9 0 a0.c.Log.length,.own 8 4 0 a0.c.Known.length,.i a0.x.Qbl,.i a0.x.Next,.d (Zn true a0.x.L),.own 4 25 0 a0.recs.length,.own 5 23 0 a0.notes.length],.gone,.gone,.gone,Xu a0.recs,Yk a0.notes,Xk a0.c.Held,Xh a0.c.Log,Wy a0.c.Known,.box 185 (Qe2 a1)]
theorem Qej.Qt (a0:Qn) (a1:Wu) {r:Int × Qn} (H:Qej a0 a1=some r):Xt Tryz.prog 154 [.box 126 (eT a0 1 2 3 4 5 a0 a0),Xk a0.c.Held,Xh a0.c.Log,Wy a0.c.Known,Xu a0.recs,Yk a0.notes] [.ptr 0 0 0 0,.d (Qjo a1)] [.box 126 (eT r.2 6 7 8 4 5 a0 a0),.gone,.gone,.gone,Xu a0.recs,Yk a0.notes,Xk r.2.c.Held,Xh r.2.c.Log,Wy r.2.c.Known] (.i r.1):=by
 refine Wx Tryz.func154 rfl (nt:=58) rfl (lb rfl) fun X hP h0 hX=>?_
 have hT:Qw X.P T:=hP▸tok
 have hf:X.P.funcs[154]? = some Tryz.f154:=hP▸Tryz.func154
 refine Qgs [3,2,1] ⟨58,[(0,.ptr 0 0 0 0),(1,.d (Qjo a1))],[.box 126 (eT a0 6 7 8 4 5 a0 a0),.gone,.gone,.gone,Xu a0.recs,Yk a0.notes,Xk a0.c.Held,Xh a0.c.Log,Wy a0.c.Known]⟩ ?_
 refine Xq hT 13 (Qsz 110 1) ⟨58,[(0,.ptr 0 0 0 0),(3,.ptr 9 0 0 0),(8,.b a0.c.Wn)],[.box 126 (eT a0 6 7 8 4 5 a0 a0),.gone,.gone,.gone,Xu a0.recs,Yk a0.notes,Xk a0.c.Held,Xh a0.c.Log,Wy a0.c.Known,.box 185 (Qe2 a1)]⟩ ?_
 by_cases c1:a0.c.Wn=true
 ·replace H:=iT c1 H
  cases (show (none:Option _)=some _ from H)
 replace H:=iF c1 H
 try delta eT
 try delta eTo
 rw [boF c1]
 refine Xq hT 14 (Qsz 111010 1) ⟨58,[(0,.ptr 0 0 0 0),(3,.ptr 9 0 0 0),(10,.i a1.Kind),(11,.b (a1.Kind == 1))],(Qej.q1 a0 a1)⟩ ?_
 by_cases c2:a1.Kind=1
 ·replace H:=iT c2 H
  rw [eqT c2]
  refine Xq hT 5 (Qsz 111010100 2) ⟨58,[(13,.ptr 0 0 0 0),(14,.d (Qjo a1))],(Qej.q1 a0 a1)⟩ ?_
  obtain ⟨v1,h3,H⟩:=ibC H
  refine Zd (Xx:=[.ptr 0 0 0 0,.d (Qjo a1)]) (dst:=some 15) (k':=(Qsz 111010100 3)) [15] [0,6,7,8,4,5] hP Wdi (Zp.Qt (⟨(⟨a0.c.ID,a0.c.Keys,a0.c.Clock,a0.c.Ws,false,a0.c.Held,a0.c.Base,a0.c.Log,a0.c.Known⟩:Qc),a0.x,a0.recs,a0.notes⟩:Qn) a1 h3) (by kernel_rfl) (Qdn (by decide) (by kernel_rfl) rfl) (.cons (.same (.ptr 0 0 0 0)) (.cons (Qk _) .nil)) (st':=⟨58,[(15,.i v1.1)],[.box 126 (eTo v1.2 10 v1.2.c.Held.length 7 a0.c.Log.length 8 a0.c.Known.length 4 a0.recs.length 5 a0.notes.length),.gone,.gone,.gone,Xu a0.recs,Yk a0.notes,.gone,Xh a0.c.Log,Wy a0.c.Known,.box 185 (Qe2 a1),Xk v1.2.c.Held]⟩) (by kernel_rfl) ?_
  refine qI ?_
  obtain rfl:=Yt H
  exact qT hT 2 hf hX h0 [0,1,2,3,4,5,10,7,8] (ac nrT (ac .gone (ac .gone (ac .gone (ac (Xa Wu.nl) (ac (Xa Xg.nl) (ac (Xa Qh.nl) (ac (Xa Qe.nl) (ac (Xa Qg.nl) an))))))))) (.d (.v _))
 replace H:=iF c2 H
 rw [eqF c2]
 refine Xq hT 6 (Qsz 11101011 1) ⟨58,[(0,.ptr 0 0 0 0),(3,.ptr 9 0 0 0),(10,.i a1.Kind),(16,.b (a1.Kind == 2))],(Qej.q1 a0 a1)⟩ ?_
 by_cases c4:a1.Kind=2
 ·replace H:=iT c4 H
  rw [eqT c4]
  refine Xq hT 5 (Qsz 11101011100 2) ⟨58,[(18,.ptr 0 0 0 0),(19,.d (Qjo a1))],(Qej.q1 a0 a1)⟩ ?_
  obtain ⟨v2,h5,H⟩:=ibC H
  refine Zd (Xx:=[.ptr 0 0 0 0,.d (Qjo a1)]) (dst:=some 20) (k':=(Qsz 11101011100 3)) [20] [0,6,7,8,4,5] hP Wdj (Yv.Qt (⟨(⟨a0.c.ID,a0.c.Keys,a0.c.Clock,a0.c.Ws,false,a0.c.Held,a0.c.Base,a0.c.Log,a0.c.Known⟩:Qc),a0.x,a0.recs,a0.notes⟩:Qn) a1 h5) (by kernel_rfl) (Qdn (by decide) (by kernel_rfl) rfl) (.cons (.same (.ptr 0 0 0 0)) (.cons (Qk _) .nil)) (st':=⟨58,[(20,.i v2.1)],[.box 126 (eT v2.2 10 11 12 4 5 a0 a0),.gone,.gone,.gone,Xu a0.recs,Yk a0.notes,.gone,.gone,.gone,.box 185 (Qe2 a1),Xk v2.2.c.Held,Xh v2.2.c.Log,Wy v2.2.c.Known]⟩) (by kernel_rfl) ?_
  refine qI ?_
  obtain rfl:=Yt H
  exact qT hT 2 hf hX h0 [0,1,2,3,4,5,10,11,12] (ac nrT (ac .gone (ac .gone (ac .gone (ac (Xa Wu.nl) (ac (Xa Xg.nl) (ac (Xa Qh.nl) (ac (Xa Qe.nl) (ac (Xa Qg.nl) an))))))))) (.d (.v _))
 replace H:=iF c4 H
 cases (show (none:Option _)=some _ from H)
abbrev Qag.q1 (a1:Xg) (a0:Qn):List AV:=[.i a1.Kind,.i a0.c.ID,.i a1.To,.i a1.Client,.i a1.Seq,.i a1.Time,.i a1.N,.b a1.Ask,.b a1.Qa3,.i a1.M.Client,.i a1.M.Seq,.i a1.M.Kind,.d (We true a1.M.Pairs),.i a1.M.Over.Lo,.i a1.M.Over.Hi,.i a1.M.Old,.d (We true a1.Pairs),.d (Zl true a1.Entries),.d (Zy true a1.Known),.d (Qc8 true a1.Qk9),.i a1.Zu.Qbl,.i a1.Zu.Next,.d (Zn true a1.Zu.L)]
abbrev Qag.q2 (a0:Qn):List AV:=(eT a0 1 2 3 4 6 a0 a0)
abbrev Qag.q3 (a1:Xg) (a0:Qn):=(⟨a1.Kind,a0.c.ID,a1.To,a1.Client,a1.Seq,a1.Time,a1.N,a1.Ask,a1.Qa3,a1.M,a1.Pairs,a1.Entries,a1.Known,a1.Qk9,a1.Zu⟩:Xg)
theorem Qag.Qt (a0:Qn) (a1:Xg) {r:Qn} (H:Qag a0 a1=some r):Xt Tryz.prog 185 [.box 126 (eT a0 1 2 3 4 5 a0 a0),Xk a0.c.Held,Xh a0.c.Log,Wy a0.c.Known,Xu a0.recs,Yk a0.notes] [.ptr 0 0 0 0,.d (Wn7 a1)] [.box 126 (eTo r 1 a0.c.Held.length 2 a0.c.Log.length 3 a0.c.Known.length 4 a0.recs.length 6 r.notes.length),Xk a0.c.Held,Xh a0.c.Log,Wy a0.c.Known,Xu a0.recs,.gone,Yk r.notes] (.Ql []):=by
 refine Wx Tryz.func185 rfl (nt:=20) rfl (lb rfl) fun X hP h0 hX=>?_
 have hT:Qw X.P T:=hP▸tok
 have hf:X.P.funcs[185]? = some Tryz.f185:=hP▸Tryz.func185
 refine Qgs [5] ⟨20,[(0,.ptr 0 0 0 0),(1,.d (Wn7 a1))],[.box 126 (Qag.q2 a0),Xk a0.c.Held,Xh a0.c.Log,Wy a0.c.Known,Xu a0.recs,.gone,Yk a0.notes]⟩ ?_
 refine Xq hT 14 (Wp1 11 1) ⟨20,[(0,.ptr 0 0 0 0),(3,.ptr 7 0 0 0)],[.box 126 (Qag.q2 a0),Xk a0.c.Held,Xh a0.c.Log,Wy a0.c.Known,Xu a0.recs,.gone,Yk a0.notes,.box 78 (Qag.q1 a1 a0)]⟩ ?_
 obtain ⟨h1,H⟩:=iC H
 refine Qcz (nt:=20) (hP▸mixed) 8 [6,7] [0,3] [(0,.ptr 0 0 0 0),(3,.ptr 7 0 0 0)] (sm [.ptr 0 0 0 0,.ptr 0 0 0 0,.ptr 0 0 0 0,.ptr 0 0 0 14,.own 6 23 0 a0.notes.length,.d (.agg [.i a1.Kind,.i a0.c.ID,.i a1.To,.i a1.Client,.i a1.Seq,.i a1.Time,.i a1.N,.b a1.Ask,.b a1.Qa3,.i a1.M.Client,.i a1.M.Seq,.i a1.M.Kind,We true a1.M.Pairs,.i a1.M.Over.Lo,.i a1.M.Over.Hi,.i a1.M.Old,We true a1.Pairs,Zl true a1.Entries,Zy true a1.Known,Qc8 true a1.Qk9,.i a1.Zu.Qbl,.i a1.Zu.Next,Zn true a1.Zu.L]),.own 8 23 0 1,.own 9 23 0 ((a0.notes ++ [(Qag.q3 a1 a0)]).length)]) [[.box 126 (Qag.q2 a0),Xk a0.c.Held,Xh a0.c.Log,Wy a0.c.Known,Xu a0.recs,.gone,Yk a0.notes,.box 78 (Qag.q1 a1 a0)],[.box 126 (Qag.q2 a0),Xk a0.c.Held,Xh a0.c.Log,Wy a0.c.Known,Xu a0.recs,.gone,Yk a0.notes,.box 78 (Qag.q1 a1 a0),.flat false 23 78 1 (fun j=>[[.i a1.Kind,.i a0.c.ID,.i a1.To,.i a1.Client,.i a1.Seq,.i a1.Time,.i a1.N,.b a1.Ask,.b a1.Qa3,.i a1.M.Client,.i a1.M.Seq,.i a1.M.Kind,We true a1.M.Pairs,.i a1.M.Over.Lo,.i a1.M.Over.Hi,.i a1.M.Old,We true a1.Pairs,Zl true a1.Entries,Zy true a1.Known,Qc8 true a1.Qk9,.i a1.Zu.Qbl,.i a1.Zu.Next,Zn true a1.Zu.L]].getD j [])],[.box 126 (Qag.q2 a0),Xk a0.c.Held,Xh a0.c.Log,Wy a0.c.Known,Xu a0.recs,.gone,.gone,.box 78 (Qag.q1 a1 a0),.flat false 23 78 1 (fun j=>[[.i a1.Kind,.i a0.c.ID,.i a1.To,.i a1.Client,.i a1.Seq,.i a1.Time,.i a1.N,.b a1.Ask,.b a1.Qa3,.i a1.M.Client,.i a1.M.Seq,.i a1.M.Kind,We true a1.M.Pairs,.i a1.M.Over.Lo,.i a1.M.Over.Hi,.i a1.M.Old,We true a1.Pairs,Zl true a1.Entries,Zy true a1.Known,Qc8 true a1.Qk9,.i a1.Zu.Qbl,.i a1.Zu.Next,Zn true a1.Zu.L]].getD j []),Yk (a0.notes ++ [(Qag.q3 a1 a0)])]] (by kernel_rfl) (by kernel_rfl) (by kernel_rfl) (by kernel_rfl) ⟨(Qcj (Qcj (Wh (Wh (Wh (Wh (Wh (Wh Qer hT) hT) hT) hT) hT) hT))),(Qj4 hT),⟨(Qcj (Qcj (Wh (Wh (Wh (Wh (Wh (Wh Qer hT) hT) hT) hT) hT) hT))),(fun R rest h=>Qlb (id:=6) (kk:=23) (id2:=8) (by':=272) (t:=71) (e:=78) (e2:=78) (z:=[.int .i64 0,.int .i64 0,.int .i64 0,.int .i64 0,.int .i64 0,.int .i64 0,.int .i64 0,.bool false,.bool false,.int .i64 0,.int .i64 0,.int .i64 0,.slice none 0 0,.int .i64 0,.int .i64 0,.int .i64 0,.slice none 0 0,.slice none 0 0,.slice none 0 0,.slice none 0 0,.int .i64 0,.int .i64 0,.slice none 0 0]) (dst:=some 17) (fz:=false) hT Xg.e Xg.z a0.notes (Qag.q3 a1 a0) (by kernel_rfl) (by kernel_rfl) (by kernel_rfl) (by kernel_rfl) (by kernel_rfl) (by kernel_rfl) (by kernel_rfl) h1 (by omega) (by kernel_rfl) h),(Qcj (Qcj (Wh (Wh (Wh (Wh (Wh (Wh Qer hT) hT) hT) hT) hT) hT)))⟩⟩ ?_
 refine Xq hT 4 [] ⟨20,[],[.box 126 (eTo a0 1 a0.c.Held.length 2 a0.c.Log.length 3 a0.c.Known.length 4 a0.recs.length 9 ((a0.notes ++ [(Qag.q3 a1 a0)]).length)),Xk a0.c.Held,Xh a0.c.Log,Wy a0.c.Known,Xu a0.recs,.gone,.gone,.box 78 (Qag.q1 a1 a0),.flat false 23 78 1 (fun j=>[[.i a1.Kind,.i a0.c.ID,.i a1.To,.i a1.Client,.i a1.Seq,.i a1.Time,.i a1.N,.b a1.Ask,.b a1.Qa3,.i a1.M.Client,.i a1.M.Seq,.i a1.M.Kind,We true a1.M.Pairs,.i a1.M.Over.Lo,.i a1.M.Over.Hi,.i a1.M.Old,We true a1.Pairs,Zl true a1.Entries,Zy true a1.Known,Qc8 true a1.Qk9,.i a1.Zu.Qbl,.i a1.Zu.Next,Zn true a1.Zu.L]].getD j []),Yk (a0.notes ++ [(Qag.q3 a1 a0)])]⟩ ?_
 obtain rfl:=Yt H
 exact Woe hf hX h0 (.Ql []) [0,1,2,3,4,5,9] (ac nrT (ac (Xa Qh.nl) (ac (Xa Qe.nl) (ac (Xa Qg.nl) (ac (Xa Wu.nl) (ac .gone (ac (Xa Xg.nl) an))))))) (.Ql .nil)
abbrev Qc9.s1 (v1:Qn) (a0:Qn) (a1:Qg):St:=⟨15,[],[.box 126 (eTo v1 1 a0.c.Held.length 2 a0.c.Log.length 3 a0.c.Known.length 4 a0.recs.length 8 v1.notes.length),Xk a0.c.Held,Xh a0.c.Log,Wy a0.c.Known,Xu a0.recs,.gone,.gone,.box 131 (Qfr a1),Yk v1.notes]⟩
theorem Qc9.Qt (a0:Qn) (a1:Qg) {r:Qn} (H:Qc9 a0 a1=some r):Xt Tryz.prog 146 [.box 126 (eT a0 1 2 3 4 5 a0 a0),Xk a0.c.Held,Xh a0.c.Log,Wy a0.c.Known,Xu a0.recs,Yk a0.notes] [.ptr 0 0 0 0,.d (Qfs a1)] [.box 126 (eTo r 1 a0.c.Held.length 2 a0.c.Log.length 3 a0.c.Known.length 4 a0.recs.length 6 r.notes.length),Xk a0.c.Held,Xh a0.c.Log,Wy a0.c.Known,Xu a0.recs,.gone,Yk r.notes] (.Ql []):=by
 refine Wx Tryz.func146 rfl (nt:=15) rfl (lb rfl) fun X hP h0 hX=>?_
 have hT:Qw X.P T:=hP▸tok
 have hf:X.P.funcs[146]? = some Tryz.f146:=hP▸Tryz.func146
 refine Qgs [5] ⟨15,[(0,.ptr 0 0 0 0),(1,.d (Qfs a1))],[.box 126 (eT a0 1 2 3 4 6 a0 a0),Xk a0.c.Held,Xh a0.c.Log,Wy a0.c.Known,Xu a0.recs,.gone,Yk a0.notes]⟩ ?_
 refine Xq hT 15 (Wno 11 10) ⟨15,[(4,.ptr 0 0 0 0),(13,.d (.agg [.i 4,.i 0,.i 0,.i a1.Client,.i a1.Seq,.i a1.Time,.i 0,.b false,.b a1.Qa3,.i 0,.i 0,.i 0,.ns,.i 0,.i 0,.i 0,.ns,.ns,.ns,.ns,.i 0,.i 0,.ns]))],[.box 126 (eT a0 1 2 3 4 6 a0 a0),Xk a0.c.Held,Xh a0.c.Log,Wy a0.c.Known,Xu a0.recs,.gone,Yk a0.notes,.box 131 (Qfr a1)]⟩ ?_
 obtain ⟨v1,h1,H⟩:=ibC H
 refine Zd (Xx:=[.ptr 0 0 0 0,.d (.agg [.i 4,.i 0,.i 0,.i a1.Client,.i a1.Seq,.i a1.Time,.i 0,.b false,.b a1.Qa3,.i 0,.i 0,.i 0,.ns,.i 0,.i 0,.i 0,.ns,.ns,.ns,.ns,.i 0,.i 0,.ns])]) (dst:=some 14) (k':=(Wno 11 11)) [] [0,1,2,3,4,6] hP Wde (Qag.Qt (⟨(⟨a0.c.ID,a0.c.Keys,a0.c.Clock,a0.c.Ws,a0.c.Wn,a0.c.Held,a0.c.Base,a0.c.Log,a0.c.Known⟩:Qc),a0.x,a0.recs,a0.notes⟩:Qn) (⟨4,0,0,a1.Client,a1.Seq,a1.Time,0,false,a1.Qa3,(⟨0,0,0,[],(⟨0,0⟩:Qb),0⟩:Qp),[],[],[],[],(⟨0,0,[]⟩:Yi)⟩:Xg) h1) (by kernel_rfl) (Qdn (by decide) (by kernel_rfl) rfl) (.cons (.same (.ptr 0 0 0 0)) (.cons (.Qp6 (.cons (Qk _) (.cons (Qk _) (.cons (Qk _) (.cons (Qk _) (.cons (Qk _) (.cons (Qk _) (.cons (Qk _) (.cons (Qk _) (.cons (Qk _) (.cons (Qk _) (.cons (Qk _) (.cons (Qk _) (.cons (.nil _ _) (.cons (Qk _) (.cons (Qk _) (.cons (Qk _) (.cons (.nil _ _) (.cons (.nil _ _) (.cons (.nil _ _) (.cons (.nil _ _) (.cons (Qk _) (.cons (Qk _) (.cons (.nil _ _) .nil)))))))))))))))))))))))) .nil)) (st':=(Qc9.s1 v1 a0 a1)) (by kernel_rfl) ?_
 refine Xq hT 1 [] (Qc9.s1 v1 a0 a1) ?_
 obtain rfl:=Yt H
 exact Woe hf hX h0 (.Ql []) [0,1,2,3,4,5,8] (ac nrT (ac (Xa Qh.nl) (ac (Xa Qe.nl) (ac (Xa Qg.nl) (ac (Xa Wu.nl) (ac .gone (ac (Xa Xg.nl) an))))))) (.Ql .nil)
abbrev Qo.q1 (v1:Int × Qn) (a0:Qn) (a1:Wu):List Row:=[.box 126 (eT v1.2 12 13 14 9 10 a0 a0),.gone,.gone,.gone,.gone,.gone,.gone,.gone,.gone,Xu a0.recs,Yk a0.notes,.box 185 [.i a1.Kind,.i a0.c.ID,.i a1.Client,.i a1.Seq,.i a1.Time,.i a1.M.Client,.i a1.M.Seq,.i a1.M.Kind,.d (We true a1.M.Pairs),.i a1.M.Over.Lo,.i a1.M.Over.Hi,.i a1.M.Old,.i a1.Core.ID,.i a1.Core.Keys.Lo,.i a1.Core.Keys.Hi,.i a1.Core.Clock,.b a1.Core.Ws,.b a1.Core.Wn,.d (Qac true a1.Core.Held),.d (We true a1.Core.Base),.d (Zl true a1.Core.Log),.d (Zy true a1.Core.Known),.i a1.Zu.Qbl,.i a1.Zu.Next,.d (Zn true a1.Zu.L)],Xk v1.2.c.Held,Xh v1.2.c.Log,Wy v1.2.c.Known]
abbrev Qo.q2 (a0:Qn) (a1:Wu) (v2:Qp):=(a0.recs ++ [(⟨a1.Kind,a0.c.ID,a1.Client,a1.Seq,a1.Time,v2,a1.Core,a1.Zu⟩:Wu)])
abbrev Qo.q3 (a1:Wu) (a0:Qn) (v2:Qp):List AV:=[.i a1.Kind,.i a0.c.ID,.i a1.Client,.i a1.Seq,.i a1.Time,.i v2.Client,.i v2.Seq,.i v2.Kind,.d (We true v2.Pairs),.i v2.Over.Lo,.i v2.Over.Hi,.i v2.Old,.i a1.Core.ID,.i a1.Core.Keys.Lo,.i a1.Core.Keys.Hi,.i a1.Core.Clock,.b a1.Core.Ws,.b a1.Core.Wn,.d (Qac true a1.Core.Held),.d (We true a1.Core.Base),.d (Zl true a1.Core.Log),.d (Zy true a1.Core.Known),.i a1.Zu.Qbl,.i a1.Zu.Next,.d (Zn true a1.Zu.L)]
abbrev Qo.q4 (v1:Int × Qn) (a0:Qn):List AV:=(eT v1.2 12 13 14 9 10 a0 a0)
abbrev Qo.q5 (Jr:Int) (Js:Int) (Jt:Int) (Ju:Int) (Jv:Bool) (Jw:Bool) (v1:Int × Qn) (Jy:List Qa) (Jb:Int) (Jc:Int) (Jd:List Qi) (a0:Qn) (a1:Wu) (v2:Qp) (Qae:List Xg):List Row:=[.box 126 [.i Jr,.i Js,.i Jt,.i Ju,.b Jv,.b Jw,.own 7 10 0 v1.2.c.Held.length,.d (We true Jy),.own 6 9 0 v1.2.c.Log.length,.own 8 4 0 v1.2.c.Known.length,.i Jb,.i Jc,.d (Zn true Jd),.own 9 25 0 ((Qo.q2 a0 a1 v2).length),.own 10 23 0 Qae.length],.gone,.gone,.gone,.gone,.gone,Xh v1.2.c.Log,Xk v1.2.c.Held,Wy v1.2.c.Known,Xu (Qo.q2 a0 a1 v2),Yk Qae]
abbrev Qo.q6 (v1:Int × Qn) (a0:Qn):=(v1.2.c.Log.length - (a0.c.Log.length:Int).toNat:Nat)
abbrev Qo.q7 (a0:Qn):List AV:=(eT a0 6 7 8 9 10 a0 a0)
abbrev Qo.q8 (v1:Int × Qn) (a0:Qn) (a1:Wu) (v2:Qp):List AV:=(eTo v1.2 12 v1.2.c.Held.length 13 v1.2.c.Log.length 14 v1.2.c.Known.length 16 ((Qo.q2 a0 a1 v2).length) 10 a0.notes.length)
abbrev Qo.q9 (v1:Int × Qn) (Jk:Int) (a0:Qn):=(v1.2.c.Log.getD (Jk.toNat+(a0.c.Log.length:Int).toNat) Qe.z)
abbrev Qo.q10 (Jr:Int) (Js:Int) (Jt:Int) (Ju:Int) (Jv:Bool) (Jw:Bool) (v1:Int × Qn) (Jy:List Qa) (Jb:Int) (Jc:Int) (Jd:List Qi) (a0:Qn) (a1:Wu) (v2:Qp) (Qae:List Xg):List Row:=[.box 126 [.i Jr,.i Js,.i Jt,.i Ju,.b Jv,.b Jw,.own 6 10 0 v1.2.c.Held.length,.d (We true Jy),.own 7 9 0 v1.2.c.Log.length,.own 8 4 0 v1.2.c.Known.length,.i Jb,.i Jc,.d (Zn true Jd),.own 9 25 0 ((Qo.q2 a0 a1 v2).length),.own 10 23 0 Qae.length],.gone,.gone,.gone,.gone,.gone,Xk v1.2.c.Held,Xh v1.2.c.Log,Wy v1.2.c.Known,Xu (Qo.q2 a0 a1 v2),Yk Qae]
abbrev Qo.s1 (a0:Qn) (v1:Int × Qn) (Jk:Int) (Jr:Int) (Js:Int) (Jt:Int) (Ju:Int) (Jv:Bool) (Jw:Bool) (Jy:List Qa) (Jb:Int) (Jc:Int) (Jd:List Qi) (a1:Wu) (v2:Qp) (Qae:List Xg):St:=⟨69,[(0,.ptr 0 0 0 0),(49,.own 6 9 (a0.c.Log.length:Int).toNat (Qo.q6 v1 a0)),(50,.i ((Qo.q6 v1 a0):Int)),(51,.i Jk)],(Qo.q5 Jr Js Jt Ju Jv Jw v1 Jy Jb Jc Jd a0 a1 v2 Qae)⟩
abbrev Qo.p0:List (Nat × AV):=[(0,.ptr 0 0 0 0),(49,.d (Zl true ([]:List Qe))),(50,.i (([]:List Qe).length:Int))]
theorem Qo.Qt (a0:Qn) (a1:Wu) {r:Int × Qn} (H:Qo a0 a1=some r):Xt Tryz.prog 112 [.box 126 (eT a0 1 2 3 4 5 a0 a0),Xk a0.c.Held,Xh a0.c.Log,Wy a0.c.Known,Xu a0.recs,Yk a0.notes] [.ptr 0 0 0 0,.d (Qjo a1)] [.box 126 (eT r.2 6 7 8 9 10 r.2 r.2),.gone,.gone,.gone,.gone,.gone,Xk r.2.c.Held,Xh r.2.c.Log,Wy r.2.c.Known,Xu r.2.recs,Yk r.2.notes] (.i r.1):=by
 refine Wx Tryz.func112 rfl (nt:=69) rfl (lb rfl) fun X hP h0 hX=>?_
 have hT:Qw X.P T:=hP▸tok
 have hf:X.P.funcs[112]? = some Tryz.f112:=hP▸Tryz.func112
 refine Qgs [5,4,3,2,1] ⟨69,[(0,.ptr 0 0 0 0),(1,.d (Qjo a1))],[.box 126 (Qo.q7 a0),.gone,.gone,.gone,.gone,.gone,Xk a0.c.Held,Xh a0.c.Log,Wy a0.c.Known,Xu a0.recs,Yk a0.notes]⟩ ?_
 refine Xq hT 27 (Qhr 11110 0) ⟨69,[(0,.ptr 0 0 0 0),(3,.ptr 11 0 0 0),(5,.i (a0.c.Log.length:Int))],[.box 126 (Qo.q7 a0),.gone,.gone,.gone,.gone,.gone,Xk a0.c.Held,Xh a0.c.Log,Wy a0.c.Known,Xu a0.recs,Yk a0.notes,.box 185 [.i a1.Kind,.i a0.c.ID,.i a1.Client,.i a1.Seq,.i a1.Time,.i a1.M.Client,.i a1.M.Seq,.i a1.M.Kind,.d (We true a1.M.Pairs),.i a1.M.Over.Lo,.i a1.M.Over.Hi,.i a1.M.Old,.i a1.Core.ID,.i a1.Core.Keys.Lo,.i a1.Core.Keys.Hi,.i a1.Core.Clock,.b a1.Core.Ws,.b a1.Core.Wn,.d (Qac true a1.Core.Held),.d (We true a1.Core.Base),.d (Zl true a1.Core.Log),.d (Zy true a1.Core.Known),.i a1.Zu.Qbl,.i a1.Zu.Next,.d (Zn true a1.Zu.L)]]⟩ ?_
 refine Qab (hP▸mixed) 4 [0,3,5] (sm [.ptr 0 0 0 0,.ptr 0 0 0 0,.ptr 0 0 0 0,.d (.agg [.i a1.Kind,.i a0.c.ID,.i a1.Client,.i a1.Seq,.i a1.Time,.i a1.M.Client,.i a1.M.Seq,.i a1.M.Kind,We true a1.M.Pairs,.i a1.M.Over.Lo,.i a1.M.Over.Hi,.i a1.M.Old,.i a1.Core.ID,.i a1.Core.Keys.Lo,.i a1.Core.Keys.Hi,.i a1.Core.Clock,.b a1.Core.Ws,.b a1.Core.Wn,Qac true a1.Core.Held,We true a1.Core.Base,Zl true a1.Core.Log,Zy true a1.Core.Known,.i a1.Zu.Qbl,.i a1.Zu.Next,Zn true a1.Zu.L])]) (Qd (Qd (Qd (Qd op0 hT) hT) hT) hT) ?_
 refine Xq hT 0 (Qhr 111100 4) ⟨69,[(0,.ptr 0 0 0 0),(3,.ptr 11 0 0 0),(5,.i (a0.c.Log.length:Int)),(23,.ptr 0 0 0 0),(24,.d (.agg [.i a1.Kind,.i a0.c.ID,.i a1.Client,.i a1.Seq,.i a1.Time,.i a1.M.Client,.i a1.M.Seq,.i a1.M.Kind,We true a1.M.Pairs,.i a1.M.Over.Lo,.i a1.M.Over.Hi,.i a1.M.Old,.i a1.Core.ID,.i a1.Core.Keys.Lo,.i a1.Core.Keys.Hi,.i a1.Core.Clock,.b a1.Core.Ws,.b a1.Core.Wn,Qac true a1.Core.Held,We true a1.Core.Base,Zl true a1.Core.Log,Zy true a1.Core.Known,.i a1.Zu.Qbl,.i a1.Zu.Next,Zn true a1.Zu.L]))],[.box 126 (Qo.q7 a0),.gone,.gone,.gone,.gone,.gone,Xk a0.c.Held,Xh a0.c.Log,Wy a0.c.Known,Xu a0.recs,Yk a0.notes,.box 185 [.i a1.Kind,.i a0.c.ID,.i a1.Client,.i a1.Seq,.i a1.Time,.i a1.M.Client,.i a1.M.Seq,.i a1.M.Kind,.d (We true a1.M.Pairs),.i a1.M.Over.Lo,.i a1.M.Over.Hi,.i a1.M.Old,.i a1.Core.ID,.i a1.Core.Keys.Lo,.i a1.Core.Keys.Hi,.i a1.Core.Clock,.b a1.Core.Ws,.b a1.Core.Wn,.d (Qac true a1.Core.Held),.d (We true a1.Core.Base),.d (Zl true a1.Core.Log),.d (Zy true a1.Core.Known),.i a1.Zu.Qbl,.i a1.Zu.Next,.d (Zn true a1.Zu.L)]]⟩ ?_
 obtain ⟨v1,h1,H⟩:=ibC H
 refine Zd (Xx:=[.ptr 0 0 0 0,.d (.agg [.i a1.Kind,.i a0.c.ID,.i a1.Client,.i a1.Seq,.i a1.Time,.i a1.M.Client,.i a1.M.Seq,.i a1.M.Kind,We true a1.M.Pairs,.i a1.M.Over.Lo,.i a1.M.Over.Hi,.i a1.M.Old,.i a1.Core.ID,.i a1.Core.Keys.Lo,.i a1.Core.Keys.Hi,.i a1.Core.Clock,.b a1.Core.Ws,.b a1.Core.Wn,Qac true a1.Core.Held,We true a1.Core.Base,Zl true a1.Core.Log,Zy true a1.Core.Known,.i a1.Zu.Qbl,.i a1.Zu.Next,Zn true a1.Zu.L])]) (dst:=some 25) (k':=(Qhr 111100 5)) [0,3,5,25] [0,6,7,8,9,10] hP Wc7 (Qej.Qt (⟨(⟨a0.c.ID,a0.c.Keys,a0.c.Clock,a0.c.Ws,a0.c.Wn,a0.c.Held,a0.c.Base,a0.c.Log,a0.c.Known⟩:Qc),a0.x,a0.recs,a0.notes⟩:Qn) (⟨a1.Kind,a0.c.ID,a1.Client,a1.Seq,a1.Time,a1.M,a1.Core,a1.Zu⟩:Wu) h1) (by kernel_rfl) (Qdn (by decide) (by kernel_rfl) rfl) (.cons (.same (.ptr 0 0 0 0)) (.cons (Qk _) .nil)) (st':=⟨69,[(0,.ptr 0 0 0 0),(3,.ptr 11 0 0 0),(5,.i (a0.c.Log.length:Int)),(25,.i v1.1)],(Qo.q1 v1 a0 a1)⟩) (by kernel_rfl) ?_
 refine Xq hT 7 (Qhr 111101 1) ⟨69,[(0,.ptr 0 0 0 0),(3,.ptr 11 0 0 0),(5,.i (a0.c.Log.length:Int)),(6,.i v1.1),(27,.b (v1.1 != 0))],(Qo.q1 v1 a0 a1)⟩ ?_
 by_cases c2:v1.1=0
 ·replace H:=iT c2 H
  rw [neF c2]
  refine qI ?_
  obtain ⟨v2,h3,H⟩:=ibC H
  refine qF hT 6 hP Qqg (Qci.Qt a1.M h3) ?_
  refine qE hT 4 (Qhr 111111 0) ⟨69,[(0,.ptr 0 0 0 0),(3,.ptr 11 0 0 0),(5,.i (a0.c.Log.length:Int))],[.box 126 (Qo.q4 v1 a0),.gone,.gone,.gone,.gone,.gone,.gone,.gone,.gone,Xu a0.recs,Yk a0.notes,.box 185 (Qo.q3 a1 a0 v2),Xk v1.2.c.Held,Xh v1.2.c.Log,Wy v1.2.c.Known]⟩ ?_
  obtain ⟨h4,H⟩:=iC H
  refine Qcz (nt:=69) (hP▸mixed) 8 [6,7] [0,3,5] [(0,.ptr 0 0 0 0),(3,.ptr 11 0 0 0),(5,.i (a0.c.Log.length:Int))] (sm [.ptr 0 0 0 0,.ptr 0 0 0 0,.ptr 0 0 0 0,.ptr 0 0 0 13,.own 9 25 0 a0.recs.length,.d (.agg [.i a1.Kind,.i a0.c.ID,.i a1.Client,.i a1.Seq,.i a1.Time,.i v2.Client,.i v2.Seq,.i v2.Kind,We true v2.Pairs,.i v2.Over.Lo,.i v2.Over.Hi,.i v2.Old,.i a1.Core.ID,.i a1.Core.Keys.Lo,.i a1.Core.Keys.Hi,.i a1.Core.Clock,.b a1.Core.Ws,.b a1.Core.Wn,Qac true a1.Core.Held,We true a1.Core.Base,Zl true a1.Core.Log,Zy true a1.Core.Known,.i a1.Zu.Qbl,.i a1.Zu.Next,Zn true a1.Zu.L]),.own 15 25 0 1,.own 16 25 0 ((Qo.q2 a0 a1 v2).length)]) [[.box 126 (Qo.q4 v1 a0),.gone,.gone,.gone,.gone,.gone,.gone,.gone,.gone,Xu a0.recs,Yk a0.notes,.box 185 (Qo.q3 a1 a0 v2),Xk v1.2.c.Held,Xh v1.2.c.Log,Wy v1.2.c.Known],[.box 126 (Qo.q4 v1 a0),.gone,.gone,.gone,.gone,.gone,.gone,.gone,.gone,Xu a0.recs,Yk a0.notes,.box 185 (Qo.q3 a1 a0 v2),Xk v1.2.c.Held,Xh v1.2.c.Log,Wy v1.2.c.Known,.flat false 25 185 1 (fun j=>[[.i a1.Kind,.i a0.c.ID,.i a1.Client,.i a1.Seq,.i a1.Time,.i v2.Client,.i v2.Seq,.i v2.Kind,We true v2.Pairs,.i v2.Over.Lo,.i v2.Over.Hi,.i v2.Old,.i a1.Core.ID,.i a1.Core.Keys.Lo,.i a1.Core.Keys.Hi,.i a1.Core.Clock,.b a1.Core.Ws,.b a1.Core.Wn,Qac true a1.Core.Held,We true a1.Core.Base,Zl true a1.Core.Log,Zy true a1.Core.Known,.i a1.Zu.Qbl,.i a1.Zu.Next,Zn true a1.Zu.L]].getD j [])],[.box 126 (Qo.q4 v1 a0),.gone,.gone,.gone,.gone,.gone,.gone,.gone,.gone,.gone,Yk a0.notes,.box 185 (Qo.q3 a1 a0 v2),Xk v1.2.c.Held,Xh v1.2.c.Log,Wy v1.2.c.Known,.flat false 25 185 1 (fun j=>[[.i a1.Kind,.i a0.c.ID,.i a1.Client,.i a1.Seq,.i a1.Time,.i v2.Client,.i v2.Seq,.i v2.Kind,We true v2.Pairs,.i v2.Over.Lo,.i v2.Over.Hi,.i v2.Old,.i a1.Core.ID,.i a1.Core.Keys.Lo,.i a1.Core.Keys.Hi,.i a1.Core.Clock,.b a1.Core.Ws,.b a1.Core.Wn,Qac true a1.Core.Held,We true a1.Core.Base,Zl true a1.Core.Log,Zy true a1.Core.Known,.i a1.Zu.Qbl,.i a1.Zu.Next,Zn true a1.Zu.L]].getD j []),Xu (Qo.q2 a0 a1 v2)]] (by kernel_rfl) (by kernel_rfl) (by kernel_rfl) (by kernel_rfl) ⟨(Qcj (Qcj (Wh (Wh (Wh (Wh (Wh (Wh Qer hT) hT) hT) hT) hT) hT))),(Qj4 hT),⟨(Qcj (Qcj (Wh (Wh (Wh (Wh (Wh (Wh Qer hT) hT) hT) hT) hT) hT))),(fun R rest h=>Qlb (id:=9) (kk:=25) (id2:=15) (by':=288) (t:=70) (e:=185) (e2:=185) (z:=[.int .i64 0,.int .i64 0,.int .i64 0,.int .i64 0,.int .i64 0,.int .i64 0,.int .i64 0,.int .i64 0,.slice none 0 0,.int .i64 0,.int .i64 0,.int .i64 0,.int .i64 0,.int .i64 0,.int .i64 0,.int .i64 0,.bool false,.bool false,.slice none 0 0,.slice none 0 0,.slice none 0 0,.slice none 0 0,.int .i64 0,.int .i64 0,.slice none 0 0]) (dst:=some 40) (fz:=false) hT Wu.e Wu.z a0.recs (⟨a1.Kind,a0.c.ID,a1.Client,a1.Seq,a1.Time,v2,a1.Core,a1.Zu⟩:Wu) (by kernel_rfl) (by kernel_rfl) (by kernel_rfl) (by kernel_rfl) (by kernel_rfl) (by kernel_rfl) (by kernel_rfl) h4 (by omega) (by kernel_rfl) h),(Qcj (Qcj (Wh (Wh (Wh (Wh (Wh (Wh Qer hT) hT) hT) hT) hT) hT)))⟩⟩ ?_
  refine Xq hT 13 (Qhr 111111100 6) ⟨69,[(0,.ptr 0 0 0 0),(47,.own 13 9 0 v1.2.c.Log.length),(48,.i (a0.c.Log.length:Int))],[.box 126 (Qo.q8 v1 a0 a1 v2),.gone,.gone,.gone,.gone,.gone,.gone,.gone,.gone,.gone,Yk a0.notes,.box 185 (Qo.q3 a1 a0 v2),Xk v1.2.c.Held,Xh v1.2.c.Log,Wy v1.2.c.Known,.flat false 25 185 1 (fun j=>[[.i a1.Kind,.i a0.c.ID,.i a1.Client,.i a1.Seq,.i a1.Time,.i v2.Client,.i v2.Seq,.i v2.Kind,We true v2.Pairs,.i v2.Over.Lo,.i v2.Over.Hi,.i v2.Old,.i a1.Core.ID,.i a1.Core.Keys.Lo,.i a1.Core.Keys.Hi,.i a1.Core.Clock,.b a1.Core.Ws,.b a1.Core.Wn,Qac true a1.Core.Held,We true a1.Core.Base,Zl true a1.Core.Log,Zy true a1.Core.Known,.i a1.Zu.Qbl,.i a1.Zu.Next,Zn true a1.Zu.L]].getD j []),Xu (Qo.q2 a0 a1 v2)]⟩ ?_
  by_cases c5:(a0.c.Log.length:Int) < (v1.2.c.Log.length:Int)
  ·replace H:=iT c5 H
   obtain ⟨h6,H⟩:=iC H
   refine Wfh (id:=13) (s:=9) (off:=0) (n:=v1.2.c.Log.length) (l:=(some (.i64,(a0.c.Log.length:Int)))) (h:=none) (dst:=some 49) (k':=(Qhr 111111100 7)) hT [0,49] (by kernel_rfl) h6 (by simp only [loN,hiN];omega) (by simp only [hiN];omega) (by simp only [loN];omega) (st':=⟨69,[(0,.ptr 0 0 0 0),(49,.own 13 9 (a0.c.Log.length:Int).toNat (Qo.q6 v1 a0))],[.box 126 (Qo.q8 v1 a0 a1 v2),.gone,.gone,.gone,.gone,.gone,.gone,.gone,.gone,.gone,Yk a0.notes,.box 185 (Qo.q3 a1 a0 v2),Xk v1.2.c.Held,Xh v1.2.c.Log,Wy v1.2.c.Known,.flat false 25 185 1 (fun j=>[[.i a1.Kind,.i a0.c.ID,.i a1.Client,.i a1.Seq,.i a1.Time,.i v2.Client,.i v2.Seq,.i v2.Kind,We true v2.Pairs,.i v2.Over.Lo,.i v2.Over.Hi,.i v2.Old,.i a1.Core.ID,.i a1.Core.Keys.Lo,.i a1.Core.Keys.Hi,.i a1.Core.Clock,.b a1.Core.Ws,.b a1.Core.Wn,Qac true a1.Core.Held,We true a1.Core.Base,Zl true a1.Core.Log,Zy true a1.Core.Known,.i a1.Zu.Qbl,.i a1.Zu.Next,Zn true a1.Zu.L]].getD j []),Xu (Qo.q2 a0 a1 v2)]⟩) (by kernel_rfl) ?_
   have L:∀ n,(∀ (Jk:Int) (Jr:Int) (Js:Int) (Jt:Int) (Ju:Int) (Jv:Bool) (Jw:Bool) (Jy:List Qa) (Jb:Int) (Jc:Int) (Jd:List Qi) (Qae:List Xg),iter (Qo.step a0 a1 v1 v2) n (.l1 Jk Jr Js Jt Ju Jv Jw Jy Jb Jc Jd Qae)=some r->AK X 112 ((Qhr 1111111010 0)) (Ym X [.box 126 (eT r.2 6 7 8 9 10 r.2 r.2),.gone,.gone,.gone,.gone,.gone,Xk r.2.c.Held,Xh r.2.c.Log,Wy r.2.c.Known,Xu r.2.recs,Yk r.2.notes] (.i r.1)) ⟨69,[(0,.ptr 0 0 0 0),(49,.own 6 9 (a0.c.Log.length:Int).toNat (Qo.q6 v1 a0)),(50,.i ((Qo.q6 v1 a0):Int)),(51,.i Jk)],(Qo.q5 Jr Js Jt Ju Jv Jw v1 Jy Jb Jc Jd a0 a1 v2 Qae)⟩):=by
    intro n
    induction n with
    | zero=>exact fun _ _ _ _ _ _ _ _ _ _ _ _ H=>Qbh H
    | succ n ih=>
     ·intro Jk Jr Js Jt Ju Jv Jw Jy Jb Jc Jd Qae H
      refine qI ?_
      rcases sB H with ⟨c7,H⟩ | ⟨c7,H⟩
      ·refine qB hT 5 (decide_eq_true c7) ?_
       refine qE hT 6 (Qhr 1111111010011000 0) (Qo.s1 a0 v1 Jk Jr Js Jt Ju Jv Jw Jy Jb Jc Jd a1 v2 Qae) ?_
       obtain ⟨h8,H⟩:=sC H
       refine Qh2 hT [0,49,50,51,53] (i:=Jk) (n:=((Qo.q6 v1 a0):Int)) h8.1 h8.2 (k':=(Qhr 1111111010011000 1)) (st':=⟨69,[(0,.ptr 0 0 0 0),(49,.own 6 9 (a0.c.Log.length:Int).toNat (Qo.q6 v1 a0)),(50,.i ((Qo.q6 v1 a0):Int)),(51,.i Jk),(53,.ptr 6 9 (Jk.toNat+(a0.c.Log.length:Int).toNat) 0)],(Qo.q5 Jr Js Jt Ju Jv Jw v1 Jy Jb Jc Jd a0 a1 v2 Qae)⟩) (by kernel_rfl) ?_
       refine Qjl hT [0,49,50,51,54] (i:=Jk.toNat+(a0.c.Log.length:Int).toNat) (n:=v1.2.c.Log.length) (by omega) (k':=(Qhr 1111111010011000 2)) (st':=⟨69,[(0,.ptr 0 0 0 0),(49,.own 6 9 (a0.c.Log.length:Int).toNat (Qo.q6 v1 a0)),(50,.i ((Qo.q6 v1 a0):Int)),(51,.i Jk),(54,.d (Wpm (Qo.q9 v1 Jk a0)))],(Qo.q5 Jr Js Jt Ju Jv Jw v1 Jy Jb Jc Jd a0 a1 v2 Qae)⟩) (by kernel_rfl) ?_
       refine Xq hT 16 (Qhr 1111111010011001 12) ⟨69,[(0,.ptr 0 0 0 0),(49,.own 6 9 (a0.c.Log.length:Int).toNat (Qo.q6 v1 a0)),(50,.i ((Qo.q6 v1 a0):Int)),(51,.i Jk),(55,.ptr 0 0 0 0),(66,.d (.agg [.i (((Qo.q9 v1 Jk a0).M).Client),.i (((Qo.q9 v1 Jk a0).M).Seq),.i ((Qo.q9 v1 Jk a0).Time),.b ((Qo.q9 v1 Jk a0).Qa3)]))],[.box 126 [.i Jr,.i Js,.i Jt,.i Ju,.b Jv,.b Jw,.own 7 10 0 v1.2.c.Held.length,.d (We true Jy),.own 6 9 0 v1.2.c.Log.length,.own 8 4 0 v1.2.c.Known.length,.i Jb,.i Jc,.d (Zn true Jd),.own 9 25 0 ((Qo.q2 a0 a1 v2).length),.own 10 23 0 Qae.length],.gone,.gone,.gone,.gone,.gone,Xh v1.2.c.Log,Xk v1.2.c.Held,Wy v1.2.c.Known,Xu (Qo.q2 a0 a1 v2),Yk Qae,.box 141 (Qe9 (Qo.q9 v1 Jk a0))]⟩ ?_
       obtain ⟨v3,h9,H⟩:=sbC H
       refine Zd (Xx:=[.ptr 0 0 0 0,.d (.agg [.i (((Qo.q9 v1 Jk a0).M).Client),.i (((Qo.q9 v1 Jk a0).M).Seq),.i ((Qo.q9 v1 Jk a0).Time),.b ((Qo.q9 v1 Jk a0).Qa3)])]) (dst:=some 67) (k':=(Qhr 1111111010011001 13)) [0,49,50,51] [0,7,6,8,9,10] hP Qt7 (Qc9.Qt (⟨(⟨Jr,(⟨Js,Jt⟩:Qb),Ju,Jv,Jw,v1.2.c.Held,Jy,v1.2.c.Log,v1.2.c.Known⟩:Qc),(⟨Jb,Jc,Jd⟩:Yi),a0.recs ++ [(⟨a1.Kind,a0.c.ID,a1.Client,a1.Seq,a1.Time,v2,a1.Core,a1.Zu⟩:Wu)],Qae⟩:Qn) (⟨((Qo.q9 v1 Jk a0).M).Client,((Qo.q9 v1 Jk a0).M).Seq,(Qo.q9 v1 Jk a0).Time,(Qo.q9 v1 Jk a0).Qa3⟩:Qg) h9) (by kernel_rfl) (Qdn (by decide) (by kernel_rfl) rfl) (.cons (.same (.ptr 0 0 0 0)) (.cons (Qk _) .nil)) (st':=⟨69,[(0,.ptr 0 0 0 0),(49,.own 6 9 (a0.c.Log.length:Int).toNat (Qo.q6 v1 a0)),(50,.i ((Qo.q6 v1 a0):Int)),(51,.i Jk)],[.box 126 (eTo v3 7 v1.2.c.Held.length 6 v1.2.c.Log.length 8 v1.2.c.Known.length 9 ((Qo.q2 a0 a1 v2).length) 12 v3.notes.length),.gone,.gone,.gone,.gone,.gone,Xh v1.2.c.Log,Xk v1.2.c.Held,Wy v1.2.c.Known,Xu (Qo.q2 a0 a1 v2),.gone,.box 141 (Qe9 (Qo.q9 v1 Jk a0)),Yk v3.notes]⟩) (by kernel_rfl) ?_
       exact Zr hT 7 _ [0,1,2,3,4,5,6,7,8,9,12] _ h0 (ih (IntKind.wrap .i64 (Jk+1)) v3.c.ID v3.c.Keys.Lo v3.c.Keys.Hi v3.c.Clock v3.c.Ws v3.c.Wn v3.c.Base v3.x.Qbl v3.x.Next v3.x.L v3.notes H)
      refine qB hT 5 (decide_eq_false c7) ?_
      obtain rfl:=Yt H
      exact qT hT 6 hf hX h0 [0,1,2,3,4,5,7,6,8,9,10] (ac nrT (ac .gone (ac .gone (ac .gone (ac .gone (ac .gone (ac (Xa Qh.nl) (ac (Xa Qe.nl) (ac (Xa Qg.nl) (ac (Xa Wu.nl) (ac (Xa Xg.nl) an))))))))))) (.d (.v _))
   refine Zr hT 5 (Qhr 1111111010 0) [0,1,2,3,4,5,13,12,14,16,10] ⟨69,[(0,.ptr 0 0 0 0),(49,.own 6 9 (a0.c.Log.length:Int).toNat (Qo.q6 v1 a0)),(50,.i ((Qo.q6 v1 a0):Int)),(51,.i 0)],[.box 126 (eTo v1.2 7 v1.2.c.Held.length 6 v1.2.c.Log.length 8 v1.2.c.Known.length 9 ((Qo.q2 a0 a1 v2).length) 10 a0.notes.length),.gone,.gone,.gone,.gone,.gone,Xh v1.2.c.Log,Xk v1.2.c.Held,Wy v1.2.c.Known,Xu (Qo.q2 a0 a1 v2),Yk a0.notes]⟩ h0 ?_
   obtain ⟨n,H⟩:=Qbw H
   exact (L n) 0 v1.2.c.ID v1.2.c.Keys.Lo v1.2.c.Keys.Hi v1.2.c.Clock v1.2.c.Ws v1.2.c.Wn v1.2.c.Base v1.2.x.Qbl v1.2.x.Next v1.2.x.L a0.notes H
  replace H:=iF c5 H
  obtain ⟨h10,H⟩:=iC H
  refine Wfi hT [0,49] (id:=13) (s:=9) (off:=0) (n:=v1.2.c.Log.length) (tg:=true) (g:=vec Qe.e Qe.z []) (l:=(some (.i64,(a0.c.Log.length:Int)))) (h:=none) (dst:=some 49) (k':=(Qhr 111111100 7)) (by kernel_rfl) (by simp only [loN];omega) (by simp only [loN,hiN];omega) (by simp only [hiN];omega) (st':=⟨69,[(0,.ptr 0 0 0 0),(49,.d (Zl true ([]:List Qe)))],[.box 126 (Qo.q8 v1 a0 a1 v2),.gone,.gone,.gone,.gone,.gone,.gone,.gone,.gone,.gone,Yk a0.notes,.box 185 (Qo.q3 a1 a0 v2),Xk v1.2.c.Held,Xh v1.2.c.Log,Wy v1.2.c.Known,.flat false 25 185 1 (fun j=>[[.i a1.Kind,.i a0.c.ID,.i a1.Client,.i a1.Seq,.i a1.Time,.i v2.Client,.i v2.Seq,.i v2.Kind,We true v2.Pairs,.i v2.Over.Lo,.i v2.Over.Hi,.i v2.Old,.i a1.Core.ID,.i a1.Core.Keys.Lo,.i a1.Core.Keys.Hi,.i a1.Core.Clock,.b a1.Core.Ws,.b a1.Core.Wn,Qac true a1.Core.Held,We true a1.Core.Base,Zl true a1.Core.Log,Zy true a1.Core.Known,.i a1.Zu.Qbl,.i a1.Zu.Next,Zn true a1.Zu.L]].getD j []),Xu (Qo.q2 a0 a1 v2)]⟩) (by kernel_rfl) ?_
  have L:∀ n,(∀ (Jk:Int) (Jr:Int) (Js:Int) (Jt:Int) (Ju:Int) (Jv:Bool) (Jw:Bool) (Jy:List Qa) (Jb:Int) (Jc:Int) (Jd:List Qi) (Qae:List Xg),iter (Qo.g2.step a0 a1 v1 v2) n (.l1 Jk Jr Js Jt Ju Jv Jw Jy Jb Jc Jd Qae)=some r->AK X 112 ((Qhr 1111111010 0)) (Ym X [.box 126 (eT r.2 6 7 8 9 10 r.2 r.2),.gone,.gone,.gone,.gone,.gone,Xk r.2.c.Held,Xh r.2.c.Log,Wy r.2.c.Known,Xu r.2.recs,Yk r.2.notes] (.i r.1)) ⟨69,(Qo.p0++[(51,.i Jk)]),(Qo.q10 Jr Js Jt Ju Jv Jw v1 Jy Jb Jc Jd a0 a1 v2 Qae)⟩):=by
   intro n
   induction n with
   | zero=>exact fun _ _ _ _ _ _ _ _ _ _ _ _ H=>Qbh H
   | succ n ih=>
    ·intro Jk Jr Js Jt Ju Jv Jw Jy Jb Jc Jd Qae H
     refine qI ?_
     rcases sB H with ⟨c11,H⟩ | ⟨c11,H⟩
     ·refine qB hT 5 (decide_eq_true c11) ?_
      obtain ⟨h12,H⟩:=sC H
      refine qX hT 6 h12 ?_
      refine qE hT 17 (Qhr 1111111010011001 12) ⟨69,(Qo.p0++[(51,.i Jk),(55,.ptr 0 0 0 0),(66,.d (.agg [.i (((([]:List Qe).getD Jk.toNat Qe.z).M).Client),.i (((([]:List Qe).getD Jk.toNat Qe.z).M).Seq),.i ((([]:List Qe).getD Jk.toNat Qe.z).Time),.b ((([]:List Qe).getD Jk.toNat Qe.z).Qa3)]))]),[.box 126 [.i Jr,.i Js,.i Jt,.i Ju,.b Jv,.b Jw,.own 6 10 0 v1.2.c.Held.length,.d (We true Jy),.own 7 9 0 v1.2.c.Log.length,.own 8 4 0 v1.2.c.Known.length,.i Jb,.i Jc,.d (Zn true Jd),.own 9 25 0 ((Qo.q2 a0 a1 v2).length),.own 10 23 0 Qae.length],.gone,.gone,.gone,.gone,.gone,Xk v1.2.c.Held,Xh v1.2.c.Log,Wy v1.2.c.Known,Xu (Qo.q2 a0 a1 v2),Yk Qae,.box 141 (Qe9 (([]:List Qe).getD Jk.toNat Qe.z))]⟩ ?_
      obtain ⟨v4,h13,H⟩:=sbC H
      refine Zd (Xx:=[.ptr 0 0 0 0,.d (.agg [.i (((([]:List Qe).getD Jk.toNat Qe.z).M).Client),.i (((([]:List Qe).getD Jk.toNat Qe.z).M).Seq),.i ((([]:List Qe).getD Jk.toNat Qe.z).Time),.b ((([]:List Qe).getD Jk.toNat Qe.z).Qa3)])]) (dst:=some 67) (k':=(Qhr 1111111010011001 13)) [0,49,50,51] [0,6,7,8,9,10] hP Qt7 (Qc9.Qt (⟨(⟨Jr,(⟨Js,Jt⟩:Qb),Ju,Jv,Jw,v1.2.c.Held,Jy,v1.2.c.Log,v1.2.c.Known⟩:Qc),(⟨Jb,Jc,Jd⟩:Yi),a0.recs ++ [(⟨a1.Kind,a0.c.ID,a1.Client,a1.Seq,a1.Time,v2,a1.Core,a1.Zu⟩:Wu)],Qae⟩:Qn) (⟨((([]:List Qe).getD Jk.toNat Qe.z).M).Client,((([]:List Qe).getD Jk.toNat Qe.z).M).Seq,(([]:List Qe).getD Jk.toNat Qe.z).Time,(([]:List Qe).getD Jk.toNat Qe.z).Qa3⟩:Qg) h13) (by kernel_rfl) (Qdn (by decide) (by kernel_rfl) rfl) (.cons (.same (.ptr 0 0 0 0)) (.cons (Qk _) .nil)) (st':=⟨69,(Qo.p0++[(51,.i Jk)]),[.box 126 (eTo v4 6 v1.2.c.Held.length 7 v1.2.c.Log.length 8 v1.2.c.Known.length 9 ((Qo.q2 a0 a1 v2).length) 12 v4.notes.length),.gone,.gone,.gone,.gone,.gone,Xk v1.2.c.Held,Xh v1.2.c.Log,Wy v1.2.c.Known,Xu (Qo.q2 a0 a1 v2),.gone,.box 141 (Qe9 (([]:List Qe).getD Jk.toNat Qe.z)),Yk v4.notes]⟩) (by kernel_rfl) ?_
      exact Zr hT 7 _ [0,1,2,3,4,5,6,7,8,9,12] _ h0 (ih (IntKind.wrap .i64 (Jk+1)) v4.c.ID v4.c.Keys.Lo v4.c.Keys.Hi v4.c.Clock v4.c.Ws v4.c.Wn v4.c.Base v4.x.Qbl v4.x.Next v4.x.L v4.notes H)
     refine qB hT 5 (decide_eq_false c11) ?_
     obtain rfl:=Yt H
     exact qT hT 6 hf hX h0 [0,1,2,3,4,5,6,7,8,9,10] (ac nrT (ac .gone (ac .gone (ac .gone (ac .gone (ac .gone (ac (Xa Qh.nl) (ac (Xa Qe.nl) (ac (Xa Qg.nl) (ac (Xa Wu.nl) (ac (Xa Xg.nl) an))))))))))) (.d (.v _))
  refine Zr hT 5 (Qhr 1111111010 0) [0,1,2,3,4,5,12,13,14,16,10] ⟨69,(Qo.p0++[(51,.i 0)]),[.box 126 (eTo v1.2 6 v1.2.c.Held.length 7 v1.2.c.Log.length 8 v1.2.c.Known.length 9 ((Qo.q2 a0 a1 v2).length) 10 a0.notes.length),.gone,.gone,.gone,.gone,.gone,Xk v1.2.c.Held,Xh v1.2.c.Log,Wy v1.2.c.Known,Xu (Qo.q2 a0 a1 v2),Yk a0.notes]⟩ h0 ?_
  obtain ⟨n,H⟩:=Qbw H
  exact (L n) 0 v1.2.c.ID v1.2.c.Keys.Lo v1.2.c.Keys.Hi v1.2.c.Clock v1.2.c.Ws v1.2.c.Wn v1.2.c.Base v1.2.x.Qbl v1.2.x.Next v1.2.x.L a0.notes H
 replace H:=iF c2 H
 cases (show (none:Option _)=some _ from H)
abbrev Wp.q1 (v2:Int × Qn) (v1:(List Int) × Bool):List Row:=[.box 126 (eT v2.2 7 8 9 10 11 v2.2 v2.2),.gone,.gone,.gone,.gone,.gone,eR3 v1.1,Xk v2.2.c.Held,Xh v2.2.c.Log,Wy v2.2.c.Known,Xu v2.2.recs,Yk v2.2.notes]
abbrev Wp.q2 (a0:Qn) (Qia:Bool) (Qex:Bool) (a1:Qp) (v1:(List Int) × Bool):List Row:=[.box 126 [.i a0.c.ID,.i a0.c.Keys.Lo,.i a0.c.Keys.Hi,.i a0.c.Clock,.b Qia,.b Qex,.own 8 10 0 a0.c.Held.length,.d (We true a0.c.Base),.own 9 9 0 a0.c.Log.length,.own 10 4 0 a0.c.Known.length,.i a0.x.Qbl,.i a0.x.Next,.d (Zn true a0.x.L),.own 11 25 0 a0.recs.length,.own 12 23 0 a0.notes.length],.gone,.gone,.gone,.gone,.gone,.box 35 (Qak a1),eR3 v1.1,Xk a0.c.Held,Xh a0.c.Log,Wy a0.c.Known,Xu a0.recs,Yk a0.notes]
abbrev Wp.q3 (v2:Int × Qn) (a1:Qp) (v1:(List Int) × Bool):List Row:=[.box 126 (eT v2.2 13 14 15 16 17 v2.2 v2.2),.gone,.gone,.gone,.gone,.gone,.box 35 (Qak a1),eR3 v1.1,.gone,.gone,.gone,.gone,.gone,Xk v2.2.c.Held,Xh v2.2.c.Log,Wy v2.2.c.Known,Xu v2.2.recs,Yk v2.2.notes]
abbrev Wp.q4 (a0:Qn):List AV:=(eT a0 6 7 8 9 10 a0 a0)
abbrev Wp.s1 (v1:(List Int) × Bool) (Qeb:Int) (v2:Int × Qn):St:=⟨75,[(0,.ptr 0 0 0 0),(51,.own 6 1 0 v1.1.length),(52,.i (v1.1.length:Int)),(53,.i Qeb)],(Wp.q1 v2 v1)⟩
abbrev Wp.p0:List (Nat × AV):=[(0,.ptr 0 0 0 0)]
theorem Wp.Qt (a0:Qn) (a1:Qp) (a2:Int) (a3:Bool) {r:Int × Qn} (H:Wp a0 a1 a2 a3=some r):Xt Tryz.prog 147 [.box 126 (eT a0 1 2 3 4 5 a0 a0),Xk a0.c.Held,Xh a0.c.Log,Wy a0.c.Known,Xu a0.recs,Yk a0.notes] [.ptr 0 0 0 0,.d (Qan a1),.i a2,.b a3] [.box 126 (eT r.2 6 7 8 9 10 r.2 r.2),.gone,.gone,.gone,.gone,.gone,Xk r.2.c.Held,Xh r.2.c.Log,Wy r.2.c.Known,Xu r.2.recs,Yk r.2.notes] (.i r.1):=by
 refine Wx Tryz.func147 rfl (nt:=75) rfl (lb rfl) fun X hP h0 hX=>?_
 have hT:Qw X.P T:=hP▸tok
 have hf:X.P.funcs[147]? = some Tryz.f147:=hP▸Tryz.func147
 refine Qgs [5,4,3,2,1] ⟨75,(Wp.p0++[(1,.d (Qan a1)),(2,.i a2),(3,.b a3)]),[.box 126 (Wp.q4 a0),.gone,.gone,.gone,.gone,.gone,Xk a0.c.Held,Xh a0.c.Log,Wy a0.c.Known,Xu a0.recs,Yk a0.notes]⟩ ?_
 refine Xq hT 9 (Qi7 110 2) ⟨75,(Wp.p0++[(2,.i a2),(3,.b a3),(5,.ptr 11 0 0 0),(15,.ptr 0 0 0 0),(16,.d (Qan a1))]),[.box 126 (Wp.q4 a0),.gone,.gone,.gone,.gone,.gone,Xk a0.c.Held,Xh a0.c.Log,Wy a0.c.Known,Xu a0.recs,Yk a0.notes,.box 35 (Qak a1)]⟩ ?_
 obtain ⟨v1,h1,H⟩:=ibC H
 have Yx:∀ (Qi2:Bool) (Qex:Bool),(Wp.j1 a0 a1 a2 a3 v1 Qi2 Qex)=some r->AK X 147 ((Qi7 11100 1)) (Ym X [.box 126 (eT r.2 6 7 8 9 10 r.2 r.2),.gone,.gone,.gone,.gone,.gone,Xk r.2.c.Held,Xh r.2.c.Log,Wy r.2.c.Known,Xu r.2.recs,Yk r.2.notes] (.i r.1)) ⟨75,(Wp.p0++[(2,.i a2),(3,.b a3),(5,.ptr 6 0 0 0),(9,.own 7 1 0 v1.1.length),(20,.b Qi2)]),[.box 126 [.i a0.c.ID,.i a0.c.Keys.Lo,.i a0.c.Keys.Hi,.i a0.c.Clock,.b a0.c.Ws,.b Qex,.own 8 10 0 a0.c.Held.length,.d (We true a0.c.Base),.own 9 9 0 a0.c.Log.length,.own 10 4 0 a0.c.Known.length,.i a0.x.Qbl,.i a0.x.Next,.d (Zn true a0.x.L),.own 11 25 0 a0.recs.length,.own 12 23 0 a0.notes.length],.gone,.gone,.gone,.gone,.gone,.box 35 (Qak a1),eR3 v1.1,Xk a0.c.Held,Xh a0.c.Log,Wy a0.c.Known,Xu a0.recs,Yk a0.notes]⟩:=by
  intro Qi2 Qex H
  by_cases c3:Qi2=true
  ·replace H:=iT c3 H
   cases (show (none:Option _)=some _ from H)
  replace H:=iF c3 H
  have Jj2:∀ (Qse:Bool) (Qia:Bool),(Wp.j2 a0 a1 a2 v1 Qex Qse Qia)=some r->AK X 147 ((Qi7 1110011 1)) (Ym X [.box 126 (eT r.2 6 7 8 9 10 r.2 r.2),.gone,.gone,.gone,.gone,.gone,Xk r.2.c.Held,Xh r.2.c.Log,Wy r.2.c.Known,Xu r.2.recs,Yk r.2.notes] (.i r.1)) ⟨75,(Wp.p0++[(2,.i a2),(5,.ptr 6 0 0 0),(9,.own 7 1 0 v1.1.length),(30,.b Qse)]),(Wp.q2 a0 Qia Qex a1 v1)⟩:=by
   intro Qse Qia H
   by_cases c5:Qse=true
   ·replace H:=iT c5 H
    cases (show (none:Option _)=some _ from H)
   replace H:=iF c5 H
   rw [boF c5]
   refine Xq hT 7 (Qi7 111001111 1) ⟨75,(Wp.p0++[(2,.i a2),(5,.ptr 6 0 0 0),(9,.own 7 1 0 v1.1.length),(39,.b (decide (a2>=1099511627775)))]),(Wp.q2 a0 Qia Qex a1 v1)⟩ ?_
   by_cases c6:a2>=1099511627775
   ·replace H:=iT c6 H
    cases (show (none:Option _)=some _ from H)
   replace H:=iF c6 H
   rw [decide_eq_false c6]
   refine Xq hT 11 (Qi7 111100 5) ⟨75,(Wp.p0++[(9,.own 7 1 0 v1.1.length),(42,.ptr 0 0 0 0),(46,.d (.agg [.i 1,.i 0,.i 0,.i 0,.i (IntKind.wrap .i64 (a2+1)),.i a1.Client,.i a1.Seq,.i a1.Kind,We true a1.Pairs,.i a1.Over.Lo,.i a1.Over.Hi,.i a1.Old,.i 0,.i 0,.i 0,.i 0,.b false,.b false,.ns,.ns,.ns,.ns,.i 0,.i 0,.ns]))]),(Wp.q2 a0 Qia Qex a1 v1)⟩ ?_
   obtain ⟨v2,h7,H⟩:=ibC H
   refine Zd (Xx:=[.ptr 0 0 0 0,.d (.agg [.i 1,.i 0,.i 0,.i 0,.i (IntKind.wrap .i64 (a2+1)),.i a1.Client,.i a1.Seq,.i a1.Kind,We true a1.Pairs,.i a1.Over.Lo,.i a1.Over.Hi,.i a1.Old,.i 0,.i 0,.i 0,.i 0,.b false,.b false,.ns,.ns,.ns,.ns,.i 0,.i 0,.ns])]) (dst:=some 47) (k':=(Qi7 111100 6)) [0,9,47] [0,8,9,10,11,12] hP Qt2 (Qo.Qt (⟨(⟨a0.c.ID,a0.c.Keys,a0.c.Clock,Qia,Qex,a0.c.Held,a0.c.Base,a0.c.Log,a0.c.Known⟩:Qc),a0.x,a0.recs,a0.notes⟩:Qn) (⟨1,0,0,0,IntKind.wrap .i64 (a2+1),a1,(⟨0,(⟨0,0⟩:Qb),0,false,false,[],[],[],[]⟩:Qc),(⟨0,0,[]⟩:Yi)⟩:Wu) h7) (by kernel_rfl) (Qdn (by decide) (by kernel_rfl) rfl) (.cons (.same (.ptr 0 0 0 0)) (.cons (.Qp6 (.cons (Qk _) (.cons (Qk _) (.cons (Qk _) (.cons (Qk _) (.cons (Qk _) (.cons (Qk _) (.cons (Qk _) (.cons (Qk _) (.cons (Qk _) (.cons (Qk _) (.cons (Qk _) (.cons (Qk _) (.cons (Qk _) (.cons (Qk _) (.cons (Qk _) (.cons (Qk _) (.cons (Qk _) (.cons (Qk _) (.cons (.nil _ _) (.cons (.nil _ _) (.cons (.nil _ _) (.cons (.nil _ _) (.cons (Qk _) (.cons (Qk _) (.cons (.nil _ _) .nil)))))))))))))))))))))))))) .nil)) (st':=⟨75,(Wp.p0++[(9,.own 7 1 0 v1.1.length),(47,.i v2.1)]),(Wp.q3 v2 a1 v1)⟩) (by kernel_rfl) ?_
   refine Xq hT 7 (Qi7 111101 1) ⟨75,(Wp.p0++[(9,.own 7 1 0 v1.1.length),(11,.i v2.1),(49,.b (v2.1 != 0))]),(Wp.q3 v2 a1 v1)⟩ ?_
   by_cases c8:v2.1=0
   ·replace H:=iT c8 H
    rw [neF c8]
    refine qI ?_
    have L:∀ n,(∀ (Qeb:Int),iter (Wp.step v1 v2) n (.l1 Qeb)=some r->AK X 147 ((Qi7 11111010 0)) (Ym X [.box 126 (eT r.2 6 7 8 9 10 r.2 r.2),.gone,.gone,.gone,.gone,.gone,Xk r.2.c.Held,Xh r.2.c.Log,Wy r.2.c.Known,Xu r.2.recs,Yk r.2.notes] (.i r.1)) ⟨75,(Wp.p0++[(51,.own 6 1 0 v1.1.length),(52,.i (v1.1.length:Int)),(53,.i Qeb)]),(Wp.q1 v2 v1)⟩):=by
     intro n
     induction n with
     | zero=>exact fun _ H=>Qbh H
     | succ n ih=>
      ·intro Qeb H
       refine qI ?_
       rcases sB H with ⟨c9,H⟩ | ⟨c9,H⟩
       ·refine qB hT 5 (decide_eq_true c9) ?_
        refine qE hT 6 (Qi7 11111010011000 0) (Wp.s1 v1 Qeb v2) ?_
        obtain ⟨h10,H⟩:=sC H
        refine Qh2 hT [0,51,52,53,55] (i:=Qeb) (n:=(v1.1.length:Int)) h10.1 h10.2 (k':=(Qi7 11111010011000 1)) (st':=⟨75,(Wp.p0++[(51,.own 6 1 0 v1.1.length),(52,.i (v1.1.length:Int)),(53,.i Qeb),(55,.ptr 6 1 Qeb.toNat 0)]),(Wp.q1 v2 v1)⟩) (by kernel_rfl) ?_
        refine Qjl hT [0,51,52,53,56] (i:=Qeb.toNat) (n:=v1.1.length) (ltN h10.1 h10.2) (k':=(Qi7 11111010011000 2)) (st':=⟨75,(Wp.p0++[(51,.own 6 1 0 v1.1.length),(52,.i (v1.1.length:Int)),(53,.i Qeb),(56,.i (v1.1.getD Qeb.toNat 0))]),(Wp.q1 v2 v1)⟩) (by kernel_rfl) ?_
        refine Xq hT 12 (Qi7 11111010011001 1) ⟨75,(Wp.p0++[(13,.i (v1.1.getD Qeb.toNat 0)),(51,.own 6 1 0 v1.1.length),(52,.i (v1.1.length:Int)),(53,.i Qeb),(63,.b ((v1.1.getD Qeb.toNat 0) != v2.2.c.ID))]),(Wp.q1 v2 v1)⟩ ?_
        by_cases c11:(v1.1.getD Qeb.toNat 0)=v2.2.c.ID
        ·replace H:=sT c11 H
         rw [neF c11]
         exact Xq hT 8 _ _ (ih (IntKind.wrap .i64 (Qeb+1)) H)
        replace H:=sF c11 H
        cases (show (none:Option _)=some _ from H)
       refine qB hT 5 (decide_eq_false c9) ?_
       obtain rfl:=Yt H
       exact qT hT 6 hf hX h0 [0,1,2,3,4,5,7,8,9,10,11] (ac nrT (ac .gone (ac .gone (ac .gone (ac .gone (ac .gone (ac (Xa Qh.nl) (ac (Xa Qe.nl) (ac (Xa Qg.nl) (ac (Xa Wu.nl) (ac (Xa Xg.nl) an))))))))))) (.d (.v _))
    refine qC hT 11 (Qi7 11111010 0) [0,1,2,3,4,5,7,13,14,15,16,17] ⟨75,(Wp.p0++[(51,.own 6 1 0 v1.1.length),(52,.i (v1.1.length:Int)),(53,.i 0)]),(Wp.q1 v2 v1)⟩ h0 ?_
    obtain ⟨n,H⟩:=Qbw H
    exact (L n) 0 H
   replace H:=iF c8 H
   cases (show (none:Option _)=some _ from H)
  rw [boF c3]
  refine Xq hT 9 (Qi7 11100110 6) ⟨75,(Wp.p0++[(2,.i a2),(3,.b a3),(5,.ptr 6 0 0 0),(9,.own 7 1 0 v1.1.length),(36,.b a0.c.Ws)]),[.box 126 [.i a0.c.ID,.i a0.c.Keys.Lo,.i a0.c.Keys.Hi,.i a0.c.Clock,.b a0.c.Ws,.b Qex,.own 8 10 0 a0.c.Held.length,.d (We true a0.c.Base),.own 9 9 0 a0.c.Log.length,.own 10 4 0 a0.c.Known.length,.i a0.x.Qbl,.i a0.x.Next,.d (Zn true a0.x.L),.own 11 25 0 a0.recs.length,.own 12 23 0 a0.notes.length],.gone,.gone,.gone,.gone,.gone,.box 35 (Qak a1),eR3 v1.1,Xk a0.c.Held,Xh a0.c.Log,Wy a0.c.Known,Xu a0.recs,Yk a0.notes]⟩ ?_
  by_cases c4:a0.c.Ws=true
  ·replace H:=iT c4 H
   try delta eT
   try delta eTo
   rw [c4]
   exact Xq hT 4 _ _ (Jj2 a3 true H)
  replace H:=iF c4 H
  try delta eT
  try delta eTo
  rw [boF c4]
  exact Xq hT 4 _ _ (Jj2 false false H)
 refine Zd (Xx:=[.ptr 0 0 0 0,.d (Qan a1)]) (dst:=some 17) (k':=(Qi7 110 3)) [0,2,3,5,17] [0,6,7,8,9,10] hP Qt8 (Qcv.Qt (⟨(⟨a0.c.ID,a0.c.Keys,a0.c.Clock,a0.c.Ws,a0.c.Wn,a0.c.Held,a0.c.Base,a0.c.Log,a0.c.Known⟩:Qc),a0.x,a0.recs,a0.notes⟩:Qn) a1 h1) (by kernel_rfl) (Qdn (by decide) (by kernel_rfl) rfl) (.cons (.same (.ptr 0 0 0 0)) (.cons (Qk _) .nil)) (st':=⟨75,(Wp.p0++[(2,.i a2),(3,.b a3),(5,.ptr 11 0 0 0),(17,.Ql [.own 12 1 0 v1.1.length,.b v1.2])]),[.box 126 (Wp.q4 a0),.gone,.gone,.gone,.gone,.gone,Xk a0.c.Held,Xh a0.c.Log,Wy a0.c.Known,Xu a0.recs,Yk a0.notes,.box 35 (Qak a1),eR3 v1.1]⟩) (by kernel_rfl) ?_
 refine Xq hT 16 (Qi7 111000 6) ⟨75,(Wp.p0++[(2,.i a2),(3,.b a3),(5,.ptr 11 0 0 0),(9,.own 12 1 0 v1.1.length),(10,.b v1.2),(26,.b a0.c.Wn)]),[.box 126 (Wp.q4 a0),.gone,.gone,.gone,.gone,.gone,Xk a0.c.Held,Xh a0.c.Log,Wy a0.c.Known,Xu a0.recs,Yk a0.notes,.box 35 (Qak a1),eR3 v1.1]⟩ ?_
 by_cases c2:a0.c.Wn=true
 ·replace H:=iT c2 H
  delta Wp.q4
  try delta eT
  try delta eTo
  rw [c2]
  exact Zr hT 5 _ [0,1,2,3,4,5,11,12,6,7,8,9,10] _ h0 (Yx true true H)
 replace H:=iF c2 H
 delta Wp.q4
 try delta eT
 try delta eTo
 rw [boF c2]
 exact Zr hT 5 _ [0,1,2,3,4,5,11,12,6,7,8,9,10] _ h0 (Yx (!v1.2) false H)
theorem Zz.Qt {t0:Bool} {ff1:FuncId} {cc1:List DV} (a0:List Qaq) (p1:Qaq->Option Bool) (he1:Sy.Enters Tryz.prog ff1) (hp1:∀ (z0:Qaq) r,p1 z0=some r->Xt Tryz.prog ff1 [] ([.d (Qxi z0)] ++ List.map AV.d cc1) [] (.b r)) {r:Int} (H:Zz a0 p1=some r):Xt Tryz.prog 187 [] [.d (Qle t0 a0),.d (.fn ff1 cc1)] [] (.i r):=by
 refine Wx Tryz.func187 rfl (nt:=19) rfl (lb rfl) fun X hP h0 hX=>?_
 have hT:Qw X.P T:=hP▸tok
 have hf:X.P.funcs[187]? = some Tryz.f187:=hP▸Tryz.func187
 refine Xq hT 13 (Wb5 11010 0) ⟨19,[(0,.d (Qle t0 a0)),(1,.d (.fn ff1 cc1)),(7,.i (a0.length:Int)),(8,.i 0)],[]⟩ ?_
 have L:∀ n,(∀ (Wi:Int),iter (Zz.step a0 p1) n (.l1 Wi)=some r->AK X 187 ((Wb5 11010 0)) (Ym X [] (.i r)) ⟨19,[(0,.d (Qle t0 a0)),(1,.d (.fn ff1 cc1)),(7,.i (a0.length:Int)),(8,.i Wi)],[]⟩):=by
  intro n
  induction n with
  | zero=>exact fun _ H=>Qbh H
  | succ n ih=>
   ·intro Wi H
    refine qI ?_
    rcases sB H with ⟨c1,H⟩ | ⟨c1,H⟩
    ·refine qB hT 5 (decide_eq_true c1) ?_
     obtain ⟨h2,H⟩:=sC H
     refine qX hT 14 h2 ?_
     refine qE hT 1 (Wb5 110100110010 5) ⟨19,[(0,.d (Qle t0 a0)),(1,.d (.fn ff1 cc1)),(5,.i Wi),(7,.i (a0.length:Int)),(8,.i Wi),(11,.d (.fn ff1 cc1)),(15,.d (Qxi (a0.getD Wi.toNat Qaq.z)))],[]⟩ ?_
     obtain ⟨v1,h3,H⟩:=sbC H
     refine Zd (Xx:=[.d (Qxi (a0.getD Wi.toNat Qaq.z))] ++ List.map AV.d cc1) (dst:=some 16) (k':=(Wb5 110100110010 6)) [0,1,5,7,8,16] [] hP he1 (hp1 (a0.getD Wi.toNat Qaq.z) v1 h3) (by kernel_rfl) (Qao _) (.cons (Qk _) (Qfn _)) (st':=⟨19,[(0,.d (Qle t0 a0)),(1,.d (.fn ff1 cc1)),(5,.i Wi),(7,.i (a0.length:Int)),(8,.i Wi),(16,.b v1)],[]⟩) (by kernel_rfl) ?_
     refine qI ?_
     rcases sB H with ⟨c4,H⟩ | ⟨c4,H⟩
     ·refine qB hT 1 (c4) ?_
      obtain rfl:=Yt H
      exact qT hT 6 hf hX h0 [] an (.d (.v _))
     refine qB hT 1 (boF c4) ?_
     exact qE hT 8 _ _ (ih (IntKind.wrap .i64 (Wi+1)) H)
    refine qB hT 5 (decide_eq_false c1) ?_
    obtain rfl:=Yt H
    exact qT hT 6 hf hX h0 [] an (.d (.v _))
 obtain ⟨n,H⟩:=Qbw H
 exact (L n) 0 H
theorem Qh6.Qt (a0:Qaq) (k0:Int):Xt Tryz.prog 189 [] [.d (Qxi a0),.d (.rop false 1 (fun _=>[.i k0]) 0 0)] [] (.b (Qh6 a0 k0)):=by
 obtain ⟨r,H⟩:∃ r,Qh6 a0 k0=r:=⟨_,rfl⟩
 rw [H]
 refine Wx Tryz.func189 rfl (nt:=8) rfl (lb rfl) fun X hP h0 hX=>?_
 have hT:Qw X.P T:=hP▸tok
 have hf:X.P.funcs[189]? = some Tryz.f189:=hP▸Tryz.func189
 refine qI ?_
 obtain rfl:=H
 exact qT hT 13 hf hX h0 [] an (.d (.v _))
theorem Qjz.Qt (a0:Qh) (a1:Int) {r:Int × Bool} (H:Qjz a0 a1=some r):Xt Tryz.prog 153 [] [.d (Qft a0),.i a1] [] (.Ql [.i r.1,.b r.2]):=by
 refine Wx Tryz.func153 rfl (nt:=19) rfl (lb rfl) fun X hP h0 hX=>?_
 have hT:Qw X.P T:=hP▸tok
 have hf:X.P.funcs[153]? = some Tryz.f153:=hP▸Tryz.func153
 refine Xq hT 12 (Wnp 110 3) ⟨19,[(2,.ptr 0 0 0 0),(8,.d (Qle true a0.Qg6)),(9,.fn 189 [.ptr 1 0 0 0])],[.box 138 (Qef a0),.box 3 [.i a1]]⟩ ?_
 obtain ⟨v1,h1,H⟩:=ibC H
 refine Zd (Xx:=[.d (Qle true a0.Qg6),.fn 189 [.ptr 1 0 0 0]]) (dst:=some 10) (k':=(Wnp 110 4)) [2,10] [] hP Wdg (Zz.Qt (t0:=true) (ff1:=189) (cc1:=[.rop false 1 (fun _=>[.i a1]) 0 0]) a0.Qg6 (fun z0=>some (Qh6 z0 a1)) Wdh (fun z0 r h=>by obtain rfl:=Yt h;exact Qh6.Qt z0 a1) h1) (by kernel_rfl) (Qao _) (.cons (Qk _) (.cons (.fn 189 (.cons (.look (ty:=3) (cs:=[.i a1]) (by kernel_rfl) rfl) .nil)) .nil)) (st':=⟨19,[(2,.ptr 0 0 0 0),(10,.i v1)],[.box 138 (Qef a0),.box 3 [.i a1]]⟩) (by kernel_rfl) ?_
 refine qI ?_
 rcases iB H with ⟨c2,H⟩ | ⟨c2,H⟩
 ·refine qB hT 8 (decide_eq_true c2) ?_
  obtain rfl:=Yt H
  exact qT hT 6 hf hX h0 [] an (.Ql (.cons (.d (.v _)) (.cons (.d (.v _)) .nil)))
 refine qB hT 8 (decide_eq_false c2) ?_
 obtain ⟨h3,H⟩:=iC H
 refine qX hT 7 h3 ?_
 obtain rfl:=Yt H
 exact qT hT 5 hf hX h0 [] an (.Ql (.cons (.d (.v _)) (.cons (.d (.v _)) .nil)))
abbrev Xl.q1 (a0:Qn) (a1:Qh) (v1:(List Int) × Bool):List Row:=[.box 126 (eT a0 1 2 3 4 5 a0 a0),Xk a0.c.Held,Xh a0.c.Log,Wy a0.c.Known,Xu a0.recs,Yk a0.notes,.box 138 (Qef a1),eR3 v1.1]
abbrev Xl.q2 (a0:Qn):List AV:=(eT a0 1 2 3 4 5 a0 a0)
abbrev Xl.s1 (v1:(List Int) × Bool) (Wi:Int) (Qdj:Int) (a0:Qn) (a1:Qh):St:=⟨51,[(0,.ptr 0 0 0 0),(3,.ptr 6 0 0 0),(7,.b v1.2),(8,.i Wi),(22,.own 7 1 0 v1.1.length),(23,.i (v1.1.length:Int)),(24,.i Qdj)],(Xl.q1 a0 a1 v1)⟩
abbrev Xl.p0:List (Nat × AV):=[(0,.ptr 0 0 0 0),(3,.ptr 6 0 0 0)]
theorem Xl.Qt (a0:Qn) (a1:Qh) {r:Int × Bool} (H:Xl a0 a1=some r):Xt Tryz.prog 213 [.box 126 (Xl.q2 a0),Xk a0.c.Held,Xh a0.c.Log,Wy a0.c.Known,Xu a0.recs,Yk a0.notes] [.ptr 0 0 0 0,.d (Qft a1)] [.box 126 (Xl.q2 a0),Xk a0.c.Held,Xh a0.c.Log,Wy a0.c.Known,Xu a0.recs,Yk a0.notes] (.Ql [.i r.1,.b r.2]):=by
 refine Wx Tryz.func213 rfl (nt:=51) rfl (lb rfl) fun X hP h0 hX=>?_
 have hT:Qw X.P T:=hP▸tok
 have hf:X.P.funcs[213]? = some Tryz.f213:=hP▸Tryz.func213
 refine Xq hT 11 (Qoq 110 3) ⟨51,(Xl.p0++[(14,.ptr 0 0 0 0),(16,.d (Qan a1.M))]),[.box 126 (Xl.q2 a0),Xk a0.c.Held,Xh a0.c.Log,Wy a0.c.Known,Xu a0.recs,Yk a0.notes,.box 138 (Qef a1)]⟩ ?_
 obtain ⟨v1,h1,H⟩:=ibC H
 refine Zd (Xx:=[.ptr 0 0 0 0,.d (Qan a1.M)]) (dst:=some 17) (k':=(Qoq 110 4)) [0,3,17] [0,1,2,3,4,5] hP Qt8 (Qcv.Qt (⟨(⟨a0.c.ID,a0.c.Keys,a0.c.Clock,a0.c.Ws,a0.c.Wn,a0.c.Held,a0.c.Base,a0.c.Log,a0.c.Known⟩:Qc),a0.x,a0.recs,a0.notes⟩:Qn) a1.M h1) (by kernel_rfl) (Qdn (by decide) (by kernel_rfl) rfl) (.cons (.same (.ptr 0 0 0 0)) (.cons (Qk _) .nil)) (st':=⟨51,(Xl.p0++[(17,.Ql [.own 7 1 0 v1.1.length,.b v1.2])]),(Xl.q1 a0 a1 v1)⟩) (by kernel_rfl) ?_
 refine Xq hT 21 (Qoq 1111010 0) ⟨51,(Xl.p0++[(7,.b v1.2),(8,.i a1.Time),(22,.own 7 1 0 v1.1.length),(23,.i (v1.1.length:Int)),(24,.i 0)]),(Xl.q1 a0 a1 v1)⟩ ?_
 have L:∀ n,(∀ (Wi:Int) (Qdj:Int),iter (Xl.step a0 a1 v1) n (.l1 Wi Qdj)=some r->AK X 213 ((Qoq 1111010 0)) (Ym X [.box 126 (Xl.q2 a0),Xk a0.c.Held,Xh a0.c.Log,Wy a0.c.Known,Xu a0.recs,Yk a0.notes] (.Ql [.i r.1,.b r.2])) ⟨51,(Xl.p0++[(7,.b v1.2),(8,.i Wi),(22,.own 7 1 0 v1.1.length),(23,.i (v1.1.length:Int)),(24,.i Qdj)]),(Xl.q1 a0 a1 v1)⟩):=by
  intro n
  induction n with
  | zero=>exact fun _ _ H=>Qbh H
  | succ n ih=>
   ·intro Wi Qdj H
    refine qI ?_
    rcases sB H with ⟨c2,H⟩ | ⟨c2,H⟩
    ·refine qB hT 5 (decide_eq_true c2) ?_
     refine qE hT 6 (Qoq 1111010011000 0) (Xl.s1 v1 Wi Qdj a0 a1) ?_
     obtain ⟨h3,H⟩:=sC H
     refine Qh2 hT [0,3,7,8,22,23,24,26] (i:=Qdj) (n:=(v1.1.length:Int)) h3.1 h3.2 (k':=(Qoq 1111010011000 1)) (st':=⟨51,(Xl.p0++[(7,.b v1.2),(8,.i Wi),(22,.own 7 1 0 v1.1.length),(23,.i (v1.1.length:Int)),(24,.i Qdj),(26,.ptr 7 1 Qdj.toNat 0)]),(Xl.q1 a0 a1 v1)⟩) (by kernel_rfl) ?_
     refine Qjl hT [0,3,7,8,22,23,24,27] (i:=Qdj.toNat) (n:=v1.1.length) (ltN h3.1 h3.2) (k':=(Qoq 1111010011000 2)) (st':=⟨51,(Xl.p0++[(7,.b v1.2),(8,.i Wi),(22,.own 7 1 0 v1.1.length),(23,.i (v1.1.length:Int)),(24,.i Qdj),(27,.i (v1.1.getD Qdj.toNat 0))]),(Xl.q1 a0 a1 v1)⟩) (by kernel_rfl) ?_
     refine qI ?_
     obtain ⟨v2,h4,H⟩:=sbC H
     have Yx:∀ (Qi6:Bool),Jq (Xl.j1 Wi Qdj v2 Qi6) (iter (Xl.step a0 a1 v1) n)=some r->AK X 213 ((Qoq 111101001100110 1)) (Ym X [.box 126 (Xl.q2 a0),Xk a0.c.Held,Xh a0.c.Log,Wy a0.c.Known,Xu a0.recs,Yk a0.notes] (.Ql [.i r.1,.b r.2])) ⟨51,(Xl.p0++[(7,.b v1.2),(8,.i Wi),(11,.i v2.1),(22,.own 7 1 0 v1.1.length),(23,.i (v1.1.length:Int)),(24,.i Qdj),(44,.b Qi6)]),(Xl.q1 a0 a1 v1)⟩:=by
      intro Qi6 H
      by_cases c6:Qi6=true
      ·replace H:=sT c6 H
       cases (show (none:Option _)=some _ from H)
      replace H:=sF c6 H
      rw [boF c6]
      exact Xq hT 14 _ _ (ih (Qb6 Wi v2.1) (IntKind.wrap .i64 (Qdj+1)) H)
     refine qF hT 6 hP Wc6 (Qjz.Qt a1 (v1.1.getD Qdj.toNat 0) h4) ?_
     refine qE hT 17 (Qoq 1111010011001100 8) ⟨51,(Xl.p0++[(7,.b v1.2),(8,.i Wi),(11,.i v2.1),(12,.b v2.2),(22,.own 7 1 0 v1.1.length),(23,.i (v1.1.length:Int)),(24,.i Qdj),(41,.b ((v1.1.getD Qdj.toNat 0) != a0.c.ID))]),(Xl.q1 a0 a1 v1)⟩ ?_
     by_cases c5:(v1.1.getD Qdj.toNat 0)=a0.c.ID
     ·replace H:=sT c5 H
      rw [neF c5]
      exact Xq hT 4 _ _ (Yx false H)
     replace H:=sF c5 H
     rw [neT c5]
     exact Xq hT 4 _ _ (Yx (!v2.2) H)
    refine qB hT 5 (decide_eq_false c2) ?_
    obtain rfl:=Yt H
    exact qT hT 9 hf hX h0 [0,1,2,3,4,5] (ac nrT (ac (Xa Qh.nl) (ac (Xa Qe.nl) (ac (Xa Qg.nl) (ac (Xa Wu.nl) (ac (Xa Xg.nl) an)))))) (.Ql (.cons (.d (.v _)) (.cons (.d (.v _)) .nil)))
 obtain ⟨n,H⟩:=Qbw H
 exact (L n) a1.Time 0 H
abbrev Xd.q1 (a0:Qn):List AV:=(eT a0 1 2 3 4 5 a0 a0)
abbrev Xd.q2 (a0:Qn):List Row:=[.box 126 (Xd.q1 a0),Xk a0.c.Held,Xh a0.c.Log,Wy a0.c.Known,Xu a0.recs,Yk a0.notes]
abbrev Xd.q3 (a0:Qn) (Xy:Int):List Row:=[.box 126 (Xd.q1 a0),Xk a0.c.Held,Xh a0.c.Log,Wy a0.c.Known,Xu a0.recs,Yk a0.notes,.box 138 (Qef (a0.c.Held.getD Xy.toNat Qh.z))]
theorem Xd.Qt (a0:Qn) {r:Int × Int} (H:Xd a0=some r):Xt Tryz.prog 186 [.box 126 (Xd.q1 a0),Xk a0.c.Held,Xh a0.c.Log,Wy a0.c.Known,Xu a0.recs,Yk a0.notes] [.ptr 0 0 0 0] [.box 126 (Xd.q1 a0),Xk a0.c.Held,Xh a0.c.Log,Wy a0.c.Known,Xu a0.recs,Yk a0.notes] (.Ql [.i r.1,.i r.2]):=by
 refine Wx Tryz.func186 rfl (nt:=54) rfl (lb rfl) fun X hP h0 hX=>?_
 have hT:Qw X.P T:=hP▸tok
 have hf:X.P.funcs[186]? = some Tryz.f186:=hP▸Tryz.func186
 refine Xq hT 23 (Qny 111010 0) ⟨54,[(0,.ptr 0 0 0 0),(4,.i (-1)),(5,.i 0),(14,.own 1 10 0 a0.c.Held.length),(15,.i (a0.c.Held.length:Int)),(16,.i 0)],(Xd.q2 a0)⟩ ?_
 have L:∀ n,(∀ (Qa6:Int) (Yl:Int) (Xy:Int),iter (Xd.step a0) n (.l1 Qa6 Yl Xy)=some r->AK X 186 ((Qny 111010 0)) (Ym X [.box 126 (Xd.q1 a0),Xk a0.c.Held,Xh a0.c.Log,Wy a0.c.Known,Xu a0.recs,Yk a0.notes] (.Ql [.i r.1,.i r.2])) ⟨54,[(0,.ptr 0 0 0 0),(4,.i Qa6),(5,.i Yl),(14,.own 1 10 0 a0.c.Held.length),(15,.i (a0.c.Held.length:Int)),(16,.i Xy)],(Xd.q2 a0)⟩):=by
  intro n
  induction n with
  | zero=>exact fun _ _ _ H=>Qbh H
  | succ n ih=>
   ·intro Qa6 Yl Xy H
    refine qI ?_
    rcases sB H with ⟨c1,H⟩ | ⟨c1,H⟩
    ·refine qB hT 5 (decide_eq_true c1) ?_
     refine qE hT 7 (Qny 111010011000 1) ⟨54,[(0,.ptr 0 0 0 0),(4,.i Qa6),(5,.i Yl),(14,.own 1 10 0 a0.c.Held.length),(15,.i (a0.c.Held.length:Int)),(16,.i Xy),(18,.i Xy)],(Xd.q2 a0)⟩ ?_
     obtain ⟨h2,H⟩:=sC H
     have Yx:∀ (Qsb:Bool),Jq (Xd.j1 a0 Qa6 Yl Xy Qsb) (iter (Xd.step a0) n)=some r->AK X 186 ((Qny 1110100110010 1)) (Ym X [.box 126 (Xd.q1 a0),Xk a0.c.Held,Xh a0.c.Log,Wy a0.c.Known,Xu a0.recs,Yk a0.notes] (.Ql [.i r.1,.i r.2])) ⟨54,[(0,.ptr 0 0 0 0),(4,.i Qa6),(5,.i Yl),(6,.i Xy),(7,.ptr 6 0 0 0),(14,.own 1 10 0 a0.c.Held.length),(15,.i (a0.c.Held.length:Int)),(16,.i Xy),(41,.b Qsb)],(Xd.q3 a0 Xy)⟩:=by
      intro Qsb H
      by_cases c7:Qsb=true
      ·replace H:=sT c7 H
       rw [c7]
       exact Zr hT 7 _ [0,1,2,3,4,5] _ h0 (ih Qa6 Yl (IntKind.wrap .i64 (Xy+1)) H)
      replace H:=sF c7 H
      rw [boF c7]
      refine Xq hT 6 (Qny 11101001100110 2) ⟨54,[(0,.ptr 0 0 0 0),(4,.i Qa6),(5,.i Yl),(6,.i Xy),(14,.own 1 10 0 a0.c.Held.length),(15,.i (a0.c.Held.length:Int)),(16,.i Xy),(43,.ptr 0 0 0 0),(44,.d (Qft (a0.c.Held.getD Xy.toNat Qh.z)))],(Xd.q3 a0 Xy)⟩ ?_
      obtain ⟨v2,h8,H⟩:=sbC H
      have Jj2:∀ (Qvx:Int) (Qvy:Int),Jq (Xd.j2 Xy Qvx Qvy) (iter (Xd.step a0) n)=some r->AK X 186 ((Qny 111010011 1)) (Ym X [.box 126 (Xd.q1 a0),Xk a0.c.Held,Xh a0.c.Log,Wy a0.c.Known,Xu a0.recs,Yk a0.notes] (.Ql [.i r.1,.i r.2])) ⟨54,[(0,.ptr 0 0 0 0),(4,.i Qvx),(5,.i Qvy),(14,.own 1 10 0 a0.c.Held.length),(15,.i (a0.c.Held.length:Int)),(16,.i Xy)],(Xd.q2 a0)⟩:=by
       intro Qvx Qvy H
       exact Xq hT 5 _ _ (ih Qvx Qvy (IntKind.wrap .i64 (Xy+1)) H)
      refine Zd (Xx:=[.ptr 0 0 0 0,.d (Qft (a0.c.Held.getD Xy.toNat Qh.z))]) (dst:=some 45) (k':=(Qny 11101001100110 3)) [0,4,5,6,14,15,16,45] [0,1,2,3,4,5] hP Wdm (Xl.Qt (⟨(⟨a0.c.ID,a0.c.Keys,a0.c.Clock,a0.c.Ws,a0.c.Wn,a0.c.Held,a0.c.Base,a0.c.Log,a0.c.Known⟩:Qc),a0.x,a0.recs,a0.notes⟩:Qn) (a0.c.Held.getD Xy.toNat Qh.z) h8) (by kernel_rfl) (Qdn (by decide) (by kernel_rfl) rfl) (.cons (.same (.ptr 0 0 0 0)) (.cons (Qk _) .nil)) (st':=⟨54,[(0,.ptr 0 0 0 0),(4,.i Qa6),(5,.i Yl),(6,.i Xy),(14,.own 1 10 0 a0.c.Held.length),(15,.i (a0.c.Held.length:Int)),(16,.i Xy),(45,.Ql [.i v2.1,.b v2.2])],(Xd.q3 a0 Xy)⟩) (by kernel_rfl) ?_
      refine qI ?_
      rcases sB H with ⟨c9,H⟩ | ⟨c9,H⟩
      ·refine qB hT 10 (c9) ?_
       exact qC hT 8 _ [0,1,2,3,4,5] _ h0 (Jj2 Xy v2.1 H)
      refine qB hT 10 (boF c9) ?_
      exact qC hT 3 _ [0,1,2,3,4,5] _ h0 (Jj2 Qa6 Yl H)
     refine Qh2 hT [0,4,5,14,15,16,18,19] (i:=Xy) (n:=(a0.c.Held.length:Int)) h2.1 h2.2 (k':=(Qny 111010011000 2)) (st':=⟨54,[(0,.ptr 0 0 0 0),(4,.i Qa6),(5,.i Yl),(14,.own 1 10 0 a0.c.Held.length),(15,.i (a0.c.Held.length:Int)),(16,.i Xy),(18,.i Xy),(19,.ptr 1 10 Xy.toNat 0)],(Xd.q2 a0)⟩) (by kernel_rfl) ?_
     refine Qjl hT [0,4,5,14,15,16,18,20] (i:=Xy.toNat) (n:=a0.c.Held.length) (ltN h2.1 h2.2) (k':=(Qny 111010011000 3)) (st':=⟨54,[(0,.ptr 0 0 0 0),(4,.i Qa6),(5,.i Yl),(14,.own 1 10 0 a0.c.Held.length),(15,.i (a0.c.Held.length:Int)),(16,.i Xy),(18,.i Xy),(20,.d (Qft (a0.c.Held.getD Xy.toNat Qh.z)))],(Xd.q2 a0)⟩) (by kernel_rfl) ?_
     refine Xq hT 6 (Qny 1110100110010 0) ⟨54,[(0,.ptr 0 0 0 0),(4,.i Qa6),(5,.i Yl),(6,.i Xy),(7,.ptr 6 0 0 0),(14,.own 1 10 0 a0.c.Held.length),(15,.i (a0.c.Held.length:Int)),(16,.i Xy)],(Xd.q3 a0 Xy)⟩ ?_
     by_cases c3:((a0.c.Held.getD Xy.toNat Qh.z).Qg5)=true
     ·replace H:=sT c3 H
      refine Qab (hP▸mixed) 21 [0,4,5,6,7,14,15,16] (sm [.ptr 6 0 0 8,.b true,.b true,.Ql [],.Ql [],.Ql [],.Ql [],.Ql [],.Ql [],.Ql [],.Ql [],.Ql [],.Ql [],.Ql [],.Ql [],.Ql [],.Ql [],.Ql [],.Ql [],.Ql [],.b true]) (Qd (Qd (Qd (Qd (Qd (Qd (Qd (Qd (Qd (Qd (Qd (Qd (Qd (Qd (Qd (Qd (Qd (Qd (Qd (opV (Qd op0 hT) hT 22 (.b ((a0.c.Held.getD Xy.toNat Qh.z).Qg5)) (.b true) (by rw [c3]<;>rfl)) hT) hT) hT) hT) hT) hT) hT) hT) hT) hT) hT) hT) hT) hT) hT) hT) hT) hT) hT) ?_
      exact Xq hT 1 _ _ (Yx true H)
     replace H:=sF c3 H
     by_cases c4:Qa6>=0
     ·replace H:=sT c4 H
      obtain ⟨h5,H⟩:=sC H
      obtain ⟨v1,h6,H⟩:=sbC H
      refine Qab (hP▸mixed) 21 [0,4,5,6,7,14,15,16] (sm [.ptr 6 0 0 8,.b false,.b false,.i Qa6,.b true,.b true,.ptr 0 0 0 0,.ptr 0 0 0 0,.ptr 0 0 0 0,.ptr 0 0 0 6,.own 1 10 0 a0.c.Held.length,.i Qa6,.ptr 1 10 Qa6.toNat 0,.d (Qft (a0.c.Held.getD Qa6.toNat Qh.z)),.d (Qgg (Qbv (a0.c.Held.getD Qa6.toNat Qh.z))),.d (Qft (a0.c.Held.getD Xy.toNat Qh.z)),.d (Qgg (Qbv (a0.c.Held.getD Xy.toNat Qh.z))),.i v1,.b (decide (v1 < 0)),.b (decide (v1 < 0)),.b (decide (v1 < 0))]) (Qd (Qd (Qd (opS (opS (Qd (opS (opS (opS (Qd (Qd (Qd (Qd (Qd (Qd (Qd (opV (Qd (Qd (opV (Qd op0 hT) hT 22 (.b ((a0.c.Held.getD Xy.toNat Qh.z).Qg5)) (.b false) (by rw [boF c3]<;>rfl)) hT) hT) hT 25 (.b (decide (Qa6>=0))) (.b true) (by rw [decide_eq_true c4]<;>rfl)) hT) hT) hT) hT) hT) hT) hT) (fun R rest h=>Qba hT (i:=Qa6) (n:=(a0.c.Held.length:Int)) h5.1 h5.2 (by kernel_rfl) h)) (fun R rest h=>Qf8 hT (i:=Qa6.toNat) (n:=a0.c.Held.length) (ltN h5.1 h5.2) (by kernel_rfl) h)) (fun R rest h=>Zk (Xx:=[.d (Qft (a0.c.Held.getD Qa6.toNat Qh.z))]) (dst:=some 35) hP Ql1 (Qbv.Qt (a0.c.Held.getD Qa6.toNat Qh.z)) (by kernel_rfl) (.cons (Qk _) .nil) (by kernel_rfl) h)) hT) (fun R rest h=>Zk (Xx:=[.d (Qft (a0.c.Held.getD Xy.toNat Qh.z))]) (dst:=some 37) hP Ql1 (Qbv.Qt (a0.c.Held.getD Xy.toNat Qh.z)) (by kernel_rfl) (.cons (Qk _) .nil) (by kernel_rfl) h)) (fun R rest h=>Zk (Xx:=[.d (Qgg (Qbv (a0.c.Held.getD Qa6.toNat Qh.z))),.d (Qgg (Qbv (a0.c.Held.getD Xy.toNat Qh.z)))]) (dst:=some 38) hP Qo0 (Qc6.Qt (Qbv (a0.c.Held.getD Qa6.toNat Qh.z)) (Qbv (a0.c.Held.getD Xy.toNat Qh.z)) h6) (by kernel_rfl) (.cons (Qk _) (.cons (Qk _) .nil)) (by kernel_rfl) h)) hT) hT) hT) ?_
      exact Xq hT 1 _ _ (Yx (decide (v1 < 0)) H)
     replace H:=sF c4 H
     refine Qab (hP▸mixed) 21 [0,4,5,6,7,14,15,16] (sm [.ptr 6 0 0 8,.b false,.b false,.i Qa6,.b false,.b false,.Ql [],.Ql [],.Ql [],.Ql [],.Ql [],.Ql [],.Ql [],.Ql [],.Ql [],.Ql [],.Ql [],.Ql [],.Ql [],.b false,.b false]) (Qd (Qd (Qd (Qd (Qd (Qd (Qd (Qd (Qd (Qd (Qd (Qd (Qd (Qd (Qd (Qd (opV (Qd (Qd (opV (Qd op0 hT) hT 22 (.b ((a0.c.Held.getD Xy.toNat Qh.z).Qg5)) (.b false) (by rw [boF c3]<;>rfl)) hT) hT) hT 25 (.b (decide (Qa6>=0))) (.b false) (by rw [decide_eq_false c4]<;>rfl)) hT) hT) hT) hT) hT) hT) hT) hT) hT) hT) hT) hT) hT) hT) hT) hT) ?_
     exact Xq hT 1 _ _ (Yx false H)
    refine qB hT 5 (decide_eq_false c1) ?_
    obtain rfl:=Yt H
    exact qT hT 9 hf hX h0 [0,1,2,3,4,5] (ac nrT (ac (Xa Qh.nl) (ac (Xa Qe.nl) (ac (Xa Qg.nl) (ac (Xa Wu.nl) (ac (Xa Xg.nl) an)))))) (.Ql (.cons (.d (.v _)) (.cons (.d (.v _)) .nil)))
 obtain ⟨n,H⟩:=Qbw H
 exact (L n) (-1) 0 0 H
abbrev Yd.q1 (Jr:Int) (Js:Int) (Jt:Int) (Ju:Int) (Jv:Bool) (Jw:Bool) (Qs:List Qh) (Jy:List Qa) (Yh:List Qe) (Yc:List Qg) (Jb:Int) (Jc:Int) (Jd:List Qi) (Qfb:List Wu) (Qae:List Xg):List Row:=[.box 126 [.i Jr,.i Js,.i Jt,.i Ju,.b Jv,.b Jw,.own 6 10 0 Qs.length,.d (We true Jy),.own 7 9 0 Yh.length,.own 8 4 0 Yc.length,.i Jb,.i Jc,.d (Zn true Jd),.own 9 25 0 Qfb.length,.own 10 23 0 Qae.length],.gone,.gone,.gone,.gone,.gone,Xk Qs,Xh Yh,Wy Yc,Xu Qfb,Yk Qae]
abbrev Yd.q2 (v2:Int × Qn) (Qs:List Qh) (v1:Int × Int):List Row:=[.box 126 (eT v2.2 12 13 14 15 16 v2.2 v2.2),.gone,.gone,.gone,.gone,.gone,.gone,.gone,.gone,.gone,.gone,.box 35 (Qak ((Qs.getD v1.1.toNat Qh.z).M)),Xk v2.2.c.Held,Xh v2.2.c.Log,Wy v2.2.c.Known,Xu v2.2.recs,Yk v2.2.notes]
abbrev Yd.p0:List (Nat × AV):=[(0,.ptr 0 0 0 0),(2,.bm 186 (.ptr 0 0 0 0))]
theorem Yd.Qt (a0:Qn) {r:Qn} (H:Yd a0=some r):Xt Tryz.prog 148 [.box 126 (eT a0 1 2 3 4 5 a0 a0),Xk a0.c.Held,Xh a0.c.Log,Wy a0.c.Known,Xu a0.recs,Yk a0.notes] [.ptr 0 0 0 0] [.box 126 (eT r 6 7 8 9 10 r r),.gone,.gone,.gone,.gone,.gone,Xk r.c.Held,Xh r.c.Log,Wy r.c.Known,Xu r.recs,Yk r.notes] (.Ql []):=by
 refine Wx Tryz.func148 rfl (nt:=33) rfl (lb rfl) fun X hP h0 hX=>?_
 have hT:Qw X.P T:=hP▸tok
 have hf:X.P.funcs[148]? = some Tryz.f148:=hP▸Tryz.func148
 refine Qgs [5,4,3,2,1] ⟨33,[(0,.ptr 0 0 0 0)],[.box 126 (eT a0 6 7 8 9 10 a0 a0),.gone,.gone,.gone,.gone,.gone,Xk a0.c.Held,Xh a0.c.Log,Wy a0.c.Known,Xu a0.recs,Yk a0.notes]⟩ ?_
 refine Xq hT 8 (Qoo 110 0) ⟨33,(Yd.p0),[.box 126 (eT a0 6 7 8 9 10 a0 a0),.gone,.gone,.gone,.gone,.gone,Xk a0.c.Held,Xh a0.c.Log,Wy a0.c.Known,Xu a0.recs,Yk a0.notes]⟩ ?_
 have L:∀ n,(∀ (Jr:Int) (Js:Int) (Jt:Int) (Ju:Int) (Jv:Bool) (Jw:Bool) (Jy:List Qa) (Jb:Int) (Jc:Int) (Jd:List Qi) (Qs:List Qh) (Yh:List Qe) (Yc:List Qg) (Qfb:List Wu) (Qae:List Xg),iter (Yd.step) n (.l1 Jr Js Jt Ju Jv Jw Jy Jb Jc Jd Qs Yh Yc Qfb Qae)=some r->AK X 148 ((Qoo 110 0)) (Ym X [.box 126 (eT r 6 7 8 9 10 r r),.gone,.gone,.gone,.gone,.gone,Xk r.c.Held,Xh r.c.Log,Wy r.c.Known,Xu r.recs,Yk r.notes] (.Ql [])) ⟨33,(Yd.p0),(Yd.q1 Jr Js Jt Ju Jv Jw Qs Jy Yh Yc Jb Jc Jd Qfb Qae)⟩):=by
  intro n
  induction n with
  | zero=>exact fun _ _ _ _ _ _ _ _ _ _ _ _ _ _ _ H=>Qbh H
  | succ n ih=>
   ·intro Jr Js Jt Ju Jv Jw Jy Jb Jc Jd Qs Yh Yc Qfb Qae H
    refine Xq hT 4 (Qoo 110000 1) ⟨33,(Yd.p0++[(9,.bm 186 (.ptr 0 0 0 0))]),(Yd.q1 Jr Js Jt Ju Jv Jw Qs Jy Yh Yc Jb Jc Jd Qfb Qae)⟩ ?_
    obtain ⟨v1,h1,H⟩:=sbC H
    refine Zd (Xx:=[.ptr 0 0 0 0]) (dst:=some 10) (k':=(Qoo 110000 2)) [0,2,10] [0,6,7,8,9,10] hP Wdf (Xd.Qt (⟨(⟨Jr,(⟨Js,Jt⟩:Qb),Ju,Jv,Jw,Qs,Jy,Yh,Yc⟩:Qc),(⟨Jb,Jc,Jd⟩:Yi),Qfb,Qae⟩:Qn) h1) (by kernel_rfl) (Qdn (by decide) (by kernel_rfl) rfl) (.cons (.same (.ptr 0 0 0 0)) .nil) (st':=⟨33,(Yd.p0++[(10,.Ql [.i v1.1,.i v1.2])]),(Yd.q1 Jr Js Jt Ju Jv Jw Qs Jy Yh Yc Jb Jc Jd Qfb Qae)⟩) (by kernel_rfl) ?_
    refine qI ?_
    rcases sB H with ⟨c2,H⟩ | ⟨c2,H⟩
    ·refine qB hT 12 (decide_eq_true c2) ?_
     obtain rfl:=Yt H
     exact qT hT 1 hf hX h0 [0,1,2,3,4,5,6,7,8,9,10] (ac nrT (ac .gone (ac .gone (ac .gone (ac .gone (ac .gone (ac (Xa Qh.nl) (ac (Xa Qe.nl) (ac (Xa Qg.nl) (ac (Xa Wu.nl) (ac (Xa Xg.nl) an))))))))))) (.Ql .nil)
    refine qB hT 12 (decide_eq_false c2) ?_
    obtain ⟨h3,H⟩:=sC H
    refine qX hT 10 h3 ?_
    refine qE hT 1 (Qoo 11000110 8) ⟨33,(Yd.p0++[(4,.i v1.2),(22,.ptr 6 10 v1.1.toNat 0)]),(Yd.q1 Jr Js Jt Ju Jv Jw Qs Jy Yh Yc Jb Jc Jd Qfb Qae)⟩ ?_
    refine Qjl hT [0,2,4,23] (i:=v1.1.toNat) (n:=Qs.length) (ltN h3.1 h3.2) (k':=(Qoo 11000110 9)) (st':=⟨33,(Yd.p0++[(4,.i v1.2),(23,.d (Qan ((Qs.getD v1.1.toNat Qh.z).M)))]),(Yd.q1 Jr Js Jt Ju Jv Jw Qs Jy Yh Yc Jb Jc Jd Qfb Qae)⟩) (by kernel_rfl) ?_
    refine Xq hT 12 (Qoo 110001110 7) ⟨33,(Yd.p0++[(24,.ptr 0 0 0 0),(30,.d (.agg [.i 2,.i 0,.i (((Qs.getD v1.1.toNat Qh.z).M).Client),.i (((Qs.getD v1.1.toNat Qh.z).M).Seq),.i v1.2,.i 0,.i 0,.i 0,.ns,.i 0,.i 0,.i 0,.i 0,.i 0,.i 0,.i 0,.b false,.b false,.ns,.ns,.ns,.ns,.i 0,.i 0,.ns]))]),[.box 126 [.i Jr,.i Js,.i Jt,.i Ju,.b Jv,.b Jw,.own 6 10 0 Qs.length,.d (We true Jy),.own 7 9 0 Yh.length,.own 8 4 0 Yc.length,.i Jb,.i Jc,.d (Zn true Jd),.own 9 25 0 Qfb.length,.own 10 23 0 Qae.length],.gone,.gone,.gone,.gone,.gone,Xk Qs,Xh Yh,Wy Yc,Xu Qfb,Yk Qae,.box 35 (Qak ((Qs.getD v1.1.toNat Qh.z).M))]⟩ ?_
    obtain ⟨v2,h4,H⟩:=sbC H
    refine Zd (Xx:=[.ptr 0 0 0 0,.d (.agg [.i 2,.i 0,.i (((Qs.getD v1.1.toNat Qh.z).M).Client),.i (((Qs.getD v1.1.toNat Qh.z).M).Seq),.i v1.2,.i 0,.i 0,.i 0,.ns,.i 0,.i 0,.i 0,.i 0,.i 0,.i 0,.i 0,.b false,.b false,.ns,.ns,.ns,.ns,.i 0,.i 0,.ns])]) (dst:=some 31) (k':=(Qoo 110001110 8)) [0,2,31] [0,6,7,8,9,10] hP Qt2 (Qo.Qt (⟨(⟨Jr,(⟨Js,Jt⟩:Qb),Ju,Jv,Jw,Qs,Jy,Yh,Yc⟩:Qc),(⟨Jb,Jc,Jd⟩:Yi),Qfb,Qae⟩:Qn) (⟨2,0,((Qs.getD v1.1.toNat Qh.z).M).Client,((Qs.getD v1.1.toNat Qh.z).M).Seq,v1.2,(⟨0,0,0,[],(⟨0,0⟩:Qb),0⟩:Qp),(⟨0,(⟨0,0⟩:Qb),0,false,false,[],[],[],[]⟩:Qc),(⟨0,0,[]⟩:Yi)⟩:Wu) h4) (by kernel_rfl) (Qdn (by decide) (by kernel_rfl) rfl) (.cons (.same (.ptr 0 0 0 0)) (.cons (.Qp6 (.cons (Qk _) (.cons (Qk _) (.cons (Qk _) (.cons (Qk _) (.cons (Qk _) (.cons (Qk _) (.cons (Qk _) (.cons (Qk _) (.cons (.nil _ _) (.cons (Qk _) (.cons (Qk _) (.cons (Qk _) (.cons (Qk _) (.cons (Qk _) (.cons (Qk _) (.cons (Qk _) (.cons (Qk _) (.cons (Qk _) (.cons (.nil _ _) (.cons (.nil _ _) (.cons (.nil _ _) (.cons (.nil _ _) (.cons (Qk _) (.cons (Qk _) (.cons (.nil _ _) .nil)))))))))))))))))))))))))) .nil)) (st':=⟨33,(Yd.p0++[(31,.i v2.1)]),(Yd.q2 v2 Qs v1)⟩) (by kernel_rfl) ?_
    refine Xq hT 2 (Qoo 11000111 1) ⟨33,(Yd.p0++[(32,.b (v2.1 != 0))]),(Yd.q2 v2 Qs v1)⟩ ?_
    by_cases c5:v2.1=0
    ·replace H:=sT c5 H
     rw [neF c5]
     exact Zr hT 4 _ [0,1,2,3,4,5,12,13,14,15,16] _ h0 (ih v2.2.c.ID v2.2.c.Keys.Lo v2.2.c.Keys.Hi v2.2.c.Clock v2.2.c.Ws v2.2.c.Wn v2.2.c.Base v2.2.x.Qbl v2.2.x.Next v2.2.x.L v2.2.c.Held v2.2.c.Log v2.2.c.Known v2.2.recs v2.2.notes H)
    replace H:=sF c5 H
    rw [neT c5]
    refine qI ?_
    obtain rfl:=Yt H
    exact qT hT 1 hf hX h0 [0,1,2,3,4,5,12,13,14,15,16] (ac nrT (ac .gone (ac .gone (ac .gone (ac .gone (ac .gone (ac (Xa Qh.nl) (ac (Xa Qe.nl) (ac (Xa Qg.nl) (ac (Xa Wu.nl) (ac (Xa Xg.nl) an))))))))))) (.Ql .nil)
 obtain ⟨n,H⟩:=Qbw H
 exact (L n) a0.c.ID a0.c.Keys.Lo a0.c.Keys.Hi a0.c.Clock a0.c.Ws a0.c.Wn a0.c.Base a0.x.Qbl a0.x.Next a0.x.L a0.c.Held a0.c.Log a0.c.Known a0.recs a0.notes H
abbrev Zc.q1 (a0:Qn) (a1:Qed):List Row:=[.box 126 (eT a0 7 8 9 10 11 a0 a0),.gone,.gone,.gone,.gone,.gone,.box 76 (Qgy a1),Xk a0.c.Held,Xh a0.c.Log,Wy a0.c.Known,Xu a0.recs,Yk a0.notes]
abbrev Zc.q2 (a0:Qn) (a1:Qed):List Row:=[.box 126 (eT a0 6 7 8 9 10 a0 a0),.gone,.gone,.gone,.gone,.gone,Xk a0.c.Held,Xh a0.c.Log,Wy a0.c.Known,Xu a0.recs,Yk a0.notes,.box 76 (Qgy a1)]
abbrev Zc.q3 (v4:Int × Qn) (a1:Qed):List Row:=[.box 126 (eT v4.2 12 13 14 15 16 v4.2 v4.2),.gone,.gone,.gone,.gone,.gone,.box 76 (Qgy a1),.gone,.gone,.gone,.gone,.gone,Xk v4.2.c.Held,Xh v4.2.c.Log,Wy v4.2.c.Known,Xu v4.2.recs,Yk v4.2.notes]
abbrev Zc.p0:List (Nat × AV):=[(0,.ptr 0 0 0 0),(3,.ptr 6 0 0 0)]
theorem Zc.Qt (a0:Qn) (a1:Qed) {r:Int × Qn} (H:Zc a0 a1=some r):Xt Tryz.prog 107 [.box 126 (eT a0 1 2 3 4 5 a0 a0),Xk a0.c.Held,Xh a0.c.Log,Wy a0.c.Known,Xu a0.recs,Yk a0.notes] [.ptr 0 0 0 0,.d (Qmp a1)] [.box 126 (eT r.2 6 7 8 9 10 r.2 r.2),.gone,.gone,.gone,.gone,.gone,Xk r.2.c.Held,Xh r.2.c.Log,Wy r.2.c.Known,Xu r.2.recs,Yk r.2.notes] (.i r.1):=by
 refine Wx Tryz.func107 rfl (nt:=74) rfl (lb rfl) fun X hP h0 hX=>?_
 have hT:Qw X.P T:=hP▸tok
 have hf:X.P.funcs[107]? = some Tryz.f107:=hP▸Tryz.func107
 refine Qgs [5,4,3,2,1] ⟨74,[(0,.ptr 0 0 0 0),(1,.d (Qmp a1))],[.box 126 (eT a0 6 7 8 9 10 a0 a0),.gone,.gone,.gone,.gone,.gone,Xk a0.c.Held,Xh a0.c.Log,Wy a0.c.Known,Xu a0.recs,Yk a0.notes]⟩ ?_
 refine qI ?_
 obtain ⟨v1,h1,H⟩:=ibC H
 have Yx:∀ (Qr1:Bool),(Zc.j1 a0 a1 Qr1)=some r->AK X 107 ((Qj9 110 1)) (Ym X [.box 126 (eT r.2 6 7 8 9 10 r.2 r.2),.gone,.gone,.gone,.gone,.gone,Xk r.2.c.Held,Xh r.2.c.Log,Wy r.2.c.Known,Xu r.2.recs,Yk r.2.notes] (.i r.1)) ⟨74,(Zc.p0++[(17,.b Qr1)]),(Zc.q1 a0 a1)⟩:=by
  intro Qr1 H
  by_cases c3:Qr1=true
  ·replace H:=iT c3 H
   cases (show (none:Option _)=some _ from H)
  replace H:=iF c3 H
  rw [boF c3]
  refine Xq hT 3 (Qj9 111 0) ⟨74,(Zc.p0),(Zc.q1 a0 a1)⟩ ?_
  obtain ⟨v2,h4,H⟩:=ibC H
  refine Qab (hP▸mixed) 15 [0,3] (sm [.ptr 0 0 0 0,.ptr 0 0 0 0,.ptr 0 0 0 0,.agg (eK a0.c 7 8 9),.ptr 6 0 0 6,.ptr 6 0 0 6,.i a1.M.Client,.ptr 6 0 0 6,.ptr 6 0 0 7,.i a1.M.Seq,.Ql [.i v2.1,.b v2.2],.Ql [.i v2.1,.b v2.2],.i v2.1,.b v2.2,.i v2.1]) (Qd (Qd (Qd (Qd (opS (Qd (Qd (Qd (Qd (Qd (Qd (Qd (Qd (Qd (Qd op0 hT) hT) hT) hT) hT) hT) hT) hT) hT) hT) (fun R rest h=>Zk (Xx:=[.agg (eK a0.c 7 8 9),.i a1.M.Client,.i a1.M.Seq]) (dst:=some 29) hP Qlm (Qdl.Qt (⟨a0.c.ID,a0.c.Keys,a0.c.Clock,a0.c.Ws,a0.c.Wn,a0.c.Held,a0.c.Base,a0.c.Log,a0.c.Known⟩:Qc) a1.M.Client a1.M.Seq h4) (by kernel_rfl) (.cons (.agg (.cons (Qk _) (.cons (Qk _) (.cons (Qk _) (.cons (Qk _) (.cons (Qk _) (.cons (Qk _) (.cons (.Qcr (ty:=138) (by kernel_rfl) rfl) (.cons (Qk _) (.cons (.Qcr (ty:=141) (by kernel_rfl) rfl) (.cons (.Qcr (ty:=131) (by kernel_rfl) rfl) .nil))))))))))) (.cons (Qk _) (.cons (Qk _) .nil))) (by kernel_rfl) h)) hT) hT) hT) hT) ?_
  refine Xq hT 9 (Qj9 111100 1) ⟨74,(Zc.p0++[(5,.i v2.1),(32,.b v2.2)]),(Zc.q1 a0 a1)⟩ ?_
  by_cases c5:v2.2=true
  ·replace H:=iT c5 H
   cases (show (none:Option _)=some _ from H)
  replace H:=iF c5 H
  rw [boF c5]
  refine Xq hT 2 (Qj9 11110011 0) ⟨74,(Zc.p0),(Zc.q1 a0 a1)⟩ ?_
  refine Qab (hP▸mixed) 10 [0,3] (sm [.ptr 0 0 0 0,.ptr 0 0 0 0,.ptr 0 0 0 0,.agg (eK a0.c 7 8 9),.ptr 6 0 0 6,.ptr 6 0 0 6,.i a1.M.Client,.ptr 6 0 0 6,.ptr 6 0 0 7,.i a1.M.Seq]) (Qd (Qd (Qd (Qd (Qd (Qd (Qd (Qd (Qd (Qd op0 hT) hT) hT) hT) hT) hT) hT) hT) hT) hT) ?_
  refine Xq hT 0 (Qj9 111100110 10) ⟨74,(Zc.p0++[(48,.agg (eK a0.c 7 8 9)),(51,.i a1.M.Client),(54,.i a1.M.Seq)]),(Zc.q1 a0 a1)⟩ ?_
  obtain ⟨v3,h6,H⟩:=ibC H
  refine Zd (Xx:=[.agg (eK a0.c 7 8 9),.i a1.M.Client,.i a1.M.Seq]) (dst:=some 55) (k':=(Qj9 111100110 11)) [0,3,55] [] hP Qo2 (Qaz.Qt (⟨a0.c.ID,a0.c.Keys,a0.c.Clock,a0.c.Ws,a0.c.Wn,a0.c.Held,a0.c.Base,a0.c.Log,a0.c.Known⟩:Qc) a1.M.Client a1.M.Seq h6) (by kernel_rfl) (Qao _) (.cons (.agg (.cons (Qk _) (.cons (Qk _) (.cons (Qk _) (.cons (Qk _) (.cons (Qk _) (.cons (Qk _) (.cons (.Qcr (ty:=138) (by kernel_rfl) rfl) (.cons (Qk _) (.cons (.Qcr (ty:=141) (by kernel_rfl) rfl) (.cons (.Qcr (ty:=131) (by kernel_rfl) rfl) .nil))))))))))) (.cons (Qk _) (.cons (Qk _) .nil))) (st':=⟨74,(Zc.p0++[(55,.i v3)]),(Zc.q1 a0 a1)⟩) (by kernel_rfl) ?_
  refine Xq hT 3 (Qj9 11110011 1) ⟨74,(Zc.p0++[(44,.b (decide (v3>=0)))]),(Zc.q1 a0 a1)⟩ ?_
  by_cases c7:v3>=0
  ·replace H:=iT c7 H
   cases (show (none:Option _)=some _ from H)
  replace H:=iF c7 H
  rw [decide_eq_false c7]
  refine Xq hT 5 (Qj9 111110 0) ⟨74,(Zc.p0),(Zc.q1 a0 a1)⟩ ?_
  refine Qab (hP▸mixed) 11 [0,3] (sm [.ptr 0 0 0 0,.ptr 6 0 0 6,.d (Qan a1.M),.ptr 0 0 0 0,.ptr 0 0 0 0,.ptr 0 0 0 0,.ptr 0 0 0 3,.i a0.c.Clock,.ptr 6 0 0 4,.i a1.Time,.i (Qb6 a0.c.Clock a1.Time)]) (Qd (Qd (Qd (Qd (Qd (Qd (Qd (Qd (Qd (Qd (Qd op0 hT) hT) hT) hT) hT) hT) hT) hT) hT) hT) hT) ?_
  refine Xq hT 0 (Qj9 1111100 11) ⟨74,[(0,.ptr 0 0 0 0),(57,.ptr 0 0 0 0),(59,.d (Qan a1.M)),(67,.i (Qb6 a0.c.Clock a1.Time))],(Zc.q1 a0 a1)⟩ ?_
  obtain ⟨v4,h8,H⟩:=ibC H
  refine Zd (Xx:=[.ptr 0 0 0 0,.d (Qan a1.M),.i (Qb6 a0.c.Clock a1.Time),.b true]) (dst:=some 68) (k':=(Qj9 1111100 12)) [0,68] [0,7,8,9,10,11] hP Wc4 (Wp.Qt (⟨(⟨a0.c.ID,a0.c.Keys,a0.c.Clock,a0.c.Ws,a0.c.Wn,a0.c.Held,a0.c.Base,a0.c.Log,a0.c.Known⟩:Qc),a0.x,a0.recs,a0.notes⟩:Qn) a1.M (Qb6 a0.c.Clock a1.Time) true h8) (by kernel_rfl) (Qdn (by decide) (by kernel_rfl) rfl) (.cons (.same (.ptr 0 0 0 0)) (.cons (Qk _) (.cons (Qk _) (.cons (Qk _) .nil)))) (st':=⟨74,[(0,.ptr 0 0 0 0),(68,.i v4.1)],(Zc.q3 v4 a1)⟩) (by kernel_rfl) ?_
  refine Xq hT 7 (Qj9 1111101 1) ⟨74,[(0,.ptr 0 0 0 0),(7,.i v4.1),(70,.b (v4.1 != 0))],(Zc.q3 v4 a1)⟩ ?_
  by_cases c9:v4.1=0
  ·replace H:=iT c9 H
   rw [neF c9]
   refine Xq hT 5 (Qj9 1111110 1) ⟨74,[(72,.ptr 0 0 0 0)],(Zc.q3 v4 a1)⟩ ?_
   obtain ⟨v5,h10,H⟩:=ibC H
   refine Zd (Xx:=[.ptr 0 0 0 0]) (dst:=some 73) (k':=(Qj9 1111110 2)) [] [0,12,13,14,15,16] hP Wc5 (Yd.Qt (⟨(⟨v4.2.c.ID,v4.2.c.Keys,v4.2.c.Clock,v4.2.c.Ws,v4.2.c.Wn,v4.2.c.Held,v4.2.c.Base,v4.2.c.Log,v4.2.c.Known⟩:Qc),v4.2.x,v4.2.recs,v4.2.notes⟩:Qn) h10) (by kernel_rfl) (Qdn (by decide) (by kernel_rfl) rfl) (.cons (.same (.ptr 0 0 0 0)) .nil) (st':=⟨74,[],[.box 126 (eT v5 17 18 19 20 21 v5 v5),.gone,.gone,.gone,.gone,.gone,.box 76 (Qgy a1),.gone,.gone,.gone,.gone,.gone,.gone,.gone,.gone,.gone,.gone,Xk v5.c.Held,Xh v5.c.Log,Wy v5.c.Known,Xu v5.recs,Yk v5.notes]⟩) (by kernel_rfl) ?_
   refine qI ?_
   obtain rfl:=Yt H
   exact qT hT 5 hf hX h0 [0,1,2,3,4,5,17,18,19,20,21] (ac nrT (ac .gone (ac .gone (ac .gone (ac .gone (ac .gone (ac (Xa Qh.nl) (ac (Xa Qe.nl) (ac (Xa Qg.nl) (ac (Xa Wu.nl) (ac (Xa Xg.nl) an))))))))))) (.d (.v _))
  replace H:=iF c9 H
  cases (show (none:Option _)=some _ from H)
 refine qF hT 10 hP Qg0 (Qbi.Qt a1.M h1) ?_
 rcases iB H with ⟨c2,H⟩ | ⟨c2,H⟩
 ·refine qB hT 2 (show (!v1)=false by rw [c2];rfl) ?_
  refine qE hT 2 (Qj9 1100 7) ⟨74,[(0,.ptr 0 0 0 0),(3,.ptr 11 0 0 0),(12,.b false),(14,.i a1.Time)],(Zc.q2 a0 a1)⟩ ?_
  refine qI ?_
  refine qF hT 0 hP Qll (Qdc.Qt a1.Time) ?_
  exact qC hT 3 _ [0,1,2,3,4,5,11,6,7,8,9,10] _ h0 (Yx (!(Qdc a1.Time)) H)
 refine qB hT 2 (show (!v1)=true by rw [boF c2];rfl) ?_
 exact qC hT 6 _ [0,1,2,3,4,5,11,6,7,8,9,10] _ h0 (Yx true H)
abbrev Qd2.q1 (a0:Qn):List AV:=(eT a0 6 7 8 9 10 a0 a0)
theorem Qd2.Qt (a0:Qn) (a1:Qed) {r:Int × Qn} (H:Qd2 a0 a1=some r):Xt Tryz.prog 62 [.box 126 (eT a0 1 2 3 4 5 a0 a0),Xk a0.c.Held,Xh a0.c.Log,Wy a0.c.Known,Xu a0.recs,Yk a0.notes] [.ptr 0 0 0 0,.d (Qmp a1)] [.box 126 (eT r.2 6 7 8 9 10 r.2 r.2),.gone,.gone,.gone,.gone,.gone,Xk r.2.c.Held,Xh r.2.c.Log,Wy r.2.c.Known,Xu r.2.recs,Yk r.2.notes] (.i r.1):=by
 refine Wx Tryz.func62 rfl (nt:=46) rfl (lb rfl) fun X hP h0 hX=>?_
 have hT:Qw X.P T:=hP▸tok
 have hf:X.P.funcs[62]? = some Tryz.f62:=hP▸Tryz.func62
 refine Qgs [5,4,3,2,1] ⟨46,[(0,.ptr 0 0 0 0),(1,.d (Qmp a1))],[.box 126 (Qd2.q1 a0),.gone,.gone,.gone,.gone,.gone,Xk a0.c.Held,Xh a0.c.Log,Wy a0.c.Known,Xu a0.recs,Yk a0.notes]⟩ ?_
 refine Xq hT 17 (K62 11010 1) ⟨46,[(0,.ptr 0 0 0 0),(3,.ptr 11 0 0 0),(6,.i a1.Kind),(7,.b (a1.Kind == 1))],[.box 126 (Qd2.q1 a0),.gone,.gone,.gone,.gone,.gone,Xk a0.c.Held,Xh a0.c.Log,Wy a0.c.Known,Xu a0.recs,Yk a0.notes,.box 76 (Qgy a1)]⟩ ?_
 by_cases c1:a1.Kind=1
 ·replace H:=iT c1 H
  rw [eqT c1]
  refine Xq hT 5 (K62 11010100 2) ⟨46,[(9,.ptr 0 0 0 0),(10,.d (Qmp a1))],[.box 126 (Qd2.q1 a0),.gone,.gone,.gone,.gone,.gone,Xk a0.c.Held,Xh a0.c.Log,Wy a0.c.Known,Xu a0.recs,Yk a0.notes,.box 76 (Qgy a1)]⟩ ?_
  obtain ⟨v1,h2,H⟩:=ibC H
  refine Zd (Xx:=[.ptr 0 0 0 0,.d (Qmp a1)]) (dst:=some 11) (k':=(K62 11010100 3)) [11] [0,6,7,8,9,10] hP Wcs (Zc.Qt (⟨(⟨a0.c.ID,a0.c.Keys,a0.c.Clock,a0.c.Ws,a0.c.Wn,a0.c.Held,a0.c.Base,a0.c.Log,a0.c.Known⟩:Qc),a0.x,a0.recs,a0.notes⟩:Qn) a1 h2) (by kernel_rfl) (Qdn (by decide) (by kernel_rfl) rfl) (.cons (.same (.ptr 0 0 0 0)) (.cons (Qk _) .nil)) (st':=⟨46,[(11,.i v1.1)],[.box 126 (eT v1.2 12 13 14 15 16 v1.2 v1.2),.gone,.gone,.gone,.gone,.gone,.gone,.gone,.gone,.gone,.gone,.box 76 (Qgy a1),Xk v1.2.c.Held,Xh v1.2.c.Log,Wy v1.2.c.Known,Xu v1.2.recs,Yk v1.2.notes]⟩) (by kernel_rfl) ?_
  refine qI ?_
  obtain rfl:=Yt H
  exact qT hT 2 hf hX h0 [0,1,2,3,4,5,12,13,14,15,16] (ac nrT (ac .gone (ac .gone (ac .gone (ac .gone (ac .gone (ac (Xa Qh.nl) (ac (Xa Qe.nl) (ac (Xa Qg.nl) (ac (Xa Wu.nl) (ac (Xa Xg.nl) an))))))))))) (.d (.v _))
 replace H:=iF c1 H
 cases (show (none:Option _)=some _ from H)
abbrev Zm.q1 (v4:Int × Qn):List AV:=(eT v4.2 10 11 12 13 14 v4.2 v4.2)
abbrev Zm.q2:List AV:=[.i 0,.i 0,.i 0,.i 0,.b false,.b false,.ns,.ns,.ns,.ns,.ns,.ns,.i 0]
abbrev Zm.q3 (a0:Qc) (a1:Yi) (a2:Qed) (v4:Int × Qn):List Row:=[.box 30 (Jo a0),.box 40 (Qdi a1),.box 76 (Qgy a2),.box 73 (Zm.q2),.gone,.gone,.gone,.box 126 (Zm.q1 v4),.gone,.gone,Xk v4.2.c.Held,Xh v4.2.c.Log,Wy v4.2.c.Known,Xu v4.2.recs,Yk v4.2.notes]
abbrev Zm.q4 (a0:Qc) (a1:Yi) (a2:Qed):List Row:=[.box 30 (Jo a0),.box 40 (Qdi a1),.box 76 (Qgy a2),.box 73 (Zm.q2)]
abbrev Zm.s1 (a0:Qc) (a1:Yi) (a2:Qed):St:=⟨47,[(3,.ptr 0 0 0 0),(4,.ptr 1 0 0 0),(5,.ptr 2 0 0 0),(6,.ptr 3 0 0 0)],(Zm.q4 a0 a1 a2)⟩
abbrev Zm.p0:List (Nat × AV):=[(3,.ptr 0 0 0 0),(6,.ptr 3 0 0 0),(7,.ptr 7 0 0 0)]
theorem Zm.Qt (a0:Qc) (a1:Yi) (a2:Qed) {r:Qei} (H:Zm a0 a1 a2=some r):Xt Tryz.prog 24 [] [.d (Qcc a0),.d (Qic a1),.d (Qmp a2)] [] (.d (Wji r)):=by
 refine Wx Tryz.func24 rfl (nt:=47) rfl (lb rfl) fun X hP h0 hX=>?_
 have hT:Qw X.P T:=hP▸tok
 have hf:X.P.funcs[24]? = some Tryz.f24:=hP▸Tryz.func24
 refine qI ?_
 obtain ⟨v1,h1,H⟩:=ibC H
 have Yx:∀ (Qr0:Bool),(Zm.j1 a0 a1 a2 Qr0)=some r->AK X 24 ((K24 110 1)) (Ym X [] (.d (Wji r))) ⟨47,[(3,.ptr 0 0 0 0),(4,.ptr 1 0 0 0),(5,.ptr 2 0 0 0),(6,.ptr 3 0 0 0),(16,.b Qr0)],(Zm.q4 a0 a1 a2)⟩:=by
  intro Qr0 H
  by_cases c4:Qr0=true
  ·replace H:=iT c4 H
   cases (show (none:Option _)=some _ from H)
  replace H:=iF c4 H
  rw [boF c4]
  refine Xq hT 3 (K24 111 0) (Zm.s1 a0 a1 a2) ?_
  obtain ⟨v3,h5,H⟩:=ibC H
  refine Qcz (nt:=47) (hP▸mixed) 3 [1] [3,4,5,6] [(3,.ptr 0 0 0 0),(4,.ptr 1 0 0 0),(5,.ptr 2 0 0 0),(6,.ptr 3 0 0 0)] (sm [.d (Qcc a0),.agg (eK v3 4 5 6),.d (Qic a1)]) [[.box 30 (Jo a0),.box 40 (Qdi a1),.box 76 (Qgy a2),.box 73 (Zm.q2)],[.box 30 (Jo a0),.box 40 (Qdi a1),.box 76 (Qgy a2),.box 73 (Zm.q2),Xk v3.Held,Xh v3.Log,Wy v3.Known]] (by kernel_rfl) (by kernel_rfl) (by kernel_rfl) (by kernel_rfl) ⟨(Wh (Qcj (Wh Qer hT)) hT),(fun R rest h=>Qdb (Xx:=[.d (Qcc a0)]) (dst:=some 21) hP Qwe (Zi.Qt a0 h5) (by kernel_rfl) (.cons (Qk _) .nil) (by kernel_rfl) h),(Wh (Qcj (Wh Qer hT)) hT)⟩ ?_
  refine Xq hT 9 (K24 111100 2) ⟨47,(Zm.p0++[(25,.ptr 7 0 0 0),(26,.d (Qmp a2))]),[.box 30 (Jo a0),.box 40 (Qdi a1),.box 76 (Qgy a2),.box 73 (Zm.q2),Xk v3.Held,Xh v3.Log,Wy v3.Known,.box 126 [.i v3.ID,.i v3.Keys.Lo,.i v3.Keys.Hi,.i v3.Clock,.b v3.Ws,.b v3.Wn,.own 4 10 0 v3.Held.length,.d (We true v3.Base),.own 5 9 0 v3.Log.length,.own 6 4 0 v3.Known.length,.i a1.Qbl,.i a1.Next,.d (Zn true a1.L),.ns,.ns]]⟩ ?_
  refine Qjx (tb:=126) (cs:=[.i v3.ID,.i v3.Keys.Lo,.i v3.Keys.Hi,.i v3.Clock,.b v3.Ws,.b v3.Wn,.own 4 10 0 v3.Held.length,.d (We true v3.Base),.own 5 9 0 v3.Log.length,.own 6 4 0 v3.Known.length,.i a1.Qbl,.i a1.Next,.d (Zn true a1.L),.ns,.ns]) 7 13 25 185 (vec Wu.e Wu.z []) (st':=⟨47,(Zm.p0++[(25,.ptr 7 0 0 0),(26,.d (Qmp a2))]),[.box 30 (Jo a0),.box 40 (Qdi a1),.box 76 (Qgy a2),.box 73 (Zm.q2),Xk v3.Held,Xh v3.Log,Wy v3.Known,.box 126 [.i v3.ID,.i v3.Keys.Lo,.i v3.Keys.Hi,.i v3.Clock,.b v3.Ws,.b v3.Wn,.own 4 10 0 v3.Held.length,.d (We true v3.Base),.own 5 9 0 v3.Log.length,.own 6 4 0 v3.Known.length,.i a1.Qbl,.i a1.Next,.d (Zn true a1.L),.own 8 25 0 (([]:List Wu).length),.ns],Xu ([]:List Wu)]⟩) (by kernel_rfl) (by kernel_rfl) ?_
  refine Qjx (tb:=126) (cs:=[.i v3.ID,.i v3.Keys.Lo,.i v3.Keys.Hi,.i v3.Clock,.b v3.Ws,.b v3.Wn,.own 4 10 0 v3.Held.length,.d (We true v3.Base),.own 5 9 0 v3.Log.length,.own 6 4 0 v3.Known.length,.i a1.Qbl,.i a1.Next,.d (Zn true a1.L),.own 8 25 0 (([]:List Wu).length),.ns]) 7 14 23 78 (vec Xg.e Xg.z []) (st':=⟨47,(Zm.p0++[(25,.ptr 7 0 0 0),(26,.d (Qmp a2))]),[.box 30 (Jo a0),.box 40 (Qdi a1),.box 76 (Qgy a2),.box 73 (Zm.q2),Xk v3.Held,Xh v3.Log,Wy v3.Known,.box 126 [.i v3.ID,.i v3.Keys.Lo,.i v3.Keys.Hi,.i v3.Clock,.b v3.Ws,.b v3.Wn,.own 4 10 0 v3.Held.length,.d (We true v3.Base),.own 5 9 0 v3.Log.length,.own 6 4 0 v3.Known.length,.i a1.Qbl,.i a1.Next,.d (Zn true a1.L),.own 8 25 0 (([]:List Wu).length),.own 9 23 0 (([]:List Xg).length)],Xu ([]:List Wu),Yk ([]:List Xg)]⟩) (by kernel_rfl) (by kernel_rfl) ?_
  obtain ⟨v4,h6,H⟩:=ibC H
  refine Zd (Xx:=[.ptr 7 0 0 0,.d (Qmp a2)]) (dst:=some 27) (k':=(K24 111100 3)) [3,6,7,27] [7,4,5,6,8,9] hP Wge (Qd2.Qt (⟨v3,a1,([]:List Wu),([]:List Xg)⟩:Qn) a2 h6) (by kernel_rfl) (Qdn (by decide) (by kernel_rfl) rfl) (.cons (.same (.ptr 0 0 0 0)) (.cons (Qk _) .nil)) (st':=⟨47,(Zm.p0++[(27,.i v4.1)]),(Zm.q3 a0 a1 a2 v4)⟩) (by kernel_rfl) ?_
  refine Xq hT 7 (K24 111101 1) ⟨47,(Zm.p0++[(8,.i v4.1),(29,.b (v4.1 != 0))]),(Zm.q3 a0 a1 a2 v4)⟩ ?_
  by_cases c7:v4.1=0
  ·replace H:=iT c7 H
   rw [neF c7]
   refine Xq hT 3 (K24 11111 0) ⟨47,[(6,.ptr 3 0 0 0),(7,.ptr 7 0 0 0)],(Zm.q3 a0 a1 a2 v4)⟩ ?_
   refine Qab (hP▸mixed) 12 [6,7] (sm [.ptr 7 0 0 0,.ptr 7 0 0 0,.ptr 7 0 0 0,.agg (eK v4.2.c 10 11 12),.ptr 7 0 0 0,.ptr 7 0 0 0,.ptr 7 0 0 13,.own 13 25 0 v4.2.recs.length,.ptr 7 0 0 0,.ptr 7 0 0 0,.ptr 7 0 0 14,.own 14 23 0 v4.2.notes.length]) (Qd (Qd (Qd (Qd (Qd (Qd (Qd (Qd (Qd (Qd (Qd (Qd op0 hT) hT) hT) hT) hT) hT) hT) hT) hT) hT) hT) hT) ?_
   refine Xq hT 1 (K24 111110 13) ⟨47,[(6,.ptr 3 0 0 0),(46,.agg [.i v4.2.c.ID,.i v4.2.c.Keys.Lo,.i v4.2.c.Keys.Hi,.i v4.2.c.Clock,.b v4.2.c.Ws,.b v4.2.c.Wn,.own 10 10 0 v4.2.c.Held.length,.d (We true v4.2.c.Base),.own 11 9 0 v4.2.c.Log.length,.own 12 4 0 v4.2.c.Known.length,.own 13 25 0 v4.2.recs.length,.own 14 23 0 v4.2.notes.length,.i 0])],(Zm.q3 a0 a1 a2 v4)⟩ ?_
   refine Qcb 10 (kk:=10) (n:=v4.2.c.Held.length) (ty:=138) (g:=vec Qh.e Qh.z v4.2.c.Held) (by kernel_rfl) (st':=⟨47,[(6,.ptr 3 0 0 0),(46,.agg [.i v4.2.c.ID,.i v4.2.c.Keys.Lo,.i v4.2.c.Keys.Hi,.i v4.2.c.Clock,.b v4.2.c.Ws,.b v4.2.c.Wn,.own 10 10 0 v4.2.c.Held.length,.d (We true v4.2.c.Base),.own 11 9 0 v4.2.c.Log.length,.own 12 4 0 v4.2.c.Known.length,.own 13 25 0 v4.2.recs.length,.own 14 23 0 v4.2.notes.length,.i 0])],[.box 30 (Jo a0),.box 40 (Qdi a1),.box 76 (Qgy a2),.box 73 (Zm.q2),.gone,.gone,.gone,.box 126 (Zm.q1 v4),.gone,.gone,Qih v4.2.c.Held,Xh v4.2.c.Log,Wy v4.2.c.Known,Xu v4.2.recs,Yk v4.2.notes]⟩) (by kernel_rfl) ?_
   refine Qcb 11 (kk:=9) (n:=v4.2.c.Log.length) (ty:=141) (g:=vec Qe.e Qe.z v4.2.c.Log) (by kernel_rfl) (st':=⟨47,[(6,.ptr 3 0 0 0),(46,.agg [.i v4.2.c.ID,.i v4.2.c.Keys.Lo,.i v4.2.c.Keys.Hi,.i v4.2.c.Clock,.b v4.2.c.Ws,.b v4.2.c.Wn,.own 10 10 0 v4.2.c.Held.length,.d (We true v4.2.c.Base),.own 11 9 0 v4.2.c.Log.length,.own 12 4 0 v4.2.c.Known.length,.own 13 25 0 v4.2.recs.length,.own 14 23 0 v4.2.notes.length,.i 0])],[.box 30 (Jo a0),.box 40 (Qdi a1),.box 76 (Qgy a2),.box 73 (Zm.q2),.gone,.gone,.gone,.box 126 (Zm.q1 v4),.gone,.gone,Qih v4.2.c.Held,Qkc v4.2.c.Log,Wy v4.2.c.Known,Xu v4.2.recs,Yk v4.2.notes]⟩) (by kernel_rfl) ?_
   refine Qcb 12 (kk:=4) (n:=v4.2.c.Known.length) (ty:=131) (g:=vec Qg.e Qg.z v4.2.c.Known) (by kernel_rfl) (st':=⟨47,[(6,.ptr 3 0 0 0),(46,.agg [.i v4.2.c.ID,.i v4.2.c.Keys.Lo,.i v4.2.c.Keys.Hi,.i v4.2.c.Clock,.b v4.2.c.Ws,.b v4.2.c.Wn,.own 10 10 0 v4.2.c.Held.length,.d (We true v4.2.c.Base),.own 11 9 0 v4.2.c.Log.length,.own 12 4 0 v4.2.c.Known.length,.own 13 25 0 v4.2.recs.length,.own 14 23 0 v4.2.notes.length,.i 0])],[.box 30 (Jo a0),.box 40 (Qdi a1),.box 76 (Qgy a2),.box 73 (Zm.q2),.gone,.gone,.gone,.box 126 (Zm.q1 v4),.gone,.gone,Qih v4.2.c.Held,Qkc v4.2.c.Log,Qjn v4.2.c.Known,Xu v4.2.recs,Yk v4.2.notes]⟩) (by kernel_rfl) ?_
   refine Qcb 13 (kk:=25) (n:=v4.2.recs.length) (ty:=185) (g:=vec Wu.e Wu.z v4.2.recs) (by kernel_rfl) (st':=⟨47,[(6,.ptr 3 0 0 0),(46,.agg [.i v4.2.c.ID,.i v4.2.c.Keys.Lo,.i v4.2.c.Keys.Hi,.i v4.2.c.Clock,.b v4.2.c.Ws,.b v4.2.c.Wn,.own 10 10 0 v4.2.c.Held.length,.d (We true v4.2.c.Base),.own 11 9 0 v4.2.c.Log.length,.own 12 4 0 v4.2.c.Known.length,.own 13 25 0 v4.2.recs.length,.own 14 23 0 v4.2.notes.length,.i 0])],[.box 30 (Jo a0),.box 40 (Qdi a1),.box 76 (Qgy a2),.box 73 (Zm.q2),.gone,.gone,.gone,.box 126 (Zm.q1 v4),.gone,.gone,Qih v4.2.c.Held,Qkc v4.2.c.Log,Qjn v4.2.c.Known,Qxh v4.2.recs,Yk v4.2.notes]⟩) (by kernel_rfl) ?_
   refine Qcb 14 (kk:=23) (n:=v4.2.notes.length) (ty:=78) (g:=vec Xg.e Xg.z v4.2.notes) (by kernel_rfl) (st':=⟨47,[(6,.ptr 3 0 0 0),(46,.agg [.i v4.2.c.ID,.i v4.2.c.Keys.Lo,.i v4.2.c.Keys.Hi,.i v4.2.c.Clock,.b v4.2.c.Ws,.b v4.2.c.Wn,.own 10 10 0 v4.2.c.Held.length,.d (We true v4.2.c.Base),.own 11 9 0 v4.2.c.Log.length,.own 12 4 0 v4.2.c.Known.length,.own 13 25 0 v4.2.recs.length,.own 14 23 0 v4.2.notes.length,.i 0])],[.box 30 (Jo a0),.box 40 (Qdi a1),.box 76 (Qgy a2),.box 73 (Zm.q2),.gone,.gone,.gone,.box 126 (Zm.q1 v4),.gone,.gone,Qih v4.2.c.Held,Qkc v4.2.c.Log,Qjn v4.2.c.Known,Qxh v4.2.recs,Wjh v4.2.notes]⟩) (by kernel_rfl) ?_
   refine Qe4 (av:=.agg [.i v4.2.c.ID,.i v4.2.c.Keys.Lo,.i v4.2.c.Keys.Hi,.i v4.2.c.Clock,.b v4.2.c.Ws,.b v4.2.c.Wn,.own 10 10 0 v4.2.c.Held.length,.d (We true v4.2.c.Base),.own 11 9 0 v4.2.c.Log.length,.own 12 4 0 v4.2.c.Known.length,.own 13 25 0 v4.2.recs.length,.own 14 23 0 v4.2.notes.length,.i 0]) (y:=.agg [.i v4.2.c.ID,.i v4.2.c.Keys.Lo,.i v4.2.c.Keys.Hi,.i v4.2.c.Clock,.b v4.2.c.Ws,.b v4.2.c.Wn,Qac true v4.2.c.Held,We true v4.2.c.Base,Zl true v4.2.c.Log,Zy true v4.2.c.Known,Qt0 true v4.2.recs,Qn1 true v4.2.notes,.i 0]) [6,46] 46 (st':=⟨47,[(6,.ptr 3 0 0 0),(46,.d (.agg [.i v4.2.c.ID,.i v4.2.c.Keys.Lo,.i v4.2.c.Keys.Hi,.i v4.2.c.Clock,.b v4.2.c.Ws,.b v4.2.c.Wn,Qac true v4.2.c.Held,We true v4.2.c.Base,Zl true v4.2.c.Log,Zy true v4.2.c.Known,Qt0 true v4.2.recs,Qn1 true v4.2.notes,.i 0]))],[.box 30 (Jo a0),.box 40 (Qdi a1),.box 76 (Qgy a2),.box 73 (Zm.q2),.gone,.gone,.gone,.box 126 (Zm.q1 v4),.gone,.gone,Qih v4.2.c.Held,Qkc v4.2.c.Log,Qjn v4.2.c.Known,Qxh v4.2.recs,Wjh v4.2.notes]⟩) (by kernel_rfl) (.agg (.cons (.d _) (.cons (.d _) (.cons (.d _) (.cons (.d _) (.cons (.d _) (.cons (.d _) (.cons (.own (ty:=138) (k:=10) (by kernel_rfl)) (.cons (.d _) (.cons (.own (ty:=141) (k:=9) (by kernel_rfl)) (.cons (.own (ty:=131) (k:=4) (by kernel_rfl)) (.cons (.own (ty:=185) (k:=25) (by kernel_rfl)) (.cons (.own (ty:=78) (k:=23) (by kernel_rfl)) (.cons (.d _) .nil)))))))))))))) (by kernel_rfl) ?_
   refine Xq hT 2 (K24 11111 1) ⟨47,[(6,.ptr 3 0 0 0)],[.box 30 (Jo a0),.box 40 (Qdi a1),.box 76 (Qgy a2),.box 73 [.i v4.2.c.ID,.i v4.2.c.Keys.Lo,.i v4.2.c.Keys.Hi,.i v4.2.c.Clock,.b v4.2.c.Ws,.b v4.2.c.Wn,.d (Qac true v4.2.c.Held),.d (We true v4.2.c.Base),.d (Zl true v4.2.c.Log),.d (Zy true v4.2.c.Known),.d (Qt0 true v4.2.recs),.d (Qn1 true v4.2.notes),.i 0],.gone,.gone,.gone,.box 126 (Zm.q1 v4),.gone,.gone,Qih v4.2.c.Held,Qkc v4.2.c.Log,Qjn v4.2.c.Known,Qxh v4.2.recs,Wjh v4.2.notes]⟩ ?_
   obtain rfl:=Yt H
   exact Qh4 hT hf hX (av:=.d (.agg [.i v4.2.c.ID,.i v4.2.c.Keys.Lo,.i v4.2.c.Keys.Hi,.i v4.2.c.Clock,.b v4.2.c.Ws,.b v4.2.c.Wn,Qac true v4.2.c.Held,We true v4.2.c.Base,Zl true v4.2.c.Log,Zy true v4.2.c.Known,Qt0 true v4.2.recs,Qn1 true v4.2.notes,.i 0])) (by kernel_rfl) [] (Qal (by kernel_rfl)) (by decide) (by rw [h0];rfl) (by kernel_rfl) an (.d (.agg (Qei.nl _)))
  replace H:=iF c7 H
  cases (show (none:Option _)=some _ from H)
 refine qF hT 11 hP Qqd (Jg.Qt a0 h1) ?_
 rcases iB H with ⟨c2,H⟩ | ⟨c2,H⟩
 ·refine qB hT 2 (show (!v1)=false by rw [c2];rfl) ?_
  refine qE hT 1 (K24 1100 5) ⟨47,[(3,.ptr 0 0 0 0),(4,.ptr 1 0 0 0),(5,.ptr 2 0 0 0),(6,.ptr 3 0 0 0),(12,.b false),(13,.d (Qic a1))],(Zm.q4 a0 a1 a2)⟩ ?_
  obtain ⟨v2,h3,H⟩:=ibC H
  refine qI ?_
  refine qF hT 0 hP Qwg (Yo.Qt a1 h3) ?_
  exact qE hT 3 _ _ (Yx (!v2) H)
 refine qB hT 2 (show (!v1)=true by rw [boF c2];rfl) ?_
 exact qE hT 5 _ _ (Yx true H)
abbrev Wj.q1 (v2:List Int):=((IntKind.wrap .i64 ((v2.getD 0 0) - 1)).toNat)
abbrev Wj.q2 (a0:List Qc) (v2:List Int) (v3:Qei) (a1:Yi):List Row:=[Qax (a0.set (Wj.q1 v2) v3.C),.box 40 (Qdi a1),.box 73 (Qqa v3)]
abbrev Wj.p0 (a0:List Qc):List (Nat × AV):=[(0,.own 0 10 0 a0.length),(4,.ptr 1 0 0 0)]
theorem Wj.Qt (a0:List Qc) (a1:Yi) (a2:Qp) {r:Bool × (List Qc)} (H:Wj a0 a1 a2=some r):Xt Tryz.prog 7 [Qax a0] [.own 0 10 0 a0.length,.d (Qic a1),.d (Qan a2)] [Qax r.2] (.b r.1):=by
 refine Wx Tryz.func7 rfl (nt:=103) rfl (lb rfl) fun X hP h0 hX=>?_
 have hT:Qw X.P T:=hP▸tok
 have hf:X.P.funcs[7]? = some Tryz.f7:=hP▸Tryz.func7
 refine Xq hT 7 (K7 11 0) ⟨103,(Wj.p0 a0++[(5,.ptr 2 0 0 0)]),[Qax a0,.box 40 (Qdi a1),.box 35 (Qak a2)]⟩ ?_
 obtain ⟨v1,h1,H⟩:=ibC H
 refine Qab (hP▸mixed) 3 [0,4,5] (sm [.d (Qic a1),.d (Qan a2),.d (Yp true v1)]) (opS (Qd (Qd op0 hT) hT) (fun R rest h=>Zk (Xx:=[.d (Qan a2)]) (dst:=some 16) hP Qnf (Qaj.Qt a2 h1) (by kernel_rfl) (.cons (Qk _) .nil) (by kernel_rfl) h)) ?_
 refine qI ?_
 obtain ⟨v2,h2,H⟩:=ibC H
 refine qF hT 0 hP Qwb (Zv.Qt (t1:=true) a1 v1 h2) ?_
 refine qE hT 9 (K7 1110 1) ⟨103,(Wj.p0 a0++[(5,.ptr 2 0 0 0),(7,.own 3 1 0 v2.length),(20,.b ((v2.length:Int) == 0))]),[Qax a0,.box 40 (Qdi a1),.box 35 (Qak a2),eR3 v2]⟩ ?_
 by_cases c3:(v2.length:Int)=0
 ·replace H:=iT c3 H
  cases (show (none:Option _)=some _ from H)
 replace H:=iF c3 H
 rw [eqF c3]
 refine Xq hT 3 (K7 1111 0) ⟨103,(Wj.p0 a0++[(5,.ptr 2 0 0 0),(7,.own 3 1 0 v2.length)]),[Qax a0,.box 40 (Qdi a1),.box 35 (Qak a2),eR3 v2]⟩ ?_
 obtain ⟨h4,H⟩:=iC H
 obtain ⟨h5,H⟩:=iC H
 obtain ⟨v3,h6,H⟩:=ibC H
 refine Qcz (nt:=103) (hP▸mixed) 12 [11] [0,4,5,7] [(0,.own 0 10 0 a0.length),(4,.ptr 1 0 0 0),(5,.ptr 2 0 0 0),(7,.own 3 1 0 v2.length)] (sm [.own 0 10 0 a0.length,.own 3 1 0 v2.length,.ptr 3 1 0 0,.i (v2.getD 0 0),.i (IntKind.wrap .i64 ((v2.getD 0 0) - 1)),.ptr 0 10 (Wj.q1 v2) 0,.d (Qcc (a0.getD (Wj.q1 v2) Qc.z)),.d (Qic a1),.d (Qan a2),.d (.agg [.i 1,.i 0,.i 0,.i 0,.i 0,.b false,.i a2.Client,.i a2.Seq,.i a2.Kind,We true a2.Pairs,.i a2.Over.Lo,.i a2.Over.Hi,.i a2.Old]),.d (Wji v3),.ptr 4 0 0 0]) [[Qax a0,.box 40 (Qdi a1),.box 35 (Qak a2),eR3 v2],[Qax a0,.box 40 (Qdi a1),.box 35 (Qak a2),eR3 v2,.box 73 [.i 0,.i 0,.i 0,.i 0,.b false,.b false,.ns,.ns,.ns,.ns,.ns,.ns,.i 0]]] (by kernel_rfl) (by kernel_rfl) (by kernel_rfl) (by kernel_rfl) ⟨?_,(Qj4 hT),?_⟩ ?_
 iterate 2 exact (Qcj (Qir (Wh (Wh (Wh (Qir (Qir (Wh (Qir (Qir (Wh (Wh Qer hT) hT) (fun R rest h=>Qba hT (i:=0) (n:=(v2.length:Int)) h4.1 h4.2 (by kernel_rfl) h)) (fun R rest h=>Qf8 hT (i:=0) (n:=v2.length) (by first | omega | decide) (by kernel_rfl) h)) hT) (fun R rest h=>Qba hT (i:=IntKind.wrap .i64 ((v2.getD 0 0) - 1)) (n:=(a0.length:Int)) h5.1 h5.2 (by kernel_rfl) h)) (fun R rest h=>Qf8 hT (i:=(IntKind.wrap .i64 ((v2.getD 0 0) - 1)).toNat) (n:=a0.length) (ltN h5.1 h5.2) (by kernel_rfl) h)) hT) hT) hT) (fun R rest h=>Zk (Xx:=[.d (Qcc (a0.getD (Wj.q1 v2) Qc.z)),.d (Qic a1),.d (.agg [.i 1,.i 0,.i 0,.i 0,.i 0,.b false,.i a2.Client,.i a2.Seq,.i a2.Kind,We true a2.Pairs,.i a2.Over.Lo,.i a2.Over.Hi,.i a2.Old])]) (dst:=some 31) hP Wf2 (Zm.Qt (a0.getD (Wj.q1 v2) Qc.z) a1 (⟨1,0,0,0,0,false,a2⟩:Qed) h6) (by kernel_rfl) (.cons (Qk _) (.cons (Qk _) (.cons (Qk _) .nil))) (by kernel_rfl) h)))
 refine Xq hT 3 (K7 11111 0) ⟨103,(Wj.p0 a0++[(7,.own 3 1 0 v2.length),(8,.ptr 4 0 0 0)]),[Qax a0,.box 40 (Qdi a1),.box 35 (Qak a2),eR3 v2,.box 73 (Qqa v3)]⟩ ?_
 refine Qab (hP▸mixed) 7 [0,4,7,8] (sm [.own 0 10 0 a0.length,.own 3 1 0 v2.length,.ptr 3 1 0 0,.i (v2.getD 0 0),.i (IntKind.wrap .i64 ((v2.getD 0 0) - 1)),.ptr 4 0 0 0,.d (Qcc v3.C)]) (Qd (Qd (Qd (opS (opS (Qd (Qd op0 hT) hT) (fun R rest h=>Qba hT (i:=0) (n:=(v2.length:Int)) h4.1 h4.2 (by kernel_rfl) h)) (fun R rest h=>Qf8 hT (i:=0) (n:=v2.length) (by first | omega | decide) (by kernel_rfl) h)) hT) hT) hT) ?_
 refine Xq hT 0 (K7 111110 7) ⟨103,(Wj.p0 a0++[(8,.ptr 4 0 0 0),(32,.own 0 10 0 a0.length),(36,.i (IntKind.wrap .i64 ((v2.getD 0 0) - 1))),(38,.d (Qcc v3.C))]),[Qax a0,.box 40 (Qdi a1),.box 35 (Qak a2),eR3 v2,.box 73 (Qqa v3)]⟩ ?_
 refine Qh2 hT [0,4,8,38,39] (i:=IntKind.wrap .i64 ((v2.getD 0 0) - 1)) (n:=(a0.length:Int)) h5.1 h5.2 (k':=(K7 111110 8)) (st':=⟨103,(Wj.p0 a0++[(8,.ptr 4 0 0 0),(38,.d (Qcc v3.C)),(39,.ptr 0 10 (Wj.q1 v2) 0)]),[Qax a0,.box 40 (Qdi a1),.box 35 (Qak a2),eR3 v2,.box 73 (Qqa v3)]⟩) (by kernel_rfl) ?_
 refine Qnc (id:=0) (kk:=10) (i:=(Wj.q1 v2)) (off:=0) (s:=10) (n:=a0.length) (ty:=30) (ds:=[.i v3.C.ID,.i v3.C.Keys.Lo,.i v3.C.Keys.Hi,.i v3.C.Clock,.b v3.C.Ws,.b v3.C.Wn,Qac true v3.C.Held,We true v3.C.Base,Zl true v3.C.Log,Zy true v3.C.Known]) (g:=vec Qc.e Qc.z a0) (k':=(K7 111110 9)) hT [0,4,8] (vec Qc.e Qc.z (a0.set (Wj.q1 v2) v3.C)) (by kernel_rfl) (by kernel_rfl) (ltN h5.1 h5.2) ((Qi1 (ltN h5.1 h5.2)).trans (by kernel_rfl)) Qfx (st':=⟨103,[(0,.own 0 10 0 (a0.length)),(4,.ptr 1 0 0 0),(8,.ptr 4 0 0 0)],[.flat false 10 30 a0.length (vec Qc.e Qc.z (a0.set (Wj.q1 v2) v3.C)),.box 40 (Qdi a1),.box 35 (Qak a2),.flat false 1 3 v2.length (vec (eI .i64) 0 v2),.box 73 (Qqa v3)]⟩) (by kernel_rfl) ?_
 refine Qiw (show a0.length=(a0.set (Wj.q1 v2) v3.C).length from (List.length_set ..).symm) (fun nn=>⟨103,[(0,.own 0 10 0 (nn)),(4,.ptr 1 0 0 0),(8,.ptr 4 0 0 0)],[.flat false 10 30 nn (vec Qc.e Qc.z (a0.set (Wj.q1 v2) v3.C)),.box 40 (Qdi a1),.box 35 (Qak a2),.flat false 1 3 v2.length (vec (eI .i64) 0 v2),.box 73 (Qqa v3)]⟩) ?_
 have L:∀ n,(∀ (Wq:Int),iter (Wj.step a0 v2 v3) n (.l1 Wq)=some r->AK X 7 ((K7 1111111010 0)) (Ym X [Qax r.2] (.b r.1)) ⟨103,[(0,.own 0 10 0 ((a0.set (Wj.q1 v2) v3.C).length)),(4,.ptr 1 0 0 0),(8,.ptr 2 0 0 0),(9,.d (Qn1 true v3.Notes)),(10,.i Wq)],(Wj.q2 a0 v2 v3 a1)⟩):=by
  intro n
  induction n with
  | zero=>exact fun _ H=>Qbh H
  | succ n ih=>
   ·intro Wq H
    have Yx:∀ (Qsd:Bool),Jq (Wj.j1 a0 v2 v3 Wq Qsd) (iter (Wj.step a0 v2 v3) n)=some r->AK X 7 ((K7 111111101000 1)) (Ym X [Qax r.2] (.b r.1)) ⟨103,[(0,.own 0 10 0 ((a0.set (Wj.q1 v2) v3.C).length)),(4,.ptr 1 0 0 0),(8,.ptr 2 0 0 0),(9,.d (Qn1 true v3.Notes)),(10,.i Wq),(49,.b Qsd)],(Wj.q2 a0 v2 v3 a1)⟩:=by
     intro Qsd H
     by_cases c8:Qsd=true
     ·replace H:=sT c8 H
      rw [c8]
      refine qI ?_
      obtain ⟨h9,H⟩:=sC H
      have Jj2:∀ (Qsg:Bool),Jq (Wj.j2 Wq Qsg) (iter (Wj.step a0 v2 v3) n)=some r->AK X 7 ((K7 1111111010010010 1)) (Ym X [Qax r.2] (.b r.1)) ⟨103,[(0,.own 0 10 0 ((a0.set (Wj.q1 v2) v3.C).length)),(4,.ptr 1 0 0 0),(8,.ptr 2 0 0 0),(9,.d (Qn1 true v3.Notes)),(10,.i Wq),(11,.ptr 3 0 0 0),(63,.b Qsg)],[Qax (a0.set (Wj.q1 v2) v3.C),.box 40 (Qdi a1),.box 73 (Qqa v3),.box 78 (Wn6 (v3.Notes.getD Wq.toNat Xg.z))]⟩:=by
       intro Qsg H
       by_cases c11:Qsg=true
       ·replace H:=sT c11 H
        rw [c11]
        exact Zr hT 8 _ [0,1,2] _ h0 (ih (IntKind.wrap .i64 (Wq+1)) H)
       replace H:=sF c11 H
       cases (show (none:Option _)=some _ from H)
      refine qX hT 8 h9 ?_
      refine qE hT 11 (K7 11111110100100100 4) ⟨103,[(0,.own 0 10 0 ((a0.set (Wj.q1 v2) v3.C).length)),(4,.ptr 1 0 0 0),(8,.ptr 2 0 0 0),(9,.d (Qn1 true v3.Notes)),(10,.i Wq),(11,.ptr 3 0 0 0),(59,.b (((v3.Notes.getD Wq.toNat Xg.z).Kind) != 2))],[Qax (a0.set (Wj.q1 v2) v3.C),.box 40 (Qdi a1),.box 73 (Qqa v3),.box 78 (Wn6 (v3.Notes.getD Wq.toNat Xg.z))]⟩ ?_
      by_cases c10:((v3.Notes.getD Wq.toNat Xg.z).Kind)=2
      ·replace H:=sT c10 H
       rw [neF c10]
       exact Xq hT 5 _ _ (Jj2 false H)
      replace H:=sF c10 H
      rw [neT c10]
      exact Xq hT 5 _ _ (Jj2 (((v3.Notes.getD Wq.toNat Xg.z).Kind) != 3) H)
     replace H:=sF c8 H
     rw [boF c8]
     refine qI ?_
     obtain rfl:=Yt H
     exact qT hT 9 hf hX h0 [0] (ac (Xa Qc.nl) an) (.d (.v _))
    refine qI ?_
    rcases sB H with ⟨c7,H⟩ | ⟨c7,H⟩
    ·refine qB hT 8 (decide_eq_true c7) ?_
     exact qE hT 4 _ _ (Yx (decide (Wq < 300)) H)
    refine qB hT 8 (decide_eq_false c7) ?_
    exact qE hT 4 _ _ (Yx false H)
 refine Zr hT 14 (K7 1111111010 0) [0,1,4] ⟨103,[(0,.own 0 10 0 ((a0.set (Wj.q1 v2) v3.C).length)),(4,.ptr 1 0 0 0),(8,.ptr 2 0 0 0),(9,.d (Qn1 true v3.Notes)),(10,.i 0)],(Wj.q2 a0 v2 v3 a1)⟩ h0 ?_
 obtain ⟨n,H⟩:=Qbw H
 exact (L n) 0 H
abbrev Zh.q1 (a0:List Qa) (Qa6:Int):=(⟨(a0.getD Qa6.toNat Qa.z).Key,(a0.getD Qa6.toNat Qa.z).Val⟩:Qx)
theorem Zh.Qt {t0:Bool} (a0:List Qa) {r:List Qx} (H:Zh a0=some r):Xt Tryz.prog 12 [] [.d (We t0 a0)] [Qhu r] (.own 0 2 0 r.length):=by
 refine Wx Tryz.func12 rfl (nt:=19) rfl (lb rfl) fun X hP h0 hX=>?_
 have hT:Qw X.P T:=hP▸tok
 have hf:X.P.funcs[12]? = some Tryz.f12:=hP▸Tryz.func12
 refine Xq hT 15 (K12 111010 0) ⟨19,[(0,.d (We t0 a0)),(3,.ns),(4,.i 0)],[]⟩ ?_
 refine Qd1 [0,3,4] 3 2 96 (vec Qx.e Qx.z []) (st':=⟨19,[(0,.d (We t0 a0)),(3,.own 0 2 0 0),(4,.i 0)],[Qhu ([]:List Qx)]⟩) (by kernel_rfl) (by kernel_rfl) ?_
 have L:∀ n,(∀ (Qa6:Int) (Qm:List Qx),iter (Zh.step a0) n (.l1 Qa6 Qm)=some r->AK X 12 ((K12 111010 0)) (Ym X [Qhu r] (.own 0 2 0 r.length)) ⟨19,[(0,.d (We t0 a0)),(3,.own 0 2 0 Qm.length),(4,.i Qa6)],[Qhu Qm]⟩):=by
  intro n
  induction n with
  | zero=>exact fun _ _ H=>Qbh H
  | succ n ih=>
   ·intro Qa6 Qm H
    refine qI ?_
    rcases sB H with ⟨c1,H⟩ | ⟨c1,H⟩
    ·refine qB hT 8 (decide_eq_true c1) ?_
     obtain ⟨h2,H⟩:=sC H
     refine qX hT 8 h2 ?_
     refine qE hT 2 (K12 1110100100 6) ⟨19,[(0,.d (We t0 a0)),(4,.i Qa6),(11,.own 0 2 0 Qm.length),(16,.own 1 2 0 1)],[Qhu Qm,.flat false 2 96 1 (fun j=>[Qa.e (a0.getD Qa6.toNat Qa.z)].getD j [])]⟩ ?_
     obtain ⟨h3,H⟩:=sC H
     refine Qeq (id:=0) (kk:=2) (by':=16) (t:=50) (e:=96) (z:=[.int .i64 0,.int .i64 0]) (dst:=some 17) (id2:=1) (e2:=96) (fz:=false) (k':=(K12 1110100100 7)) hT Qx.e Qx.z Qm (Zh.q1 a0 Qa6) [0,4,17] (by kernel_rfl) (by kernel_rfl) (by kernel_rfl) (by kernel_rfl) (by kernel_rfl) (by kernel_rfl) (by kernel_rfl) h3 (by omega) (st':=⟨19,[(0,.d (We t0 a0)),(4,.i Qa6),(17,.own 2 2 0 ((Qm ++ [(Zh.q1 a0 Qa6)]).length))],[.gone,.flat false 2 96 1 (fun j=>[Qa.e (a0.getD Qa6.toNat Qa.z)].getD j []),Qhu (Qm ++ [(Zh.q1 a0 Qa6)])]⟩) (by kernel_rfl) ?_
     exact Zr hT 9 _ [2] _ h0 (ih (IntKind.wrap .i64 (Qa6+1)) (Qm ++ [(Zh.q1 a0 Qa6)]) H)
    refine qB hT 8 (decide_eq_false c1) ?_
    obtain rfl:=Yt H
    exact qT hT 7 hf hX h0 [0] (ac (Xa Qx.nl) an) (.own _ _ _ _)
 refine Qik [0] ⟨19,[(0,.d (We t0 a0)),(3,.own 0 2 0 ([]:List Qx).length),(4,.i 0)],[Qhu ([]:List Qx)]⟩ h0 ?_
 obtain ⟨n,H⟩:=Qbw H
 exact (L n) 0 ([]:List Qx) H
theorem Jn.Qt {t0:Bool} {t1:Bool} (a0:List Qx) (a1:List Qx) {r:Bool} (H:Jn a0 a1=some r):Xt Tryz.prog 14 [] [.d (Qkd t0 a0),.d (Qkd t1 a1)] [] (.b r):=by
 refine Wx Tryz.func14 rfl (nt:=26) rfl (lb rfl) fun X hP h0 hX=>?_
 have hT:Qw X.P T:=hP▸tok
 have hf:X.P.funcs[14]? = some Tryz.f14:=hP▸Tryz.func14
 refine Xq hT 13 (K14 110 1) ⟨26,[(0,.d (Qkd t0 a0)),(1,.d (Qkd t1 a1)),(10,.b ((a0.length:Int) != (a1.length:Int)))],[]⟩ ?_
 by_cases c1:(a0.length:Int)=(a1.length:Int)
 ·replace H:=iT c1 H
  rw [neF c1]
  refine Xq hT 9 (K14 111010 0) ⟨26,[(0,.d (Qkd t0 a0)),(1,.d (Qkd t1 a1)),(5,.i 0)],[]⟩ ?_
  have L:∀ n,(∀ (Yl:Int),iter (Jn.step a0 a1) n (.l1 Yl)=some r->AK X 14 ((K14 111010 0)) (Ym X [] (.b r)) ⟨26,[(0,.d (Qkd t0 a0)),(1,.d (Qkd t1 a1)),(5,.i Yl)],[]⟩):=by
   intro n
   induction n with
   | zero=>exact fun _ H=>Qbh H
   | succ n ih=>
    ·intro Yl H
     refine qI ?_
     rcases sB H with ⟨c2,H⟩ | ⟨c2,H⟩
     ·refine qB hT 8 (decide_eq_true c2) ?_
      refine qE hT 5 (K14 1110100100 0) ⟨26,[(0,.d (Qkd t0 a0)),(1,.d (Qkd t1 a1)),(5,.i Yl)],[]⟩ ?_
      obtain ⟨h3,H⟩:=sC H
      obtain ⟨h4,H⟩:=sC H
      refine Qab (hP▸mixed) 9 [0,1,5] (sm [.d (Qkd t0 a0),.i Yl,.d (Woc t0 a0 Yl.toNat 0),.d (Wn8 (a0.getD Yl.toNat Qx.z)),.d (Qkd t1 a1),.i Yl,.d (Woc t1 a1 Yl.toNat 0),.d (Wn8 (a1.getD Yl.toNat Qx.z)),.b (!((((a0.getD Yl.toNat Qx.z).Key) == ((a1.getD Yl.toNat Qx.z).Key)) && (((a0.getD Yl.toNat Qx.z).Val) == ((a1.getD Yl.toNat Qx.z).Val))))]) (Qd (Qd (opS (Qd (Qd (Qd (opS (Qd (Qd op0 hT) hT) (fun R rest h=>Qba hT (i:=Yl) (n:=(a0.length:Int)) h3.1 h3.2 (by kernel_rfl) h)) hT) hT) hT) (fun R rest h=>Qba hT (i:=Yl) (n:=(a1.length:Int)) h4.1 h4.2 (by kernel_rfl) h)) hT) hT) ?_
      refine Xq hT 1 (K14 1110100100 1) ⟨26,[(0,.d (Qkd t0 a0)),(1,.d (Qkd t1 a1)),(5,.i Yl),(25,.b (!((((a0.getD Yl.toNat Qx.z).Key) == ((a1.getD Yl.toNat Qx.z).Key)) && (((a0.getD Yl.toNat Qx.z).Val) == ((a1.getD Yl.toNat Qx.z).Val)))))],[]⟩ ?_
      by_cases c5:((a0.getD Yl.toNat Qx.z).Key)=((a1.getD Yl.toNat Qx.z).Key)
      ·replace H:=sT c5 H
       rw [eqT c5]
       by_cases c6:((a0.getD Yl.toNat Qx.z).Val)=((a1.getD Yl.toNat Qx.z).Val)
       ·replace H:=sT c6 H
        rw [eqT c6]
        exact Xq hT 9 _ _ (ih (IntKind.wrap .i64 (Yl+1)) H)
       replace H:=sF c6 H
       rw [eqF c6]
       refine qI ?_
       obtain rfl:=Yt H
       exact qT hT 5 hf hX h0 [] an (.d (.v _))
      replace H:=sF c5 H
      rw [eqF c5]
      by_cases c7:((a0.getD Yl.toNat Qx.z).Val)=((a1.getD Yl.toNat Qx.z).Val)
      ·replace H:=sT c7 H
       rw [eqT c7]
       refine qI ?_
       obtain rfl:=Yt H
       exact qT hT 5 hf hX h0 [] an (.d (.v _))
      replace H:=sF c7 H
      rw [eqF c7]
      refine qI ?_
      obtain rfl:=Yt H
      exact qT hT 5 hf hX h0 [] an (.d (.v _))
     refine qB hT 8 (decide_eq_false c2) ?_
     obtain rfl:=Yt H
     exact qT hT 6 hf hX h0 [] an (.d (.v _))
  obtain ⟨n,H⟩:=Qbw H
  exact (L n) 0 H
 replace H:=iF c1 H
 rw [neT c1]
 refine qI ?_
 obtain rfl:=Yt H
 exact qT hT 5 hf hX h0 [] an (.d (.v _))
abbrev Qf.q1 (Xe:List Qc) (Xc:Int):=(Xe.set Xc.toNat (⟨(Xe.getD Xc.toNat Qc.z).ID,((Xe.getD Xc.toNat Qc.z).Keys),(Xe.getD Xc.toNat Qc.z).Clock,true,(Xe.getD Xc.toNat Qc.z).Wn,(Xe.getD Xc.toNat Qc.z).Held,(Xe.getD Xc.toNat Qc.z).Base,(Xe.getD Xc.toNat Qc.z).Log,(Xe.getD Xc.toNat Qc.z).Known⟩:Qc))
abbrev Qf.q2 (Qm:List Qc):List AV:=[.i ((Qm.getD 0 Qc.z).ID),.i (((Qm.getD 0 Qc.z).Keys).Lo),.i (((Qm.getD 0 Qc.z).Keys).Hi),.i ((Qm.getD 0 Qc.z).Clock),.b true,.b true,.d (Qac true ((Qm.getD 0 Qc.z).Held)),.d (We true ((Qm.getD 0 Qc.z).Base)),.d (Zl true ((Qm.getD 0 Qc.z).Log)),.d (Zy true ((Qm.getD 0 Qc.z).Known))]
abbrev Qf.q3 (Xe:List Qc) (Xc:Int):=((Qf.q1 Xe Xc).set Xc.toNat (⟨((Qf.q1 Xe Xc).getD Xc.toNat Qc.z).ID,(((Qf.q1 Xe Xc).getD Xc.toNat Qc.z).Keys),((Qf.q1 Xe Xc).getD Xc.toNat Qc.z).Clock,((Qf.q1 Xe Xc).getD Xc.toNat Qc.z).Ws,true,((Qf.q1 Xe Xc).getD Xc.toNat Qc.z).Held,((Qf.q1 Xe Xc).getD Xc.toNat Qc.z).Base,((Qf.q1 Xe Xc).getD Xc.toNat Qc.z).Log,((Qf.q1 Xe Xc).getD Xc.toNat Qc.z).Known⟩:Qc))
abbrev Qf.q4 (Qbb:Int) (Qbc:Int) (Qbd:Int) (Qau:Int) (Qa7:List Qh) (Qa8:List Qa) (Qa9:List Qe) (Qah:List Qg):List AV:=[.i Qbb,.i Qbc,.i Qbd,.i Qau,.b true,.b true,.d (Qac true Qa7),.d (We true Qa8),.d (Zl true Qa9),.d (Zy true Qah)]
abbrev Qf.q5 (Qm:List Qc):=([(⟨(Qm.getD 0 Qc.z).ID,((Qm.getD 0 Qc.z).Keys),(Qm.getD 0 Qc.z).Clock,true,true,(Qm.getD 0 Qc.z).Held,(Qm.getD 0 Qc.z).Base,(Qm.getD 0 Qc.z).Log,(Qm.getD 0 Qc.z).Known⟩:Qc)]:List Qc)
abbrev Qf.q6 (Xz:Int) (a0:List Qp):List AV:=[.i 1,.i (IntKind.wrap .i64 (Xz+1)),.i ((a0.getD Xz.toNat Qp.z).Kind),.d (We true ((a0.getD Xz.toNat Qp.z).Pairs)),.i (((a0.getD Xz.toNat Qp.z).Over).Lo),.i (((a0.getD Xz.toNat Qp.z).Over).Hi),.i ((a0.getD Xz.toNat Qp.z).Old)]
abbrev Qf.q7 (v2:Int):=([(⟨2,(⟨0,IntKind.wrap .i64 (1+v2)⟩:Qb),0⟩:Qi),(⟨3,(⟨IntKind.wrap .i64 (1+v2),4096⟩:Qb),0⟩:Qi)]:List Qi)
abbrev Qf.q8:=([(⟨4,(⟨0,4096⟩:Qb),0⟩:Qi)]:List Qi)
abbrev Qf.q9 (Qbb:Int) (Qbc:Int) (Qbd:Int) (Qau:Int) (Qa7:List Qh) (Qa8:List Qa) (Qa9:List Qe) (Qah:List Qg):List AV:=[.i Qbb,.i Qbc,.i Qbd,.i Qau,.b true,.b true,.d (.sl true Qa7.length (vec Qh.e Qh.z Qa7)),.d (.sl true Qa8.length (vec Qa.e Qa.z Qa8)),.d (.sl true Qa9.length (vec Qe.e Qe.z Qa9)),.d (.sl true Qah.length (vec Qg.e Qg.z Qah))]
end
end Go.SyP
