/- Certificates, printed by gen.py. -/
import Derived.Test.YticmlllaimjdcaaGreatG15zLCp0
set_option linter.unusedVariables false
set_option linter.unusedSimpArgs false
namespace Go.SyP
open Go Go.Sy Go.Proofs
noncomputable section
abbrev Qj.p0:List (Nat × AV):=[(1,.ptr 0 0 0 0),(2,.ptr 1 0 0 0),(3,.ptr 2 0 0 0)]
theorem Qj.Qy (a0:Qm) {r:Ql} (H:Qj a0=some r):Xz Tryz.prog 33 [] [.d (Qe9 a0)] [] (.d (Qhf r)):=by
 refine Xj Tryz.func33 rfl (nt:=131) rfl (lb rfl) fun X hP h0 hX=>?_
 have hT:Xb X.P T:=hP▸tok
 have hf:X.P.funcs[33]? = some Tryz.f33:=hP▸Tryz.func33
 refine Xl hT 6 (K33 11 0) ⟨131,[(1,.ptr 0 0 0 0),(2,.ptr 1 0 0 0)],[.box 44 (Jd a0),.box 74 (Qj.q1)]⟩ ?_
 obtain ⟨v1,h1,H⟩:=ibC H
 refine Qdv (nt:=131) (hP▸mixed) 15 [14] [1,2] [(1,.ptr 0 0 0 0),(2,.ptr 1 0 0 0)] (sm [.ptr 0 0 0 0,.i a0.ID,.ptr 0 0 0 1,.d (Qhd a0.Keys),.ptr 0 0 0 3,.i a0.Clock,.ptr 0 0 0 4,.b a0.Qa1,.ptr 0 0 0 5,.b a0.Qag,.ptr 0 0 0 7,.d (Yi true a0.Base),.d (Yg true v1),.d (.agg [.i a0.ID,.i a0.Keys.Lo,.i a0.Keys.Hi,.i a0.Clock,.b a0.Qa1,.b a0.Qag,.ns,Yg true v1,.ns,.ns]),.ptr 2 0 0 0]) [[.box 44 (Jd a0),.box 74 (Qj.q1)],[.box 44 (Jd a0),.box 74 (Qj.q1),.box 74 (Qj.q1)]] (by kernel_rfl) (by kernel_rfl) (by kernel_rfl) (by kernel_rfl) ⟨?_,(Qhg hT),?_⟩ ?_
 iterate 2 exact (Qgz (Xa (Qfc (Xa (Xa (Xa (Xa (Xa (Xa (Xa (Xa (Xa (Xa (Xa (Xa Qi6 hT) hT) hT) hT) hT) hT) hT) hT) hT) hT) hT) hT) (fun R rest h=>Zl (Zk:=[.d (Yi true a0.Base)]) (dst:=some 21) hP Qv9 (Xz.Wl7 (Jl.Qy (t0:=true) a0.Base h1)) (by kernel_rfl) (.cons (Wj _) .nil) (by kernel_rfl) h)) hT))
 refine Xl hT 9 (K33 111010 0) ⟨131,(Qj.p0++[(4,.i 0)]),[.box 44 (Jd a0),.box 74 (Qj.q1),.box 74 [.i a0.ID,.i a0.Keys.Lo,.i a0.Keys.Hi,.i a0.Clock,.b a0.Qa1,.b a0.Qag,.ns,.d (Yg true v1),.ns,.ns]]⟩ ?_
 refine Qjc (tb:=74) (cs:=[.i a0.ID,.i a0.Keys.Lo,.i a0.Keys.Hi,.i a0.Clock,.b a0.Qa1,.b a0.Qag,.ns,.d (Yg true v1),.ns,.ns]) 2 6 10 121 (vec Qz.e Qz.z []) (st':=⟨131,(Qj.p0++[(4,.i 0)]),[.box 44 (Jd a0),.box 74 (Qj.q1),.box 74 [.i a0.ID,.i a0.Keys.Lo,.i a0.Keys.Hi,.i a0.Clock,.b a0.Qa1,.b a0.Qag,.own 3 10 0 0,.d (Yg true v1),.ns,.ns],Qcy ([]:List Qz)]⟩) (by kernel_rfl) (by kernel_rfl) ?_
 have L:∀ n,(∀ (Wy:Int) (Zx:List Qz),iter (Qj.step a0 v1) n (.l1 Wy Zx)=some r->AK X 33 ((K33 111010 0)) (Yc X [] (.d (Qhf r))) ⟨131,(Qj.p0++[(4,.i Wy)]),[.box 44 (Jd a0),.box 74 (Qj.q1),.box 74 (Qj.q6 a0 Zx v1),Qcy Zx]⟩)/\(∀ (Jv:Int) (Jn:List Qz) (Qdg:List Qd),iter (Qj.step a0 v1) n (.l2 Jv Jn Qdg)=some r->AK X 33 ((K33 1111010 0)) (Yc X [] (.d (Qhf r))) ⟨131,(Qj.p0++[(7,.i Jv)]),[.box 44 (Jd a0),.box 74 (Qj.q1),.box 74 (Qj.q7 a0 Jn v1 Qdg),Qcy Jn,Jq Qdg]⟩)/\(∀ (v2:Xe) (Qc7:Int) (Wn:Int) (Qcg:List Qz) (Qbz:Int) (Qb0:Bool) (Qbq:List Yh),iter (Qj.step a0 v1) n (.l3 v2 Qc7 Wn Qcg Qbz Qb0 Qbq)=some r->AK X 33 ((K33 11101001001010 0)) (Yc X [] (.d (Qhf r))) ⟨131,(Qj.p0++[(4,.i Qc7),(5,.ptr 4 0 0 0),(6,.i Wn)]),[.box 44 (Jd a0),.box 74 (Qj.q1),.box 74 (Qj.q2 a0 Qcg v1),Qcy Qcg,.box 121 (Qj.q4 v2 Qbz Qb0 Qbq),Qly Qbq]⟩)/\(∀ (Qeg:Int) (Qb8:List Qz) (Qb9:List Qd) (Qbw:List Wh),iter (Qj.step a0 v1) n (.l4 Qeg Qb8 Qb9 Qbw)=some r->AK X 33 ((K33 11111010 0)) (Yc X [] (.d (Qhf r))) ⟨131,(Qj.p0++[(8,.i Qeg)]),[.box 44 (Jd a0),.box 74 (Qj.q1),.box 74 (Qj.q3 a0 Qb8 v1 Qb9 Qbw),Qcy Qb8,Jq Qb9,Qm4 Qbw]⟩):=by
  intro n
  induction n with
  | zero=>exact ⟨fun _ _ H=>Qal H,fun _ _ _ H=>Qal H,fun _ _ _ _ _ _ _ H=>Qal H,fun _ _ _ _ H=>Qal H⟩
  | succ n ih=>
   refine ⟨?_, ?_, ?_, ?_⟩
   ·intro Wy Zx H
    refine qI ?_
    rcases sB H with ⟨c2,H⟩ | ⟨c2,H⟩
    ·refine qB hT 9 (decide_eq_true c2) ?_
     refine qE hT 5 (K33 1110100100 0) (Qj.s4 Wy a0 Zx v1) ?_
     obtain ⟨h3,H⟩:=sC H
     obtain ⟨v2,h4,H⟩:=sbC H
     refine Qdv (nt:=131) (hP▸mixed) 21 [20] [1,2,3,4] [(1,.ptr 0 0 0 0),(2,.ptr 1 0 0 0),(3,.ptr 2 0 0 0),(4,.i Wy)] (sm [.ptr 0 0 0 6,.d (Qfa true a0.Held),.i Wy,.d (Qqr true a0.Held Wy.toNat 0),.d (Qqr true a0.Held Wy.toNat 0),.d (Qb5 ((a0.Held.getD Wy.toNat Qr.z).M)),.d (Qe0 v2),.ptr 0 0 0 6,.d (Qfa true a0.Held),.i Wy,.d (Qqr true a0.Held Wy.toNat 0),.d (Qqr true a0.Held Wy.toNat 7),.i ((a0.Held.getD Wy.toNat Qr.z).Time),.ptr 0 0 0 6,.d (Qfa true a0.Held),.i Wy,.d (Qqr true a0.Held Wy.toNat 0),.d (Qqr true a0.Held Wy.toNat 8),.b ((a0.Held.getD Wy.toNat Qr.z).Qcq),.d (.agg [.i v2.Client,.i v2.Seq,.i v2.Kind,Yg true v2.Pairs,.i v2.Over.Lo,.i v2.Over.Hi,.i v2.Old,.i ((a0.Held.getD Wy.toNat Qr.z).Time),.b ((a0.Held.getD Wy.toNat Qr.z).Qcq),.ns]),.ptr 4 0 0 0]) [[.box 44 (Jd a0),.box 74 (Qj.q1),.box 74 (Qj.q6 a0 Zx v1),Qcy Zx],[.box 44 (Jd a0),.box 74 (Qj.q1),.box 74 (Qj.q6 a0 Zx v1),Qcy Zx,.box 121 [.i 0,.i 0,.i 0,.ns,.i 0,.i 0,.i 0,.i 0,.b false,.ns]]] (by kernel_rfl) (by kernel_rfl) (by kernel_rfl) (by kernel_rfl) ⟨?_,(Qhg hT),?_⟩ ?_
     iterate 2 exact (Qgz (Xa (Xa (Xa (Qfc (Xa (Xa (Xa (Xa (Xa (Qfc (Xa (Xa (Xa (Qfc (Xa (Xa (Qfc (Xa (Xa (Xa Qi6 hT) hT) hT) (fun R rest h=>Yf hT (i:=Wy) (n:=(a0.Held.length:Int)) h3.1 h3.2 (by kernel_rfl) h)) hT) hT) (fun R rest h=>Zl (Zk:=[.d (Qb5 ((a0.Held.getD Wy.toNat Qr.z).M))]) (dst:=some 36) hP Qqw (Xg.Qy ((a0.Held.getD Wy.toNat Qr.z).M) h4) (by kernel_rfl) (.cons (Wj _) .nil) (by kernel_rfl) h)) hT) hT) hT) (fun R rest h=>Yf hT (i:=Wy) (n:=(a0.Held.length:Int)) h3.1 h3.2 (by kernel_rfl) h)) hT) hT) hT) hT) hT) (fun R rest h=>Yf hT (i:=Wy) (n:=(a0.Held.length:Int)) h3.1 h3.2 (by kernel_rfl) h)) hT) hT) hT))
     refine Xl hT 9 (K33 11101001001010 0) ⟨131,(Qj.p0++[(4,.i Wy),(5,.ptr 4 0 0 0),(6,.i 0)]),[.box 44 (Jd a0),.box 74 (Qj.q1),.box 74 (Qj.q6 a0 Zx v1),Qcy Zx,.box 121 [.i v2.Client,.i v2.Seq,.i v2.Kind,.d (Yg true v2.Pairs),.i v2.Over.Lo,.i v2.Over.Hi,.i v2.Old,.i ((a0.Held.getD Wy.toNat Qr.z).Time),.b ((a0.Held.getD Wy.toNat Qr.z).Qcq),.ns]]⟩ ?_
     refine Qjc (tb:=121) (cs:=[.i v2.Client,.i v2.Seq,.i v2.Kind,.d (Yg true v2.Pairs),.i v2.Over.Lo,.i v2.Over.Hi,.i v2.Old,.i ((a0.Held.getD Wy.toNat Qr.z).Time),.b ((a0.Held.getD Wy.toNat Qr.z).Qcq),.ns]) 4 9 2 123 (vec Yh.e Yh.z []) (st':=⟨131,(Qj.p0++[(4,.i Wy),(5,.ptr 4 0 0 0),(6,.i 0)]),[.box 44 (Jd a0),.box 74 (Qj.q1),.box 74 (Qj.q6 a0 Zx v1),Qcy Zx,.box 121 [.i v2.Client,.i v2.Seq,.i v2.Kind,.d (Yg true v2.Pairs),.i v2.Over.Lo,.i v2.Over.Hi,.i v2.Old,.i ((a0.Held.getD Wy.toNat Qr.z).Time),.b ((a0.Held.getD Wy.toNat Qr.z).Qcq),.own 5 2 0 0],Qly ([]:List Yh)]⟩) (by kernel_rfl) (by kernel_rfl) ?_
     refine Qg4 [0,1,2,3,4,5] ⟨131,(Qj.p0++[(4,.i Wy),(5,.ptr 4 0 0 0),(6,.i 0)]),[.box 44 (Jd a0),.box 74 (Qj.q1),.box 74 (Qj.q6 a0 Zx v1),Qcy Zx,.box 121 [.i v2.Client,.i v2.Seq,.i v2.Kind,.d (Yg true v2.Pairs),.i v2.Over.Lo,.i v2.Over.Hi,.i v2.Old,.i ((a0.Held.getD Wy.toNat Qr.z).Time),.b ((a0.Held.getD Wy.toNat Qr.z).Qcq),.own 5 2 0 ([]:List Yh).length],Qly ([]:List Yh)]⟩ h0 ?_
     exact ih.2.2.1 v2 Wy 0 Zx ((a0.Held.getD Wy.toNat Qr.z).Time) ((a0.Held.getD Wy.toNat Qr.z).Qcq) ([]:List Yh) H
    refine qB hT 9 (decide_eq_false c2) ?_
    refine qE hT 9 (K33 1111010 0) ⟨131,(Qj.p0++[(7,.i 0)]),[.box 44 (Jd a0),.box 74 (Qj.q1),.box 74 (Qj.q6 a0 Zx v1),Qcy Zx]⟩ ?_
    refine Qjc (tb:=74) (cs:=[.i a0.ID,.i a0.Keys.Lo,.i a0.Keys.Hi,.i a0.Clock,.b a0.Qa1,.b a0.Qag,.own 3 10 0 Zx.length,.d (Yg true v1),.ns,.ns]) 2 8 9 78 (vec Qd.e Qd.z []) (st':=⟨131,(Qj.p0++[(7,.i 0)]),[.box 44 (Jd a0),.box 74 (Qj.q1),.box 74 [.i a0.ID,.i a0.Keys.Lo,.i a0.Keys.Hi,.i a0.Clock,.b a0.Qa1,.b a0.Qag,.own 3 10 0 Zx.length,.d (Yg true v1),.own 4 9 0 0,.ns],Qcy Zx,Jq ([]:List Qd)]⟩) (by kernel_rfl) (by kernel_rfl) ?_
    refine Qg4 [0,1,2,3,4] ⟨131,(Qj.p0++[(7,.i 0)]),[.box 44 (Jd a0),.box 74 (Qj.q1),.box 74 [.i a0.ID,.i a0.Keys.Lo,.i a0.Keys.Hi,.i a0.Clock,.b a0.Qa1,.b a0.Qag,.own 3 10 0 Zx.length,.d (Yg true v1),.own 4 9 0 ([]:List Qd).length,.ns],Qcy Zx,Jq ([]:List Qd)]⟩ h0 ?_
    exact ih.2.1 0 Zx ([]:List Qd) H
   ·intro Jv Jn Qdg H
    refine qI ?_
    rcases sB H with ⟨c5,H⟩ | ⟨c5,H⟩
    ·refine qB hT 9 (decide_eq_true c5) ?_
     refine qE hT 4 (K33 1111010010 0) (Qj.s3 Jv a0 Jn v1 Qdg) ?_
     obtain ⟨h6,H⟩:=sC H
     obtain ⟨v3,h7,H⟩:=sbC H
     refine Qdv (nt:=131) (hP▸mixed) 23 [22] [1,2,3,7] [(1,.ptr 0 0 0 0),(2,.ptr 1 0 0 0),(3,.ptr 2 0 0 0),(7,.i Jv)] (sm [.ptr 2 0 0 8,.own 4 9 0 Qdg.length,.ptr 0 0 0 8,.d (Qbg true a0.Log),.i Jv,.d (Qh0 true a0.Log Jv.toNat 0),.d (Qh0 true a0.Log Jv.toNat 0),.d (Qb5 ((a0.Log.getD Jv.toNat Qc.z).M)),.d (Qe0 v3),.ptr 0 0 0 8,.d (Qbg true a0.Log),.i Jv,.d (Qh0 true a0.Log Jv.toNat 0),.d (Qh0 true a0.Log Jv.toNat 7),.i ((a0.Log.getD Jv.toNat Qc.z).Time),.ptr 0 0 0 8,.d (Qbg true a0.Log),.i Jv,.d (Qh0 true a0.Log Jv.toNat 0),.d (Qh0 true a0.Log Jv.toNat 8),.b ((a0.Log.getD Jv.toNat Qc.z).Zw),.d (.agg [.i v3.Client,.i v3.Seq,.i v3.Kind,Yg true v3.Pairs,.i v3.Over.Lo,.i v3.Over.Hi,.i v3.Old,.i ((a0.Log.getD Jv.toNat Qc.z).Time),.b ((a0.Log.getD Jv.toNat Qc.z).Zw)]),.own 5 9 0 1]) [[.box 44 (Jd a0),.box 74 (Qj.q1),.box 74 (Qj.q7 a0 Jn v1 Qdg),Qcy Jn,Jq Qdg],[.box 44 (Jd a0),.box 74 (Qj.q1),.box 74 (Qj.q7 a0 Jn v1 Qdg),Qcy Jn,Jq Qdg,.flat false 9 78 1 (fun j=>[[.i v3.Client,.i v3.Seq,.i v3.Kind,Yg true v3.Pairs,.i v3.Over.Lo,.i v3.Over.Hi,.i v3.Old,.i ((a0.Log.getD Jv.toNat Qc.z).Time),.b ((a0.Log.getD Jv.toNat Qc.z).Zw)]].getD j [])]] (by kernel_rfl) (by kernel_rfl) (by kernel_rfl) (by kernel_rfl) ⟨?_,(Qhg hT),?_⟩ ?_
     iterate 2 exact (Qgz (Xa (Xa (Xa (Qfc (Xa (Xa (Xa (Xa (Xa (Qfc (Xa (Xa (Xa (Qfc (Xa (Xa (Qfc (Xa (Xa (Xa (Xa (Xa Qi6 hT) hT) hT) hT) hT) (fun R rest h=>Yf hT (i:=Jv) (n:=(a0.Log.length:Int)) h6.1 h6.2 (by kernel_rfl) h)) hT) hT) (fun R rest h=>Zl (Zk:=[.d (Qb5 ((a0.Log.getD Jv.toNat Qc.z).M))]) (dst:=some 96) hP Qqw (Xg.Qy ((a0.Log.getD Jv.toNat Qc.z).M) h7) (by kernel_rfl) (.cons (Wj _) .nil) (by kernel_rfl) h)) hT) hT) hT) (fun R rest h=>Yf hT (i:=Jv) (n:=(a0.Log.length:Int)) h6.1 h6.2 (by kernel_rfl) h)) hT) hT) hT) hT) hT) (fun R rest h=>Yf hT (i:=Jv) (n:=(a0.Log.length:Int)) h6.1 h6.2 (by kernel_rfl) h)) hT) hT) hT))
     refine Xl hT 0 (K33 11110100100 23) ⟨131,(Qj.p0++[(7,.i Jv),(89,.own 4 9 0 Qdg.length),(110,.own 5 9 0 1)]),[.box 44 (Jd a0),.box 74 (Qj.q1),.box 74 (Qj.q7 a0 Jn v1 Qdg),Qcy Jn,Jq Qdg,.flat false 9 78 1 (fun j=>[[.i v3.Client,.i v3.Seq,.i v3.Kind,Yg true v3.Pairs,.i v3.Over.Lo,.i v3.Over.Hi,.i v3.Old,.i ((a0.Log.getD Jv.toNat Qc.z).Time),.b ((a0.Log.getD Jv.toNat Qc.z).Zw)]].getD j [])]⟩ ?_
     obtain ⟨h8,H⟩:=sC H
     refine Qcj (id:=4) (kk:=9) (by':=88) (t:=29) (e:=78) (z:=[.int .i64 0,.int .i64 0,.int .i64 0,.slice none 0 0,.int .i64 0,.int .i64 0,.int .i64 0,.int .i64 0,.bool false]) (dst:=some 111) (id2:=5) (e2:=78) (fz:=false) (k':=(K33 11110100100 24)) hT Qd.e Qd.z Qdg (Qj.q9 v3 a0 Jv) [1,2,3,7,111] (by kernel_rfl) (by kernel_rfl) (by kernel_rfl) (by kernel_rfl) (by kernel_rfl) (by kernel_rfl) (by kernel_rfl) h8 (by omega) (st':=⟨131,(Qj.p0++[(7,.i Jv),(111,.own 6 9 0 ((Qdg ++ [(Qj.q9 v3 a0 Jv)]).length))]),[.box 44 (Jd a0),.box 74 (Qj.q1),.box 74 (Qj.q7 a0 Jn v1 Qdg),Qcy Jn,.gone,.flat false 9 78 1 (fun j=>[[.i v3.Client,.i v3.Seq,.i v3.Kind,Yg true v3.Pairs,.i v3.Over.Lo,.i v3.Over.Hi,.i v3.Old,.i ((a0.Log.getD Jv.toNat Qc.z).Time),.b ((a0.Log.getD Jv.toNat Qc.z).Zw)]].getD j []),Jq (Qdg ++ [(Qj.q9 v3 a0 Jv)])]⟩) (by kernel_rfl) ?_
     exact Yp hT 10 _ [0,1,2,3,6] _ h0 (ih.2.1 (IntKind.wrap .i64 (Jv+1)) Jn (Qdg ++ [(Qj.q9 v3 a0 Jv)]) H)
    refine qB hT 9 (decide_eq_false c5) ?_
    refine qE hT 9 (K33 11111010 0) ⟨131,(Qj.p0++[(8,.i 0)]),[.box 44 (Jd a0),.box 74 (Qj.q1),.box 74 (Qj.q7 a0 Jn v1 Qdg),Qcy Jn,Jq Qdg]⟩ ?_
    refine Qjc (tb:=74) (cs:=[.i a0.ID,.i a0.Keys.Lo,.i a0.Keys.Hi,.i a0.Clock,.b a0.Qa1,.b a0.Qag,.own 3 10 0 Jn.length,.d (Yg true v1),.own 4 9 0 Qdg.length,.ns]) 2 9 4 90 (vec Wh.e Wh.z []) (st':=⟨131,(Qj.p0++[(8,.i 0)]),[.box 44 (Jd a0),.box 74 (Qj.q1),.box 74 [.i a0.ID,.i a0.Keys.Lo,.i a0.Keys.Hi,.i a0.Clock,.b a0.Qa1,.b a0.Qag,.own 3 10 0 Jn.length,.d (Yg true v1),.own 4 9 0 Qdg.length,.own 5 4 0 0],Qcy Jn,Jq Qdg,Qm4 ([]:List Wh)]⟩) (by kernel_rfl) (by kernel_rfl) ?_
    refine Qg4 [0,1,2,3,4,5] ⟨131,(Qj.p0++[(8,.i 0)]),[.box 44 (Jd a0),.box 74 (Qj.q1),.box 74 [.i a0.ID,.i a0.Keys.Lo,.i a0.Keys.Hi,.i a0.Clock,.b a0.Qa1,.b a0.Qag,.own 3 10 0 Jn.length,.d (Yg true v1),.own 4 9 0 Qdg.length,.own 5 4 0 ([]:List Wh).length],Qcy Jn,Jq Qdg,Qm4 ([]:List Wh)]⟩ h0 ?_
    exact ih.2.2.2 0 Jn Qdg ([]:List Wh) H
   ·intro v2 Qc7 Wn Qcg Qbz Qb0 Qbq H
    refine qI ?_
    obtain ⟨h9,H⟩:=sC H
    refine qX hT 7 h9 ?_
    refine qE hT 5 (K33 1110100100101000 1) ⟨131,(Qj.p0++[(4,.i Qc7),(5,.ptr 4 0 0 0),(6,.i Wn),(58,.b (decide (Wn < (((a0.Held.getD Qc7.toNat Qr.z).Qdk).length:Int))))]),[.box 44 (Jd a0),.box 74 (Qj.q1),.box 74 (Qj.q2 a0 Qcg v1),Qcy Qcg,.box 121 (Qj.q4 v2 Qbz Qb0 Qbq),Qly Qbq]⟩ ?_
    refine qI ?_
    rcases sB H with ⟨c10,H⟩ | ⟨c10,H⟩
    ·refine qB hT 0 (decide_eq_true c10) ?_
     refine qE hT 4 (K33 11101001001010010 0) (Qj.s1 Qc7 Wn a0 Qcg v1 v2 Qbz Qb0 Qbq) ?_
     obtain ⟨h12,H⟩:=sC H
     refine Qdv (nt:=131) (hP▸mixed) 12 [11] [1,2,3,4,5,6] [(1,.ptr 0 0 0 0),(2,.ptr 1 0 0 0),(3,.ptr 2 0 0 0),(4,.i Qc7),(5,.ptr 4 0 0 0),(6,.i Wn)] (sm [.ptr 4 0 0 9,.own 5 2 0 Qbq.length,.ptr 0 0 0 6,.d (Qfa true a0.Held),.i Qc7,.d (Qqr true a0.Held Qc7.toNat 0),.d (Qqr true a0.Held Qc7.toNat 9),.d (Wjx true ((a0.Held.getD Qc7.toNat Qr.z).Qdk)),.i Wn,.d (Wmh true ((a0.Held.getD Qc7.toNat Qr.z).Qdk) Wn.toNat 0),.d (Wmg (((a0.Held.getD Qc7.toNat Qr.z).Qdk).getD Wn.toNat Qbb.z)),.own 6 2 0 1]) [[.box 44 (Jd a0),.box 74 (Qj.q1),.box 74 (Qj.q2 a0 Qcg v1),Qcy Qcg,.box 121 (Qj.q4 v2 Qbz Qb0 Qbq),Qly Qbq],[.box 44 (Jd a0),.box 74 (Qj.q1),.box 74 (Qj.q2 a0 Qcg v1),Qcy Qcg,.box 121 (Qj.q4 v2 Qbz Qb0 Qbq),Qly Qbq,.flat false 2 123 1 (fun j=>[Qbb.e (((a0.Held.getD Qc7.toNat Qr.z).Qdk).getD Wn.toNat Qbb.z)].getD j [])]] (by kernel_rfl) (by kernel_rfl) (by kernel_rfl) (by kernel_rfl) ⟨?_,(Qhg hT),?_⟩ ?_
     iterate 2 exact (Qgz (Xa (Qfc (Xa (Xa (Xa (Qfc (Xa (Xa (Xa (Xa (Xa Qi6 hT) hT) hT) hT) hT) (fun R rest h=>Yf hT (i:=Qc7) (n:=(a0.Held.length:Int)) h9.1 h9.2 (by kernel_rfl) h)) hT) hT) hT) (fun R rest h=>Yf hT (i:=Wn) (n:=(((a0.Held.getD Qc7.toNat Qr.z).Qdk).length:Int)) h12.1 h12.2 (by kernel_rfl) h)) hT))
     refine Xl hT 0 (K33 111010010010100100 12) ⟨131,(Qj.p0++[(4,.i Qc7),(5,.ptr 4 0 0 0),(6,.i Wn),(62,.own 5 2 0 Qbq.length),(72,.own 6 2 0 1)]),[.box 44 (Jd a0),.box 74 (Qj.q1),.box 74 (Qj.q2 a0 Qcg v1),Qcy Qcg,.box 121 (Qj.q4 v2 Qbz Qb0 Qbq),Qly Qbq,.flat false 2 123 1 (fun j=>[Qbb.e (((a0.Held.getD Qc7.toNat Qr.z).Qdk).getD Wn.toNat Qbb.z)].getD j [])]⟩ ?_
     obtain ⟨h13,H⟩:=sC H
     refine Qcj (id:=5) (kk:=2) (by':=16) (t:=119) (e:=123) (z:=[.int .i64 0,.int .i64 0]) (dst:=some 73) (id2:=6) (e2:=123) (fz:=false) (k':=(K33 111010010010100100 13)) hT Yh.e Yh.z Qbq (Qj.q8 a0 Qc7 Wn) [1,2,3,4,5,6,73] (by kernel_rfl) (by kernel_rfl) (by kernel_rfl) (by kernel_rfl) (by kernel_rfl) (by kernel_rfl) (by kernel_rfl) h13 (by omega) (st':=⟨131,(Qj.p0++[(4,.i Qc7),(5,.ptr 4 0 0 0),(6,.i Wn),(73,.own 7 2 0 ((Qbq ++ [(Qj.q8 a0 Qc7 Wn)]).length))]),[.box 44 (Jd a0),.box 74 (Qj.q1),.box 74 (Qj.q2 a0 Qcg v1),Qcy Qcg,.box 121 (Qj.q4 v2 Qbz Qb0 Qbq),.gone,.flat false 2 123 1 (fun j=>[Qbb.e (((a0.Held.getD Qc7.toNat Qr.z).Qdk).getD Wn.toNat Qbb.z)].getD j []),Qly (Qbq ++ [(Qj.q8 a0 Qc7 Wn)])]⟩) (by kernel_rfl) ?_
     exact Yp hT 10 _ [0,1,2,3,4,7] _ h0 (ih.2.2.1 v2 Qc7 (IntKind.wrap .i64 (Wn+1)) Qcg Qbz Qb0 (Qbq ++ [(Qj.q8 a0 Qc7 Wn)]) H)
    refine qB hT 0 (decide_eq_false c10) ?_
    refine qE hT 6 (K33 111010010011 3) ⟨131,(Qj.p0++[(4,.i Qc7),(76,.own 3 10 0 Qcg.length),(77,.agg [.i v2.Client,.i v2.Seq,.i v2.Kind,.d (Yg true v2.Pairs),.i v2.Over.Lo,.i v2.Over.Hi,.i v2.Old,.i Qbz,.b Qb0,.own 5 2 0 Qbq.length])]),[.box 44 (Jd a0),.box 74 (Qj.q1),.box 74 (Qj.q2 a0 Qcg v1),Qcy Qcg,.box 121 (Qj.q4 v2 Qbz Qb0 Qbq),Qly Qbq]⟩ ?_
    refine Qen 5 (kk:=2) (n:=Qbq.length) (ty:=123) (g:=vec Yh.e Yh.z Qbq) (by kernel_rfl) (st':=⟨131,(Qj.p0++[(4,.i Qc7),(76,.own 3 10 0 Qcg.length),(77,.agg [.i v2.Client,.i v2.Seq,.i v2.Kind,.d (Yg true v2.Pairs),.i v2.Over.Lo,.i v2.Over.Hi,.i v2.Old,.i Qbz,.b Qb0,.own 5 2 0 Qbq.length])]),[.box 44 (Jd a0),.box 74 (Qj.q1),.box 74 (Qj.q2 a0 Qcg v1),Qcy Qcg,.box 121 (Qj.q4 v2 Qbz Qb0 Qbq),Qxg Qbq]⟩) (by kernel_rfl) ?_
    refine Qg3 (av:=.agg [.i v2.Client,.i v2.Seq,.i v2.Kind,.d (Yg true v2.Pairs),.i v2.Over.Lo,.i v2.Over.Hi,.i v2.Old,.i Qbz,.b Qb0,.own 5 2 0 Qbq.length]) (y:=.agg [.i v2.Client,.i v2.Seq,.i v2.Kind,Yg true v2.Pairs,.i v2.Over.Lo,.i v2.Over.Hi,.i v2.Old,.i Qbz,.b Qb0,Qpe true Qbq]) [1,2,3,4,76,77] 77 (st':=⟨131,(Qj.p0++[(4,.i Qc7),(76,.own 3 10 0 Qcg.length),(77,.d (.agg [.i v2.Client,.i v2.Seq,.i v2.Kind,Yg true v2.Pairs,.i v2.Over.Lo,.i v2.Over.Hi,.i v2.Old,.i Qbz,.b Qb0,Qpe true Qbq]))]),[.box 44 (Jd a0),.box 74 (Qj.q1),.box 74 (Qj.q2 a0 Qcg v1),Qcy Qcg,.box 121 (Qj.q4 v2 Qbz Qb0 Qbq),Qxg Qbq]⟩) (by kernel_rfl) (.agg (.cons (.d _) (.cons (.d _) (.cons (.d _) (.cons (.d _) (.cons (.d _) (.cons (.d _) (.cons (.d _) (.cons (.d _) (.cons (.d _) (.cons (.own (ty:=123) (k:=2) (by kernel_rfl)) .nil))))))))))) (by kernel_rfl) ?_
    refine Xl hT 1 (K33 111010010011 4) ⟨131,(Qj.p0++[(4,.i Qc7),(76,.own 3 10 0 Qcg.length),(78,.own 6 10 0 1)]),[.box 44 (Jd a0),.box 74 (Qj.q1),.box 74 (Qj.q2 a0 Qcg v1),Qcy Qcg,.box 121 (Qj.q4 v2 Qbz Qb0 Qbq),Qxg Qbq,.flat false 10 121 1 (fun j=>[[.i v2.Client,.i v2.Seq,.i v2.Kind,Yg true v2.Pairs,.i v2.Over.Lo,.i v2.Over.Hi,.i v2.Old,.i Qbz,.b Qb0,Qpe true Qbq]].getD j [])]⟩ ?_
    obtain ⟨h11,H⟩:=sC H
    refine Qcj (id:=3) (kk:=10) (by':=112) (t:=70) (e:=121) (z:=[.int .i64 0,.int .i64 0,.int .i64 0,.slice none 0 0,.int .i64 0,.int .i64 0,.int .i64 0,.int .i64 0,.bool false,.slice none 0 0]) (dst:=some 79) (id2:=6) (e2:=121) (fz:=false) (k':=(K33 111010010011 5)) hT Qz.e Qz.z Qcg (⟨v2,Qbz,Qb0,Qbq⟩:Qz) [1,2,3,4,79] (by kernel_rfl) (by kernel_rfl) (by kernel_rfl) (by kernel_rfl) (by kernel_rfl) (by kernel_rfl) (by kernel_rfl) h11 (by omega) (st':=⟨131,(Qj.p0++[(4,.i Qc7),(79,.own 7 10 0 ((Qcg ++ [(⟨v2,Qbz,Qb0,Qbq⟩:Qz)]).length))]),[.box 44 (Jd a0),.box 74 (Qj.q1),.box 74 (Qj.q2 a0 Qcg v1),.gone,.box 121 (Qj.q4 v2 Qbz Qb0 Qbq),Qxg Qbq,.flat false 10 121 1 (fun j=>[[.i v2.Client,.i v2.Seq,.i v2.Kind,Yg true v2.Pairs,.i v2.Over.Lo,.i v2.Over.Hi,.i v2.Old,.i Qbz,.b Qb0,Qpe true Qbq]].getD j []),Qcy (Qcg ++ [(⟨v2,Qbz,Qb0,Qbq⟩:Qz)])]⟩) (by kernel_rfl) ?_
    exact Yp hT 10 _ [0,1,2,7] _ h0 (ih.1 (IntKind.wrap .i64 (Qc7+1)) (Qcg ++ [(⟨v2,Qbz,Qb0,Qbq⟩:Qz)]) H)
   intro Qeg Qb8 Qb9 Qbw H
   refine qI ?_
   rcases sB H with ⟨c14,H⟩ | ⟨c14,H⟩
   ·refine qB hT 9 (decide_eq_true c14) ?_
    refine qE hT 4 (K33 11111010010 0) (Qj.s2 Qeg a0 Qb8 v1 Qb9 Qbw) ?_
    obtain ⟨h15,H⟩:=sC H
    refine Qdv (nt:=131) (hP▸mixed) 8 [7] [1,2,3,8] [(1,.ptr 0 0 0 0),(2,.ptr 1 0 0 0),(3,.ptr 2 0 0 0),(8,.i Qeg)] (sm [.ptr 2 0 0 9,.own 5 4 0 Qbw.length,.ptr 0 0 0 9,.d (Qej true a0.Qs),.i Qeg,.d (Qlx true a0.Qs Qeg.toNat 0),.d (Qfr (a0.Qs.getD Qeg.toNat Qo.z)),.own 6 4 0 1]) [[.box 44 (Jd a0),.box 74 (Qj.q1),.box 74 (Qj.q3 a0 Qb8 v1 Qb9 Qbw),Qcy Qb8,Jq Qb9,Qm4 Qbw],[.box 44 (Jd a0),.box 74 (Qj.q1),.box 74 (Qj.q3 a0 Qb8 v1 Qb9 Qbw),Qcy Qb8,Jq Qb9,Qm4 Qbw,.flat false 4 90 1 (fun j=>[Qo.e (a0.Qs.getD Qeg.toNat Qo.z)].getD j [])]] (by kernel_rfl) (by kernel_rfl) (by kernel_rfl) (by kernel_rfl) ⟨(Qgz (Xa (Qfc (Xa (Xa (Xa (Xa (Xa Qi6 hT) hT) hT) hT) hT) (fun R rest h=>Yf hT (i:=Qeg) (n:=(a0.Qs.length:Int)) h15.1 h15.2 (by kernel_rfl) h)) hT)),(Qhg hT),(Qgz (Xa (Qfc (Xa (Xa (Xa (Xa (Xa Qi6 hT) hT) hT) hT) hT) (fun R rest h=>Yf hT (i:=Qeg) (n:=(a0.Qs.length:Int)) h15.1 h15.2 (by kernel_rfl) h)) hT))⟩ ?_
    refine Xl hT 0 (K33 111110100100 8) ⟨131,(Qj.p0++[(8,.i Qeg),(121,.own 5 4 0 Qbw.length),(127,.own 6 4 0 1)]),[.box 44 (Jd a0),.box 74 (Qj.q1),.box 74 (Qj.q3 a0 Qb8 v1 Qb9 Qbw),Qcy Qb8,Jq Qb9,Qm4 Qbw,.flat false 4 90 1 (fun j=>[Qo.e (a0.Qs.getD Qeg.toNat Qo.z)].getD j [])]⟩ ?_
    obtain ⟨h16,H⟩:=sC H
    refine Qcj (id:=5) (kk:=4) (by':=32) (t:=72) (e:=90) (z:=[.int .i64 0,.int .i64 0,.int .i64 0,.bool false]) (dst:=some 128) (id2:=6) (e2:=90) (fz:=false) (k':=(K33 111110100100 9)) hT Wh.e Wh.z Qbw (Qj.q5 a0 Qeg) [1,2,3,8,128] (by kernel_rfl) (by kernel_rfl) (by kernel_rfl) (by kernel_rfl) (by kernel_rfl) (by kernel_rfl) (by kernel_rfl) h16 (by omega) (st':=⟨131,(Qj.p0++[(8,.i Qeg),(128,.own 7 4 0 ((Qbw ++ [(Qj.q5 a0 Qeg)]).length))]),[.box 44 (Jd a0),.box 74 (Qj.q1),.box 74 (Qj.q3 a0 Qb8 v1 Qb9 Qbw),Qcy Qb8,Jq Qb9,.gone,.flat false 4 90 1 (fun j=>[Qo.e (a0.Qs.getD Qeg.toNat Qo.z)].getD j []),Qm4 (Qbw ++ [(Qj.q5 a0 Qeg)])]⟩) (by kernel_rfl) ?_
    exact Yp hT 10 _ [0,1,2,3,4,7] _ h0 (ih.2.2.2 (IntKind.wrap .i64 (Qeg+1)) Qb8 Qb9 (Qbw ++ [(Qj.q5 a0 Qeg)]) H)
   refine qB hT 9 (decide_eq_false c14) ?_
   refine qE hT 5 (K33 1111110 1) ⟨131,[(2,.ptr 1 0 0 0),(130,.agg [.i a0.ID,.i a0.Keys.Lo,.i a0.Keys.Hi,.i a0.Clock,.b a0.Qa1,.b a0.Qag,.own 3 10 0 Qb8.length,.d (Yg true v1),.own 4 9 0 Qb9.length,.own 5 4 0 Qbw.length])],[.box 44 (Jd a0),.box 74 (Qj.q1),.box 74 (Qj.q3 a0 Qb8 v1 Qb9 Qbw),Qcy Qb8,Jq Qb9,Qm4 Qbw]⟩ ?_
   refine Qen 3 (kk:=10) (n:=Qb8.length) (ty:=121) (g:=vec Qz.e Qz.z Qb8) (by kernel_rfl) (st':=⟨131,[(2,.ptr 1 0 0 0),(130,.agg [.i a0.ID,.i a0.Keys.Lo,.i a0.Keys.Hi,.i a0.Clock,.b a0.Qa1,.b a0.Qag,.own 3 10 0 Qb8.length,.d (Yg true v1),.own 4 9 0 Qb9.length,.own 5 4 0 Qbw.length])],[.box 44 (Jd a0),.box 74 (Qj.q1),.box 74 (Qj.q3 a0 Qb8 v1 Qb9 Qbw),Qt3 Qb8,Jq Qb9,Qm4 Qbw]⟩) (by kernel_rfl) ?_
   refine Qen 4 (kk:=9) (n:=Qb9.length) (ty:=78) (g:=vec Qd.e Qd.z Qb9) (by kernel_rfl) (st':=⟨131,[(2,.ptr 1 0 0 0),(130,.agg [.i a0.ID,.i a0.Keys.Lo,.i a0.Keys.Hi,.i a0.Clock,.b a0.Qa1,.b a0.Qag,.own 3 10 0 Qb8.length,.d (Yg true v1),.own 4 9 0 Qb9.length,.own 5 4 0 Qbw.length])],[.box 44 (Jd a0),.box 74 (Qj.q1),.box 74 (Qj.q3 a0 Qb8 v1 Qb9 Qbw),Qt3 Qb8,Qte Qb9,Qm4 Qbw]⟩) (by kernel_rfl) ?_
   refine Qen 5 (kk:=4) (n:=Qbw.length) (ty:=90) (g:=vec Wh.e Wh.z Qbw) (by kernel_rfl) (st':=⟨131,[(2,.ptr 1 0 0 0),(130,.agg [.i a0.ID,.i a0.Keys.Lo,.i a0.Keys.Hi,.i a0.Clock,.b a0.Qa1,.b a0.Qag,.own 3 10 0 Qb8.length,.d (Yg true v1),.own 4 9 0 Qb9.length,.own 5 4 0 Qbw.length])],[.box 44 (Jd a0),.box 74 (Qj.q1),.box 74 (Qj.q3 a0 Qb8 v1 Qb9 Qbw),Qt3 Qb8,Qte Qb9,Wig Qbw]⟩) (by kernel_rfl) ?_
   refine Qg3 (av:=.agg [.i a0.ID,.i a0.Keys.Lo,.i a0.Keys.Hi,.i a0.Clock,.b a0.Qa1,.b a0.Qag,.own 3 10 0 Qb8.length,.d (Yg true v1),.own 4 9 0 Qb9.length,.own 5 4 0 Qbw.length]) (y:=.agg [.i a0.ID,.i a0.Keys.Lo,.i a0.Keys.Hi,.i a0.Clock,.b a0.Qa1,.b a0.Qag,Qk3 true Qb8,Yg true v1,Qdy true Qb9,Qhz true Qbw]) [2,130] 130 (st':=⟨131,[(2,.ptr 1 0 0 0),(130,.d (.agg [.i a0.ID,.i a0.Keys.Lo,.i a0.Keys.Hi,.i a0.Clock,.b a0.Qa1,.b a0.Qag,Qk3 true Qb8,Yg true v1,Qdy true Qb9,Qhz true Qbw]))],[.box 44 (Jd a0),.box 74 (Qj.q1),.box 74 (Qj.q3 a0 Qb8 v1 Qb9 Qbw),Qt3 Qb8,Qte Qb9,Wig Qbw]⟩) (by kernel_rfl) (.agg (.cons (.d _) (.cons (.d _) (.cons (.d _) (.cons (.d _) (.cons (.d _) (.cons (.d _) (.cons (.own (ty:=121) (k:=10) (by kernel_rfl)) (.cons (.d _) (.cons (.own (ty:=78) (k:=9) (by kernel_rfl)) (.cons (.own (ty:=90) (k:=4) (by kernel_rfl)) .nil))))))))))) (by kernel_rfl) ?_
   refine Xl hT 2 (K33 111111 1) ⟨131,[(2,.ptr 1 0 0 0)],[.box 44 (Jd a0),.box 74 [.i a0.ID,.i a0.Keys.Lo,.i a0.Keys.Hi,.i a0.Clock,.b a0.Qa1,.b a0.Qag,.d (Qk3 true Qb8),.d (Yg true v1),.d (Qdy true Qb9),.d (Qhz true Qbw)],.box 74 (Qj.q3 a0 Qb8 v1 Qb9 Qbw),Qt3 Qb8,Qte Qb9,Wig Qbw]⟩ ?_
   obtain rfl:=Xr H
   exact Qhw hT hf hX (av:=.d (.agg [.i a0.ID,.i a0.Keys.Lo,.i a0.Keys.Hi,.i a0.Clock,.b a0.Qa1,.b a0.Qag,Qk3 true Qb8,Yg true v1,Qdy true Qb9,Qhz true Qbw])) (by kernel_rfl) [] (Qbu (by kernel_rfl)) (by decide) (by rw [h0];rfl) (by kernel_rfl) an (.d (.agg (Ql.nl _)))
 refine Qg4 [0,1,2,3] ⟨131,(Qj.p0++[(4,.i 0)]),[.box 44 (Jd a0),.box 74 (Qj.q1),.box 74 [.i a0.ID,.i a0.Keys.Lo,.i a0.Keys.Hi,.i a0.Clock,.b a0.Qa1,.b a0.Qag,.own 3 10 0 ([]:List Qz).length,.d (Yg true v1),.ns,.ns],Qcy ([]:List Qz)]⟩ h0 ?_
 obtain ⟨n,H⟩:=Qbp H
 exact (L n).1 0 ([]:List Qz) H
theorem Qab.Qy {t0:Bool} (a0:List Qm) {r:List Ql} (H:Qab a0=some r):Xz Tryz.prog 9 [] [.d (Qbn t0 a0)] [Qh1 r] (.own 0 10 0 r.length):=by
 refine Xj Tryz.func9 rfl (nt:=20) rfl (lb rfl) fun X hP h0 hX=>?_
 have hT:Xb X.P T:=hP▸tok
 have hf:X.P.funcs[9]? = some Tryz.f9:=hP▸Tryz.func9
 refine Xl hT 15 (K9 111010 0) ⟨20,[(0,.d (Qbn t0 a0)),(3,.ns),(4,.i 0)],[]⟩ ?_
 refine Qdj [0,3,4] 3 10 74 (vec Ql.e Ql.z []) (st':=⟨20,[(0,.d (Qbn t0 a0)),(3,.own 0 10 0 0),(4,.i 0)],[Qh1 ([]:List Ql)]⟩) (by kernel_rfl) (by kernel_rfl) ?_
 have L:∀ n,(∀ (Wy:Int) (Qx:List Ql),iter (Qab.step a0) n (.l1 Wy Qx)=some r->AK X 9 ((K9 111010 0)) (Yc X [Qh1 r] (.own 0 10 0 r.length)) ⟨20,[(0,.d (Qbn t0 a0)),(3,.own 0 10 0 Qx.length),(4,.i Wy)],[Qh1 Qx]⟩):=by
  intro n
  induction n with
  | zero=>exact fun _ _ H=>Qal H
  | succ n ih=>
   ·intro Wy Qx H
    refine qI ?_
    rcases sB H with ⟨c1,H⟩ | ⟨c1,H⟩
    ·refine qB hT 8 (decide_eq_true c1) ?_
     refine qE hT 8 (K9 1110100100 3) ⟨20,[(0,.d (Qbn t0 a0)),(4,.i Wy),(11,.own 0 10 0 Qx.length),(12,.d (Qbn t0 a0)),(13,.i Wy)],[Qh1 Qx]⟩ ?_
     obtain ⟨h2,H⟩:=sC H
     refine qI ?_
     refine qX hT 0 h2 ?_
     refine qE hT 1 (K9 1110100100 5) ⟨20,[(0,.d (Qbn t0 a0)),(4,.i Wy),(11,.own 0 10 0 Qx.length),(15,.d (Qe9 (a0.getD Wy.toNat Qm.z)))],[Qh1 Qx]⟩ ?_
     obtain ⟨v1,h3,H⟩:=sbC H
     refine qI ?_
     refine qF hT 0 hP Qv4 (Qj.Qy (a0.getD Wy.toNat Qm.z) h3) ?_
     refine qE hT 1 (K9 1110100100 7) ⟨20,[(0,.d (Qbn t0 a0)),(4,.i Wy),(11,.own 0 10 0 Qx.length),(17,.own 1 10 0 1)],[Qh1 Qx,.flat false 10 74 1 (fun j=>[Ql.e v1].getD j [])]⟩ ?_
     obtain ⟨h4,H⟩:=sC H
     refine Qcj (id:=0) (kk:=10) (by':=136) (t:=32) (e:=74) (z:=[.int .i64 0,.int .i64 0,.int .i64 0,.int .i64 0,.bool false,.bool false,.slice none 0 0,.slice none 0 0,.slice none 0 0,.slice none 0 0]) (dst:=some 18) (id2:=1) (e2:=74) (fz:=false) (k':=(K9 1110100100 8)) hT Ql.e Ql.z Qx v1 [0,4,18] (by kernel_rfl) (by kernel_rfl) (by kernel_rfl) (by kernel_rfl) (by kernel_rfl) (by kernel_rfl) (by kernel_rfl) h4 (by omega) (st':=⟨20,[(0,.d (Qbn t0 a0)),(4,.i Wy),(18,.own 2 10 0 ((Qx ++ [v1]).length))],[.gone,.flat false 10 74 1 (fun j=>[Ql.e v1].getD j []),Qh1 (Qx ++ [v1])]⟩) (by kernel_rfl) ?_
     exact Yp hT 9 _ [2] _ h0 (ih (IntKind.wrap .i64 (Wy+1)) (Qx ++ [v1]) H)
    refine qB hT 8 (decide_eq_false c1) ?_
    obtain rfl:=Xr H
    exact qT hT 7 hf hX h0 [0] (ac (Qat Ql.nl) an) (.own _ _ _ _)
 refine Qg4 [0] ⟨20,[(0,.d (Qbn t0 a0)),(3,.own 0 10 0 ([]:List Ql).length),(4,.i 0)],[Qh1 ([]:List Ql)]⟩ h0 ?_
 obtain ⟨n,H⟩:=Qbp H
 exact (L n) 0 ([]:List Ql) H
theorem Zf.Qy (a0:Int) (a1:Int) (a2:Int):Xz Tryz.prog 63 [] [.i a0,.i a1,.i a2] [] (.b (Zf a0 a1 a2)):=by
 obtain ⟨r,H⟩:∃ r,Zf a0 a1 a2=r:=⟨_,rfl⟩
 rw [H]
 refine Xj Tryz.func63 rfl (nt:=15) rfl (lb rfl) fun X hP h0 hX=>?_
 have hT:Xb X.P T:=hP▸tok
 have hf:X.P.funcs[63]? = some Tryz.f63:=hP▸Tryz.func63
 have Xy:∀ (Qh9:Bool),(Zf.j1 Qh9)=r->AK X 63 ((K63 11 1)) (Yc X [] (.b r)) ⟨15,[(6,.b Qh9)],[]⟩:=by
  intro Qh9 H
  obtain rfl:=H
  exact Qc0 hf hX h0 (.b Qh9) [] an (.d (.v _))
 refine qI ?_
 rcases iB H with ⟨c1,H⟩ | ⟨c1,H⟩
 ·refine qB hT 10 (decide_eq_true c1) ?_
  exact qE hT 6 _ _ (Xy (decide (a0<=a2)) H)
 refine qB hT 10 (decide_eq_false c1) ?_
 exact qE hT 6 _ _ (Xy false H)
theorem Qaa.Qy (a0:Qi):Xz Tryz.prog 64 [] [.d (Qpd a0)] [] (.b (Qaa a0)):=by
 obtain ⟨r,H⟩:∃ r,Qaa a0=r:=⟨_,rfl⟩
 rw [H]
 refine Xj Tryz.func64 rfl (nt:=18) rfl (lb rfl) fun X hP h0 hX=>?_
 have hT:Xb X.P T:=hP▸tok
 have hf:X.P.funcs[64]? = some Tryz.f64:=hP▸Tryz.func64
 have Xy:∀ (Qb4:Bool),(Qaa.j1 Qb4)=r->AK X 64 ((K64 11 1)) (Yc X [] (.b r)) ⟨18,[(2,.b Qb4)],[]⟩:=by
  intro Qb4 H
  obtain rfl:=H
  exact Qc0 hf hX h0 (.b Qb4) [] an (.d (.v _))
 refine qI ?_
 rcases iB H with ⟨c1,H⟩ | ⟨c1,H⟩
 ·refine qB hT 11 (decide_eq_true c1) ?_
  refine qE hT 7 (K64 110 11) ⟨18,[(1,.ptr 0 0 0 0),(13,.b (decide (a0.Lo < a0.Hi)))],[.box 69 (Qyb a0)]⟩ ?_
  refine qI ?_
  rcases iB H with ⟨c2,H⟩ | ⟨c2,H⟩
  ·refine qB hT 0 (decide_eq_true c2) ?_
   exact qC hT 6 _ [] _ h0 (Xy (decide (a0.Hi<=4096)) H)
  refine qB hT 0 (decide_eq_false c2) ?_
  exact qC hT 6 _ [] _ h0 (Xy false H)
 refine qB hT 11 (decide_eq_false c1) ?_
 exact qC hT 13 _ [] _ h0 (Xy false H)
theorem Ym.Qy {t0:Bool} (a0:List Qg) {r:Bool} (H:Ym a0=some r):Xz Tryz.prog 65 [] [.d (Yg t0 a0)] [] (.b r):=by
 refine Xj Tryz.func65 rfl (nt:=56) rfl (lb rfl) fun X hP h0 hX=>?_
 have hT:Xb X.P T:=hP▸tok
 have hf:X.P.funcs[65]? = some Tryz.f65:=hP▸Tryz.func65
 refine Xl hT 11 (K65 11010 0) ⟨56,[(0,.d (Yg t0 a0)),(3,.i 0)],[]⟩ ?_
 have L:∀ n,(∀ (Qq:Int),iter (Ym.step a0) n (.l1 Qq)=some r->AK X 65 ((K65 11010 0)) (Yc X [] (.b r)) ⟨56,[(0,.d (Yg t0 a0)),(3,.i Qq)],[]⟩):=by
  intro n
  induction n with
  | zero=>exact fun _ H=>Qal H
  | succ n ih=>
   ·intro Qq H
    refine qI ?_
    rcases sB H with ⟨c1,H⟩ | ⟨c1,H⟩
    ·refine qB hT 8 (decide_eq_true c1) ?_
     refine qE hT 9 (K65 11010010000 2) ⟨56,[(0,.d (Yg t0 a0)),(3,.i Qq),(10,.d (Yg t0 a0)),(11,.i Qq)],[]⟩ ?_
     obtain ⟨h2,H⟩:=sC H
     have Xy:∀ (Qr7:Bool),stk (Ym.j1 a0 Qq Qr7) (iter (Ym.step a0) n)=some r->AK X 65 ((K65 1101001000 1)) (Yc X [] (.b r)) ⟨56,[(0,.d (Yg t0 a0)),(3,.i Qq),(39,.b Qr7)],[]⟩:=by
      intro Qr7 H
      by_cases c6:Qr7=true
      ·replace H:=sT c6 H
       rw [c6]
       refine qI ?_
       obtain rfl:=Xr H
       exact qT hT 5 hf hX h0 [] an (.d (.v _))
      replace H:=sF c6 H
      have Jj2:∀ (Qoa:Bool),stk (Ym.j2 Qq Qoa) (iter (Ym.step a0) n)=some r->AK X 65 ((K65 1101001001 1)) (Yc X [] (.b r)) ⟨56,[(0,.d (Yg t0 a0)),(3,.i Qq),(55,.b Qoa)],[]⟩:=by
       intro Qoa H
       by_cases c9:Qoa=true
       ·replace H:=sT c9 H
        rw [c9]
        refine qI ?_
        obtain rfl:=Xr H
        exact qT hT 5 hf hX h0 [] an (.d (.v _))
       replace H:=sF c9 H
       rw [Jo c9]
       exact Xl hT 9 _ _ (ih (IntKind.wrap .i64 (Qq+1)) H)
      rw [Jo c6]
      refine Xl hT 3 (K65 1101001001 0) ⟨56,[(0,.d (Yg t0 a0)),(3,.i Qq)],[]⟩ ?_
      by_cases c7:Qq > 0
      ·replace H:=sT c7 H
       obtain ⟨h8,H⟩:=sC H
       refine Qak (hP▸mixed) 16 [0,3] (sm [.i Qq,.b true,.b true,.d (Yg t0 a0),.i Qq,.d (Qd5 t0 a0 Qq.toNat 0),.d (Qd5 t0 a0 Qq.toNat 0),.i ((a0.getD Qq.toNat Qg.z).Key),.d (Yg t0 a0),.i Qq,.i (IntKind.wrap .i64 (Qq - 1)),.d (Qd5 t0 a0 ((IntKind.wrap .i64 (Qq - 1)).toNat) 0),.d (Qd5 t0 a0 ((IntKind.wrap .i64 (Qq - 1)).toNat) 0),.i ((a0.getD ((IntKind.wrap .i64 (Qq - 1)).toNat) Qg.z).Key),.b (decide (((a0.getD Qq.toNat Qg.z).Key)<=((a0.getD ((IntKind.wrap .i64 (Qq - 1)).toNat) Qg.z).Key))),.b (decide (((a0.getD Qq.toNat Qg.z).Key)<=((a0.getD ((IntKind.wrap .i64 (Qq - 1)).toNat) Qg.z).Key)))]) (Qe (Qe (Qe (Qe (Jr (Qe (Qe (Qe (Qe (Qe (Jr (Qe (Qe (Qe (opV (Qe op0 hT) hT 41 (.b (decide (Qq > 0))) (.b true) (by rw [decide_eq_true c7]<;>rfl)) hT) hT) hT) (fun R rest h=>Yf hT (i:=Qq) (n:=(a0.length:Int)) h2.1 h2.2 (by kernel_rfl) h)) hT) hT) hT) hT) hT) (fun R rest h=>Yf hT (i:=IntKind.wrap .i64 (Qq - 1)) (n:=(a0.length:Int)) h8.1 h8.2 (by kernel_rfl) h)) hT) hT) hT) hT) ?_
       exact Xl hT 1 _ _ (Jj2 (decide (((a0.getD Qq.toNat Qg.z).Key)<=((a0.getD ((IntKind.wrap .i64 (Qq - 1)).toNat) Qg.z).Key))) H)
      replace H:=sF c7 H
      refine Qak (hP▸mixed) 16 [0,3] (sm [.i Qq,.b false,.b false,.Qn [],.Qn [],.Qn [],.Qn [],.Qn [],.Qn [],.Qn [],.Qn [],.Qn [],.Qn [],.Qn [],.Qn [],.b false]) (Qe (Qe (Qe (Qe (Qe (Qe (Qe (Qe (Qe (Qe (Qe (Qe (Qe (Qe (opV (Qe op0 hT) hT 41 (.b (decide (Qq > 0))) (.b false) (by rw [decide_eq_false c7]<;>rfl)) hT) hT) hT) hT) hT) hT) hT) hT) hT) hT) hT) hT) hT) hT) ?_
      exact Xl hT 1 _ _ (Jj2 false H)
     refine qI ?_
     refine qX hT 0 h2 ?_
     refine qE hT 4 (K65 11010010000 7) ⟨56,[(0,.d (Yg t0 a0)),(3,.i Qq),(16,.b (decide (((a0.getD Qq.toNat Qg.z).Key) < 0)))],[]⟩ ?_
     refine qI ?_
     rcases sB H with ⟨c3,H⟩ | ⟨c3,H⟩
     ·refine qB hT 0 (decide_eq_true c3) ?_
      exact qE hT 24 _ _ (Xy true H)
     refine qB hT 0 (decide_eq_false c3) ?_
     refine qE hT 2 (K65 11010010000 9) ⟨56,[(0,.d (Yg t0 a0)),(3,.i Qq),(16,.b false),(17,.d (Yg t0 a0)),(18,.i Qq)],[]⟩ ?_
     refine qI ?_
     refine qX hT 0 h2 ?_
     refine qE hT 5 (K65 11010010000 15) ⟨56,[(0,.d (Yg t0 a0)),(3,.i Qq),(24,.b (decide (((a0.getD Qq.toNat Qg.z).Key) > 4095)))],[]⟩ ?_
     refine qI ?_
     rcases sB H with ⟨c4,H⟩ | ⟨c4,H⟩
     ·refine qB hT 0 (decide_eq_true c4) ?_
      exact qE hT 16 _ _ (Xy true H)
     refine qB hT 0 (decide_eq_false c4) ?_
     refine qE hT 2 (K65 11010010000 17) ⟨56,[(0,.d (Yg t0 a0)),(3,.i Qq),(24,.b false),(25,.d (Yg t0 a0)),(26,.i Qq)],[]⟩ ?_
     refine qI ?_
     refine qX hT 0 h2 ?_
     refine qE hT 5 (K65 11010010000 23) ⟨56,[(0,.d (Yg t0 a0)),(3,.i Qq),(32,.b (decide (((a0.getD Qq.toNat Qg.z).Val) < (-1099511627776))))],[]⟩ ?_
     refine qI ?_
     rcases sB H with ⟨c5,H⟩ | ⟨c5,H⟩
     ·refine qB hT 0 (decide_eq_true c5) ?_
      exact qE hT 8 _ _ (Xy true H)
     refine qB hT 0 (decide_eq_false c5) ?_
     refine qE hT 2 (K65 11010010000 25) ⟨56,[(0,.d (Yg t0 a0)),(3,.i Qq),(32,.b false),(33,.d (Yg t0 a0)),(34,.i Qq)],[]⟩ ?_
     refine qI ?_
     refine qX hT 0 h2 ?_
     exact qE hT 5 _ _ (Xy (decide (((a0.getD Qq.toNat Qg.z).Val) > 1099511627776)) H)
    refine qB hT 8 (decide_eq_false c1) ?_
    obtain rfl:=Xr H
    exact qT hT 6 hf hX h0 [] an (.d (.v _))
 obtain ⟨n,H⟩:=Qbp H
 exact (L n) 0 H
theorem Qbm.Qy (a0:Int):Xz Tryz.prog 139 [] [.i a0] [] (.b (Qbm a0)):=by
 obtain ⟨r,H⟩:∃ r,Qbm a0=r:=⟨_,rfl⟩
 rw [H]
 refine Xj Tryz.func139 rfl (nt:=9) rfl (lb rfl) fun X hP h0 hX=>?_
 have hT:Xb X.P T:=hP▸tok
 have hf:X.P.funcs[139]? = some Tryz.f139:=hP▸Tryz.func139
 have Xy:∀ (Qb4:Bool),(Qbm.j1 Qb4)=r->AK X 139 ((Wmu 11 1)) (Yc X [] (.b r)) ⟨9,[(2,.b Qb4)],[]⟩:=by
  intro Qb4 H
  obtain rfl:=H
  exact Qc0 hf hX h0 (.b Qb4) [] an (.d (.v _))
 refine qI ?_
 rcases iB H with ⟨c1,H⟩ | ⟨c1,H⟩
 ·refine qB hT 9 (decide_eq_true c1) ?_
  exact qE hT 5 _ _ (Xy (decide (a0<=1099511627776)) H)
 refine qB hT 9 (decide_eq_false c1) ?_
 exact qE hT 5 _ _ (Xy false H)
theorem Yb.Qy {t0:Bool} (a0:List Qg) (a1:Int) (a2:Int) {r:Bool} (H:Yb a0 a1 a2=some r):Xz Tryz.prog 138 [] [.d (Yg t0 a0),.i a1,.i a2] [] (.b r):=by
 refine Xj Tryz.func138 rfl (nt:=47) rfl (lb rfl) fun X hP h0 hX=>?_
 have hT:Xb X.P T:=hP▸tok
 have hf:X.P.funcs[138]? = some Tryz.f138:=hP▸Tryz.func138
 have Xy:∀ (Qjy:Bool),(Yb.j1 a0 Qjy)=some r->AK X 138 ((Qoc 110 1)) (Yc X [] (.b r)) ⟨47,[(0,.d (Yg t0 a0)),(17,.b Qjy)],[]⟩:=by
  intro Qjy H
  by_cases c2:Qjy=true
  ·replace H:=iT c2 H
   rw [c2]
   refine qI ?_
   obtain rfl:=Xr H
   exact qT hT 5 hf hX h0 [] an (.d (.v _))
  replace H:=iF c2 H
  rw [Jo c2]
  refine Xl hT 9 (Qoc 111010 0) ⟨47,[(0,.d (Yg t0 a0)),(7,.i 0)],[]⟩ ?_
  have L:∀ n,(∀ (Ws:Int),iter (Yb.step a0) n (.l1 Ws)=some r->AK X 138 ((Qoc 111010 0)) (Yc X [] (.b r)) ⟨47,[(0,.d (Yg t0 a0)),(7,.i Ws)],[]⟩):=by
   intro n
   induction n with
   | zero=>exact fun _ H=>Qal H
   | succ n ih=>
    ·intro Ws H
     refine qI ?_
     rcases sB H with ⟨c3,H⟩ | ⟨c3,H⟩
     ·refine qB hT 8 (decide_eq_true c3) ?_
      refine qE hT 8 (Qoc 11101001000 2) ⟨47,[(0,.d (Yg t0 a0)),(7,.i Ws),(24,.d (Yg t0 a0)),(25,.i Ws)],[]⟩ ?_
      obtain ⟨h4,H⟩:=sC H
      have Jj2:∀ (Qsh:Bool),stk (Yb.j2 Ws Qsh) (iter (Yb.step a0) n)=some r->AK X 138 ((Qoc 1110100100 1)) (Yc X [] (.b r)) ⟨47,[(0,.d (Yg t0 a0)),(7,.i Ws),(46,.b Qsh)],[]⟩:=by
       intro Qsh H
       by_cases c7:Qsh=true
       ·replace H:=sT c7 H
        rw [c7]
        refine qI ?_
        obtain rfl:=Xr H
        exact qT hT 5 hf hX h0 [] an (.d (.v _))
       replace H:=sF c7 H
       rw [Jo c7]
       exact Xl hT 9 _ _ (ih (IntKind.wrap .i64 (Ws+1)) H)
      refine qI ?_
      refine qX hT 0 h4 ?_
      refine qE hT 4 (Qoc 11101001000 7) ⟨47,[(0,.d (Yg t0 a0)),(7,.i Ws),(30,.b (decide (((a0.getD Ws.toNat Qg.z).Key) < 0)))],[]⟩ ?_
      refine qI ?_
      rcases sB H with ⟨c5,H⟩ | ⟨c5,H⟩
      ·refine qB hT 0 (decide_eq_true c5) ?_
       exact qE hT 17 _ _ (Jj2 true H)
      refine qB hT 0 (decide_eq_false c5) ?_
      refine qE hT 2 (Qoc 11101001000 9) ⟨47,[(0,.d (Yg t0 a0)),(7,.i Ws),(30,.b false),(31,.d (Yg t0 a0)),(32,.i Ws)],[]⟩ ?_
      refine qI ?_
      refine qX hT 0 h4 ?_
      refine qE hT 5 (Qoc 11101001000 15) ⟨47,[(0,.d (Yg t0 a0)),(7,.i Ws),(38,.b (decide (((a0.getD Ws.toNat Qg.z).Key) > 4095)))],[]⟩ ?_
      refine qI ?_
      rcases sB H with ⟨c6,H⟩ | ⟨c6,H⟩
      ·refine qB hT 0 (decide_eq_true c6) ?_
       exact qE hT 9 _ _ (Jj2 true H)
      refine qB hT 0 (decide_eq_false c6) ?_
      refine qE hT 2 (Qoc 11101001000 17) ⟨47,[(0,.d (Yg t0 a0)),(7,.i Ws),(38,.b false),(39,.d (Yg t0 a0)),(40,.i Ws)],[]⟩ ?_
      refine qI ?_
      refine qX hT 0 h4 ?_
      refine qE hT 2 (Qoc 11101001000 20) ⟨47,[(0,.d (Yg t0 a0)),(7,.i Ws),(38,.b false),(43,.i ((a0.getD Ws.toNat Qg.z).Val))],[]⟩ ?_
      refine qI ?_
      refine qF hT 0 hP Qud (Qbm.Qy ((a0.getD Ws.toNat Qg.z).Val)) ?_
      exact qE hT 3 _ _ (Jj2 (!(Qbm ((a0.getD Ws.toNat Qg.z).Val))) H)
     refine qB hT 8 (decide_eq_false c3) ?_
     obtain rfl:=Xr H
     exact qT hT 6 hf hX h0 [] an (.d (.v _))
  obtain ⟨n,H⟩:=Qbp H
  exact (L n) 0 H
 refine qI ?_
 rcases iB H with ⟨c1,H⟩ | ⟨c1,H⟩
 ·refine qB hT 12 (decide_eq_true c1) ?_
  exact qE hT 6 _ _ (Xy true H)
 refine qB hT 12 (decide_eq_false c1) ?_
 exact qE hT 6 _ _ (Xy (decide ((a0.length:Int) > a2)) H)
abbrev Wi.p0:List (Nat × AV):=[(1,.ptr 0 0 0 0)]
theorem Wi.Qy (a0:Xe) {r:Bool} (H:Wi a0=some r):Xz Tryz.prog 103 [] [.d (Qe0 a0)] [] (.b r):=by
 refine Xj Tryz.func103 rfl (nt:=143) rfl (lb rfl) fun X hP h0 hX=>?_
 have hT:Xb X.P T:=hP▸tok
 have hf:X.P.funcs[103]? = some Tryz.f103:=hP▸Tryz.func103
 have Xy:∀ (Qgo:Bool),(Wi.j1 a0 Qgo)=some r->AK X 103 ((Qgu 110 1)) (Yc X [] (.b r)) ⟨143,(Wi.p0++[(21,.b Qgo)]),[.box 76 (Qce a0)]⟩:=by
  intro Qgo H
  by_cases c4:Qgo=true
  ·replace H:=iT c4 H
   rw [c4]
   refine qI ?_
   obtain rfl:=Xr H
   exact qT hT 5 hf hX h0 [] an (.d (.v _))
  replace H:=iF c4 H
  rw [Jo c4]
  refine Xl hT 9 (Qgu 1110 1) ⟨143,(Wi.p0++[(24,.b (a0.Kind == 2))]),[.box 76 (Qce a0)]⟩ ?_
  by_cases c5:a0.Kind=2
  ·replace H:=iT c5 H
   have Jj2:∀ (Qlq:Bool),(Wi.j2 Qlq)=some r->AK X 103 ((Qgu 111010 1)) (Yc X [] (.b r)) ⟨143,[(2,.b Qlq)],[]⟩:=by
    intro Qlq H
    obtain rfl:=Xr H
    exact Qc0 hf hX h0 (.b Qlq) [] an (.d (.v _))
   rw [eqT c5]
   refine Xl hT 8 (Qgu 1110100 5) ⟨143,(Wi.p0++[(29,.b ((a0.Pairs.length:Int) == 0))]),[.box 76 (Qce a0)]⟩ ?_
   by_cases c6:(a0.Pairs.length:Int)=0
   ·replace H:=iT c6 H
    rw [eqT c6]
    refine Xl hT 5 (Qgu 1110100 10) ⟨143,(Wi.p0++[(34,.b (a0.Old == 0))]),[.box 76 (Qce a0)]⟩ ?_
    by_cases c7:a0.Old=0
    ·replace H:=iT c7 H
     rw [eqT c7]
     refine qI ?_
     refine qF hT 2 hP Qnu (Qaa.Qy a0.Over) ?_
     exact qC hT 3 _ [] _ h0 (Jj2 (Qaa a0.Over) H)
    replace H:=iF c7 H
    rw [eqF c7]
    exact Yp hT 6 _ [] _ h0 (Jj2 false H)
   replace H:=iF c6 H
   rw [eqF c6]
   exact Yp hT 11 _ [] _ h0 (Jj2 false H)
  replace H:=iF c5 H
  have Jj3:∀ (Qsn:Bool),(Wi.j3 a0 Qsn)=some r->AK X 103 ((Qgu 11110 1)) (Yc X [] (.b r)) ⟨143,(Wi.p0++[(48,.b Qsn)]),[.box 76 (Qce a0)]⟩:=by
   intro Qsn H
   by_cases c9:Qsn=true
   ·replace H:=iT c9 H
    rw [c9]
    refine qI ?_
    obtain rfl:=Xr H
    exact qT hT 5 hf hX h0 [] an (.d (.v _))
   replace H:=iF c9 H
   rw [Jo c9]
   refine Xl hT 9 (Qgu 111110 1) ⟨143,(Wi.p0++[(51,.b (a0.Kind == 4))]),[.box 76 (Qce a0)]⟩ ?_
   by_cases c10:a0.Kind=4
   ·replace H:=iT c10 H
    rw [eqT c10]
    refine qI ?_
    obtain ⟨v1,h11,H⟩:=ibC H
    have Jj4:∀ (Qia:Bool),(Wi.j4 Qia)=some r->AK X 103 ((Qgu 11111010 1)) (Yc X [] (.b r)) ⟨143,[(2,.b Qia)],[]⟩:=by
     intro Qia H
     obtain rfl:=Xr H
     exact Qc0 hf hX h0 (.b Qia) [] an (.d (.v _))
    refine qF hT 5 hP Qjr (Yb.Qy (t0:=true) a0.Pairs 1 1 h11) ?_
    refine qE hT 1 (Qgu 111110100 4) ⟨143,(Wi.p0++[(55,.b v1)]),[.box 76 (Qce a0)]⟩ ?_
    refine qI ?_
    rcases iB H with ⟨c12,H⟩ | ⟨c12,H⟩
    ·refine qB hT 0 (c12) ?_
     refine qE hT 2 (Qgu 111110100 6) ⟨143,(Wi.p0++[(55,.b true),(57,.i a0.Old)]),[.box 76 (Qce a0)]⟩ ?_
     refine qI ?_
     refine qF hT 0 hP Qud (Qbm.Qy a0.Old) ?_
     refine qE hT 1 (Qgu 111110100 8) ⟨143,(Wi.p0++[(55,.b true),(59,.b (Qbm a0.Old))]),[.box 76 (Qce a0)]⟩ ?_
     refine qI ?_
     rcases iB H with ⟨c13,H⟩ | ⟨c13,H⟩
     ·refine qB hT 0 (c13) ?_
      exact qC hT 7 _ [] _ h0 (Jj4 true H)
     refine qB hT 0 (Jo c13) ?_
     exact qC hT 7 _ [] _ h0 (Jj4 (a0.Old == 1099511627777) H)
    refine qB hT 0 (Jo c12) ?_
    exact qC hT 11 _ [] _ h0 (Jj4 false H)
   replace H:=iF c10 H
   rw [eqF c10]
   refine Xl hT 9 (Qgu 1111110 1) ⟨143,(Wi.p0++[(67,.b (a0.Old != 0))]),[.box 76 (Qce a0)]⟩ ?_
   by_cases c14:a0.Old=0
   ·replace H:=iT c14 H
    rw [neF c14]
    refine Xl hT 9 (Qgu 11111110 1) ⟨143,(Wi.p0++[(70,.b (a0.Kind == 1))]),[.box 76 (Qce a0)]⟩ ?_
    by_cases c15:a0.Kind=1
    ·replace H:=iT c15 H
     rw [eqT c15]
     refine Xl hT 8 (Qgu 1111111010010 0) ⟨143,(Wi.p0++[(3,.i 1)]),[.box 76 (Qce a0)]⟩ ?_
     have L:∀ n,(∀ (Qq:Int),iter (Wi.step a0) n (.l1 Qq)=some r->AK X 103 ((Qgu 1111111010010 0)) (Yc X [] (.b r)) ⟨143,(Wi.p0++[(3,.i Qq)]),[.box 76 (Qce a0)]⟩):=by
      intro n
      induction n with
      | zero=>exact fun _ H=>Qal H
      | succ n ih=>
       ·intro Qq H
        refine qI ?_
        rcases sB H with ⟨c16,H⟩ | ⟨c16,H⟩
        ·refine qB hT 9 (decide_eq_true c16) ?_
         refine qE hT 5 (Qgu 11111110100100100 0) ⟨143,(Wi.p0++[(3,.i Qq)]),[.box 76 (Qce a0)]⟩ ?_
         obtain ⟨h18,H⟩:=sC H
         obtain ⟨h19,H⟩:=sC H
         refine Qak (hP▸mixed) 14 [1,3] (sm [.ptr 0 0 0 3,.d (Yg true a0.Pairs),.i Qq,.i (IntKind.wrap .i64 (Qq - 1)),.d (Qd5 true a0.Pairs ((IntKind.wrap .i64 (Qq - 1)).toNat) 0),.d (Qd5 true a0.Pairs ((IntKind.wrap .i64 (Qq - 1)).toNat) 0),.i ((a0.Pairs.getD ((IntKind.wrap .i64 (Qq - 1)).toNat) Qg.z).Key),.ptr 0 0 0 3,.d (Yg true a0.Pairs),.i Qq,.d (Qd5 true a0.Pairs Qq.toNat 0),.d (Qd5 true a0.Pairs Qq.toNat 0),.i ((a0.Pairs.getD Qq.toNat Qg.z).Key),.b (decide (((a0.Pairs.getD ((IntKind.wrap .i64 (Qq - 1)).toNat) Qg.z).Key)>=((a0.Pairs.getD Qq.toNat Qg.z).Key)))]) (Qe (Qe (Qe (Jr (Qe (Qe (Qe (Qe (Qe (Jr (Qe (Qe (Qe (Qe op0 hT) hT) hT) hT) (fun R rest h=>Yf hT (i:=IntKind.wrap .i64 (Qq - 1)) (n:=(a0.Pairs.length:Int)) h18.1 h18.2 (by kernel_rfl) h)) hT) hT) hT) hT) hT) (fun R rest h=>Yf hT (i:=Qq) (n:=(a0.Pairs.length:Int)) h19.1 h19.2 (by kernel_rfl) h)) hT) hT) hT) ?_
         refine qI ?_
         rcases sB H with ⟨c20,H⟩ | ⟨c20,H⟩
         ·refine qB hT 1 (decide_eq_true c20) ?_
          obtain rfl:=Xr H
          exact qT hT 5 hf hX h0 [] an (.d (.v _))
         refine qB hT 1 (decide_eq_false c20) ?_
         exact qE hT 9 _ _ (ih (IntKind.wrap .i64 (Qq+1)) H)
        refine qB hT 9 (decide_eq_false c16) ?_
        refine qE hT 6 (Qgu 111111101010 2) ⟨143,[(93,.d (Yg true a0.Pairs))],[.box 76 (Qce a0)]⟩ ?_
        obtain ⟨v2,h17,H⟩:=sbC H
        refine qI ?_
        refine qF hT 0 hP Qjr (Yb.Qy (t0:=true) a0.Pairs 1 8 h17) ?_
        obtain rfl:=Xr H
        exact qT hT 2 hf hX h0 [] an (.d (.v _))
     obtain ⟨n,H⟩:=Qbp H
     exact (L n) 1 H
    replace H:=iF c15 H
    rw [eqF c15]
    refine Xl hT 9 (Qgu 111111110 1) ⟨143,(Wi.p0++[(97,.b (a0.Kind == 3))]),[.box 76 (Qce a0)]⟩ ?_
    by_cases c21:a0.Kind=3
    ·replace H:=iT c21 H
     rw [eqT c21]
     refine qI ?_
     obtain ⟨v3,h22,H⟩:=ibC H
     refine qF hT 5 hP Qjr (Yb.Qy (t0:=true) a0.Pairs 1 1 h22) ?_
     obtain rfl:=Xr H
     exact qT hT 2 hf hX h0 [] an (.d (.v _))
    replace H:=iF c21 H
    have Jj5:∀ (Qls:Bool),(Wi.j5 Qls)=some r->AK X 103 ((Qgu 111111111 1)) (Yc X [] (.b r)) ⟨143,[(2,.b Qls)],[]⟩:=by
     intro Qls H
     obtain rfl:=Xr H
     exact Qc0 hf hX h0 (.b Qls) [] an (.d (.v _))
    rw [eqF c21]
    refine Xl hT 3 (Qgu 111111111 0) ⟨143,(Wi.p0),[.box 76 (Qce a0)]⟩ ?_
    by_cases c23:a0.Kind=5
    ·replace H:=iT c23 H
     obtain ⟨v4,h24,H⟩:=ibC H
     by_cases c25:v4=true
     ·replace H:=iT c25 H
      obtain ⟨h26,H⟩:=iC H
      obtain ⟨h27,H⟩:=iC H
      by_cases c28:((a0.Pairs.getD 0 Qg.z).Key)=((a0.Pairs.getD 1 Qg.z).Key)
      ·replace H:=iT c28 H
       refine Qak (hP▸mixed) 32 [1] (sm [.ptr 0 0 0 2,.i a0.Kind,.b true,.b true,.ptr 0 0 0 3,.d (Yg true a0.Pairs),.b true,.b true,.b true,.ptr 0 0 0 3,.d (Yg true a0.Pairs),.d (Qd5 true a0.Pairs 0 0),.d (Qd5 true a0.Pairs 0 0),.i ((a0.Pairs.getD 0 Qg.z).Key),.ptr 0 0 0 3,.d (Yg true a0.Pairs),.d (Qd5 true a0.Pairs 1 0),.d (Qd5 true a0.Pairs 1 0),.i ((a0.Pairs.getD 1 Qg.z).Key),.b false,.b false,.b false,.Qn [],.Qn [],.Qn [],.Qn [],.Qn [],.Qn [],.Qn [],.Qn [],.Qn [],.Qn []]) (Qe (Qe (Qe (Qe (Qe (Qe (Qe (Qe (Qe (Qe (Qe (Qe (opV (Qe (Qe (Jr (Qe (Qe (Qe (Qe (Jr (Qe (Qe (Qe (Qe (Jr (Qe (Qe (Qe (opV (Qe (Qe op0 hT) hT) hT 103 (.b (a0.Kind == 5)) (.b true) (by rw [eqT c23]<;>rfl)) hT) hT) hT) (fun R rest h=>Zl (Zk:=[.d (Yg true a0.Pairs),.i 2,.i 2]) (dst:=some 107) hP Qjr (by have q:=Yb.Qy (t0:=true) a0.Pairs 2 2 h24;rw [c25] at q;exact q) (by kernel_rfl) (.cons (Wj _) (.cons (Wj _) (.cons (Wj _) .nil))) (by kernel_rfl) h)) hT) hT) hT) hT) (fun R rest h=>Yf hT (i:=0) (n:=(a0.Pairs.length:Int)) h26.1 h26.2 (by kernel_rfl) h)) hT) hT) hT) hT) (fun R rest h=>Yf hT (i:=1) (n:=(a0.Pairs.length:Int)) h27.1 h27.2 (by kernel_rfl) h)) hT) hT) hT 120 (.b (((a0.Pairs.getD 0 Qg.z).Key) != ((a0.Pairs.getD 1 Qg.z).Key))) (.b false) (by rw [neF c28]<;>rfl)) hT) hT) hT) hT) hT) hT) hT) hT) hT) hT) hT) hT) ?_
       exact Yp hT 12 _ [] _ h0 (Jj5 false H)
      replace H:=iF c28 H
      refine Qak (hP▸mixed) 32 [1] (sm [.ptr 0 0 0 2,.i a0.Kind,.b true,.b true,.ptr 0 0 0 3,.d (Yg true a0.Pairs),.b true,.b true,.b true,.ptr 0 0 0 3,.d (Yg true a0.Pairs),.d (Qd5 true a0.Pairs 0 0),.d (Qd5 true a0.Pairs 0 0),.i ((a0.Pairs.getD 0 Qg.z).Key),.ptr 0 0 0 3,.d (Yg true a0.Pairs),.d (Qd5 true a0.Pairs 1 0),.d (Qd5 true a0.Pairs 1 0),.i ((a0.Pairs.getD 1 Qg.z).Key),.b true,.b true,.b true,.ptr 0 0 0 3,.d (Yg true a0.Pairs),.d (Qd5 true a0.Pairs 0 0),.d (Qd5 true a0.Pairs 0 1),.i ((a0.Pairs.getD 0 Qg.z).Val),.ptr 0 0 0 3,.d (Yg true a0.Pairs),.d (Qd5 true a0.Pairs 1 0),.d (Qd5 true a0.Pairs 1 1),.i ((a0.Pairs.getD 1 Qg.z).Val)]) (Qe (Qe (Jr (Qe (Qe (Qe (Qe (Jr (Qe (Qe (Qe (Qe (opV (Qe (Qe (Jr (Qe (Qe (Qe (Qe (Jr (Qe (Qe (Qe (Qe (Jr (Qe (Qe (Qe (opV (Qe (Qe op0 hT) hT) hT 103 (.b (a0.Kind == 5)) (.b true) (by rw [eqT c23]<;>rfl)) hT) hT) hT) (fun R rest h=>Zl (Zk:=[.d (Yg true a0.Pairs),.i 2,.i 2]) (dst:=some 107) hP Qjr (by have q:=Yb.Qy (t0:=true) a0.Pairs 2 2 h24;rw [c25] at q;exact q) (by kernel_rfl) (.cons (Wj _) (.cons (Wj _) (.cons (Wj _) .nil))) (by kernel_rfl) h)) hT) hT) hT) hT) (fun R rest h=>Yf hT (i:=0) (n:=(a0.Pairs.length:Int)) h26.1 h26.2 (by kernel_rfl) h)) hT) hT) hT) hT) (fun R rest h=>Yf hT (i:=1) (n:=(a0.Pairs.length:Int)) h27.1 h27.2 (by kernel_rfl) h)) hT) hT) hT 120 (.b (((a0.Pairs.getD 0 Qg.z).Key) != ((a0.Pairs.getD 1 Qg.z).Key))) (.b true) (by rw [neT c28]<;>rfl)) hT) hT) hT) hT) (fun R rest h=>Yf hT (i:=0) (n:=(a0.Pairs.length:Int)) h26.1 h26.2 (by kernel_rfl) h)) hT) hT) hT) hT) (fun R rest h=>Yf hT (i:=1) (n:=(a0.Pairs.length:Int)) h27.1 h27.2 (by kernel_rfl) h)) hT) hT) ?_
      refine Xl hT 3 (Qgu 1111111110 35) ⟨143,(Wi.p0++[(135,.b (((a0.Pairs.getD 0 Qg.z).Val) == ((a0.Pairs.getD 1 Qg.z).Val)))]),[.box 76 (Qce a0)]⟩ ?_
      by_cases c29:((a0.Pairs.getD 0 Qg.z).Val)=((a0.Pairs.getD 1 Qg.z).Val)
      ·replace H:=iT c29 H
       rw [eqT c29]
       refine qI ?_
       refine qX hT 2 h26 ?_
       exact qC hT 6 _ [] _ h0 (Jj5 (decide (((a0.Pairs.getD 0 Qg.z).Val)>=0)) H)
      replace H:=iF c29 H
      rw [eqF c29]
      exact Yp hT 9 _ [] _ h0 (Jj5 false H)
     replace H:=iF c25 H
     refine Qak (hP▸mixed) 32 [1] (sm [.ptr 0 0 0 2,.i a0.Kind,.b true,.b true,.ptr 0 0 0 3,.d (Yg true a0.Pairs),.b false,.b false,.b false,.Qn [],.Qn [],.Qn [],.Qn [],.Qn [],.Qn [],.Qn [],.Qn [],.Qn [],.Qn [],.Qn [],.b false,.b false,.Qn [],.Qn [],.Qn [],.Qn [],.Qn [],.Qn [],.Qn [],.Qn [],.Qn [],.Qn []]) (Qe (Qe (Qe (Qe (Qe (Qe (Qe (Qe (Qe (Qe (Qe (Qe (Qe (Qe (Qe (Qe (Qe (Qe (Qe (Qe (Qe (Qe (Qe (Qe (Qe (Jr (Qe (Qe (Qe (opV (Qe (Qe op0 hT) hT) hT 103 (.b (a0.Kind == 5)) (.b true) (by rw [eqT c23]<;>rfl)) hT) hT) hT) (fun R rest h=>Zl (Zk:=[.d (Yg true a0.Pairs),.i 2,.i 2]) (dst:=some 107) hP Qjr (by have q:=Yb.Qy (t0:=true) a0.Pairs 2 2 h24;rw [Jo c25] at q;exact q) (by kernel_rfl) (.cons (Wj _) (.cons (Wj _) (.cons (Wj _) .nil))) (by kernel_rfl) h)) hT) hT) hT) hT) hT) hT) hT) hT) hT) hT) hT) hT) hT) hT) hT) hT) hT) hT) hT) hT) hT) hT) hT) hT) hT) ?_
     exact Yp hT 12 _ [] _ h0 (Jj5 false H)
    replace H:=iF c23 H
    refine Qak (hP▸mixed) 32 [1] (sm [.ptr 0 0 0 2,.i a0.Kind,.b false,.b false,.Qn [],.Qn [],.Qn [],.b false,.b false,.Qn [],.Qn [],.Qn [],.Qn [],.Qn [],.Qn [],.Qn [],.Qn [],.Qn [],.Qn [],.Qn [],.b false,.b false,.Qn [],.Qn [],.Qn [],.Qn [],.Qn [],.Qn [],.Qn [],.Qn [],.Qn [],.Qn []]) (Qe (Qe (Qe (Qe (Qe (Qe (Qe (Qe (Qe (Qe (Qe (Qe (Qe (Qe (Qe (Qe (Qe (Qe (Qe (Qe (Qe (Qe (Qe (Qe (Qe (Qe (Qe (Qe (Qe (opV (Qe (Qe op0 hT) hT) hT 103 (.b (a0.Kind == 5)) (.b false) (by rw [eqF c23]<;>rfl)) hT) hT) hT) hT) hT) hT) hT) hT) hT) hT) hT) hT) hT) hT) hT) hT) hT) hT) hT) hT) hT) hT) hT) hT) hT) hT) hT) hT) hT) ?_
    exact Yp hT 12 _ [] _ h0 (Jj5 false H)
   replace H:=iF c14 H
   rw [neT c14]
   refine qI ?_
   obtain rfl:=Xr H
   exact qT hT 5 hf hX h0 [] an (.d (.v _))
  rw [eqF c5]
  refine Xl hT 10 (Qgu 111100 5) ⟨143,(Wi.p0++[(43,.b (a0.Over.Lo != 0))]),[.box 76 (Qce a0)]⟩ ?_
  by_cases c8:a0.Over.Lo=0
  ·replace H:=iT c8 H
   rw [neF c8]
   exact Xl hT 6 _ _ (Jj3 (a0.Over.Hi != 0) H)
  replace H:=iF c8 H
  rw [neT c8]
  exact Xl hT 6 _ _ (Jj3 true H)
 refine qI ?_
 rcases iB H with ⟨c1,H⟩ | ⟨c1,H⟩
 ·refine qB hT 12 (decide_eq_true c1) ?_
  exact qE hT 15 _ _ (Xy true H)
 refine qB hT 12 (decide_eq_false c1) ?_
 refine qE hT 5 (Qgu 1100 9) ⟨143,(Wi.p0++[(12,.b (decide (a0.Client > 1048576)))]),[.box 76 (Qce a0)]⟩ ?_
 refine qI ?_
 rcases iB H with ⟨c2,H⟩ | ⟨c2,H⟩
 ·refine qB hT 0 (decide_eq_true c2) ?_
  exact qE hT 10 _ _ (Xy true H)
 refine qB hT 0 (decide_eq_false c2) ?_
 refine qE hT 5 (Qgu 1100 14) ⟨143,(Wi.p0++[(17,.b (decide (a0.Seq < 1)))]),[.box 76 (Qce a0)]⟩ ?_
 refine qI ?_
 rcases iB H with ⟨c3,H⟩ | ⟨c3,H⟩
 ·refine qB hT 0 (decide_eq_true c3) ?_
  exact qE hT 5 _ _ (Xy true H)
 refine qB hT 0 (decide_eq_false c3) ?_
 exact qE hT 5 _ _ (Xy (decide (a0.Seq > 1073741824)) H)
theorem Xo.Qy {t0:Bool} (a0:List Qi) {r:List Bool} (H:Xo a0=some r):Xz Tryz.prog 146 [] [.d (Qf5 t0 a0)] [eR4 r] (.own 0 1 0 r.length):=by
 refine Xj Tryz.func146 rfl (nt:=45) rfl (lb rfl) fun X hP h0 hX=>?_
 have hT:Xb X.P T:=hP▸tok
 have hf:X.P.funcs[146]? = some Tryz.f146:=hP▸Tryz.func146
 refine Xl hT 15 (Qky 111010 0) ⟨45,[(0,.d (Qf5 t0 a0)),(3,.ns),(4,.i 0)],[]⟩ ?_
 refine Qdj [0,3,4] 3 1 4 (vec eB false []) (st':=⟨45,[(0,.d (Qf5 t0 a0)),(3,.own 0 1 0 0),(4,.i 0)],[eR4 ([]:List Bool)]⟩) (by kernel_rfl) (by kernel_rfl) ?_
 have L:∀ n,(∀ (Wy:Int) (Qx:List Bool),iter (Xo.step a0) n (.l1 Wy Qx)=some r->AK X 146 ((Qky 111010 0)) (Yc X [eR4 r] (.own 0 1 0 r.length)) ⟨45,[(0,.d (Qf5 t0 a0)),(3,.own 0 1 0 Qx.length),(4,.i Wy)],[eR4 Qx]⟩)/\(∀ (Zq:Int) (Zm:List Bool),iter (Xo.step a0) n (.l2 Zq Zm)=some r->AK X 146 ((Qky 1111010 0)) (Yc X [eR4 r] (.own 0 1 0 r.length)) ⟨45,[(0,.d (Qf5 t0 a0)),(3,.own 0 1 0 Zm.length),(5,.i Zq)],[eR4 Zm]⟩)/\(∀ (Qby:Int) (Wn:Int) (Wm:List Bool),iter (Xo.step a0) n (.l3 Qby Wn Wm)=some r->AK X 146 ((Qky 1111010010010 0)) (Yc X [eR4 r] (.own 0 1 0 r.length)) ⟨45,[(0,.d (Qf5 t0 a0)),(3,.own 0 1 0 Wm.length),(5,.i Qby),(6,.i Wn)],[eR4 Wm]⟩):=by
  intro n
  induction n with
  | zero=>exact ⟨fun _ _ H=>Qal H,fun _ _ H=>Qal H,fun _ _ _ H=>Qal H⟩
  | succ n ih=>
   refine ⟨?_, ?_, ?_⟩
   ·intro Wy Qx H
    refine qI ?_
    rcases sB H with ⟨c1,H⟩ | ⟨c1,H⟩
    ·refine qB hT 6 (decide_eq_true c1) ?_
     refine qE hT 7 (Qky 1110100100 2) ⟨45,[(0,.d (Qf5 t0 a0)),(4,.i Wy),(11,.own 0 1 0 Qx.length),(12,.own 1 1 0 1)],[eR4 Qx,.flat false 1 4 1 (fun j=>[[.b false]].getD j [])]⟩ ?_
     obtain ⟨h2,H⟩:=sC H
     refine Qcj (id:=0) (kk:=1) (by':=1) (t:=212) (e:=4) (z:=[.bool false]) (dst:=some 13) (id2:=1) (e2:=4) (fz:=false) (k':=(Qky 1110100100 3)) hT eB false Qx false [0,4,13] (by kernel_rfl) (by kernel_rfl) (by kernel_rfl) (by kernel_rfl) (by kernel_rfl) (by kernel_rfl) (by kernel_rfl) h2 (by omega) (st':=⟨45,[(0,.d (Qf5 t0 a0)),(4,.i Wy),(13,.own 2 1 0 ((Qx ++ [false]).length))],[.gone,.flat false 1 4 1 (fun j=>[[.b false]].getD j []),eR4 (Qx ++ [false])]⟩) (by kernel_rfl) ?_
     exact Yp hT 9 _ [2] _ h0 (ih.1 (IntKind.wrap .i64 (Wy+1)) (Qx ++ [false]) H)
    refine qB hT 6 (decide_eq_false c1) ?_
    exact qE hT 9 _ _ (ih.2.1 0 Qx H)
   ·intro Zq Zm H
    refine qI ?_
    rcases sB H with ⟨c3,H⟩ | ⟨c3,H⟩
    ·refine qB hT 8 (decide_eq_true c3) ?_
     refine qE hT 8 (Qky 111101001000 2) ⟨45,[(0,.d (Qf5 t0 a0)),(3,.own 0 1 0 Zm.length),(5,.i Zq),(20,.d (Qf5 t0 a0)),(21,.i Zq)],[eR4 Zm]⟩ ?_
     obtain ⟨h4,H⟩:=sC H
     refine qI ?_
     refine qX hT 0 h4 ?_
     exact qE hT 6 _ _ (ih.2.2 Zq ((a0.getD Zq.toNat Qi.z).Lo) Zm H)
    refine qB hT 8 (decide_eq_false c3) ?_
    obtain rfl:=Xr H
    exact qT hT 7 hf hX h0 [0] (ac (Qat nlB) an) (.own _ _ _ _)
   intro Qby Wn Wm H
   refine qI ?_
   obtain ⟨h5,H⟩:=sC H
   have Xy:∀ (Qj1:Bool),stk (Xo.j1 Qby Wn Wm Qj1) (iter (Xo.step a0) n)=some r->AK X 146 ((Qky 111101001001000 1)) (Yc X [eR4 r] (.own 0 1 0 r.length)) ⟨45,[(0,.d (Qf5 t0 a0)),(3,.own 0 1 0 Wm.length),(5,.i Qby),(6,.i Wn),(38,.b Qj1)],[eR4 Wm]⟩:=by
    intro Qj1 H
    by_cases c7:Qj1=true
    ·replace H:=sT c7 H
     rw [c7]
     refine Xl hT 7 (Qky 11110100100100100 2) ⟨45,[(0,.d (Qf5 t0 a0)),(3,.own 0 1 0 Wm.length),(5,.i Qby),(6,.i Wn),(41,.own 0 1 0 Wm.length),(42,.i Wn)],[eR4 Wm]⟩ ?_
     obtain ⟨h8,H⟩:=sC H
     refine Qjb hT [0,3,5,6,43] (i:=Wn) (n:=(Wm.length:Int)) h8.1 h8.2 (k':=(Qky 11110100100100100 3)) (st':=⟨45,[(0,.d (Qf5 t0 a0)),(3,.own 0 1 0 Wm.length),(5,.i Qby),(6,.i Wn),(43,.ptr 0 1 Wn.toNat 0)],[eR4 Wm]⟩) (by kernel_rfl) ?_
     refine Qtz (id:=0) (kk:=1) (i:=Wn.toNat) (off:=0) (s:=1) (n:=Wm.length) (ty:=4) (ds:=[.b true]) (g:=vec eB false Wm) (k':=(Qky 11110100100100100 4)) hT [0,3,5,6] (vec eB false (Wm.set Wn.toNat true)) (by kernel_rfl) (by kernel_rfl) (ltN h8.1 h8.2) ((Qmw (ltN h8.1 h8.2)).trans (by kernel_rfl)) Qjx (st':=⟨45,[(0,.d (.sl t0 a0.length (vec Qi.e Qi.z a0))),(3,.own 0 1 0 (Wm.length)),(5,.i Qby),(6,.i Wn)],[.flat false 1 4 Wm.length (vec eB false (Wm.set Wn.toNat true))]⟩) (by kernel_rfl) ?_
     refine Qnm (show Wm.length=(Wm.set Wn.toNat true).length from (List.length_set ..).symm) (fun nn=>⟨45,[(0,.d (.sl t0 a0.length (vec Qi.e Qi.z a0))),(3,.own 0 1 0 (nn)),(5,.i Qby),(6,.i Wn)],[.flat false 1 4 nn (vec eB false (Wm.set Wn.toNat true))]⟩) ?_
     exact Yp hT 8 _ [0] _ h0 (ih.2.2 Qby (IntKind.wrap .i64 (Wn+1)) (Wm.set Wn.toNat true) H)
    replace H:=sF c7 H
    rw [Jo c7]
    exact Xl hT 9 _ _ (ih.2.1 (IntKind.wrap .i64 (Qby+1)) Wm H)
   refine qX hT 5 h5 ?_
   refine qE hT 1 (Qky 1111010010010000 4) ⟨45,[(0,.d (Qf5 t0 a0)),(3,.own 0 1 0 Wm.length),(5,.i Qby),(6,.i Wn),(28,.d (Qpd (a0.getD Qby.toNat Qi.z)))],[eR4 Wm]⟩ ?_
   refine qI ?_
   refine qF hT 0 hP Qnu (Qaa.Qy (a0.getD Qby.toNat Qi.z)) ?_
   refine qE hT 1 (Qky 1111010010010000 6) ⟨45,[(0,.d (Qf5 t0 a0)),(3,.own 0 1 0 Wm.length),(5,.i Qby),(6,.i Wn),(30,.b (Qaa (a0.getD Qby.toNat Qi.z)))],[eR4 Wm]⟩ ?_
   refine qI ?_
   rcases sB H with ⟨c6,H⟩ | ⟨c6,H⟩
   ·refine qB hT 0 (c6) ?_
    refine qE hT 3 (Qky 1111010010010000 9) ⟨45,[(0,.d (Qf5 t0 a0)),(3,.own 0 1 0 Wm.length),(5,.i Qby),(6,.i Wn),(30,.b true),(31,.i Wn),(32,.d (Qf5 t0 a0)),(33,.i Qby)],[eR4 Wm]⟩ ?_
    refine qI ?_
    refine qX hT 0 h5 ?_
    exact qE hT 5 _ _ (Xy (decide (Wn < ((a0.getD Qby.toNat Qi.z).Hi))) H)
   refine qB hT 0 (Jo c6) ?_
   exact qE hT 9 _ _ (Xy false H)
 refine Qg4 [0] ⟨45,[(0,.d (Qf5 t0 a0)),(3,.own 0 1 0 ([]:List Bool).length),(4,.i 0)],[eR4 ([]:List Bool)]⟩ h0 ?_
 obtain ⟨n,H⟩:=Qbp H
 exact (L n).1 0 ([]:List Bool) H
theorem Yw.Qy {t0:Bool} (a0:List Bool) {r:(List Qi) × Int} (H:Yw a0=some r):Xz Tryz.prog 145 [] [.d (eL4 t0 a0)] [Qd9 r.1] (.Qn [.own 0 2 0 r.1.length,.i r.2]):=by
 refine Xj Tryz.func145 rfl (nt:=39) rfl (lb rfl) fun X hP h0 hX=>?_
 have hT:Xb X.P T:=hP▸tok
 have hf:X.P.funcs[145]? = some Tryz.f145:=hP▸Tryz.func145
 refine Xl hT 16 (Qo7 111100 0) ⟨39,[(0,.d (eL4 t0 a0)),(4,.ns),(5,.i 0)],[]⟩ ?_
 refine Qdj [0,4,5] 4 2 69 (vec Qi.e Qi.z []) (st':=⟨39,[(0,.d (eL4 t0 a0)),(4,.own 0 2 0 0),(5,.i 0)],[Qd9 ([]:List Qi)]⟩) (by kernel_rfl) (by kernel_rfl) ?_
 have L:∀ n,(∀ (Xi:Int) (Qx:List Qi),iter (Yw.step a0) n (.l1 Xi Qx)=some r->AK X 145 ((Qo7 111100 0)) (Yc X [Qd9 r.1] (.Qn [.own 0 2 0 r.1.length,.i r.2])) ⟨39,[(0,.d (eL4 t0 a0)),(4,.own 0 2 0 Qx.length),(5,.i Xi)],[Qd9 Qx]⟩)/\(∀ (Zq:Int) (Qc2:Int) (Zm:List Qi),iter (Yw.step a0) n (.l2 Zq Qc2 Zm)=some r->AK X 145 ((Qo7 111100010100 0)) (Yc X [Qd9 r.1] (.Qn [.own 0 2 0 r.1.length,.i r.2])) ⟨39,[(0,.d (eL4 t0 a0)),(4,.own 0 2 0 Zm.length),(5,.i Zq),(6,.i Qc2)],[Qd9 Zm]⟩):=by
  intro n
  induction n with
  | zero=>exact ⟨fun _ _ H=>Qal H,fun _ _ _ H=>Qal H⟩
  | succ n ih=>
   refine ⟨?_, ?_⟩
   ·intro Xi Qx H
    refine qI ?_
    rcases sB H with ⟨c1,H⟩ | ⟨c1,H⟩
    ·refine qB hT 8 (decide_eq_true c1) ?_
     exact qE hT 11 _ _ (ih.2 Xi Xi Qx H)
    refine qB hT 8 (decide_eq_false c1) ?_
    refine qE hT 9 (Qo7 111110 1) ⟨39,[(4,.own 0 2 0 Qx.length),(37,.b (decide ((Qx.length:Int) > 64)))],[Qd9 Qx]⟩ ?_
    refine qI ?_
    rcases sB H with ⟨c2,H⟩ | ⟨c2,H⟩
    ·refine qB hT 0 (decide_eq_true c2) ?_
     refine qE hT 6 (Qo7 11111010 1) ⟨39,[(2,.ns),(3,.i 2)],[Qd9 Qx]⟩ ?_
     refine Qdj [2,3] 2 2 69 (vec Qi.e Qi.z []) (st':=⟨39,[(2,.own 1 2 0 0),(3,.i 2)],[Qd9 Qx,Qd9 ([]:List Qi)]⟩) (by kernel_rfl) (by kernel_rfl) ?_
     obtain rfl:=Xr H
     exact Qc0 hf hX h0 (.Qn [.own 1 2 0 0,.i 2]) [1] (ac (Qat Qi.nl) an) (.Qn (.cons (.own _ _ _ _) (.cons (.d (.v _)) .nil)))
    refine qB hT 0 (decide_eq_false c2) ?_
    obtain rfl:=Xr H
    exact qT hT 8 hf hX h0 [0] (ac (Qat Qi.nl) an) (.Qn (.cons (.own _ _ _ _) (.cons (.d (.v _)) .nil)))
   intro Zq Qc2 Zm H
   have Xy:∀ (Qgo:Bool),stk (Yw.j1 Zq Qc2 Zm Qgo) (iter (Yw.step a0) n)=some r->AK X 145 ((Qo7 11110001010000 1)) (Yc X [Qd9 r.1] (.Qn [.own 0 2 0 r.1.length,.i r.2])) ⟨39,[(0,.d (eL4 t0 a0)),(4,.own 0 2 0 Zm.length),(5,.i Zq),(6,.i Qc2),(21,.b Qgo)],[Qd9 Zm]⟩:=by
    intro Qgo H
    by_cases c5:Qgo=true
    ·replace H:=sT c5 H
     rw [c5]
     exact Xl hT 10 _ _ (ih.2 (IntKind.wrap .i64 (Zq+1)) Qc2 Zm H)
    replace H:=sF c5 H
    rw [Jo c5]
    refine qI ?_
    rcases sB H with ⟨c6,H⟩ | ⟨c6,H⟩
    ·refine qB hT 8 (decide_eq_true c6) ?_
     refine qE hT 7 (Qo7 1111000101110 5) ⟨39,[(0,.d (eL4 t0 a0)),(5,.i Zq),(27,.own 0 2 0 Zm.length),(31,.own 1 2 0 1)],[Qd9 Zm,.flat false 2 69 1 (fun j=>[[.i Qc2,.i Zq]].getD j [])]⟩ ?_
     obtain ⟨h7,H⟩:=sC H
     refine Qcj (id:=0) (kk:=2) (by':=16) (t:=137) (e:=69) (z:=[.int .i64 0,.int .i64 0]) (dst:=some 32) (id2:=1) (e2:=69) (fz:=false) (k':=(Qo7 1111000101110 6)) hT Qi.e Qi.z Zm (⟨Qc2,Zq⟩:Qi) [0,5,32] (by kernel_rfl) (by kernel_rfl) (by kernel_rfl) (by kernel_rfl) (by kernel_rfl) (by kernel_rfl) (by kernel_rfl) h7 (by omega) (st':=⟨39,[(0,.d (eL4 t0 a0)),(5,.i Zq),(32,.own 2 2 0 ((Zm ++ [(⟨Qc2,Zq⟩:Qi)]).length))],[.gone,.flat false 2 69 1 (fun j=>[[.i Qc2,.i Zq]].getD j []),Qd9 (Zm ++ [(⟨Qc2,Zq⟩:Qi)])]⟩) (by kernel_rfl) ?_
     exact Yp hT 4 _ [2] _ h0 (ih.1 Zq (Zm ++ [(⟨Qc2,Zq⟩:Qi)]) H)
    refine qB hT 8 (decide_eq_false c6) ?_
    exact qE hT 8 _ _ (ih.1 (IntKind.wrap .i64 (Zq+1)) Zm H)
   refine qI ?_
   rcases sB H with ⟨c3,H⟩ | ⟨c3,H⟩
   ·refine qB hT 8 (decide_eq_true c3) ?_
    refine qE hT 2 (Qo7 111100010100000 7) ⟨39,[(0,.d (eL4 t0 a0)),(4,.own 0 2 0 Zm.length),(5,.i Zq),(6,.i Qc2),(16,.b true),(17,.d (eL4 t0 a0)),(18,.i Zq)],[Qd9 Zm]⟩ ?_
    obtain ⟨h4,H⟩:=sC H
    refine qI ?_
    refine qX hT 0 h4 ?_
    exact qE hT 3 _ _ (Xy (a0.getD Zq.toNat false) H)
   refine qB hT 8 (decide_eq_false c3) ?_
   exact qE hT 6 _ _ (Xy false H)
 refine Qg4 [0] ⟨39,[(0,.d (eL4 t0 a0)),(4,.own 0 2 0 ([]:List Qi).length),(5,.i 0)],[Qd9 ([]:List Qi)]⟩ h0 ?_
 obtain ⟨n,H⟩:=Qbp H
 exact (L n).1 0 ([]:List Qi) H
theorem Qas.Qy {t0:Bool} (a0:List Qi) {r:(List Qi) × Int} (H:Qas a0=some r):Xz Tryz.prog 120 [] [.d (Qf5 t0 a0)] [Qd9 r.1] (.Qn [.own 0 2 0 r.1.length,.i r.2]):=by
 refine Xj Tryz.func120 rfl (nt:=22) rfl (lb rfl) fun X hP h0 hX=>?_
 have hT:Xb X.P T:=hP▸tok
 have hf:X.P.funcs[120]? = some Tryz.f120:=hP▸Tryz.func120
 refine Xl hT 12 (Qqf 11010 0) ⟨22,[(0,.d (Qf5 t0 a0)),(4,.i 0)],[]⟩ ?_
 have L:∀ n,(∀ (Wy:Int),iter (Qas.step a0) n (.l1 Wy)=some r->AK X 120 ((Qqf 11010 0)) (Yc X [Qd9 r.1] (.Qn [.own 0 2 0 r.1.length,.i r.2])) ⟨22,[(0,.d (Qf5 t0 a0)),(4,.i Wy)],[]⟩):=by
  intro n
  induction n with
  | zero=>exact fun _ H=>Qal H
  | succ n ih=>
   ·intro Wy H
    refine qI ?_
    rcases sB H with ⟨c1,H⟩ | ⟨c1,H⟩
    ·refine qB hT 8 (decide_eq_true c1) ?_
     refine qE hT 8 (Qqf 1101001000 2) ⟨22,[(0,.d (Qf5 t0 a0)),(4,.i Wy),(11,.d (Qf5 t0 a0)),(12,.i Wy)],[]⟩ ?_
     obtain ⟨h4,H⟩:=sC H
     refine qI ?_
     refine qX hT 0 h4 ?_
     refine qE hT 1 (Qqf 1101001000 4) ⟨22,[(0,.d (Qf5 t0 a0)),(4,.i Wy),(14,.d (Qpd (a0.getD Wy.toNat Qi.z)))],[]⟩ ?_
     refine qI ?_
     refine qF hT 0 hP Qnu (Qaa.Qy (a0.getD Wy.toNat Qi.z)) ?_
     refine qE hT 2 (Qqf 110100100 1) ⟨22,[(0,.d (Qf5 t0 a0)),(4,.i Wy),(16,.b (!(Qaa (a0.getD Wy.toNat Qi.z))))],[]⟩ ?_
     refine qI ?_
     rcases sB H with ⟨c5,H⟩ | ⟨c5,H⟩
     ·refine qB hT 0 (show (!(Qaa (a0.getD Wy.toNat Qi.z)))=false by rw [c5];rfl) ?_
      exact qE hT 9 _ _ (ih (IntKind.wrap .i64 (Wy+1)) H)
     refine qB hT 0 (show (!(Qaa (a0.getD Wy.toNat Qi.z)))=true by rw [Jo c5];rfl) ?_
     refine qE hT 6 (Qqf 11010010010 1) ⟨22,[(2,.ns),(3,.i 1)],[]⟩ ?_
     refine Qdj [2,3] 2 2 69 (vec Qi.e Qi.z []) (st':=⟨22,[(2,.own 0 2 0 0),(3,.i 1)],[Qd9 ([]:List Qi)]⟩) (by kernel_rfl) (by kernel_rfl) ?_
     obtain rfl:=Xr H
     exact Qc0 hf hX h0 (.Qn [.own 0 2 0 0,.i 1]) [0] (ac (Qat Qi.nl) an) (.Qn (.cons (.own _ _ _ _) (.cons (.d (.v _)) .nil)))
    refine qB hT 8 (decide_eq_false c1) ?_
    refine qE hT 5 (Qqf 1110 1) ⟨22,[(17,.d (Qf5 t0 a0))],[]⟩ ?_
    obtain ⟨v1,h2,H⟩:=sbC H
    refine Jj (Zk:=[.d (Qf5 t0 a0)]) (dst:=some 18) (k':=(Qqf 1110 2)) [18] [] hP Wcc (Xo.Qy (t0:=t0) a0 h2) (by kernel_rfl) (Jy _) (.cons (Wj _) .nil) (st':=⟨22,[(18,.own 0 1 0 v1.length)],[eR4 v1]⟩) (by kernel_rfl) ?_
    obtain ⟨v2,h3,H⟩:=sbC H
    refine qI ?_
    refine qF hT 0 hP Wcb (Yw.Qy (t0:=false) v1 h3) ?_
    obtain rfl:=Xr H
    exact qT hT 5 hf hX h0 [1] (ac (Qat Qi.nl) an) (.Qn (.cons (.own _ _ _ _) (.cons (.d (.v _)) .nil)))
 obtain ⟨n,H⟩:=Qbp H
 exact (L n) 0 H
abbrev Jg.q1 (a0:Xe) (Wy:Int):=(⟨(a0.Pairs.getD Wy.toNat Qg.z).Key,IntKind.wrap .i64 (((a0.Pairs.getD Wy.toNat Qg.z).Key)+1)⟩:Qi)
theorem Jg.Qy (a0:Xe) {r:List Qi} (H:Jg a0=some r):Xz Tryz.prog 77 [] [.d (Qe0 a0)] [Qd9 r] (.own 0 2 0 r.length):=by
 refine Xj Tryz.func77 rfl (nt:=46) rfl (lb rfl) fun X hP h0 hX=>?_
 have hT:Xb X.P T:=hP▸tok
 have hf:X.P.funcs[77]? = some Tryz.f77:=hP▸Tryz.func77
 refine qI ?_
 obtain ⟨v1,h1,H⟩:=ibC H
 refine qF hT 9 hP Qpf (Wi.Qy a0 h1) ?_
 refine qE hT 2 (K77 110 1) ⟨46,[(1,.ptr 0 0 0 0),(9,.b (!v1))],[.box 76 (Qce a0)]⟩ ?_
 refine qI ?_
 rcases iB H with ⟨c2,H⟩ | ⟨c2,H⟩
 ·refine qB hT 0 (show (!v1)=false by rw [c2];rfl) ?_
  refine qE hT 9 (K77 1110 1) ⟨46,[(1,.ptr 0 0 0 0),(12,.b (a0.Kind == 2))],[.box 76 (Qce a0)]⟩ ?_
  by_cases c3:a0.Kind=2
  ·replace H:=iT c3 H
   rw [eqT c3]
   refine Xl hT 8 (K77 111010 1) ⟨46,[(2,.own 1 2 0 1)],[.box 76 (Qce a0),.flat false 2 69 1 (fun j=>[Qi.e a0.Over].getD j [])]⟩ ?_
   refine Qje 1 (kk:=2) (fz:=false) (ty:=69) (n:=([a0.Over]:List Qi).length) (vec Qi.e Qi.z ([a0.Over]:List Qi)) (by kernel_rfl) Qh7 (st':=⟨46,[(2,.own 1 2 0 (([a0.Over]:List Qi).length))],[.box 76 (Qce a0),Qd9 ([a0.Over]:List Qi)]⟩) (by kernel_rfl) ?_
   obtain rfl:=Xr H
   exact Qc0 hf hX h0 (.own 1 2 0 (([a0.Over]:List Qi).length)) [1] (ac (Qat Qi.nl) an) (.own _ _ _ _)
  replace H:=iF c3 H
  rw [eqF c3]
  refine Xl hT 13 (K77 11111010 0) ⟨46,[(1,.ptr 0 0 0 0),(3,.ns),(4,.i 0)],[.box 76 (Qce a0)]⟩ ?_
  refine Qdj [1,3,4] 3 2 69 (vec Qi.e Qi.z []) (st':=⟨46,[(1,.ptr 0 0 0 0),(3,.own 1 2 0 0),(4,.i 0)],[.box 76 (Qce a0),Qd9 ([]:List Qi)]⟩) (by kernel_rfl) (by kernel_rfl) ?_
  have L:∀ n,(∀ (Wy:Int) (Xp:List Qi),iter (Jg.step a0) n (.l1 Wy Xp)=some r->AK X 77 ((K77 11111010 0)) (Yc X [Qd9 r] (.own 0 2 0 r.length)) ⟨46,[(1,.ptr 0 0 0 0),(3,.own 1 2 0 Xp.length),(4,.i Wy)],[.box 76 (Qce a0),Qd9 Xp]⟩):=by
   intro n
   induction n with
   | zero=>exact fun _ _ H=>Qal H
   | succ n ih=>
    ·intro Wy Xp H
     refine qI ?_
     rcases sB H with ⟨c4,H⟩ | ⟨c4,H⟩
     ·refine qB hT 9 (decide_eq_true c4) ?_
      refine qE hT 4 (K77 11111010010 0) ⟨46,[(1,.ptr 0 0 0 0),(3,.own 1 2 0 Xp.length),(4,.i Wy)],[.box 76 (Qce a0),Qd9 Xp]⟩ ?_
      obtain ⟨h6,H⟩:=sC H
      refine Qdv (nt:=46) (hP▸mixed) 16 [15] [1,3,4] [(1,.ptr 0 0 0 0),(3,.own 1 2 0 Xp.length),(4,.i Wy)] (sm [.own 1 2 0 Xp.length,.ptr 0 0 0 3,.d (Yg true a0.Pairs),.i Wy,.d (Qd5 true a0.Pairs Wy.toNat 0),.d (Qd5 true a0.Pairs Wy.toNat 0),.i ((a0.Pairs.getD Wy.toNat Qg.z).Key),.ptr 0 0 0 3,.d (Yg true a0.Pairs),.i Wy,.d (Qd5 true a0.Pairs Wy.toNat 0),.d (Qd5 true a0.Pairs Wy.toNat 0),.i ((a0.Pairs.getD Wy.toNat Qg.z).Key),.i (IntKind.wrap .i64 (((a0.Pairs.getD Wy.toNat Qg.z).Key)+1)),.d (.agg [.i ((a0.Pairs.getD Wy.toNat Qg.z).Key),.i (IntKind.wrap .i64 (((a0.Pairs.getD Wy.toNat Qg.z).Key)+1))]),.own 2 2 0 1]) [[.box 76 (Qce a0),Qd9 Xp],[.box 76 (Qce a0),Qd9 Xp,.flat false 2 69 1 (fun j=>[[.i ((a0.Pairs.getD Wy.toNat Qg.z).Key),.i (IntKind.wrap .i64 (((a0.Pairs.getD Wy.toNat Qg.z).Key)+1))]].getD j [])]] (by kernel_rfl) (by kernel_rfl) (by kernel_rfl) (by kernel_rfl) ⟨?_,(Qhg hT),?_⟩ ?_
      iterate 2 exact (Qgz (Xa (Xa (Xa (Xa (Qfc (Xa (Xa (Xa (Xa (Xa (Qfc (Xa (Xa (Xa (Xa Qi6 hT) hT) hT) hT) (fun R rest h=>Yf hT (i:=Wy) (n:=(a0.Pairs.length:Int)) h6.1 h6.2 (by kernel_rfl) h)) hT) hT) hT) hT) hT) (fun R rest h=>Yf hT (i:=Wy) (n:=(a0.Pairs.length:Int)) h6.1 h6.2 (by kernel_rfl) h)) hT) hT) hT) hT))
      refine Xl hT 0 (K77 111110100100 16) ⟨46,[(1,.ptr 0 0 0 0),(4,.i Wy),(23,.own 1 2 0 Xp.length),(38,.own 2 2 0 1)],[.box 76 (Qce a0),Qd9 Xp,.flat false 2 69 1 (fun j=>[[.i ((a0.Pairs.getD Wy.toNat Qg.z).Key),.i (IntKind.wrap .i64 (((a0.Pairs.getD Wy.toNat Qg.z).Key)+1))]].getD j [])]⟩ ?_
      obtain ⟨h7,H⟩:=sC H
      refine Qcj (id:=1) (kk:=2) (by':=16) (t:=137) (e:=69) (z:=[.int .i64 0,.int .i64 0]) (dst:=some 39) (id2:=2) (e2:=69) (fz:=false) (k':=(K77 111110100100 17)) hT Qi.e Qi.z Xp (Jg.q1 a0 Wy) [1,4,39] (by kernel_rfl) (by kernel_rfl) (by kernel_rfl) (by kernel_rfl) (by kernel_rfl) (by kernel_rfl) (by kernel_rfl) h7 (by omega) (st':=⟨46,[(1,.ptr 0 0 0 0),(4,.i Wy),(39,.own 3 2 0 ((Xp ++ [(Jg.q1 a0 Wy)]).length))],[.box 76 (Qce a0),.gone,.flat false 2 69 1 (fun j=>[[.i ((a0.Pairs.getD Wy.toNat Qg.z).Key),.i (IntKind.wrap .i64 (((a0.Pairs.getD Wy.toNat Qg.z).Key)+1))]].getD j []),Qd9 (Xp ++ [(Jg.q1 a0 Wy)])]⟩) (by kernel_rfl) ?_
      exact Yp hT 9 _ [0,3] _ h0 (ih (IntKind.wrap .i64 (Wy+1)) (Xp ++ [(Jg.q1 a0 Wy)]) H)
     refine qB hT 9 (decide_eq_false c4) ?_
     refine qE hT 5 (K77 1111110 1) ⟨46,[(41,.own 1 2 0 Xp.length)],[.box 76 (Qce a0),Qd9 Xp]⟩ ?_
     obtain ⟨v2,h5,H⟩:=sbC H
     refine qI ?_
     refine qF hT 0 hP Wbx (Qas.Qy (t0:=false) Xp h5) ?_
     obtain rfl:=Xr H
     exact qT hT 11 hf hX h0 [2] (ac (Qat Qi.nl) an) (.own _ _ _ _)
  refine Qg4 [0,1] ⟨46,[(1,.ptr 0 0 0 0),(3,.own 1 2 0 ([]:List Qi).length),(4,.i 0)],[.box 76 (Qce a0),Qd9 ([]:List Qi)]⟩ h0 ?_
  obtain ⟨n,H⟩:=Qbp H
  exact (L n) 0 ([]:List Qi) H
 refine qB hT 0 (show (!v1)=true by rw [Jo c2];rfl) ?_
 refine qE hT 5 (K77 11010 1) ⟨46,[(2,.ns)],[.box 76 (Qce a0)]⟩ ?_
 refine Qdj [2] 2 2 69 (vec Qi.e Qi.z []) (st':=⟨46,[(2,.own 1 2 0 0)],[.box 76 (Qce a0),Qd9 ([]:List Qi)]⟩) (by kernel_rfl) (by kernel_rfl) ?_
 obtain rfl:=Xr H
 exact Qc0 hf hX h0 (.own 1 2 0 0) [1] (ac (Qat Qi.nl) an) (.own _ _ _ _)
theorem Za.Qy (a0:Ql) (a1:Xe) {r:Bool} (H:Za a0 a1=some r):Xz Tryz.prog 104 [] [.d (Qhf a0),.d (Qe0 a1)] [] (.b r):=by
 refine Xj Tryz.func104 rfl (nt:=35) rfl (lb rfl) fun X hP h0 hX=>?_
 have hT:Xb X.P T:=hP▸tok
 have hf:X.P.funcs[104]? = some Tryz.f104:=hP▸Tryz.func104
 refine qI ?_
 obtain ⟨v1,h1,H⟩:=ibC H
 refine qF hT 9 hP Qwa (Jg.Qy a1 h1) ?_
 have L:∀ n,(∀ (Yq:Int),iter (Za.step a0 v1) n (.l1 Yq)=some r->AK X 104 ((Wa4 111010 0)) (Yc X [] (.b r)) ⟨35,[(2,.ptr 0 0 0 0),(5,.own 1 2 0 v1.length),(6,.i Yq)],[.box 74 (Qcr a0),Qd9 v1]⟩):=by
  intro n
  induction n with
  | zero=>exact fun _ H=>Qal H
  | succ n ih=>
   ·intro Yq H
    refine qI ?_
    rcases sB H with ⟨c2,H⟩ | ⟨c2,H⟩
    ·refine qB hT 8 (decide_eq_true c2) ?_
     refine qE hT 5 (Wa4 1110100100 0) ⟨35,[(2,.ptr 0 0 0 0),(5,.own 1 2 0 v1.length),(6,.i Yq)],[.box 74 (Qcr a0),Qd9 v1]⟩ ?_
     obtain ⟨h3,H⟩:=sC H
     have Xy:∀ (Qe4:Bool),stk (Za.j1 Yq Qe4) (iter (Za.step a0 v1) n)=some r->AK X 104 ((Wa4 1110100100 1)) (Yc X [] (.b r)) ⟨35,[(2,.ptr 0 0 0 0),(5,.own 1 2 0 v1.length),(6,.i Yq),(34,.b Qe4)],[.box 74 (Qcr a0),Qd9 v1]⟩:=by
      intro Qe4 H
      by_cases c5:Qe4=true
      ·replace H:=sT c5 H
       rw [c5]
       refine qI ?_
       obtain rfl:=Xr H
       exact qT hT 5 hf hX h0 [] an (.d (.v _))
      replace H:=sF c5 H
      rw [Jo c5]
      exact Xl hT 9 _ _ (ih (IntKind.wrap .i64 (Yq+1)) H)
     by_cases c4:((v1.getD Yq.toNat Qi.z).Lo) < a0.Keys.Hi
     ·replace H:=sT c4 H
      refine Qak (hP▸mixed) 20 [2,5,6] (sm [.own 1 2 0 v1.length,.i Yq,.ptr 1 2 Yq.toNat 0,.ptr 1 2 Yq.toNat 0,.i ((v1.getD Yq.toNat Qi.z).Lo),.ptr 0 0 0 1,.ptr 0 0 0 2,.i a0.Keys.Hi,.b true,.b true,.ptr 0 0 0 1,.ptr 0 0 0 1,.i a0.Keys.Lo,.own 1 2 0 v1.length,.i Yq,.ptr 1 2 Yq.toNat 0,.ptr 1 2 Yq.toNat 1,.i ((v1.getD Yq.toNat Qi.z).Hi),.b (decide (a0.Keys.Lo < ((v1.getD Yq.toNat Qi.z).Hi))),.b (decide (a0.Keys.Lo < ((v1.getD Yq.toNat Qi.z).Hi)))]) (Qe (Qe (Jr (Qe (Jr (Qe (Qe (Qe (Qe (Qe (Qe (opV (Qe (Qe (Qe (Jr (Qe (Jr (Qe (Qe op0 hT) hT) (fun R rest h=>Yf hT (i:=Yq) (n:=(v1.length:Int)) h3.1 h3.2 (by kernel_rfl) h)) hT) (fun R rest h=>Qgs hT (i:=Yq.toNat) (n:=v1.length) (ltN h3.1 h3.2) (by kernel_rfl) h)) hT) hT) hT) hT 23 (.b (decide (((v1.getD Yq.toNat Qi.z).Lo) < a0.Keys.Hi))) (.b true) (by rw [decide_eq_true c4]<;>rfl)) hT) hT) hT) hT) hT) hT) (fun R rest h=>Yf hT (i:=Yq) (n:=(v1.length:Int)) h3.1 h3.2 (by kernel_rfl) h)) hT) (fun R rest h=>Qgs hT (i:=Yq.toNat) (n:=v1.length) (ltN h3.1 h3.2) (by kernel_rfl) h)) hT) hT) ?_
      exact Xl hT 1 _ _ (Xy (decide (a0.Keys.Lo < ((v1.getD Yq.toNat Qi.z).Hi))) H)
     replace H:=sF c4 H
     refine Qak (hP▸mixed) 20 [2,5,6] (sm [.own 1 2 0 v1.length,.i Yq,.ptr 1 2 Yq.toNat 0,.ptr 1 2 Yq.toNat 0,.i ((v1.getD Yq.toNat Qi.z).Lo),.ptr 0 0 0 1,.ptr 0 0 0 2,.i a0.Keys.Hi,.b false,.b false,.Qn [],.Qn [],.Qn [],.Qn [],.Qn [],.Qn [],.Qn [],.Qn [],.Qn [],.b false]) (Qe (Qe (Qe (Qe (Qe (Qe (Qe (Qe (Qe (Qe (Qe (opV (Qe (Qe (Qe (Jr (Qe (Jr (Qe (Qe op0 hT) hT) (fun R rest h=>Yf hT (i:=Yq) (n:=(v1.length:Int)) h3.1 h3.2 (by kernel_rfl) h)) hT) (fun R rest h=>Qgs hT (i:=Yq.toNat) (n:=v1.length) (ltN h3.1 h3.2) (by kernel_rfl) h)) hT) hT) hT) hT 23 (.b (decide (((v1.getD Yq.toNat Qi.z).Lo) < a0.Keys.Hi))) (.b false) (by rw [decide_eq_false c4]<;>rfl)) hT) hT) hT) hT) hT) hT) hT) hT) hT) hT) hT) ?_
     exact Xl hT 1 _ _ (Xy false H)
    refine qB hT 8 (decide_eq_false c2) ?_
    obtain rfl:=Xr H
    exact qT hT 6 hf hX h0 [] an (.d (.v _))
 refine qC hT 9 (Wa4 111010 0) [0,2] ⟨35,[(2,.ptr 0 0 0 0),(5,.own 1 2 0 v1.length),(6,.i 0)],[.box 74 (Qcr a0),Qd9 v1]⟩ h0 ?_
 obtain ⟨n,H⟩:=Qbp H
 exact (L n) 0 H
theorem Zr.Qy (a0:Ql) (a1:Int) (a2:Int) {r:Int} (H:Zr a0 a1 a2=some r):Xz Tryz.prog 105 [] [.d (Qhf a0),.i a1,.i a2] [] (.i r):=by
 refine Xj Tryz.func105 rfl (nt:=34) rfl (lb rfl) fun X hP h0 hX=>?_
 have hT:Xb X.P T:=hP▸tok
 have hf:X.P.funcs[105]? = some Tryz.f105:=hP▸Tryz.func105
 refine Xl hT 12 (Qxr 11010 0) ⟨34,[(1,.i a1),(2,.i a2),(3,.ptr 0 0 0 0),(7,.i 0)],[.box 74 (Qcr a0)]⟩ ?_
 have L:∀ n,(∀ (Ws:Int),iter (Zr.step a0 a1 a2) n (.l1 Ws)=some r->AK X 105 ((Qxr 11010 0)) (Yc X [] (.i r)) ⟨34,[(1,.i a1),(2,.i a2),(3,.ptr 0 0 0 0),(7,.i Ws)],[.box 74 (Qcr a0)]⟩):=by
  intro n
  induction n with
  | zero=>exact fun _ H=>Qal H
  | succ n ih=>
   ·intro Ws H
    refine qI ?_
    rcases sB H with ⟨c1,H⟩ | ⟨c1,H⟩
    ·refine qB hT 9 (decide_eq_true c1) ?_
     refine qE hT 9 (Qxr 1101001000 3) ⟨34,[(1,.i a1),(2,.i a2),(3,.ptr 0 0 0 0),(7,.i Ws),(16,.d (Qhz true a0.Qs)),(17,.i Ws)],[.box 74 (Qcr a0)]⟩ ?_
     obtain ⟨h2,H⟩:=sC H
     have Xy:∀ (Qj0:Bool),stk (Zr.j1 Ws Qj0) (iter (Zr.step a0 a1 a2) n)=some r->AK X 105 ((Qxr 110100100 1)) (Yc X [] (.i r)) ⟨34,[(1,.i a1),(2,.i a2),(3,.ptr 0 0 0 0),(7,.i Ws),(32,.b Qj0)],[.box 74 (Qcr a0)]⟩:=by
      intro Qj0 H
      by_cases c4:Qj0=true
      ·replace H:=sT c4 H
       rw [c4]
       refine qI ?_
       obtain rfl:=Xr H
       exact qT hT 6 hf hX h0 [] an (.d (.v _))
      replace H:=sF c4 H
      rw [Jo c4]
      exact Xl hT 9 _ _ (ih (IntKind.wrap .i64 (Ws+1)) H)
     refine qI ?_
     refine qX hT 0 h2 ?_
     refine qE hT 5 (Qxr 1101001000 9) ⟨34,[(1,.i a1),(2,.i a2),(3,.ptr 0 0 0 0),(7,.i Ws),(23,.b (((a0.Qs.getD Ws.toNat Wh.z).Client) == a1))],[.box 74 (Qcr a0)]⟩ ?_
     by_cases c3:((a0.Qs.getD Ws.toNat Wh.z).Client)=a1
     ·replace H:=sT c3 H
      rw [eqT c3]
      refine qI ?_
      refine qX hT 3 h2 ?_
      exact qE hT 6 _ _ (Xy (((a0.Qs.getD Ws.toNat Wh.z).Seq) == a2) H)
     replace H:=sF c3 H
     rw [eqF c3]
     exact Xl hT 10 _ _ (Xy false H)
    refine qB hT 9 (decide_eq_false c1) ?_
    obtain rfl:=Xr H
    exact qT hT 6 hf hX h0 [] an (.d (.v _))
 obtain ⟨n,H⟩:=Qbp H
 exact (L n) 0 H
theorem Jh.Qy (a0:Xe) (a1:Int):Xz Tryz.prog 106 [] [.d (Qe0 a0),.i a1] [] (.d (Qj7 (Jh a0 a1))):=by
 obtain ⟨r,H⟩:∃ r,Jh a0 a1=r:=⟨_,rfl⟩
 rw [H]
 refine Xj Tryz.func106 rfl (nt:=11) rfl (lb rfl) fun X hP h0 hX=>?_
 have hT:Xb X.P T:=hP▸tok
 have hf:X.P.funcs[106]? = some Tryz.f106:=hP▸Tryz.func106
 refine Xl hT 15 (Wmq 11 1) ⟨11,[(4,.ptr 1 0 0 0)],[.box 76 (Qce a0),.box 81 [.i a1,.i a0.Client,.i a0.Seq]]⟩ ?_
 obtain rfl:=H
 exact Qhw hT hf hX (av:=.d (.agg [.i a1,.i a0.Client,.i a0.Seq])) (by kernel_rfl) [] (Qbu (by kernel_rfl)) (by decide) (by rw [h0];rfl) (by kernel_rfl) an (.d (.agg (Qa7.nl _)))
theorem Qa6.Qy (a0:Qa7) (a1:Qa7):Xz Tryz.prog 31 [] [.d (Qj7 a0),.d (Qj7 a1)] [] (.b (Qa6 a0 a1)):=by
 obtain ⟨r,H⟩:∃ r,Qa6 a0 a1=r:=⟨_,rfl⟩
 rw [H]
 refine Xj Tryz.func31 rfl (nt:=30) rfl (lb rfl) fun X hP h0 hX=>?_
 have hT:Xb X.P T:=hP▸tok
 have hf:X.P.funcs[31]? = some Tryz.f31:=hP▸Tryz.func31
 refine Xl hT 15 (K31 110 1) ⟨30,[(2,.ptr 0 0 0 0),(3,.ptr 1 0 0 0),(9,.b (a0.Time != a1.Time))],[.box 81 (Wbj a0),.box 81 (Wbj a1)]⟩ ?_
 by_cases c1:a0.Time=a1.Time
 ·replace H:=iT c1 H
  rw [neF c1]
  refine Xl hT 11 (K31 1110 1) ⟨30,[(2,.ptr 0 0 0 0),(3,.ptr 1 0 0 0),(19,.b (a0.Client != a1.Client))],[.box 81 (Wbj a0),.box 81 (Wbj a1)]⟩ ?_
  by_cases c2:a0.Client=a1.Client
  ·replace H:=iT c2 H
   rw [neF c2]
   refine qI ?_
   obtain rfl:=H
   exact qT hT 11 hf hX h0 [] an (.d (.v _))
  replace H:=iF c2 H
  rw [neT c2]
  refine qI ?_
  obtain rfl:=H
  exact qT hT 10 hf hX h0 [] an (.d (.v _))
 replace H:=iF c1 H
 rw [neT c1]
 refine qI ?_
 obtain rfl:=H
 exact qT hT 10 hf hX h0 [] an (.d (.v _))
abbrev Qp.q1 (a0:Ql) (Qq:Int):List Row:=[.box 74 (Qcr a0),.box 78 (Qgd (a0.Log.getD Qq.toNat Qd.z))]
abbrev Qp.q2 (a0:Ql) (Qq:Int):=(Qa6 (Jh ((a0.Log.getD ((IntKind.wrap .i64 (Qq - 1)).toNat) Qd.z).M) ((a0.Log.getD ((IntKind.wrap .i64 (Qq - 1)).toNat) Qd.z).Time)) (Jh ((a0.Log.getD Qq.toNat Qd.z).M) ((a0.Log.getD Qq.toNat Qd.z).Time)))
abbrev Qp.q3 (a0:Ql) (Qq:Int):=(a0.Log.getD Qq.toNat Qd.z)
abbrev Qp.q4 (a0:Ql) (Qq:Int):=(a0.Log.getD ((IntKind.wrap .i64 (Qq - 1)).toNat) Qd.z)
abbrev Qp.p0:List (Nat × AV):=[(1,.ptr 0 0 0 0)]
theorem Qp.Qy (a0:Ql) {r:Bool} (H:Qp a0=some r):Xz Tryz.prog 66 [] [.d (Qhf a0)] [] (.b r):=by
 refine Xj Tryz.func66 rfl (nt:=102) rfl (lb rfl) fun X hP h0 hX=>?_
 have hT:Xb X.P T:=hP▸tok
 have hf:X.P.funcs[66]? = some Tryz.f66:=hP▸Tryz.func66
 refine Xl hT 12 (K66 11010 0) ⟨102,(Qp.p0++[(3,.i 0)]),[.box 74 (Qcr a0)]⟩ ?_
 have L:∀ n,(∀ (Qq:Int),iter (Qp.step a0) n (.l1 Qq)=some r->AK X 66 ((K66 11010 0)) (Yc X [] (.b r)) ⟨102,(Qp.p0++[(3,.i Qq)]),[.box 74 (Qcr a0)]⟩):=by
  intro n
  induction n with
  | zero=>exact fun _ H=>Qal H
  | succ n ih=>
   ·intro Qq H
    refine qI ?_
    rcases sB H with ⟨c1,H⟩ | ⟨c1,H⟩
    ·refine qB hT 9 (decide_eq_true c1) ?_
     refine qE hT 9 (K66 1101001000 3) ⟨102,(Qp.p0++[(3,.i Qq),(14,.d (Qdy true a0.Log)),(15,.i Qq)]),[.box 74 (Qcr a0)]⟩ ?_
     obtain ⟨h2,H⟩:=sC H
     refine qI ?_
     refine qX hT 0 h2 ?_
     refine qE hT 9 (K66 110100100100 2) ⟨102,(Qp.p0++[(3,.i Qq),(4,.ptr 1 0 0 0),(19,.d (Qe0 ((Qp.q3 a0 Qq).M)))]),(Qp.q1 a0 Qq)⟩ ?_
     obtain ⟨v1,h3,H⟩:=sbC H
     have Xy:∀ (Qr5:Bool),stk (Qp.j1 a0 Qq Qr5) (iter (Qp.step a0) n)=some r->AK X 66 ((K66 11010010010 1)) (Yc X [] (.b r)) ⟨102,(Qp.p0++[(3,.i Qq),(4,.ptr 1 0 0 0),(36,.b Qr5)]),(Qp.q1 a0 Qq)⟩:=by
      intro Qr5 H
      by_cases c8:Qr5=true
      ·replace H:=sT c8 H
       rw [c8]
       refine qI ?_
       obtain rfl:=Xr H
       exact qT hT 5 hf hX h0 [] an (.d (.v _))
      replace H:=sF c8 H
      rw [Jo c8]
      refine qI ?_
      obtain ⟨v4,h9,H⟩:=sbC H
      have Jj2:∀ (Qsk:Bool),stk (Qp.j2 a0 Qq Qsk) (iter (Qp.step a0) n)=some r->AK X 66 ((K66 1101001001110 1)) (Yc X [] (.b r)) ⟨102,(Qp.p0++[(3,.i Qq),(4,.ptr 1 0 0 0),(68,.b Qsk)]),(Qp.q1 a0 Qq)⟩:=by
       intro Qsk H
       by_cases c13:Qsk=true
       ·replace H:=sT c13 H
        rw [c13]
        refine qI ?_
        obtain rfl:=Xr H
        exact qT hT 5 hf hX h0 [] an (.d (.v _))
       replace H:=sF c13 H
       have Jj3:∀ (Qj3:Bool),stk (Qp.j3 Qq Qj3) (iter (Qp.step a0) n)=some r->AK X 66 ((K66 1101001001111 1)) (Yc X [] (.b r)) ⟨102,(Qp.p0++[(3,.i Qq),(94,.b Qj3)]),[.box 74 (Qcr a0)]⟩:=by
        intro Qj3 H
        by_cases c16:Qj3=true
        ·replace H:=sT c16 H
         rw [c16]
         refine qI ?_
         obtain rfl:=Xr H
         exact qT hT 5 hf hX h0 [] an (.d (.v _))
        replace H:=sF c16 H
        rw [Jo c16]
        exact Xl hT 9 _ _ (ih (IntKind.wrap .i64 (Qq+1)) H)
       rw [Jo c13]
       refine Xl hT 3 (K66 1101001001111 0) ⟨102,(Qp.p0++[(3,.i Qq),(4,.ptr 1 0 0 0)]),(Qp.q1 a0 Qq)⟩ ?_
       by_cases c14:Qq > 0
       ·replace H:=sT c14 H
        obtain ⟨h15,H⟩:=sC H
        refine Qak (hP▸mixed) 26 [1,3,4] (sm [.i Qq,.b true,.b true,.ptr 0 0 0 8,.d (Qdy true a0.Log),.i Qq,.i (IntKind.wrap .i64 (Qq - 1)),.d (Qfb true a0.Log ((IntKind.wrap .i64 (Qq - 1)).toNat) 0),.d (Qfb true a0.Log ((IntKind.wrap .i64 (Qq - 1)).toNat) 0),.d (Qe0 ((Qp.q4 a0 Qq).M)),.ptr 0 0 0 8,.d (Qdy true a0.Log),.i Qq,.i (IntKind.wrap .i64 (Qq - 1)),.d (Qfb true a0.Log ((IntKind.wrap .i64 (Qq - 1)).toNat) 0),.d (Qfb true a0.Log ((IntKind.wrap .i64 (Qq - 1)).toNat) 7),.i ((Qp.q4 a0 Qq).Time),.d (Qj7 (Jh ((Qp.q4 a0 Qq).M) ((Qp.q4 a0 Qq).Time))),.ptr 1 0 0 0,.d (Qe0 ((Qp.q3 a0 Qq).M)),.ptr 1 0 0 7,.i ((Qp.q3 a0 Qq).Time),.d (Qj7 (Jh ((Qp.q3 a0 Qq).M) ((Qp.q3 a0 Qq).Time))),.b (Qp.q2 a0 Qq),.b (!(Qp.q2 a0 Qq)),.b (!(Qp.q2 a0 Qq))]) (Qe (Qe (Jr (Jr (Qe (Qe (Qe (Qe (Jr (Qe (Qe (Jr (Qe (Qe (Qe (Qe (Qe (Qe (Jr (Qe (Qe (Qe (Qe (Qe (opV (Qe op0 hT) hT 70 (.b (decide (Qq > 0))) (.b true) (by rw [decide_eq_true c14]<;>rfl)) hT) hT) hT) hT) hT) (fun R rest h=>Yf hT (i:=IntKind.wrap .i64 (Qq - 1)) (n:=(a0.Log.length:Int)) h15.1 h15.2 (by kernel_rfl) h)) hT) hT) hT) hT) hT) hT) (fun R rest h=>Yf hT (i:=IntKind.wrap .i64 (Qq - 1)) (n:=(a0.Log.length:Int)) h15.1 h15.2 (by kernel_rfl) h)) hT) hT) (fun R rest h=>Zl (Zk:=[.d (Qe0 ((Qp.q4 a0 Qq).M)),.i ((Qp.q4 a0 Qq).Time)]) (dst:=some 86) hP Qmq (Jh.Qy ((Qp.q4 a0 Qq).M) ((Qp.q4 a0 Qq).Time)) (by kernel_rfl) (.cons (Wj _) (.cons (Wj _) .nil)) (by kernel_rfl) h)) hT) hT) hT) hT) (fun R rest h=>Zl (Zk:=[.d (Qe0 ((Qp.q3 a0 Qq).M)),.i ((Qp.q3 a0 Qq).Time)]) (dst:=some 91) hP Qmq (Jh.Qy ((Qp.q3 a0 Qq).M) ((Qp.q3 a0 Qq).Time)) (by kernel_rfl) (.cons (Wj _) (.cons (Wj _) .nil)) (by kernel_rfl) h)) (fun R rest h=>Zl (Zk:=[.d (Qj7 (Jh ((Qp.q4 a0 Qq).M) ((Qp.q4 a0 Qq).Time))),.d (Qj7 (Jh ((Qp.q3 a0 Qq).M) ((Qp.q3 a0 Qq).Time)))]) (dst:=some 92) hP Qqt (Qa6.Qy (Jh ((Qp.q4 a0 Qq).M) ((Qp.q4 a0 Qq).Time)) (Jh ((Qp.q3 a0 Qq).M) ((Qp.q3 a0 Qq).Time))) (by kernel_rfl) (.cons (Wj _) (.cons (Wj _) .nil)) (by kernel_rfl) h)) hT) hT) ?_
        exact Yp hT 1 _ [0] _ h0 (Jj3 (!(Qp.q2 a0 Qq)) H)
       replace H:=sF c14 H
       refine Qak (hP▸mixed) 26 [1,3,4] (sm [.i Qq,.b false,.b false,.Qn [],.Qn [],.Qn [],.Qn [],.Qn [],.Qn [],.Qn [],.Qn [],.Qn [],.Qn [],.Qn [],.Qn [],.Qn [],.Qn [],.Qn [],.Qn [],.Qn [],.Qn [],.Qn [],.Qn [],.Qn [],.Qn [],.b false]) (Qe (Qe (Qe (Qe (Qe (Qe (Qe (Qe (Qe (Qe (Qe (Qe (Qe (Qe (Qe (Qe (Qe (Qe (Qe (Qe (Qe (Qe (Qe (Qe (opV (Qe op0 hT) hT 70 (.b (decide (Qq > 0))) (.b false) (by rw [decide_eq_false c14]<;>rfl)) hT) hT) hT) hT) hT) hT) hT) hT) hT) hT) hT) hT) hT) hT) hT) hT) hT) hT) hT) hT) hT) hT) hT) hT) ?_
       exact Yp hT 1 _ [0] _ h0 (Jj3 false H)
      refine qF hT 11 hP Qt7 (Zr.Qy a0 (((Qp.q3 a0 Qq).M).Client) (((Qp.q3 a0 Qq).M).Seq) h9) ?_
      refine qE hT 4 (K66 1101001001110 0) ⟨102,(Qp.p0++[(3,.i Qq),(4,.ptr 1 0 0 0),(5,.i v4)]),(Qp.q1 a0 Qq)⟩ ?_
      by_cases c10:v4 < 0
      ·replace H:=sT c10 H
       refine Qak (hP▸mixed) 24 [1,3,4,5] (sm [.i v4,.b true,.b true,.Qn [],.Qn [],.Qn [],.Qn [],.Qn [],.Qn [],.Qn [],.Qn [],.Qn [],.b true,.b true,.Qn [],.Qn [],.Qn [],.Qn [],.Qn [],.Qn [],.Qn [],.Qn [],.Qn [],.b true]) (Qe (Qe (Qe (Qe (Qe (Qe (Qe (Qe (Qe (Qe (Qe (Qe (Qe (Qe (Qe (Qe (Qe (Qe (Qe (Qe (Qe (Qe (opV (Qe op0 hT) hT 46 (.b (decide (v4 < 0))) (.b true) (by rw [decide_eq_true c10]<;>rfl)) hT) hT) hT) hT) hT) hT) hT) hT) hT) hT) hT) hT) hT) hT) hT) hT) hT) hT) hT) hT) hT) hT) ?_
       exact Xl hT 1 _ _ (Jj2 true H)
      replace H:=sF c10 H
      obtain ⟨h11,H⟩:=sC H
      by_cases c12:((a0.Qs.getD v4.toNat Wh.z).Time)=((Qp.q3 a0 Qq).Time)
      ·replace H:=sT c12 H
       refine Qak (hP▸mixed) 24 [1,3,4,5] (sm [.i v4,.b false,.b false,.ptr 0 0 0 9,.d (Qhz true a0.Qs),.i v4,.d (Qi1 true a0.Qs v4.toNat 0),.d (Qi1 true a0.Qs v4.toNat 2),.i ((a0.Qs.getD v4.toNat Wh.z).Time),.ptr 1 0 0 7,.i ((Qp.q3 a0 Qq).Time),.b false,.b false,.b false,.ptr 0 0 0 9,.d (Qhz true a0.Qs),.i v4,.d (Qi1 true a0.Qs v4.toNat 0),.d (Qi1 true a0.Qs v4.toNat 3),.b ((a0.Qs.getD v4.toNat Wh.z).Zw),.ptr 1 0 0 8,.b ((Qp.q3 a0 Qq).Zw),.b (!(((a0.Qs.getD v4.toNat Wh.z).Zw) == ((Qp.q3 a0 Qq).Zw))),.b (!(((a0.Qs.getD v4.toNat Wh.z).Zw) == ((Qp.q3 a0 Qq).Zw)))]) (Qe (Qe (Qe (Qe (Qe (Qe (Jr (Qe (Qe (Qe (Qe (Qe (opV (Qe (Qe (Qe (Qe (Jr (Qe (Qe (Qe (Qe (opV (Qe op0 hT) hT 46 (.b (decide (v4 < 0))) (.b false) (by rw [decide_eq_false c10]<;>rfl)) hT) hT) hT) hT) (fun R rest h=>Yf hT (i:=v4) (n:=(a0.Qs.length:Int)) h11.1 h11.2 (by kernel_rfl) h)) hT) hT) hT) hT) hT 56 (.b (((a0.Qs.getD v4.toNat Wh.z).Time) != ((Qp.q3 a0 Qq).Time))) (.b false) (by rw [neF c12]<;>rfl)) hT) hT) hT) hT) hT) (fun R rest h=>Yf hT (i:=v4) (n:=(a0.Qs.length:Int)) h11.1 h11.2 (by kernel_rfl) h)) hT) hT) hT) hT) hT) hT) ?_
       exact Xl hT 1 _ _ (Jj2 (!(((a0.Qs.getD v4.toNat Wh.z).Zw) == ((Qp.q3 a0 Qq).Zw))) H)
      replace H:=sF c12 H
      refine Qak (hP▸mixed) 24 [1,3,4,5] (sm [.i v4,.b false,.b false,.ptr 0 0 0 9,.d (Qhz true a0.Qs),.i v4,.d (Qi1 true a0.Qs v4.toNat 0),.d (Qi1 true a0.Qs v4.toNat 2),.i ((a0.Qs.getD v4.toNat Wh.z).Time),.ptr 1 0 0 7,.i ((Qp.q3 a0 Qq).Time),.b true,.b true,.b true,.Qn [],.Qn [],.Qn [],.Qn [],.Qn [],.Qn [],.Qn [],.Qn [],.Qn [],.b true]) (Qe (Qe (Qe (Qe (Qe (Qe (Qe (Qe (Qe (Qe (Qe (Qe (opV (Qe (Qe (Qe (Qe (Jr (Qe (Qe (Qe (Qe (opV (Qe op0 hT) hT 46 (.b (decide (v4 < 0))) (.b false) (by rw [decide_eq_false c10]<;>rfl)) hT) hT) hT) hT) (fun R rest h=>Yf hT (i:=v4) (n:=(a0.Qs.length:Int)) h11.1 h11.2 (by kernel_rfl) h)) hT) hT) hT) hT) hT 56 (.b (((a0.Qs.getD v4.toNat Wh.z).Time) != ((Qp.q3 a0 Qq).Time))) (.b true) (by rw [neT c12]<;>rfl)) hT) hT) hT) hT) hT) hT) hT) hT) hT) hT) hT) hT) ?_
      exact Xl hT 1 _ _ (Jj2 true H)
     refine qI ?_
     refine qF hT 0 hP Qpf (Wi.Qy ((Qp.q3 a0 Qq).M) h3) ?_
     refine qE hT 2 (K66 110100100100 5) ⟨102,(Qp.p0++[(3,.i Qq),(4,.ptr 1 0 0 0),(22,.b (!v1))]),(Qp.q1 a0 Qq)⟩ ?_
     refine qI ?_
     rcases sB H with ⟨c4,H⟩ | ⟨c4,H⟩
     ·refine qB hT 0 (show (!v1)=false by rw [c4];rfl) ?_
      refine qE hT 3 (K66 110100100100 8) ⟨102,(Qp.p0++[(3,.i Qq),(4,.ptr 1 0 0 0),(22,.b false),(23,.d (Qhf a0)),(25,.d (Qe0 ((Qp.q3 a0 Qq).M)))]),(Qp.q1 a0 Qq)⟩ ?_
      obtain ⟨v2,h5,H⟩:=sbC H
      refine qI ?_
      refine qF hT 0 hP Qt6 (Za.Qy a0 ((Qp.q3 a0 Qq).M) h5) ?_
      refine qE hT 3 (K66 110100100100 12) ⟨102,(Qp.p0++[(3,.i Qq),(4,.ptr 1 0 0 0),(29,.b (!v2))]),(Qp.q1 a0 Qq)⟩ ?_
      refine qI ?_
      rcases sB H with ⟨c6,H⟩ | ⟨c6,H⟩
      ·refine qB hT 0 (show (!v2)=false by rw [c6];rfl) ?_
       refine qE hT 4 (K66 110100100100 16) ⟨102,(Qp.p0++[(3,.i Qq),(4,.ptr 1 0 0 0),(29,.b false),(31,.i ((Qp.q3 a0 Qq).Time)),(33,.i a0.Clock)]),(Qp.q1 a0 Qq)⟩ ?_
       refine Jj (Zk:=[.i ((Qp.q3 a0 Qq).Time),.i 0,.i a0.Clock]) (dst:=some 34) (k':=(K66 110100100100 17)) [1,3,4,29,34] [] hP Qji (Zf.Qy ((Qp.q3 a0 Qq).Time) 0 a0.Clock) (by kernel_rfl) (Jy _) (.cons (Wj _) (.cons (Wj _) (.cons (Wj _) .nil))) (st':=⟨102,(Qp.p0++[(3,.i Qq),(4,.ptr 1 0 0 0),(29,.b false),(34,.b (Zf ((Qp.q3 a0 Qq).Time) 0 a0.Clock))]),(Qp.q1 a0 Qq)⟩) (by kernel_rfl) ?_
       obtain ⟨v3,h7,H⟩:=sdC H
       rw [<- h7]
       exact Xl hT 3 _ _ (Xy (!v3) H)
      refine qB hT 0 (show (!v2)=true by rw [Jo c6];rfl) ?_
      exact qE hT 8 _ _ (Xy true H)
     refine qB hT 0 (show (!v1)=true by rw [Jo c4];rfl) ?_
     exact qE hT 15 _ _ (Xy true H)
    refine qB hT 9 (decide_eq_false c1) ?_
    obtain rfl:=Xr H
    exact qT hT 13 hf hX h0 [] an (.d (.v _))
 obtain ⟨n,H⟩:=Qbp H
 exact (L n) 0 H
theorem Jm.Qy (a0:Ql) (a1:Int) (a2:Int) {r:Int} (H:Jm a0 a1 a2=some r):Xz Tryz.prog 107 [] [.d (Qhf a0),.i a1,.i a2] [] (.i r):=by
 refine Xj Tryz.func107 rfl (nt:=36) rfl (lb rfl) fun X hP h0 hX=>?_
 have hT:Xb X.P T:=hP▸tok
 have hf:X.P.funcs[107]? = some Tryz.f107:=hP▸Tryz.func107
 refine Xl hT 12 (Qxs 11010 0) ⟨36,[(1,.i a1),(2,.i a2),(3,.ptr 0 0 0 0),(7,.i 0)],[.box 74 (Qcr a0)]⟩ ?_
 have L:∀ n,(∀ (Ws:Int),iter (Jm.step a0 a1 a2) n (.l1 Ws)=some r->AK X 107 ((Qxs 11010 0)) (Yc X [] (.i r)) ⟨36,[(1,.i a1),(2,.i a2),(3,.ptr 0 0 0 0),(7,.i Ws)],[.box 74 (Qcr a0)]⟩):=by
  intro n
  induction n with
  | zero=>exact fun _ H=>Qal H
  | succ n ih=>
   ·intro Ws H
    refine qI ?_
    rcases sB H with ⟨c1,H⟩ | ⟨c1,H⟩
    ·refine qB hT 9 (decide_eq_true c1) ?_
     refine qE hT 9 (Qxs 1101001000 3) ⟨36,[(1,.i a1),(2,.i a2),(3,.ptr 0 0 0 0),(7,.i Ws),(16,.d (Qk3 true a0.Held)),(17,.i Ws)],[.box 74 (Qcr a0)]⟩ ?_
     obtain ⟨h2,H⟩:=sC H
     have Xy:∀ (Qe4:Bool),stk (Jm.j1 Ws Qe4) (iter (Jm.step a0 a1 a2) n)=some r->AK X 107 ((Qxs 110100100 1)) (Yc X [] (.i r)) ⟨36,[(1,.i a1),(2,.i a2),(3,.ptr 0 0 0 0),(7,.i Ws),(34,.b Qe4)],[.box 74 (Qcr a0)]⟩:=by
      intro Qe4 H
      by_cases c4:Qe4=true
      ·replace H:=sT c4 H
       rw [c4]
       refine qI ?_
       obtain rfl:=Xr H
       exact qT hT 6 hf hX h0 [] an (.d (.v _))
      replace H:=sF c4 H
      rw [Jo c4]
      exact Xl hT 9 _ _ (ih (IntKind.wrap .i64 (Ws+1)) H)
     refine qI ?_
     refine qX hT 0 h2 ?_
     refine qE hT 6 (Qxs 1101001000 10) ⟨36,[(1,.i a1),(2,.i a2),(3,.ptr 0 0 0 0),(7,.i Ws),(24,.b ((((a0.Held.getD Ws.toNat Qz.z).M).Client) == a1))],[.box 74 (Qcr a0)]⟩ ?_
     by_cases c3:(((a0.Held.getD Ws.toNat Qz.z).M).Client)=a1
     ·replace H:=sT c3 H
      rw [eqT c3]
      refine qI ?_
      refine qX hT 3 h2 ?_
      exact qE hT 7 _ _ (Xy ((((a0.Held.getD Ws.toNat Qz.z).M).Seq) == a2) H)
     replace H:=sF c3 H
     rw [eqF c3]
     exact Xl hT 11 _ _ (Xy false H)
    refine qB hT 9 (decide_eq_false c1) ?_
    obtain rfl:=Xr H
    exact qT hT 6 hf hX h0 [] an (.d (.v _))
 obtain ⟨n,H⟩:=Qbp H
 exact (L n) 0 H
abbrev Qv.q1 (a0:Ql) (Qq:Int):List Row:=[.box 74 (Qcr a0),.box 121 (Wmf (a0.Held.getD Qq.toNat Qz.z))]
abbrev Qv.q2 (a0:Ql) (Qq:Int):=(a0.Held.getD Qq.toNat Qz.z)
abbrev Qv.q3 (a0:Ql) (Zq:Int):=(Jh ((a0.Log.getD Zq.toNat Qd.z).M) ((a0.Log.getD Zq.toNat Qd.z).Time))
abbrev Qv.p0:List (Nat × AV):=[(1,.ptr 0 0 0 0)]
theorem Qv.Qy (a0:Ql) {r:Bool} (H:Qv a0=some r):Xz Tryz.prog 67 [] [.d (Qhf a0)] [] (.b r):=by
 refine Xj Tryz.func67 rfl (nt:=86) rfl (lb rfl) fun X hP h0 hX=>?_
 have hT:Xb X.P T:=hP▸tok
 have hf:X.P.funcs[67]? = some Tryz.f67:=hP▸Tryz.func67
 refine Xl hT 12 (K67 11010 0) ⟨86,(Qv.p0++[(3,.i 0)]),[.box 74 (Qcr a0)]⟩ ?_
 have L:∀ n,(∀ (Qq:Int),iter (Qv.step a0) n (.l1 Qq)=some r->AK X 67 ((K67 11010 0)) (Yc X [] (.b r)) ⟨86,(Qv.p0++[(3,.i Qq)]),[.box 74 (Qcr a0)]⟩)/\(∀ (Qmm:Int) (Zq:Int) (Yu:Int) (Ye:Int) (Zy:Int) (Qac:List Qg) (Qad:Int) (Jt:Int) (Qae:Int) (Qaf:Int) (Qaz:Bool) (Qa0:List Yh),iter (Qv.step a0) n (.l2 Qmm Zq Yu Ye Zy Qac Qad Jt Qae Qaf Qaz Qa0)=some r->AK X 67 ((K67 1101001001110 0)) (Yc X [] (.b r)) ⟨86,(Qv.p0++[(3,.i Qmm),(4,.ptr 1 0 0 0),(5,.i Zq)]),[.box 74 (Qcr a0),.box 121 [.i Yu,.i Ye,.i Zy,.d (Yg true Qac),.i Qad,.i Jt,.i Qae,.i Qaf,.b Qaz,.d (Qpe true Qa0)]]⟩):=by
  intro n
  induction n with
  | zero=>exact ⟨fun _ H=>Qal H,fun _ _ _ _ _ _ _ _ _ _ _ _ H=>Qal H⟩
  | succ n ih=>
   refine ⟨?_, ?_⟩
   ·intro Qq H
    refine qI ?_
    rcases sB H with ⟨c1,H⟩ | ⟨c1,H⟩
    ·refine qB hT 9 (decide_eq_true c1) ?_
     refine qE hT 9 (K67 1101001000 3) ⟨86,(Qv.p0++[(3,.i Qq),(14,.d (Qk3 true a0.Held)),(15,.i Qq)]),[.box 74 (Qcr a0)]⟩ ?_
     obtain ⟨h2,H⟩:=sC H
     refine qI ?_
     refine qX hT 0 h2 ?_
     refine qE hT 9 (K67 110100100100 2) ⟨86,(Qv.p0++[(3,.i Qq),(4,.ptr 1 0 0 0),(19,.d (Qe0 ((Qv.q2 a0 Qq).M)))]),(Qv.q1 a0 Qq)⟩ ?_
     obtain ⟨v1,h3,H⟩:=sbC H
     have Xy:∀ (Qsf:Bool),stk (Qv.j1 a0 Qq Qsf) (iter (Qv.step a0) n)=some r->AK X 67 ((K67 11010010010 1)) (Yc X [] (.b r)) ⟨86,(Qv.p0++[(3,.i Qq),(4,.ptr 1 0 0 0),(59,.b Qsf)]),(Qv.q1 a0 Qq)⟩:=by
      intro Qsf H
      by_cases c12:Qsf=true
      ·replace H:=sT c12 H
       rw [c12]
       refine qI ?_
       obtain rfl:=Xr H
       exact qT hT 5 hf hX h0 [] an (.d (.v _))
      replace H:=sF c12 H
      rw [Jo c12]
      exact Yp hT 8 _ [0,1] _ h0 (ih.2 Qq 0 (((Qv.q2 a0 Qq).M).Client) (((Qv.q2 a0 Qq).M).Seq) (((Qv.q2 a0 Qq).M).Kind) (((Qv.q2 a0 Qq).M).Pairs) ((((Qv.q2 a0 Qq).M).Over).Lo) ((((Qv.q2 a0 Qq).M).Over).Hi) (((Qv.q2 a0 Qq).M).Old) ((Qv.q2 a0 Qq).Time) ((Qv.q2 a0 Qq).Qcq) ((Qv.q2 a0 Qq).Qdk) H)
     refine qI ?_
     refine qF hT 0 hP Qpf (Wi.Qy ((Qv.q2 a0 Qq).M) h3) ?_
     refine qE hT 2 (K67 110100100100 5) ⟨86,(Qv.p0++[(3,.i Qq),(4,.ptr 1 0 0 0),(22,.b (!v1))]),(Qv.q1 a0 Qq)⟩ ?_
     refine qI ?_
     rcases sB H with ⟨c4,H⟩ | ⟨c4,H⟩
     ·refine qB hT 0 (show (!v1)=false by rw [c4];rfl) ?_
      refine qE hT 3 (K67 110100100100 8) ⟨86,(Qv.p0++[(3,.i Qq),(4,.ptr 1 0 0 0),(22,.b false),(23,.d (Qhf a0)),(25,.d (Qe0 ((Qv.q2 a0 Qq).M)))]),(Qv.q1 a0 Qq)⟩ ?_
      obtain ⟨v2,h5,H⟩:=sbC H
      refine qI ?_
      refine qF hT 0 hP Qt6 (Za.Qy a0 ((Qv.q2 a0 Qq).M) h5) ?_
      refine qE hT 3 (K67 110100100100 12) ⟨86,(Qv.p0++[(3,.i Qq),(4,.ptr 1 0 0 0),(29,.b (!v2))]),(Qv.q1 a0 Qq)⟩ ?_
      refine qI ?_
      rcases sB H with ⟨c6,H⟩ | ⟨c6,H⟩
      ·refine qB hT 0 (show (!v2)=false by rw [c6];rfl) ?_
       refine qE hT 4 (K67 110100100100 16) ⟨86,(Qv.p0++[(3,.i Qq),(4,.ptr 1 0 0 0),(29,.b false),(31,.i ((Qv.q2 a0 Qq).Time)),(33,.i a0.Clock)]),(Qv.q1 a0 Qq)⟩ ?_
       refine Jj (Zk:=[.i ((Qv.q2 a0 Qq).Time),.i 1,.i a0.Clock]) (dst:=some 34) (k':=(K67 110100100100 17)) [1,3,4,29,34] [] hP Qji (Zf.Qy ((Qv.q2 a0 Qq).Time) 1 a0.Clock) (by kernel_rfl) (Jy _) (.cons (Wj _) (.cons (Wj _) (.cons (Wj _) .nil))) (st':=⟨86,(Qv.p0++[(3,.i Qq),(4,.ptr 1 0 0 0),(29,.b false),(34,.b (Zf ((Qv.q2 a0 Qq).Time) 1 a0.Clock))]),(Qv.q1 a0 Qq)⟩) (by kernel_rfl) ?_
       obtain ⟨v3,h7,H⟩:=sdC H
       rw [<- h7]
       refine qI ?_
       rcases sB H with ⟨c8,H⟩ | ⟨c8,H⟩
       ·refine qB hT 3 (show (!v3)=false by rw [c8];rfl) ?_
        refine qE hT 7 (K67 110100100100 27) ⟨86,(Qv.p0++[(3,.i Qq),(4,.ptr 1 0 0 0),(37,.b false),(38,.d (Qhf a0)),(41,.i (((Qv.q2 a0 Qq).M).Client)),(44,.i (((Qv.q2 a0 Qq).M).Seq))]),(Qv.q1 a0 Qq)⟩ ?_
        obtain ⟨v4,h9,H⟩:=sbC H
        refine qI ?_
        refine qF hT 0 hP Wbm (Jm.Qy a0 (((Qv.q2 a0 Qq).M).Client) (((Qv.q2 a0 Qq).M).Seq) h9) ?_
        refine qE hT 4 (K67 110100100100 32) ⟨86,(Qv.p0++[(3,.i Qq),(4,.ptr 1 0 0 0),(49,.b (v4 != Qq))]),(Qv.q1 a0 Qq)⟩ ?_
        by_cases c10:v4=Qq
        ·replace H:=sT c10 H
         rw [neF c10]
         refine qI ?_
         obtain ⟨v5,h11,H⟩:=sbC H
         refine qF hT 7 hP Qt7 (Zr.Qy a0 (((Qv.q2 a0 Qq).M).Client) (((Qv.q2 a0 Qq).M).Seq) h11) ?_
         exact qE hT 3 _ _ (Xy (decide (v5>=0)) H)
        replace H:=sF c10 H
        rw [neT c10]
        exact Xl hT 11 _ _ (Xy true H)
       refine qB hT 3 (show (!v3)=true by rw [Jo c8];rfl) ?_
       exact qE hT 23 _ _ (Xy true H)
      refine qB hT 0 (show (!v2)=true by rw [Jo c6];rfl) ?_
      exact qE hT 31 _ _ (Xy true H)
     refine qB hT 0 (show (!v1)=true by rw [Jo c4];rfl) ?_
     exact qE hT 38 _ _ (Xy true H)
    refine qB hT 9 (decide_eq_false c1) ?_
    obtain rfl:=Xr H
    exact qT hT 6 hf hX h0 [] an (.d (.v _))
   intro Qmm Zq Yu Ye Zy Qac Qad Jt Qae Qaf Qaz Qa0 H
   refine qI ?_
   rcases sB H with ⟨c13,H⟩ | ⟨c13,H⟩
   ·refine qB hT 9 (decide_eq_true c13) ?_
    refine qE hT 5 (K67 11010010011100100 0) ⟨86,(Qv.p0++[(3,.i Qmm),(4,.ptr 1 0 0 0),(5,.i Zq)]),[.box 74 (Qcr a0),.box 121 [.i Yu,.i Ye,.i Zy,.d (Yg true Qac),.i Qad,.i Jt,.i Qae,.i Qaf,.b Qaz,.d (Qpe true Qa0)]]⟩ ?_
    obtain ⟨h14,H⟩:=sC H
    refine Qak (hP▸mixed) 19 [1,3,4,5] (sm [.ptr 1 0 0 0,.d (.agg [.i Yu,.i Ye,.i Zy,Yg true Qac,.i Qad,.i Jt,.i Qae]),.ptr 1 0 0 7,.i Qaf,.d (Qj7 (Jh (⟨Yu,Ye,Zy,Qac,(⟨Qad,Jt⟩:Qi),Qae⟩:Xe) Qaf)),.ptr 0 0 0 8,.d (Qdy true a0.Log),.i Zq,.d (Qfb true a0.Log Zq.toNat 0),.d (Qfb true a0.Log Zq.toNat 0),.d (Qe0 ((a0.Log.getD Zq.toNat Qd.z).M)),.ptr 0 0 0 8,.d (Qdy true a0.Log),.i Zq,.d (Qfb true a0.Log Zq.toNat 0),.d (Qfb true a0.Log Zq.toNat 7),.i ((a0.Log.getD Zq.toNat Qd.z).Time),.d (Qj7 (Qv.q3 a0 Zq)),.b (Qa6 (Jh (⟨Yu,Ye,Zy,Qac,(⟨Qad,Jt⟩:Qi),Qae⟩:Xe) Qaf) (Qv.q3 a0 Zq))]) (Jr (Jr (Qe (Qe (Jr (Qe (Qe (Qe (Qe (Qe (Jr (Qe (Qe (Qe (Jr (Qe (Qe (Qe (Qe op0 hT) hT) hT) hT) (fun R rest h=>Zl (Zk:=[.d (.agg [.i Yu,.i Ye,.i Zy,Yg true Qac,.i Qad,.i Jt,.i Qae]),.i Qaf]) (dst:=some 71) hP Qmq (Jh.Qy (⟨Yu,Ye,Zy,Qac,(⟨Qad,Jt⟩:Qi),Qae⟩:Xe) Qaf) (by kernel_rfl) (.cons (Wj _) (.cons (Wj _) .nil)) (by kernel_rfl) h)) hT) hT) hT) (fun R rest h=>Yf hT (i:=Zq) (n:=(a0.Log.length:Int)) h14.1 h14.2 (by kernel_rfl) h)) hT) hT) hT) hT) hT) (fun R rest h=>Yf hT (i:=Zq) (n:=(a0.Log.length:Int)) h14.1 h14.2 (by kernel_rfl) h)) hT) hT) (fun R rest h=>Zl (Zk:=[.d (Qe0 ((a0.Log.getD Zq.toNat Qd.z).M)),.i ((a0.Log.getD Zq.toNat Qd.z).Time)]) (dst:=some 84) hP Qmq (Jh.Qy ((a0.Log.getD Zq.toNat Qd.z).M) ((a0.Log.getD Zq.toNat Qd.z).Time)) (by kernel_rfl) (.cons (Wj _) (.cons (Wj _) .nil)) (by kernel_rfl) h)) (fun R rest h=>Zl (Zk:=[.d (Qj7 (Jh (⟨Yu,Ye,Zy,Qac,(⟨Qad,Jt⟩:Qi),Qae⟩:Xe) Qaf)),.d (Qj7 (Qv.q3 a0 Zq))]) (dst:=some 85) hP Qqt (Qa6.Qy (Jh (⟨Yu,Ye,Zy,Qac,(⟨Qad,Jt⟩:Qi),Qae⟩:Xe) Qaf) (Qv.q3 a0 Zq)) (by kernel_rfl) (.cons (Wj _) (.cons (Wj _) .nil)) (by kernel_rfl) h)) ?_
    refine qI ?_
    rcases sB H with ⟨c15,H⟩ | ⟨c15,H⟩
    ·refine qB hT 1 (c15) ?_
     obtain rfl:=Xr H
     exact qT hT 5 hf hX h0 [] an (.d (.v _))
    refine qB hT 1 (Jo c15) ?_
    exact qE hT 9 _ _ (ih.2 Qmm (IntKind.wrap .i64 (Zq+1)) Yu Ye Zy Qac Qad Jt Qae Qaf Qaz Qa0 H)
   refine qB hT 9 (decide_eq_false c13) ?_
   exact qC hT 9 _ [0] _ h0 (ih.1 (IntKind.wrap .i64 (Qmm+1)) H)
 obtain ⟨n,H⟩:=Qbp H
 exact (L n).1 0 H
abbrev Qk.q1 (a0:Ql) (Yk:Int):=(a0.Qs.getD ((IntKind.wrap .i64 (Yk - 1)).toNat) Wh.z)
abbrev Qk.q2 (a0:Ql) (Yk:Int):List Row:=[.box 74 (Qcr a0),.box 90 (Wif (a0.Qs.getD Yk.toNat Wh.z))]
abbrev Qk.q3 (a0:Ql) (Yk:Int):=(a0.Qs.getD Yk.toNat Wh.z)
abbrev Qk.p0:List (Nat × AV):=[(1,.ptr 0 0 0 0)]
theorem Qk.Qy (a0:Ql) {r:Bool} (H:Qk a0=some r):Xz Tryz.prog 29 [] [.d (Qhf a0)] [] (.b r):=by
 refine Xj Tryz.func29 rfl (nt:=152) rfl (lb rfl) fun X hP h0 hX=>?_
 have hT:Xb X.P T:=hP▸tok
 have hf:X.P.funcs[29]? = some Tryz.f29:=hP▸Tryz.func29
 have Xy:∀ (Qr6:Bool),(Qk.j1 a0 Qr6)=some r->AK X 29 ((K29 110 1)) (Yc X [] (.b r)) ⟨152,(Qk.p0++[(37,.b Qr6)]),[.box 74 (Qcr a0)]⟩:=by
  intro Qr6 H
  by_cases c6:Qr6=true
  ·replace H:=iT c6 H
   rw [c6]
   refine qI ?_
   obtain rfl:=Xr H
   exact qT hT 5 hf hX h0 [] an (.d (.v _))
  replace H:=iF c6 H
  rw [Jo c6]
  refine Xl hT 9 (K29 111010 0) ⟨152,(Qk.p0++[(3,.i 0)]),[.box 74 (Qcr a0)]⟩ ?_
  have L:∀ n,(∀ (Qq:Int),iter (Qk.step a0) n (.l1 Qq)=some r->AK X 29 ((K29 111010 0)) (Yc X [] (.b r)) ⟨152,(Qk.p0++[(3,.i Qq)]),[.box 74 (Qcr a0)]⟩)/\(∀ (Yk:Int),iter (Qk.step a0) n (.l2 Yk)=some r->AK X 29 ((K29 1111010 0)) (Yc X [] (.b r)) ⟨152,(Qk.p0++[(4,.i Yk)]),[.box 74 (Qcr a0)]⟩):=by
   intro n
   induction n with
   | zero=>exact ⟨fun _ H=>Qal H,fun _ H=>Qal H⟩
   | succ n ih=>
    refine ⟨?_, ?_⟩
    ·intro Qq H
     refine qI ?_
     rcases sB H with ⟨c7,H⟩ | ⟨c7,H⟩
     ·refine qB hT 9 (decide_eq_true c7) ?_
      refine qE hT 5 (K29 1110100100 0) ⟨152,(Qk.p0++[(3,.i Qq)]),[.box 74 (Qcr a0)]⟩ ?_
      obtain ⟨h8,H⟩:=sC H
      have Jj2:∀ (Qsj:Bool),stk (Qk.j2 Qq Qsj) (iter (Qk.step a0) n)=some r->AK X 29 ((K29 1110100100 1)) (Yc X [] (.b r)) ⟨152,(Qk.p0++[(3,.i Qq),(66,.b Qsj)]),[.box 74 (Qcr a0)]⟩:=by
       intro Qsj H
       by_cases c10:Qsj=true
       ·replace H:=sT c10 H
        rw [c10]
        refine qI ?_
        obtain rfl:=Xr H
        exact qT hT 5 hf hX h0 [] an (.d (.v _))
       replace H:=sF c10 H
       rw [Jo c10]
       exact Xl hT 9 _ _ (ih.1 (IntKind.wrap .i64 (Qq+1)) H)
      by_cases c9:((a0.Base.getD Qq.toNat Qg.z).Key) < a0.Keys.Lo
      ·replace H:=sT c9 H
       refine Qak (hP▸mixed) 22 [1,3] (sm [.ptr 0 0 0 7,.d (Yg true a0.Base),.i Qq,.d (Qd5 true a0.Base Qq.toNat 0),.d (Qd5 true a0.Base Qq.toNat 0),.i ((a0.Base.getD Qq.toNat Qg.z).Key),.ptr 0 0 0 1,.ptr 0 0 0 1,.i a0.Keys.Lo,.b true,.b true,.Qn [],.Qn [],.Qn [],.Qn [],.Qn [],.Qn [],.Qn [],.Qn [],.Qn [],.Qn [],.b true]) (Qe (Qe (Qe (Qe (Qe (Qe (Qe (Qe (Qe (Qe (Qe (Qe (opV (Qe (Qe (Qe (Qe (Qe (Jr (Qe (Qe (Qe op0 hT) hT) hT) (fun R rest h=>Yf hT (i:=Qq) (n:=(a0.Base.length:Int)) h8.1 h8.2 (by kernel_rfl) h)) hT) hT) hT) hT) hT) hT 54 (.b (decide (((a0.Base.getD Qq.toNat Qg.z).Key) < a0.Keys.Lo))) (.b true) (by rw [decide_eq_true c9]<;>rfl)) hT) hT) hT) hT) hT) hT) hT) hT) hT) hT) hT) hT) ?_
       exact Xl hT 1 _ _ (Jj2 true H)
      replace H:=sF c9 H
      refine Qak (hP▸mixed) 22 [1,3] (sm [.ptr 0 0 0 7,.d (Yg true a0.Base),.i Qq,.d (Qd5 true a0.Base Qq.toNat 0),.d (Qd5 true a0.Base Qq.toNat 0),.i ((a0.Base.getD Qq.toNat Qg.z).Key),.ptr 0 0 0 1,.ptr 0 0 0 1,.i a0.Keys.Lo,.b false,.b false,.ptr 0 0 0 7,.d (Yg true a0.Base),.i Qq,.d (Qd5 true a0.Base Qq.toNat 0),.d (Qd5 true a0.Base Qq.toNat 0),.i ((a0.Base.getD Qq.toNat Qg.z).Key),.ptr 0 0 0 1,.ptr 0 0 0 2,.i a0.Keys.Hi,.b (decide (((a0.Base.getD Qq.toNat Qg.z).Key)>=a0.Keys.Hi)),.b (decide (((a0.Base.getD Qq.toNat Qg.z).Key)>=a0.Keys.Hi))]) (Qe (Qe (Qe (Qe (Qe (Qe (Qe (Jr (Qe (Qe (Qe (Qe (opV (Qe (Qe (Qe (Qe (Qe (Jr (Qe (Qe (Qe op0 hT) hT) hT) (fun R rest h=>Yf hT (i:=Qq) (n:=(a0.Base.length:Int)) h8.1 h8.2 (by kernel_rfl) h)) hT) hT) hT) hT) hT) hT 54 (.b (decide (((a0.Base.getD Qq.toNat Qg.z).Key) < a0.Keys.Lo))) (.b false) (by rw [decide_eq_false c9]<;>rfl)) hT) hT) hT) hT) (fun R rest h=>Yf hT (i:=Qq) (n:=(a0.Base.length:Int)) h8.1 h8.2 (by kernel_rfl) h)) hT) hT) hT) hT) hT) hT) hT) ?_
      exact Xl hT 1 _ _ (Jj2 (decide (((a0.Base.getD Qq.toNat Qg.z).Key)>=a0.Keys.Hi)) H)
     refine qB hT 9 (decide_eq_false c7) ?_
     exact qE hT 9 _ _ (ih.2 0 H)
    intro Yk H
    refine Xl hT 9 (K29 111101000 1) ⟨152,(Qk.p0++[(4,.i Yk),(71,.b (decide (Yk < (a0.Qs.length:Int))))]),[.box 74 (Qcr a0)]⟩ ?_
    by_cases c11:Yk < (a0.Qs.length:Int)
    ·replace H:=sT c11 H
     rw [decide_eq_true c11]
     refine qI ?_
     obtain ⟨h18,H⟩:=sC H
     refine qX hT 9 h18 ?_
     refine qE hT 9 (K29 11110100100100 2) ⟨152,(Qk.p0++[(4,.i Yk),(5,.ptr 1 0 0 0),(80,.i ((Qk.q3 a0 Yk).Client))]),(Qk.q2 a0 Yk)⟩ ?_
     refine Jj (Zk:=[.i ((Qk.q3 a0 Yk).Client),.i 1,.i 1048576]) (dst:=some 81) (k':=(K29 11110100100100 3)) [1,4,5,81] [] hP Qji (Zf.Qy ((Qk.q3 a0 Yk).Client) 1 1048576) (by kernel_rfl) (Jy _) (.cons (Wj _) (.cons (Wj _) (.cons (Wj _) .nil))) (st':=⟨152,(Qk.p0++[(4,.i Yk),(5,.ptr 1 0 0 0),(81,.b (Zf ((Qk.q3 a0 Yk).Client) 1 1048576))]),(Qk.q2 a0 Yk)⟩) (by kernel_rfl) ?_
     obtain ⟨v4,h19,H⟩:=sdC H
     have Jj5:∀ (Qsq:Bool),stk (Qk.j5 a0 Yk Qsq) (iter (Qk.step a0) n)=some r->AK X 29 ((K29 1111010010010 1)) (Yc X [] (.b r)) ⟨152,(Qk.p0++[(4,.i Yk),(5,.ptr 1 0 0 0),(94,.b Qsq)]),(Qk.q2 a0 Yk)⟩:=by
      intro Qsq H
      by_cases c24:Qsq=true
      ·replace H:=sT c24 H
       rw [c24]
       refine qI ?_
       obtain rfl:=Xr H
       exact qT hT 5 hf hX h0 [] an (.d (.v _))
      replace H:=sF c24 H
      have Jj6:∀ (Qo4:Bool),stk (Qk.j6 Yk Qo4) (iter (Qk.step a0) n)=some r->AK X 29 ((K29 1111010010011 1)) (Yc X [] (.b r)) ⟨152,(Qk.p0++[(4,.i Yk),(132,.b Qo4)]),[.box 74 (Qcr a0)]⟩:=by
       intro Qo4 H
       by_cases c29:Qo4=true
       ·replace H:=sT c29 H
        rw [c29]
        refine qI ?_
        obtain rfl:=Xr H
        exact qT hT 5 hf hX h0 [] an (.d (.v _))
       replace H:=sF c29 H
       rw [Jo c29]
       exact Xl hT 9 _ _ (ih.2 (IntKind.wrap .i64 (Yk+1)) H)
      rw [Jo c24]
      refine Xl hT 3 (K29 1111010010011 0) ⟨152,(Qk.p0++[(4,.i Yk),(5,.ptr 1 0 0 0)]),(Qk.q2 a0 Yk)⟩ ?_
      by_cases c25:Yk > 0
      ·replace H:=sT c25 H
       obtain ⟨h26,H⟩:=sC H
       by_cases c27:((Qk.q1 a0 Yk).Client) > ((Qk.q3 a0 Yk).Client)
       ·replace H:=sT c27 H
        refine Qak (hP▸mixed) 38 [1,4,5] (sm [.i Yk,.b true,.b true,.ptr 0 0 0 9,.d (Qhz true a0.Qs),.i Yk,.i (IntKind.wrap .i64 (Yk - 1)),.d (Qi1 true a0.Qs ((IntKind.wrap .i64 (Yk - 1)).toNat) 0),.d (Qi1 true a0.Qs ((IntKind.wrap .i64 (Yk - 1)).toNat) 0),.i ((Qk.q1 a0 Yk).Client),.ptr 1 0 0 0,.i ((Qk.q3 a0 Yk).Client),.b true,.b true,.Qn [],.Qn [],.Qn [],.Qn [],.Qn [],.Qn [],.Qn [],.Qn [],.Qn [],.Qn [],.Qn [],.Qn [],.Qn [],.Qn [],.Qn [],.Qn [],.Qn [],.Qn [],.Qn [],.Qn [],.Qn [],.Qn [],.b true,.b true]) (Qe (Qe (Qe (Qe (Qe (Qe (Qe (Qe (Qe (Qe (Qe (Qe (Qe (Qe (Qe (Qe (Qe (Qe (Qe (Qe (Qe (Qe (Qe (Qe (Qe (opV (Qe (Qe (Qe (Qe (Jr (Qe (Qe (Qe (Qe (Qe (opV (Qe op0 hT) hT 96 (.b (decide (Yk > 0))) (.b true) (by rw [decide_eq_true c25]<;>rfl)) hT) hT) hT) hT) hT) (fun R rest h=>Yf hT (i:=IntKind.wrap .i64 (Yk - 1)) (n:=(a0.Qs.length:Int)) h26.1 h26.2 (by kernel_rfl) h)) hT) hT) hT) hT) hT 107 (.b (decide (((Qk.q1 a0 Yk).Client) > ((Qk.q3 a0 Yk).Client)))) (.b true) (by rw [decide_eq_true c27]<;>rfl)) hT) hT) hT) hT) hT) hT) hT) hT) hT) hT) hT) hT) hT) hT) hT) hT) hT) hT) hT) hT) hT) hT) hT) hT) hT) ?_
        exact Yp hT 1 _ [0] _ h0 (Jj6 true H)
       replace H:=sF c27 H
       by_cases c28:((Qk.q1 a0 Yk).Client)=((Qk.q3 a0 Yk).Client)
       ·replace H:=sT c28 H
        refine Qak (hP▸mixed) 38 [1,4,5] (sm [.i Yk,.b true,.b true,.ptr 0 0 0 9,.d (Qhz true a0.Qs),.i Yk,.i (IntKind.wrap .i64 (Yk - 1)),.d (Qi1 true a0.Qs ((IntKind.wrap .i64 (Yk - 1)).toNat) 0),.d (Qi1 true a0.Qs ((IntKind.wrap .i64 (Yk - 1)).toNat) 0),.i ((Qk.q1 a0 Yk).Client),.ptr 1 0 0 0,.i ((Qk.q3 a0 Yk).Client),.b false,.b false,.ptr 0 0 0 9,.d (Qhz true a0.Qs),.i Yk,.i (IntKind.wrap .i64 (Yk - 1)),.d (Qi1 true a0.Qs ((IntKind.wrap .i64 (Yk - 1)).toNat) 0),.d (Qi1 true a0.Qs ((IntKind.wrap .i64 (Yk - 1)).toNat) 0),.i ((Qk.q1 a0 Yk).Client),.ptr 1 0 0 0,.i ((Qk.q3 a0 Yk).Client),.b true,.b true,.ptr 0 0 0 9,.d (Qhz true a0.Qs),.i Yk,.i (IntKind.wrap .i64 (Yk - 1)),.d (Qi1 true a0.Qs ((IntKind.wrap .i64 (Yk - 1)).toNat) 0),.d (Qi1 true a0.Qs ((IntKind.wrap .i64 (Yk - 1)).toNat) 1),.i ((Qk.q1 a0 Yk).Seq),.ptr 1 0 0 1,.i ((Qk.q3 a0 Yk).Seq),.b (decide (((Qk.q1 a0 Yk).Seq)>=((Qk.q3 a0 Yk).Seq))),.b (decide (((Qk.q1 a0 Yk).Seq)>=((Qk.q3 a0 Yk).Seq))),.b (decide (((Qk.q1 a0 Yk).Seq)>=((Qk.q3 a0 Yk).Seq))),.b (decide (((Qk.q1 a0 Yk).Seq)>=((Qk.q3 a0 Yk).Seq)))]) (Qe (Qe (Qe (Qe (Qe (Qe (Qe (Qe (Jr (Qe (Qe (Qe (Qe (Qe (opV (Qe (Qe (Qe (Qe (Jr (Qe (Qe (Qe (Qe (Qe (opV (Qe (Qe (Qe (Qe (Jr (Qe (Qe (Qe (Qe (Qe (opV (Qe op0 hT) hT 96 (.b (decide (Yk > 0))) (.b true) (by rw [decide_eq_true c25]<;>rfl)) hT) hT) hT) hT) hT) (fun R rest h=>Yf hT (i:=IntKind.wrap .i64 (Yk - 1)) (n:=(a0.Qs.length:Int)) h26.1 h26.2 (by kernel_rfl) h)) hT) hT) hT) hT) hT 107 (.b (decide (((Qk.q1 a0 Yk).Client) > ((Qk.q3 a0 Yk).Client)))) (.b false) (by rw [decide_eq_false c27]<;>rfl)) hT) hT) hT) hT) hT) (fun R rest h=>Yf hT (i:=IntKind.wrap .i64 (Yk - 1)) (n:=(a0.Qs.length:Int)) h26.1 h26.2 (by kernel_rfl) h)) hT) hT) hT) hT) hT 118 (.b (((Qk.q1 a0 Yk).Client) == ((Qk.q3 a0 Yk).Client))) (.b true) (by rw [eqT c28]<;>rfl)) hT) hT) hT) hT) hT) (fun R rest h=>Yf hT (i:=IntKind.wrap .i64 (Yk - 1)) (n:=(a0.Qs.length:Int)) h26.1 h26.2 (by kernel_rfl) h)) hT) hT) hT) hT) hT) hT) hT) hT) ?_
        exact Yp hT 1 _ [0] _ h0 (Jj6 (decide (((Qk.q1 a0 Yk).Seq)>=((Qk.q3 a0 Yk).Seq))) H)
       replace H:=sF c28 H
       refine Qak (hP▸mixed) 38 [1,4,5] (sm [.i Yk,.b true,.b true,.ptr 0 0 0 9,.d (Qhz true a0.Qs),.i Yk,.i (IntKind.wrap .i64 (Yk - 1)),.d (Qi1 true a0.Qs ((IntKind.wrap .i64 (Yk - 1)).toNat) 0),.d (Qi1 true a0.Qs ((IntKind.wrap .i64 (Yk - 1)).toNat) 0),.i ((Qk.q1 a0 Yk).Client),.ptr 1 0 0 0,.i ((Qk.q3 a0 Yk).Client),.b false,.b false,.ptr 0 0 0 9,.d (Qhz true a0.Qs),.i Yk,.i (IntKind.wrap .i64 (Yk - 1)),.d (Qi1 true a0.Qs ((IntKind.wrap .i64 (Yk - 1)).toNat) 0),.d (Qi1 true a0.Qs ((IntKind.wrap .i64 (Yk - 1)).toNat) 0),.i ((Qk.q1 a0 Yk).Client),.ptr 1 0 0 0,.i ((Qk.q3 a0 Yk).Client),.b false,.b false,.Qn [],.Qn [],.Qn [],.Qn [],.Qn [],.Qn [],.Qn [],.Qn [],.Qn [],.Qn [],.b false,.b false,.b false]) (Qe (Qe (Qe (Qe (Qe (Qe (Qe (Qe (Qe (Qe (Qe (Qe (Qe (Qe (opV (Qe (Qe (Qe (Qe (Jr (Qe (Qe (Qe (Qe (Qe (opV (Qe (Qe (Qe (Qe (Jr (Qe (Qe (Qe (Qe (Qe (opV (Qe op0 hT) hT 96 (.b (decide (Yk > 0))) (.b true) (by rw [decide_eq_true c25]<;>rfl)) hT) hT) hT) hT) hT) (fun R rest h=>Yf hT (i:=IntKind.wrap .i64 (Yk - 1)) (n:=(a0.Qs.length:Int)) h26.1 h26.2 (by kernel_rfl) h)) hT) hT) hT) hT) hT 107 (.b (decide (((Qk.q1 a0 Yk).Client) > ((Qk.q3 a0 Yk).Client)))) (.b false) (by rw [decide_eq_false c27]<;>rfl)) hT) hT) hT) hT) hT) (fun R rest h=>Yf hT (i:=IntKind.wrap .i64 (Yk - 1)) (n:=(a0.Qs.length:Int)) h26.1 h26.2 (by kernel_rfl) h)) hT) hT) hT) hT) hT 118 (.b (((Qk.q1 a0 Yk).Client) == ((Qk.q3 a0 Yk).Client))) (.b false) (by rw [eqF c28]<;>rfl)) hT) hT) hT) hT) hT) hT) hT) hT) hT) hT) hT) hT) hT) hT) ?_
       exact Yp hT 1 _ [0] _ h0 (Jj6 false H)
      replace H:=sF c25 H
      refine Qak (hP▸mixed) 38 [1,4,5] (sm [.i Yk,.b false,.b false,.Qn [],.Qn [],.Qn [],.Qn [],.Qn [],.Qn [],.Qn [],.Qn [],.Qn [],.Qn [],.Qn [],.Qn [],.Qn [],.Qn [],.Qn [],.Qn [],.Qn [],.Qn [],.Qn [],.Qn [],.Qn [],.Qn [],.Qn [],.Qn [],.Qn [],.Qn [],.Qn [],.Qn [],.Qn [],.Qn [],.Qn [],.Qn [],.Qn [],.Qn [],.b false]) (Qe (Qe (Qe (Qe (Qe (Qe (Qe (Qe (Qe (Qe (Qe (Qe (Qe (Qe (Qe (Qe (Qe (Qe (Qe (Qe (Qe (Qe (Qe (Qe (Qe (Qe (Qe (Qe (Qe (Qe (Qe (Qe (Qe (Qe (Qe (Qe (opV (Qe op0 hT) hT 96 (.b (decide (Yk > 0))) (.b false) (by rw [decide_eq_false c25]<;>rfl)) hT) hT) hT) hT) hT) hT) hT) hT) hT) hT) hT) hT) hT) hT) hT) hT) hT) hT) hT) hT) hT) hT) hT) hT) hT) hT) hT) hT) hT) hT) hT) hT) hT) hT) hT) hT) ?_
      exact Yp hT 1 _ [0] _ h0 (Jj6 false H)
     rw [<- h19]
     refine qI ?_
     rcases sB H with ⟨c20,H⟩ | ⟨c20,H⟩
     ·refine qB hT 2 (show (!v4)=false by rw [c20];rfl) ?_
      refine qE hT 2 (K29 11110100100100 7) ⟨152,(Qk.p0++[(4,.i Yk),(5,.ptr 1 0 0 0),(83,.b false),(85,.i ((Qk.q3 a0 Yk).Seq))]),(Qk.q2 a0 Yk)⟩ ?_
      refine Jj (Zk:=[.i ((Qk.q3 a0 Yk).Seq),.i 1,.i 1073741824]) (dst:=some 86) (k':=(K29 11110100100100 8)) [1,4,5,83,86] [] hP Qji (Zf.Qy ((Qk.q3 a0 Yk).Seq) 1 1073741824) (by kernel_rfl) (Jy _) (.cons (Wj _) (.cons (Wj _) (.cons (Wj _) .nil))) (st':=⟨152,(Qk.p0++[(4,.i Yk),(5,.ptr 1 0 0 0),(83,.b false),(86,.b (Zf ((Qk.q3 a0 Yk).Seq) 1 1073741824))]),(Qk.q2 a0 Yk)⟩) (by kernel_rfl) ?_
      obtain ⟨v5,h21,H⟩:=sdC H
      rw [<- h21]
      refine qI ?_
      rcases sB H with ⟨c22,H⟩ | ⟨c22,H⟩
      ·refine qB hT 3 (show (!v5)=false by rw [c22];rfl) ?_
       refine qE hT 2 (K29 11110100100100 13) ⟨152,(Qk.p0++[(4,.i Yk),(5,.ptr 1 0 0 0),(89,.b false),(91,.i ((Qk.q3 a0 Yk).Time))]),(Qk.q2 a0 Yk)⟩ ?_
       refine Jj (Zk:=[.i ((Qk.q3 a0 Yk).Time),.i 0,.i 1099511627775]) (dst:=some 92) (k':=(K29 11110100100100 14)) [1,4,5,89,92] [] hP Qji (Zf.Qy ((Qk.q3 a0 Yk).Time) 0 1099511627775) (by kernel_rfl) (Jy _) (.cons (Wj _) (.cons (Wj _) (.cons (Wj _) .nil))) (st':=⟨152,(Qk.p0++[(4,.i Yk),(5,.ptr 1 0 0 0),(89,.b false),(92,.b (Zf ((Qk.q3 a0 Yk).Time) 0 1099511627775))]),(Qk.q2 a0 Yk)⟩) (by kernel_rfl) ?_
       obtain ⟨v6,h23,H⟩:=sdC H
       rw [<- h23]
       exact Xl hT 3 _ _ (Jj5 (!v6) H)
      refine qB hT 3 (show (!v5)=true by rw [Jo c22];rfl) ?_
      exact qE hT 6 _ _ (Jj5 true H)
     refine qB hT 2 (show (!v4)=true by rw [Jo c20];rfl) ?_
     exact qE hT 12 _ _ (Jj5 true H)
    replace H:=sF c11 H
    have Jj3:∀ (Qo2:Bool),stk (Qk.j3 a0 Qo2) (iter (Qk.step a0) n)=some r->AK X 29 ((K29 111110 1)) (Yc X [] (.b r)) ⟨152,(Qk.p0++[(145,.b Qo2)]),[.box 74 (Qcr a0)]⟩:=by
     intro Qo2 H
     by_cases c14:Qo2=true
     ·replace H:=sT c14 H
      rw [c14]
      refine qI ?_
      obtain rfl:=Xr H
      exact qT hT 5 hf hX h0 [] an (.d (.v _))
     replace H:=sF c14 H
     rw [Jo c14]
     refine qI ?_
     obtain ⟨v2,h15,H⟩:=sbC H
     have Jj4:∀ (Qia:Bool),stk (Qk.j4 Qia) (iter (Qk.step a0) n)=some r->AK X 29 ((K29 111111 1)) (Yc X [] (.b r)) ⟨152,[(2,.b Qia)],[]⟩:=by
      intro Qia H
      obtain rfl:=Xr H
      exact Qc0 hf hX h0 (.b Qia) [] an (.d (.v _))
     refine qF hT 5 hP Wfm (Qp.Qy a0 h15) ?_
     refine qE hT 1 (K29 1111110 3) ⟨152,(Qk.p0++[(148,.b v2)]),[.box 74 (Qcr a0)]⟩ ?_
     refine qI ?_
     rcases sB H with ⟨c16,H⟩ | ⟨c16,H⟩
     ·refine qB hT 0 (c16) ?_
      refine qE hT 1 (K29 1111110 4) ⟨152,[(148,.b true),(149,.d (Qhf a0))],[.box 74 (Qcr a0)]⟩ ?_
      obtain ⟨v3,h17,H⟩:=sbC H
      refine qI ?_
      refine qF hT 0 hP Wfn (Qv.Qy a0 h17) ?_
      exact qC hT 3 _ [] _ h0 (Jj4 v3 H)
     refine qB hT 0 (Jo c16) ?_
     exact qC hT 5 _ [] _ h0 (Jj4 false H)
    rw [decide_eq_false c11]
    refine qI ?_
    rcases sB H with ⟨c12,H⟩ | ⟨c12,H⟩
    ·refine qB hT 8 (c12) ?_
     refine qE hT 4 (K29 1111100 7) ⟨152,(Qk.p0++[(135,.b true),(139,.b (!a0.Qa1))]),[.box 74 (Qcr a0)]⟩ ?_
     refine qI ?_
     rcases sB H with ⟨c13,H⟩ | ⟨c13,H⟩
     ·refine qB hT 0 (show (!a0.Qa1)=false by rw [c13];rfl) ?_
      exact qE hT 7 _ _ (Jj3 (decide ((a0.Held.length:Int) > 0)) H)
     refine qB hT 0 (show (!a0.Qa1)=true by rw [Jo c13];rfl) ?_
     exact qE hT 7 _ _ (Jj3 true H)
    refine qB hT 8 (Jo c12) ?_
    exact qE hT 11 _ _ (Jj3 false H)
  obtain ⟨n,H⟩:=Qbp H
  exact (L n).1 0 H
 refine qI ?_
 refine qF hT 10 hP Qji (Zf.Qy a0.ID 1 65536) ?_
 refine qE hT 2 (K29 1100 5) ⟨152,(Qk.p0++[(10,.b (!(Zf a0.ID 1 65536)))]),[.box 74 (Qcr a0)]⟩ ?_
 refine qI ?_
 rcases iB H with ⟨c1,H⟩ | ⟨c1,H⟩
 ·refine qB hT 0 (show (!(Zf a0.ID 1 65536))=false by rw [c1];rfl) ?_
  refine qE hT 2 (K29 1100 7) ⟨152,(Qk.p0++[(10,.b false),(12,.d (Qpd a0.Keys))]),[.box 74 (Qcr a0)]⟩ ?_
  refine qI ?_
  refine qF hT 0 hP Qnu (Qaa.Qy a0.Keys) ?_
  refine qE hT 3 (K29 1100 11) ⟨152,(Qk.p0++[(16,.b (!(Qaa a0.Keys)))]),[.box 74 (Qcr a0)]⟩ ?_
  refine qI ?_
  rcases iB H with ⟨c2,H⟩ | ⟨c2,H⟩
  ·refine qB hT 0 (show (!(Qaa a0.Keys))=false by rw [c2];rfl) ?_
   refine qE hT 2 (K29 1100 13) ⟨152,(Qk.p0++[(16,.b false),(18,.i a0.Clock)]),[.box 74 (Qcr a0)]⟩ ?_
   refine qI ?_
   refine qF hT 0 hP Qji (Zf.Qy a0.Clock 0 1099511627775) ?_
   refine qE hT 3 (K29 1100 17) ⟨152,(Qk.p0++[(22,.b (!(Zf a0.Clock 0 1099511627775)))]),[.box 74 (Qcr a0)]⟩ ?_
   refine qI ?_
   rcases iB H with ⟨c3,H⟩ | ⟨c3,H⟩
   ·refine qB hT 0 (show (!(Zf a0.Clock 0 1099511627775))=false by rw [c3];rfl) ?_
    refine qE hT 10 (K29 1100 27) ⟨152,(Qk.p0++[(32,.b (decide ((IntKind.wrap .i64 ((a0.Held.length:Int)+(a0.Qs.length:Int))) > 1000)))]),[.box 74 (Qcr a0)]⟩ ?_
    refine qI ?_
    rcases iB H with ⟨c4,H⟩ | ⟨c4,H⟩
    ·refine qB hT 0 (decide_eq_true c4) ?_
     exact qE hT 6 _ _ (Xy true H)
    refine qB hT 0 (decide_eq_false c4) ?_
    refine qE hT 2 (K29 1100 29) ⟨152,(Qk.p0++[(32,.b false),(34,.d (Yg true a0.Base))]),[.box 74 (Qcr a0)]⟩ ?_
    obtain ⟨v1,h5,H⟩:=ibC H
    refine qI ?_
    refine qF hT 0 hP Wfl (Ym.Qy (t0:=true) a0.Base h5) ?_
    exact qE hT 3 _ _ (Xy (!v1) H)
   refine qB hT 0 (show (!(Zf a0.Clock 0 1099511627775))=true by rw [Jo c3];rfl) ?_
   exact qE hT 16 _ _ (Xy true H)
  refine qB hT 0 (show (!(Qaa a0.Keys))=true by rw [Jo c2];rfl) ?_
  exact qE hT 22 _ _ (Xy true H)
 refine qB hT 0 (show (!(Zf a0.ID 1 65536))=true by rw [Jo c1];rfl) ?_
 exact qE hT 28 _ _ (Xy true H)
abbrev Ya.p0:List (Nat × AV):=[(2,.ptr 0 0 0 0),(3,.ptr 1 0 0 0)]
theorem Ya.Qy (a0:Xe) (a1:Xe) {r:Bool} (H:Ya a0 a1=some r):Xz Tryz.prog 30 [] [.d (Qe0 a0),.d (Qe0 a1)] [] (.b r):=by
 refine Xj Tryz.func30 rfl (nt:=66) rfl (lb rfl) fun X hP h0 hX=>?_
 have hT:Xb X.P T:=hP▸tok
 have hf:X.P.funcs[30]? = some Tryz.f30:=hP▸Tryz.func30
 have Xy:∀ (Qsb:Bool),(Ya.j1 a0 a1 Qsb)=some r->AK X 30 ((K30 110 1)) (Yc X [] (.b r)) ⟨66,(Ya.p0++[(47,.b Qsb)]),[.box 76 (Qce a0),.box 76 (Qce a1)]⟩:=by
  intro Qsb H
  by_cases c8:Qsb=true
  ·replace H:=iT c8 H
   rw [c8]
   refine qI ?_
   obtain rfl:=Xr H
   exact qT hT 5 hf hX h0 [] an (.d (.v _))
  replace H:=iF c8 H
  rw [Jo c8]
  refine Xl hT 9 (K30 111010 0) ⟨66,(Ya.p0++[(5,.i 0)]),[.box 76 (Qce a0),.box 76 (Qce a1)]⟩ ?_
  have L:∀ n,(∀ (Xi:Int),iter (Ya.step a0 a1) n (.l1 Xi)=some r->AK X 30 ((K30 111010 0)) (Yc X [] (.b r)) ⟨66,(Ya.p0++[(5,.i Xi)]),[.box 76 (Qce a0),.box 76 (Qce a1)]⟩):=by
   intro n
   induction n with
   | zero=>exact fun _ H=>Qal H
   | succ n ih=>
    ·intro Xi H
     refine qI ?_
     rcases sB H with ⟨c9,H⟩ | ⟨c9,H⟩
     ·refine qB hT 9 (decide_eq_true c9) ?_
      refine qE hT 5 (K30 1110100100 0) ⟨66,(Ya.p0++[(5,.i Xi)]),[.box 76 (Qce a0),.box 76 (Qce a1)]⟩ ?_
      obtain ⟨h10,H⟩:=sC H
      obtain ⟨h11,H⟩:=sC H
      refine Qak (hP▸mixed) 11 [2,3,5] (sm [.ptr 0 0 0 3,.d (Yg true a0.Pairs),.i Xi,.d (Qd5 true a0.Pairs Xi.toNat 0),.d (Wjw (a0.Pairs.getD Xi.toNat Qg.z)),.ptr 1 0 0 3,.d (Yg true a1.Pairs),.i Xi,.d (Qd5 true a1.Pairs Xi.toNat 0),.d (Wjw (a1.Pairs.getD Xi.toNat Qg.z)),.b (!((((a0.Pairs.getD Xi.toNat Qg.z).Key) == ((a1.Pairs.getD Xi.toNat Qg.z).Key)) && (((a0.Pairs.getD Xi.toNat Qg.z).Val) == ((a1.Pairs.getD Xi.toNat Qg.z).Val))))]) (Qe (Qe (Jr (Qe (Qe (Qe (Qe (Jr (Qe (Qe (Qe op0 hT) hT) hT) (fun R rest h=>Yf hT (i:=Xi) (n:=(a0.Pairs.length:Int)) h10.1 h10.2 (by kernel_rfl) h)) hT) hT) hT) hT) (fun R rest h=>Yf hT (i:=Xi) (n:=(a1.Pairs.length:Int)) h11.1 h11.2 (by kernel_rfl) h)) hT) hT) ?_
      refine Xl hT 1 (K30 1110100100 1) ⟨66,(Ya.p0++[(5,.i Xi),(65,.b (!((((a0.Pairs.getD Xi.toNat Qg.z).Key) == ((a1.Pairs.getD Xi.toNat Qg.z).Key)) && (((a0.Pairs.getD Xi.toNat Qg.z).Val) == ((a1.Pairs.getD Xi.toNat Qg.z).Val)))))]),[.box 76 (Qce a0),.box 76 (Qce a1)]⟩ ?_
      by_cases c12:((a0.Pairs.getD Xi.toNat Qg.z).Key)=((a1.Pairs.getD Xi.toNat Qg.z).Key)
      ·replace H:=sT c12 H
       rw [eqT c12]
       by_cases c13:((a0.Pairs.getD Xi.toNat Qg.z).Val)=((a1.Pairs.getD Xi.toNat Qg.z).Val)
       ·replace H:=sT c13 H
        rw [eqT c13]
        exact Xl hT 9 _ _ (ih (IntKind.wrap .i64 (Xi+1)) H)
       replace H:=sF c13 H
       rw [eqF c13]
       refine qI ?_
       obtain rfl:=Xr H
       exact qT hT 5 hf hX h0 [] an (.d (.v _))
      replace H:=sF c12 H
      rw [eqF c12]
      by_cases c14:((a0.Pairs.getD Xi.toNat Qg.z).Val)=((a1.Pairs.getD Xi.toNat Qg.z).Val)
      ·replace H:=sT c14 H
       rw [eqT c14]
       refine qI ?_
       obtain rfl:=Xr H
       exact qT hT 5 hf hX h0 [] an (.d (.v _))
      replace H:=sF c14 H
      rw [eqF c14]
      refine qI ?_
      obtain rfl:=Xr H
      exact qT hT 5 hf hX h0 [] an (.d (.v _))
     refine qB hT 9 (decide_eq_false c9) ?_
     obtain rfl:=Xr H
     exact qT hT 6 hf hX h0 [] an (.d (.v _))
  obtain ⟨n,H⟩:=Qbp H
  exact (L n) 0 H
 refine Xl hT 15 (K30 1100 6) ⟨66,(Ya.p0++[(11,.b (a0.Client != a1.Client))]),[.box 76 (Qce a0),.box 76 (Qce a1)]⟩ ?_
 by_cases c1:a0.Client=a1.Client
 ·replace H:=iT c1 H
  rw [neF c1]
  refine Xl hT 7 (K30 1100 13) ⟨66,(Ya.p0++[(18,.b (a0.Seq != a1.Seq))]),[.box 76 (Qce a0),.box 76 (Qce a1)]⟩ ?_
  by_cases c2:a0.Seq=a1.Seq
  ·replace H:=iT c2 H
   rw [neF c2]
   refine Xl hT 7 (K30 1100 20) ⟨66,(Ya.p0++[(25,.b (a0.Kind != a1.Kind))]),[.box 76 (Qce a0),.box 76 (Qce a1)]⟩ ?_
   by_cases c3:a0.Kind=a1.Kind
   ·replace H:=iT c3 H
    rw [neF c3]
    refine Xl hT 7 (K30 1100 27) ⟨66,(Ya.p0++[(32,.b (!((a0.Over.Lo == a1.Over.Lo) && (a0.Over.Hi == a1.Over.Hi))))]),[.box 76 (Qce a0),.box 76 (Qce a1)]⟩ ?_
    by_cases c4:a0.Over.Lo=a1.Over.Lo
    ·replace H:=iT c4 H
     rw [eqT c4]
     by_cases c5:a0.Over.Hi=a1.Over.Hi
     ·replace H:=iT c5 H
      rw [eqT c5]
      refine Xl hT 7 (K30 1100 34) ⟨66,(Ya.p0++[(39,.b (a0.Old != a1.Old))]),[.box 76 (Qce a0),.box 76 (Qce a1)]⟩ ?_
      by_cases c6:a0.Old=a1.Old
      ·replace H:=iT c6 H
       rw [neF c6]
       exact Xl hT 9 _ _ (Xy ((a0.Pairs.length:Int) != (a1.Pairs.length:Int)) H)
      replace H:=iF c6 H
      rw [neT c6]
      exact Xl hT 9 _ _ (Xy true H)
     replace H:=iF c5 H
     rw [eqF c5]
     exact Xl hT 16 _ _ (Xy true H)
    replace H:=iF c4 H
    rw [eqF c4]
    by_cases c7:a0.Over.Hi=a1.Over.Hi
    ·replace H:=iT c7 H
     rw [eqT c7]
     exact Xl hT 16 _ _ (Xy true H)
    replace H:=iF c7 H
    rw [eqF c7]
    exact Xl hT 16 _ _ (Xy true H)
   replace H:=iF c3 H
   rw [neT c3]
   exact Xl hT 23 _ _ (Xy true H)
  replace H:=iF c2 H
  rw [neT c2]
  exact Xl hT 30 _ _ (Xy true H)
 replace H:=iF c1 H
 rw [neT c1]
 exact Xl hT 37 _ _ (Xy true H)
theorem Qao.Qy (a0:Qd):Xz Tryz.prog 32 [] [.d (Qtf a0)] [] (.d (Qj7 (Qao a0))):=by
 obtain ⟨r,H⟩:∃ r,Qao a0=r:=⟨_,rfl⟩
 rw [H]
 refine Xj Tryz.func32 rfl (nt:=12) rfl (lb rfl) fun X hP h0 hX=>?_
 have hT:Xb X.P T:=hP▸tok
 have hf:X.P.funcs[32]? = some Tryz.f32:=hP▸Tryz.func32
 refine Xl hT 18 (K32 11 1) ⟨12,[(2,.ptr 1 0 0 0)],[.box 78 (Qgd a0),.box 81 [.i a0.Time,.i a0.M.Client,.i a0.M.Seq]]⟩ ?_
 obtain rfl:=H
 exact Qhw hT hf hX (av:=.d (.agg [.i a0.Time,.i a0.M.Client,.i a0.M.Seq])) (by kernel_rfl) [] (Qbu (by kernel_rfl)) (by decide) (by rw [h0];rfl) (by kernel_rfl) an (.d (.agg (Qa7.nl _)))
abbrev Qf.q1 (a0:List Ql) (Wn:Int) (Yz:Int):=(((a0.getD Wn.toNat Ql.z).Log).getD Yz.toNat Qd.z)
abbrev Qf.q2 (Wm:List Qd) (a0:List Ql) (Wn:Int) (Yz:Int) (Qaq:List Qd) (Zo:Int):List Row:=[Jq Wm,.box 78 (Qgd (Qf.q1 a0 Wn Yz)),Jq Qaq,.box 78 (Qgd (Wm.getD Zo.toNat Qd.z))]
abbrev Qf.q3 (Wm:List Qd) (Zo:Int):=(Wm.getD Zo.toNat Qd.z)
abbrev Qf.p0 (t0:Bool) (a0:List Ql):List (Nat × AV):=[(0,.d (Qfo t0 a0))]
theorem Qf.Qy {t0:Bool} (a0:List Ql) {r:(List Qd) × Int} (H:Qf a0=some r):Xz Tryz.prog 8 [] [.d (Qfo t0 a0)] [Jq r.1] (.Qn [.own 0 9 0 r.1.length,.i r.2]):=by
 refine Xj Tryz.func8 rfl (nt:=123) rfl (lb rfl) fun X hP h0 hX=>?_
 have hT:Xb X.P T:=hP▸tok
 have hf:X.P.funcs[8]? = some Tryz.f8:=hP▸Tryz.func8
 have L:∀ n,(∀ (Wy:Int),iter (Qf.step a0) n (.l1 Wy)=some r->AK X 8 ((K8 11010 0)) (Yc X [Jq r.1] (.Qn [.own 0 9 0 r.1.length,.i r.2])) ⟨123,(Qf.p0 t0 a0++[(4,.i Wy)]),[]⟩)/\(∀ (Qc2:Int) (Zm:List Qd),iter (Qf.step a0) n (.l2 Qc2 Zm)=some r->AK X 8 ((K8 1111010 0)) (Yc X [Jq r.1] (.Qn [.own 0 9 0 r.1.length,.i r.2])) ⟨123,(Qf.p0 t0 a0++[(5,.own 0 9 0 Zm.length),(6,.i Qc2)]),[Jq Zm]⟩)/\(∀ (Wn:Int) (Yz:Int) (Wm:List Qd),iter (Qf.step a0) n (.l3 Wn Yz Wm)=some r->AK X 8 ((K8 1111010010010 0)) (Yc X [Jq r.1] (.Qn [.own 0 9 0 r.1.length,.i r.2])) ⟨123,(Qf.p0 t0 a0++[(5,.own 0 9 0 Wm.length),(6,.i Wn),(7,.i Yz)]),[Jq Wm]⟩)/\(∀ (Wn:Int) (Yz:Int) (Wm:List Qd) (Qer:Bool) (Qch:Bool) (Zo:Int) (Qaq:List Qd),iter (Qf.step a0) n (.l4 Wn Yz Wm Qer Qch Zo Qaq)=some r->AK X 8 ((K8 11110100100100100111010 0)) (Yc X [Jq r.1] (.Qn [.own 0 9 0 r.1.length,.i r.2])) ⟨123,(Qf.p0 t0 a0++[(5,.own 0 9 0 Wm.length),(6,.i Wn),(7,.i Yz),(8,.ptr 1 0 0 0),(9,.own 2 9 0 Qaq.length),(10,.b Qer),(11,.b Qch),(12,.i Zo)]),[Jq Wm,.box 78 (Qgd (Qf.q1 a0 Wn Yz)),Jq Qaq]⟩):=by
  intro n
  induction n with
  | zero=>exact ⟨fun _ H=>Qal H,fun _ _ H=>Qal H,fun _ _ _ H=>Qal H,fun _ _ _ _ _ _ _ H=>Qal H⟩
  | succ n ih=>
   refine ⟨?_, ?_, ?_, ?_⟩
   ·intro Wy H
    refine qI ?_
    rcases sB H with ⟨c1,H⟩ | ⟨c1,H⟩
    ·refine qB hT 8 (decide_eq_true c1) ?_
     refine qE hT 8 (K8 1101001000 2) ⟨123,(Qf.p0 t0 a0++[(4,.i Wy),(20,.d (Qfo t0 a0)),(21,.i Wy)]),[]⟩ ?_
     obtain ⟨h2,H⟩:=sC H
     refine qI ?_
     refine qX hT 0 h2 ?_
     refine qE hT 1 (K8 1101001000 4) ⟨123,(Qf.p0 t0 a0++[(4,.i Wy),(23,.d (Qhf (a0.getD Wy.toNat Ql.z)))]),[]⟩ ?_
     obtain ⟨v1,h3,H⟩:=sbC H
     refine qI ?_
     refine qF hT 0 hP We9 (Qk.Qy (a0.getD Wy.toNat Ql.z) h3) ?_
     refine qE hT 2 (K8 110100100 1) ⟨123,(Qf.p0 t0 a0++[(4,.i Wy),(25,.b (!v1))]),[]⟩ ?_
     refine qI ?_
     rcases sB H with ⟨c4,H⟩ | ⟨c4,H⟩
     ·refine qB hT 0 (show (!v1)=false by rw [c4];rfl) ?_
      exact qC hT 9 _ [] _ h0 (ih.1 (IntKind.wrap .i64 (Wy+1)) H)
     refine qB hT 0 (show (!v1)=true by rw [Jo c4];rfl) ?_
     refine qE hT 6 (K8 11010010010 1) ⟨123,[(2,.ns),(3,.i 1)],[]⟩ ?_
     refine Qdj [2,3] 2 9 78 (vec Qd.e Qd.z []) (st':=⟨123,[(2,.own 0 9 0 0),(3,.i 1)],[Jq ([]:List Qd)]⟩) (by kernel_rfl) (by kernel_rfl) ?_
     obtain rfl:=Xr H
     exact Qc0 hf hX h0 (.Qn [.own 0 9 0 0,.i 1]) [0] (ac (Qat Qd.nl) an) (.Qn (.cons (.own _ _ _ _) (.cons (.d (.v _)) .nil)))
    refine qB hT 8 (decide_eq_false c1) ?_
    refine qE hT 13 (K8 1111010 0) ⟨123,(Qf.p0 t0 a0++[(5,.ns),(6,.i 0)]),[]⟩ ?_
    refine Qdj [0,5,6] 5 9 78 (vec Qd.e Qd.z []) (st':=⟨123,(Qf.p0 t0 a0++[(5,.own 0 9 0 0),(6,.i 0)]),[Jq ([]:List Qd)]⟩) (by kernel_rfl) (by kernel_rfl) ?_
    refine Qg4 [0] ⟨123,(Qf.p0 t0 a0++[(5,.own 0 9 0 ([]:List Qd).length),(6,.i 0)]),[Jq ([]:List Qd)]⟩ h0 ?_
    exact ih.2.1 0 ([]:List Qd) H
   ·intro Qc2 Zm H
    refine qI ?_
    rcases sB H with ⟨c5,H⟩ | ⟨c5,H⟩
    ·refine qB hT 8 (decide_eq_true c5) ?_
     exact qC hT 10 _ [0] _ h0 (ih.2.2.1 Qc2 0 Zm H)
    refine qB hT 8 (decide_eq_false c5) ?_
    obtain rfl:=Xr H
    exact qT hT 8 hf hX h0 [0] (ac (Qat Qd.nl) an) (.Qn (.cons (.own _ _ _ _) (.cons (.d (.v _)) .nil)))
   ·intro Wn Yz Wm H
    refine qI ?_
    obtain ⟨h6,H⟩:=sC H
    refine qX hT 6 h6 ?_
    refine qE hT 5 (K8 111101001001000 1) ⟨123,(Qf.p0 t0 a0++[(5,.own 0 9 0 Wm.length),(6,.i Wn),(7,.i Yz),(39,.b (decide (Yz < (((a0.getD Wn.toNat Ql.z).Log).length:Int))))]),[Jq Wm]⟩ ?_
    refine qI ?_
    rcases sB H with ⟨c7,H⟩ | ⟨c7,H⟩
    ·refine qB hT 0 (decide_eq_true c7) ?_
     refine qE hT 8 (K8 111101001001001000 2) ⟨123,(Qf.p0 t0 a0++[(5,.own 0 9 0 Wm.length),(6,.i Wn),(7,.i Yz),(42,.d (Qfo t0 a0)),(43,.i Wn)]),[Jq Wm]⟩ ?_
     refine qI ?_
     refine qX hT 0 h6 ?_
     refine qE hT 3 (K8 111101001001001000 6) ⟨123,(Qf.p0 t0 a0++[(5,.own 0 9 0 Wm.length),(6,.i Wn),(7,.i Yz),(46,.d (Qdy true ((a0.getD Wn.toNat Ql.z).Log))),(47,.i Yz)]),[Jq Wm]⟩ ?_
     obtain ⟨h8,H⟩:=sC H
     refine qI ?_
     refine qX hT 0 h8 ?_
     refine qE hT 20 (K8 11110100100100100111010 0) ⟨123,(Qf.p0 t0 a0++[(5,.own 0 9 0 Wm.length),(6,.i Wn),(7,.i Yz),(8,.ptr 1 0 0 0),(9,.ns),(10,.b false),(11,.b false),(12,.i 0)]),[Jq Wm,.box 78 (Qgd (Qf.q1 a0 Wn Yz))]⟩ ?_
     refine Qdj [0,5,6,7,8,9,10,11,12] 9 9 78 (vec Qd.e Qd.z []) (st':=⟨123,(Qf.p0 t0 a0++[(5,.own 0 9 0 Wm.length),(6,.i Wn),(7,.i Yz),(8,.ptr 1 0 0 0),(9,.own 2 9 0 0),(10,.b false),(11,.b false),(12,.i 0)]),[Jq Wm,.box 78 (Qgd (Qf.q1 a0 Wn Yz)),Jq ([]:List Qd)]⟩) (by kernel_rfl) (by kernel_rfl) ?_
     refine Qg4 [0,1,2] ⟨123,(Qf.p0 t0 a0++[(5,.own 0 9 0 Wm.length),(6,.i Wn),(7,.i Yz),(8,.ptr 1 0 0 0),(9,.own 2 9 0 ([]:List Qd).length),(10,.b false),(11,.b false),(12,.i 0)]),[Jq Wm,.box 78 (Qgd (Qf.q1 a0 Wn Yz)),Jq ([]:List Qd)]⟩ h0 ?_
     exact ih.2.2.2 Wn Yz Wm false false 0 ([]:List Qd) H
    refine qB hT 0 (decide_eq_false c7) ?_
    exact qC hT 9 _ [0] _ h0 (ih.2.1 (IntKind.wrap .i64 (Wn+1)) Wm H)
   intro Wn Yz Wm Qer Qch Zo Qaq H
   refine Xl hT 8 (K8 1111010010010010011101000 1) ⟨123,(Qf.p0 t0 a0++[(5,.own 0 9 0 Wm.length),(6,.i Wn),(7,.i Yz),(8,.ptr 1 0 0 0),(9,.own 2 9 0 Qaq.length),(10,.b Qer),(11,.b Qch),(12,.i Zo),(53,.b (decide (Zo < (Wm.length:Int))))]),[Jq Wm,.box 78 (Qgd (Qf.q1 a0 Wn Yz)),Jq Qaq]⟩ ?_
   by_cases c9:Zo < (Wm.length:Int)
   ·replace H:=sT c9 H
    rw [decide_eq_true c9]
    refine Xl hT 8 (K8 1111010010010010011101001000 2) ⟨123,(Qf.p0 t0 a0++[(5,.own 0 9 0 Wm.length),(6,.i Wn),(7,.i Yz),(8,.ptr 1 0 0 0),(9,.own 2 9 0 Qaq.length),(10,.b Qer),(11,.b Qch),(12,.i Zo),(56,.own 0 9 0 Wm.length),(57,.i Zo)]),[Jq Wm,.box 78 (Qgd (Qf.q1 a0 Wn Yz)),Jq Qaq]⟩ ?_
    obtain ⟨h13,H⟩:=sC H
    have Jj3:∀ (Qso:Bool),stk (Qf.j3 a0 Wn Yz Wm Qer Qch Zo Qaq Qso) (iter (Qf.step a0) n)=some r->AK X 8 ((K8 11110100100100100111010010010 1)) (Yc X [Jq r.1] (.Qn [.own 0 9 0 r.1.length,.i r.2])) ⟨123,(Qf.p0 t0 a0++[(5,.own 0 9 0 Wm.length),(6,.i Wn),(7,.i Yz),(8,.ptr 1 0 0 0),(9,.own 2 9 0 Qaq.length),(10,.b Qer),(11,.b Qch),(12,.i Zo),(13,.ptr 3 0 0 0),(75,.b Qso)]),(Qf.q2 Wm a0 Wn Yz Qaq Zo)⟩:=by
     intro Qso H
     have Jj5:∀ (Qgb:Bool),stk (Qf.j5 a0 Wn Yz Wm Qch Zo Qaq Qgb) (iter (Qf.step a0) n)=some r->AK X 8 ((K8 1111010010010010011101001001 1)) (Yc X [Jq r.1] (.Qn [.own 0 9 0 r.1.length,.i r.2])) ⟨123,(Qf.p0 t0 a0++[(5,.own 0 9 0 Wm.length),(6,.i Wn),(7,.i Yz),(8,.ptr 1 0 0 0),(9,.own 2 9 0 Qaq.length),(10,.b Qgb),(11,.b Qch),(12,.i Zo),(13,.ptr 3 0 0 0)]),(Qf.q2 Wm a0 Wn Yz Qaq Zo)⟩:=by
      intro Qgb H
      have Jj6:∀ (Qo3:Bool),stk (Qf.j6 a0 Wn Yz Wm Qch Zo Qaq Qgb Qo3) (iter (Qf.step a0) n)=some r->AK X 8 ((K8 111101001001001001110100100110 1)) (Yc X [Jq r.1] (.Qn [.own 0 9 0 r.1.length,.i r.2])) ⟨123,(Qf.p0 t0 a0++[(5,.own 0 9 0 Wm.length),(6,.i Wn),(7,.i Yz),(8,.ptr 1 0 0 0),(9,.own 2 9 0 Qaq.length),(10,.b Qgb),(11,.b Qch),(12,.i Zo),(13,.ptr 3 0 0 0),(104,.b Qo3)]),(Qf.q2 Wm a0 Wn Yz Qaq Zo)⟩:=by
       intro Qo3 H
       have Jj7:∀ (Qob:Bool) (Qj4:List Qd),stk (Qf.j7 Wn Yz Wm Zo Qgb Qob Qj4) (iter (Qf.step a0) n)=some r->AK X 8 ((K8 11110100100100100111010010011 1)) (Yc X [Jq r.1] (.Qn [.own 0 9 0 r.1.length,.i r.2])) ⟨123,(Qf.p0 t0 a0++[(5,.own 0 9 0 Wm.length),(6,.i Wn),(7,.i Yz),(8,.ptr 1 0 0 0),(9,.own 2 9 0 Qj4.length),(10,.b Qgb),(11,.b Qob),(12,.i Zo),(13,.ptr 3 0 0 0)]),[Jq Wm,.box 78 (Qgd (Qf.q1 a0 Wn Yz)),Jq Qj4,.box 78 (Qgd (Qf.q3 Wm Zo))]⟩:=by
        intro Qob Qj4 H
        refine Xl hT 4 (K8 111101001001001001110100100111 3) ⟨123,(Qf.p0 t0 a0++[(5,.own 0 9 0 Wm.length),(6,.i Wn),(7,.i Yz),(8,.ptr 1 0 0 0),(10,.b Qgb),(11,.b Qob),(12,.i Zo),(109,.own 2 9 0 Qj4.length),(111,.own 4 9 0 1)]),[Jq Wm,.box 78 (Qgd (Qf.q1 a0 Wn Yz)),Jq Qj4,.box 78 (Qgd (Qf.q3 Wm Zo)),.flat false 9 78 1 (fun j=>[Qd.e (Qf.q3 Wm Zo)].getD j [])]⟩ ?_
        obtain ⟨h23,H⟩:=sC H
        refine Qcj (id:=2) (kk:=9) (by':=88) (t:=29) (e:=78) (z:=[.int .i64 0,.int .i64 0,.int .i64 0,.slice none 0 0,.int .i64 0,.int .i64 0,.int .i64 0,.int .i64 0,.bool false]) (dst:=some 112) (id2:=4) (e2:=78) (fz:=false) (k':=(K8 111101001001001001110100100111 4)) hT Qd.e Qd.z Qj4 (Qf.q3 Wm Zo) [0,5,6,7,8,10,11,12,112] (by kernel_rfl) (by kernel_rfl) (by kernel_rfl) (by kernel_rfl) (by kernel_rfl) (by kernel_rfl) (by kernel_rfl) h23 (by omega) (st':=⟨123,(Qf.p0 t0 a0++[(5,.own 0 9 0 Wm.length),(6,.i Wn),(7,.i Yz),(8,.ptr 1 0 0 0),(10,.b Qgb),(11,.b Qob),(12,.i Zo),(112,.own 5 9 0 ((Qj4 ++ [(Qf.q3 Wm Zo)]).length))]),[Jq Wm,.box 78 (Qgd (Qf.q1 a0 Wn Yz)),.gone,.box 78 (Qgd (Qf.q3 Wm Zo)),.flat false 9 78 1 (fun j=>[Qd.e (Qf.q3 Wm Zo)].getD j []),Jq (Qj4 ++ [(Qf.q3 Wm Zo)])]⟩) (by kernel_rfl) ?_
        exact Yp hT 9 _ [0,1,5] _ h0 (ih.2.2.2 Wn Yz Wm Qgb Qob (IntKind.wrap .i64 (Zo+1)) (Qj4 ++ [(Qf.q3 Wm Zo)]) H)
       by_cases c21:Qo3=true
       ·replace H:=sT c21 H
        rw [c21]
        refine Xl hT 6 (K8 111101001001001001110100100110100 3) ⟨123,(Qf.p0 t0 a0++[(5,.own 0 9 0 Wm.length),(6,.i Wn),(7,.i Yz),(8,.ptr 1 0 0 0),(10,.b Qgb),(12,.i Zo),(13,.ptr 3 0 0 0),(105,.own 2 9 0 Qaq.length),(107,.own 4 9 0 1)]),[Jq Wm,.box 78 (Qgd (Qf.q1 a0 Wn Yz)),Jq Qaq,.box 78 (Qgd (Qf.q3 Wm Zo)),.flat false 9 78 1 (fun j=>[Qd.e (Qf.q1 a0 Wn Yz)].getD j [])]⟩ ?_
        obtain ⟨h22,H⟩:=sC H
        refine Qcj (id:=2) (kk:=9) (by':=88) (t:=29) (e:=78) (z:=[.int .i64 0,.int .i64 0,.int .i64 0,.slice none 0 0,.int .i64 0,.int .i64 0,.int .i64 0,.int .i64 0,.bool false]) (dst:=some 108) (id2:=4) (e2:=78) (fz:=false) (k':=(K8 111101001001001001110100100110100 4)) hT Qd.e Qd.z Qaq (Qf.q1 a0 Wn Yz) [0,5,6,7,8,10,12,13,108] (by kernel_rfl) (by kernel_rfl) (by kernel_rfl) (by kernel_rfl) (by kernel_rfl) (by kernel_rfl) (by kernel_rfl) h22 (by omega) (st':=⟨123,(Qf.p0 t0 a0++[(5,.own 0 9 0 Wm.length),(6,.i Wn),(7,.i Yz),(8,.ptr 1 0 0 0),(10,.b Qgb),(12,.i Zo),(13,.ptr 3 0 0 0),(108,.own 5 9 0 ((Qaq ++ [(Qf.q1 a0 Wn Yz)]).length))]),[Jq Wm,.box 78 (Qgd (Qf.q1 a0 Wn Yz)),.gone,.box 78 (Qgd (Qf.q3 Wm Zo)),.flat false 9 78 1 (fun j=>[Qd.e (Qf.q1 a0 Wn Yz)].getD j []),Jq (Qaq ++ [(Qf.q1 a0 Wn Yz)])]⟩) (by kernel_rfl) ?_
        exact Yp hT 5 _ [0,1,5,3] _ h0 (Jj7 true (Qaq ++ [(Qf.q1 a0 Wn Yz)]) H)
       replace H:=sF c21 H
       rw [Jo c21]
       exact Yp hT 2 _ [0,1,2,3] _ h0 (Jj7 Qch Qaq H)
      refine Xl hT 2 (K8 111101001001001001110100100110 0) ⟨123,(Qf.p0 t0 a0++[(5,.own 0 9 0 Wm.length),(6,.i Wn),(7,.i Yz),(8,.ptr 1 0 0 0),(9,.own 2 9 0 Qaq.length),(10,.b Qgb),(11,.b Qch),(12,.i Zo),(13,.ptr 3 0 0 0)]),(Qf.q2 Wm a0 Wn Yz Qaq Zo)⟩ ?_
      by_cases c20:Qch=true
      ·replace H:=sT c20 H
       refine Qak (hP▸mixed) 9 [0,5,6,7,8,9,10,11,12,13] (sm [.b true,.b false,.b false,.Qn [],.Qn [],.Qn [],.Qn [],.Qn [],.b false]) (Qe (Qe (Qe (Qe (Qe (Qe (Qe (Qe (opV op0 hT 96 (.b Qch) (.b true) (by rw [c20]<;>rfl)) hT) hT) hT) hT) hT) hT) hT) hT) ?_
       exact Yp hT 1 _ [0,1,2,3] _ h0 (Jj6 false H)
      replace H:=sF c20 H
      refine Qak (hP▸mixed) 9 [0,5,6,7,8,9,10,11,12,13] (sm [.b false,.b true,.b true,.d (Qtf (Qf.q1 a0 Wn Yz)),.d (Qj7 (Qao (Qf.q1 a0 Wn Yz))),.d (Qtf (Qf.q3 Wm Zo)),.d (Qj7 (Qao (Qf.q3 Wm Zo))),.b (Qa6 (Qao (Qf.q1 a0 Wn Yz)) (Qao (Qf.q3 Wm Zo))),.b (Qa6 (Qao (Qf.q1 a0 Wn Yz)) (Qao (Qf.q3 Wm Zo)))]) (Qe (Jr (Jr (Qe (Jr (Qe (Qe (Qe (opV op0 hT 96 (.b Qch) (.b false) (by rw [Jo c20]<;>rfl)) hT) hT) hT) (fun R rest h=>Zl (Zk:=[.d (Qtf (Qf.q1 a0 Wn Yz))]) (dst:=some 100) hP Qv3 (Qao.Qy (Qf.q1 a0 Wn Yz)) (by kernel_rfl) (.cons (Wj _) .nil) (by kernel_rfl) h)) hT) (fun R rest h=>Zl (Zk:=[.d (Qtf (Qf.q3 Wm Zo))]) (dst:=some 102) hP Qv3 (Qao.Qy (Qf.q3 Wm Zo)) (by kernel_rfl) (.cons (Wj _) .nil) (by kernel_rfl) h)) (fun R rest h=>Zl (Zk:=[.d (Qj7 (Qao (Qf.q1 a0 Wn Yz))),.d (Qj7 (Qao (Qf.q3 Wm Zo)))]) (dst:=some 103) hP Qqt (Qa6.Qy (Qao (Qf.q1 a0 Wn Yz)) (Qao (Qf.q3 Wm Zo))) (by kernel_rfl) (.cons (Wj _) (.cons (Wj _) .nil)) (by kernel_rfl) h)) hT) ?_
      exact Yp hT 1 _ [0,1,2,3] _ h0 (Jj6 (Qa6 (Qao (Qf.q1 a0 Wn Yz)) (Qao (Qf.q3 Wm Zo))) H)
     by_cases c15:Qso=true
     ·replace H:=sT c15 H
      rw [c15]
      refine qI ?_
      obtain ⟨v2,h16,H⟩:=sbC H
      have Jj4:∀ (Qsp:Bool),stk (Qf.j4 a0 Wn Yz Wm Qch Zo Qaq Qsp) (iter (Qf.step a0) n)=some r->AK X 8 ((K8 11110100100100100111010010010101 1)) (Yc X [Jq r.1] (.Qn [.own 0 9 0 r.1.length,.i r.2])) ⟨123,(Qf.p0 t0 a0++[(5,.own 0 9 0 Wm.length),(6,.i Wn),(7,.i Yz),(8,.ptr 1 0 0 0),(9,.own 2 9 0 Qaq.length),(10,.b true),(11,.b Qch),(12,.i Zo),(13,.ptr 3 0 0 0),(95,.b Qsp)]),(Qf.q2 Wm a0 Wn Yz Qaq Zo)⟩:=by
       intro Qsp H
       by_cases c19:Qsp=true
       ·replace H:=sT c19 H
        rw [c19]
        refine Xl hT 6 (K8 1111010010010010011101001001010110 1) ⟨123,[(2,.ns),(3,.i 3)],(Qf.q2 Wm a0 Wn Yz Qaq Zo)⟩ ?_
        refine Qdj [2,3] 2 9 78 (vec Qd.e Qd.z []) (st':=⟨123,[(2,.own 4 9 0 0),(3,.i 3)],[Jq Wm,.box 78 (Qgd (Qf.q1 a0 Wn Yz)),Jq Qaq,.box 78 (Qgd (Qf.q3 Wm Zo)),Jq ([]:List Qd)]⟩) (by kernel_rfl) (by kernel_rfl) ?_
        obtain rfl:=Xr H
        exact Qc0 hf hX h0 (.Qn [.own 4 9 0 0,.i 3]) [4] (ac (Qat Qd.nl) an) (.Qn (.cons (.own _ _ _ _) (.cons (.d (.v _)) .nil)))
       replace H:=sF c19 H
       rw [Jo c19]
       exact Yp hT 2 _ [0,1,2,3] _ h0 (Jj5 true H)
      refine qF hT 11 hP Qnr (Ya.Qy ((Qf.q3 Wm Zo).M) ((Qf.q1 a0 Wn Yz).M) h16) ?_
      refine qE hT 2 (K8 111101001001001001110100100101010 7) ⟨123,(Qf.p0 t0 a0++[(5,.own 0 9 0 Wm.length),(6,.i Wn),(7,.i Yz),(8,.ptr 1 0 0 0),(9,.own 2 9 0 Qaq.length),(10,.b true),(11,.b Qch),(12,.i Zo),(13,.ptr 3 0 0 0),(82,.b (!v2))]),(Qf.q2 Wm a0 Wn Yz Qaq Zo)⟩ ?_
      refine qI ?_
      rcases sB H with ⟨c17,H⟩ | ⟨c17,H⟩
      ·refine qB hT 0 (show (!v2)=false by rw [c17];rfl) ?_
       refine qE hT 7 (K8 111101001001001001110100100101010 14) ⟨123,(Qf.p0 t0 a0++[(5,.own 0 9 0 Wm.length),(6,.i Wn),(7,.i Yz),(8,.ptr 1 0 0 0),(9,.own 2 9 0 Qaq.length),(10,.b true),(11,.b Qch),(12,.i Zo),(13,.ptr 3 0 0 0),(89,.b (((Qf.q3 Wm Zo).Time) != ((Qf.q1 a0 Wn Yz).Time)))]),(Qf.q2 Wm a0 Wn Yz Qaq Zo)⟩ ?_
       by_cases c18:((Qf.q3 Wm Zo).Time)=((Qf.q1 a0 Wn Yz).Time)
       ·replace H:=sT c18 H
        rw [neF c18]
        exact Yp hT 7 _ [0,1,2,3] _ h0 (Jj4 (!(((Qf.q3 Wm Zo).Zw) == ((Qf.q1 a0 Wn Yz).Zw))) H)
       replace H:=sF c18 H
       rw [neT c18]
       exact Yp hT 7 _ [0,1,2,3] _ h0 (Jj4 true H)
      refine qB hT 0 (show (!v2)=true by rw [Jo c17];rfl) ?_
      exact qC hT 14 _ [0,1,2,3] _ h0 (Jj4 true H)
     replace H:=sF c15 H
     rw [Jo c15]
     exact Yp hT 2 _ [0,1,2,3] _ h0 (Jj5 Qer H)
    refine Qjb hT [0,5,6,7,8,9,10,11,12,58] (i:=Zo) (n:=(Wm.length:Int)) h13.1 h13.2 (k':=(K8 1111010010010010011101001000 3)) (st':=⟨123,(Qf.p0 t0 a0++[(5,.own 0 9 0 Wm.length),(6,.i Wn),(7,.i Yz),(8,.ptr 1 0 0 0),(9,.own 2 9 0 Qaq.length),(10,.b Qer),(11,.b Qch),(12,.i Zo),(58,.ptr 0 9 Zo.toNat 0)]),[Jq Wm,.box 78 (Qgd (Qf.q1 a0 Wn Yz)),Jq Qaq]⟩) (by kernel_rfl) ?_
    refine Qlw hT [0,5,6,7,8,9,10,11,12,59] (i:=Zo.toNat) (n:=Wm.length) (ltN h13.1 h13.2) (k':=(K8 1111010010010010011101001000 4)) (st':=⟨123,(Qf.p0 t0 a0++[(5,.own 0 9 0 Wm.length),(6,.i Wn),(7,.i Yz),(8,.ptr 1 0 0 0),(9,.own 2 9 0 Qaq.length),(10,.b Qer),(11,.b Qch),(12,.i Zo),(59,.d (Qtf (Qf.q3 Wm Zo)))]),[Jq Wm,.box 78 (Qgd (Qf.q1 a0 Wn Yz)),Jq Qaq]⟩) (by kernel_rfl) ?_
    refine Xl hT 14 (K8 111101001001001001110100100100 8) ⟨123,(Qf.p0 t0 a0++[(5,.own 0 9 0 Wm.length),(6,.i Wn),(7,.i Yz),(8,.ptr 1 0 0 0),(9,.own 2 9 0 Qaq.length),(10,.b Qer),(11,.b Qch),(12,.i Zo),(13,.ptr 3 0 0 0),(67,.b ((((Qf.q3 Wm Zo).M).Client) == (((Qf.q1 a0 Wn Yz).M).Client)))]),(Qf.q2 Wm a0 Wn Yz Qaq Zo)⟩ ?_
    by_cases c14:(((Qf.q3 Wm Zo).M).Client)=(((Qf.q1 a0 Wn Yz).M).Client)
    ·replace H:=sT c14 H
     rw [eqT c14]
     exact Yp hT 9 _ [0,1,2,3] _ h0 (Jj3 ((((Qf.q3 Wm Zo).M).Seq) == (((Qf.q1 a0 Wn Yz).M).Seq)) H)
    replace H:=sF c14 H
    rw [eqF c14]
    exact Yp hT 9 _ [0,1,2,3] _ h0 (Jj3 false H)
   replace H:=sF c9 H
   have Xy:∀ (Qis:List Qd),stk (Qf.j1 Wn Yz Wm Qer Qis) (iter (Qf.step a0) n)=some r->AK X 8 ((K8 111101001001001001111 1)) (Yc X [Jq r.1] (.Qn [.own 0 9 0 r.1.length,.i r.2])) ⟨123,(Qf.p0 t0 a0++[(5,.own 0 9 0 Wm.length),(6,.i Wn),(7,.i Yz),(9,.own 1 9 0 Qis.length),(10,.b Qer)]),[Jq Wm,Jq Qis]⟩:=by
    intro Qis H
    have Jj2:∀ (Qfy:List Qd),stk (Qf.j2 Wn Yz Qfy) (iter (Qf.step a0) n)=some r->AK X 8 ((K8 111101001001001 1)) (Yc X [Jq r.1] (.Qn [.own 0 9 0 r.1.length,.i r.2])) ⟨123,(Qf.p0 t0 a0++[(5,.own 0 9 0 Qfy.length),(6,.i Wn),(7,.i Yz)]),[Jq Qfy]⟩:=by
     intro Qfy H
     exact Yp hT 6 _ [0] _ h0 (ih.2.2.1 Wn (IntKind.wrap .i64 (Yz+1)) Qfy H)
    refine qI ?_
    rcases sB H with ⟨c12,H⟩ | ⟨c12,H⟩
    ·refine qB hT 5 (show (!Qer)=false by rw [c12];rfl) ?_
     exact qC hT 3 _ [0] _ h0 (Jj2 Wm H)
    refine qB hT 5 (show (!Qer)=true by rw [Jo c12];rfl) ?_
    exact qC hT 6 _ [1] _ h0 (Jj2 Qis H)
   rw [decide_eq_false c9]
   refine qI ?_
   rcases sB H with ⟨c10,H⟩ | ⟨c10,H⟩
   ·refine qB hT 8 (show (!Qch)=false by rw [c10];rfl) ?_
    exact qC hT 2 _ [0,2] _ h0 (Xy Qaq H)
   refine qB hT 8 (show (!Qch)=true by rw [Jo c10];rfl) ?_
   refine qE hT 5 (K8 111101001001001001111010 3) ⟨123,(Qf.p0 t0 a0++[(5,.own 0 9 0 Wm.length),(6,.i Wn),(7,.i Yz),(10,.b Qer),(115,.own 2 9 0 Qaq.length),(117,.own 3 9 0 1)]),[Jq Wm,.box 78 (Qgd (Qf.q1 a0 Wn Yz)),Jq Qaq,.flat false 9 78 1 (fun j=>[Qd.e (Qf.q1 a0 Wn Yz)].getD j [])]⟩ ?_
   obtain ⟨h11,H⟩:=sC H
   refine Qcj (id:=2) (kk:=9) (by':=88) (t:=29) (e:=78) (z:=[.int .i64 0,.int .i64 0,.int .i64 0,.slice none 0 0,.int .i64 0,.int .i64 0,.int .i64 0,.int .i64 0,.bool false]) (dst:=some 118) (id2:=3) (e2:=78) (fz:=false) (k':=(K8 111101001001001001111010 4)) hT Qd.e Qd.z Qaq (Qf.q1 a0 Wn Yz) [0,5,6,7,10,118] (by kernel_rfl) (by kernel_rfl) (by kernel_rfl) (by kernel_rfl) (by kernel_rfl) (by kernel_rfl) (by kernel_rfl) h11 (by omega) (st':=⟨123,(Qf.p0 t0 a0++[(5,.own 0 9 0 Wm.length),(6,.i Wn),(7,.i Yz),(10,.b Qer),(118,.own 4 9 0 ((Qaq ++ [(Qf.q1 a0 Wn Yz)]).length))]),[Jq Wm,.box 78 (Qgd (Qf.q1 a0 Wn Yz)),.gone,.flat false 9 78 1 (fun j=>[Qd.e (Qf.q1 a0 Wn Yz)].getD j []),Jq (Qaq ++ [(Qf.q1 a0 Wn Yz)])]⟩) (by kernel_rfl) ?_
   exact Yp hT 2 _ [0,4] _ h0 (Xy (Qaq ++ [(Qf.q1 a0 Wn Yz)]) H)
 refine Yp hT 12 (K8 11010 0) [] ⟨123,(Qf.p0 t0 a0++[(4,.i 0)]),[]⟩ h0 ?_
 obtain ⟨n,H⟩:=Qbp H
 exact (L n).1 0 H
abbrev Qw.q1 (a0:List Qc) (v1:List Qg) (Jn:List Qd):List Row:=[.box 44 [.i 0,.i 0,.i 0,.i 0,.b false,.b false,.ns,.ns,.d (Qbg true a0),.ns],.box 74 [.i 0,.i 0,.i 0,.i 0,.b false,.b false,.ns,.ns,.ns,.ns],.box 74 [.i 0,.i 0,.i 0,.i 0,.b false,.b false,.ns,.d (Yg true v1),.own 3 9 0 Jn.length,.ns],Jq Jn]
abbrev Qw.q2 (a0:List Qc):List AV:=[.i 0,.i 0,.i 0,.i 0,.b false,.b false,.ns,.ns,.d (Qbg true a0),.ns]
abbrev Qw.q3:List AV:=[.i 0,.i 0,.i 0,.i 0,.b false,.b false,.ns,.ns,.ns,.ns]
abbrev Qw.q4 (v1:List Qg) (Jn:List Qd):List AV:=[.i 0,.i 0,.i 0,.i 0,.b false,.b false,.ns,.d (Yg true v1),.own 3 9 0 Jn.length,.ns]
abbrev Qw.s1 (Jv:Int) (a0:List Qc) (v1:List Qg) (Jn:List Qd):St:=⟨131,[(1,.ptr 0 0 0 0),(2,.ptr 1 0 0 0),(3,.ptr 2 0 0 0),(7,.i Jv)],(Qw.q1 a0 v1 Jn)⟩
abbrev Qw.p0:List (Nat × AV):=[(1,.ptr 0 0 0 0),(2,.ptr 1 0 0 0),(3,.ptr 2 0 0 0)]
theorem Qw.Qy (a0:List Qc) {r:Ql} (H:Qw a0=some r):Xz Tryz.prog 33 [] [.d (.agg [.i 0,.i 0,.i 0,.i 0,.b false,.b false,.ns,.ns,Qbg true a0,.ns])] [] (.d (Qhf r)):=by
 refine Xj Tryz.func33 rfl (nt:=131) rfl (lb rfl) fun X hP h0 hX=>?_
 have hT:Xb X.P T:=hP▸tok
 have hf:X.P.funcs[33]? = some Tryz.f33:=hP▸Tryz.func33
 refine Xl hT 6 (K33 11 0) ⟨131,[(1,.ptr 0 0 0 0),(2,.ptr 1 0 0 0)],[.box 44 (Qw.q2 a0),.box 74 (Qw.q3)]⟩ ?_
 obtain ⟨v1,h1,H⟩:=ibC H
 refine Qdv (nt:=131) (hP▸mixed) 15 [14] [1,2] [(1,.ptr 0 0 0 0),(2,.ptr 1 0 0 0)] (sm [.ptr 0 0 0 0,.i 0,.ptr 0 0 0 1,.d (.agg [.i 0,.i 0]),.ptr 0 0 0 3,.i 0,.ptr 0 0 0 4,.b false,.ptr 0 0 0 5,.b false,.ptr 0 0 0 7,.ns,.d (Yg true v1),.d (.agg [.i 0,.i 0,.i 0,.i 0,.b false,.b false,.ns,Yg true v1,.ns,.ns]),.ptr 2 0 0 0]) [[.box 44 (Qw.q2 a0),.box 74 (Qw.q3)],[.box 44 (Qw.q2 a0),.box 74 (Qw.q3),.box 74 (Qw.q3)]] (by kernel_rfl) (by kernel_rfl) (by kernel_rfl) (by kernel_rfl) ⟨?_,(Qhg hT),?_⟩ ?_
 iterate 2 exact (Qgz (Xa (Qfc (Xa (Xa (Xa (Xa (Xa (Xa (Xa (Xa (Xa (Xa (Xa (Xa Qi6 hT) hT) hT) hT) hT) hT) hT) hT) hT) hT) hT) hT) (fun R rest h=>Zl (Zk:=[.ns]) (dst:=some 21) hP Qv9 (Xz.Wl7 (Jl.Qy (t0:=true) ([]:List Qa) h1)) (by kernel_rfl) (.cons (.nil _ _) .nil) (by kernel_rfl) h)) hT))
 refine Xl hT 9 (K33 111010 0) ⟨131,(Qw.p0++[(4,.i 0)]),[.box 44 (Qw.q2 a0),.box 74 (Qw.q3),.box 74 [.i 0,.i 0,.i 0,.i 0,.b false,.b false,.ns,.d (Yg true v1),.ns,.ns]]⟩ ?_
 have L:∀ n,(∀ (_:Unit),iter (Qw.step a0 v1) n (.l1)=some r->AK X 33 ((K33 111010 0)) (Yc X [] (.d (Qhf r))) ⟨131,(Qw.p0++[(4,.i 0)]),[.box 44 (Qw.q2 a0),.box 74 (Qw.q3),.box 74 [.i 0,.i 0,.i 0,.i 0,.b false,.b false,.ns,.d (Yg true v1),.ns,.ns]]⟩)/\(∀ (Jv:Int) (Jn:List Qd),iter (Qw.step a0 v1) n (.l2 Jv Jn)=some r->AK X 33 ((K33 1111010 0)) (Yc X [] (.d (Qhf r))) ⟨131,(Qw.p0++[(7,.i Jv)]),(Qw.q1 a0 v1 Jn)⟩)/\(∀ (Jn:List Qd),iter (Qw.step a0 v1) n (.l3 Jn)=some r->AK X 33 ((K33 11111010 0)) (Yc X [] (.d (Qhf r))) ⟨131,(Qw.p0++[(8,.i 0)]),(Qw.q1 a0 v1 Jn)⟩):=by
  intro n
  induction n with
  | zero=>exact ⟨fun _ H=>Qal H,fun _ _ H=>Qal H,fun _ H=>Qal H⟩
  | succ n ih=>
   refine ⟨?_, ?_, ?_⟩
   ·intro _ H
    refine Xl hT 18 (K33 1111010 0) ⟨131,(Qw.p0++[(7,.i 0)]),[.box 44 (Qw.q2 a0),.box 74 (Qw.q3),.box 74 [.i 0,.i 0,.i 0,.i 0,.b false,.b false,.ns,.d (Yg true v1),.ns,.ns]]⟩ ?_
    refine Qjc (tb:=74) (cs:=[.i 0,.i 0,.i 0,.i 0,.b false,.b false,.ns,.d (Yg true v1),.ns,.ns]) 2 8 9 78 (vec Qd.e Qd.z []) (st':=⟨131,(Qw.p0++[(7,.i 0)]),[.box 44 (Qw.q2 a0),.box 74 (Qw.q3),.box 74 [.i 0,.i 0,.i 0,.i 0,.b false,.b false,.ns,.d (Yg true v1),.own 3 9 0 0,.ns],Jq ([]:List Qd)]⟩) (by kernel_rfl) (by kernel_rfl) ?_
    refine Qg4 [0,1,2,3] ⟨131,(Qw.p0++[(7,.i 0)]),[.box 44 (Qw.q2 a0),.box 74 (Qw.q3),.box 74 [.i 0,.i 0,.i 0,.i 0,.b false,.b false,.ns,.d (Yg true v1),.own 3 9 0 ([]:List Qd).length,.ns],Jq ([]:List Qd)]⟩ h0 ?_
    exact ih.2.1 0 ([]:List Qd) H
   ·intro Jv Jn H
    refine qI ?_
    rcases sB H with ⟨c2,H⟩ | ⟨c2,H⟩
    ·refine qB hT 9 (decide_eq_true c2) ?_
     refine qE hT 4 (K33 1111010010 0) (Qw.s1 Jv a0 v1 Jn) ?_
     obtain ⟨h3,H⟩:=sC H
     obtain ⟨v2,h4,H⟩:=sbC H
     refine Qdv (nt:=131) (hP▸mixed) 23 [22] [1,2,3,7] [(1,.ptr 0 0 0 0),(2,.ptr 1 0 0 0),(3,.ptr 2 0 0 0),(7,.i Jv)] (sm [.ptr 2 0 0 8,.own 3 9 0 Jn.length,.ptr 0 0 0 8,.d (Qbg true a0),.i Jv,.d (Qh0 true a0 Jv.toNat 0),.d (Qh0 true a0 Jv.toNat 0),.d (Qb5 ((a0.getD Jv.toNat Qc.z).M)),.d (Qe0 v2),.ptr 0 0 0 8,.d (Qbg true a0),.i Jv,.d (Qh0 true a0 Jv.toNat 0),.d (Qh0 true a0 Jv.toNat 7),.i ((a0.getD Jv.toNat Qc.z).Time),.ptr 0 0 0 8,.d (Qbg true a0),.i Jv,.d (Qh0 true a0 Jv.toNat 0),.d (Qh0 true a0 Jv.toNat 8),.b ((a0.getD Jv.toNat Qc.z).Zw),.d (.agg [.i v2.Client,.i v2.Seq,.i v2.Kind,Yg true v2.Pairs,.i v2.Over.Lo,.i v2.Over.Hi,.i v2.Old,.i ((a0.getD Jv.toNat Qc.z).Time),.b ((a0.getD Jv.toNat Qc.z).Zw)]),.own 4 9 0 1]) [[.box 44 (Qw.q2 a0),.box 74 (Qw.q3),.box 74 (Qw.q4 v1 Jn),Jq Jn],[.box 44 (Qw.q2 a0),.box 74 (Qw.q3),.box 74 (Qw.q4 v1 Jn),Jq Jn,.flat false 9 78 1 (fun j=>[[.i v2.Client,.i v2.Seq,.i v2.Kind,Yg true v2.Pairs,.i v2.Over.Lo,.i v2.Over.Hi,.i v2.Old,.i ((a0.getD Jv.toNat Qc.z).Time),.b ((a0.getD Jv.toNat Qc.z).Zw)]].getD j [])]] (by kernel_rfl) (by kernel_rfl) (by kernel_rfl) (by kernel_rfl) ⟨?_,(Qhg hT),?_⟩ ?_
     iterate 2 exact (Qgz (Xa (Xa (Xa (Qfc (Xa (Xa (Xa (Xa (Xa (Qfc (Xa (Xa (Xa (Qfc (Xa (Xa (Qfc (Xa (Xa (Xa (Xa (Xa Qi6 hT) hT) hT) hT) hT) (fun R rest h=>Yf hT (i:=Jv) (n:=(a0.length:Int)) h3.1 h3.2 (by kernel_rfl) h)) hT) hT) (fun R rest h=>Zl (Zk:=[.d (Qb5 ((a0.getD Jv.toNat Qc.z).M))]) (dst:=some 96) hP Qqw (Xg.Qy ((a0.getD Jv.toNat Qc.z).M) h4) (by kernel_rfl) (.cons (Wj _) .nil) (by kernel_rfl) h)) hT) hT) hT) (fun R rest h=>Yf hT (i:=Jv) (n:=(a0.length:Int)) h3.1 h3.2 (by kernel_rfl) h)) hT) hT) hT) hT) hT) (fun R rest h=>Yf hT (i:=Jv) (n:=(a0.length:Int)) h3.1 h3.2 (by kernel_rfl) h)) hT) hT) hT))
     refine Xl hT 0 (K33 11110100100 23) ⟨131,(Qw.p0++[(7,.i Jv),(89,.own 3 9 0 Jn.length),(110,.own 4 9 0 1)]),[.box 44 (Qw.q2 a0),.box 74 (Qw.q3),.box 74 (Qw.q4 v1 Jn),Jq Jn,.flat false 9 78 1 (fun j=>[[.i v2.Client,.i v2.Seq,.i v2.Kind,Yg true v2.Pairs,.i v2.Over.Lo,.i v2.Over.Hi,.i v2.Old,.i ((a0.getD Jv.toNat Qc.z).Time),.b ((a0.getD Jv.toNat Qc.z).Zw)]].getD j [])]⟩ ?_
     obtain ⟨h5,H⟩:=sC H
     refine Qcj (id:=3) (kk:=9) (by':=88) (t:=29) (e:=78) (z:=[.int .i64 0,.int .i64 0,.int .i64 0,.slice none 0 0,.int .i64 0,.int .i64 0,.int .i64 0,.int .i64 0,.bool false]) (dst:=some 111) (id2:=4) (e2:=78) (fz:=false) (k':=(K33 11110100100 24)) hT Qd.e Qd.z Jn (⟨v2,(a0.getD Jv.toNat Qc.z).Time,(a0.getD Jv.toNat Qc.z).Zw⟩:Qd) [1,2,3,7,111] (by kernel_rfl) (by kernel_rfl) (by kernel_rfl) (by kernel_rfl) (by kernel_rfl) (by kernel_rfl) (by kernel_rfl) h5 (by omega) (st':=⟨131,(Qw.p0++[(7,.i Jv),(111,.own 5 9 0 ((Jn ++ [(⟨v2,(a0.getD Jv.toNat Qc.z).Time,(a0.getD Jv.toNat Qc.z).Zw⟩:Qd)]).length))]),[.box 44 (Qw.q2 a0),.box 74 (Qw.q3),.box 74 (Qw.q4 v1 Jn),.gone,.flat false 9 78 1 (fun j=>[[.i v2.Client,.i v2.Seq,.i v2.Kind,Yg true v2.Pairs,.i v2.Over.Lo,.i v2.Over.Hi,.i v2.Old,.i ((a0.getD Jv.toNat Qc.z).Time),.b ((a0.getD Jv.toNat Qc.z).Zw)]].getD j []),Jq (Jn ++ [(⟨v2,(a0.getD Jv.toNat Qc.z).Time,(a0.getD Jv.toNat Qc.z).Zw⟩:Qd)])]⟩) (by kernel_rfl) ?_
     exact Yp hT 10 _ [0,1,2,5] _ h0 (ih.2.1 (IntKind.wrap .i64 (Jv+1)) (Jn ++ [(⟨v2,(a0.getD Jv.toNat Qc.z).Time,(a0.getD Jv.toNat Qc.z).Zw⟩:Qd)]) H)
    refine qB hT 9 (decide_eq_false c2) ?_
    exact qE hT 9 _ _ (ih.2.2 Jn H)
   intro Jn H
   refine Xl hT 14 (K33 1111110 1) ⟨131,[(2,.ptr 1 0 0 0),(130,.agg [.i 0,.i 0,.i 0,.i 0,.b false,.b false,.ns,.d (Yg true v1),.own 3 9 0 Jn.length,.ns])],(Qw.q1 a0 v1 Jn)⟩ ?_
   refine Qen 3 (kk:=9) (n:=Jn.length) (ty:=78) (g:=vec Qd.e Qd.z Jn) (by kernel_rfl) (st':=⟨131,[(2,.ptr 1 0 0 0),(130,.agg [.i 0,.i 0,.i 0,.i 0,.b false,.b false,.ns,.d (Yg true v1),.own 3 9 0 Jn.length,.ns])],[.box 44 (Qw.q2 a0),.box 74 (Qw.q3),.box 74 (Qw.q4 v1 Jn),Qte Jn]⟩) (by kernel_rfl) ?_
   refine Qg3 (av:=.agg [.i 0,.i 0,.i 0,.i 0,.b false,.b false,.ns,.d (Yg true v1),.own 3 9 0 Jn.length,.ns]) (y:=.agg [.i 0,.i 0,.i 0,.i 0,.b false,.b false,Qk3 true ([]:List Qz),Yg true v1,Qdy true Jn,Qhz true ([]:List Wh)]) [2,130] 130 (st':=⟨131,[(2,.ptr 1 0 0 0),(130,.d (.agg [.i 0,.i 0,.i 0,.i 0,.b false,.b false,Qk3 true ([]:List Qz),Yg true v1,Qdy true Jn,Qhz true ([]:List Wh)]))],[.box 44 (Qw.q2 a0),.box 74 (Qw.q3),.box 74 (Qw.q4 v1 Jn),Qte Jn]⟩) (by kernel_rfl) (.agg (.cons (.d _) (.cons (.d _) (.cons (.d _) (.cons (.d _) (.cons (.d _) (.cons (.d _) (.cons (.nil _) (.cons (.d _) (.cons (.own (ty:=78) (k:=9) (by kernel_rfl)) (.cons (.nil _) .nil))))))))))) (by kernel_rfl) ?_
   refine Xl hT 2 (K33 111111 1) ⟨131,[(2,.ptr 1 0 0 0)],[.box 44 (Qw.q2 a0),.box 74 [.i 0,.i 0,.i 0,.i 0,.b false,.b false,.d (Qk3 true ([]:List Qz)),.d (Yg true v1),.d (Qdy true Jn),.d (Qhz true ([]:List Wh))],.box 74 (Qw.q4 v1 Jn),Qte Jn]⟩ ?_
   obtain rfl:=Xr H
   exact Qhw hT hf hX (av:=.d (.agg [.i 0,.i 0,.i 0,.i 0,.b false,.b false,Qk3 true ([]:List Qz),Yg true v1,Qdy true Jn,Qhz true ([]:List Wh)])) (by kernel_rfl) [] (Qbu (by kernel_rfl)) (by decide) (by rw [h0];rfl) (by kernel_rfl) an (.d (.agg (Ql.nl _)))
 obtain ⟨n,H⟩:=Qbp H
 exact (L n).1 () H
theorem Qcx.Qy (a0:List Qc) {r:List Qd} (H:Qcx a0=some r):Xz Tryz.prog 11 [] [.d (Qbg true a0)] [] (.d (Qdy true r)):=by
 refine Xj Tryz.func11 rfl (nt:=7) rfl (lb rfl) fun X hP h0 hX=>?_
 have hT:Xb X.P T:=hP▸tok
 have hf:X.P.funcs[11]? = some Tryz.f11:=hP▸Tryz.func11
 refine qI ?_
 obtain ⟨v1,h1,H⟩:=ibC H
 refine qF hT 8 hP Qv4 (Qw.Qy a0 h1) ?_
 obtain rfl:=Xr H
 exact qT hT 3 hf hX h0 [] an (.d (.sl fun _ _=>Qd.nl _))
theorem Jf.Qy {t0:Bool} {t1:Bool} (a0:List Qd) (a1:List Qd) {r:Bool} (H:Jf a0 a1=some r):Xz Tryz.prog 10 [] [.d (Qdy t0 a0),.d (Qdy t1 a1)] [] (.b r):=by
 refine Xj Tryz.func10 rfl (nt:=55) rfl (lb rfl) fun X hP h0 hX=>?_
 have hT:Xb X.P T:=hP▸tok
 have hf:X.P.funcs[10]? = some Tryz.f10:=hP▸Tryz.func10
 refine Xl hT 13 (K10 110 1) ⟨55,[(0,.d (Qdy t0 a0)),(1,.d (Qdy t1 a1)),(10,.b ((a0.length:Int) != (a1.length:Int)))],[]⟩ ?_
 by_cases c1:(a0.length:Int)=(a1.length:Int)
 ·replace H:=iT c1 H
  rw [neF c1]
  refine Xl hT 9 (K10 111010 0) ⟨55,[(0,.d (Qdy t0 a0)),(1,.d (Qdy t1 a1)),(5,.i 0)],[]⟩ ?_
  have L:∀ n,(∀ (Xi:Int),iter (Jf.step a0 a1) n (.l1 Xi)=some r->AK X 10 ((K10 111010 0)) (Yc X [] (.b r)) ⟨55,[(0,.d (Qdy t0 a0)),(1,.d (Qdy t1 a1)),(5,.i Xi)],[]⟩):=by
   intro n
   induction n with
   | zero=>exact fun _ H=>Qal H
   | succ n ih=>
    ·intro Xi H
     refine qI ?_
     rcases sB H with ⟨c2,H⟩ | ⟨c2,H⟩
     ·refine qB hT 8 (decide_eq_true c2) ?_
      refine qE hT 5 (K10 1110100100 0) ⟨55,[(0,.d (Qdy t0 a0)),(1,.d (Qdy t1 a1)),(5,.i Xi)],[]⟩ ?_
      obtain ⟨h3,H⟩:=sC H
      obtain ⟨h4,H⟩:=sC H
      obtain ⟨v1,h5,H⟩:=sbC H
      have Xy:∀ (Qsd:Bool),stk (Jf.j1 Xi Qsd) (iter (Jf.step a0 a1) n)=some r->AK X 10 ((K10 1110100100 1)) (Yc X [] (.b r)) ⟨55,[(0,.d (Qdy t0 a0)),(1,.d (Qdy t1 a1)),(5,.i Xi),(54,.b Qsd)],[]⟩:=by
       intro Qsd H
       by_cases c8:Qsd=true
       ·replace H:=sT c8 H
        rw [c8]
        refine qI ?_
        obtain rfl:=Xr H
        exact qT hT 5 hf hX h0 [] an (.d (.v _))
       replace H:=sF c8 H
       rw [Jo c8]
       exact Xl hT 9 _ _ (ih (IntKind.wrap .i64 (Xi+1)) H)
      by_cases c6:v1=true
      ·replace H:=sT c6 H
       by_cases c7:((a0.getD Xi.toNat Qd.z).Time)=((a1.getD Xi.toNat Qd.z).Time)
       ·replace H:=sT c7 H
        refine Qak (hP▸mixed) 38 [0,1,5] (sm [.d (Qdy t0 a0),.i Xi,.d (Qfb t0 a0 Xi.toNat 0),.d (Qfb t0 a0 Xi.toNat 0),.d (Qe0 ((a0.getD Xi.toNat Qd.z).M)),.d (Qdy t1 a1),.i Xi,.d (Qfb t1 a1 Xi.toNat 0),.d (Qfb t1 a1 Xi.toNat 0),.d (Qe0 ((a1.getD Xi.toNat Qd.z).M)),.b true,.b false,.b false,.d (Qdy t0 a0),.i Xi,.d (Qfb t0 a0 Xi.toNat 0),.d (Qfb t0 a0 Xi.toNat 7),.i ((a0.getD Xi.toNat Qd.z).Time),.d (Qdy t1 a1),.i Xi,.d (Qfb t1 a1 Xi.toNat 0),.d (Qfb t1 a1 Xi.toNat 7),.i ((a1.getD Xi.toNat Qd.z).Time),.b false,.b false,.b false,.d (Qdy t0 a0),.i Xi,.d (Qfb t0 a0 Xi.toNat 0),.d (Qfb t0 a0 Xi.toNat 8),.b ((a0.getD Xi.toNat Qd.z).Zw),.d (Qdy t1 a1),.i Xi,.d (Qfb t1 a1 Xi.toNat 0),.d (Qfb t1 a1 Xi.toNat 8),.b ((a1.getD Xi.toNat Qd.z).Zw),.b (!(((a0.getD Xi.toNat Qd.z).Zw) == ((a1.getD Xi.toNat Qd.z).Zw))),.b (!(((a0.getD Xi.toNat Qd.z).Zw) == ((a1.getD Xi.toNat Qd.z).Zw)))]) (Qe (Qe (Qe (Qe (Jr (Qe (Qe (Qe (Qe (Jr (Qe (Qe (Qe (Qe (opV (Qe (Qe (Jr (Qe (Qe (Qe (Qe (Jr (Qe (Qe (Qe (Qe (Jr (Qe (Qe (Jr (Qe (Qe (Qe (Qe (Jr (Qe (Qe op0 hT) hT) (fun R rest h=>Yf hT (i:=Xi) (n:=(a0.length:Int)) h3.1 h3.2 (by kernel_rfl) h)) hT) hT) hT) hT) (fun R rest h=>Yf hT (i:=Xi) (n:=(a1.length:Int)) h4.1 h4.2 (by kernel_rfl) h)) hT) hT) (fun R rest h=>Zl (Zk:=[.d (Qe0 ((a0.getD Xi.toNat Qd.z).M)),.d (Qe0 ((a1.getD Xi.toNat Qd.z).M))]) (dst:=some 27) hP Qnr (by have q:=Ya.Qy ((a0.getD Xi.toNat Qd.z).M) ((a1.getD Xi.toNat Qd.z).M) h5;rw [c6] at q;exact q) (by kernel_rfl) (.cons (Wj _) (.cons (Wj _) .nil)) (by kernel_rfl) h)) hT) hT) hT) hT) (fun R rest h=>Yf hT (i:=Xi) (n:=(a0.length:Int)) h3.1 h3.2 (by kernel_rfl) h)) hT) hT) hT) hT) (fun R rest h=>Yf hT (i:=Xi) (n:=(a1.length:Int)) h4.1 h4.2 (by kernel_rfl) h)) hT) hT) hT 40 (.b (((a0.getD Xi.toNat Qd.z).Time) != ((a1.getD Xi.toNat Qd.z).Time))) (.b false) (by rw [neF c7]<;>rfl)) hT) hT) hT) hT) (fun R rest h=>Yf hT (i:=Xi) (n:=(a0.length:Int)) h3.1 h3.2 (by kernel_rfl) h)) hT) hT) hT) hT) (fun R rest h=>Yf hT (i:=Xi) (n:=(a1.length:Int)) h4.1 h4.2 (by kernel_rfl) h)) hT) hT) hT) hT) ?_
        exact Xl hT 1 _ _ (Xy (!(((a0.getD Xi.toNat Qd.z).Zw) == ((a1.getD Xi.toNat Qd.z).Zw))) H)
       replace H:=sF c7 H
       refine Qak (hP▸mixed) 38 [0,1,5] (sm [.d (Qdy t0 a0),.i Xi,.d (Qfb t0 a0 Xi.toNat 0),.d (Qfb t0 a0 Xi.toNat 0),.d (Qe0 ((a0.getD Xi.toNat Qd.z).M)),.d (Qdy t1 a1),.i Xi,.d (Qfb t1 a1 Xi.toNat 0),.d (Qfb t1 a1 Xi.toNat 0),.d (Qe0 ((a1.getD Xi.toNat Qd.z).M)),.b true,.b false,.b false,.d (Qdy t0 a0),.i Xi,.d (Qfb t0 a0 Xi.toNat 0),.d (Qfb t0 a0 Xi.toNat 7),.i ((a0.getD Xi.toNat Qd.z).Time),.d (Qdy t1 a1),.i Xi,.d (Qfb t1 a1 Xi.toNat 0),.d (Qfb t1 a1 Xi.toNat 7),.i ((a1.getD Xi.toNat Qd.z).Time),.b true,.b true,.b true,.Qn [],.Qn [],.Qn [],.Qn [],.Qn [],.Qn [],.Qn [],.Qn [],.Qn [],.Qn [],.Qn [],.b true]) (Qe (Qe (Qe (Qe (Qe (Qe (Qe (Qe (Qe (Qe (Qe (Qe (Qe (Qe (opV (Qe (Qe (Jr (Qe (Qe (Qe (Qe (Jr (Qe (Qe (Qe (Qe (Jr (Qe (Qe (Jr (Qe (Qe (Qe (Qe (Jr (Qe (Qe op0 hT) hT) (fun R rest h=>Yf hT (i:=Xi) (n:=(a0.length:Int)) h3.1 h3.2 (by kernel_rfl) h)) hT) hT) hT) hT) (fun R rest h=>Yf hT (i:=Xi) (n:=(a1.length:Int)) h4.1 h4.2 (by kernel_rfl) h)) hT) hT) (fun R rest h=>Zl (Zk:=[.d (Qe0 ((a0.getD Xi.toNat Qd.z).M)),.d (Qe0 ((a1.getD Xi.toNat Qd.z).M))]) (dst:=some 27) hP Qnr (by have q:=Ya.Qy ((a0.getD Xi.toNat Qd.z).M) ((a1.getD Xi.toNat Qd.z).M) h5;rw [c6] at q;exact q) (by kernel_rfl) (.cons (Wj _) (.cons (Wj _) .nil)) (by kernel_rfl) h)) hT) hT) hT) hT) (fun R rest h=>Yf hT (i:=Xi) (n:=(a0.length:Int)) h3.1 h3.2 (by kernel_rfl) h)) hT) hT) hT) hT) (fun R rest h=>Yf hT (i:=Xi) (n:=(a1.length:Int)) h4.1 h4.2 (by kernel_rfl) h)) hT) hT) hT 40 (.b (((a0.getD Xi.toNat Qd.z).Time) != ((a1.getD Xi.toNat Qd.z).Time))) (.b true) (by rw [neT c7]<;>rfl)) hT) hT) hT) hT) hT) hT) hT) hT) hT) hT) hT) hT) hT) hT) ?_
       exact Xl hT 1 _ _ (Xy true H)
      replace H:=sF c6 H
      refine Qak (hP▸mixed) 38 [0,1,5] (sm [.d (Qdy t0 a0),.i Xi,.d (Qfb t0 a0 Xi.toNat 0),.d (Qfb t0 a0 Xi.toNat 0),.d (Qe0 ((a0.getD Xi.toNat Qd.z).M)),.d (Qdy t1 a1),.i Xi,.d (Qfb t1 a1 Xi.toNat 0),.d (Qfb t1 a1 Xi.toNat 0),.d (Qe0 ((a1.getD Xi.toNat Qd.z).M)),.b false,.b true,.b true,.Qn [],.Qn [],.Qn [],.Qn [],.Qn [],.Qn [],.Qn [],.Qn [],.Qn [],.Qn [],.Qn [],.b true,.b true,.Qn [],.Qn [],.Qn [],.Qn [],.Qn [],.Qn [],.Qn [],.Qn [],.Qn [],.Qn [],.Qn [],.b true]) (Qe (Qe (Qe (Qe (Qe (Qe (Qe (Qe (Qe (Qe (Qe (Qe (Qe (Qe (Qe (Qe (Qe (Qe (Qe (Qe (Qe (Qe (Qe (Qe (Qe (Qe (Qe (Jr (Qe (Qe (Jr (Qe (Qe (Qe (Qe (Jr (Qe (Qe op0 hT) hT) (fun R rest h=>Yf hT (i:=Xi) (n:=(a0.length:Int)) h3.1 h3.2 (by kernel_rfl) h)) hT) hT) hT) hT) (fun R rest h=>Yf hT (i:=Xi) (n:=(a1.length:Int)) h4.1 h4.2 (by kernel_rfl) h)) hT) hT) (fun R rest h=>Zl (Zk:=[.d (Qe0 ((a0.getD Xi.toNat Qd.z).M)),.d (Qe0 ((a1.getD Xi.toNat Qd.z).M))]) (dst:=some 27) hP Qnr (by have q:=Ya.Qy ((a0.getD Xi.toNat Qd.z).M) ((a1.getD Xi.toNat Qd.z).M) h5;rw [Jo c6] at q;exact q) (by kernel_rfl) (.cons (Wj _) (.cons (Wj _) .nil)) (by kernel_rfl) h)) hT) hT) hT) hT) hT) hT) hT) hT) hT) hT) hT) hT) hT) hT) hT) hT) hT) hT) hT) hT) hT) hT) hT) hT) hT) hT) hT) ?_
      exact Xl hT 1 _ _ (Xy true H)
     refine qB hT 8 (decide_eq_false c2) ?_
     obtain rfl:=Xr H
     exact qT hT 6 hf hX h0 [] an (.d (.v _))
  obtain ⟨n,H⟩:=Qbp H
  exact (L n) 0 H
 replace H:=iF c1 H
 rw [neT c1]
 refine qI ?_
 obtain rfl:=Xr H
 exact qT hT 5 hf hX h0 [] an (.d (.v _))
abbrev Qbf.p0 (a0:Qm):List (Nat × AV):=[(1,.ptr 0 0 0 0),(3,.ptr 1 0 0 0),(11,.d (Qfa true a0.Held)),(12,.i (a0.Held.length:Int))]
theorem Qbf.Qy (a0:Qm) {r:Int} (H:Qbf a0=some r):Xz Tryz.prog 34 [] [.d (Qe9 a0)] [] (.i r):=by
 refine Xj Tryz.func34 rfl (nt:=29) rfl (lb rfl) fun X hP h0 hX=>?_
 have hT:Xb X.P T:=hP▸tok
 have hf:X.P.funcs[34]? = some Tryz.f34:=hP▸Tryz.func34
 refine qI ?_
 obtain ⟨v1,h1,H⟩:=ibC H
 refine qF hT 9 hP Qv0 (Qa9.Qy a0 h1) ?_
 refine qE hT 2 (K34 110 1) ⟨29,[(1,.ptr 0 0 0 0),(8,.b (!v1))],[.box 44 (Jd a0)]⟩ ?_
 refine qI ?_
 rcases iB H with ⟨c2,H⟩ | ⟨c2,H⟩
 ·refine qB hT 0 (show (!v1)=false by rw [c2];rfl) ?_
  refine qE hT 4 (K34 1110 0) ⟨29,[(1,.ptr 0 0 0 0)],[.box 44 (Jd a0)]⟩ ?_
  refine Jj (Zk:=[]) (dst:=some 9) (k':=(K34 1110 1)) [1,9] [] hP Wfo (Wg9) (by kernel_rfl) (Jy _) .nil (st':=⟨29,[(1,.ptr 0 0 0 0),(9,.ptr 1 0 0 0)],[.box 44 (Jd a0),qR Qra]⟩) (by kernel_rfl) ?_
  obtain ⟨v2,h3,H⟩:=idC H
  rw [<- h3]
  refine Xl hT 12 (K34 1111010 0) ⟨29,(Qbf.p0 a0++[(13,.i 0)]),[.box 44 (Jd a0),qR v2]⟩ ?_
  have L:∀ n,(∀ (Ja:Int) (Xp:QL),iter (Qbf.step a0) n (.l1 Ja Xp)=some r->AK X 34 ((K34 1111010 0)) (Yc X [] (.i r)) ⟨29,(Qbf.p0 a0++[(13,.i Ja)]),[.box 44 (Jd a0),qR Xp]⟩):=by
   intro n
   induction n with
   | zero=>exact fun _ _ H=>Qal H
   | succ n ih=>
    ·intro Ja Xp H
     refine qI ?_
     rcases sB H with ⟨c4,H⟩ | ⟨c4,H⟩
     ·refine qB hT 5 (decide_eq_true c4) ?_
      refine qE hT 6 (K34 1111010011000 0) ⟨29,(Qbf.p0 a0++[(13,.i Ja)]),[.box 44 (Jd a0),qR Xp]⟩ ?_
      obtain ⟨h5,H⟩:=sC H
      refine qI ?_
      refine qX hT 0 h5 ?_
      refine qE hT 11 (K34 1111010011001 6) ⟨29,(Qbf.p0 a0++[(13,.i Ja),(17,.ptr 1 0 0 0),(22,.d (.agg [.i (((a0.Held.getD Ja.toNat Qr.z).M).Client),.i (((a0.Held.getD Ja.toNat Qr.z).M).Seq),.i (((a0.Held.getD Ja.toNat Qr.z).M).Kind),Yi true (((a0.Held.getD Ja.toNat Qr.z).M).Pairs),.i ((((a0.Held.getD Ja.toNat Qr.z).M).Over).Lo),.i ((((a0.Held.getD Ja.toNat Qr.z).M).Over).Hi),.i (((a0.Held.getD Ja.toNat Qr.z).M).Old),.i ((a0.Held.getD Ja.toNat Qr.z).Time),.b false]))]),[.box 44 (Jd a0),qR Xp,.box 94 (Qtd (a0.Held.getD Ja.toNat Qr.z))]⟩ ?_
      obtain ⟨v3,h6,H⟩:=sbC H
      refine Jj (Zk:=[.ptr 1 0 0 0,.d (.agg [.i (((a0.Held.getD Ja.toNat Qr.z).M).Client),.i (((a0.Held.getD Ja.toNat Qr.z).M).Seq),.i (((a0.Held.getD Ja.toNat Qr.z).M).Kind),Yi true (((a0.Held.getD Ja.toNat Qr.z).M).Pairs),.i ((((a0.Held.getD Ja.toNat Qr.z).M).Over).Lo),.i ((((a0.Held.getD Ja.toNat Qr.z).M).Over).Hi),.i (((a0.Held.getD Ja.toNat Qr.z).M).Old),.i ((a0.Held.getD Ja.toNat Qr.z).Time),.b false])]) (dst:=some 23) (k':=(K34 1111010011001 7)) [1,3,11,12,13] [1] hP Wfp (Wg8 Xp (⟨((a0.Held.getD Ja.toNat Qr.z).M),(a0.Held.getD Ja.toNat Qr.z).Time,false⟩:Yl) h6) (by kernel_rfl) (Qev rfl rfl) (.cons (.same (.ptr 0 0 0 0)) (.cons (Wj _) .nil)) (st':=⟨29,(Qbf.p0 a0++[(13,.i Ja)]),[.box 44 (Jd a0),qR v3.2,.box 94 (Qtd (a0.Held.getD Ja.toNat Qr.z))]⟩) (by kernel_rfl) ?_
      exact Yp hT 7 _ [0,1] _ h0 (ih (IntKind.wrap .i64 (Ja+1)) v3.2 H)
     refine qB hT 5 (decide_eq_false c4) ?_
     refine qE hT 7 (K34 111110 3) ⟨29,[(25,.ptr 1 0 0 0),(27,.i a0.Clock)],[.box 44 (Jd a0),qR Xp]⟩ ?_
     refine Jj (Zk:=[.ptr 1 0 0 0,.i a0.Clock]) (dst:=some 28) (k':=(K34 111110 4)) [28] [1] hP Wfq (Qzz Xp a0.Clock) (by kernel_rfl) (Qev rfl rfl) (.cons (.same (.ptr 0 0 0 0)) (.cons (Wj _) .nil)) (st':=⟨29,[(28,.i (Qnd Xp a0.Clock))],[.box 44 (Jd a0),qR Xp]⟩) (by kernel_rfl) ?_
     refine qI ?_
     obtain rfl:=Xr H
     exact qT hT 2 hf hX h0 [] an (.d (.v _))
  obtain ⟨n,H⟩:=Qbp H
  exact (L n) 0 v2 H
 refine qB hT 0 (show (!v1)=true by rw [Jo c2];rfl) ?_
 obtain rfl:=Xr H
 exact qT hT 5 hf hX h0 [] an (.d (.v _))
theorem Zh.Qy {t0:Bool} {ff1:FuncId} {cc1:List DV} (a0:List Qo) (p1:Qo->Option Bool) (he1:Sy.Enters Tryz.prog ff1) (hp1:∀ (z0:Qo) r,p1 z0=some r->Xz Tryz.prog ff1 [] ([.d (Qfr z0)] ++ List.map AV.d cc1) [] (.b r)) {r:Int} (H:Zh a0 p1=some r):Xz Tryz.prog 119 [] [.d (Qej t0 a0),.d (.fn ff1 cc1)] [] (.i r):=by
 refine Xj Tryz.func119 rfl (nt:=19) rfl (lb rfl) fun X hP h0 hX=>?_
 have hT:Xb X.P T:=hP▸tok
 have hf:X.P.funcs[119]? = some Tryz.f119:=hP▸Tryz.func119
 refine Xl hT 13 (Qxt 11010 0) ⟨19,[(0,.d (Qej t0 a0)),(1,.d (.fn ff1 cc1)),(7,.i (a0.length:Int)),(8,.i 0)],[]⟩ ?_
 have L:∀ n,(∀ (Xd:Int),iter (Zh.step a0 p1) n (.l1 Xd)=some r->AK X 119 ((Qxt 11010 0)) (Yc X [] (.i r)) ⟨19,[(0,.d (Qej t0 a0)),(1,.d (.fn ff1 cc1)),(7,.i (a0.length:Int)),(8,.i Xd)],[]⟩):=by
  intro n
  induction n with
  | zero=>exact fun _ H=>Qal H
  | succ n ih=>
   ·intro Xd H
    refine qI ?_
    rcases sB H with ⟨c1,H⟩ | ⟨c1,H⟩
    ·refine qB hT 5 (decide_eq_true c1) ?_
     refine qE hT 14 (Qxt 110100110010 3) ⟨19,[(0,.d (Qej t0 a0)),(1,.d (.fn ff1 cc1)),(5,.i Xd),(7,.i (a0.length:Int)),(8,.i Xd),(11,.d (.fn ff1 cc1)),(12,.d (Qej t0 a0)),(13,.i Xd)],[]⟩ ?_
     obtain ⟨h2,H⟩:=sC H
     refine qI ?_
     refine qX hT 0 h2 ?_
     refine qE hT 1 (Qxt 110100110010 5) ⟨19,[(0,.d (Qej t0 a0)),(1,.d (.fn ff1 cc1)),(5,.i Xd),(7,.i (a0.length:Int)),(8,.i Xd),(11,.d (.fn ff1 cc1)),(15,.d (Qfr (a0.getD Xd.toNat Qo.z)))],[]⟩ ?_
     obtain ⟨v1,h3,H⟩:=sbC H
     refine Jj (Zk:=[.d (Qfr (a0.getD Xd.toNat Qo.z))] ++ List.map AV.d cc1) (dst:=some 16) (k':=(Qxt 110100110010 6)) [0,1,5,7,8,16] [] hP he1 (hp1 (a0.getD Xd.toNat Qo.z) v1 h3) (by kernel_rfl) (Jy _) (.cons (Wj _) (Qgq _)) (st':=⟨19,[(0,.d (Qej t0 a0)),(1,.d (.fn ff1 cc1)),(5,.i Xd),(7,.i (a0.length:Int)),(8,.i Xd),(16,.b v1)],[]⟩) (by kernel_rfl) ?_
     refine qI ?_
     rcases sB H with ⟨c4,H⟩ | ⟨c4,H⟩
     ·refine qB hT 1 (c4) ?_
      obtain rfl:=Xr H
      exact qT hT 6 hf hX h0 [] an (.d (.v _))
     refine qB hT 1 (Jo c4) ?_
     exact qE hT 8 _ _ (ih (IntKind.wrap .i64 (Xd+1)) H)
    refine qB hT 5 (decide_eq_false c1) ?_
    obtain rfl:=Xr H
    exact qT hT 6 hf hX h0 [] an (.d (.v _))
 obtain ⟨n,H⟩:=Qbp H
 exact (L n) 0 H
theorem Qdt.Qy {t0:Bool} {ff1:FuncId} {cc1:List DV} (a0:List Qo) (p1:Qo->Option Bool) (he1:Sy.Enters Tryz.prog ff1) (hp1:∀ (z0:Qo) r,p1 z0=some r->Xz Tryz.prog ff1 [] ([.d (Qfr z0)] ++ List.map AV.d cc1) [] (.b r)) {r:Bool} (H:Qdt a0 p1=some r):Xz Tryz.prog 75 [] [.d (Qej t0 a0),.d (.fn ff1 cc1)] [] (.b r):=by
 refine Xj Tryz.func75 rfl (nt:=9) rfl (lb rfl) fun X hP h0 hX=>?_
 have hT:Xb X.P T:=hP▸tok
 have hf:X.P.funcs[75]? = some Tryz.f75:=hP▸Tryz.func75
 refine qI ?_
 obtain ⟨v1,h1,H⟩:=ibC H
 refine qF hT 8 hP Wbw (Zh.Qy (t0:=t0) (ff1:=ff1) (cc1:=cc1) a0 p1 he1 hp1 h1) ?_
 obtain rfl:=Xr H
 exact qT hT 3 hf hX h0 [] an (.d (.v _))
theorem Qde.Qy (a0:Qo) (k0:Qc):Xz Tryz.prog 76 [] [.d (Qfr a0),.d (.rop false 1 (fun _=>[.i k0.M.Client,.i k0.M.Seq,.i k0.M.Kind,Yi true k0.M.Pairs,.i k0.M.Over.Lo,.i k0.M.Over.Hi,.i k0.M.Old,.i k0.Time,.b k0.Zw]) 0 0)] [] (.b (Qde a0 k0)):=by
 obtain ⟨r,H⟩:∃ r,Qde a0 k0=r:=⟨_,rfl⟩
 rw [H]
 refine Xj Tryz.func76 rfl (nt:=18) rfl (lb rfl) fun X hP h0 hX=>?_
 have hT:Xb X.P T:=hP▸tok
 have hf:X.P.funcs[76]? = some Tryz.f76:=hP▸Tryz.func76
 have Xy:∀ (Qh8:Bool),(Qde.j1 Qh8)=r->AK X 76 ((K76 11 1)) (Yc X [] (.b r)) ⟨18,[(3,.b Qh8)],[]⟩:=by
  intro Qh8 H
  obtain rfl:=H
  exact Qc0 hf hX h0 (.b Qh8) [] an (.d (.v _))
 refine Xl hT 14 (K76 110 7) ⟨18,[(1,.d (.rop false 1 (fun _=>[.i k0.M.Client,.i k0.M.Seq,.i k0.M.Kind,Yi true k0.M.Pairs,.i k0.M.Over.Lo,.i k0.M.Over.Hi,.i k0.M.Old,.i k0.Time,.b k0.Zw]) 0 0)),(2,.ptr 0 0 0 0),(10,.b (a0.Client == k0.M.Client))],[.box 125 (Qi7 a0)]⟩ ?_
 by_cases c1:a0.Client=k0.M.Client
 ·replace H:=iT c1 H
  rw [eqT c1]
  exact Yp hT 9 _ [] _ h0 (Xy (a0.Seq == k0.M.Seq) H)
 replace H:=iF c1 H
 rw [eqF c1]
 exact Yp hT 9 _ [] _ h0 (Xy false H)
theorem Qhr.Qy (a0:Qm) (a1:Qc) {r:Bool} (H:Qhr a0 a1=some r):Xz Tryz.prog 37 [] [.d (Qe9 a0),.d (Qff a1)] [] (.b r):=by
 refine Xj Tryz.func37 rfl (nt:=9) rfl (lb rfl) fun X hP h0 hX=>?_
 have hT:Xb X.P T:=hP▸tok
 have hf:X.P.funcs[37]? = some Tryz.f37:=hP▸Tryz.func37
 refine Xl hT 11 (K37 110 3) ⟨9,[(6,.d (Qej true a0.Qs)),(7,.fn 76 [.ptr 1 0 0 0])],[.box 44 (Jd a0),.box 50 (Qed a1)]⟩ ?_
 obtain ⟨v1,h1,H⟩:=ibC H
 refine Jj (Zk:=[.d (Qej true a0.Qs),.fn 76 [.ptr 1 0 0 0]]) (dst:=some 8) (k':=(K37 110 4)) [8] [] hP Wft (Qdt.Qy (t0:=true) (ff1:=76) (cc1:=[.rop false 1 (fun _=>[.i a1.M.Client,.i a1.M.Seq,.i a1.M.Kind,Yi true a1.M.Pairs,.i a1.M.Over.Lo,.i a1.M.Over.Hi,.i a1.M.Old,.i a1.Time,.b a1.Zw]) 0 0]) a0.Qs (fun z0=>some (Qde z0 a1)) Wfu (fun z0 r h=>by obtain rfl:=Xr h;exact Qde.Qy z0 a1) h1) (by kernel_rfl) (Jy _) (.cons (Wj _) (.cons (.fn 76 (.cons (.look (ty:=50) (cs:=[.i a1.M.Client,.i a1.M.Seq,.i a1.M.Kind,Yi true a1.M.Pairs,.i a1.M.Over.Lo,.i a1.M.Over.Hi,.i a1.M.Old,.i a1.Time,.b a1.Zw]) (by kernel_rfl) rfl) .nil)) .nil)) (st':=⟨9,[(8,.b v1)],[.box 44 (Jd a0),.box 50 (Qed a1)]⟩) (by kernel_rfl) ?_
 refine qI ?_
 obtain rfl:=Xr H
 exact qT hT 2 hf hX h0 [] an (.d (.v _))
abbrev Wu.q1 (Yu:Int) (Ye:Int) (Zy:Int) (Qac:Int) (Qad:Bool) (Jt:Bool) (Qae:List Qr) (Qaf:List Qa) (Qaz:List Qc) (Qa0:List Qo):List AV:=[.i Yu,.i Ye,.i Zy,.i Qac,.b Qad,.b Jt,.d (Qfa true Qae),.d (Yi true Qaf),.d (Qbg true Qaz),.d (Qej true Qa0)]
abbrev Wu.q2 (v1:(List Qc) × Int) (Qba:Int):=(v1.1.getD Qba.toNat Qc.z)
theorem Wu.Qy {t0:Bool} (a0:List Qm) {r:Int} (H:Wu a0=some r):Xz Tryz.prog 12 [] [.d (Qbn t0 a0)] [] (.i r):=by
 refine Xj Tryz.func12 rfl (nt:=61) rfl (lb rfl) fun X hP h0 hX=>?_
 have hT:Xb X.P T:=hP▸tok
 have hf:X.P.funcs[12]? = some Tryz.f12:=hP▸Tryz.func12
 refine qI ?_
 obtain ⟨v1,h1,H⟩:=ibC H
 refine qF hT 7 hP Qyd (Qt.Qy (t0:=t0) a0 h1) ?_
 refine qE hT 12 (K12 1110 1) ⟨61,[(0,.d (Qbn t0 a0)),(3,.own 0 9 0 v1.1.length),(17,.b (v1.2 != 0))],[Qb6 v1.1]⟩ ?_
 by_cases c2:v1.2=0
 ·replace H:=iT c2 H
  rw [neF c2]
  refine Xl hT 15 (K12 11111010 0) ⟨61,[(3,.own 0 9 0 v1.1.length),(5,.i 0),(18,.d (Qbn t0 a0)),(19,.i (a0.length:Int)),(20,.i 0)],[Qb6 v1.1]⟩ ?_
  have L:∀ n,(∀ (Xi:Int) (Qaw:Int),iter (Wu.step a0 v1) n (.l1 Xi Qaw)=some r->AK X 12 ((K12 11111010 0)) (Yc X [] (.i r)) ⟨61,[(3,.own 0 9 0 v1.1.length),(5,.i Xi),(18,.d (Qbn t0 a0)),(19,.i (a0.length:Int)),(20,.i Qaw)],[Qb6 v1.1]⟩)/\(∀ (v2:Int) (Zq:Int) (Qeq:Int) (Qba:Int) (Yu:Int) (Ye:Int) (Zy:Int) (Qac:Int) (Qad:Bool) (Jt:Bool) (Qae:List Qr) (Qaf:List Qa) (Qaz:List Qc) (Qa0:List Qo),iter (Wu.step a0 v1) n (.l2 v2 Zq Qeq Qba Yu Ye Zy Qac Qad Jt Qae Qaf Qaz Qa0)=some r->AK X 12 ((K12 11111010011001110 0)) (Yc X [] (.i r)) ⟨61,[(3,.own 0 9 0 v1.1.length),(5,.i Zq),(7,.ptr 1 0 0 0),(8,.i v2),(18,.d (Qbn t0 a0)),(19,.i (a0.length:Int)),(20,.i Qeq),(26,.own 0 9 0 v1.1.length),(27,.i (v1.1.length:Int)),(28,.i Qba)],[Qb6 v1.1,.box 44 (Wu.q1 Yu Ye Zy Qac Qad Jt Qae Qaf Qaz Qa0)]⟩):=by
   intro n
   induction n with
   | zero=>exact ⟨fun _ _ H=>Qal H,fun _ _ _ _ _ _ _ _ _ _ _ _ _ _ H=>Qal H⟩
   | succ n ih=>
    refine ⟨?_, ?_⟩
    ·intro Xi Qaw H
     refine qI ?_
     rcases sB H with ⟨c3,H⟩ | ⟨c3,H⟩
     ·refine qB hT 5 (decide_eq_true c3) ?_
      refine qE hT 6 (K12 11111010011000 0) ⟨61,[(3,.own 0 9 0 v1.1.length),(5,.i Xi),(18,.d (Qbn t0 a0)),(19,.i (a0.length:Int)),(20,.i Qaw)],[Qb6 v1.1]⟩ ?_
      obtain ⟨h4,H⟩:=sC H
      refine qI ?_
      refine qX hT 0 h4 ?_
      refine qE hT 7 (K12 111110100110010 1) ⟨61,[(3,.own 0 9 0 v1.1.length),(5,.i Xi),(7,.ptr 1 0 0 0),(18,.d (Qbn t0 a0)),(19,.i (a0.length:Int)),(20,.i Qaw),(24,.d (Qe9 (a0.getD Qaw.toNat Qm.z)))],[Qb6 v1.1,.box 44 (Jd (a0.getD Qaw.toNat Qm.z))]⟩ ?_
      obtain ⟨v2,h5,H⟩:=sbC H
      refine qI ?_
      refine qF hT 0 hP Wfa (Qbf.Qy (a0.getD Qaw.toNat Qm.z) h5) ?_
      exact qC hT 10 _ [0,1] _ h0 (ih.2 v2 Xi Qaw 0 ((a0.getD Qaw.toNat Qm.z).ID) (((a0.getD Qaw.toNat Qm.z).Keys).Lo) (((a0.getD Qaw.toNat Qm.z).Keys).Hi) ((a0.getD Qaw.toNat Qm.z).Clock) ((a0.getD Qaw.toNat Qm.z).Qa1) ((a0.getD Qaw.toNat Qm.z).Qag) ((a0.getD Qaw.toNat Qm.z).Held) ((a0.getD Qaw.toNat Qm.z).Base) ((a0.getD Qaw.toNat Qm.z).Log) ((a0.getD Qaw.toNat Qm.z).Qs) H)
     refine qB hT 5 (decide_eq_false c3) ?_
     obtain rfl:=Xr H
     exact qT hT 7 hf hX h0 [] an (.d (.v _))
    intro v2 Zq Qeq Qba Yu Ye Zy Qac Qad Jt Qae Qaf Qaz Qa0 H
    refine qI ?_
    rcases sB H with ⟨c6,H⟩ | ⟨c6,H⟩
    ·refine qB hT 5 (decide_eq_true c6) ?_
     refine qE hT 6 (K12 11111010011001110011000 0) ⟨61,[(3,.own 0 9 0 v1.1.length),(5,.i Zq),(7,.ptr 1 0 0 0),(8,.i v2),(18,.d (Qbn t0 a0)),(19,.i (a0.length:Int)),(20,.i Qeq),(26,.own 0 9 0 v1.1.length),(27,.i (v1.1.length:Int)),(28,.i Qba)],[Qb6 v1.1,.box 44 (Wu.q1 Yu Ye Zy Qac Qad Jt Qae Qaf Qaz Qa0)]⟩ ?_
     obtain ⟨h7,H⟩:=sC H
     have Xy:∀ (Qse:Bool),stk (Wu.j1 Zq Qeq Qba Yu Ye Zy Qac Qad Jt Qae Qaf Qaz Qa0 v2 Qse) (iter (Wu.step a0 v1) n)=some r->AK X 12 ((K12 11111010011001110011001 1)) (Yc X [] (.i r)) ⟨61,[(3,.own 0 9 0 v1.1.length),(5,.i Zq),(7,.ptr 1 0 0 0),(8,.i v2),(18,.d (Qbn t0 a0)),(19,.i (a0.length:Int)),(20,.i Qeq),(26,.own 0 9 0 v1.1.length),(27,.i (v1.1.length:Int)),(28,.i Qba),(55,.b Qse)],[Qb6 v1.1,.box 44 (Wu.q1 Yu Ye Zy Qac Qad Jt Qae Qaf Qaz Qa0)]⟩:=by
      intro Qse H
      have Jj2:∀ (Qlr:Int),stk (Wu.j2 Qeq Qba Yu Ye Zy Qac Qad Jt Qae Qaf Qaz Qa0 v2 Qlr) (iter (Wu.step a0 v1) n)=some r->AK X 12 ((K12 11111010011001110011 1)) (Yc X [] (.i r)) ⟨61,[(3,.own 0 9 0 v1.1.length),(5,.i Qlr),(7,.ptr 1 0 0 0),(8,.i v2),(18,.d (Qbn t0 a0)),(19,.i (a0.length:Int)),(20,.i Qeq),(26,.own 0 9 0 v1.1.length),(27,.i (v1.1.length:Int)),(28,.i Qba)],[Qb6 v1.1,.box 44 (Wu.q1 Yu Ye Zy Qac Qad Jt Qae Qaf Qaz Qa0)]⟩:=by
       intro Qlr H
       exact Xl hT 5 _ _ (ih.2 v2 Qlr Qeq (IntKind.wrap .i64 (Qba+1)) Yu Ye Zy Qac Qad Jt Qae Qaf Qaz Qa0 H)
      by_cases c14:Qse=true
      ·replace H:=sT c14 H
       rw [c14]
       exact Xl hT 7 _ _ (Jj2 (IntKind.wrap .i64 (Zq+1)) H)
      replace H:=sF c14 H
      rw [Jo c14]
      exact Xl hT 3 _ _ (Jj2 Zq H)
     refine Qjb hT [3,5,7,8,18,19,20,26,27,28,30] (i:=Qba) (n:=(v1.1.length:Int)) h7.1 h7.2 (k':=(K12 11111010011001110011000 1)) (st':=⟨61,[(3,.own 0 9 0 v1.1.length),(5,.i Zq),(7,.ptr 1 0 0 0),(8,.i v2),(18,.d (Qbn t0 a0)),(19,.i (a0.length:Int)),(20,.i Qeq),(26,.own 0 9 0 v1.1.length),(27,.i (v1.1.length:Int)),(28,.i Qba),(30,.ptr 0 9 Qba.toNat 0)],[Qb6 v1.1,.box 44 (Wu.q1 Yu Ye Zy Qac Qad Jt Qae Qaf Qaz Qa0)]⟩) (by kernel_rfl) ?_
     refine Qlw hT [3,5,7,8,18,19,20,26,27,28,31] (i:=Qba.toNat) (n:=v1.1.length) (ltN h7.1 h7.2) (k':=(K12 11111010011001110011000 2)) (st':=⟨61,[(3,.own 0 9 0 v1.1.length),(5,.i Zq),(7,.ptr 1 0 0 0),(8,.i v2),(18,.d (Qbn t0 a0)),(19,.i (a0.length:Int)),(20,.i Qeq),(26,.own 0 9 0 v1.1.length),(27,.i (v1.1.length:Int)),(28,.i Qba),(31,.d (Qff (Wu.q2 v1 Qba)))],[Qb6 v1.1,.box 44 (Wu.q1 Yu Ye Zy Qac Qad Jt Qae Qaf Qaz Qa0)]⟩) (by kernel_rfl) ?_
     refine Xl hT 4 (K12 11111010011001110011001 0) ⟨61,[(3,.own 0 9 0 v1.1.length),(5,.i Zq),(7,.ptr 1 0 0 0),(8,.i v2),(10,.ptr 2 0 0 0),(18,.d (Qbn t0 a0)),(19,.i (a0.length:Int)),(20,.i Qeq),(26,.own 0 9 0 v1.1.length),(27,.i (v1.1.length:Int)),(28,.i Qba)],[Qb6 v1.1,.box 44 (Wu.q1 Yu Ye Zy Qac Qad Jt Qae Qaf Qaz Qa0),.box 50 (Qed (Wu.q2 v1 Qba))]⟩ ?_
     by_cases c8:Jt=true
     ·replace H:=sT c8 H
      refine Qak (hP▸mixed) 24 [3,5,7,8,10,18,19,20,26,27,28] (sm [.ptr 1 0 0 5,.b true,.b false,.b false,.Qn [],.Qn [],.Qn [],.Qn [],.b false,.b false,.Qn [],.Qn [],.Qn [],.Qn [],.Qn [],.Qn [],.Qn [],.b false,.b false,.Qn [],.Qn [],.Qn [],.Qn [],.b false]) (Qe (Qe (Qe (Qe (Qe (Qe (Qe (Qe (Qe (Qe (Qe (Qe (Qe (Qe (Qe (Qe (Qe (Qe (Qe (Qe (Qe (Qe (opV (Qe op0 hT) hT 33 (.b Jt) (.b true) (by rw [c8]<;>rfl)) hT) hT) hT) hT) hT) hT) hT) hT) hT) hT) hT) hT) hT) hT) hT) hT) hT) hT) hT) hT) hT) hT) ?_
      exact Yp hT 1 _ [0,1] _ h0 (Xy false H)
     replace H:=sF c8 H
     by_cases c9:((Wu.q2 v1 Qba).Time)<=v2
     ·replace H:=sT c9 H
      obtain ⟨v3,h10,H⟩:=sbC H
      obtain ⟨v4,h11,H⟩:=sbC H
      by_cases c12:v4=true
      ·replace H:=sT c12 H
       obtain ⟨v5,h13,H⟩:=sbC H
       refine Qdv (nt:=61) (hP▸mixed) 24 [15,16] [3,5,7,8,10,18,19,20,26,27,28] [(3,.own 0 9 0 v1.1.length),(5,.i Zq),(7,.ptr 1 0 0 0),(8,.i v2),(10,.ptr 2 0 0 0),(18,.d (Qbn t0 a0)),(19,.i (a0.length:Int)),(20,.i Qeq),(26,.own 0 9 0 v1.1.length),(27,.i (v1.1.length:Int)),(28,.i Qba)] (sm [.ptr 1 0 0 5,.b false,.b true,.b true,.ptr 2 0 0 7,.i ((Wu.q2 v1 Qba).Time),.i v2,.b true,.b true,.b true,.ptr 2 0 0 0,.d (Qb5 ((Wu.q2 v1 Qba).M)),.d (Yx true v3),.ptr 1 0 0 1,.d (.agg [.i Ye,.i Zy]),.own 3 2 0 1,.b true,.b true,.b true,.d (.agg [.i Yu,.i Ye,.i Zy,.i Qac,.b Qad,.b Jt,Qfa true Qae,Yi true Qaf,Qbg true Qaz,Qej true Qa0]),.d (Qff (Wu.q2 v1 Qba)),.b v5,.b (!v5),.b (!v5)]) [[Qb6 v1.1,.box 44 (Wu.q1 Yu Ye Zy Qac Qad Jt Qae Qaf Qaz Qa0),.box 50 (Qed (Wu.q2 v1 Qba))],[Qb6 v1.1,.box 44 (Wu.q1 Yu Ye Zy Qac Qad Jt Qae Qaf Qaz Qa0),.box 50 (Qed (Wu.q2 v1 Qba)),.flat false 2 39 1 (fun j=>[[.i Ye,.i Zy]].getD j [])],[Qb6 v1.1,.box 44 (Wu.q1 Yu Ye Zy Qac Qad Jt Qae Qaf Qaz Qa0),.box 50 (Qed (Wu.q2 v1 Qba)),Qk1 ([(⟨Ye,Zy⟩:Qb)]:List Qb)]] (by kernel_rfl) (by kernel_rfl) (by kernel_rfl) (by kernel_rfl) ⟨?_,(Qhg hT),⟨?_,(fun R rest h=>Qje 3 (kk:=2) (fz:=false) (ty:=39) (n:=([(⟨Ye,Zy⟩:Qb)]:List Qb).length) (vec Qb.e Qb.z ([(⟨Ye,Zy⟩:Qb)]:List Qb)) (by kernel_rfl) Qh7 rfl ((fun R rest h=>Qen 3 (kk:=2) (n:=([(⟨Ye,Zy⟩:Qb)]:List Qb).length) (ty:=39) (g:=vec Qb.e Qb.z ([(⟨Ye,Zy⟩:Qb)]:List Qb)) (by kernel_rfl) rfl ((fun R rest h=>Zl (Zk:=[.d (Yx true v3),.own 3 2 0 1]) (dst:=some 48) hP Qqu (by have q:=Qdx.Qy (t0:=true) (t1:=true) v3 ([(⟨Ye,Zy⟩:Qb)]:List Qb) h11;rw [c12] at q;exact q) (by kernel_rfl) (.cons (Wj _) (.cons (.Qog (ty:=39) (by kernel_rfl) rfl) .nil)) (by kernel_rfl) h) R rest h)) R rest h)),?_⟩⟩ ?_
       iterate 3 exact (Xa (Xa (Qfc (Xa (Xa (Xa (Xa (Qgz (Qgz (Xa (Xa (Qfc (Xa (Xa (Xa (Xa (Qlk (Xa (Xa (Xa (Xa (Xa (Qlk (Xa Qi6 hT) hT 33 (.b Jt) (.b false) (by rw [Jo c8]<;>rfl)) hT) hT) hT) hT) hT) hT 39 (.b (decide (((Wu.q2 v1 Qba).Time)<=v2))) (.b true) (by rw [decide_eq_true c9]<;>rfl)) hT) hT) hT) hT) (fun R rest h=>Zl (Zk:=[.d (Qb5 ((Wu.q2 v1 Qba).M))]) (dst:=some 44) hP Qqv (Qbd.Qy ((Wu.q2 v1 Qba).M) h10) (by kernel_rfl) (.cons (Wj _) .nil) (by kernel_rfl) h)) hT) hT))) hT) hT) hT) hT) (fun R rest h=>Zl (Zk:=[.d (.agg [.i Yu,.i Ye,.i Zy,.i Qac,.b Qad,.b Jt,Qfa true Qae,Yi true Qaf,Qbg true Qaz,Qej true Qa0]),.d (Qff (Wu.q2 v1 Qba))]) (dst:=some 53) hP Wfb (Qhr.Qy (⟨Yu,(⟨Ye,Zy⟩:Qb),Qac,Qad,Jt,Qae,Qaf,Qaz,Qa0⟩:Qm) (Wu.q2 v1 Qba) h13) (by kernel_rfl) (.cons (Wj _) (.cons (Wj _) .nil)) (by kernel_rfl) h)) hT) hT)
       exact Yp hT 1 _ [0,1] _ h0 (Xy (!v5) H)
      replace H:=sF c12 H
      refine Qdv (nt:=61) (hP▸mixed) 24 [15,16] [3,5,7,8,10,18,19,20,26,27,28] [(3,.own 0 9 0 v1.1.length),(5,.i Zq),(7,.ptr 1 0 0 0),(8,.i v2),(10,.ptr 2 0 0 0),(18,.d (Qbn t0 a0)),(19,.i (a0.length:Int)),(20,.i Qeq),(26,.own 0 9 0 v1.1.length),(27,.i (v1.1.length:Int)),(28,.i Qba)] (sm [.ptr 1 0 0 5,.b false,.b true,.b true,.ptr 2 0 0 7,.i ((Wu.q2 v1 Qba).Time),.i v2,.b true,.b true,.b true,.ptr 2 0 0 0,.d (Qb5 ((Wu.q2 v1 Qba).M)),.d (Yx true v3),.ptr 1 0 0 1,.d (.agg [.i Ye,.i Zy]),.own 3 2 0 1,.b false,.b false,.b false,.Qn [],.Qn [],.Qn [],.Qn [],.b false]) [[Qb6 v1.1,.box 44 (Wu.q1 Yu Ye Zy Qac Qad Jt Qae Qaf Qaz Qa0),.box 50 (Qed (Wu.q2 v1 Qba))],[Qb6 v1.1,.box 44 (Wu.q1 Yu Ye Zy Qac Qad Jt Qae Qaf Qaz Qa0),.box 50 (Qed (Wu.q2 v1 Qba)),.flat false 2 39 1 (fun j=>[[.i Ye,.i Zy]].getD j [])],[Qb6 v1.1,.box 44 (Wu.q1 Yu Ye Zy Qac Qad Jt Qae Qaf Qaz Qa0),.box 50 (Qed (Wu.q2 v1 Qba)),Qk1 ([(⟨Ye,Zy⟩:Qb)]:List Qb)]] (by kernel_rfl) (by kernel_rfl) (by kernel_rfl) (by kernel_rfl) ⟨?_,(Qhg hT),⟨?_,(fun R rest h=>Qje 3 (kk:=2) (fz:=false) (ty:=39) (n:=([(⟨Ye,Zy⟩:Qb)]:List Qb).length) (vec Qb.e Qb.z ([(⟨Ye,Zy⟩:Qb)]:List Qb)) (by kernel_rfl) Qh7 rfl ((fun R rest h=>Qen 3 (kk:=2) (n:=([(⟨Ye,Zy⟩:Qb)]:List Qb).length) (ty:=39) (g:=vec Qb.e Qb.z ([(⟨Ye,Zy⟩:Qb)]:List Qb)) (by kernel_rfl) rfl ((fun R rest h=>Zl (Zk:=[.d (Yx true v3),.own 3 2 0 1]) (dst:=some 48) hP Qqu (by have q:=Qdx.Qy (t0:=true) (t1:=true) v3 ([(⟨Ye,Zy⟩:Qb)]:List Qb) h11;rw [Jo c12] at q;exact q) (by kernel_rfl) (.cons (Wj _) (.cons (.Qog (ty:=39) (by kernel_rfl) rfl) .nil)) (by kernel_rfl) h) R rest h)) R rest h)),?_⟩⟩ ?_
      iterate 3 exact (Xa (Xa (Xa (Xa (Xa (Xa (Xa (Qgz (Qgz (Xa (Xa (Qfc (Xa (Xa (Xa (Xa (Qlk (Xa (Xa (Xa (Xa (Xa (Qlk (Xa Qi6 hT) hT 33 (.b Jt) (.b false) (by rw [Jo c8]<;>rfl)) hT) hT) hT) hT) hT) hT 39 (.b (decide (((Wu.q2 v1 Qba).Time)<=v2))) (.b true) (by rw [decide_eq_true c9]<;>rfl)) hT) hT) hT) hT) (fun R rest h=>Zl (Zk:=[.d (Qb5 ((Wu.q2 v1 Qba).M))]) (dst:=some 44) hP Qqv (Qbd.Qy ((Wu.q2 v1 Qba).M) h10) (by kernel_rfl) (.cons (Wj _) .nil) (by kernel_rfl) h)) hT) hT))) hT) hT) hT) hT) hT) hT) hT)
      exact Yp hT 1 _ [0,1] _ h0 (Xy false H)
     replace H:=sF c9 H
     refine Qak (hP▸mixed) 24 [3,5,7,8,10,18,19,20,26,27,28] (sm [.ptr 1 0 0 5,.b false,.b true,.b true,.ptr 2 0 0 7,.i ((Wu.q2 v1 Qba).Time),.i v2,.b false,.b false,.b false,.Qn [],.Qn [],.Qn [],.Qn [],.Qn [],.Qn [],.Qn [],.b false,.b false,.Qn [],.Qn [],.Qn [],.Qn [],.b false]) (Qe (Qe (Qe (Qe (Qe (Qe (Qe (Qe (Qe (Qe (Qe (Qe (Qe (Qe (Qe (Qe (opV (Qe (Qe (Qe (Qe (Qe (opV (Qe op0 hT) hT 33 (.b Jt) (.b false) (by rw [Jo c8]<;>rfl)) hT) hT) hT) hT) hT) hT 39 (.b (decide (((Wu.q2 v1 Qba).Time)<=v2))) (.b false) (by rw [decide_eq_false c9]<;>rfl)) hT) hT) hT) hT) hT) hT) hT) hT) hT) hT) hT) hT) hT) hT) hT) hT) ?_
     exact Yp hT 1 _ [0,1] _ h0 (Xy false H)
    refine qB hT 5 (decide_eq_false c6) ?_
    exact qC hT 8 _ [0] _ h0 (ih.1 Zq (IntKind.wrap .i64 (Qeq+1)) H)
  obtain ⟨n,H⟩:=Qbp H
  exact (L n).1 0 0 H
 replace H:=iF c2 H
 rw [neT c2]
 refine qI ?_
 obtain rfl:=Xr H
 exact qT hT 5 hf hX h0 [] an (.d (.v _))
theorem Yo.Qy (a0:Ql) {r:Int} (H:Yo a0=some r):Xz Tryz.prog 38 [] [.d (Qhf a0)] [] (.i r):=by
 refine Xj Tryz.func38 rfl (nt:=35) rfl (lb rfl) fun X hP h0 hX=>?_
 have hT:Xb X.P T:=hP▸tok
 have hf:X.P.funcs[38]? = some Tryz.f38:=hP▸Tryz.func38
 refine Xl hT 18 (K38 111010 0) ⟨35,[(1,.ptr 0 0 0 0),(3,.i a0.Clock),(4,.i 0)],[.box 74 (Qcr a0)]⟩ ?_
 have L:∀ n,(∀ (Qq:Int) (Wy:Int),iter (Yo.step a0) n (.l1 Qq Wy)=some r->AK X 38 ((K38 111010 0)) (Yc X [] (.i r)) ⟨35,[(1,.ptr 0 0 0 0),(3,.i Qq),(4,.i Wy)],[.box 74 (Qcr a0)]⟩):=by
  intro n
  induction n with
  | zero=>exact fun _ _ H=>Qal H
  | succ n ih=>
   ·intro Qq Wy H
    refine Xl hT 9 (K38 11101000 1) ⟨35,[(1,.ptr 0 0 0 0),(3,.i Qq),(4,.i Wy),(11,.b (decide (Wy < (a0.Held.length:Int))))],[.box 74 (Qcr a0)]⟩ ?_
    by_cases c1:Wy < (a0.Held.length:Int)
    ·replace H:=sT c1 H
     have Xy:∀ (Qjz:Bool),stk (Yo.j1 a0 Qq Wy Qjz) (iter (Yo.step a0) n)=some r->AK X 38 ((K38 1110100100 1)) (Yc X [] (.i r)) ⟨35,[(1,.ptr 0 0 0 0),(3,.i Qq),(4,.i Wy),(26,.b Qjz)],[.box 74 (Qcr a0)]⟩:=by
      intro Qjz H
      have Jj2:∀ (Qvs:Int),stk (Yo.j2 Wy Qvs) (iter (Yo.step a0) n)=some r->AK X 38 ((K38 11101001 1)) (Yc X [] (.i r)) ⟨35,[(1,.ptr 0 0 0 0),(3,.i Qvs),(4,.i Wy)],[.box 74 (Qcr a0)]⟩:=by
       intro Qvs H
       exact Xl hT 6 _ _ (ih Qvs (IntKind.wrap .i64 (Wy+1)) H)
      by_cases c4:Qjz=true
      ·replace H:=sT c4 H
       rw [c4]
       refine qI ?_
       obtain ⟨h5,H⟩:=sC H
       refine qX hT 5 h5 ?_
       refine qE hT 4 (K38 111010010010 8) ⟨35,[(1,.ptr 0 0 0 0),(3,.i (IntKind.wrap .i64 (((a0.Held.getD Wy.toNat Qz.z).Time) - 1))),(4,.i Wy)],[.box 74 (Qcr a0)]⟩ ?_
       obtain ⟨v1,h6,H⟩:=sdC H
       rw [<- h6]
       exact Xl hT 2 _ _ (Jj2 v1 H)
      replace H:=sF c4 H
      rw [Jo c4]
      exact Xl hT 3 _ _ (Jj2 Qq H)
     rw [decide_eq_true c1]
     refine Xl hT 9 (K38 11101001000 3) ⟨35,[(1,.ptr 0 0 0 0),(3,.i Qq),(4,.i Wy),(16,.b (Wy == 0))],[.box 74 (Qcr a0)]⟩ ?_
     by_cases c2:Wy=0
     ·replace H:=sT c2 H
      rw [eqT c2]
      exact Xl hT 11 _ _ (Xy true H)
     replace H:=sF c2 H
     rw [eqF c2]
     refine qI ?_
     obtain ⟨h3,H⟩:=sC H
     refine qX hT 3 h3 ?_
     exact qE hT 7 _ _ (Xy (decide ((IntKind.wrap .i64 (((a0.Held.getD Wy.toNat Qz.z).Time) - 1)) < Qq)) H)
    replace H:=sF c1 H
    rw [decide_eq_false c1]
    refine qI ?_
    obtain rfl:=Xr H
    exact qT hT 7 hf hX h0 [] an (.d (.v _))
 obtain ⟨n,H⟩:=Qbp H
 exact (L n) a0.Clock 0 H
theorem Zb.Qy (a0:Xe) (a1:Qi) {r:Bool} (H:Zb a0 a1=some r):Xz Tryz.prog 39 [] [.d (Qe0 a0),.d (Qpd a1)] [] (.b r):=by
 refine Xj Tryz.func39 rfl (nt:=33) rfl (lb rfl) fun X hP h0 hX=>?_
 have hT:Xb X.P T:=hP▸tok
 have hf:X.P.funcs[39]? = some Tryz.f39:=hP▸Tryz.func39
 refine qI ?_
 obtain ⟨v1,h1,H⟩:=ibC H
 refine qF hT 9 hP Qwa (Jg.Qy a0 h1) ?_
 have L:∀ n,(∀ (Yq:Int),iter (Zb.step a1 v1) n (.l1 Yq)=some r->AK X 39 ((K39 111010 0)) (Yc X [] (.b r)) ⟨33,[(3,.ptr 0 0 0 0),(5,.own 1 2 0 v1.length),(6,.i Yq)],[.box 69 (Qyb a1),Qd9 v1]⟩):=by
  intro n
  induction n with
  | zero=>exact fun _ H=>Qal H
  | succ n ih=>
   ·intro Yq H
    refine qI ?_
    rcases sB H with ⟨c2,H⟩ | ⟨c2,H⟩
    ·refine qB hT 8 (decide_eq_true c2) ?_
     refine qE hT 5 (K39 1110100100 0) ⟨33,[(3,.ptr 0 0 0 0),(5,.own 1 2 0 v1.length),(6,.i Yq)],[.box 69 (Qyb a1),Qd9 v1]⟩ ?_
     obtain ⟨h3,H⟩:=sC H
     have Xy:∀ (Qj0:Bool),stk (Zb.j1 Yq Qj0) (iter (Zb.step a1 v1) n)=some r->AK X 39 ((K39 1110100100 1)) (Yc X [] (.b r)) ⟨33,[(3,.ptr 0 0 0 0),(5,.own 1 2 0 v1.length),(6,.i Yq),(32,.b Qj0)],[.box 69 (Qyb a1),Qd9 v1]⟩:=by
      intro Qj0 H
      by_cases c5:Qj0=true
      ·replace H:=sT c5 H
       rw [c5]
       refine qI ?_
       obtain rfl:=Xr H
       exact qT hT 5 hf hX h0 [] an (.d (.v _))
      replace H:=sF c5 H
      rw [Jo c5]
      exact Xl hT 9 _ _ (ih (IntKind.wrap .i64 (Yq+1)) H)
     by_cases c4:((v1.getD Yq.toNat Qi.z).Lo) < a1.Hi
     ·replace H:=sT c4 H
      refine Qak (hP▸mixed) 18 [3,5,6] (sm [.own 1 2 0 v1.length,.i Yq,.ptr 1 2 Yq.toNat 0,.ptr 1 2 Yq.toNat 0,.i ((v1.getD Yq.toNat Qi.z).Lo),.ptr 0 0 0 1,.i a1.Hi,.b true,.b true,.ptr 0 0 0 0,.i a1.Lo,.own 1 2 0 v1.length,.i Yq,.ptr 1 2 Yq.toNat 0,.ptr 1 2 Yq.toNat 1,.i ((v1.getD Yq.toNat Qi.z).Hi),.b (decide (a1.Lo < ((v1.getD Yq.toNat Qi.z).Hi))),.b (decide (a1.Lo < ((v1.getD Yq.toNat Qi.z).Hi)))]) (Qe (Qe (Jr (Qe (Jr (Qe (Qe (Qe (Qe (Qe (opV (Qe (Qe (Jr (Qe (Jr (Qe (Qe op0 hT) hT) (fun R rest h=>Yf hT (i:=Yq) (n:=(v1.length:Int)) h3.1 h3.2 (by kernel_rfl) h)) hT) (fun R rest h=>Qgs hT (i:=Yq.toNat) (n:=v1.length) (ltN h3.1 h3.2) (by kernel_rfl) h)) hT) hT) hT 22 (.b (decide (((v1.getD Yq.toNat Qi.z).Lo) < a1.Hi))) (.b true) (by rw [decide_eq_true c4]<;>rfl)) hT) hT) hT) hT) hT) (fun R rest h=>Yf hT (i:=Yq) (n:=(v1.length:Int)) h3.1 h3.2 (by kernel_rfl) h)) hT) (fun R rest h=>Qgs hT (i:=Yq.toNat) (n:=v1.length) (ltN h3.1 h3.2) (by kernel_rfl) h)) hT) hT) ?_
      exact Xl hT 1 _ _ (Xy (decide (a1.Lo < ((v1.getD Yq.toNat Qi.z).Hi))) H)
     replace H:=sF c4 H
     refine Qak (hP▸mixed) 18 [3,5,6] (sm [.own 1 2 0 v1.length,.i Yq,.ptr 1 2 Yq.toNat 0,.ptr 1 2 Yq.toNat 0,.i ((v1.getD Yq.toNat Qi.z).Lo),.ptr 0 0 0 1,.i a1.Hi,.b false,.b false,.Qn [],.Qn [],.Qn [],.Qn [],.Qn [],.Qn [],.Qn [],.Qn [],.b false]) (Qe (Qe (Qe (Qe (Qe (Qe (Qe (Qe (Qe (Qe (opV (Qe (Qe (Jr (Qe (Jr (Qe (Qe op0 hT) hT) (fun R rest h=>Yf hT (i:=Yq) (n:=(v1.length:Int)) h3.1 h3.2 (by kernel_rfl) h)) hT) (fun R rest h=>Qgs hT (i:=Yq.toNat) (n:=v1.length) (ltN h3.1 h3.2) (by kernel_rfl) h)) hT) hT) hT 22 (.b (decide (((v1.getD Yq.toNat Qi.z).Lo) < a1.Hi))) (.b false) (by rw [decide_eq_false c4]<;>rfl)) hT) hT) hT) hT) hT) hT) hT) hT) hT) hT) ?_
     exact Xl hT 1 _ _ (Xy false H)
    refine qB hT 8 (decide_eq_false c2) ?_
    obtain rfl:=Xr H
    exact qT hT 6 hf hX h0 [] an (.d (.v _))
 refine qC hT 9 (K39 111010 0) [1,2] ⟨33,[(3,.ptr 0 0 0 0),(5,.own 1 2 0 v1.length),(6,.i 0)],[.box 69 (Qyb a1),Qd9 v1]⟩ h0 ?_
 obtain ⟨n,H⟩:=Qbp H
 exact (L n) 0 H
theorem Wq.Qy {t0:Bool} (a0:List Ql) {r:Int} (H:Wq a0=some r):Xz Tryz.prog 13 [] [.d (Qfo t0 a0)] [] (.i r):=by
 refine Xj Tryz.func13 rfl (nt:=105) rfl (lb rfl) fun X hP h0 hX=>?_
 have hT:Xb X.P T:=hP▸tok
 have hf:X.P.funcs[13]? = some Tryz.f13:=hP▸Tryz.func13
 refine qI ?_
 obtain ⟨v1,h1,H⟩:=ibC H
 refine qF hT 7 hP Qye (Qf.Qy (t0:=t0) a0 h1) ?_
 refine qE hT 12 (K13 1110 1) ⟨105,[(0,.d (Qfo t0 a0)),(3,.own 0 9 0 v1.1.length),(19,.b (v1.2 != 0))],[Jq v1.1]⟩ ?_
 by_cases c2:v1.2=0
 ·replace H:=iT c2 H
  rw [neF c2]
  refine Xl hT 13 (K13 11111010 0) ⟨105,[(0,.d (Qfo t0 a0)),(3,.own 0 9 0 v1.1.length),(5,.i 0),(6,.i 0)],[Jq v1.1]⟩ ?_
  have L:∀ n,(∀ (Xi:Int) (Yq:Int),iter (Wq.step a0 v1) n (.l1 Xi Yq)=some r->AK X 13 ((K13 11111010 0)) (Yc X [] (.i r)) ⟨105,[(0,.d (Qfo t0 a0)),(3,.own 0 9 0 v1.1.length),(5,.i Xi),(6,.i Yq)],[Jq v1.1]⟩)/\(∀ (v2:Int) (Zq:Int) (Qc2:Int) (Qei:Int),iter (Wq.step a0 v1) n (.l2 v2 Zq Qc2 Qei)=some r->AK X 13 ((K13 111110100100110 0)) (Yc X [] (.i r)) ⟨105,[(0,.d (Qfo t0 a0)),(3,.own 0 9 0 v1.1.length),(5,.i Zq),(6,.i Qc2),(7,.i v2),(8,.i Qei)],[Jq v1.1]⟩)/\(∀ (v2:Int) (Qby:Int) (Wn:Int) (Qe3:Int) (Qhp:Bool) (Qd8:Int) (Qcm:Int) (Qcv:Int) (Qc8:Int) (Qc9:List Qg) (Qda:Int) (Qdb:Int) (Qdc:Int) (Qc1:Int) (Qet:Bool),iter (Wq.step a0 v1) n (.l3 v2 Qby Wn Qe3 Qhp Qd8 Qcm Qcv Qc8 Qc9 Qda Qdb Qdc Qc1 Qet)=some r->AK X 13 ((K13 111110100100110010011010 0)) (Yc X [] (.i r)) ⟨105,[(0,.d (Qfo t0 a0)),(3,.own 0 9 0 v1.1.length),(5,.i Qby),(6,.i Wn),(7,.i v2),(8,.i Qe3),(9,.ptr 1 0 0 0),(10,.b Qhp),(11,.i Qd8)],[Jq v1.1,.box 78 [.i Qcm,.i Qcv,.i Qc8,.d (Yg true Qc9),.i Qda,.i Qdb,.i Qdc,.i Qc1,.b Qet]]⟩):=by
   intro n
   induction n with
   | zero=>exact ⟨fun _ _ H=>Qal H,fun _ _ _ _ H=>Qal H,fun _ _ _ _ _ _ _ _ _ _ _ _ _ _ _ H=>Qal H⟩
   | succ n ih=>
    refine ⟨?_, ?_, ?_⟩
    ·intro Xi Yq H
     refine qI ?_
     rcases sB H with ⟨c3,H⟩ | ⟨c3,H⟩
     ·refine qB hT 8 (decide_eq_true c3) ?_
      refine qE hT 8 (K13 1111101001000 2) ⟨105,[(0,.d (Qfo t0 a0)),(3,.own 0 9 0 v1.1.length),(5,.i Xi),(6,.i Yq),(26,.d (Qfo t0 a0)),(27,.i Yq)],[Jq v1.1]⟩ ?_
      obtain ⟨h4,H⟩:=sC H
      refine qI ?_
      refine qX hT 0 h4 ?_
      refine qE hT 1 (K13 1111101001000 4) ⟨105,[(0,.d (Qfo t0 a0)),(3,.own 0 9 0 v1.1.length),(5,.i Xi),(6,.i Yq),(29,.d (Qhf (a0.getD Yq.toNat Ql.z)))],[Jq v1.1]⟩ ?_
      obtain ⟨v2,h5,H⟩:=sbC H
      refine qI ?_
      refine qF hT 0 hP Wfc (Yo.Qy (a0.getD Yq.toNat Ql.z) h5) ?_
      exact qE hT 8 _ _ (ih.2.1 v2 Xi Yq 0 H)
     refine qB hT 8 (decide_eq_false c3) ?_
     obtain rfl:=Xr H
     exact qT hT 7 hf hX h0 [] an (.d (.v _))
    ·intro v2 Zq Qc2 Qei H
     refine qI ?_
     rcases sB H with ⟨c6,H⟩ | ⟨c6,H⟩
     ·refine qB hT 8 (decide_eq_true c6) ?_
      refine qE hT 8 (K13 11111010010011001000 2) ⟨105,[(0,.d (Qfo t0 a0)),(3,.own 0 9 0 v1.1.length),(5,.i Zq),(6,.i Qc2),(7,.i v2),(8,.i Qei),(37,.own 0 9 0 v1.1.length),(38,.i Qei)],[Jq v1.1]⟩ ?_
      obtain ⟨h7,H⟩:=sC H
      refine Qjb hT [0,3,5,6,7,8,39] (i:=Qei) (n:=(v1.1.length:Int)) h7.1 h7.2 (k':=(K13 11111010010011001000 3)) (st':=⟨105,[(0,.d (Qfo t0 a0)),(3,.own 0 9 0 v1.1.length),(5,.i Zq),(6,.i Qc2),(7,.i v2),(8,.i Qei),(39,.ptr 0 9 Qei.toNat 0)],[Jq v1.1]⟩) (by kernel_rfl) ?_
      refine Qlw hT [0,3,5,6,7,8,40] (i:=Qei.toNat) (n:=v1.1.length) (ltN h7.1 h7.2) (k':=(K13 11111010010011001000 4)) (st':=⟨105,[(0,.d (Qfo t0 a0)),(3,.own 0 9 0 v1.1.length),(5,.i Zq),(6,.i Qc2),(7,.i v2),(8,.i Qei),(40,.d (Qtf (v1.1.getD Qei.toNat Qd.z)))],[Jq v1.1]⟩) (by kernel_rfl) ?_
      exact Yp hT 14 _ [0,1] _ h0 (ih.2.2 v2 Zq Qc2 Qei false 0 (((v1.1.getD Qei.toNat Qd.z).M).Client) (((v1.1.getD Qei.toNat Qd.z).M).Seq) (((v1.1.getD Qei.toNat Qd.z).M).Kind) (((v1.1.getD Qei.toNat Qd.z).M).Pairs) ((((v1.1.getD Qei.toNat Qd.z).M).Over).Lo) ((((v1.1.getD Qei.toNat Qd.z).M).Over).Hi) (((v1.1.getD Qei.toNat Qd.z).M).Old) ((v1.1.getD Qei.toNat Qd.z).Time) ((v1.1.getD Qei.toNat Qd.z).Zw) H)
     refine qB hT 8 (decide_eq_false c6) ?_
     exact qE hT 9 _ _ (ih.1 Zq (IntKind.wrap .i64 (Qc2+1)) H)
    intro v2 Qby Wn Qe3 Qhp Qd8 Qcm Qcv Qc8 Qc9 Qda Qdb Qdc Qc1 Qet H
    refine qI ?_
    obtain ⟨h8,H⟩:=sC H
    refine qX hT 6 h8 ?_
    refine qE hT 5 (K13 11111010010011001001101000 1) ⟨105,[(0,.d (Qfo t0 a0)),(3,.own 0 9 0 v1.1.length),(5,.i Qby),(6,.i Wn),(7,.i v2),(8,.i Qe3),(9,.ptr 1 0 0 0),(10,.b Qhp),(11,.i Qd8),(48,.b (decide (Qd8 < (((a0.getD Wn.toNat Ql.z).Qs).length:Int))))],[Jq v1.1,.box 78 [.i Qcm,.i Qcv,.i Qc8,.d (Yg true Qc9),.i Qda,.i Qdb,.i Qdc,.i Qc1,.b Qet]]⟩ ?_
    by_cases c9:Qd8 < (((a0.getD Wn.toNat Ql.z).Qs).length:Int)
    ·replace H:=sT c9 H
     rw [decide_eq_true c9]
     refine qI ?_
     refine qX hT 8 h8 ?_
     refine qE hT 3 (K13 11111010010011001001101001000 6) ⟨105,[(0,.d (Qfo t0 a0)),(3,.own 0 9 0 v1.1.length),(5,.i Qby),(6,.i Wn),(7,.i v2),(8,.i Qe3),(9,.ptr 1 0 0 0),(10,.b Qhp),(11,.i Qd8),(55,.d (Qhz true ((a0.getD Wn.toNat Ql.z).Qs))),(56,.i Qd8)],[Jq v1.1,.box 78 [.i Qcm,.i Qcv,.i Qc8,.d (Yg true Qc9),.i Qda,.i Qdb,.i Qdc,.i Qc1,.b Qet]]⟩ ?_
     obtain ⟨h15,H⟩:=sC H
     have Jj3:∀ (Qsm:Bool),stk (Wq.j3 Qby Wn Qe3 Qd8 Qcm Qcv Qc8 Qc9 Qda Qdb Qdc Qc1 Qet v2 Qsm) (iter (Wq.step a0 v1) n)=some r->AK X 13 ((K13 11111010010011001001101001 1)) (Yc X [] (.i r)) ⟨105,[(0,.d (Qfo t0 a0)),(3,.own 0 9 0 v1.1.length),(5,.i Qby),(6,.i Wn),(7,.i v2),(8,.i Qe3),(9,.ptr 1 0 0 0),(10,.b Qsm),(11,.i Qd8)],[Jq v1.1,.box 78 [.i Qcm,.i Qcv,.i Qc8,.d (Yg true Qc9),.i Qda,.i Qdb,.i Qdc,.i Qc1,.b Qet]]⟩:=by
      intro Qsm H
      exact Xl hT 6 _ _ (ih.2.2 v2 Qby Wn Qe3 Qsm (IntKind.wrap .i64 (Qd8+1)) Qcm Qcv Qc8 Qc9 Qda Qdb Qdc Qc1 Qet H)
     refine qI ?_
     refine qX hT 0 h15 ?_
     refine qE hT 7 (K13 11111010010011001001101001001 2) ⟨105,[(0,.d (Qfo t0 a0)),(3,.own 0 9 0 v1.1.length),(5,.i Qby),(6,.i Wn),(7,.i v2),(8,.i Qe3),(9,.ptr 1 0 0 0),(11,.i Qd8),(12,.ptr 2 0 0 0),(60,.b Qhp)],[Jq v1.1,.box 78 [.i Qcm,.i Qcv,.i Qc8,.d (Yg true Qc9),.i Qda,.i Qdb,.i Qdc,.i Qc1,.b Qet],.box 90 (Wif (((a0.getD Wn.toNat Ql.z).Qs).getD Qd8.toNat Wh.z))]⟩ ?_
     refine qI ?_
     rcases sB H with ⟨c16,H⟩ | ⟨c16,H⟩
     ·refine qB hT 0 (c16) ?_
      exact qC hT 18 _ [0,1] _ h0 (Jj3 true H)
     refine qB hT 0 (Jo c16) ?_
     refine qE hT 7 (K13 11111010010011001001101001001 9) ⟨105,[(0,.d (Qfo t0 a0)),(3,.own 0 9 0 v1.1.length),(5,.i Qby),(6,.i Wn),(7,.i v2),(8,.i Qe3),(9,.ptr 1 0 0 0),(11,.i Qd8),(12,.ptr 2 0 0 0),(60,.b false),(67,.b (((((a0.getD Wn.toNat Ql.z).Qs).getD Qd8.toNat Wh.z).Client) == Qcm))],[Jq v1.1,.box 78 [.i Qcm,.i Qcv,.i Qc8,.d (Yg true Qc9),.i Qda,.i Qdb,.i Qdc,.i Qc1,.b Qet],.box 90 (Wif (((a0.getD Wn.toNat Ql.z).Qs).getD Qd8.toNat Wh.z))]⟩ ?_
     by_cases c17:((((a0.getD Wn.toNat Ql.z).Qs).getD Qd8.toNat Wh.z).Client)=Qcm
     ·replace H:=sT c17 H
      rw [eqT c17]
      exact Yp hT 11 _ [0,1] _ h0 (Jj3 (((((a0.getD Wn.toNat Ql.z).Qs).getD Qd8.toNat Wh.z).Seq) == Qcv) H)
     replace H:=sF c17 H
     rw [eqF c17]
     exact Yp hT 11 _ [0,1] _ h0 (Jj3 false H)
    replace H:=sF c9 H
    have Xy:∀ (Qo1:Bool),stk (Wq.j1 Qby Wn Qe3 v2 Qo1) (iter (Wq.step a0 v1) n)=some r->AK X 13 ((K13 1111101001001100100111 1)) (Yc X [] (.i r)) ⟨105,[(0,.d (Qfo t0 a0)),(3,.own 0 9 0 v1.1.length),(5,.i Qby),(6,.i Wn),(7,.i v2),(8,.i Qe3),(101,.b Qo1)],[Jq v1.1]⟩:=by
     intro Qo1 H
     have Jj2:∀ (Qlr:Int),stk (Wq.j2 Wn Qe3 v2 Qlr) (iter (Wq.step a0 v1) n)=some r->AK X 13 ((K13 11111010010011001 1)) (Yc X [] (.i r)) ⟨105,[(0,.d (Qfo t0 a0)),(3,.own 0 9 0 v1.1.length),(5,.i Qlr),(6,.i Wn),(7,.i v2),(8,.i Qe3)],[Jq v1.1]⟩:=by
      intro Qlr H
      exact Xl hT 6 _ _ (ih.2.1 v2 Qlr Wn (IntKind.wrap .i64 (Qe3+1)) H)
     by_cases c14:Qo1=true
     ·replace H:=sT c14 H
      rw [c14]
      exact Xl hT 7 _ _ (Jj2 (IntKind.wrap .i64 (Qby+1)) H)
     replace H:=sF c14 H
     rw [Jo c14]
     exact Xl hT 3 _ _ (Jj2 Qby H)
    rw [decide_eq_false c9]
    refine Xl hT 3 (K13 1111101001001100100111 0) ⟨105,[(0,.d (Qfo t0 a0)),(3,.own 0 9 0 v1.1.length),(5,.i Qby),(6,.i Wn),(7,.i v2),(8,.i Qe3),(9,.ptr 1 0 0 0),(10,.b Qhp)],[Jq v1.1,.box 78 [.i Qcm,.i Qcv,.i Qc8,.d (Yg true Qc9),.i Qda,.i Qdb,.i Qdc,.i Qc1,.b Qet]]⟩ ?_
    by_cases c10:((a0.getD Wn.toNat Ql.z).Qag)=true
    ·replace H:=sT c10 H
     refine Qak (hP▸mixed) 26 [0,3,5,6,7,8,9,10] (sm [.d (Qfo t0 a0),.i Wn,.d (Qmi t0 a0 Wn.toNat 0),.d (Qmi t0 a0 Wn.toNat 5),.b true,.b false,.b false,.Qn [],.Qn [],.Qn [],.Qn [],.b false,.b false,.Qn [],.Qn [],.Qn [],.Qn [],.Qn [],.Qn [],.Qn [],.Qn [],.b false,.b false,.Qn [],.Qn [],.b false]) (Qe (Qe (Qe (Qe (Qe (Qe (Qe (Qe (Qe (Qe (Qe (Qe (Qe (Qe (Qe (Qe (Qe (Qe (Qe (Qe (Qe (opV (Qe (Jr (Qe (Qe op0 hT) hT) (fun R rest h=>Yf hT (i:=Wn) (n:=(a0.length:Int)) h8.1 h8.2 (by kernel_rfl) h)) hT) hT 80 (.b ((a0.getD Wn.toNat Ql.z).Qag)) (.b true) (by rw [c10]<;>rfl)) hT) hT) hT) hT) hT) hT) hT) hT) hT) hT) hT) hT) hT) hT) hT) hT) hT) hT) hT) hT) hT) ?_
     exact Yp hT 1 _ [0] _ h0 (Xy false H)
    replace H:=sF c10 H
    by_cases c11:Qc1<=v2
    ·replace H:=sT c11 H
     obtain ⟨v3,h12,H⟩:=sbC H
     by_cases c13:v3=true
     ·replace H:=sT c13 H
      refine Qak (hP▸mixed) 26 [0,3,5,6,7,8,9,10] (sm [.d (Qfo t0 a0),.i Wn,.d (Qmi t0 a0 Wn.toNat 0),.d (Qmi t0 a0 Wn.toNat 5),.b false,.b true,.b true,.ptr 1 0 0 7,.i Qc1,.i v2,.b true,.b true,.b true,.ptr 1 0 0 0,.d (.agg [.i Qcm,.i Qcv,.i Qc8,Yg true Qc9,.i Qda,.i Qdb,.i Qdc]),.d (Qfo t0 a0),.i Wn,.d (Qmi t0 a0 Wn.toNat 0),.d (Qmi t0 a0 Wn.toNat 1),.d (Qpd ((a0.getD Wn.toNat Ql.z).Keys)),.b true,.b true,.b true,.b Qhp,.b (!Qhp),.b (!Qhp)]) (Qe (Qe (Qe (Qe (Qe (Jr (Qe (Qe (Jr (Qe (Qe (Qe (Qe (Qe (Qe (opV (Qe (Qe (Qe (Qe (Qe (opV (Qe (Jr (Qe (Qe op0 hT) hT) (fun R rest h=>Yf hT (i:=Wn) (n:=(a0.length:Int)) h8.1 h8.2 (by kernel_rfl) h)) hT) hT 80 (.b ((a0.getD Wn.toNat Ql.z).Qag)) (.b false) (by rw [Jo c10]<;>rfl)) hT) hT) hT) hT) hT) hT 86 (.b (decide (Qc1<=v2))) (.b true) (by rw [decide_eq_true c11]<;>rfl)) hT) hT) hT) hT) hT) hT) (fun R rest h=>Yf hT (i:=Wn) (n:=(a0.length:Int)) h8.1 h8.2 (by kernel_rfl) h)) hT) hT) (fun R rest h=>Zl (Zk:=[.d (.agg [.i Qcm,.i Qcv,.i Qc8,Yg true Qc9,.i Qda,.i Qdb,.i Qdc]),.d (Qpd ((a0.getD Wn.toNat Ql.z).Keys))]) (dst:=some 96) hP Qv5 (by have q:=Zb.Qy (⟨Qcm,Qcv,Qc8,Qc9,(⟨Qda,Qdb⟩:Qi),Qdc⟩:Xe) ((a0.getD Wn.toNat Ql.z).Keys) h12;rw [c13] at q;exact q) (by kernel_rfl) (.cons (Wj _) (.cons (Wj _) .nil)) (by kernel_rfl) h)) hT) hT) hT) hT) hT) ?_
      exact Yp hT 1 _ [0] _ h0 (Xy (!Qhp) H)
     replace H:=sF c13 H
     refine Qak (hP▸mixed) 26 [0,3,5,6,7,8,9,10] (sm [.d (Qfo t0 a0),.i Wn,.d (Qmi t0 a0 Wn.toNat 0),.d (Qmi t0 a0 Wn.toNat 5),.b false,.b true,.b true,.ptr 1 0 0 7,.i Qc1,.i v2,.b true,.b true,.b true,.ptr 1 0 0 0,.d (.agg [.i Qcm,.i Qcv,.i Qc8,Yg true Qc9,.i Qda,.i Qdb,.i Qdc]),.d (Qfo t0 a0),.i Wn,.d (Qmi t0 a0 Wn.toNat 0),.d (Qmi t0 a0 Wn.toNat 1),.d (Qpd ((a0.getD Wn.toNat Ql.z).Keys)),.b false,.b false,.b false,.Qn [],.Qn [],.b false]) (Qe (Qe (Qe (Qe (Qe (Jr (Qe (Qe (Jr (Qe (Qe (Qe (Qe (Qe (Qe (opV (Qe (Qe (Qe (Qe (Qe (opV (Qe (Jr (Qe (Qe op0 hT) hT) (fun R rest h=>Yf hT (i:=Wn) (n:=(a0.length:Int)) h8.1 h8.2 (by kernel_rfl) h)) hT) hT 80 (.b ((a0.getD Wn.toNat Ql.z).Qag)) (.b false) (by rw [Jo c10]<;>rfl)) hT) hT) hT) hT) hT) hT 86 (.b (decide (Qc1<=v2))) (.b true) (by rw [decide_eq_true c11]<;>rfl)) hT) hT) hT) hT) hT) hT) (fun R rest h=>Yf hT (i:=Wn) (n:=(a0.length:Int)) h8.1 h8.2 (by kernel_rfl) h)) hT) hT) (fun R rest h=>Zl (Zk:=[.d (.agg [.i Qcm,.i Qcv,.i Qc8,Yg true Qc9,.i Qda,.i Qdb,.i Qdc]),.d (Qpd ((a0.getD Wn.toNat Ql.z).Keys))]) (dst:=some 96) hP Qv5 (by have q:=Zb.Qy (⟨Qcm,Qcv,Qc8,Qc9,(⟨Qda,Qdb⟩:Qi),Qdc⟩:Xe) ((a0.getD Wn.toNat Ql.z).Keys) h12;rw [Jo c13] at q;exact q) (by kernel_rfl) (.cons (Wj _) (.cons (Wj _) .nil)) (by kernel_rfl) h)) hT) hT) hT) hT) hT) ?_
     exact Yp hT 1 _ [0] _ h0 (Xy false H)
    replace H:=sF c11 H
    refine Qak (hP▸mixed) 26 [0,3,5,6,7,8,9,10] (sm [.d (Qfo t0 a0),.i Wn,.d (Qmi t0 a0 Wn.toNat 0),.d (Qmi t0 a0 Wn.toNat 5),.b false,.b true,.b true,.ptr 1 0 0 7,.i Qc1,.i v2,.b false,.b false,.b false,.Qn [],.Qn [],.Qn [],.Qn [],.Qn [],.Qn [],.Qn [],.Qn [],.b false,.b false,.Qn [],.Qn [],.b false]) (Qe (Qe (Qe (Qe (Qe (Qe (Qe (Qe (Qe (Qe (Qe (Qe (Qe (Qe (Qe (opV (Qe (Qe (Qe (Qe (Qe (opV (Qe (Jr (Qe (Qe op0 hT) hT) (fun R rest h=>Yf hT (i:=Wn) (n:=(a0.length:Int)) h8.1 h8.2 (by kernel_rfl) h)) hT) hT 80 (.b ((a0.getD Wn.toNat Ql.z).Qag)) (.b false) (by rw [Jo c10]<;>rfl)) hT) hT) hT) hT) hT) hT 86 (.b (decide (Qc1<=v2))) (.b false) (by rw [decide_eq_false c11]<;>rfl)) hT) hT) hT) hT) hT) hT) hT) hT) hT) hT) hT) hT) hT) hT) hT) ?_
    exact Yp hT 1 _ [0] _ h0 (Xy false H)
  obtain ⟨n,H⟩:=Qbp H
  exact (L n).1 0 0 H
 replace H:=iF c2 H
 rw [neT c2]
 refine qI ?_
 obtain rfl:=Xr H
 exact qT hT 5 hf hX h0 [] an (.d (.v _))
end
end Go.SyP
