/- Certificates, printed by gen.py. -/
import Derived.Test.YtdhmflhncidjaaaGreatGthzD
import Derived.Test.YtdhmflhncidjaaaGreatGthzF
import Derived.Test.YtdhmflhncidjaaaGreatGthzI
import Derived.Test.YtdhmflhncidjaaaGreatGthzW
import Derived.Test.YtdhmflhncidjaaaGreatSyDel
import Derived.Test.YtdhmflhncidjaaaGreatSyObj
set_option linter.unusedVariables false
set_option linter.unusedSimpArgs false
namespace Go.SyP
open Go Go.Sy Go.Proofs
noncomputable section
abbrev eKo (x:Qc) (a la b lb c lc:Nat):List AV:=[.i x.ID,.i x.Keys.Lo,.i x.Keys.Hi,.i x.Clock,.b x.Ws,.b x.Wn,.own a 10 0 la,.d (We true x.Base),.own b 9 0 lb,.own c 4 0 lc]
abbrev eK (x:Qc) (a b c:Nat):List AV:=eKo x a x.Held.length b x.Log.length c x.Known.length
abbrev eTo (x:Qn) (a la b lb c lc d ld e le:Nat):List AV:=[.i x.c.ID,.i x.c.Keys.Lo,.i x.c.Keys.Hi,.i x.c.Clock,.b x.c.Ws,.b x.c.Wn,.own a 10 0 la,.d (We true x.c.Base),.own b 9 0 lb,.own c 4 0 lc,.i x.x.Qbl,.i x.x.Next,.d (Zn true x.x.L),.own d 25 0 ld,.own e 23 0 le]
abbrev eT (x:Qn) (a b c d e:Nat) (y z:Qn):List AV:=eTo x a x.c.Held.length b x.c.Log.length c x.c.Known.length d y.recs.length e z.notes.length
theorem nrT {ty:TypeId} {v1 v2 v3 v4 v5 v6 v7 v8:Value} {xs:List Qa} {ys:List Qi} {a1 a2 a3 a4 b1 b2 b3 b4 c1 c2 c3 c4 d1 d2 d3 d4 e1 e2 e3 e4:Nat}:NR (.box ty [.d (.v v1),.d (.v v2),.d (.v v3),.d (.v v4),.d (.v v5),.d (.v v6),.own a1 a2 a3 a4,.d (We true xs),.own b1 b2 b3 b4,.own c1 c2 c3 c4,.d (.v v7),.d (.v v8),.d (Zn true ys),.own d1 d2 d3 d4,.own e1 e2 e3 e4]):=(.box (.cons (.d (.v _)) (.cons (.d (.v _)) (.cons (.d (.v _)) (.cons (.d (.v _)) (.cons (.d (.v _)) (.cons (.d (.v _)) (.cons (.own _ _ _ _) (.cons (.d (.sl fun _ _=>Qa.nl _)) (.cons (.own _ _ _ _) (.cons (.own _ _ _ _) (.cons (.d (.v _)) (.cons (.d (.v _)) (.cons (.d (.sl fun _ _=>Qi.nl _)) (.cons (.own _ _ _ _) (.cons (.own _ _ _ _) .nil))))))))))))))))
theorem Qnk.Qt:Xt Tryz.prog 5 [] [] [] (.b Qnk):=fine.Qt
theorem Qeu.Qt:Xt Tryz.prog 4 [] [] [] (.d (Qcc (Qeu))):=by
 obtain ⟨r,H⟩:∃ r,Qeu=r:=⟨_,rfl⟩
 rw [H]
 refine Wx Tryz.func4 rfl (nt:=3) rfl (lb rfl) fun X hP h0 hX=>?_
 have hT:Qw X.P T:=hP▸tok
 have hf:X.P.funcs[4]? = some Tryz.f4:=hP▸Tryz.func4
 refine Xq hT 8 (K4 110 2) ⟨3,[(0,.ptr 0 0 0 0),(2,.d (.agg [.i 1,.i 0,.i 4096,.i 0,.b false,.b false,.ns,.ns,.ns,.ns]))],[.box 30 [.i 0,.i 0,.i 0,.i 0,.b false,.b false,.ns,.ns,.ns,.ns]]⟩ ?_
 refine Qe4 (av:=.d (.agg [.i 1,.i 0,.i 4096,.i 0,.b false,.b false,.ns,.ns,.ns,.ns])) (y:=.agg [.i 1,.i 0,.i 4096,.i 0,.b false,.b false,Qac true ([]:List Qh),We true ([]:List Qa),Zl true ([]:List Qe),Zy true ([]:List Qg)]) [0,2] 2 (st':=⟨3,[(0,.ptr 0 0 0 0),(2,.d (.agg [.i 1,.i 0,.i 4096,.i 0,.b false,.b false,Qac true ([]:List Qh),We true ([]:List Qa),Zl true ([]:List Qe),Zy true ([]:List Qg)]))],[.box 30 [.i 0,.i 0,.i 0,.i 0,.b false,.b false,.ns,.ns,.ns,.ns]]⟩) (by kernel_rfl) (.Qp6 (.cons (.d _) (.cons (.d _) (.cons (.d _) (.cons (.d _) (.cons (.d _) (.cons (.d _) (.cons (.nil _) (.cons (.nil _) (.cons (.nil _) (.cons (.nil _) .nil))))))))))) (by kernel_rfl) ?_
 refine Xq hT 2 (K4 11 1) ⟨3,[(0,.ptr 0 0 0 0)],[.box 30 [.i 1,.i 0,.i 4096,.i 0,.b false,.b false,.d (Qac true ([]:List Qh)),.d (We true ([]:List Qa)),.d (Zl true ([]:List Qe)),.d (Zy true ([]:List Qg))]]⟩ ?_
 obtain rfl:=H
 exact Qh4 hT hf hX (av:=.d (.agg [.i 1,.i 0,.i 4096,.i 0,.b false,.b false,Qac true ([]:List Qh),We true ([]:List Qa),Zl true ([]:List Qe),Zy true ([]:List Qg)])) (by kernel_rfl) [] (Qal (by kernel_rfl)) (by decide) (by rw [h0];rfl) (by kernel_rfl) an (.d (.agg (Qc.nl _)))
theorem Qhg.Qt (a0:Int) (a1:Int) {r:Int} (H:Qhg a0 a1=some r):Xt Tryz.prog 9 [] [.i a0,.i a1] [] (.i r):=by
 refine Wx Tryz.func9 rfl (nt:=12) rfl (lb rfl) fun X hP h0 hX=>?_
 have hT:Qw X.P T:=hP▸tok
 have hf:X.P.funcs[9]? = some Tryz.f9:=hP▸Tryz.func9
 refine Xq hT 8 (K9 110 2) ⟨12,[(1,.i a1),(5,.i a0),(6,.i a1)],[]⟩ ?_
 obtain ⟨h1,H⟩:=iC H
 refine We5 (op:=.rem) (t:=3) (u:=.int .i64 a0) (v:=.int .i64 a1) (z:=.int .i64 (Int.tmod a0 a1)) (dst:=some 7) (k':=(K9 110 3)) hT [1,7] (by kernel_rfl) (by simp only [Qjs,if_neg h1];rfl) (st':=⟨12,[(1,.i a1),(7,.i (Int.tmod a0 a1))],[]⟩) (by kernel_rfl) ?_
 refine Xq hT 3 (K9 110 6) ⟨12,[(9,.i (IntKind.wrap .i64 ((Int.tmod a0 a1)+a1))),(10,.i a1)],[]⟩ ?_
 refine We5 (op:=.rem) (t:=3) (u:=.int .i64 (IntKind.wrap .i64 ((Int.tmod a0 a1)+a1))) (v:=.int .i64 a1) (z:=.int .i64 (Int.tmod (IntKind.wrap .i64 ((Int.tmod a0 a1)+a1)) a1)) (dst:=some 11) (k':=(K9 110 7)) hT [11] (by kernel_rfl) (by simp only [Qjs,if_neg h1];rfl) (st':=⟨12,[(11,.i (Int.tmod (IntKind.wrap .i64 ((Int.tmod a0 a1)+a1)) a1))],[]⟩) (by kernel_rfl) ?_
 refine qI ?_
 obtain rfl:=Yt H
 exact qT hT 2 hf hX h0 [] an (.d (.v _))
theorem Zf.Qt {t0:Bool} {ff1:FuncId} {cc1:List DV} (a0:List Qc) (p1:Qc->Option Bool) (he1:Sy.Enters Tryz.prog ff1) (hp1:∀ (z0:Qc) r,p1 z0=some r->Xt Tryz.prog ff1 [] ([.d (Qcc z0)] ++ List.map AV.d cc1) [] (.b r)) {r:Int} (H:Zf a0 p1=some r):Xt Tryz.prog 63 [] [.d (Qc8 t0 a0),.d (.fn ff1 cc1)] [] (.i r):=by
 refine Wx Tryz.func63 rfl (nt:=19) rfl (lb rfl) fun X hP h0 hX=>?_
 have hT:Qw X.P T:=hP▸tok
 have hf:X.P.funcs[63]? = some Tryz.f63:=hP▸Tryz.func63
 refine Xq hT 13 (K63 11010 0) ⟨19,[(0,.d (Qc8 t0 a0)),(1,.d (.fn ff1 cc1)),(7,.i (a0.length:Int)),(8,.i 0)],[]⟩ ?_
 have L:∀ n,(∀ (Wi:Int),iter (Zf.step a0 p1) n (.l1 Wi)=some r->AK X 63 ((K63 11010 0)) (Ym X [] (.i r)) ⟨19,[(0,.d (Qc8 t0 a0)),(1,.d (.fn ff1 cc1)),(7,.i (a0.length:Int)),(8,.i Wi)],[]⟩):=by
  intro n
  induction n with
  | zero=>exact fun _ H=>Qbh H
  | succ n ih=>
   ·intro Wi H
    refine qI ?_
    rcases sB H with ⟨c1,H⟩ | ⟨c1,H⟩
    ·refine qB hT 5 (decide_eq_true c1) ?_
     obtain ⟨h2,H⟩:=sC H
     refine qX hT 14 h2 ?_
     refine qE hT 1 (K63 110100110010 5) ⟨19,[(0,.d (Qc8 t0 a0)),(1,.d (.fn ff1 cc1)),(5,.i Wi),(7,.i (a0.length:Int)),(8,.i Wi),(11,.d (.fn ff1 cc1)),(15,.d (Qcc (a0.getD Wi.toNat Qc.z)))],[]⟩ ?_
     obtain ⟨v1,h3,H⟩:=sbC H
     refine Zd (Xx:=[.d (Qcc (a0.getD Wi.toNat Qc.z))] ++ List.map AV.d cc1) (dst:=some 16) (k':=(K63 110100110010 6)) [0,1,5,7,8,16] [] hP he1 (hp1 (a0.getD Wi.toNat Qc.z) v1 h3) (by kernel_rfl) (Qao _) (.cons (Qk _) (Qfn _)) (st':=⟨19,[(0,.d (Qc8 t0 a0)),(1,.d (.fn ff1 cc1)),(5,.i Wi),(7,.i (a0.length:Int)),(8,.i Wi),(16,.b v1)],[]⟩) (by kernel_rfl) ?_
     refine qI ?_
     rcases sB H with ⟨c4,H⟩ | ⟨c4,H⟩
     ·refine qB hT 1 (c4) ?_
      obtain rfl:=Yt H
      exact qT hT 6 hf hX h0 [] an (.d (.v _))
     refine qB hT 1 (boF c4) ?_
     exact qE hT 8 _ _ (ih (IntKind.wrap .i64 (Wi+1)) H)
    refine qB hT 5 (decide_eq_false c1) ?_
    obtain rfl:=Yt H
    exact qT hT 6 hf hX h0 [] an (.d (.v _))
 obtain ⟨n,H⟩:=Qbw H
 exact (L n) 0 H
theorem Qcs.Qt {t0:Bool} {ff1:FuncId} {cc1:List DV} (a0:List Qc) (p1:Qc->Option Bool) (he1:Sy.Enters Tryz.prog ff1) (hp1:∀ (z0:Qc) r,p1 z0=some r->Xt Tryz.prog ff1 [] ([.d (Qcc z0)] ++ List.map AV.d cc1) [] (.b r)) {r:Bool} (H:Qcs a0 p1=some r):Xt Tryz.prog 26 [] [.d (Qc8 t0 a0),.d (.fn ff1 cc1)] [] (.b r):=by
 refine Wx Tryz.func26 rfl (nt:=9) rfl (lb rfl) fun X hP h0 hX=>?_
 have hT:Qw X.P T:=hP▸tok
 have hf:X.P.funcs[26]? = some Tryz.f26:=hP▸Tryz.func26
 refine qI ?_
 obtain ⟨v1,h1,H⟩:=ibC H
 refine qF hT 8 hP Wgf (Zf.Qt (t0:=t0) (ff1:=ff1) (cc1:=cc1) a0 p1 he1 hp1 h1) ?_
 obtain rfl:=Yt H
 exact qT hT 3 hf hX h0 [] an (.d (.v _))
theorem Qbs.Qt (a0:Int) (a1:Int) (a2:Int):Xt Tryz.prog 33 [] [.i a0,.i a1,.i a2] [] (.b (Qbs a0 a1 a2)):=by
 obtain ⟨r,H⟩:∃ r,Qbs a0 a1 a2=r:=⟨_,rfl⟩
 rw [H]
 refine Wx Tryz.func33 rfl (nt:=15) rfl (lb rfl) fun X hP h0 hX=>?_
 have hT:Qw X.P T:=hP▸tok
 have hf:X.P.funcs[33]? = some Tryz.f33:=hP▸Tryz.func33
 have Yx:∀ (Qk5:Bool),(Qbs.j1 Qk5)=r->AK X 33 ((K33 11 1)) (Ym X [] (.b r)) ⟨15,[(6,.b Qk5)],[]⟩:=by
  intro Qk5 H
  obtain rfl:=H
  exact Qd9 hf hX h0 (.b Qk5) [] an (.d (.v _))
 refine qI ?_
 rcases iB H with ⟨c1,H⟩ | ⟨c1,H⟩
 ·refine qB hT 10 (decide_eq_true c1) ?_
  exact qE hT 6 _ _ (Yx (decide (a0<=a2)) H)
 refine qB hT 10 (decide_eq_false c1) ?_
 exact qE hT 6 _ _ (Yx false H)
theorem Qbk.Qt (a0:Qb):Xt Tryz.prog 57 [] [.d (Qgk a0)] [] (.b (Qbk a0)):=by
 obtain ⟨r,H⟩:∃ r,Qbk a0=r:=⟨_,rfl⟩
 rw [H]
 refine Wx Tryz.func57 rfl (nt:=18) rfl (lb rfl) fun X hP h0 hX=>?_
 have hT:Qw X.P T:=hP▸tok
 have hf:X.P.funcs[57]? = some Tryz.f57:=hP▸Tryz.func57
 have Yx:∀ (Qcu:Bool),(Qbk.j1 Qcu)=r->AK X 57 ((K57 11 1)) (Ym X [] (.b r)) ⟨18,[(2,.b Qcu)],[]⟩:=by
  intro Qcu H
  obtain rfl:=H
  exact Qd9 hf hX h0 (.b Qcu) [] an (.d (.v _))
 refine qI ?_
 rcases iB H with ⟨c1,H⟩ | ⟨c1,H⟩
 ·refine qB hT 11 (decide_eq_true c1) ?_
  rcases iB H with ⟨c2,H⟩ | ⟨c2,H⟩
  ·refine qB hT 7 (decide_eq_true c2) ?_
   exact qC hT 6 _ [] _ h0 (Yx (decide (a0.Hi<=4096)) H)
  refine qB hT 7 (decide_eq_false c2) ?_
  exact qC hT 6 _ [] _ h0 (Yx false H)
 refine qB hT 11 (decide_eq_false c1) ?_
 exact qC hT 13 _ [] _ h0 (Yx false H)
theorem Qdc.Qt (a0:Int):Xt Tryz.prog 64 [] [.i a0] [] (.b (Qdc a0)):=by
 obtain ⟨r,H⟩:∃ r,Qdc a0=r:=⟨_,rfl⟩
 rw [H]
 refine Wx Tryz.func64 rfl (nt:=5) rfl (lb rfl) fun X hP h0 hX=>?_
 have hT:Qw X.P T:=hP▸tok
 have hf:X.P.funcs[64]? = some Tryz.f64:=hP▸Tryz.func64
 refine qI ?_
 refine qF hT 7 hP Qek (Qbs.Qt a0 0 1099511627775) ?_
 obtain rfl:=H
 exact qT hT 2 hf hX h0 [] an (.d (.v _))
abbrev Wz.q1 (a0:List Qa) (Xp:Int):=((a0.getD Xp.toNat Qa.z).Key)
theorem Wz.Qt {t0:Bool} (a0:List Qa) {r:Bool} (H:Wz a0=some r):Xt Tryz.prog 65 [] [.d (We t0 a0)] [] (.b r):=by
 refine Wx Tryz.func65 rfl (nt:=46) rfl (lb rfl) fun X hP h0 hX=>?_
 have hT:Qw X.P T:=hP▸tok
 have hf:X.P.funcs[65]? = some Tryz.f65:=hP▸Tryz.func65
 refine Xq hT 13 (K65 11010 0) ⟨46,[(0,.d (We t0 a0)),(5,.d (We t0 a0)),(6,.i (a0.length:Int)),(7,.i 0)],[]⟩ ?_
 have L:∀ n,(∀ (Xp:Int),iter (Wz.step a0) n (.l1 Xp)=some r->AK X 65 ((K65 11010 0)) (Ym X [] (.b r)) ⟨46,[(0,.d (We t0 a0)),(5,.d (We t0 a0)),(6,.i (a0.length:Int)),(7,.i Xp)],[]⟩):=by
  intro n
  induction n with
  | zero=>exact fun _ H=>Qbh H
  | succ n ih=>
   ·intro Xp H
    refine qI ?_
    rcases sB H with ⟨c1,H⟩ | ⟨c1,H⟩
    ·refine qB hT 5 (decide_eq_true c1) ?_
     obtain ⟨h2,H⟩:=sC H
     have Yx:∀ (Qi6:Bool),Jq (Wz.j1 Xp Qi6) (iter (Wz.step a0) n)=some r->AK X 65 ((K65 11010011001 1)) (Ym X [] (.b r)) ⟨46,[(0,.d (We t0 a0)),(5,.d (We t0 a0)),(6,.i (a0.length:Int)),(7,.i Xp),(44,.b Qi6)],[]⟩:=by
      intro Qi6 H
      by_cases c9:Qi6=true
      ·replace H:=sT c9 H
       rw [c9]
       refine qI ?_
       obtain rfl:=Yt H
       exact qT hT 5 hf hX h0 [] an (.d (.v _))
      replace H:=sF c9 H
      rw [boF c9]
      exact Xq hT 8 _ _ (ih (IntKind.wrap .i64 (Xp+1)) H)
     refine qX hT 7 h2 ?_
     refine qE hT 6 (K65 11010011001 0) ⟨46,[(0,.d (We t0 a0)),(3,.i Xp),(4,.ptr 0 0 0 0),(5,.d (We t0 a0)),(6,.i (a0.length:Int)),(7,.i Xp)],[.box 97 (Qe1 (a0.getD Xp.toNat Qa.z))]⟩ ?_
     by_cases c3:(Wz.q1 a0 Xp) < 0
     ·replace H:=sT c3 H
      refine Qab (hP▸mixed) 33 [0,3,4,5,6,7] (sm [.ptr 0 0 0 0,.i (Wz.q1 a0 Xp),.b true,.b true,.Ql [],.Ql [],.Ql [],.b true,.b true,.Ql [],.Ql [],.Ql [],.b true,.b true,.Ql [],.Ql [],.Ql [],.b true,.b true,.Ql [],.Ql [],.Ql [],.Ql [],.Ql [],.Ql [],.Ql [],.Ql [],.Ql [],.Ql [],.Ql [],.Ql [],.Ql [],.b true]) (Qd (Qd (Qd (Qd (Qd (Qd (Qd (Qd (Qd (Qd (Qd (Qd (Qd (Qd (Qd (Qd (Qd (Qd (Qd (Qd (Qd (Qd (Qd (Qd (Qd (Qd (Qd (Qd (Qd (Qd (opV (Qd (Qd op0 hT) hT) hT 14 (.b (decide ((Wz.q1 a0 Xp) < 0))) (.b true) (by rw [decide_eq_true c3]<;>rfl)) hT) hT) hT) hT) hT) hT) hT) hT) hT) hT) hT) hT) hT) hT) hT) hT) hT) hT) hT) hT) hT) hT) hT) hT) hT) hT) hT) hT) hT) hT) ?_
      exact Zr hT 1 _ [] _ h0 (Yx true H)
     replace H:=sF c3 H
     by_cases c4:(Wz.q1 a0 Xp)>=4096
     ·replace H:=sT c4 H
      refine Qab (hP▸mixed) 33 [0,3,4,5,6,7] (sm [.ptr 0 0 0 0,.i (Wz.q1 a0 Xp),.b false,.b false,.ptr 0 0 0 0,.i (Wz.q1 a0 Xp),.b true,.b true,.b true,.Ql [],.Ql [],.Ql [],.b true,.b true,.Ql [],.Ql [],.Ql [],.b true,.b true,.Ql [],.Ql [],.Ql [],.Ql [],.Ql [],.Ql [],.Ql [],.Ql [],.Ql [],.Ql [],.Ql [],.Ql [],.Ql [],.b true]) (Qd (Qd (Qd (Qd (Qd (Qd (Qd (Qd (Qd (Qd (Qd (Qd (Qd (Qd (Qd (Qd (Qd (Qd (Qd (Qd (Qd (Qd (Qd (Qd (Qd (Qd (opV (Qd (Qd (Qd (opV (Qd (Qd op0 hT) hT) hT 14 (.b (decide ((Wz.q1 a0 Xp) < 0))) (.b false) (by rw [decide_eq_false c3]<;>rfl)) hT) hT) hT) hT 18 (.b (decide ((Wz.q1 a0 Xp)>=4096))) (.b true) (by rw [decide_eq_true c4]<;>rfl)) hT) hT) hT) hT) hT) hT) hT) hT) hT) hT) hT) hT) hT) hT) hT) hT) hT) hT) hT) hT) hT) hT) hT) hT) hT) hT) ?_
      exact Zr hT 1 _ [] _ h0 (Yx true H)
     replace H:=sF c4 H
     by_cases c5:((a0.getD Xp.toNat Qa.z).Val) < (-1099511627776)
     ·replace H:=sT c5 H
      refine Qab (hP▸mixed) 33 [0,3,4,5,6,7] (sm [.ptr 0 0 0 0,.i (Wz.q1 a0 Xp),.b false,.b false,.ptr 0 0 0 0,.i (Wz.q1 a0 Xp),.b false,.b false,.b false,.ptr 0 0 0 1,.i ((a0.getD Xp.toNat Qa.z).Val),.b true,.b true,.b true,.Ql [],.Ql [],.Ql [],.b true,.b true,.Ql [],.Ql [],.Ql [],.Ql [],.Ql [],.Ql [],.Ql [],.Ql [],.Ql [],.Ql [],.Ql [],.Ql [],.Ql [],.b true]) (Qd (Qd (Qd (Qd (Qd (Qd (Qd (Qd (Qd (Qd (Qd (Qd (Qd (Qd (Qd (Qd (Qd (Qd (Qd (Qd (Qd (opV (Qd (Qd (Qd (Qd (opV (Qd (Qd (Qd (opV (Qd (Qd op0 hT) hT) hT 14 (.b (decide ((Wz.q1 a0 Xp) < 0))) (.b false) (by rw [decide_eq_false c3]<;>rfl)) hT) hT) hT) hT 18 (.b (decide ((Wz.q1 a0 Xp)>=4096))) (.b false) (by rw [decide_eq_false c4]<;>rfl)) hT) hT) hT) hT) hT 23 (.b (decide (((a0.getD Xp.toNat Qa.z).Val) < (-1099511627776)))) (.b true) (by rw [decide_eq_true c5]<;>rfl)) hT) hT) hT) hT) hT) hT) hT) hT) hT) hT) hT) hT) hT) hT) hT) hT) hT) hT) hT) hT) hT) ?_
      exact Zr hT 1 _ [] _ h0 (Yx true H)
     replace H:=sF c5 H
     by_cases c6:((a0.getD Xp.toNat Qa.z).Val) > 1099511627776
     ·replace H:=sT c6 H
      refine Qab (hP▸mixed) 33 [0,3,4,5,6,7] (sm [.ptr 0 0 0 0,.i (Wz.q1 a0 Xp),.b false,.b false,.ptr 0 0 0 0,.i (Wz.q1 a0 Xp),.b false,.b false,.b false,.ptr 0 0 0 1,.i ((a0.getD Xp.toNat Qa.z).Val),.b false,.b false,.b false,.ptr 0 0 0 1,.i ((a0.getD Xp.toNat Qa.z).Val),.b true,.b true,.b true,.Ql [],.Ql [],.Ql [],.Ql [],.Ql [],.Ql [],.Ql [],.Ql [],.Ql [],.Ql [],.Ql [],.Ql [],.Ql [],.b true]) (Qd (Qd (Qd (Qd (Qd (Qd (Qd (Qd (Qd (Qd (Qd (Qd (Qd (Qd (Qd (Qd (opV (Qd (Qd (Qd (Qd (opV (Qd (Qd (Qd (Qd (opV (Qd (Qd (Qd (opV (Qd (Qd op0 hT) hT) hT 14 (.b (decide ((Wz.q1 a0 Xp) < 0))) (.b false) (by rw [decide_eq_false c3]<;>rfl)) hT) hT) hT) hT 18 (.b (decide ((Wz.q1 a0 Xp)>=4096))) (.b false) (by rw [decide_eq_false c4]<;>rfl)) hT) hT) hT) hT) hT 23 (.b (decide (((a0.getD Xp.toNat Qa.z).Val) < (-1099511627776)))) (.b false) (by rw [decide_eq_false c5]<;>rfl)) hT) hT) hT) hT) hT 28 (.b (decide (((a0.getD Xp.toNat Qa.z).Val) > 1099511627776))) (.b true) (by rw [decide_eq_true c6]<;>rfl)) hT) hT) hT) hT) hT) hT) hT) hT) hT) hT) hT) hT) hT) hT) hT) hT) ?_
      exact Zr hT 1 _ [] _ h0 (Yx true H)
     replace H:=sF c6 H
     by_cases c7:Xp > 0
     ·replace H:=sT c7 H
      obtain ⟨h8,H⟩:=sC H
      refine Qab (hP▸mixed) 33 [0,3,4,5,6,7] (sm [.ptr 0 0 0 0,.i (Wz.q1 a0 Xp),.b false,.b false,.ptr 0 0 0 0,.i (Wz.q1 a0 Xp),.b false,.b false,.b false,.ptr 0 0 0 1,.i ((a0.getD Xp.toNat Qa.z).Val),.b false,.b false,.b false,.ptr 0 0 0 1,.i ((a0.getD Xp.toNat Qa.z).Val),.b false,.b false,.b false,.i Xp,.b true,.b true,.d (We t0 a0),.i Xp,.i (IntKind.wrap .i64 (Xp - 1)),.d (Qid t0 a0 ((IntKind.wrap .i64 (Xp - 1)).toNat) 0),.d (Qid t0 a0 ((IntKind.wrap .i64 (Xp - 1)).toNat) 0),.i ((a0.getD ((IntKind.wrap .i64 (Xp - 1)).toNat) Qa.z).Key),.ptr 0 0 0 0,.i (Wz.q1 a0 Xp),.b (decide (((a0.getD ((IntKind.wrap .i64 (Xp - 1)).toNat) Qa.z).Key)>=(Wz.q1 a0 Xp))),.b (decide (((a0.getD ((IntKind.wrap .i64 (Xp - 1)).toNat) Qa.z).Key)>=(Wz.q1 a0 Xp))),.b (decide (((a0.getD ((IntKind.wrap .i64 (Xp - 1)).toNat) Qa.z).Key)>=(Wz.q1 a0 Xp)))]) (Qd (Qd (Qd (Qd (Qd (Qd (Qd (opS (Qd (Qd (Qd (Qd (opV (Qd (Qd (Qd (opV (Qd (Qd (Qd (Qd (opV (Qd (Qd (Qd (Qd (opV (Qd (Qd (Qd (opV (Qd (Qd op0 hT) hT) hT 14 (.b (decide ((Wz.q1 a0 Xp) < 0))) (.b false) (by rw [decide_eq_false c3]<;>rfl)) hT) hT) hT) hT 18 (.b (decide ((Wz.q1 a0 Xp)>=4096))) (.b false) (by rw [decide_eq_false c4]<;>rfl)) hT) hT) hT) hT) hT 23 (.b (decide (((a0.getD Xp.toNat Qa.z).Val) < (-1099511627776)))) (.b false) (by rw [decide_eq_false c5]<;>rfl)) hT) hT) hT) hT) hT 28 (.b (decide (((a0.getD Xp.toNat Qa.z).Val) > 1099511627776))) (.b false) (by rw [decide_eq_false c6]<;>rfl)) hT) hT) hT) hT 32 (.b (decide (Xp > 0))) (.b true) (by rw [decide_eq_true c7]<;>rfl)) hT) hT) hT) hT) (fun R rest h=>Qba hT (i:=IntKind.wrap .i64 (Xp - 1)) (n:=(a0.length:Int)) h8.1 h8.2 (by kernel_rfl) h)) hT) hT) hT) hT) hT) hT) hT) ?_
      exact Zr hT 1 _ [] _ h0 (Yx (decide (((a0.getD ((IntKind.wrap .i64 (Xp - 1)).toNat) Qa.z).Key)>=(Wz.q1 a0 Xp))) H)
     replace H:=sF c7 H
     refine Qab (hP▸mixed) 33 [0,3,4,5,6,7] (sm [.ptr 0 0 0 0,.i (Wz.q1 a0 Xp),.b false,.b false,.ptr 0 0 0 0,.i (Wz.q1 a0 Xp),.b false,.b false,.b false,.ptr 0 0 0 1,.i ((a0.getD Xp.toNat Qa.z).Val),.b false,.b false,.b false,.ptr 0 0 0 1,.i ((a0.getD Xp.toNat Qa.z).Val),.b false,.b false,.b false,.i Xp,.b false,.b false,.Ql [],.Ql [],.Ql [],.Ql [],.Ql [],.Ql [],.Ql [],.Ql [],.Ql [],.b false,.b false]) (Qd (Qd (Qd (Qd (Qd (Qd (Qd (Qd (Qd (Qd (Qd (Qd (opV (Qd (Qd (Qd (opV (Qd (Qd (Qd (Qd (opV (Qd (Qd (Qd (Qd (opV (Qd (Qd (Qd (opV (Qd (Qd op0 hT) hT) hT 14 (.b (decide ((Wz.q1 a0 Xp) < 0))) (.b false) (by rw [decide_eq_false c3]<;>rfl)) hT) hT) hT) hT 18 (.b (decide ((Wz.q1 a0 Xp)>=4096))) (.b false) (by rw [decide_eq_false c4]<;>rfl)) hT) hT) hT) hT) hT 23 (.b (decide (((a0.getD Xp.toNat Qa.z).Val) < (-1099511627776)))) (.b false) (by rw [decide_eq_false c5]<;>rfl)) hT) hT) hT) hT) hT 28 (.b (decide (((a0.getD Xp.toNat Qa.z).Val) > 1099511627776))) (.b false) (by rw [decide_eq_false c6]<;>rfl)) hT) hT) hT) hT 32 (.b (decide (Xp > 0))) (.b false) (by rw [decide_eq_false c7]<;>rfl)) hT) hT) hT) hT) hT) hT) hT) hT) hT) hT) hT) hT) ?_
     exact Zr hT 1 _ [] _ h0 (Yx false H)
    refine qB hT 5 (decide_eq_false c1) ?_
    obtain rfl:=Yt H
    exact qT hT 6 hf hX h0 [] an (.d (.v _))
 obtain ⟨n,H⟩:=Qbw H
 exact (L n) 0 H
theorem Zx.Qt (a0:Qc):Xt Tryz.prog 37 [] [.d (Qcc a0)] [Je (Zx a0)] (.own 0 2 0 ((Zx a0).length)):=by
 obtain ⟨r,H⟩:∃ r,Zx a0=r:=⟨_,rfl⟩
 rw [H]
 refine Wx Tryz.func37 rfl (nt:=6) rfl (lb rfl) fun X hP h0 hX=>?_
 have hT:Qw X.P T:=hP▸tok
 have hf:X.P.funcs[37]? = some Tryz.f37:=hP▸Tryz.func37
 refine Xq hT 12 (K37 11 1) ⟨6,[(2,.own 1 2 0 1)],[.box 30 (Jo a0),.flat false 2 24 1 (fun j=>[Qb.e a0.Keys].getD j [])]⟩ ?_
 refine Qgp 1 (kk:=2) (fz:=false) (ty:=24) (n:=([a0.Keys]:List Qb).length) (vec Qb.e Qb.z ([a0.Keys]:List Qb)) (by kernel_rfl) Qhh (st':=⟨6,[(2,.own 1 2 0 (([a0.Keys]:List Qb).length))],[.box 30 (Jo a0),Je ([a0.Keys]:List Qb)]⟩) (by kernel_rfl) ?_
 obtain rfl:=H
 exact Qd9 hf hX h0 (.own 1 2 0 (([a0.Keys]:List Qb).length)) [1] (ac (Xa Qb.nl) an) (.own _ _ _ _)
theorem Jf.Qt {t0:Bool} (a0:List Qb) {r:Bool} (H:Jf a0=some r):Xt Tryz.prog 77 [] [.d (Yp t0 a0)] [] (.b r):=by
 refine Wx Tryz.func77 rfl (nt:=34) rfl (lb rfl) fun X hP h0 hX=>?_
 have hT:Qw X.P T:=hP▸tok
 have hf:X.P.funcs[77]? = some Tryz.f77:=hP▸Tryz.func77
 refine Xq hT 13 (K77 11010 0) ⟨34,[(0,.d (Yp t0 a0)),(5,.d (Yp t0 a0)),(6,.i (a0.length:Int)),(7,.i 0)],[]⟩ ?_
 have L:∀ n,(∀ (Xp:Int),iter (Jf.step a0) n (.l1 Xp)=some r->AK X 77 ((K77 11010 0)) (Ym X [] (.b r)) ⟨34,[(0,.d (Yp t0 a0)),(5,.d (Yp t0 a0)),(6,.i (a0.length:Int)),(7,.i Xp)],[]⟩):=by
  intro n
  induction n with
  | zero=>exact fun _ H=>Qbh H
  | succ n ih=>
   ·intro Xp H
    refine qI ?_
    rcases sB H with ⟨c1,H⟩ | ⟨c1,H⟩
    ·refine qB hT 5 (decide_eq_true c1) ?_
     obtain ⟨h2,H⟩:=sC H
     have Yx:∀ (Qi4:Bool),Jq (Jf.j1 Xp Qi4) (iter (Jf.step a0) n)=some r->AK X 77 ((K77 11010011001 1)) (Ym X [] (.b r)) ⟨34,[(0,.d (Yp t0 a0)),(5,.d (Yp t0 a0)),(6,.i (a0.length:Int)),(7,.i Xp),(29,.b Qi4)],[]⟩:=by
      intro Qi4 H
      by_cases c6:Qi4=true
      ·replace H:=sT c6 H
       rw [c6]
       refine qI ?_
       obtain rfl:=Yt H
       exact qT hT 5 hf hX h0 [] an (.d (.v _))
      replace H:=sF c6 H
      rw [boF c6]
      exact Xq hT 8 _ _ (ih (IntKind.wrap .i64 (Xp+1)) H)
     refine qX hT 7 h2 ?_
     refine qE hT 6 (K77 11010011001 0) ⟨34,[(0,.d (Yp t0 a0)),(3,.i Xp),(4,.ptr 0 0 0 0),(5,.d (Yp t0 a0)),(6,.i (a0.length:Int)),(7,.i Xp)],[.box 24 (Qjt (a0.getD Xp.toNat Qb.z))]⟩ ?_
     by_cases c3:(Qbk (a0.getD Xp.toNat Qb.z))=true
     ·replace H:=sT c3 H
      by_cases c4:Xp > 0
      ·replace H:=sT c4 H
       obtain ⟨h5,H⟩:=sC H
       refine Qab (hP▸mixed) 18 [0,3,4,5,6,7] (sm [.d (Qgk (a0.getD Xp.toNat Qb.z)),.b true,.b false,.b false,.i Xp,.b true,.b true,.ptr 0 0 0 0,.i ((a0.getD Xp.toNat Qb.z).Lo),.d (Yp t0 a0),.i Xp,.i (IntKind.wrap .i64 (Xp - 1)),.d (Wob t0 a0 ((IntKind.wrap .i64 (Xp - 1)).toNat) 0),.d (Wob t0 a0 ((IntKind.wrap .i64 (Xp - 1)).toNat) 1),.i ((a0.getD ((IntKind.wrap .i64 (Xp - 1)).toNat) Qb.z).Hi),.b (decide (((a0.getD Xp.toNat Qb.z).Lo)<=((a0.getD ((IntKind.wrap .i64 (Xp - 1)).toNat) Qb.z).Hi))),.b (decide (((a0.getD Xp.toNat Qb.z).Lo)<=((a0.getD ((IntKind.wrap .i64 (Xp - 1)).toNat) Qb.z).Hi))),.b (decide (((a0.getD Xp.toNat Qb.z).Lo)<=((a0.getD ((IntKind.wrap .i64 (Xp - 1)).toNat) Qb.z).Hi)))]) (Qd (Qd (Qd (Qd (Qd (opS (Qd (Qd (Qd (Qd (Qd (Qd (opV (Qd (Qd (Qd (opS (Qd op0 hT) (fun R rest h=>Zk (Xx:=[.d (Qgk (a0.getD Xp.toNat Qb.z))]) (dst:=some 13) hP Qhl (by have q:=Qbk.Qt (a0.getD Xp.toNat Qb.z);rw [c3] at q;exact q) (by kernel_rfl) (.cons (Qk _) .nil) (by kernel_rfl) h)) hT) hT) hT) hT 17 (.b (decide (Xp > 0))) (.b true) (by rw [decide_eq_true c4]<;>rfl)) hT) hT) hT) hT) hT) hT) (fun R rest h=>Qba hT (i:=IntKind.wrap .i64 (Xp - 1)) (n:=(a0.length:Int)) h5.1 h5.2 (by kernel_rfl) h)) hT) hT) hT) hT) hT) ?_
       exact Zr hT 1 _ [] _ h0 (Yx (decide (((a0.getD Xp.toNat Qb.z).Lo)<=((a0.getD ((IntKind.wrap .i64 (Xp - 1)).toNat) Qb.z).Hi))) H)
      replace H:=sF c4 H
      refine Qab (hP▸mixed) 18 [0,3,4,5,6,7] (sm [.d (Qgk (a0.getD Xp.toNat Qb.z)),.b true,.b false,.b false,.i Xp,.b false,.b false,.Ql [],.Ql [],.Ql [],.Ql [],.Ql [],.Ql [],.Ql [],.Ql [],.Ql [],.b false,.b false]) (Qd (Qd (Qd (Qd (Qd (Qd (Qd (Qd (Qd (Qd (Qd (Qd (opV (Qd (Qd (Qd (opS (Qd op0 hT) (fun R rest h=>Zk (Xx:=[.d (Qgk (a0.getD Xp.toNat Qb.z))]) (dst:=some 13) hP Qhl (by have q:=Qbk.Qt (a0.getD Xp.toNat Qb.z);rw [c3] at q;exact q) (by kernel_rfl) (.cons (Qk _) .nil) (by kernel_rfl) h)) hT) hT) hT) hT 17 (.b (decide (Xp > 0))) (.b false) (by rw [decide_eq_false c4]<;>rfl)) hT) hT) hT) hT) hT) hT) hT) hT) hT) hT) hT) hT) ?_
      exact Zr hT 1 _ [] _ h0 (Yx false H)
     replace H:=sF c3 H
     refine Qab (hP▸mixed) 18 [0,3,4,5,6,7] (sm [.d (Qgk (a0.getD Xp.toNat Qb.z)),.b false,.b true,.b true,.Ql [],.Ql [],.Ql [],.Ql [],.Ql [],.Ql [],.Ql [],.Ql [],.Ql [],.Ql [],.Ql [],.Ql [],.Ql [],.b true]) (Qd (Qd (Qd (Qd (Qd (Qd (Qd (Qd (Qd (Qd (Qd (Qd (Qd (Qd (Qd (Qd (opS (Qd op0 hT) (fun R rest h=>Zk (Xx:=[.d (Qgk (a0.getD Xp.toNat Qb.z))]) (dst:=some 13) hP Qhl (by have q:=Qbk.Qt (a0.getD Xp.toNat Qb.z);rw [boF c3] at q;exact q) (by kernel_rfl) (.cons (Qk _) .nil) (by kernel_rfl) h)) hT) hT) hT) hT) hT) hT) hT) hT) hT) hT) hT) hT) hT) hT) hT) hT) ?_
     exact Zr hT 1 _ [] _ h0 (Yx true H)
    refine qB hT 5 (decide_eq_false c1) ?_
    obtain rfl:=Yt H
    exact qT hT 9 hf hX h0 [] an (.d (.v _))
 obtain ⟨n,H⟩:=Qbw H
 exact (L n) 0 H
theorem Za.Qt {t0:Bool} {ff1:FuncId} {cc1:List DV} (a0:List Qb) (p1:Qb->Option Bool) (he1:Sy.Enters Tryz.prog ff1) (hp1:∀ (z0:Qb) r,p1 z0=some r->Xt Tryz.prog ff1 [] ([.d (Qgk z0)] ++ List.map AV.d cc1) [] (.b r)) {r:Int} (H:Za a0 p1=some r):Xt Tryz.prog 142 [] [.d (Yp t0 a0),.d (.fn ff1 cc1)] [] (.i r):=by
 refine Wx Tryz.func142 rfl (nt:=19) rfl (lb rfl) fun X hP h0 hX=>?_
 have hT:Qw X.P T:=hP▸tok
 have hf:X.P.funcs[142]? = some Tryz.f142:=hP▸Tryz.func142
 refine Xq hT 13 (Wb3 11010 0) ⟨19,[(0,.d (Yp t0 a0)),(1,.d (.fn ff1 cc1)),(7,.i (a0.length:Int)),(8,.i 0)],[]⟩ ?_
 have L:∀ n,(∀ (Wi:Int),iter (Za.step a0 p1) n (.l1 Wi)=some r->AK X 142 ((Wb3 11010 0)) (Ym X [] (.i r)) ⟨19,[(0,.d (Yp t0 a0)),(1,.d (.fn ff1 cc1)),(7,.i (a0.length:Int)),(8,.i Wi)],[]⟩):=by
  intro n
  induction n with
  | zero=>exact fun _ H=>Qbh H
  | succ n ih=>
   ·intro Wi H
    refine qI ?_
    rcases sB H with ⟨c1,H⟩ | ⟨c1,H⟩
    ·refine qB hT 5 (decide_eq_true c1) ?_
     obtain ⟨h2,H⟩:=sC H
     refine qX hT 14 h2 ?_
     refine qE hT 1 (Wb3 110100110010 5) ⟨19,[(0,.d (Yp t0 a0)),(1,.d (.fn ff1 cc1)),(5,.i Wi),(7,.i (a0.length:Int)),(8,.i Wi),(11,.d (.fn ff1 cc1)),(15,.d (Qgk (a0.getD Wi.toNat Qb.z)))],[]⟩ ?_
     obtain ⟨v1,h3,H⟩:=sbC H
     refine Zd (Xx:=[.d (Qgk (a0.getD Wi.toNat Qb.z))] ++ List.map AV.d cc1) (dst:=some 16) (k':=(Wb3 110100110010 6)) [0,1,5,7,8,16] [] hP he1 (hp1 (a0.getD Wi.toNat Qb.z) v1 h3) (by kernel_rfl) (Qao _) (.cons (Qk _) (Qfn _)) (st':=⟨19,[(0,.d (Yp t0 a0)),(1,.d (.fn ff1 cc1)),(5,.i Wi),(7,.i (a0.length:Int)),(8,.i Wi),(16,.b v1)],[]⟩) (by kernel_rfl) ?_
     refine qI ?_
     rcases sB H with ⟨c4,H⟩ | ⟨c4,H⟩
     ·refine qB hT 1 (c4) ?_
      obtain rfl:=Yt H
      exact qT hT 6 hf hX h0 [] an (.d (.v _))
     refine qB hT 1 (boF c4) ?_
     exact qE hT 8 _ _ (ih (IntKind.wrap .i64 (Wi+1)) H)
    refine qB hT 5 (decide_eq_false c1) ?_
    obtain rfl:=Yt H
    exact qT hT 6 hf hX h0 [] an (.d (.v _))
 obtain ⟨n,H⟩:=Qbw H
 exact (L n) 0 H
theorem Qbo.Qt {t0:Bool} {ff1:FuncId} {cc1:List DV} (a0:List Qb) (p1:Qb->Option Bool) (he1:Sy.Enters Tryz.prog ff1) (hp1:∀ (z0:Qb) r,p1 z0=some r->Xt Tryz.prog ff1 [] ([.d (Qgk z0)] ++ List.map AV.d cc1) [] (.b r)) {r:Bool} (H:Qbo a0 p1=some r):Xt Tryz.prog 101 [] [.d (Yp t0 a0),.d (.fn ff1 cc1)] [] (.b r):=by
 refine Wx Tryz.func101 rfl (nt:=9) rfl (lb rfl) fun X hP h0 hX=>?_
 have hT:Qw X.P T:=hP▸tok
 have hf:X.P.funcs[101]? = some Tryz.f101:=hP▸Tryz.func101
 refine qI ?_
 obtain ⟨v1,h1,H⟩:=ibC H
 refine qF hT 8 hP Wc0 (Za.Qt (t0:=t0) (ff1:=ff1) (cc1:=cc1) a0 p1 he1 hp1 h1) ?_
 obtain rfl:=Yt H
 exact qT hT 3 hf hX h0 [] an (.d (.v _))
theorem Qd4.Qt (a0:Qb) (k0:Int):Xt Tryz.prog 123 [] [.d (Qgk a0),.d (.rop false 1 (fun _=>[.i k0]) 0 0)] [] (.b (Qd4 a0 k0)):=by
 obtain ⟨r,H⟩:∃ r,Qd4 a0 k0=r:=⟨_,rfl⟩
 rw [H]
 refine Wx Tryz.func123 rfl (nt:=18) rfl (lb rfl) fun X hP h0 hX=>?_
 have hT:Qw X.P T:=hP▸tok
 have hf:X.P.funcs[123]? = some Tryz.f123:=hP▸Tryz.func123
 have Yx:∀ (Qhi:Bool),(Qd4.j1 Qhi)=r->AK X 123 ((Wnk 11 1)) (Ym X [] (.b r)) ⟨18,[(3,.b Qhi)],[]⟩:=by
  intro Qhi H
  obtain rfl:=H
  exact Qd9 hf hX h0 (.b Qhi) [] an (.d (.v _))
 refine qI ?_
 refine qF hT 8 hP Qhl (Qbk.Qt a0) ?_
 rcases iB H with ⟨c1,H⟩ | ⟨c1,H⟩
 ·refine qB hT 1 (c1) ?_
  refine qE hT 6 (Wnk 110 9) ⟨18,[(1,.d (.rop false 1 (fun _=>[.i k0]) 0 0)),(2,.ptr 0 0 0 0),(12,.b (decide (k0>=a0.Lo)))],[.box 24 (Qjt a0)]⟩ ?_
  refine qI ?_
  rcases iB H with ⟨c2,H⟩ | ⟨c2,H⟩
  ·refine qB hT 0 (decide_eq_true c2) ?_
   exact qC hT 7 _ [] _ h0 (Yx (decide (k0 < a0.Hi)) H)
  refine qB hT 0 (decide_eq_false c2) ?_
  exact qC hT 7 _ [] _ h0 (Yx false H)
 refine qB hT 1 (boF c1) ?_
 exact qC hT 13 _ [] _ h0 (Yx false H)
theorem Qe6.Qt {t0:Bool} (a0:List Qb) (a1:Int) {r:Bool} (H:Qe6 a0 a1=some r):Xt Tryz.prog 78 [] [.d (Yp t0 a0),.i a1] [] (.b r):=by
 refine Wx Tryz.func78 rfl (nt:=8) rfl (lb rfl) fun X hP h0 hX=>?_
 have hT:Qw X.P T:=hP▸tok
 have hf:X.P.funcs[78]? = some Tryz.f78:=hP▸Tryz.func78
 refine Xq hT 9 (K78 110 2) ⟨8,[(5,.d (Yp t0 a0)),(6,.fn 123 [.ptr 0 0 0 0])],[.box 3 [.i a1]]⟩ ?_
 obtain ⟨v1,h1,H⟩:=ibC H
 refine Zd (Xx:=[.d (Yp t0 a0),.fn 123 [.ptr 0 0 0 0]]) (dst:=some 7) (k':=(K78 110 3)) [7] [] hP Qt1 (Qbo.Qt (t0:=t0) (ff1:=123) (cc1:=[.rop false 1 (fun _=>[.i a1]) 0 0]) a0 (fun z0=>some (Qd4 z0 a1)) Wct (fun z0 r h=>by obtain rfl:=Yt h;exact Qd4.Qt z0 a1) h1) (by kernel_rfl) (Qao _) (.cons (Qk _) (.cons (.fn 123 (.cons (.look (ty:=3) (cs:=[.i a1]) (by kernel_rfl) rfl) .nil)) .nil)) (st':=⟨8,[(7,.b v1)],[.box 3 [.i a1]]⟩) (by kernel_rfl) ?_
 refine qI ?_
 obtain rfl:=Yt H
 exact qT hT 2 hf hX h0 [] an (.d (.v _))
theorem Ji.Qt {t0:Bool} {t1:Bool} (a0:List Qa) (a1:List Qb) {r:List Qa} (H:Ji a0 a1=some r):Xt Tryz.prog 36 [] [.d (We t0 a0),.d (Yp t1 a1)] [Yb r] (.own 0 2 0 r.length):=by
 refine Wx Tryz.func36 rfl (nt:=32) rfl (lb rfl) fun X hP h0 hX=>?_
 have hT:Qw X.P T:=hP▸tok
 have hf:X.P.funcs[36]? = some Tryz.f36:=hP▸Tryz.func36
 refine qI ?_
 obtain ⟨v1,h1,H⟩:=ibC H
 have Yx:∀ (Qrz:Bool),(Ji.j1 a0 a1 Qrz)=some r->AK X 36 ((K36 110 1)) (Ym X [Yb r] (.own 0 2 0 r.length)) ⟨32,[(0,.d (We t0 a0)),(1,.d (Yp t1 a1)),(15,.b Qrz)],[]⟩:=by
  intro Qrz H
  by_cases c4:Qrz=true
  ·replace H:=iT c4 H
   rw [c4]
   refine Xq hT 5 (K36 11010 1) ⟨32,[(4,.ns)],[]⟩ ?_
   refine Qd1 [4] 4 2 97 (vec Qa.e Qa.z []) (st':=⟨32,[(4,.own 0 2 0 0)],[Yb ([]:List Qa)]⟩) (by kernel_rfl) (by kernel_rfl) ?_
   obtain rfl:=Yt H
   exact Qd9 hf hX h0 (.own 0 2 0 0) [0] (ac (Xa Qa.nl) an) (.own _ _ _ _)
  replace H:=iF c4 H
  rw [boF c4]
  refine Xq hT 15 (K36 1111010 0) ⟨32,[(1,.d (Yp t1 a1)),(5,.ns),(16,.d (We t0 a0)),(17,.i (a0.length:Int)),(18,.i 0)],[]⟩ ?_
  refine Qd1 [1,5,16,17,18] 5 2 97 (vec Qa.e Qa.z []) (st':=⟨32,[(1,.d (Yp t1 a1)),(5,.own 0 2 0 0),(16,.d (We t0 a0)),(17,.i (a0.length:Int)),(18,.i 0)],[Yb ([]:List Qa)]⟩) (by kernel_rfl) (by kernel_rfl) ?_
  have L:∀ n,(∀ (Qdg:Int) (Qm:List Qa),iter (Ji.step a0 a1) n (.l1 Qdg Qm)=some r->AK X 36 ((K36 1111010 0)) (Ym X [Yb r] (.own 0 2 0 r.length)) ⟨32,[(1,.d (Yp t1 a1)),(5,.own 0 2 0 Qm.length),(16,.d (We t0 a0)),(17,.i (a0.length:Int)),(18,.i Qdg)],[Yb Qm]⟩):=by
   intro n
   induction n with
   | zero=>exact fun _ _ H=>Qbh H
   | succ n ih=>
    ·intro Qdg Qm H
     refine qI ?_
     rcases sB H with ⟨c5,H⟩ | ⟨c5,H⟩
     ·refine qB hT 5 (decide_eq_true c5) ?_
      obtain ⟨h6,H⟩:=sC H
      refine qX hT 6 h6 ?_
      refine qE hT 9 (K36 11110100110010 3) ⟨32,[(1,.d (Yp t1 a1)),(5,.own 0 2 0 Qm.length),(7,.ptr 1 0 0 0),(16,.d (We t0 a0)),(17,.i (a0.length:Int)),(18,.i Qdg),(22,.d (Yp t1 a1)),(24,.i ((a0.getD Qdg.toNat Qa.z).Key))],[Yb Qm,.box 97 (Qe1 (a0.getD Qdg.toNat Qa.z))]⟩ ?_
      obtain ⟨v3,h7,H⟩:=sbC H
      have Jj2:∀ (Qps:List Qa),Jq (Ji.j2 Qdg Qps) (iter (Ji.step a0 a1) n)=some r->AK X 36 ((K36 1111010011 1)) (Ym X [Yb r] (.own 0 2 0 r.length)) ⟨32,[(1,.d (Yp t1 a1)),(5,.own 0 2 0 Qps.length),(16,.d (We t0 a0)),(17,.i (a0.length:Int)),(18,.i Qdg)],[Yb Qps]⟩:=by
       intro Qps H
       exact Xq hT 5 _ _ (ih (IntKind.wrap .i64 (Qdg+1)) Qps H)
      refine qI ?_
      refine qF hT 0 hP Qni (Qe6.Qt (t0:=t1) a1 ((a0.getD Qdg.toNat Qa.z).Key) h7) ?_
      rcases sB H with ⟨c8,H⟩ | ⟨c8,H⟩
      ·refine qB hT 1 (c8) ?_
       refine qE hT 5 (K36 111101001100110 3) ⟨32,[(1,.d (Yp t1 a1)),(16,.d (We t0 a0)),(17,.i (a0.length:Int)),(18,.i Qdg),(26,.own 0 2 0 Qm.length),(28,.own 2 2 0 1)],[Yb Qm,.box 97 (Qe1 (a0.getD Qdg.toNat Qa.z)),.flat false 2 97 1 (fun j=>[Qa.e (a0.getD Qdg.toNat Qa.z)].getD j [])]⟩ ?_
       obtain ⟨h9,H⟩:=sC H
       refine Qeq (id:=0) (kk:=2) (by':=16) (t:=26) (e:=97) (z:=[.int .i64 0,.int .i64 0]) (dst:=some 29) (id2:=2) (e2:=97) (fz:=false) (k':=(K36 111101001100110 4)) hT Qa.e Qa.z Qm (a0.getD Qdg.toNat Qa.z) [1,16,17,18,29] (by kernel_rfl) (by kernel_rfl) (by kernel_rfl) (by kernel_rfl) (by kernel_rfl) (by kernel_rfl) (by kernel_rfl) h9 (by omega) (st':=⟨32,[(1,.d (Yp t1 a1)),(16,.d (We t0 a0)),(17,.i (a0.length:Int)),(18,.i Qdg),(29,.own 3 2 0 ((Qm ++ [(a0.getD Qdg.toNat Qa.z)]).length))],[.gone,.box 97 (Qe1 (a0.getD Qdg.toNat Qa.z)),.flat false 2 97 1 (fun j=>[Qa.e (a0.getD Qdg.toNat Qa.z)].getD j []),Yb (Qm ++ [(a0.getD Qdg.toNat Qa.z)])]⟩) (by kernel_rfl) ?_
       exact Zr hT 3 _ [3] _ h0 (Jj2 (Qm ++ [(a0.getD Qdg.toNat Qa.z)]) H)
      refine qB hT 1 (boF c8) ?_
      exact qC hT 3 _ [0] _ h0 (Jj2 Qm H)
     refine qB hT 5 (decide_eq_false c5) ?_
     obtain rfl:=Yt H
     exact qT hT 7 hf hX h0 [0] (ac (Xa Qa.nl) an) (.own _ _ _ _)
  refine Qik [0] ⟨32,[(1,.d (Yp t1 a1)),(5,.own 0 2 0 ([]:List Qa).length),(16,.d (We t0 a0)),(17,.i (a0.length:Int)),(18,.i 0)],[Yb ([]:List Qa)]⟩ h0 ?_
  obtain ⟨n,H⟩:=Qbw H
  exact (L n) 0 ([]:List Qa) H
 refine qF hT 8 hP Qf1 (Wz.Qt (t0:=t0) a0 h1) ?_
 rcases iB H with ⟨c2,H⟩ | ⟨c2,H⟩
 ·refine qB hT 2 (show (!v1)=false by rw [c2];rfl) ?_
  refine qE hT 1 (K36 1100 5) ⟨32,[(0,.d (We t0 a0)),(1,.d (Yp t1 a1)),(11,.b false),(12,.d (Yp t1 a1))],[]⟩ ?_
  obtain ⟨v2,h3,H⟩:=ibC H
  refine qI ?_
  refine qF hT 0 hP Qnh (Jf.Qt (t0:=t1) a1 h3) ?_
  exact qE hT 3 _ _ (Yx (!v2) H)
 refine qB hT 2 (show (!v1)=true by rw [boF c2];rfl) ?_
 exact qE hT 5 _ _ (Yx true H)
theorem cmp_isNaN_int.Qt (a0:Int):Xt Tryz.prog 127 [] [.i a0] [] (.b (cmp_isNaN_int a0)):=by
 obtain ⟨r,H⟩:∃ r,cmp_isNaN_int a0=r:=⟨_,rfl⟩
 rw [H]
 refine Wx Tryz.func127 rfl (nt:=6) rfl (lb rfl) fun X hP h0 hX=>?_
 have hT:Qw X.P T:=hP▸tok
 have hf:X.P.funcs[127]? = some Tryz.f127:=hP▸Tryz.func127
 refine qI ?_
 obtain rfl:=H
 exact qT hT 11 hf hX h0 [] an (.d (.v _))
theorem Yr.Qt (a0:Int) (a1:Int):Xt Tryz.prog 82 [] [.i a0,.i a1] [] (.i (Yr a0 a1)):=by
 obtain ⟨r,H⟩:∃ r,Yr a0 a1=r:=⟨_,rfl⟩
 rw [H]
 refine Wx Tryz.func82 rfl (nt:=20) rfl (lb rfl) fun X hP h0 hX=>?_
 have hT:Qw X.P T:=hP▸tok
 have hf:X.P.funcs[82]? = some Tryz.f82:=hP▸Tryz.func82
 refine qI ?_
 refine qF hT 7 hP Qt3 (cmp_isNaN_int.Qt a0) ?_
 refine qF hT 5 hP Qt3 (cmp_isNaN_int.Qt a1) ?_
 refine qE hT 7 (K82 11110 1) ⟨20,[(0,.i a0),(1,.i a1),(6,.b (cmp_isNaN_int a1)),(11,.b (cmp_isNaN_int a0))],[]⟩ ?_
 refine qI ?_
 rcases iB H with ⟨c1,H⟩ | ⟨c1,H⟩
 ·refine qB hT 0 (c1) ?_
  rcases iB H with ⟨c2,H⟩ | ⟨c2,H⟩
  ·refine qB hT 6 (c2) ?_
   obtain rfl:=H
   exact qT hT 5 hf hX h0 [] an (.d (.v _))
  refine qB hT 6 (boF c2) ?_
  obtain rfl:=H
  exact qT hT 6 hf hX h0 [] an (.d (.v _))
 refine qB hT 0 (boF c1) ?_
 rcases iB H with ⟨c3,H⟩ | ⟨c3,H⟩
 ·refine qB hT 7 (c3) ?_
  obtain rfl:=H
  exact qT hT 5 hf hX h0 [] an (.d (.v _))
 refine qB hT 7 (boF c3) ?_
 refine qE hT 9 (K82 1111110 1) ⟨20,[(0,.i a0),(1,.i a1),(16,.b (decide (a0 < a1)))],[]⟩ ?_
 refine qI ?_
 rcases iB H with ⟨c4,H⟩ | ⟨c4,H⟩
 ·refine qB hT 0 (decide_eq_true c4) ?_
  obtain rfl:=H
  exact qT hT 5 hf hX h0 [] an (.d (.v _))
 refine qB hT 0 (decide_eq_false c4) ?_
 rcases iB H with ⟨c5,H⟩ | ⟨c5,H⟩
 ·refine qB hT 9 (decide_eq_true c5) ?_
  obtain rfl:=H
  exact qT hT 5 hf hX h0 [] an (.d (.v _))
 refine qB hT 9 (decide_eq_false c5) ?_
 obtain rfl:=H
 exact qT hT 6 hf hX h0 [] an (.d (.v _))
theorem Qam.Qt {t0:Bool} (a0:List Int) {r:Int} (H:Qam a0=some r):Xt Tryz.prog 155 [] [.d (eL3 t0 a0)] [] (.i r):=by
 refine Wx Tryz.func155 rfl (nt:=18) rfl (lb rfl) fun X hP h0 hX=>?_
 have hT:Qw X.P T:=hP▸tok
 have hf:X.P.funcs[155]? = some Tryz.f155:=hP▸Tryz.func155
 refine Xq hT 17 (Wix 111010 0) ⟨18,[(3,.i 0),(6,.d (eL3 t0 a0)),(7,.i (a0.length:Int)),(8,.i 0)],[]⟩ ?_
 have L:∀ n,(∀ (Wi:Int),iter (Qam.step a0) n (.l1 Wi)=some r->AK X 155 ((Wix 111010 0)) (Ym X [] (.i r)) ⟨18,[(3,.i 0),(6,.d (eL3 t0 a0)),(7,.i (a0.length:Int)),(8,.i Wi)],[]⟩):=by
  intro n
  induction n with
  | zero=>exact fun _ H=>Qbh H
  | succ n ih=>
   ·intro Wi H
    refine qI ?_
    rcases sB H with ⟨c1,H⟩ | ⟨c1,H⟩
    ·refine qB hT 5 (decide_eq_true c1) ?_
     obtain ⟨h2,H⟩:=sC H
     refine qX hT 6 h2 ?_
     refine qE hT 9 (Wix 111010011001 1) ⟨18,[(3,.i 0),(5,.i (a0.getD Wi.toNat 0)),(6,.d (eL3 t0 a0)),(7,.i (a0.length:Int)),(8,.i Wi),(14,.b ((a0.getD Wi.toNat 0) != 0))],[]⟩ ?_
     by_cases c3:(a0.getD Wi.toNat 0)=0
     ·replace H:=sT c3 H
      rw [neF c3]
      exact Xq hT 8 _ _ (ih (IntKind.wrap .i64 (Wi+1)) H)
     replace H:=sF c3 H
     rw [neT c3]
     refine qI ?_
     obtain rfl:=Yt H
     exact qT hT 6 hf hX h0 [] an (.d (.v _))
    refine qB hT 5 (decide_eq_false c1) ?_
    obtain rfl:=Yt H
    exact qT hT 7 hf hX h0 [] an (.d (.v _))
 obtain ⟨n,H⟩:=Qbw H
 exact (L n) 0 H
abbrev Qcp.q1 (a0:Qg) (a1:Qg):=([Yr a0.Client a1.Client,Yr a0.Seq a1.Seq]:List Int)
theorem Qcp.Qt (a0:Qg) (a1:Qg) {r:Int} (H:Qcp a0 a1=some r):Xt Tryz.prog 114 [] [.d (Qfs a0),.d (Qfs a1)] [] (.i r):=by
 refine Wx Tryz.func114 rfl (nt:=17) rfl (lb rfl) fun X hP h0 hX=>?_
 have hT:Qw X.P T:=hP▸tok
 have hf:X.P.funcs[114]? = some Tryz.f114:=hP▸Tryz.func114
 refine Xq hT 7 (Wnh 11 0) ⟨17,[(2,.ptr 0 0 0 0),(3,.ptr 1 0 0 0)],[.box 131 (Qfr a0),.box 131 (Qfr a1)]⟩ ?_
 refine Qab (hP▸mixed) 9 [2,3] (sm [.ptr 0 0 0 0,.i a0.Client,.ptr 1 0 0 0,.i a1.Client,.i (Yr a0.Client a1.Client),.ptr 0 0 0 1,.i a0.Seq,.ptr 1 0 0 1,.i a1.Seq]) (Qd (Qd (Qd (Qd (opS (Qd (Qd (Qd (Qd op0 hT) hT) hT) hT) (fun R rest h=>Zk (Xx:=[.i a0.Client,.i a1.Client]) (dst:=some 9) hP Qhm (Yr.Qt a0.Client a1.Client) (by kernel_rfl) (.cons (Qk _) (.cons (Qk _) .nil)) (by kernel_rfl) h)) hT) hT) hT) hT) ?_
 refine qI ?_
 refine qF hT 0 hP Qhm (Yr.Qt a0.Seq a1.Seq) ?_
 refine qE hT 1 (Wnh 110 11) ⟨17,[(15,.own 2 1 0 2)],[.box 131 (Qfr a0),.box 131 (Qfr a1),.flat false 1 3 2 (fun j=>[[.i (Yr a0.Client a1.Client)],[.i (Yr a0.Seq a1.Seq)]].getD j [])]⟩ ?_
 refine Qgp 2 (kk:=1) (fz:=false) (ty:=3) (n:=(Qcp.q1 a0 a1).length) (vec (eI .i64) 0 (Qcp.q1 a0 a1)) (by kernel_rfl) Qhh (st':=⟨17,[(15,.own 2 1 0 ((Qcp.q1 a0 a1).length))],[.box 131 (Qfr a0),.box 131 (Qfr a1),eR3 (Qcp.q1 a0 a1)]⟩) (by kernel_rfl) ?_
 obtain ⟨v1,h1,H⟩:=ibC H
 refine qI ?_
 refine qF hT 0 hP Qt9 (Qam.Qt (t0:=false) (Qcp.q1 a0 a1) h1) ?_
 obtain rfl:=Yt H
 exact qT hT 2 hf hX h0 [] an (.d (.v _))
abbrev Xm.q1 (a0:Qc) (Wi:Int):=(a0.Known.getD Wi.toNat Qg.z)
abbrev Xm.p0 (a0:Qc):List (Nat × AV):=[(1,.ptr 0 0 0 0),(6,.d (Zy true a0.Known)),(7,.i (a0.Known.length:Int))]
theorem Xm.Qt (a0:Qc) {r:Bool} (H:Xm a0=some r):Xt Tryz.prog 66 [] [.d (Qcc a0)] [] (.b r):=by
 refine Wx Tryz.func66 rfl (nt:=45) rfl (lb rfl) fun X hP h0 hX=>?_
 have hT:Qw X.P T:=hP▸tok
 have hf:X.P.funcs[66]? = some Tryz.f66:=hP▸Tryz.func66
 refine Xq hT 15 (K66 11010 0) ⟨45,(Xm.p0 a0++[(8,.i 0)]),[.box 30 (Jo a0)]⟩ ?_
 have L:∀ n,(∀ (Wi:Int),iter (Xm.step a0) n (.l1 Wi)=some r->AK X 66 ((K66 11010 0)) (Ym X [] (.b r)) ⟨45,(Xm.p0 a0++[(8,.i Wi)]),[.box 30 (Jo a0)]⟩):=by
  intro n
  induction n with
  | zero=>exact fun _ H=>Qbh H
  | succ n ih=>
   ·intro Wi H
    refine qI ?_
    rcases sB H with ⟨c1,H⟩ | ⟨c1,H⟩
    ·refine qB hT 5 (decide_eq_true c1) ?_
     obtain ⟨h2,H⟩:=sC H
     have Yx:∀ (Qsc:Bool),Jq (Xm.j1 Wi Qsc) (iter (Xm.step a0) n)=some r->AK X 66 ((K66 11010011001 1)) (Ym X [] (.b r)) ⟨45,(Xm.p0 a0++[(8,.i Wi),(43,.b Qsc)]),[.box 30 (Jo a0)]⟩:=by
      intro Qsc H
      by_cases c9:Qsc=true
      ·replace H:=sT c9 H
       cases (show (none:Option _)=some _ from H)
      replace H:=sF c9 H
      rw [boF c9]
      exact Xq hT 8 _ _ (ih (IntKind.wrap .i64 (Wi+1)) H)
     refine qX hT 7 h2 ?_
     refine qE hT 6 (K66 11010011001 0) ⟨45,[(1,.ptr 0 0 0 0),(3,.i Wi),(4,.ptr 1 0 0 0),(6,.d (Zy true a0.Known)),(7,.i (a0.Known.length:Int)),(8,.i Wi)],[.box 30 (Jo a0),.box 131 (Qfr (Xm.q1 a0 Wi))]⟩ ?_
     by_cases c3:(Qbs ((Xm.q1 a0 Wi).Client) 1 1048576)=true
     ·replace H:=sT c3 H
      by_cases c4:(Qbs ((Xm.q1 a0 Wi).Seq) 1 1073741824)=true
      ·replace H:=sT c4 H
       by_cases c5:(Qdc ((Xm.q1 a0 Wi).Time))=true
       ·replace H:=sT c5 H
        by_cases c6:Wi > 0
        ·replace H:=sT c6 H
         obtain ⟨h7,H⟩:=sC H
         obtain ⟨v1,h8,H⟩:=sbC H
         refine Qab (hP▸mixed) 31 [1,3,4,6,7,8] (sm [.ptr 1 0 0 0,.i ((Xm.q1 a0 Wi).Client),.b true,.b false,.b false,.ptr 1 0 0 1,.i ((Xm.q1 a0 Wi).Seq),.b true,.b false,.b false,.b false,.ptr 1 0 0 2,.i ((Xm.q1 a0 Wi).Time),.b true,.b false,.b false,.b false,.i Wi,.b true,.b true,.ptr 0 0 0 9,.d (Zy true a0.Known),.i Wi,.i (IntKind.wrap .i64 (Wi - 1)),.d (Qlz true a0.Known ((IntKind.wrap .i64 (Wi - 1)).toNat) 0),.d (Qfs (a0.Known.getD ((IntKind.wrap .i64 (Wi - 1)).toNat) Qg.z)),.d (Qfs (Xm.q1 a0 Wi)),.i v1,.b (decide (v1>=0)),.b (decide (v1>=0)),.b (decide (v1>=0))]) (Qd (Qd (Qd (opS (Qd (Qd (opS (Qd (Qd (Qd (Qd (Qd (opV (Qd (Qd (Qd (Qd (opS (Qd (Qd (Qd (Qd (Qd (opS (Qd (Qd (Qd (Qd (opS (Qd (Qd op0 hT) hT) (fun R rest h=>Zk (Xx:=[.i ((Xm.q1 a0 Wi).Client),.i 1,.i 1048576]) (dst:=some 15) hP Qek (by have q:=Qbs.Qt ((Xm.q1 a0 Wi).Client) 1 1048576;rw [c3] at q;exact q) (by kernel_rfl) (.cons (Qk _) (.cons (Qk _) (.cons (Qk _) .nil))) (by kernel_rfl) h)) hT) hT) hT) hT) (fun R rest h=>Zk (Xx:=[.i ((Xm.q1 a0 Wi).Seq),.i 1,.i 1073741824]) (dst:=some 20) hP Qek (by have q:=Qbs.Qt ((Xm.q1 a0 Wi).Seq) 1 1073741824;rw [c4] at q;exact q) (by kernel_rfl) (.cons (Qk _) (.cons (Qk _) (.cons (Qk _) .nil))) (by kernel_rfl) h)) hT) hT) hT) hT) hT) (fun R rest h=>Zk (Xx:=[.i ((Xm.q1 a0 Wi).Time)]) (dst:=some 26) hP Qll (by have q:=Qdc.Qt ((Xm.q1 a0 Wi).Time);rw [c5] at q;exact q) (by kernel_rfl) (.cons (Qk _) .nil) (by kernel_rfl) h)) hT) hT) hT) hT) hT 31 (.b (decide (Wi > 0))) (.b true) (by rw [decide_eq_true c6]<;>rfl)) hT) hT) hT) hT) hT) (fun R rest h=>Qba hT (i:=IntKind.wrap .i64 (Wi - 1)) (n:=(a0.Known.length:Int)) h7.1 h7.2 (by kernel_rfl) h)) hT) hT) (fun R rest h=>Zk (Xx:=[.d (Qfs (a0.Known.getD ((IntKind.wrap .i64 (Wi - 1)).toNat) Qg.z)),.d (Qfs (Xm.q1 a0 Wi))]) (dst:=some 40) hP Ql0 (Qcp.Qt (a0.Known.getD ((IntKind.wrap .i64 (Wi - 1)).toNat) Qg.z) (Xm.q1 a0 Wi) h8) (by kernel_rfl) (.cons (Qk _) (.cons (Qk _) .nil)) (by kernel_rfl) h)) hT) hT) hT) ?_
         exact Zr hT 1 _ [0] _ h0 (Yx (decide (v1>=0)) H)
        replace H:=sF c6 H
        refine Qab (hP▸mixed) 31 [1,3,4,6,7,8] (sm [.ptr 1 0 0 0,.i ((Xm.q1 a0 Wi).Client),.b true,.b false,.b false,.ptr 1 0 0 1,.i ((Xm.q1 a0 Wi).Seq),.b true,.b false,.b false,.b false,.ptr 1 0 0 2,.i ((Xm.q1 a0 Wi).Time),.b true,.b false,.b false,.b false,.i Wi,.b false,.b false,.Ql [],.Ql [],.Ql [],.Ql [],.Ql [],.Ql [],.Ql [],.Ql [],.Ql [],.b false,.b false]) (Qd (Qd (Qd (Qd (Qd (Qd (Qd (Qd (Qd (Qd (Qd (Qd (opV (Qd (Qd (Qd (Qd (opS (Qd (Qd (Qd (Qd (Qd (opS (Qd (Qd (Qd (Qd (opS (Qd (Qd op0 hT) hT) (fun R rest h=>Zk (Xx:=[.i ((Xm.q1 a0 Wi).Client),.i 1,.i 1048576]) (dst:=some 15) hP Qek (by have q:=Qbs.Qt ((Xm.q1 a0 Wi).Client) 1 1048576;rw [c3] at q;exact q) (by kernel_rfl) (.cons (Qk _) (.cons (Qk _) (.cons (Qk _) .nil))) (by kernel_rfl) h)) hT) hT) hT) hT) (fun R rest h=>Zk (Xx:=[.i ((Xm.q1 a0 Wi).Seq),.i 1,.i 1073741824]) (dst:=some 20) hP Qek (by have q:=Qbs.Qt ((Xm.q1 a0 Wi).Seq) 1 1073741824;rw [c4] at q;exact q) (by kernel_rfl) (.cons (Qk _) (.cons (Qk _) (.cons (Qk _) .nil))) (by kernel_rfl) h)) hT) hT) hT) hT) hT) (fun R rest h=>Zk (Xx:=[.i ((Xm.q1 a0 Wi).Time)]) (dst:=some 26) hP Qll (by have q:=Qdc.Qt ((Xm.q1 a0 Wi).Time);rw [c5] at q;exact q) (by kernel_rfl) (.cons (Qk _) .nil) (by kernel_rfl) h)) hT) hT) hT) hT) hT 31 (.b (decide (Wi > 0))) (.b false) (by rw [decide_eq_false c6]<;>rfl)) hT) hT) hT) hT) hT) hT) hT) hT) hT) hT) hT) hT) ?_
        exact Zr hT 1 _ [0] _ h0 (Yx false H)
       replace H:=sF c5 H
       refine Qab (hP▸mixed) 31 [1,3,4,6,7,8] (sm [.ptr 1 0 0 0,.i ((Xm.q1 a0 Wi).Client),.b true,.b false,.b false,.ptr 1 0 0 1,.i ((Xm.q1 a0 Wi).Seq),.b true,.b false,.b false,.b false,.ptr 1 0 0 2,.i ((Xm.q1 a0 Wi).Time),.b false,.b true,.b true,.b true,.Ql [],.Ql [],.Ql [],.Ql [],.Ql [],.Ql [],.Ql [],.Ql [],.Ql [],.Ql [],.Ql [],.Ql [],.Ql [],.b true]) (Qd (Qd (Qd (Qd (Qd (Qd (Qd (Qd (Qd (Qd (Qd (Qd (Qd (Qd (Qd (Qd (Qd (opS (Qd (Qd (Qd (Qd (Qd (opS (Qd (Qd (Qd (Qd (opS (Qd (Qd op0 hT) hT) (fun R rest h=>Zk (Xx:=[.i ((Xm.q1 a0 Wi).Client),.i 1,.i 1048576]) (dst:=some 15) hP Qek (by have q:=Qbs.Qt ((Xm.q1 a0 Wi).Client) 1 1048576;rw [c3] at q;exact q) (by kernel_rfl) (.cons (Qk _) (.cons (Qk _) (.cons (Qk _) .nil))) (by kernel_rfl) h)) hT) hT) hT) hT) (fun R rest h=>Zk (Xx:=[.i ((Xm.q1 a0 Wi).Seq),.i 1,.i 1073741824]) (dst:=some 20) hP Qek (by have q:=Qbs.Qt ((Xm.q1 a0 Wi).Seq) 1 1073741824;rw [c4] at q;exact q) (by kernel_rfl) (.cons (Qk _) (.cons (Qk _) (.cons (Qk _) .nil))) (by kernel_rfl) h)) hT) hT) hT) hT) hT) (fun R rest h=>Zk (Xx:=[.i ((Xm.q1 a0 Wi).Time)]) (dst:=some 26) hP Qll (by have q:=Qdc.Qt ((Xm.q1 a0 Wi).Time);rw [boF c5] at q;exact q) (by kernel_rfl) (.cons (Qk _) .nil) (by kernel_rfl) h)) hT) hT) hT) hT) hT) hT) hT) hT) hT) hT) hT) hT) hT) hT) hT) hT) hT) ?_
       exact Zr hT 1 _ [0] _ h0 (Yx true H)
      replace H:=sF c4 H
      refine Qab (hP▸mixed) 31 [1,3,4,6,7,8] (sm [.ptr 1 0 0 0,.i ((Xm.q1 a0 Wi).Client),.b true,.b false,.b false,.ptr 1 0 0 1,.i ((Xm.q1 a0 Wi).Seq),.b false,.b true,.b true,.b true,.Ql [],.Ql [],.Ql [],.Ql [],.b true,.b true,.Ql [],.Ql [],.Ql [],.Ql [],.Ql [],.Ql [],.Ql [],.Ql [],.Ql [],.Ql [],.Ql [],.Ql [],.Ql [],.b true]) (Qd (Qd (Qd (Qd (Qd (Qd (Qd (Qd (Qd (Qd (Qd (Qd (Qd (Qd (Qd (Qd (Qd (Qd (Qd (Qd (Qd (Qd (Qd (opS (Qd (Qd (Qd (Qd (opS (Qd (Qd op0 hT) hT) (fun R rest h=>Zk (Xx:=[.i ((Xm.q1 a0 Wi).Client),.i 1,.i 1048576]) (dst:=some 15) hP Qek (by have q:=Qbs.Qt ((Xm.q1 a0 Wi).Client) 1 1048576;rw [c3] at q;exact q) (by kernel_rfl) (.cons (Qk _) (.cons (Qk _) (.cons (Qk _) .nil))) (by kernel_rfl) h)) hT) hT) hT) hT) (fun R rest h=>Zk (Xx:=[.i ((Xm.q1 a0 Wi).Seq),.i 1,.i 1073741824]) (dst:=some 20) hP Qek (by have q:=Qbs.Qt ((Xm.q1 a0 Wi).Seq) 1 1073741824;rw [boF c4] at q;exact q) (by kernel_rfl) (.cons (Qk _) (.cons (Qk _) (.cons (Qk _) .nil))) (by kernel_rfl) h)) hT) hT) hT) hT) hT) hT) hT) hT) hT) hT) hT) hT) hT) hT) hT) hT) hT) hT) hT) hT) hT) hT) hT) ?_
      exact Zr hT 1 _ [0] _ h0 (Yx true H)
     replace H:=sF c3 H
     refine Qab (hP▸mixed) 31 [1,3,4,6,7,8] (sm [.ptr 1 0 0 0,.i ((Xm.q1 a0 Wi).Client),.b false,.b true,.b true,.Ql [],.Ql [],.Ql [],.Ql [],.b true,.b true,.Ql [],.Ql [],.Ql [],.Ql [],.b true,.b true,.Ql [],.Ql [],.Ql [],.Ql [],.Ql [],.Ql [],.Ql [],.Ql [],.Ql [],.Ql [],.Ql [],.Ql [],.Ql [],.b true]) (Qd (Qd (Qd (Qd (Qd (Qd (Qd (Qd (Qd (Qd (Qd (Qd (Qd (Qd (Qd (Qd (Qd (Qd (Qd (Qd (Qd (Qd (Qd (Qd (Qd (Qd (Qd (Qd (opS (Qd (Qd op0 hT) hT) (fun R rest h=>Zk (Xx:=[.i ((Xm.q1 a0 Wi).Client),.i 1,.i 1048576]) (dst:=some 15) hP Qek (by have q:=Qbs.Qt ((Xm.q1 a0 Wi).Client) 1 1048576;rw [boF c3] at q;exact q) (by kernel_rfl) (.cons (Qk _) (.cons (Qk _) (.cons (Qk _) .nil))) (by kernel_rfl) h)) hT) hT) hT) hT) hT) hT) hT) hT) hT) hT) hT) hT) hT) hT) hT) hT) hT) hT) hT) hT) hT) hT) hT) hT) hT) hT) hT) hT) ?_
     exact Zr hT 1 _ [0] _ h0 (Yx true H)
    refine qB hT 5 (decide_eq_false c1) ?_
    obtain rfl:=Yt H
    exact qT hT 6 hf hX h0 [] an (.d (.v _))
 obtain ⟨n,H⟩:=Qbw H
 exact (L n) 0 H
theorem Yn.Qt {t0:Bool} {ff1:FuncId} {cc1:List DV} (a0:List Qa) (p1:Qa->Option Bool) (he1:Sy.Enters Tryz.prog ff1) (hp1:∀ (z0:Qa) r,p1 z0=some r->Xt Tryz.prog ff1 [] ([.d (Qgz z0)] ++ List.map AV.d cc1) [] (.b r)) {r:Int} (H:Yn a0 p1=some r):Xt Tryz.prog 140 [] [.d (We t0 a0),.d (.fn ff1 cc1)] [] (.i r):=by
 refine Wx Tryz.func140 rfl (nt:=19) rfl (lb rfl) fun X hP h0 hX=>?_
 have hT:Qw X.P T:=hP▸tok
 have hf:X.P.funcs[140]? = some Tryz.f140:=hP▸Tryz.func140
 refine Xq hT 13 (Wb2 11010 0) ⟨19,[(0,.d (We t0 a0)),(1,.d (.fn ff1 cc1)),(7,.i (a0.length:Int)),(8,.i 0)],[]⟩ ?_
 have L:∀ n,(∀ (Wi:Int),iter (Yn.step a0 p1) n (.l1 Wi)=some r->AK X 140 ((Wb2 11010 0)) (Ym X [] (.i r)) ⟨19,[(0,.d (We t0 a0)),(1,.d (.fn ff1 cc1)),(7,.i (a0.length:Int)),(8,.i Wi)],[]⟩):=by
  intro n
  induction n with
  | zero=>exact fun _ H=>Qbh H
  | succ n ih=>
   ·intro Wi H
    refine qI ?_
    rcases sB H with ⟨c1,H⟩ | ⟨c1,H⟩
    ·refine qB hT 5 (decide_eq_true c1) ?_
     obtain ⟨h2,H⟩:=sC H
     refine qX hT 14 h2 ?_
     refine qE hT 1 (Wb2 110100110010 5) ⟨19,[(0,.d (We t0 a0)),(1,.d (.fn ff1 cc1)),(5,.i Wi),(7,.i (a0.length:Int)),(8,.i Wi),(11,.d (.fn ff1 cc1)),(15,.d (Qgz (a0.getD Wi.toNat Qa.z)))],[]⟩ ?_
     obtain ⟨v1,h3,H⟩:=sbC H
     refine Zd (Xx:=[.d (Qgz (a0.getD Wi.toNat Qa.z))] ++ List.map AV.d cc1) (dst:=some 16) (k':=(Wb2 110100110010 6)) [0,1,5,7,8,16] [] hP he1 (hp1 (a0.getD Wi.toNat Qa.z) v1 h3) (by kernel_rfl) (Qao _) (.cons (Qk _) (Qfn _)) (st':=⟨19,[(0,.d (We t0 a0)),(1,.d (.fn ff1 cc1)),(5,.i Wi),(7,.i (a0.length:Int)),(8,.i Wi),(16,.b v1)],[]⟩) (by kernel_rfl) ?_
     refine qI ?_
     rcases sB H with ⟨c4,H⟩ | ⟨c4,H⟩
     ·refine qB hT 1 (c4) ?_
      obtain rfl:=Yt H
      exact qT hT 6 hf hX h0 [] an (.d (.v _))
     refine qB hT 1 (boF c4) ?_
     exact qE hT 8 _ _ (ih (IntKind.wrap .i64 (Wi+1)) H)
    refine qB hT 5 (decide_eq_false c1) ?_
    obtain rfl:=Yt H
    exact qT hT 6 hf hX h0 [] an (.d (.v _))
 obtain ⟨n,H⟩:=Qbw H
 exact (L n) 0 H
theorem Qct.Qt {t0:Bool} {ff1:FuncId} {cc1:List DV} (a0:List Qa) (p1:Qa->Option Bool) (he1:Sy.Enters Tryz.prog ff1) (hp1:∀ (z0:Qa) r,p1 z0=some r->Xt Tryz.prog ff1 [] ([.d (Qgz z0)] ++ List.map AV.d cc1) [] (.b r)) {r:Bool} (H:Qct a0 p1=some r):Xt Tryz.prog 95 [] [.d (We t0 a0),.d (.fn ff1 cc1)] [] (.b r):=by
 refine Wx Tryz.func95 rfl (nt:=9) rfl (lb rfl) fun X hP h0 hX=>?_
 have hT:Qw X.P T:=hP▸tok
 have hf:X.P.funcs[95]? = some Tryz.f95:=hP▸Tryz.func95
 refine qI ?_
 obtain ⟨v1,h1,H⟩:=ibC H
 refine qF hT 8 hP Qt6 (Yn.Qt (t0:=t0) (ff1:=ff1) (cc1:=cc1) a0 p1 he1 hp1 h1) ?_
 obtain rfl:=Yt H
 exact qT hT 3 hf hX h0 [] an (.d (.v _))
theorem Qdx.Qt (a0:Int):Xt Tryz.prog 58 [] [.i a0] [] (.b (Qdx a0)):=by
 obtain ⟨r,H⟩:∃ r,Qdx a0=r:=⟨_,rfl⟩
 rw [H]
 refine Wx Tryz.func58 rfl (nt:=9) rfl (lb rfl) fun X hP h0 hX=>?_
 have hT:Qw X.P T:=hP▸tok
 have hf:X.P.funcs[58]? = some Tryz.f58:=hP▸Tryz.func58
 have Yx:∀ (Qcu:Bool),(Qdx.j1 Qcu)=r->AK X 58 ((K58 11 1)) (Ym X [] (.b r)) ⟨9,[(2,.b Qcu)],[]⟩:=by
  intro Qcu H
  obtain rfl:=H
  exact Qd9 hf hX h0 (.b Qcu) [] an (.d (.v _))
 refine qI ?_
 rcases iB H with ⟨c1,H⟩ | ⟨c1,H⟩
 ·refine qB hT 9 (decide_eq_true c1) ?_
  exact qE hT 5 _ _ (Yx (decide (a0<=1099511627776)) H)
 refine qB hT 9 (decide_eq_false c1) ?_
 exact qE hT 5 _ _ (Yx false H)
theorem Qe5.Qt (a0:Qa):Xt Tryz.prog 97 [] [.d (Qgz a0)] [] (.b (Qe5 a0)):=by
 obtain ⟨r,H⟩:∃ r,Qe5 a0=r:=⟨_,rfl⟩
 rw [H]
 refine Wx Tryz.func97 rfl (nt:=16) rfl (lb rfl) fun X hP h0 hX=>?_
 have hT:Qw X.P T:=hP▸tok
 have hf:X.P.funcs[97]? = some Tryz.f97:=hP▸Tryz.func97
 have Yx:∀ (Qcu:Bool),(Qe5.j1 Qcu)=r->AK X 97 ((K97 11 1)) (Ym X [] (.b r)) ⟨16,[(2,.b Qcu)],[]⟩:=by
  intro Qcu H
  obtain rfl:=H
  exact Qd9 hf hX h0 (.b Qcu) [] an (.d (.v _))
 refine qI ?_
 rcases iB H with ⟨c1,H⟩ | ⟨c1,H⟩
 ·refine qB hT 11 (decide_eq_true c1) ?_
  rcases iB H with ⟨c2,H⟩ | ⟨c2,H⟩
  ·refine qB hT 5 (decide_eq_true c2) ?_
   refine qE hT 2 (K97 110 11) ⟨16,[(11,.b true),(13,.i a0.Val)],[.box 97 (Qe1 a0)]⟩ ?_
   refine qI ?_
   refine qF hT 0 hP Qwf (Qdx.Qt a0.Val) ?_
   exact qC hT 3 _ [] _ h0 (Yx (Qdx a0.Val) H)
  refine qB hT 5 (decide_eq_false c2) ?_
  exact qC hT 6 _ [] _ h0 (Yx false H)
 refine qB hT 11 (decide_eq_false c1) ?_
 exact qC hT 11 _ [] _ h0 (Yx false H)
theorem Qf3.Qt (a0:Qa):Xt Tryz.prog 96 [] [.d (Qgz a0)] [] (.b (Qf3 a0)):=by
 obtain ⟨r,H⟩:∃ r,Qf3 a0=r:=⟨_,rfl⟩
 rw [H]
 refine Wx Tryz.func96 rfl (nt:=6) rfl (lb rfl) fun X hP h0 hX=>?_
 have hT:Qw X.P T:=hP▸tok
 have hf:X.P.funcs[96]? = some Tryz.f96:=hP▸Tryz.func96
 refine qI ?_
 refine qF hT 8 hP Wgx (Qe5.Qt a0) ?_
 obtain rfl:=H
 exact qT hT 3 hf hX h0 [] an (.d (.v _))
theorem Qcq.Qt (a0:Qp) (a1:Int) (a2:Int) {r:Bool} (H:Qcq a0 a1 a2=some r):Xt Tryz.prog 55 [] [.d (Qan a0),.i a1,.i a2] [] (.b r):=by
 refine Wx Tryz.func55 rfl (nt:=25) rfl (lb rfl) fun X hP h0 hX=>?_
 have hT:Qw X.P T:=hP▸tok
 have hf:X.P.funcs[55]? = some Tryz.f55:=hP▸Tryz.func55
 have Yx:∀ (Qk5:Bool),(Qcq.j1 Qk5)=some r->AK X 55 ((K55 11 1)) (Ym X [] (.b r)) ⟨25,[(6,.b Qk5)],[]⟩:=by
  intro Qk5 H
  obtain rfl:=Yt H
  exact Qd9 hf hX h0 (.b Qk5) [] an (.d (.v _))
 refine qI ?_
 rcases iB H with ⟨c1,H⟩ | ⟨c1,H⟩
 ·refine qB hT 13 (decide_eq_true c1) ?_
  rcases iB H with ⟨c2,H⟩ | ⟨c2,H⟩
  ·refine qB hT 7 (decide_eq_true c2) ?_
   refine qE hT 2 (K55 110 15) ⟨25,[(19,.b true),(21,.d (We true a0.Pairs))],[.box 35 (Qak a0)]⟩ ?_
   obtain ⟨v1,h3,H⟩:=ibC H
   refine qI ?_
   refine qF hT 0 hP Wgv (Qct.Qt (t0:=true) (ff1:=96) (cc1:=[]) a0.Pairs (fun z0=>some (Qf3 z0)) Wgw (fun z0 r h=>by obtain rfl:=Yt h;exact Qf3.Qt z0) h3) ?_
   exact qC hT 4 _ [] _ h0 (Yx (!v1) H)
  refine qB hT 7 (decide_eq_false c2) ?_
  exact qC hT 7 _ [] _ h0 (Yx false H)
 refine qB hT 13 (decide_eq_false c1) ?_
 exact qC hT 14 _ [] _ h0 (Yx false H)
theorem Qb9.Qt {t0:Bool} (a0:List Qa) {r:Bool} (H:Qb9 a0=some r):Xt Tryz.prog 56 [] [.d (We t0 a0)] [] (.b r):=by
 refine Wx Tryz.func56 rfl (nt:=22) rfl (lb rfl) fun X hP h0 hX=>?_
 have hT:Qw X.P T:=hP▸tok
 have hf:X.P.funcs[56]? = some Tryz.f56:=hP▸Tryz.func56
 refine Xq hT 11 (K56 11010 0) ⟨22,[(0,.d (We t0 a0)),(3,.i 1)],[]⟩ ?_
 have L:∀ n,(∀ (Yz:Int),iter (Qb9.step a0) n (.l1 Yz)=some r->AK X 56 ((K56 11010 0)) (Ym X [] (.b r)) ⟨22,[(0,.d (We t0 a0)),(3,.i Yz)],[]⟩):=by
  intro n
  induction n with
  | zero=>exact fun _ H=>Qbh H
  | succ n ih=>
   ·intro Yz H
    refine qI ?_
    rcases sB H with ⟨c1,H⟩ | ⟨c1,H⟩
    ·refine qB hT 8 (decide_eq_true c1) ?_
     refine qE hT 5 (K56 110100100 0) ⟨22,[(0,.d (We t0 a0)),(3,.i Yz)],[]⟩ ?_
     obtain ⟨h2,H⟩:=sC H
     obtain ⟨h3,H⟩:=sC H
     refine Qab (hP▸mixed) 12 [0,3] (sm [.d (We t0 a0),.i Yz,.i (IntKind.wrap .i64 (Yz - 1)),.d (Qid t0 a0 ((IntKind.wrap .i64 (Yz - 1)).toNat) 0),.d (Qid t0 a0 ((IntKind.wrap .i64 (Yz - 1)).toNat) 0),.i ((a0.getD ((IntKind.wrap .i64 (Yz - 1)).toNat) Qa.z).Key),.d (We t0 a0),.i Yz,.d (Qid t0 a0 Yz.toNat 0),.d (Qid t0 a0 Yz.toNat 0),.i ((a0.getD Yz.toNat Qa.z).Key),.b (decide (((a0.getD ((IntKind.wrap .i64 (Yz - 1)).toNat) Qa.z).Key)>=((a0.getD Yz.toNat Qa.z).Key)))]) (Qd (Qd (Qd (opS (Qd (Qd (Qd (Qd (opS (Qd (Qd (Qd op0 hT) hT) hT) (fun R rest h=>Qba hT (i:=IntKind.wrap .i64 (Yz - 1)) (n:=(a0.length:Int)) h2.1 h2.2 (by kernel_rfl) h)) hT) hT) hT) hT) (fun R rest h=>Qba hT (i:=Yz) (n:=(a0.length:Int)) h3.1 h3.2 (by kernel_rfl) h)) hT) hT) hT) ?_
     refine qI ?_
     rcases sB H with ⟨c4,H⟩ | ⟨c4,H⟩
     ·refine qB hT 1 (decide_eq_true c4) ?_
      obtain rfl:=Yt H
      exact qT hT 5 hf hX h0 [] an (.d (.v _))
     refine qB hT 1 (decide_eq_false c4) ?_
     exact qE hT 9 _ _ (ih (IntKind.wrap .i64 (Yz+1)) H)
    refine qB hT 8 (decide_eq_false c1) ?_
    obtain rfl:=Yt H
    exact qT hT 6 hf hX h0 [] an (.d (.v _))
 obtain ⟨n,H⟩:=Qbw H
 exact (L n) 1 H
abbrev Zq.p0:List (Nat × AV):=[(1,.ptr 0 0 0 0)]
theorem Zq.Qt (a0:Qp) {r:Bool} (H:Zq a0=some r):Xt Tryz.prog 21 [] [.d (Qan a0)] [] (.b r):=by
 refine Wx Tryz.func21 rfl (nt:=102) rfl (lb rfl) fun X hP h0 hX=>?_
 have hT:Qw X.P T:=hP▸tok
 have hf:X.P.funcs[21]? = some Tryz.f21:=hP▸Tryz.func21
 have Yx:∀ (Qr4:Bool),(Zq.j1 a0 Qr4)=some r->AK X 21 ((K21 1110 1)) (Ym X [] (.b r)) ⟨102,(Zq.p0++[(23,.b Qr4)]),[.box 35 (Qak a0)]⟩:=by
  intro Qr4 H
  by_cases c7:Qr4=true
  ·replace H:=iT c7 H
   rw [c7]
   refine qI ?_
   obtain rfl:=Yt H
   exact qT hT 5 hf hX h0 [] an (.d (.v _))
  replace H:=iF c7 H
  rw [boF c7]
  refine Xq hT 14 (K21 1111010 1) ⟨102,(Zq.p0++[(25,.i a0.Kind),(26,.b (a0.Kind == 1))]),[.box 35 (Qak a0)]⟩ ?_
  by_cases c8:a0.Kind=1
  ·replace H:=iT c8 H
   rw [eqT c8]
   refine qI ?_
   obtain ⟨v1,h9,H⟩:=ibC H
   have Jj2:∀ (Qk7:Bool),(Zq.j2 Qk7)=some r->AK X 21 ((K21 111101010 1)) (Ym X [] (.b r)) ⟨102,[(2,.b Qk7)],[]⟩:=by
    intro Qk7 H
    obtain rfl:=Yt H
    exact Qd9 hf hX h0 (.b Qk7) [] an (.d (.v _))
   refine qF hT 4 hP Qj1 (Qcq.Qt a0 1 8 h9) ?_
   rcases iB H with ⟨c10,H⟩ | ⟨c10,H⟩
   ·refine qB hT 1 (c10) ?_
    refine qE hT 2 (K21 1111010100 5) ⟨102,[(30,.b true),(32,.d (We true a0.Pairs))],[.box 35 (Qak a0)]⟩ ?_
    obtain ⟨v2,h11,H⟩:=ibC H
    refine qI ?_
    refine qF hT 0 hP Wgc (Qb9.Qt (t0:=true) a0.Pairs h11) ?_
    exact qC hT 3 _ [] _ h0 (Jj2 v2 H)
   refine qB hT 1 (boF c10) ?_
   exact qC hT 6 _ [] _ h0 (Jj2 false H)
  replace H:=iF c8 H
  rw [eqF c8]
  refine Xq hT 6 (K21 111101011 1) ⟨102,(Zq.p0++[(25,.i a0.Kind),(35,.b (a0.Kind == 2))]),[.box 35 (Qak a0)]⟩ ?_
  by_cases c12:a0.Kind=2
  ·replace H:=iT c12 H
   have Jj3:∀ (Qk8:Bool),(Zq.j3 Qk8)=some r->AK X 21 ((K21 11110101110 1)) (Ym X [] (.b r)) ⟨102,[(2,.b Qk8)],[]⟩:=by
    intro Qk8 H
    obtain rfl:=Yt H
    exact Qd9 hf hX h0 (.b Qk8) [] an (.d (.v _))
   rw [eqT c12]
   refine Xq hT 8 (K21 111101011100 5) ⟨102,(Zq.p0++[(41,.b ((a0.Pairs.length:Int) == 0))]),[.box 35 (Qak a0)]⟩ ?_
   by_cases c13:(a0.Pairs.length:Int)=0
   ·replace H:=iT c13 H
    rw [eqT c13]
    refine qI ?_
    refine qF hT 2 hP Qhl (Qbk.Qt a0.Over) ?_
    exact qC hT 3 _ [] _ h0 (Jj3 (Qbk a0.Over) H)
   replace H:=iF c13 H
   rw [eqF c13]
   exact Zr hT 6 _ [] _ h0 (Jj3 false H)
  replace H:=iF c12 H
  rw [eqF c12]
  refine Xq hT 6 (K21 11110101111 1) ⟨102,(Zq.p0++[(25,.i a0.Kind),(46,.b (a0.Kind == 3))]),[.box 35 (Qak a0)]⟩ ?_
  by_cases c14:a0.Kind=3
  ·replace H:=iT c14 H
   rw [eqT c14]
   refine qI ?_
   obtain ⟨v3,h15,H⟩:=ibC H
   refine qF hT 4 hP Qj1 (Qcq.Qt a0 1 1 h15) ?_
   obtain rfl:=Yt H
   exact qT hT 2 hf hX h0 [] an (.d (.v _))
  replace H:=iF c14 H
  rw [eqF c14]
  refine Xq hT 6 (K21 1111010111111 1) ⟨102,(Zq.p0++[(25,.i a0.Kind),(50,.b (a0.Kind == 4))]),[.box 35 (Qak a0)]⟩ ?_
  by_cases c16:a0.Kind=4
  ·replace H:=iT c16 H
   rw [eqT c16]
   refine qI ?_
   obtain ⟨v4,h17,H⟩:=ibC H
   have Jj4:∀ (Qvz:Bool),(Zq.j4 Qvz)=some r->AK X 21 ((K21 111101011111110 1)) (Ym X [] (.b r)) ⟨102,[(2,.b Qvz)],[]⟩:=by
    intro Qvz H
    obtain rfl:=Yt H
    exact Qd9 hf hX h0 (.b Qvz) [] an (.d (.v _))
   refine qF hT 4 hP Qj1 (Qcq.Qt a0 1 1 h17) ?_
   rcases iB H with ⟨c18,H⟩ | ⟨c18,H⟩
   ·refine qB hT 1 (c18) ?_
    refine qE hT 2 (K21 1111010111111100 5) ⟨102,(Zq.p0++[(54,.b true),(56,.i a0.Old)]),[.box 35 (Qak a0)]⟩ ?_
    refine qI ?_
    refine qF hT 0 hP Qwf (Qdx.Qt a0.Old) ?_
    rcases iB H with ⟨c19,H⟩ | ⟨c19,H⟩
    ·refine qB hT 1 (c19) ?_
     exact qC hT 7 _ [] _ h0 (Jj4 true H)
    refine qB hT 1 (boF c19) ?_
    exact qC hT 7 _ [] _ h0 (Jj4 (a0.Old == 1099511627777) H)
   refine qB hT 1 (boF c18) ?_
   exact qC hT 11 _ [] _ h0 (Jj4 false H)
  replace H:=iF c16 H
  rw [eqF c16]
  refine Xq hT 6 (K21 111101011111111 1) ⟨102,(Zq.p0++[(64,.b (a0.Kind == 5))]),[.box 35 (Qak a0)]⟩ ?_
  by_cases c20:a0.Kind=5
  ·replace H:=iT c20 H
   rw [eqT c20]
   refine Xq hT 2 (K21 11110101111111110 0) ⟨102,(Zq.p0),[.box 35 (Qak a0)]⟩ ?_
   obtain ⟨v5,h21,H⟩:=ibC H
   have Jj5:∀ (Qv1:Bool),(Zq.j5 Qv1)=some r->AK X 21 ((K21 11110101111111110 1)) (Ym X [] (.b r)) ⟨102,[(2,.b Qv1)],[]⟩:=by
    intro Qv1 H
    obtain rfl:=Yt H
    exact Qd9 hf hX h0 (.b Qv1) [] an (.d (.v _))
   by_cases c22:v5=true
   ·replace H:=iT c22 H
    obtain ⟨h23,H⟩:=iC H
    obtain ⟨h24,H⟩:=iC H
    by_cases c25:((a0.Pairs.getD 0 Qa.z).Key)=((a0.Pairs.getD 1 Qa.z).Key)
    ·replace H:=iT c25 H
     refine Qab (hP▸mixed) 26 [1] (sm [.d (Qan a0),.b true,.b true,.ptr 0 0 0 3,.d (We true a0.Pairs),.d (Qid true a0.Pairs 0 0),.d (Qid true a0.Pairs 0 0),.i ((a0.Pairs.getD 0 Qa.z).Key),.ptr 0 0 0 3,.d (We true a0.Pairs),.d (Qid true a0.Pairs 1 0),.d (Qid true a0.Pairs 1 0),.i ((a0.Pairs.getD 1 Qa.z).Key),.b false,.b false,.b false,.Ql [],.Ql [],.Ql [],.Ql [],.Ql [],.Ql [],.Ql [],.Ql [],.Ql [],.Ql []]) (Qd (Qd (Qd (Qd (Qd (Qd (Qd (Qd (Qd (Qd (Qd (Qd (opV (Qd (Qd (opS (Qd (Qd (Qd (Qd (opS (Qd (Qd (Qd (opS (Qd op0 hT) (fun R rest h=>Zk (Xx:=[.d (Qan a0),.i 2,.i 2]) (dst:=some 67) hP Qj1 (by have q:=Qcq.Qt a0 2 2 h21;rw [c22] at q;exact q) (by kernel_rfl) (.cons (Qk _) (.cons (Qk _) (.cons (Qk _) .nil))) (by kernel_rfl) h)) hT) hT) hT) (fun R rest h=>Qba hT (i:=0) (n:=(a0.Pairs.length:Int)) h23.1 h23.2 (by kernel_rfl) h)) hT) hT) hT) hT) (fun R rest h=>Qba hT (i:=1) (n:=(a0.Pairs.length:Int)) h24.1 h24.2 (by kernel_rfl) h)) hT) hT) hT 79 (.b (((a0.Pairs.getD 0 Qa.z).Key) != ((a0.Pairs.getD 1 Qa.z).Key))) (.b false) (by rw [neF c25]<;>rfl)) hT) hT) hT) hT) hT) hT) hT) hT) hT) hT) hT) hT) ?_
     exact Zr hT 12 _ [] _ h0 (Jj5 false H)
    replace H:=iF c25 H
    refine Qab (hP▸mixed) 26 [1] (sm [.d (Qan a0),.b true,.b true,.ptr 0 0 0 3,.d (We true a0.Pairs),.d (Qid true a0.Pairs 0 0),.d (Qid true a0.Pairs 0 0),.i ((a0.Pairs.getD 0 Qa.z).Key),.ptr 0 0 0 3,.d (We true a0.Pairs),.d (Qid true a0.Pairs 1 0),.d (Qid true a0.Pairs 1 0),.i ((a0.Pairs.getD 1 Qa.z).Key),.b true,.b true,.b true,.ptr 0 0 0 3,.d (We true a0.Pairs),.d (Qid true a0.Pairs 0 0),.d (Qid true a0.Pairs 0 1),.i ((a0.Pairs.getD 0 Qa.z).Val),.ptr 0 0 0 3,.d (We true a0.Pairs),.d (Qid true a0.Pairs 1 0),.d (Qid true a0.Pairs 1 1),.i ((a0.Pairs.getD 1 Qa.z).Val)]) (Qd (Qd (opS (Qd (Qd (Qd (Qd (opS (Qd (Qd (Qd (Qd (opV (Qd (Qd (opS (Qd (Qd (Qd (Qd (opS (Qd (Qd (Qd (opS (Qd op0 hT) (fun R rest h=>Zk (Xx:=[.d (Qan a0),.i 2,.i 2]) (dst:=some 67) hP Qj1 (by have q:=Qcq.Qt a0 2 2 h21;rw [c22] at q;exact q) (by kernel_rfl) (.cons (Qk _) (.cons (Qk _) (.cons (Qk _) .nil))) (by kernel_rfl) h)) hT) hT) hT) (fun R rest h=>Qba hT (i:=0) (n:=(a0.Pairs.length:Int)) h23.1 h23.2 (by kernel_rfl) h)) hT) hT) hT) hT) (fun R rest h=>Qba hT (i:=1) (n:=(a0.Pairs.length:Int)) h24.1 h24.2 (by kernel_rfl) h)) hT) hT) hT 79 (.b (((a0.Pairs.getD 0 Qa.z).Key) != ((a0.Pairs.getD 1 Qa.z).Key))) (.b true) (by rw [neT c25]<;>rfl)) hT) hT) hT) hT) (fun R rest h=>Qba hT (i:=0) (n:=(a0.Pairs.length:Int)) h23.1 h23.2 (by kernel_rfl) h)) hT) hT) hT) hT) (fun R rest h=>Qba hT (i:=1) (n:=(a0.Pairs.length:Int)) h24.1 h24.2 (by kernel_rfl) h)) hT) hT) ?_
    refine Xq hT 3 (K21 111101011111111100 29) ⟨102,(Zq.p0++[(94,.b (((a0.Pairs.getD 0 Qa.z).Val) == ((a0.Pairs.getD 1 Qa.z).Val)))]),[.box 35 (Qak a0)]⟩ ?_
    by_cases c26:((a0.Pairs.getD 0 Qa.z).Val)=((a0.Pairs.getD 1 Qa.z).Val)
    ·replace H:=iT c26 H
     rw [eqT c26]
     refine qI ?_
     refine qX hT 2 h23 ?_
     exact qC hT 6 _ [] _ h0 (Jj5 (decide (((a0.Pairs.getD 0 Qa.z).Val)>=0)) H)
    replace H:=iF c26 H
    rw [eqF c26]
    exact Zr hT 9 _ [] _ h0 (Jj5 false H)
   replace H:=iF c22 H
   refine Qab (hP▸mixed) 26 [1] (sm [.d (Qan a0),.b false,.b false,.Ql [],.Ql [],.Ql [],.Ql [],.Ql [],.Ql [],.Ql [],.Ql [],.Ql [],.Ql [],.Ql [],.b false,.b false,.Ql [],.Ql [],.Ql [],.Ql [],.Ql [],.Ql [],.Ql [],.Ql [],.Ql [],.Ql []]) (Qd (Qd (Qd (Qd (Qd (Qd (Qd (Qd (Qd (Qd (Qd (Qd (Qd (Qd (Qd (Qd (Qd (Qd (Qd (Qd (Qd (Qd (Qd (Qd (opS (Qd op0 hT) (fun R rest h=>Zk (Xx:=[.d (Qan a0),.i 2,.i 2]) (dst:=some 67) hP Qj1 (by have q:=Qcq.Qt a0 2 2 h21;rw [boF c22] at q;exact q) (by kernel_rfl) (.cons (Qk _) (.cons (Qk _) (.cons (Qk _) .nil))) (by kernel_rfl) h)) hT) hT) hT) hT) hT) hT) hT) hT) hT) hT) hT) hT) hT) hT) hT) hT) hT) hT) hT) hT) hT) hT) hT) hT) ?_
   exact Zr hT 12 _ [] _ h0 (Jj5 false H)
  replace H:=iF c20 H
  rw [eqF c20]
  refine qI ?_
  obtain rfl:=Yt H
  exact qT hT 7 hf hX h0 [] an (.d (.v _))
 refine Xq hT 18 (K21 11100 4) ⟨102,(Zq.p0++[(3,.ptr 1 0 0 0),(8,.b (a0.Kind != 2))]),[.box 35 (Qak a0),.box 24 [.i 0,.i 0]]⟩ ?_
 by_cases c1:a0.Kind=2
 ·replace H:=iT c1 H
  rw [neF c1]
  refine Xq hT 10 (K21 11100 14) ⟨102,(Zq.p0++[(14,.b false),(18,.b (a0.Kind != 4))]),[.box 35 (Qak a0),.box 24 [.i 0,.i 0]]⟩ ?_
  by_cases c2:a0.Kind=4
  ·replace H:=iT c2 H
   rw [neF c2]
   exact Zr hT 6 _ [0] _ h0 (Yx false H)
  replace H:=iF c2 H
  rw [neT c2]
  exact Zr hT 6 _ [0] _ h0 (Yx (a0.Old != 0) H)
 replace H:=iF c1 H
 rw [neT c1]
 refine Xq hT 6 (K21 11100 10) ⟨102,(Zq.p0++[(14,.b (!((a0.Over.Lo == 0) && (a0.Over.Hi == 0))))]),[.box 35 (Qak a0),.box 24 [.i 0,.i 0]]⟩ ?_
 by_cases c3:a0.Over.Lo=0
 ·replace H:=iT c3 H
  rw [eqT c3]
  by_cases c4:a0.Over.Hi=0
  ·replace H:=iT c4 H
   rw [eqT c4]
   refine Xq hT 4 (K21 11100 14) ⟨102,(Zq.p0++[(14,.b false),(18,.b (a0.Kind != 4))]),[.box 35 (Qak a0),.box 24 [.i 0,.i 0]]⟩ ?_
   by_cases c5:a0.Kind=4
   ·replace H:=iT c5 H
    rw [neF c5]
    exact Zr hT 6 _ [0] _ h0 (Yx false H)
   replace H:=iF c5 H
   rw [neT c5]
   exact Zr hT 6 _ [0] _ h0 (Yx (a0.Old != 0) H)
  replace H:=iF c4 H
  rw [eqF c4]
  exact Zr hT 10 _ [0] _ h0 (Yx true H)
 replace H:=iF c3 H
 rw [eqF c3]
 by_cases c6:a0.Over.Hi=0
 ·replace H:=iT c6 H
  rw [eqT c6]
  exact Zr hT 10 _ [0] _ h0 (Yx true H)
 replace H:=iF c6 H
 rw [eqF c6]
 exact Zr hT 10 _ [0] _ h0 (Yx true H)
theorem Qbi.Qt (a0:Qp) {r:Bool} (H:Qbi a0=some r):Xt Tryz.prog 6 [] [.d (Qan a0)] [] (.b r):=by
 refine Wx Tryz.func6 rfl (nt:=25) rfl (lb rfl) fun X hP h0 hX=>?_
 have hT:Qw X.P T:=hP▸tok
 have hf:X.P.funcs[6]? = some Tryz.f6:=hP▸Tryz.func6
 have Yx:∀ (Qcu:Bool),(Qbi.j1 Qcu)=some r->AK X 6 ((K6 11 1)) (Ym X [] (.b r)) ⟨25,[(2,.b Qcu)],[]⟩:=by
  intro Qcu H
  obtain rfl:=Yt H
  exact Qd9 hf hX h0 (.b Qcu) [] an (.d (.v _))
 refine qI ?_
 rcases iB H with ⟨c1,H⟩ | ⟨c1,H⟩
 ·refine qB hT 11 (decide_eq_true c1) ?_
  rcases iB H with ⟨c2,H⟩ | ⟨c2,H⟩
  ·refine qB hT 5 (decide_eq_true c2) ?_
   refine qE hT 5 (K6 110 14) ⟨25,[(1,.ptr 0 0 0 0),(16,.b (decide (a0.Seq>=1)))],[.box 35 (Qak a0)]⟩ ?_
   refine qI ?_
   rcases iB H with ⟨c3,H⟩ | ⟨c3,H⟩
   ·refine qB hT 0 (decide_eq_true c3) ?_
    rcases iB H with ⟨c4,H⟩ | ⟨c4,H⟩
    ·refine qB hT 5 (decide_eq_true c4) ?_
     refine qE hT 1 (K6 110 20) ⟨25,[(21,.b true),(22,.d (Qan a0))],[.box 35 (Qak a0)]⟩ ?_
     obtain ⟨v1,h5,H⟩:=ibC H
     refine qI ?_
     refine qF hT 0 hP Wf1 (Zq.Qt a0 h5) ?_
     exact qC hT 3 _ [] _ h0 (Yx v1 H)
    refine qB hT 5 (decide_eq_false c4) ?_
    exact qC hT 5 _ [] _ h0 (Yx false H)
   refine qB hT 0 (decide_eq_false c3) ?_
   exact qC hT 10 _ [] _ h0 (Yx false H)
  refine qB hT 5 (decide_eq_false c2) ?_
  exact qC hT 15 _ [] _ h0 (Yx false H)
 refine qB hT 11 (decide_eq_false c1) ?_
 exact qC hT 20 _ [] _ h0 (Yx false H)
theorem Qg4.Qt (a0:Qb):Xt Tryz.prog 102 [] [.d (Qgk a0)] [] (.b (Qg4 a0)):=by
 obtain ⟨r,H⟩:∃ r,Qg4 a0=r:=⟨_,rfl⟩
 rw [H]
 refine Wx Tryz.func102 rfl (nt:=6) rfl (lb rfl) fun X hP h0 hX=>?_
 have hT:Qw X.P T:=hP▸tok
 have hf:X.P.funcs[102]? = some Tryz.f102:=hP▸Tryz.func102
 refine qI ?_
 refine qF hT 8 hP Qhl (Qbk.Qt a0) ?_
 obtain rfl:=H
 exact qT hT 3 hf hX h0 [] an (.d (.v _))
theorem Yq.Qt (a0:Qb) (a1:Qb):Xt Tryz.prog 105 [] [.d (Qgk a0),.d (Qgk a1)] [] (.i (Yq a0 a1)):=by
 obtain ⟨r,H⟩:∃ r,Yq a0 a1=r:=⟨_,rfl⟩
 rw [H]
 refine Wx Tryz.func105 rfl (nt:=10) rfl (lb rfl) fun X hP h0 hX=>?_
 have hT:Qw X.P T:=hP▸tok
 have hf:X.P.funcs[105]? = some Tryz.f105:=hP▸Tryz.func105
 refine qI ?_
 refine qF hT 12 hP Qhm (Yr.Qt a0.Lo a1.Lo) ?_
 obtain rfl:=H
 exact qT hT 2 hf hX h0 [] an (.d (.v _))
theorem Qet.Qt (a0:List Qb):Xt Tryz.prog 106 [] [.d (Yp true a0)] [] (.Ql [.d (Yp true ((Qet a0).1)),.i ((Qet a0).2)]):=by
 obtain ⟨r,H⟩:∃ r,Qet a0=r:=⟨_,rfl⟩
 rw [H]
 refine Wx Tryz.func106 rfl (nt:=8) rfl (lb rfl) fun X hP h0 hX=>?_
 have hT:Qw X.P T:=hP▸tok
 have hf:X.P.funcs[106]? = some Tryz.f106:=hP▸Tryz.func106
 refine qI ?_
 rcases iB H with ⟨c1,H⟩ | ⟨c1,H⟩
 ·refine qB hT 12 (decide_eq_true c1) ?_
  refine qE hT 6 (Wpx 11010 1) ⟨8,[(2,.ns),(3,.i 2)],[]⟩ ?_
  refine Qe4 (av:=.d (.v (.slice none 0 0))) (y:=Yp true ([]:List Qb)) [2,3] 2 (st':=⟨8,[(2,.d (Yp true ([]:List Qb))),(3,.i 2)],[]⟩) (by kernel_rfl) (.nil _) (by kernel_rfl) ?_
  obtain rfl:=H
  exact Qd9 hf hX h0 (.Ql [.d (Yp true ([]:List Qb)),.i 2]) [] an (.Ql (.cons (.d (.sl fun _ _=>Qb.nl _)) (.cons (.d (.v _)) .nil)))
 refine qB hT 12 (decide_eq_false c1) ?_
 obtain rfl:=H
 exact qT hT 8 hf hX h0 [] an (.Ql (.cons (.d (.sl fun _ _=>Qb.nl _)) (.cons (.d (.v _)) .nil)))
abbrev Qz.q1 (Qm:List Qb) (a0:List Qb) (Xy:Int):=(Qm.set ((IntKind.wrap .i64 ((Qm.length:Int) - 1)).toNat) (⟨(Qm.getD ((IntKind.wrap .i64 ((Qm.length:Int) - 1)).toNat) Qb.z).Lo,Qb6 ((Qm.getD ((IntKind.wrap .i64 ((Qm.length:Int) - 1)).toNat) Qb.z).Hi) (((Ja Qb.z Yq a0).getD Xy.toNat Qb.z).Hi)⟩:Qb))
abbrev Qz.q2 (a0:List Qb) (Xy:Int):=((Ja Qb.z Yq a0).getD Xy.toNat Qb.z)
abbrev Qz.q3 (Qm:List Qb):=(IntKind.wrap .i64 ((Qm.length:Int) - 1))
abbrev Qz.q4 (a0:List Qb):=((Ja Qb.z Yq a0).length:Int)
abbrev Qz.q5 (a0:List Qb):=((Ja Qb.z Yq a0).length)
abbrev Qz.q6 (Qm:List Qb):=((Qm.getD ((Qz.q3 Qm).toNat) Qb.z).Hi)
abbrev Qz.q7 (Qm:List Qb) (a0:List Qb) (Xy:Int):List Row:=[Je Qm,.box 24 (Qjt (Qz.q2 a0 Xy)),Je (Ja Qb.z Yq a0)]
theorem Qz.Qt (a0:List Qb) {r:(List Qb) × Int} (H:Qz a0=some r):Xt Tryz.prog 61 [] [.d (Yp true a0)] [] (.Ql [.d (Yp true r.1),.i r.2]):=by
 refine Wx Tryz.func61 rfl (nt:=56) rfl (lb rfl) fun X hP h0 hX=>?_
 have hT:Qw X.P T:=hP▸tok
 have hf:X.P.funcs[61]? = some Tryz.f61:=hP▸Tryz.func61
 refine qI ?_
 obtain ⟨v1,h1,H⟩:=ibC H
 refine qF hT 9 hP Qt1 (Qbo.Qt (t0:=true) (ff1:=102) (cc1:=[]) a0 (fun z0=>some (Qg4 z0)) Wcn (fun z0 r h=>by obtain rfl:=Yt h;exact Qg4.Qt z0) h1) ?_
 rcases iB H with ⟨c2,H⟩ | ⟨c2,H⟩
 ·refine qB hT 1 (c2) ?_
  refine qE hT 6 (K61 11010 1) ⟨56,[(2,.ns),(3,.i 1)],[]⟩ ?_
  refine Qe4 (av:=.d (.v (.slice none 0 0))) (y:=Yp true ([]:List Qb)) [2,3] 2 (st':=⟨56,[(2,.d (Yp true ([]:List Qb))),(3,.i 1)],[]⟩) (by kernel_rfl) (.nil _) (by kernel_rfl) ?_
  obtain rfl:=Yt H
  exact Qd9 hf hX h0 (.Ql [.d (Yp true ([]:List Qb)),.i 1]) [] an (.Ql (.cons (.d (.sl fun _ _=>Qb.nl _)) (.cons (.d (.v _)) .nil)))
 refine qB hT 1 (boF c2) ?_
 refine qE hT 5 (K61 1110 1) ⟨56,[(11,.d (Yp true a0))],[]⟩ ?_
 refine Zd (Xx:=[.d (Yp true a0)]) (dst:=some 12) (k':=(K61 1110 2)) [12] [] hP Wcp (Wir a0) (by kernel_rfl) (Qao _) (.cons (Qk _) .nil) (st':=⟨56,[(12,.fn 145 [.ptr 0 0 0 0])],[.box 68 [.d (Yp true a0)]]⟩) (by kernel_rfl) ?_
 obtain ⟨h3,H⟩:=iC H
 refine Zd (Xx:=[.fn 145 [.ptr 0 0 0 0],.d (.fn 105 [])]) (dst:=some 13) (k':=(K61 1110 3)) [13] [] hP Wco (Qxc (tg:=true) Wcq Yq Qkl (fun x y=>Yq.Qt x y) a0 h3) (by kernel_rfl) (Qao _) (.cons (.fn 145 (.cons (.look (ty:=68) (cs:=[Yp true a0]) (by kernel_rfl) rfl) .nil)) (.cons (Qk _) .nil)) (st':=⟨56,[(13,.own 1 2 0 (Qz.q5 a0))],[.box 68 [.d (Yp true a0)],Je (Ja Qb.z Yq a0)]⟩) (by kernel_rfl) ?_
 refine Xq hT 15 (K61 11111010 0) ⟨56,[(5,.ns),(14,.own 1 2 0 (Qz.q5 a0)),(15,.i (Qz.q4 a0)),(16,.i 0)],[.box 68 [.d (Yp true a0)],Je (Ja Qb.z Yq a0)]⟩ ?_
 refine Qd1 [5,14,15,16] 5 2 24 (vec Qb.e Qb.z []) (st':=⟨56,[(5,.own 2 2 0 0),(14,.own 1 2 0 (Qz.q5 a0)),(15,.i (Qz.q4 a0)),(16,.i 0)],[.box 68 [.d (Yp true a0)],Je (Ja Qb.z Yq a0),Je ([]:List Qb)]⟩) (by kernel_rfl) (by kernel_rfl) ?_
 have L:∀ n,(∀ (Xy:Int) (Qm:List Qb),iter (Qz.step a0) n (.l1 Xy Qm)=some r->AK X 61 ((K61 11111010 0)) (Ym X [] (.Ql [.d (Yp true r.1),.i r.2])) ⟨56,[(5,.own 0 2 0 Qm.length),(14,.own 1 2 0 (Qz.q5 a0)),(15,.i (Qz.q4 a0)),(16,.i Xy)],[Je Qm,Je (Ja Qb.z Yq a0)]⟩):=by
  intro n
  induction n with
  | zero=>exact fun _ _ H=>Qbh H
  | succ n ih=>
   ·intro Xy Qm H
    refine qI ?_
    rcases sB H with ⟨c4,H⟩ | ⟨c4,H⟩
    ·refine qB hT 5 (decide_eq_true c4) ?_
     refine qE hT 6 (K61 11111010011000 0) ⟨56,[(5,.own 0 2 0 Qm.length),(14,.own 1 2 0 (Qz.q5 a0)),(15,.i (Qz.q4 a0)),(16,.i Xy)],[Je Qm,Je (Ja Qb.z Yq a0)]⟩ ?_
     obtain ⟨h6,H⟩:=sC H
     have Yx:∀ (Qi5:Bool),Jq (Qz.j1 a0 Xy Qm Qi5) (iter (Qz.step a0) n)=some r->AK X 61 ((K61 1111101001100101 1)) (Ym X [] (.Ql [.d (Yp true r.1),.i r.2])) ⟨56,[(5,.own 0 2 0 Qm.length),(7,.ptr 1 0 0 0),(8,.i (Qz.q3 Qm)),(14,.own 2 2 0 (Qz.q5 a0)),(15,.i (Qz.q4 a0)),(16,.i Xy),(34,.b Qi5)],(Qz.q7 Qm a0 Xy)⟩:=by
      intro Qi5 H
      by_cases c9:Qi5=true
      ·replace H:=sT c9 H
       rw [c9]
       refine Xq hT 2 (K61 111110100110010110 0) ⟨56,[(5,.own 0 2 0 Qm.length),(7,.ptr 1 0 0 0),(8,.i (Qz.q3 Qm)),(14,.own 2 2 0 (Qz.q5 a0)),(15,.i (Qz.q4 a0)),(16,.i Xy)],(Qz.q7 Qm a0 Xy)⟩ ?_
       obtain ⟨h10,H⟩:=sC H
       refine Qab (hP▸mixed) 10 [5,7,8,14,15,16] (sm [.own 0 2 0 Qm.length,.i (Qz.q3 Qm),.own 0 2 0 Qm.length,.i (Qz.q3 Qm),.ptr 0 2 ((Qz.q3 Qm).toNat) 0,.ptr 0 2 ((Qz.q3 Qm).toNat) 1,.i (Qz.q6 Qm),.ptr 1 0 0 1,.i ((Qz.q2 a0 Xy).Hi),.i (Qb6 (Qz.q6 Qm) ((Qz.q2 a0 Xy).Hi))]) (Qd (Qd (Qd (opS (Qd (opS (Qd (Qd (Qd (Qd op0 hT) hT) hT) hT) (fun R rest h=>Qba hT (i:=IntKind.wrap .i64 ((Qm.length:Int) - 1)) (n:=(Qm.length:Int)) h10.1 h10.2 (by kernel_rfl) h)) hT) (fun R rest h=>Qf8 hT (i:=(Qz.q3 Qm).toNat) (n:=Qm.length) (ltN h10.1 h10.2) (by kernel_rfl) h)) hT) hT) hT) ?_
       refine qI ?_
       refine qX hT 0 h10 ?_
       refine qE hT 1 (K61 1111101001100101100 12) ⟨56,[(5,.own 0 2 0 Qm.length),(14,.own 2 2 0 (Qz.q5 a0)),(15,.i (Qz.q4 a0)),(16,.i Xy),(44,.i (Qb6 (Qz.q6 Qm) ((Qz.q2 a0 Xy).Hi))),(46,.ptr 0 2 ((Qz.q3 Qm).toNat) 1)],(Qz.q7 Qm a0 Xy)⟩ ?_
       refine Qnc (id:=0) (kk:=2) (i:=((Qz.q3 Qm).toNat)) (off:=1) (s:=1) (n:=Qm.length) (ty:=24) (ds:=[.i (Qb6 (Qz.q6 Qm) ((Qz.q2 a0 Xy).Hi))]) (g:=vec Qb.e Qb.z Qm) (k':=(K61 1111101001100101100 13)) hT [5,14,15,16] (vec Qb.e Qb.z (Qz.q1 Qm a0 Xy)) (by kernel_rfl) (by kernel_rfl) (ltN h10.1 h10.2) ((Qi1 (ltN h10.1 h10.2)).trans (by kernel_rfl)) Qfx (st':=⟨56,[(5,.own 0 2 0 (Qm.length)),(14,.own 2 2 0 (Qz.q5 a0)),(15,.i (Qz.q4 a0)),(16,.i Xy)],[.flat false 2 24 Qm.length (vec Qb.e Qb.z (Qz.q1 Qm a0 Xy)),.box 24 (Qjt (Qz.q2 a0 Xy)),.flat false 2 24 (Ja Qb.z Yq a0).length (vec Qb.e Qb.z (Ja Qb.z Yq a0))]⟩) (by kernel_rfl) ?_
       refine Qiw (show Qm.length=(Qz.q1 Qm a0 Xy).length from (List.length_set ..).symm) (fun nn=>⟨56,[(5,.own 0 2 0 (nn)),(14,.own 2 2 0 (Qz.q5 a0)),(15,.i (Qz.q4 a0)),(16,.i Xy)],[.flat false 2 24 nn (vec Qb.e Qb.z (Qz.q1 Qm a0 Xy)),.box 24 (Qjt (Qz.q2 a0 Xy)),.flat false 2 24 (Ja Qb.z Yq a0).length (vec Qb.e Qb.z (Ja Qb.z Yq a0))]⟩) ?_
       exact Zr hT 7 _ [0,2] _ h0 (ih (IntKind.wrap .i64 (Xy+1)) (Qz.q1 Qm a0 Xy) H)
      replace H:=sF c9 H
      rw [boF c9]
      refine Xq hT 6 (K61 111110100110011 3) ⟨56,[(14,.own 2 2 0 (Qz.q5 a0)),(15,.i (Qz.q4 a0)),(16,.i Xy),(47,.own 0 2 0 Qm.length),(49,.own 3 2 0 1)],[Je Qm,.box 24 (Qjt (Qz.q2 a0 Xy)),Je (Ja Qb.z Yq a0),.flat false 2 24 1 (fun j=>[Qb.e (Qz.q2 a0 Xy)].getD j [])]⟩ ?_
      obtain ⟨h11,H⟩:=sC H
      refine Qeq (id:=0) (kk:=2) (by':=16) (t:=68) (e:=24) (z:=[.int .i64 0,.int .i64 0]) (dst:=some 50) (id2:=3) (e2:=24) (fz:=false) (k':=(K61 111110100110011 4)) hT Qb.e Qb.z Qm (Qz.q2 a0 Xy) [14,15,16,50] (by kernel_rfl) (by kernel_rfl) (by kernel_rfl) (by kernel_rfl) (by kernel_rfl) (by kernel_rfl) (by kernel_rfl) h11 (by omega) (st':=⟨56,[(14,.own 2 2 0 (Qz.q5 a0)),(15,.i (Qz.q4 a0)),(16,.i Xy),(50,.own 4 2 0 ((Qm ++ [(Qz.q2 a0 Xy)]).length))],[.gone,.box 24 (Qjt (Qz.q2 a0 Xy)),Je (Ja Qb.z Yq a0),.flat false 2 24 1 (fun j=>[Qb.e (Qz.q2 a0 Xy)].getD j []),Je (Qm ++ [(Qz.q2 a0 Xy)])]⟩) (by kernel_rfl) ?_
      exact Zr hT 8 _ [4,2] _ h0 (ih (IntKind.wrap .i64 (Xy+1)) (Qm ++ [(Qz.q2 a0 Xy)]) H)
     refine Qh2 hT [5,14,15,16,18] (i:=Xy) (n:=(Qz.q4 a0)) h6.1 h6.2 (k':=(K61 11111010011000 1)) (st':=⟨56,[(5,.own 0 2 0 Qm.length),(14,.own 1 2 0 (Qz.q5 a0)),(15,.i (Qz.q4 a0)),(16,.i Xy),(18,.ptr 1 2 Xy.toNat 0)],[Je Qm,Je (Ja Qb.z Yq a0)]⟩) (by kernel_rfl) ?_
     refine Qjl hT [5,14,15,16,19] (i:=Xy.toNat) (n:=(Ja Qb.z Yq a0).length) (ltN h6.1 h6.2) (k':=(K61 11111010011000 2)) (st':=⟨56,[(5,.own 0 2 0 Qm.length),(14,.own 1 2 0 (Qz.q5 a0)),(15,.i (Qz.q4 a0)),(16,.i Xy),(19,.d (Qgk (Qz.q2 a0 Xy)))],[Je Qm,Je (Ja Qb.z Yq a0)]⟩) (by kernel_rfl) ?_
     refine Xq hT 12 (K61 1111101001100101 0) ⟨56,[(5,.own 0 2 0 Qm.length),(7,.ptr 2 0 0 0),(8,.i (Qz.q3 Qm)),(14,.own 1 2 0 (Qz.q5 a0)),(15,.i (Qz.q4 a0)),(16,.i Xy)],[Je Qm,Je (Ja Qb.z Yq a0),.box 24 (Qjt (Qz.q2 a0 Xy))]⟩ ?_
     by_cases c7:(Qz.q3 Qm)>=0
     ·replace H:=sT c7 H
      obtain ⟨h8,H⟩:=sC H
      refine Qab (hP▸mixed) 12 [5,7,8,14,15,16] (sm [.i (Qz.q3 Qm),.b true,.b true,.ptr 2 0 0 0,.i ((Qz.q2 a0 Xy).Lo),.own 0 2 0 Qm.length,.i (Qz.q3 Qm),.ptr 0 2 ((Qz.q3 Qm).toNat) 0,.ptr 0 2 ((Qz.q3 Qm).toNat) 1,.i (Qz.q6 Qm),.b (decide (((Qz.q2 a0 Xy).Lo)<=(Qz.q6 Qm))),.b (decide (((Qz.q2 a0 Xy).Lo)<=(Qz.q6 Qm)))]) (Qd (Qd (opS (Qd (opS (Qd (Qd (Qd (Qd (Qd (opV (Qd op0 hT) hT 24 (.b (decide ((Qz.q3 Qm)>=0))) (.b true) (by rw [decide_eq_true c7]<;>rfl)) hT) hT) hT) hT) hT) (fun R rest h=>Qba hT (i:=IntKind.wrap .i64 ((Qm.length:Int) - 1)) (n:=(Qm.length:Int)) h8.1 h8.2 (by kernel_rfl) h)) hT) (fun R rest h=>Qf8 hT (i:=(Qz.q3 Qm).toNat) (n:=Qm.length) (ltN h8.1 h8.2) (by kernel_rfl) h)) hT) hT) ?_
      exact Zr hT 1 _ [0,2,1] _ h0 (Yx (decide (((Qz.q2 a0 Xy).Lo)<=(Qz.q6 Qm))) H)
     replace H:=sF c7 H
     refine Qab (hP▸mixed) 12 [5,7,8,14,15,16] (sm [.i (Qz.q3 Qm),.b false,.b false,.Ql [],.Ql [],.Ql [],.Ql [],.Ql [],.Ql [],.Ql [],.Ql [],.b false]) (Qd (Qd (Qd (Qd (Qd (Qd (Qd (Qd (Qd (Qd (opV (Qd op0 hT) hT 24 (.b (decide ((Qz.q3 Qm)>=0))) (.b false) (by rw [decide_eq_false c7]<;>rfl)) hT) hT) hT) hT) hT) hT) hT) hT) hT) hT) ?_
     exact Zr hT 1 _ [0,2,1] _ h0 (Yx false H)
    refine qB hT 5 (decide_eq_false c4) ?_
    refine qE hT 5 (K61 1111110 1) ⟨56,[(52,.own 0 2 0 Qm.length)],[Je Qm,Je (Ja Qb.z Yq a0)]⟩ ?_
    refine Qcb 0 (kk:=2) (n:=Qm.length) (ty:=24) (g:=vec Qb.e Qb.z Qm) (by kernel_rfl) (st':=⟨56,[(52,.own 0 2 0 Qm.length)],[Qfm Qm,Je (Ja Qb.z Yq a0)]⟩) (by kernel_rfl) ?_
    refine Zd (Xx:=[.own 0 2 0 Qm.length]) (dst:=some 53) (k':=(K61 1111110 2)) [53] [] hP Wcr (Qet.Qt Qm) (by kernel_rfl) (Qao _) (.cons (.Qcr (ty:=24) (by kernel_rfl) rfl) .nil) (st':=⟨56,[(53,.Ql [.d (Yp true ((Qet Qm).1)),.i ((Qet Qm).2)])],[Qfm Qm,Je (Ja Qb.z Yq a0)]⟩) (by kernel_rfl) ?_
    obtain ⟨v2,h5,H⟩:=sdC H
    rw [<- h5]
    refine qI ?_
    obtain rfl:=Yt H
    exact qT hT 5 hf hX h0 [] an (.Ql (.cons (.d (.sl fun _ _=>Qb.nl _)) (.cons (.d (.v _)) .nil)))
 refine Qik [2,1] ⟨56,[(5,.own 0 2 0 ([]:List Qb).length),(14,.own 1 2 0 (Qz.q5 a0)),(15,.i (Qz.q4 a0)),(16,.i 0)],[Je ([]:List Qb),Je (Ja Qb.z Yq a0)]⟩ h0 ?_
 obtain ⟨n,H⟩:=Qbw H
 exact (L n) 0 ([]:List Qb) H
abbrev Qaj.q1 (a0:Qp) (Qdr:Int):=(⟨(a0.Pairs.getD Qdr.toNat Qa.z).Key,IntKind.wrap .i64 (((a0.Pairs.getD Qdr.toNat Qa.z).Key)+1)⟩:Qb)
theorem Qaj.Qt (a0:Qp) {r:List Qb} (H:Qaj a0=some r):Xt Tryz.prog 23 [] [.d (Qan a0)] [] (.d (Yp true r)):=by
 refine Wx Tryz.func23 rfl (nt:=40) rfl (lb rfl) fun X hP h0 hX=>?_
 have hT:Qw X.P T:=hP▸tok
 have hf:X.P.funcs[23]? = some Tryz.f23:=hP▸Tryz.func23
 refine qI ?_
 obtain ⟨v1,h1,H⟩:=ibC H
 refine qF hT 9 hP Qg0 (Qbi.Qt a0 h1) ?_
 rcases iB H with ⟨c2,H⟩ | ⟨c2,H⟩
 ·refine qB hT 2 (show (!v1)=false by rw [c2];rfl) ?_
  refine qE hT 9 (K23 1110 1) ⟨40,[(1,.ptr 0 0 0 0),(13,.b (a0.Kind == 2))],[.box 35 (Qak a0)]⟩ ?_
  by_cases c3:a0.Kind=2
  ·replace H:=iT c3 H
   rw [eqT c3]
   refine Xq hT 8 (K23 111010 1) ⟨40,[(2,.own 1 2 0 1)],[.box 35 (Qak a0),.flat false 2 24 1 (fun j=>[Qb.e a0.Over].getD j [])]⟩ ?_
   refine Qgp 1 (kk:=2) (fz:=false) (ty:=24) (n:=([a0.Over]:List Qb).length) (vec Qb.e Qb.z ([a0.Over]:List Qb)) (by kernel_rfl) Qhh (st':=⟨40,[(2,.own 1 2 0 (([a0.Over]:List Qb).length))],[.box 35 (Qak a0),Je ([a0.Over]:List Qb)]⟩) (by kernel_rfl) ?_
   refine Qcb 1 (kk:=2) (n:=([a0.Over]:List Qb).length) (ty:=24) (g:=vec Qb.e Qb.z ([a0.Over]:List Qb)) (by kernel_rfl) (st':=⟨40,[(2,.own 1 2 0 (([a0.Over]:List Qb).length))],[.box 35 (Qak a0),Qfm ([a0.Over]:List Qb)]⟩) (by kernel_rfl) ?_
   refine Qe4 (av:=.own 1 2 0 1) (y:=Yp true ([a0.Over]:List Qb)) [2] 2 (st':=⟨40,[(2,.d (Yp true ([a0.Over]:List Qb)))],[.box 35 (Qak a0),Qfm ([a0.Over]:List Qb)]⟩) (by kernel_rfl) (.own (ty:=24) (k:=2) (by kernel_rfl)) (by kernel_rfl) ?_
   obtain rfl:=Yt H
   exact Qd9 hf hX h0 (.d (Yp true ([a0.Over]:List Qb))) [] an (.d (.sl fun _ _=>Qb.nl _))
  replace H:=iF c3 H
  rw [eqF c3]
  refine Xq hT 16 (K23 11111010 0) ⟨40,[(3,.ns),(18,.d (We true a0.Pairs)),(19,.i (a0.Pairs.length:Int)),(20,.i 0)],[.box 35 (Qak a0)]⟩ ?_
  refine Qd1 [3,18,19,20] 3 2 24 (vec Qb.e Qb.z []) (st':=⟨40,[(3,.own 1 2 0 0),(18,.d (We true a0.Pairs)),(19,.i (a0.Pairs.length:Int)),(20,.i 0)],[.box 35 (Qak a0),Je ([]:List Qb)]⟩) (by kernel_rfl) (by kernel_rfl) ?_
  have L:∀ n,(∀ (Qdr:Int) (Qm:List Qb),iter (Qaj.step a0) n (.l1 Qdr Qm)=some r->AK X 23 ((K23 11111010 0)) (Ym X [] (.d (Yp true r))) ⟨40,[(3,.own 0 2 0 Qm.length),(18,.d (We true a0.Pairs)),(19,.i (a0.Pairs.length:Int)),(20,.i Qdr)],[Je Qm]⟩):=by
   intro n
   induction n with
   | zero=>exact fun _ _ H=>Qbh H
   | succ n ih=>
    ·intro Qdr Qm H
     refine qI ?_
     rcases sB H with ⟨c4,H⟩ | ⟨c4,H⟩
     ·refine qB hT 5 (decide_eq_true c4) ?_
      obtain ⟨h6,H⟩:=sC H
      refine qX hT 6 h6 ?_
      refine qE hT 13 (K23 11111010011001 8) ⟨40,[(18,.d (We true a0.Pairs)),(19,.i (a0.Pairs.length:Int)),(20,.i Qdr),(24,.own 0 2 0 Qm.length),(31,.own 2 2 0 1)],[Je Qm,.box 97 (Qe1 (a0.Pairs.getD Qdr.toNat Qa.z)),.flat false 2 24 1 (fun j=>[[.i ((a0.Pairs.getD Qdr.toNat Qa.z).Key),.i (IntKind.wrap .i64 (((a0.Pairs.getD Qdr.toNat Qa.z).Key)+1))]].getD j [])]⟩ ?_
      obtain ⟨h7,H⟩:=sC H
      refine Qeq (id:=0) (kk:=2) (by':=16) (t:=68) (e:=24) (z:=[.int .i64 0,.int .i64 0]) (dst:=some 32) (id2:=2) (e2:=24) (fz:=false) (k':=(K23 11111010011001 9)) hT Qb.e Qb.z Qm (Qaj.q1 a0 Qdr) [18,19,20,32] (by kernel_rfl) (by kernel_rfl) (by kernel_rfl) (by kernel_rfl) (by kernel_rfl) (by kernel_rfl) (by kernel_rfl) h7 (by omega) (st':=⟨40,[(18,.d (We true a0.Pairs)),(19,.i (a0.Pairs.length:Int)),(20,.i Qdr),(32,.own 3 2 0 ((Qm ++ [(Qaj.q1 a0 Qdr)]).length))],[.gone,.box 97 (Qe1 (a0.Pairs.getD Qdr.toNat Qa.z)),.flat false 2 24 1 (fun j=>[[.i ((a0.Pairs.getD Qdr.toNat Qa.z).Key),.i (IntKind.wrap .i64 (((a0.Pairs.getD Qdr.toNat Qa.z).Key)+1))]].getD j []),Je (Qm ++ [(Qaj.q1 a0 Qdr)])]⟩) (by kernel_rfl) ?_
      exact Zr hT 8 _ [3] _ h0 (ih (IntKind.wrap .i64 (Qdr+1)) (Qm ++ [(Qaj.q1 a0 Qdr)]) H)
     refine qB hT 5 (decide_eq_false c4) ?_
     refine qE hT 5 (K23 1111110 1) ⟨40,[(35,.own 0 2 0 Qm.length)],[Je Qm]⟩ ?_
     refine Qcb 0 (kk:=2) (n:=Qm.length) (ty:=24) (g:=vec Qb.e Qb.z Qm) (by kernel_rfl) (st':=⟨40,[(35,.own 0 2 0 Qm.length)],[Qfm Qm]⟩) (by kernel_rfl) ?_
     obtain ⟨v2,h5,H⟩:=sbC H
     refine qI ?_
     refine qF hT 0 hP Wgd (Qz.Qt Qm h5) ?_
     obtain rfl:=Yt H
     exact qT hT 11 hf hX h0 [] an (.d (.sl fun _ _=>Qb.nl _))
  refine Qik [1] ⟨40,[(3,.own 0 2 0 ([]:List Qb).length),(18,.d (We true a0.Pairs)),(19,.i (a0.Pairs.length:Int)),(20,.i 0)],[Je ([]:List Qb)]⟩ h0 ?_
  obtain ⟨n,H⟩:=Qbw H
  exact (L n) 0 ([]:List Qb) H
 refine qB hT 2 (show (!v1)=true by rw [boF c2];rfl) ?_
 refine qE hT 5 (K23 11010 1) ⟨40,[(2,.ns)],[.box 35 (Qak a0)]⟩ ?_
 refine Qe4 (av:=.d (.v (.slice none 0 0))) (y:=Yp true ([]:List Qb)) [2] 2 (st':=⟨40,[(2,.d (Yp true ([]:List Qb)))],[.box 35 (Qak a0)]⟩) (by kernel_rfl) (.nil _) (by kernel_rfl) ?_
 obtain rfl:=Yt H
 exact Qd9 hf hX h0 (.d (Yp true ([]:List Qb))) [] an (.d (.sl fun _ _=>Qb.nl _))
theorem Qaa.Qt {t0:Bool} {t1:Bool} (a0:List Qb) (a1:List Qb) {r:List Qb} (H:Qaa a0 a1=some r):Xt Tryz.prog 100 [] [.d (Yp t0 a0),.d (Yp t1 a1)] [Je r] (.own 0 2 0 r.length):=by
 refine Wx Tryz.func100 rfl (nt:=46) rfl (lb rfl) fun X hP h0 hX=>?_
 have hT:Qw X.P T:=hP▸tok
 have hf:X.P.funcs[100]? = some Tryz.f100:=hP▸Tryz.func100
 refine Xq hT 17 (Qsx 111010 0) ⟨46,[(1,.d (Yp t1 a1)),(5,.ns),(11,.d (Yp t0 a0)),(12,.i (a0.length:Int)),(13,.i 0)],[]⟩ ?_
 refine Qd1 [1,5,11,12,13] 5 2 24 (vec Qb.e Qb.z []) (st':=⟨46,[(1,.d (Yp t1 a1)),(5,.own 0 2 0 0),(11,.d (Yp t0 a0)),(12,.i (a0.length:Int)),(13,.i 0)],[Je ([]:List Qb)]⟩) (by kernel_rfl) (by kernel_rfl) ?_
 have L:∀ n,(∀ (Qg8:Int) (Qm:List Qb),iter (Qaa.step a0 a1) n (.l1 Qg8 Qm)=some r->AK X 100 ((Qsx 111010 0)) (Ym X [Je r] (.own 0 2 0 r.length)) ⟨46,[(1,.d (Yp t1 a1)),(5,.own 0 2 0 Qm.length),(11,.d (Yp t0 a0)),(12,.i (a0.length:Int)),(13,.i Qg8)],[Je Qm]⟩)/\(∀ (Qfy:Int) (Qby:Int) (Qa2:List Qb) (Qcg:Int) (Qch:Int),iter (Qaa.step a0 a1) n (.l2 Qfy Qby Qa2 Qcg Qch)=some r->AK X 100 ((Qsx 11101001100110 0)) (Ym X [Je r] (.own 0 2 0 r.length)) ⟨46,[(1,.d (Yp t1 a1)),(5,.own 0 2 0 Qa2.length),(7,.ptr 1 0 0 0),(11,.d (Yp t0 a0)),(12,.i (a0.length:Int)),(13,.i Qfy),(17,.d (Yp t1 a1)),(18,.i (a1.length:Int)),(19,.i Qby)],[Je Qa2,.box 24 [.i Qcg,.i Qch]]⟩):=by
  intro n
  induction n with
  | zero=>exact ⟨fun _ _ H=>Qbh H,fun _ _ _ _ _ H=>Qbh H⟩
  | succ n ih=>
   refine ⟨?_, ?_⟩
   ·intro Qg8 Qm H
    refine qI ?_
    rcases sB H with ⟨c1,H⟩ | ⟨c1,H⟩
    ·refine qB hT 5 (decide_eq_true c1) ?_
     obtain ⟨h2,H⟩:=sC H
     refine qX hT 6 h2 ?_
     exact qC hT 12 _ [0,1] _ h0 (ih.2 Qg8 0 Qm ((a0.getD Qg8.toNat Qb.z).Lo) ((a0.getD Qg8.toNat Qb.z).Hi) H)
    refine qB hT 5 (decide_eq_false c1) ?_
    obtain rfl:=Yt H
    exact qT hT 7 hf hX h0 [0] (ac (Xa Qb.nl) an) (.own _ _ _ _)
   intro Qfy Qby Qa2 Qcg Qch H
   refine qI ?_
   rcases sB H with ⟨c3,H⟩ | ⟨c3,H⟩
   ·refine qB hT 5 (decide_eq_true c3) ?_
    obtain ⟨h4,H⟩:=sC H
    have Yx:∀ (Qh1:List Qb),Jq (Qaa.j1 Qfy Qby Qcg Qch Qh1) (iter (Qaa.step a0 a1) n)=some r->AK X 100 ((Qsx 11101001100110011 1)) (Ym X [Je r] (.own 0 2 0 r.length)) ⟨46,[(1,.d (Yp t1 a1)),(5,.own 0 2 0 Qh1.length),(7,.ptr 1 0 0 0),(11,.d (Yp t0 a0)),(12,.i (a0.length:Int)),(13,.i Qfy),(17,.d (Yp t1 a1)),(18,.i (a1.length:Int)),(19,.i Qby)],[Je Qh1,.box 24 [.i Qcg,.i Qch]]⟩:=by
     intro Qh1 H
     exact Xq hT 5 _ _ (ih.2 Qfy (IntKind.wrap .i64 (Qby+1)) Qh1 Qcg Qch H)
    refine qX hT 6 h4 ?_
    refine qE hT 28 (Qsx 111010011001100110011 1) ⟨46,[(1,.d (Yp t1 a1)),(5,.own 0 2 0 Qa2.length),(7,.ptr 1 0 0 0),(10,.ptr 3 0 0 0),(11,.d (Yp t0 a0)),(12,.i (a0.length:Int)),(13,.i Qfy),(17,.d (Yp t1 a1)),(18,.i (a1.length:Int)),(19,.i Qby),(38,.b (decide ((Qb6 Qcg ((a1.getD Qby.toNat Qb.z).Lo)) < (Qhd Qch ((a1.getD Qby.toNat Qb.z).Hi)))))],[Je Qa2,.box 24 [.i Qcg,.i Qch],.box 24 (Qjt (a1.getD Qby.toNat Qb.z)),.box 24 [.i (Qb6 Qcg ((a1.getD Qby.toNat Qb.z).Lo)),.i (Qhd Qch ((a1.getD Qby.toNat Qb.z).Hi))]]⟩ ?_
    refine qI ?_
    rcases sB H with ⟨c5,H⟩ | ⟨c5,H⟩
    ·refine qB hT 0 (decide_eq_true c5) ?_
     refine qE hT 5 (Qsx 11101001100110011001110 3) ⟨46,[(1,.d (Yp t1 a1)),(7,.ptr 1 0 0 0),(11,.d (Yp t0 a0)),(12,.i (a0.length:Int)),(13,.i Qfy),(17,.d (Yp t1 a1)),(18,.i (a1.length:Int)),(19,.i Qby),(39,.own 0 2 0 Qa2.length),(41,.own 4 2 0 1)],[Je Qa2,.box 24 [.i Qcg,.i Qch],.box 24 (Qjt (a1.getD Qby.toNat Qb.z)),.box 24 [.i (Qb6 Qcg ((a1.getD Qby.toNat Qb.z).Lo)),.i (Qhd Qch ((a1.getD Qby.toNat Qb.z).Hi))],.flat false 2 24 1 (fun j=>[[.i (Qb6 Qcg ((a1.getD Qby.toNat Qb.z).Lo)),.i (Qhd Qch ((a1.getD Qby.toNat Qb.z).Hi))]].getD j [])]⟩ ?_
     obtain ⟨h6,H⟩:=sC H
     refine Qeq (id:=0) (kk:=2) (by':=16) (t:=68) (e:=24) (z:=[.int .i64 0,.int .i64 0]) (dst:=some 42) (id2:=4) (e2:=24) (fz:=false) (k':=(Qsx 11101001100110011001110 4)) hT Qb.e Qb.z Qa2 (⟨Qb6 Qcg ((a1.getD Qby.toNat Qb.z).Lo),Qhd Qch ((a1.getD Qby.toNat Qb.z).Hi)⟩:Qb) [1,7,11,12,13,17,18,19,42] (by kernel_rfl) (by kernel_rfl) (by kernel_rfl) (by kernel_rfl) (by kernel_rfl) (by kernel_rfl) (by kernel_rfl) h6 (by omega) (st':=⟨46,[(1,.d (Yp t1 a1)),(7,.ptr 1 0 0 0),(11,.d (Yp t0 a0)),(12,.i (a0.length:Int)),(13,.i Qfy),(17,.d (Yp t1 a1)),(18,.i (a1.length:Int)),(19,.i Qby),(42,.own 5 2 0 ((Qa2 ++ [(⟨Qb6 Qcg ((a1.getD Qby.toNat Qb.z).Lo),Qhd Qch ((a1.getD Qby.toNat Qb.z).Hi)⟩:Qb)]).length))],[.gone,.box 24 [.i Qcg,.i Qch],.box 24 (Qjt (a1.getD Qby.toNat Qb.z)),.box 24 [.i (Qb6 Qcg ((a1.getD Qby.toNat Qb.z).Lo)),.i (Qhd Qch ((a1.getD Qby.toNat Qb.z).Hi))],.flat false 2 24 1 (fun j=>[[.i (Qb6 Qcg ((a1.getD Qby.toNat Qb.z).Lo)),.i (Qhd Qch ((a1.getD Qby.toNat Qb.z).Hi))]].getD j []),Je (Qa2 ++ [(⟨Qb6 Qcg ((a1.getD Qby.toNat Qb.z).Lo),Qhd Qch ((a1.getD Qby.toNat Qb.z).Hi)⟩:Qb)])]⟩) (by kernel_rfl) ?_
     exact Zr hT 3 _ [5,1] _ h0 (Yx (Qa2 ++ [(⟨Qb6 Qcg ((a1.getD Qby.toNat Qb.z).Lo),Qhd Qch ((a1.getD Qby.toNat Qb.z).Hi)⟩:Qb)]) H)
    refine qB hT 0 (decide_eq_false c5) ?_
    exact qC hT 3 _ [0,1] _ h0 (Yx Qa2 H)
   refine qB hT 5 (decide_eq_false c3) ?_
   exact qC hT 8 _ [0] _ h0 (ih.1 (IntKind.wrap .i64 (Qfy+1)) Qa2 H)
 refine Qik [0] ⟨46,[(1,.d (Yp t1 a1)),(5,.own 0 2 0 ([]:List Qb).length),(11,.d (Yp t0 a0)),(12,.i (a0.length:Int)),(13,.i 0)],[Je ([]:List Qb)]⟩ h0 ?_
 obtain ⟨n,H⟩:=Qbw H
 exact (L n).1 0 ([]:List Qb) H
theorem Qc0.Qt {t0:Bool} {t1:Bool} (a0:List Qb) (a1:List Qb) {r:Bool} (H:Qc0 a0 a1=some r):Xt Tryz.prog 60 [] [.d (Yp t0 a0),.d (Yp t1 a1)] [] (.b r):=by
 refine Wx Tryz.func60 rfl (nt:=18) rfl (lb rfl) fun X hP h0 hX=>?_
 have hT:Qw X.P T:=hP▸tok
 have hf:X.P.funcs[60]? = some Tryz.f60:=hP▸Tryz.func60
 refine qI ?_
 obtain ⟨v1,h1,H⟩:=ibC H
 have Yx:∀ (Qhj:Bool),(Qc0.j1 Qhj)=some r->AK X 60 ((K60 11 1)) (Ym X [] (.b r)) ⟨18,[(4,.b Qhj)],[]⟩:=by
  intro Qhj H
  obtain rfl:=Yt H
  exact Qd9 hf hX h0 (.b Qhj) [] an (.d (.v _))
 refine qF hT 7 hP Qnh (Jf.Qt (t0:=t0) a0 h1) ?_
 rcases iB H with ⟨c2,H⟩ | ⟨c2,H⟩
 ·refine qB hT 1 (c2) ?_
  refine qE hT 1 (K60 110 4) ⟨18,[(0,.d (Yp t0 a0)),(1,.d (Yp t1 a1)),(7,.b true),(8,.d (Yp t1 a1))],[]⟩ ?_
  obtain ⟨v2,h3,H⟩:=ibC H
  refine qI ?_
  refine qF hT 0 hP Qnh (Jf.Qt (t0:=t1) a1 h3) ?_
  rcases iB H with ⟨c4,H⟩ | ⟨c4,H⟩
  ·refine qB hT 2 (c4) ?_
   refine qE hT 2 (K60 110 9) ⟨18,[(11,.b true),(12,.d (Yp t0 a0)),(13,.d (Yp t1 a1))],[]⟩ ?_
   obtain ⟨v3,h5,H⟩:=ibC H
   refine qI ?_
   refine qF hT 0 hP Wcm (Qaa.Qt (t0:=t0) (t1:=t1) a0 a1 h5) ?_
   exact qC hT 5 _ [] _ h0 (Yx (decide ((v3.length:Int) > 0)) H)
  refine qB hT 2 (boF c4) ?_
  exact qE hT 8 _ _ (Yx false H)
 refine qB hT 1 (boF c2) ?_
 exact qE hT 12 _ _ (Yx false H)
theorem Qg9.Qt (a0:Qc) (a1:Qp) {r:Bool} (H:Qg9 a0 a1=some r):Xt Tryz.prog 115 [] [.d (Qcc a0),.d (Qan a1)] [] (.b r):=by
 refine Wx Tryz.func115 rfl (nt:=10) rfl (lb rfl) fun X hP h0 hX=>?_
 have hT:Qw X.P T:=hP▸tok
 have hf:X.P.funcs[115]? = some Tryz.f115:=hP▸Tryz.func115
 refine Xq hT 7 (Qu3 11 0) ⟨10,[(2,.ptr 0 0 0 0),(3,.ptr 1 0 0 0)],[.box 30 (Jo a0),.box 35 (Qak a1)]⟩ ?_
 obtain ⟨v1,h1,H⟩:=ibC H
 refine Qab (hP▸mixed) 3 [2,3] (sm [.d (Qan a1),.d (Yp true v1),.d (Qcc a0)]) (Qd (opS (Qd op0 hT) (fun R rest h=>Zk (Xx:=[.d (Qan a1)]) (dst:=some 6) hP Qnf (Qaj.Qt a1 h1) (by kernel_rfl) (.cons (Qk _) .nil) (by kernel_rfl) h)) hT) ?_
 refine Xq hT 0 (Qu3 110 3) ⟨10,[(6,.d (Yp true v1)),(7,.d (Qcc a0))],[.box 30 (Jo a0),.box 35 (Qak a1)]⟩ ?_
 refine Zd (Xx:=[.d (Qcc a0)]) (dst:=some 8) (k':=(Qu3 110 4)) [6,8] [] hP Qf0 (Zx.Qt a0) (by kernel_rfl) (Qao _) (.cons (Qk _) .nil) (st':=⟨10,[(6,.d (Yp true v1)),(8,.own 2 2 0 ((Zx a0).length))],[.box 30 (Jo a0),.box 35 (Qak a1),Je (Zx a0)]⟩) (by kernel_rfl) ?_
 obtain ⟨v2,h2,H⟩:=idC H
 rw [<- h2]
 obtain ⟨v3,h3,H⟩:=ibC H
 refine qI ?_
 refine qF hT 0 hP Qqf (Qc0.Qt (t0:=true) (t1:=false) v1 v2 h3) ?_
 obtain rfl:=Yt H
 exact qT hT 2 hf hX h0 [] an (.d (.v _))
theorem Qu.Qt {t0:Bool} {ff2:FuncId} {cc2:List DV} (a0:List Qg) (a1:Qg) (p2:Qg->Qg->Option Int) (he2:Sy.Enters Tryz.prog ff2) (hp2:∀ (z0:Qg) (z1:Qg) r,p2 z0 z1=some r->Xt Tryz.prog ff2 [] ([.d (Qfs z0),.d (Qfs z1)] ++ List.map AV.d cc2) [] (.i r)) {r:Int × Bool} (H:Qu a0 a1 p2=some r):Xt Tryz.prog 120 [] [.d (Zy t0 a0),.d (Qfs a1),.d (.fn ff2 cc2)] [] (.Ql [.i r.1,.b r.2]):=by
 refine Wx Tryz.func120 rfl (nt:=49) rfl (lb rfl) fun X hP h0 hX=>?_
 have hT:Qw X.P T:=hP▸tok
 have hf:X.P.funcs[120]? = some Tryz.f120:=hP▸Tryz.func120
 refine Xq hT 21 (Qsy 111100 0) ⟨49,[(0,.d (Zy t0 a0)),(2,.d (.fn ff2 cc2)),(4,.ptr 0 0 0 0),(8,.i (a0.length:Int)),(9,.i 0),(10,.i (a0.length:Int))],[.box 131 (Qfr a1)]⟩ ?_
 have L:∀ n,(∀ (Zo:Int) (Wq:Int),iter (Qu.step a0 a1 p2) n (.l1 Zo Wq)=some r->AK X 120 ((Qsy 111100 0)) (Ym X [] (.Ql [.i r.1,.b r.2])) ⟨49,[(0,.d (Zy t0 a0)),(2,.d (.fn ff2 cc2)),(4,.ptr 0 0 0 0),(8,.i (a0.length:Int)),(9,.i Zo),(10,.i Wq)],[.box 131 (Qfr a1)]⟩):=by
  intro n
  induction n with
  | zero=>exact fun _ _ H=>Qbh H
  | succ n ih=>
   ·intro Zo Wq H
    refine Xq hT 7 (Qsy 11110000 1) ⟨49,[(0,.d (Zy t0 a0)),(2,.d (.fn ff2 cc2)),(4,.ptr 0 0 0 0),(8,.i (a0.length:Int)),(9,.i Zo),(10,.i Wq),(17,.b (decide (Zo < Wq)))],[.box 131 (Qfr a1)]⟩ ?_
    by_cases c1:Zo < Wq
    ·replace H:=sT c1 H
     rw [decide_eq_true c1]
     refine Xq hT 12 (Qsy 1111000100 7) ⟨49,[(0,.d (Zy t0 a0)),(2,.d (.fn ff2 cc2)),(4,.ptr 0 0 0 0),(8,.i (a0.length:Int)),(9,.i Zo),(10,.i Wq),(11,.i (IntKind.wrap .i64 (Int.fdiv (IntKind.wrap .u64 (IntKind.wrap .i64 (Zo+Wq))) 2)))],[.box 131 (Qfr a1)]⟩ ?_
     obtain ⟨v2,h5,H⟩:=sdC H
     rw [<- h5]
     refine Xq hT 2 (Qsy 1111000101 0) ⟨49,[(0,.d (Zy t0 a0)),(2,.d (.fn ff2 cc2)),(4,.ptr 0 0 0 0),(8,.i (a0.length:Int)),(9,.i Zo),(10,.i Wq),(11,.i v2)],[.box 131 (Qfr a1)]⟩ ?_
     obtain ⟨h6,H⟩:=sC H
     obtain ⟨v3,h7,H⟩:=sbC H
     refine Qab (hP▸mixed) 8 [0,2,4,8,9,10,11] (sm [.d (.fn ff2 cc2),.d (Zy t0 a0),.i v2,.d (Qlz t0 a0 v2.toNat 0),.d (Qfs (a0.getD v2.toNat Qg.z)),.d (Qfs a1),.i v3,.b (decide (v3 < 0))]) (Qd (opS (Qd (Qd (opS (Qd (Qd (Qd op0 hT) hT) hT) (fun R rest h=>Qba hT (i:=v2) (n:=(a0.length:Int)) h6.1 h6.2 (by kernel_rfl) h)) hT) hT) (fun R rest h=>Zk (Xx:=[.d (Qfs (a0.getD v2.toNat Qg.z)),.d (Qfs a1)] ++ List.map AV.d cc2) (dst:=some 30) hP he2 (hp2 (a0.getD v2.toNat Qg.z) a1 v3 h7) (by kernel_rfl) (.cons (Qk _) (.cons (Qk _) (Qfn _))) (by kernel_rfl) h)) hT) ?_
     refine qI ?_
     rcases sB H with ⟨c8,H⟩ | ⟨c8,H⟩
     ·refine qB hT 1 (decide_eq_true c8) ?_
      exact qE hT 8 _ _ (ih (IntKind.wrap .i64 (v2+1)) Wq H)
     refine qB hT 1 (decide_eq_false c8) ?_
     exact qE hT 7 _ _ (ih Zo v2 H)
    replace H:=sF c1 H
    have Yx:∀ (Qk6:Bool),Jq (Qu.j1 Zo Qk6) (iter (Qu.step a0 a1 p2) n)=some r->AK X 120 ((Qsy 11111 1)) (Ym X [] (.Ql [.i r.1,.b r.2])) ⟨49,[(6,.i Zo),(7,.b Qk6)],[]⟩:=by
     intro Qk6 H
     obtain rfl:=Yt H
     exact Qd9 hf hX h0 (.Ql [.i Zo,.b Qk6]) [] an (.Ql (.cons (.d (.v _)) (.cons (.d (.v _)) .nil)))
    rw [decide_eq_false c1]
    refine Xq hT 3 (Qsy 11111 0) ⟨49,[(0,.d (Zy t0 a0)),(2,.d (.fn ff2 cc2)),(4,.ptr 0 0 0 0),(8,.i (a0.length:Int)),(9,.i Zo)],[.box 131 (Qfr a1)]⟩ ?_
    by_cases c2:Zo < (a0.length:Int)
    ·replace H:=sT c2 H
     obtain ⟨h3,H⟩:=sC H
     obtain ⟨v1,h4,H⟩:=sbC H
     refine Qab (hP▸mixed) 15 [0,2,4,8,9] (sm [.i Zo,.i Zo,.i (a0.length:Int),.b true,.b true,.d (.fn ff2 cc2),.d (Zy t0 a0),.i Zo,.d (Qlz t0 a0 Zo.toNat 0),.d (Qfs (a0.getD Zo.toNat Qg.z)),.d (Qfs a1),.i v1,.b (v1 == 0),.b (v1 == 0),.i Zo]) (Qd (Qd (Qd (opS (Qd (Qd (opS (Qd (Qd (Qd (Qd (opV (Qd (Qd (Qd op0 hT) hT) hT) hT 38 (.b (decide (Zo < (a0.length:Int)))) (.b true) (by rw [decide_eq_true c2]<;>rfl)) hT) hT) hT) hT) (fun R rest h=>Qba hT (i:=Zo) (n:=(a0.length:Int)) h3.1 h3.2 (by kernel_rfl) h)) hT) hT) (fun R rest h=>Zk (Xx:=[.d (Qfs (a0.getD Zo.toNat Qg.z)),.d (Qfs a1)] ++ List.map AV.d cc2) (dst:=some 46) hP he2 (hp2 (a0.getD Zo.toNat Qg.z) a1 v1 h4) (by kernel_rfl) (.cons (Qk _) (.cons (Qk _) (Qfn _))) (by kernel_rfl) h)) hT) hT) hT) ?_
     exact Zr hT 2 _ [] _ h0 (Yx (v1 == 0) H)
    replace H:=sF c2 H
    refine Qab (hP▸mixed) 15 [0,2,4,8,9] (sm [.i Zo,.i Zo,.i (a0.length:Int),.b false,.b false,.Ql [],.Ql [],.Ql [],.Ql [],.Ql [],.Ql [],.Ql [],.Ql [],.b false,.i Zo]) (Qd (Qd (Qd (Qd (Qd (Qd (Qd (Qd (Qd (Qd (Qd (opV (Qd (Qd (Qd op0 hT) hT) hT) hT 38 (.b (decide (Zo < (a0.length:Int)))) (.b false) (by rw [decide_eq_false c2]<;>rfl)) hT) hT) hT) hT) hT) hT) hT) hT) hT) hT) hT) ?_
    exact Zr hT 2 _ [] _ h0 (Yx false H)
 obtain ⟨n,H⟩:=Qbw H
 exact (L n) 0 (a0.length:Int) H
theorem Qhk.Qt (a0:Qc) (a1:Int) (a2:Int) {r:Int × Bool} (H:Qhk a0 a1 a2=some r):Xt Tryz.prog 70 [] [.d (Qcc a0),.i a1,.i a2] [] (.Ql [.i r.1,.b r.2]):=by
 refine Wx Tryz.func70 rfl (nt:=16) rfl (lb rfl) fun X hP h0 hX=>?_
 have hT:Qw X.P T:=hP▸tok
 have hf:X.P.funcs[70]? = some Tryz.f70:=hP▸Tryz.func70
 refine qI ?_
 obtain ⟨v1,h1,H⟩:=ibC H
 refine qF hT 13 hP Qo3 (Qu.Qt (t0:=true) (ff2:=114) (cc2:=[]) a0.Known (⟨a1,a2,0,false⟩:Qg) (fun z0 z1=>Qcp z0 z1) Ql0 (fun z0 z1 r h=>Qcp.Qt z0 z1 h) h1) ?_
 obtain rfl:=Yt H
 exact qT hT 5 hf hX h0 [] an (.Ql (.cons (.d (.v _)) (.cons (.d (.v _)) .nil)))
theorem Qdf.Qt (a0:Int) (a1:Qp):Xt Tryz.prog 117 [] [.i a0,.d (Qan a1)] [] (.d (Qgg (Qdf a0 a1))):=by
 obtain ⟨r,H⟩:∃ r,Qdf a0 a1=r:=⟨_,rfl⟩
 rw [H]
 refine Wx Tryz.func117 rfl (nt:=11) rfl (lb rfl) fun X hP h0 hX=>?_
 have hT:Qw X.P T:=hP▸tok
 have hf:X.P.funcs[117]? = some Tryz.f117:=hP▸Tryz.func117
 refine Xq hT 15 (Wpy 11 1) ⟨11,[(4,.ptr 1 0 0 0)],[.box 35 (Qak a1),.box 190 [.i a0,.i a1.Client,.i a1.Seq]]⟩ ?_
 obtain rfl:=H
 exact Qh4 hT hf hX (av:=.d (.agg [.i a0,.i a1.Client,.i a1.Seq])) (by kernel_rfl) [] (Qal (by kernel_rfl)) (by decide) (by rw [h0];rfl) (by kernel_rfl) an (.d (.agg (Qbu.nl _)))
abbrev Qc6.q1 (a0:Qbu) (a1:Qbu):=([Yr a0.Time a1.Time,Yr a0.Client a1.Client,Yr a0.Seq a1.Seq]:List Int)
theorem Qc6.Qt (a0:Qbu) (a1:Qbu) {r:Int} (H:Qc6 a0 a1=some r):Xt Tryz.prog 116 [] [.d (Qgg a0),.d (Qgg a1)] [] (.i r):=by
 refine Wx Tryz.func116 rfl (nt:=22) rfl (lb rfl) fun X hP h0 hX=>?_
 have hT:Qw X.P T:=hP▸tok
 have hf:X.P.funcs[116]? = some Tryz.f116:=hP▸Tryz.func116
 refine Xq hT 7 (Wni 11 0) ⟨22,[(2,.ptr 0 0 0 0),(3,.ptr 1 0 0 0)],[.box 190 (Qox a0),.box 190 (Qox a1)]⟩ ?_
 refine Qab (hP▸mixed) 14 [2,3] (sm [.ptr 0 0 0 0,.i a0.Time,.ptr 1 0 0 0,.i a1.Time,.i (Yr a0.Time a1.Time),.ptr 0 0 0 1,.i a0.Client,.ptr 1 0 0 1,.i a1.Client,.i (Yr a0.Client a1.Client),.ptr 0 0 0 2,.i a0.Seq,.ptr 1 0 0 2,.i a1.Seq]) (Qd (Qd (Qd (Qd (opS (Qd (Qd (Qd (Qd (opS (Qd (Qd (Qd (Qd op0 hT) hT) hT) hT) (fun R rest h=>Zk (Xx:=[.i a0.Time,.i a1.Time]) (dst:=some 9) hP Qhm (Yr.Qt a0.Time a1.Time) (by kernel_rfl) (.cons (Qk _) (.cons (Qk _) .nil)) (by kernel_rfl) h)) hT) hT) hT) hT) (fun R rest h=>Zk (Xx:=[.i a0.Client,.i a1.Client]) (dst:=some 14) hP Qhm (Yr.Qt a0.Client a1.Client) (by kernel_rfl) (.cons (Qk _) (.cons (Qk _) .nil)) (by kernel_rfl) h)) hT) hT) hT) hT) ?_
 refine qI ?_
 refine qF hT 0 hP Qhm (Yr.Qt a0.Seq a1.Seq) ?_
 refine qE hT 1 (Wni 110 16) ⟨22,[(20,.own 2 1 0 3)],[.box 190 (Qox a0),.box 190 (Qox a1),.flat false 1 3 3 (fun j=>[[.i (Yr a0.Time a1.Time)],[.i (Yr a0.Client a1.Client)],[.i (Yr a0.Seq a1.Seq)]].getD j [])]⟩ ?_
 refine Qgp 2 (kk:=1) (fz:=false) (ty:=3) (n:=(Qc6.q1 a0 a1).length) (vec (eI .i64) 0 (Qc6.q1 a0 a1)) (by kernel_rfl) Qhh (st':=⟨22,[(20,.own 2 1 0 ((Qc6.q1 a0 a1).length))],[.box 190 (Qox a0),.box 190 (Qox a1),eR3 (Qc6.q1 a0 a1)]⟩) (by kernel_rfl) ?_
 obtain ⟨v1,h1,H⟩:=ibC H
 refine qI ?_
 refine qF hT 0 hP Qt9 (Qam.Qt (t0:=false) (Qc6.q1 a0 a1) h1) ?_
 obtain rfl:=Yt H
 exact qT hT 2 hf hX h0 [] an (.d (.v _))
abbrev Wv.q1 (a0:Qc) (Wq:Int):List Row:=[.box 30 (Jo a0),.box 141 (Qe9 (a0.Log.getD Wq.toNat Qe.z))]
abbrev Wv.q2 (a0:Qc) (Wq:Int):=(a0.Log.getD Wq.toNat Qe.z)
abbrev Wv.q3 (a0:Qc) (Wq:Int):=(a0.Log.getD ((IntKind.wrap .i64 (Wq - 1)).toNat) Qe.z)
abbrev Wv.p0 (a0:Qc):List (Nat × AV):=[(1,.ptr 0 0 0 0),(8,.d (Zl true a0.Log)),(9,.i (a0.Log.length:Int))]
theorem Wv.Qt (a0:Qc) {r:Bool} (H:Wv a0=some r):Xt Tryz.prog 67 [] [.d (Qcc a0)] [] (.b r):=by
 refine Wx Tryz.func67 rfl (nt:=103) rfl (lb rfl) fun X hP h0 hX=>?_
 have hT:Qw X.P T:=hP▸tok
 have hf:X.P.funcs[67]? = some Tryz.f67:=hP▸Tryz.func67
 refine Xq hT 15 (K67 11010 0) ⟨103,(Wv.p0 a0++[(10,.i 0)]),[.box 30 (Jo a0)]⟩ ?_
 have L:∀ n,(∀ (Wq:Int),iter (Wv.step a0) n (.l1 Wq)=some r->AK X 67 ((K67 11010 0)) (Ym X [] (.b r)) ⟨103,(Wv.p0 a0++[(10,.i Wq)]),[.box 30 (Jo a0)]⟩):=by
  intro n
  induction n with
  | zero=>exact fun _ H=>Qbh H
  | succ n ih=>
   ·intro Wq H
    refine qI ?_
    rcases sB H with ⟨c1,H⟩ | ⟨c1,H⟩
    ·refine qB hT 5 (decide_eq_true c1) ?_
     obtain ⟨h2,H⟩:=sC H
     refine qX hT 7 h2 ?_
     refine qE hT 10 (K67 1101001100100 2) ⟨103,[(1,.ptr 0 0 0 0),(3,.i Wq),(4,.ptr 1 0 0 0),(8,.d (Zl true a0.Log)),(9,.i (a0.Log.length:Int)),(10,.i Wq),(16,.d (Qan ((Wv.q2 a0 Wq).M)))],(Wv.q1 a0 Wq)⟩ ?_
     obtain ⟨v1,h3,H⟩:=sbC H
     have Yx:∀ (Qr9:Bool),Jq (Wv.j1 a0 Wq Qr9) (iter (Wv.step a0) n)=some r->AK X 67 ((K67 110100110010 1)) (Ym X [] (.b r)) ⟨103,[(1,.ptr 0 0 0 0),(3,.i Wq),(4,.ptr 1 0 0 0),(8,.d (Zl true a0.Log)),(9,.i (a0.Log.length:Int)),(10,.i Wq),(33,.b Qr9)],(Wv.q1 a0 Wq)⟩:=by
      intro Qr9 H
      by_cases c7:Qr9=true
      ·replace H:=sT c7 H
       cases (show (none:Option _)=some _ from H)
      replace H:=sF c7 H
      have Jj2:∀ (Qfi:Bool),Jq (Wv.j2 a0 Wq Qfi) (iter (Wv.step a0) n)=some r->AK X 67 ((K67 1101001100110 1)) (Ym X [] (.b r)) ⟨103,[(1,.ptr 0 0 0 0),(4,.ptr 1 0 0 0),(8,.d (Zl true a0.Log)),(9,.i (a0.Log.length:Int)),(10,.i Wq),(59,.b Qfi)],(Wv.q1 a0 Wq)⟩:=by
       intro Qfi H
       by_cases c11:Qfi=true
       ·replace H:=sT c11 H
        cases (show (none:Option _)=some _ from H)
       replace H:=sF c11 H
       rw [boF c11]
       refine qI ?_
       obtain ⟨v4,h12,H⟩:=sbC H
       have Jj3:∀ (Qsj:Bool),Jq (Wv.j3 Wq Qsj) (iter (Wv.step a0) n)=some r->AK X 67 ((K67 11010011001111 1)) (Ym X [] (.b r)) ⟨103,(Wv.p0 a0++[(10,.i Wq),(94,.b Qsj)]),[.box 30 (Jo a0)]⟩:=by
        intro Qsj H
        by_cases c16:Qsj=true
        ·replace H:=sT c16 H
         cases (show (none:Option _)=some _ from H)
        replace H:=sF c16 H
        rw [boF c16]
        exact Xq hT 8 _ _ (ih (IntKind.wrap .i64 (Wq+1)) H)
       refine qF hT 11 hP Qlm (Qhk.Qt a0 (((Wv.q2 a0 Wq).M).Client) (((Wv.q2 a0 Wq).M).Seq) h12) ?_
       refine qE hT 7 (K67 11010011001111 0) ⟨103,[(1,.ptr 0 0 0 0),(4,.ptr 1 0 0 0),(5,.i v4.1),(6,.b v4.2),(8,.d (Zl true a0.Log)),(9,.i (a0.Log.length:Int)),(10,.i Wq)],(Wv.q1 a0 Wq)⟩ ?_
       by_cases c13:v4.2=true
       ·replace H:=sT c13 H
        obtain ⟨h14,H⟩:=sC H
        by_cases c15:((a0.Known.getD v4.1.toNat Qg.z).Time)=((Wv.q2 a0 Wq).Time)
        ·replace H:=sT c15 H
         refine Qab (hP▸mixed) 24 [1,4,5,6,8,9,10] (sm [.b true,.b false,.b false,.ptr 0 0 0 9,.d (Zy true a0.Known),.i v4.1,.d (Qlz true a0.Known v4.1.toNat 0),.d (Qlz true a0.Known v4.1.toNat 2),.i ((a0.Known.getD v4.1.toNat Qg.z).Time),.ptr 1 0 0 7,.i ((Wv.q2 a0 Wq).Time),.b false,.b false,.b false,.ptr 0 0 0 9,.d (Zy true a0.Known),.i v4.1,.d (Qlz true a0.Known v4.1.toNat 0),.d (Qlz true a0.Known v4.1.toNat 3),.b ((a0.Known.getD v4.1.toNat Qg.z).Qa3),.ptr 1 0 0 8,.b ((Wv.q2 a0 Wq).Qa3),.b (!(((a0.Known.getD v4.1.toNat Qg.z).Qa3) == ((Wv.q2 a0 Wq).Qa3))),.b (!(((a0.Known.getD v4.1.toNat Qg.z).Qa3) == ((Wv.q2 a0 Wq).Qa3)))]) (Qd (Qd (Qd (Qd (Qd (Qd (opS (Qd (Qd (Qd (Qd (Qd (opV (Qd (Qd (Qd (Qd (opS (Qd (Qd (Qd (Qd (Qd (opV op0 hT 71 (.b v4.2) (.b true) (by rw [c13]<;>rfl)) hT) hT) hT) hT) hT) (fun R rest h=>Qba hT (i:=v4.1) (n:=(a0.Known.length:Int)) h14.1 h14.2 (by kernel_rfl) h)) hT) hT) hT) hT) hT 82 (.b (((a0.Known.getD v4.1.toNat Qg.z).Time) != ((Wv.q2 a0 Wq).Time))) (.b false) (by rw [neF c15]<;>rfl)) hT) hT) hT) hT) hT) (fun R rest h=>Qba hT (i:=v4.1) (n:=(a0.Known.length:Int)) h14.1 h14.2 (by kernel_rfl) h)) hT) hT) hT) hT) hT) hT) ?_
         exact Zr hT 1 _ [0] _ h0 (Jj3 (!(((a0.Known.getD v4.1.toNat Qg.z).Qa3) == ((Wv.q2 a0 Wq).Qa3))) H)
        replace H:=sF c15 H
        refine Qab (hP▸mixed) 24 [1,4,5,6,8,9,10] (sm [.b true,.b false,.b false,.ptr 0 0 0 9,.d (Zy true a0.Known),.i v4.1,.d (Qlz true a0.Known v4.1.toNat 0),.d (Qlz true a0.Known v4.1.toNat 2),.i ((a0.Known.getD v4.1.toNat Qg.z).Time),.ptr 1 0 0 7,.i ((Wv.q2 a0 Wq).Time),.b true,.b true,.b true,.Ql [],.Ql [],.Ql [],.Ql [],.Ql [],.Ql [],.Ql [],.Ql [],.Ql [],.b true]) (Qd (Qd (Qd (Qd (Qd (Qd (Qd (Qd (Qd (Qd (Qd (Qd (opV (Qd (Qd (Qd (Qd (opS (Qd (Qd (Qd (Qd (Qd (opV op0 hT 71 (.b v4.2) (.b true) (by rw [c13]<;>rfl)) hT) hT) hT) hT) hT) (fun R rest h=>Qba hT (i:=v4.1) (n:=(a0.Known.length:Int)) h14.1 h14.2 (by kernel_rfl) h)) hT) hT) hT) hT) hT 82 (.b (((a0.Known.getD v4.1.toNat Qg.z).Time) != ((Wv.q2 a0 Wq).Time))) (.b true) (by rw [neT c15]<;>rfl)) hT) hT) hT) hT) hT) hT) hT) hT) hT) hT) hT) hT) ?_
        exact Zr hT 1 _ [0] _ h0 (Jj3 true H)
       replace H:=sF c13 H
       refine Qab (hP▸mixed) 24 [1,4,5,6,8,9,10] (sm [.b false,.b true,.b true,.Ql [],.Ql [],.Ql [],.Ql [],.Ql [],.Ql [],.Ql [],.Ql [],.Ql [],.b true,.b true,.Ql [],.Ql [],.Ql [],.Ql [],.Ql [],.Ql [],.Ql [],.Ql [],.Ql [],.b true]) (Qd (Qd (Qd (Qd (Qd (Qd (Qd (Qd (Qd (Qd (Qd (Qd (Qd (Qd (Qd (Qd (Qd (Qd (Qd (Qd (Qd (Qd (Qd (opV op0 hT 71 (.b v4.2) (.b false) (by rw [boF c13]<;>rfl)) hT) hT) hT) hT) hT) hT) hT) hT) hT) hT) hT) hT) hT) hT) hT) hT) hT) hT) hT) hT) hT) hT) hT) ?_
       exact Zr hT 1 _ [0] _ h0 (Jj3 true H)
      rw [boF c7]
      refine Xq hT 4 (K67 1101001100110 0) ⟨103,[(1,.ptr 0 0 0 0),(3,.i Wq),(4,.ptr 1 0 0 0),(8,.d (Zl true a0.Log)),(9,.i (a0.Log.length:Int)),(10,.i Wq)],(Wv.q1 a0 Wq)⟩ ?_
      by_cases c8:Wq > 0
      ·replace H:=sT c8 H
       obtain ⟨h9,H⟩:=sC H
       obtain ⟨v3,h10,H⟩:=sbC H
       refine Qab (hP▸mixed) 26 [1,3,4,8,9,10] (sm [.i Wq,.b true,.b true,.ptr 0 0 0 8,.d (Zl true a0.Log),.i Wq,.i (IntKind.wrap .i64 (Wq - 1)),.d (Qxj true a0.Log ((IntKind.wrap .i64 (Wq - 1)).toNat) 0),.d (Qxj true a0.Log ((IntKind.wrap .i64 (Wq - 1)).toNat) 7),.i ((Wv.q3 a0 Wq).Time),.ptr 0 0 0 8,.d (Zl true a0.Log),.i Wq,.i (IntKind.wrap .i64 (Wq - 1)),.d (Qxj true a0.Log ((IntKind.wrap .i64 (Wq - 1)).toNat) 0),.d (Qxj true a0.Log ((IntKind.wrap .i64 (Wq - 1)).toNat) 0),.d (Qan ((Wv.q3 a0 Wq).M)),.d (Qgg (Qdf ((Wv.q3 a0 Wq).Time) ((Wv.q3 a0 Wq).M))),.ptr 1 0 0 7,.i ((Wv.q2 a0 Wq).Time),.ptr 1 0 0 0,.d (Qan ((Wv.q2 a0 Wq).M)),.d (Qgg (Qdf ((Wv.q2 a0 Wq).Time) ((Wv.q2 a0 Wq).M))),.i v3,.b (decide (v3>=0)),.b (decide (v3>=0))]) (Qd (Qd (opS (opS (Qd (Qd (Qd (Qd (opS (Qd (Qd (opS (Qd (Qd (Qd (Qd (Qd (Qd (opS (Qd (Qd (Qd (Qd (Qd (opV (Qd op0 hT) hT 35 (.b (decide (Wq > 0))) (.b true) (by rw [decide_eq_true c8]<;>rfl)) hT) hT) hT) hT) hT) (fun R rest h=>Qba hT (i:=IntKind.wrap .i64 (Wq - 1)) (n:=(a0.Log.length:Int)) h9.1 h9.2 (by kernel_rfl) h)) hT) hT) hT) hT) hT) hT) (fun R rest h=>Qba hT (i:=IntKind.wrap .i64 (Wq - 1)) (n:=(a0.Log.length:Int)) h9.1 h9.2 (by kernel_rfl) h)) hT) hT) (fun R rest h=>Zk (Xx:=[.i ((Wv.q3 a0 Wq).Time),.d (Qan ((Wv.q3 a0 Wq).M))]) (dst:=some 51) hP Qo1 (Qdf.Qt ((Wv.q3 a0 Wq).Time) ((Wv.q3 a0 Wq).M)) (by kernel_rfl) (.cons (Qk _) (.cons (Qk _) .nil)) (by kernel_rfl) h)) hT) hT) hT) hT) (fun R rest h=>Zk (Xx:=[.i ((Wv.q2 a0 Wq).Time),.d (Qan ((Wv.q2 a0 Wq).M))]) (dst:=some 56) hP Qo1 (Qdf.Qt ((Wv.q2 a0 Wq).Time) ((Wv.q2 a0 Wq).M)) (by kernel_rfl) (.cons (Qk _) (.cons (Qk _) .nil)) (by kernel_rfl) h)) (fun R rest h=>Zk (Xx:=[.d (Qgg (Qdf ((Wv.q3 a0 Wq).Time) ((Wv.q3 a0 Wq).M))),.d (Qgg (Qdf ((Wv.q2 a0 Wq).Time) ((Wv.q2 a0 Wq).M)))]) (dst:=some 57) hP Qo0 (Qc6.Qt (Qdf ((Wv.q3 a0 Wq).Time) ((Wv.q3 a0 Wq).M)) (Qdf ((Wv.q2 a0 Wq).Time) ((Wv.q2 a0 Wq).M)) h10) (by kernel_rfl) (.cons (Qk _) (.cons (Qk _) .nil)) (by kernel_rfl) h)) hT) hT) ?_
       exact Xq hT 1 _ _ (Jj2 (decide (v3>=0)) H)
      replace H:=sF c8 H
      refine Qab (hP▸mixed) 26 [1,3,4,8,9,10] (sm [.i Wq,.b false,.b false,.Ql [],.Ql [],.Ql [],.Ql [],.Ql [],.Ql [],.Ql [],.Ql [],.Ql [],.Ql [],.Ql [],.Ql [],.Ql [],.Ql [],.Ql [],.Ql [],.Ql [],.Ql [],.Ql [],.Ql [],.Ql [],.Ql [],.b false]) (Qd (Qd (Qd (Qd (Qd (Qd (Qd (Qd (Qd (Qd (Qd (Qd (Qd (Qd (Qd (Qd (Qd (Qd (Qd (Qd (Qd (Qd (Qd (Qd (opV (Qd op0 hT) hT 35 (.b (decide (Wq > 0))) (.b false) (by rw [decide_eq_false c8]<;>rfl)) hT) hT) hT) hT) hT) hT) hT) hT) hT) hT) hT) hT) hT) hT) hT) hT) hT) hT) hT) hT) hT) hT) hT) hT) ?_
      exact Xq hT 1 _ _ (Jj2 false H)
     refine qI ?_
     refine qF hT 0 hP Qg0 (Qbi.Qt ((Wv.q2 a0 Wq).M) h3) ?_
     rcases sB H with ⟨c4,H⟩ | ⟨c4,H⟩
     ·refine qB hT 2 (show (!v1)=false by rw [c4];rfl) ?_
      refine qE hT 3 (K67 1101001100100 8) ⟨103,[(1,.ptr 0 0 0 0),(3,.i Wq),(4,.ptr 1 0 0 0),(8,.d (Zl true a0.Log)),(9,.i (a0.Log.length:Int)),(10,.i Wq),(19,.b false),(20,.d (Qcc a0)),(22,.d (Qan ((Wv.q2 a0 Wq).M)))],(Wv.q1 a0 Wq)⟩ ?_
      obtain ⟨v2,h5,H⟩:=sbC H
      refine qI ?_
      refine qF hT 0 hP Qoz (Qg9.Qt a0 ((Wv.q2 a0 Wq).M) h5) ?_
      rcases sB H with ⟨c6,H⟩ | ⟨c6,H⟩
      ·refine qB hT 3 (show (!v2)=false by rw [c6];rfl) ?_
       refine qE hT 4 (K67 1101001100100 16) ⟨103,[(1,.ptr 0 0 0 0),(3,.i Wq),(4,.ptr 1 0 0 0),(8,.d (Zl true a0.Log)),(9,.i (a0.Log.length:Int)),(10,.i Wq),(26,.b false),(28,.i ((Wv.q2 a0 Wq).Time)),(30,.i a0.Clock)],(Wv.q1 a0 Wq)⟩ ?_
       refine qI ?_
       refine qF hT 0 hP Qek (Qbs.Qt ((Wv.q2 a0 Wq).Time) 0 a0.Clock) ?_
       exact qE hT 3 _ _ (Yx (!(Qbs ((Wv.q2 a0 Wq).Time) 0 a0.Clock)) H)
      refine qB hT 3 (show (!v2)=true by rw [boF c6];rfl) ?_
      exact qE hT 8 _ _ (Yx true H)
     refine qB hT 2 (show (!v1)=true by rw [boF c4];rfl) ?_
     exact qE hT 15 _ _ (Yx true H)
    refine qB hT 5 (decide_eq_false c1) ?_
    obtain rfl:=Yt H
    exact qT hT 13 hf hX h0 [] an (.d (.v _))
 obtain ⟨n,H⟩:=Qbw H
 exact (L n) 0 H
abbrev Qb8.p0 (a0:Qc):List (Nat × AV):=[(1,.ptr 0 0 0 0),(9,.d (Qac true a0.Held)),(10,.i (a0.Held.length:Int)),(11,.i 0)]
theorem Qb8.Qt (a0:Qc) {r:Bool} (H:Qb8 a0=some r):Xt Tryz.prog 68 [] [.d (Qcc a0)] [] (.b r):=by
 refine Wx Tryz.func68 rfl (nt:=85) rfl (lb rfl) fun X hP h0 hX=>?_
 have hT:Qw X.P T:=hP▸tok
 have hf:X.P.funcs[68]? = some Tryz.f68:=hP▸Tryz.func68
 refine Xq hT 15 (K68 11010 0) ⟨85,(Qb8.p0 a0),[.box 30 (Jo a0)]⟩ ?_
 have L:∀ n,(∀ (_:Unit),iter (Qb8.step a0) n (.l1)=some r->AK X 68 ((K68 11010 0)) (Ym X [] (.b r)) ⟨85,(Qb8.p0 a0),[.box 30 (Jo a0)]⟩):=by
  intro n
  induction n with
  | zero=>exact fun _ H=>Qbh H
  | succ n ih=>
   ·intro _ H
    refine Xq hT 5 (K68 1101001 0) ⟨85,(Qb8.p0 a0++[(12,.b (decide (0 < (a0.Held.length:Int))))]),[.box 30 (Jo a0)]⟩ ?_
    by_cases c1:0 < (a0.Held.length:Int)
    ·replace H:=sT c1 H
     cases (show (none:Option _)=some _ from H)
    replace H:=sF c1 H
    rw [decide_eq_false c1]
    refine qI ?_
    obtain rfl:=Yt H
    exact qT hT 6 hf hX h0 [] an (.d (.v _))
 obtain ⟨n,H⟩:=Qbw H
 exact (L n) () H
theorem Jg.Qt (a0:Qc) {r:Bool} (H:Jg a0=some r):Xt Tryz.prog 28 [] [.d (Qcc a0)] [] (.b r):=by
 refine Wx Tryz.func28 rfl (nt:=70) rfl (lb rfl) fun X hP h0 hX=>?_
 have hT:Qw X.P T:=hP▸tok
 have hf:X.P.funcs[28]? = some Tryz.f28:=hP▸Tryz.func28
 have Yx:∀ (Qr8:Bool),(Jg.j1 a0 Qr8)=some r->AK X 28 ((K28 110 1)) (Ym X [] (.b r)) ⟨70,[(1,.ptr 0 0 0 0),(28,.b Qr8)],[.box 30 (Jo a0)]⟩:=by
  intro Qr8 H
  by_cases c4:Qr8=true
  ·replace H:=iT c4 H
   cases (show (none:Option _)=some _ from H)
  replace H:=iF c4 H
  rw [boF c4]
  refine Xq hT 4 (K28 1110 0) ⟨70,[(1,.ptr 0 0 0 0)],[.box 30 (Jo a0)]⟩ ?_
  obtain ⟨v1,h5,H⟩:=ibC H
  have Jj2:∀ (Qfi:Bool),(Jg.j2 a0 Qfi)=some r->AK X 28 ((K28 1110 1)) (Ym X [] (.b r)) ⟨70,[(1,.ptr 0 0 0 0),(59,.b Qfi)],[.box 30 (Jo a0)]⟩:=by
   intro Qfi H
   by_cases c11:Qfi=true
   ·replace H:=iT c11 H
    cases (show (none:Option _)=some _ from H)
   replace H:=iF c11 H
   rw [boF c11]
   refine qI ?_
   obtain ⟨v3,h12,H⟩:=ibC H
   have Jj3:∀ (Qk8:Bool),(Jg.j3 Qk8)=some r->AK X 28 ((K28 1111 1)) (Ym X [] (.b r)) ⟨70,[(2,.b Qk8)],[]⟩:=by
    intro Qk8 H
    obtain rfl:=Yt H
    exact Qd9 hf hX h0 (.b Qk8) [] an (.d (.v _))
   refine qF hT 5 hP Wgg (Xm.Qt a0 h12) ?_
   rcases iB H with ⟨c13,H⟩ | ⟨c13,H⟩
   ·refine qB hT 1 (c13) ?_
    refine qE hT 1 (K28 11110 4) ⟨70,[(1,.ptr 0 0 0 0),(62,.b true),(63,.d (Qcc a0))],[.box 30 (Jo a0)]⟩ ?_
    obtain ⟨v4,h14,H⟩:=ibC H
    refine qI ?_
    refine qF hT 0 hP Wgi (Wv.Qt a0 h14) ?_
    rcases iB H with ⟨c15,H⟩ | ⟨c15,H⟩
    ·refine qB hT 2 (c15) ?_
     refine qE hT 1 (K28 11110 8) ⟨70,[(66,.b true),(67,.d (Qcc a0))],[.box 30 (Jo a0)]⟩ ?_
     obtain ⟨v5,h16,H⟩:=ibC H
     refine qI ?_
     refine qF hT 0 hP Wgj (Qb8.Qt a0 h16) ?_
     exact qC hT 3 _ [] _ h0 (Jj3 v5 H)
    refine qB hT 2 (boF c15) ?_
    exact qC hT 5 _ [] _ h0 (Jj3 false H)
   refine qB hT 1 (boF c13) ?_
   exact qC hT 9 _ [] _ h0 (Jj3 false H)
  by_cases c6:v1=true
  ·replace H:=iT c6 H
   obtain ⟨v2,h7,H⟩:=ibC H
   by_cases c8:(v2.length:Int)=(a0.Base.length:Int)
   ·replace H:=iT c8 H
    by_cases c9:a0.Wn=true
    ·replace H:=iT c9 H
     by_cases c10:a0.Ws=true
     ·replace H:=iT c10 H
      refine Qcz (nt:=70) (hP▸mixed) 31 [8,9] [1] [(1,.ptr 0 0 0 0)] (sm [.ptr 0 0 0 7,.d (We true a0.Base),.b true,.b false,.b false,.ptr 0 0 0 7,.d (We true a0.Base),.d (Qcc a0),.own 1 2 0 ((Zx a0).length),.own 2 2 0 v2.length,.i (v2.length:Int),.ptr 0 0 0 7,.d (We true a0.Base),.i (a0.Base.length:Int),.b false,.b false,.b false,.ptr 0 0 0 5,.b true,.b true,.ptr 0 0 0 4,.b true,.b false,.b false,.ptr 0 0 0 6,.d (Qac true a0.Held),.i (a0.Held.length:Int),.b (decide ((a0.Held.length:Int) > 0)),.b (decide ((a0.Held.length:Int) > 0)),.b (decide ((a0.Held.length:Int) > 0)),.b (decide ((a0.Held.length:Int) > 0))]) [[.box 30 (Jo a0)],[.box 30 (Jo a0),Je (Zx a0)],[.box 30 (Jo a0),Je (Zx a0),Yb v2]] (by kernel_rfl) (by kernel_rfl) (by kernel_rfl) (by kernel_rfl) ⟨?_,(fun R rest h=>Qdb (Xx:=[.d (Qcc a0)]) (dst:=some 37) hP Qf0 (Zx.Qt a0) (by kernel_rfl) (.cons (Qk _) .nil) (by kernel_rfl) h),⟨?_,(fun R rest h=>Qdb (Xx:=[.d (We true a0.Base),.own 1 2 0 ((Zx a0).length)]) (dst:=some 38) hP Qlk (Ji.Qt (t0:=true) (t1:=false) a0.Base (Zx a0) h7) (by kernel_rfl) (.cons (Qk _) (.cons (.Qcr (ty:=24) (by kernel_rfl) rfl) .nil)) (by kernel_rfl) h),?_⟩⟩ ?_
      iterate 3 exact (Wh (Wh (Wh (Wh (Wh (Wh (Wh (Wh (Wh (Qpd (Wh (Wh (Qpd (Wh (Wh (Wh (Qpd (Wh (Wh (Wh (Wh (Qcj (Qcj (Wh (Wh (Wh (Wh (Wh (Qir (Wh (Wh Qer hT) hT) (fun R rest h=>Zk (Xx:=[.d (We true a0.Base)]) (dst:=some 31) hP Qf1 (by have q:=Wz.Qt (t0:=true) a0.Base h5;rw [c6] at q;exact q) (by kernel_rfl) (.cons (Qk _) .nil) (by kernel_rfl) h)) hT) hT) hT) hT) hT))) hT) hT) hT) hT) hT 43 (.b ((v2.length:Int) != (a0.Base.length:Int))) (.b false) (by rw [neF c8]<;>rfl)) hT) hT) hT) hT 47 (.b a0.Wn) (.b true) (by rw [c9]<;>rfl)) hT) hT) hT 50 (.b a0.Ws) (.b true) (by rw [c10]<;>rfl)) hT) hT) hT) hT) hT) hT) hT) hT) hT)
      exact Zr hT 1 _ [0] _ h0 (Jj2 (decide ((a0.Held.length:Int) > 0)) H)
     replace H:=iF c10 H
     refine Qcz (nt:=70) (hP▸mixed) 31 [8,9] [1] [(1,.ptr 0 0 0 0)] (sm [.ptr 0 0 0 7,.d (We true a0.Base),.b true,.b false,.b false,.ptr 0 0 0 7,.d (We true a0.Base),.d (Qcc a0),.own 1 2 0 ((Zx a0).length),.own 2 2 0 v2.length,.i (v2.length:Int),.ptr 0 0 0 7,.d (We true a0.Base),.i (a0.Base.length:Int),.b false,.b false,.b false,.ptr 0 0 0 5,.b true,.b true,.ptr 0 0 0 4,.b false,.b true,.b true,.Ql [],.Ql [],.Ql [],.Ql [],.b true,.b true,.b true]) [[.box 30 (Jo a0)],[.box 30 (Jo a0),Je (Zx a0)],[.box 30 (Jo a0),Je (Zx a0),Yb v2]] (by kernel_rfl) (by kernel_rfl) (by kernel_rfl) (by kernel_rfl) ⟨?_,(fun R rest h=>Qdb (Xx:=[.d (Qcc a0)]) (dst:=some 37) hP Qf0 (Zx.Qt a0) (by kernel_rfl) (.cons (Qk _) .nil) (by kernel_rfl) h),⟨?_,(fun R rest h=>Qdb (Xx:=[.d (We true a0.Base),.own 1 2 0 ((Zx a0).length)]) (dst:=some 38) hP Qlk (Ji.Qt (t0:=true) (t1:=false) a0.Base (Zx a0) h7) (by kernel_rfl) (.cons (Qk _) (.cons (.Qcr (ty:=24) (by kernel_rfl) rfl) .nil)) (by kernel_rfl) h),?_⟩⟩ ?_
     iterate 3 exact (Wh (Wh (Wh (Wh (Wh (Wh (Wh (Wh (Wh (Qpd (Wh (Wh (Qpd (Wh (Wh (Wh (Qpd (Wh (Wh (Wh (Wh (Qcj (Qcj (Wh (Wh (Wh (Wh (Wh (Qir (Wh (Wh Qer hT) hT) (fun R rest h=>Zk (Xx:=[.d (We true a0.Base)]) (dst:=some 31) hP Qf1 (by have q:=Wz.Qt (t0:=true) a0.Base h5;rw [c6] at q;exact q) (by kernel_rfl) (.cons (Qk _) .nil) (by kernel_rfl) h)) hT) hT) hT) hT) hT))) hT) hT) hT) hT) hT 43 (.b ((v2.length:Int) != (a0.Base.length:Int))) (.b false) (by rw [neF c8]<;>rfl)) hT) hT) hT) hT 47 (.b a0.Wn) (.b true) (by rw [c9]<;>rfl)) hT) hT) hT 50 (.b a0.Ws) (.b false) (by rw [boF c10]<;>rfl)) hT) hT) hT) hT) hT) hT) hT) hT) hT)
     exact Zr hT 1 _ [0] _ h0 (Jj2 true H)
    replace H:=iF c9 H
    refine Qcz (nt:=70) (hP▸mixed) 31 [8,9] [1] [(1,.ptr 0 0 0 0)] (sm [.ptr 0 0 0 7,.d (We true a0.Base),.b true,.b false,.b false,.ptr 0 0 0 7,.d (We true a0.Base),.d (Qcc a0),.own 1 2 0 ((Zx a0).length),.own 2 2 0 v2.length,.i (v2.length:Int),.ptr 0 0 0 7,.d (We true a0.Base),.i (a0.Base.length:Int),.b false,.b false,.b false,.ptr 0 0 0 5,.b false,.b false,.Ql [],.Ql [],.Ql [],.Ql [],.Ql [],.Ql [],.Ql [],.Ql [],.Ql [],.b false,.b false]) [[.box 30 (Jo a0)],[.box 30 (Jo a0),Je (Zx a0)],[.box 30 (Jo a0),Je (Zx a0),Yb v2]] (by kernel_rfl) (by kernel_rfl) (by kernel_rfl) (by kernel_rfl) ⟨?_,(fun R rest h=>Qdb (Xx:=[.d (Qcc a0)]) (dst:=some 37) hP Qf0 (Zx.Qt a0) (by kernel_rfl) (.cons (Qk _) .nil) (by kernel_rfl) h),⟨?_,(fun R rest h=>Qdb (Xx:=[.d (We true a0.Base),.own 1 2 0 ((Zx a0).length)]) (dst:=some 38) hP Qlk (Ji.Qt (t0:=true) (t1:=false) a0.Base (Zx a0) h7) (by kernel_rfl) (.cons (Qk _) (.cons (.Qcr (ty:=24) (by kernel_rfl) rfl) .nil)) (by kernel_rfl) h),?_⟩⟩ ?_
    iterate 3 exact (Wh (Wh (Wh (Wh (Wh (Wh (Wh (Wh (Wh (Wh (Wh (Wh (Qpd (Wh (Wh (Wh (Qpd (Wh (Wh (Wh (Wh (Qcj (Qcj (Wh (Wh (Wh (Wh (Wh (Qir (Wh (Wh Qer hT) hT) (fun R rest h=>Zk (Xx:=[.d (We true a0.Base)]) (dst:=some 31) hP Qf1 (by have q:=Wz.Qt (t0:=true) a0.Base h5;rw [c6] at q;exact q) (by kernel_rfl) (.cons (Qk _) .nil) (by kernel_rfl) h)) hT) hT) hT) hT) hT))) hT) hT) hT) hT) hT 43 (.b ((v2.length:Int) != (a0.Base.length:Int))) (.b false) (by rw [neF c8]<;>rfl)) hT) hT) hT) hT 47 (.b a0.Wn) (.b false) (by rw [boF c9]<;>rfl)) hT) hT) hT) hT) hT) hT) hT) hT) hT) hT) hT) hT)
    exact Zr hT 1 _ [0] _ h0 (Jj2 false H)
   replace H:=iF c8 H
   refine Qcz (nt:=70) (hP▸mixed) 31 [8,9] [1] [(1,.ptr 0 0 0 0)] (sm [.ptr 0 0 0 7,.d (We true a0.Base),.b true,.b false,.b false,.ptr 0 0 0 7,.d (We true a0.Base),.d (Qcc a0),.own 1 2 0 ((Zx a0).length),.own 2 2 0 v2.length,.i (v2.length:Int),.ptr 0 0 0 7,.d (We true a0.Base),.i (a0.Base.length:Int),.b true,.b true,.b true,.Ql [],.Ql [],.Ql [],.Ql [],.Ql [],.Ql [],.Ql [],.Ql [],.Ql [],.Ql [],.Ql [],.Ql [],.Ql [],.b true]) [[.box 30 (Jo a0)],[.box 30 (Jo a0),Je (Zx a0)],[.box 30 (Jo a0),Je (Zx a0),Yb v2]] (by kernel_rfl) (by kernel_rfl) (by kernel_rfl) (by kernel_rfl) ⟨?_,(fun R rest h=>Qdb (Xx:=[.d (Qcc a0)]) (dst:=some 37) hP Qf0 (Zx.Qt a0) (by kernel_rfl) (.cons (Qk _) .nil) (by kernel_rfl) h),⟨?_,(fun R rest h=>Qdb (Xx:=[.d (We true a0.Base),.own 1 2 0 ((Zx a0).length)]) (dst:=some 38) hP Qlk (Ji.Qt (t0:=true) (t1:=false) a0.Base (Zx a0) h7) (by kernel_rfl) (.cons (Qk _) (.cons (.Qcr (ty:=24) (by kernel_rfl) rfl) .nil)) (by kernel_rfl) h),?_⟩⟩ ?_
   iterate 3 exact (Wh (Wh (Wh (Wh (Wh (Wh (Wh (Wh (Wh (Wh (Wh (Wh (Wh (Wh (Wh (Wh (Qpd (Wh (Wh (Wh (Wh (Qcj (Qcj (Wh (Wh (Wh (Wh (Wh (Qir (Wh (Wh Qer hT) hT) (fun R rest h=>Zk (Xx:=[.d (We true a0.Base)]) (dst:=some 31) hP Qf1 (by have q:=Wz.Qt (t0:=true) a0.Base h5;rw [c6] at q;exact q) (by kernel_rfl) (.cons (Qk _) .nil) (by kernel_rfl) h)) hT) hT) hT) hT) hT))) hT) hT) hT) hT) hT 43 (.b ((v2.length:Int) != (a0.Base.length:Int))) (.b true) (by rw [neT c8]<;>rfl)) hT) hT) hT) hT) hT) hT) hT) hT) hT) hT) hT) hT) hT) hT) hT) hT)
   exact Zr hT 1 _ [0] _ h0 (Jj2 true H)
  replace H:=iF c6 H
  refine Qab (hP▸mixed) 31 [1] (sm [.ptr 0 0 0 7,.d (We true a0.Base),.b false,.b true,.b true,.Ql [],.Ql [],.Ql [],.Ql [],.Ql [],.Ql [],.Ql [],.Ql [],.Ql [],.Ql [],.b true,.b true,.Ql [],.Ql [],.Ql [],.Ql [],.Ql [],.Ql [],.Ql [],.Ql [],.Ql [],.Ql [],.Ql [],.Ql [],.Ql [],.b true]) (Qd (Qd (Qd (Qd (Qd (Qd (Qd (Qd (Qd (Qd (Qd (Qd (Qd (Qd (Qd (Qd (Qd (Qd (Qd (Qd (Qd (Qd (Qd (Qd (Qd (Qd (Qd (Qd (opS (Qd (Qd op0 hT) hT) (fun R rest h=>Zk (Xx:=[.d (We true a0.Base)]) (dst:=some 31) hP Qf1 (by have q:=Wz.Qt (t0:=true) a0.Base h5;rw [boF c6] at q;exact q) (by kernel_rfl) (.cons (Qk _) .nil) (by kernel_rfl) h)) hT) hT) hT) hT) hT) hT) hT) hT) hT) hT) hT) hT) hT) hT) hT) hT) hT) hT) hT) hT) hT) hT) hT) hT) hT) hT) hT) hT) ?_
  exact Xq hT 1 _ _ (Jj2 true H)
 refine qI ?_
 refine qF hT 10 hP Qek (Qbs.Qt a0.ID 1 65536) ?_
 rcases iB H with ⟨c1,H⟩ | ⟨c1,H⟩
 ·refine qB hT 2 (show (!(Qbs a0.ID 1 65536))=false by rw [c1];rfl) ?_
  refine qE hT 2 (K28 1100 7) ⟨70,[(1,.ptr 0 0 0 0),(7,.b false),(9,.d (Qgk a0.Keys))],[.box 30 (Jo a0)]⟩ ?_
  refine qI ?_
  refine qF hT 0 hP Qhl (Qbk.Qt a0.Keys) ?_
  rcases iB H with ⟨c2,H⟩ | ⟨c2,H⟩
  ·refine qB hT 3 (show (!(Qbk a0.Keys))=false by rw [c2];rfl) ?_
   refine qE hT 2 (K28 1100 13) ⟨70,[(1,.ptr 0 0 0 0),(13,.b false),(15,.i a0.Clock)],[.box 30 (Jo a0)]⟩ ?_
   refine qI ?_
   refine qF hT 0 hP Qll (Qdc.Qt a0.Clock) ?_
   rcases iB H with ⟨c3,H⟩ | ⟨c3,H⟩
   ·refine qB hT 3 (show (!(Qdc a0.Clock))=false by rw [c3];rfl) ?_
    exact qE hT 10 _ _ (Yx (decide ((IntKind.wrap .i64 ((a0.Held.length:Int)+(a0.Known.length:Int))) > 1000)) H)
   refine qB hT 3 (show (!(Qdc a0.Clock))=true by rw [boF c3];rfl) ?_
   exact qE hT 10 _ _ (Yx true H)
  refine qB hT 3 (show (!(Qbk a0.Keys))=true by rw [boF c2];rfl) ?_
  exact qE hT 16 _ _ (Yx true H)
 refine qB hT 2 (show (!(Qbs a0.ID 1 65536))=true by rw [boF c1];rfl) ?_
 exact qE hT 22 _ _ (Yx true H)
theorem Qdu.Qt (a0:Qc) {r:Bool} (H:Qdu a0=some r):Xt Tryz.prog 27 [] [.d (Qcc a0)] [] (.b r):=by
 refine Wx Tryz.func27 rfl (nt:=11) rfl (lb rfl) fun X hP h0 hX=>?_
 have hT:Qw X.P T:=hP▸tok
 have hf:X.P.funcs[27]? = some Tryz.f27:=hP▸Tryz.func27
 refine qI ?_
 obtain ⟨v1,h1,H⟩:=ibC H
 have Yx:∀ (Qcu:Bool),(Qdu.j1 Qcu)=some r->AK X 27 ((K27 11 1)) (Ym X [] (.b r)) ⟨11,[(2,.b Qcu)],[]⟩:=by
  intro Qcu H
  obtain rfl:=Yt H
  exact Qd9 hf hX h0 (.b Qcu) [] an (.d (.v _))
 refine qF hT 8 hP Qqd (Jg.Qt a0 h1) ?_
 rcases iB H with ⟨c2,H⟩ | ⟨c2,H⟩
 ·refine qB hT 2 (show (!v1)=false by rw [c2];rfl) ?_
  exact qC hT 6 _ [] _ h0 (Yx (!a0.Wn) H)
 refine qB hT 2 (show (!v1)=true by rw [boF c2];rfl) ?_
 exact qC hT 6 _ [] _ h0 (Yx true H)
theorem Qas.Qt {t0:Bool} {t1:Bool} (a0:List Qc) (a1:List Qi) {r:(List Qb) × (List Qb)} (H:Qas a0 a1=some r):Xt Tryz.prog 29 [] [.d (Qc8 t0 a0),.d (Zn t1 a1)] [Je r.1,Je r.2] (.Ql [.own 0 2 0 r.1.length,.own 1 2 0 r.2.length]):=by
 refine Wx Tryz.func29 rfl (nt:=36) rfl (lb rfl) fun X hP h0 hX=>?_
 have hT:Qw X.P T:=hP▸tok
 have hf:X.P.funcs[29]? = some Tryz.f29:=hP▸Tryz.func29
 refine Xq hT 14 (K29 11010 0) ⟨36,[(1,.d (Zn t1 a1)),(4,.ns),(5,.ns),(10,.d (Qc8 t0 a0)),(11,.i (a0.length:Int)),(12,.i 0)],[]⟩ ?_
 refine Qd1 [1,4,5,10,11,12] 4 2 24 (vec Qb.e Qb.z []) (st':=⟨36,[(1,.d (Zn t1 a1)),(4,.own 0 2 0 0),(5,.ns),(10,.d (Qc8 t0 a0)),(11,.i (a0.length:Int)),(12,.i 0)],[Je ([]:List Qb)]⟩) (by kernel_rfl) (by kernel_rfl) ?_
 have L:∀ n,(∀ (Qa5:Int) (Qm:List Qb),iter (Qas.step a0 a1) n (.l1 Qa5 Qm)=some r->AK X 29 ((K29 11010 0)) (Ym X [Je r.1,Je r.2] (.Ql [.own 0 2 0 r.1.length,.own 1 2 0 r.2.length])) ⟨36,[(1,.d (Zn t1 a1)),(4,.own 0 2 0 Qm.length),(5,.ns),(10,.d (Qc8 t0 a0)),(11,.i (a0.length:Int)),(12,.i Qa5)],[Je Qm]⟩)/\(∀ (Qev:Int) (Qa2:List Qb) (Xe:List Qb),iter (Qas.step a0 a1) n (.l2 Qev Qa2 Xe)=some r->AK X 29 ((K29 111010 0)) (Ym X [Je r.1,Je r.2] (.Ql [.own 0 2 0 r.1.length,.own 1 2 0 r.2.length])) ⟨36,[(4,.own 0 2 0 Qa2.length),(5,.own 1 2 0 Xe.length),(22,.d (Zn t1 a1)),(23,.i (a1.length:Int)),(24,.i Qev)],[Je Qa2,Je Xe]⟩):=by
  intro n
  induction n with
  | zero=>exact ⟨fun _ _ H=>Qbh H,fun _ _ _ H=>Qbh H⟩
  | succ n ih=>
   refine ⟨?_, ?_⟩
   ·intro Qa5 Qm H
    refine qI ?_
    rcases sB H with ⟨c1,H⟩ | ⟨c1,H⟩
    ·refine qB hT 5 (decide_eq_true c1) ?_
     obtain ⟨h2,H⟩:=sC H
     refine qX hT 6 h2 ?_
     refine qE hT 9 (K29 11010011001 4) ⟨36,[(1,.d (Zn t1 a1)),(5,.ns),(10,.d (Qc8 t0 a0)),(11,.i (a0.length:Int)),(12,.i Qa5),(16,.own 0 2 0 Qm.length),(19,.own 2 2 0 1)],[Je Qm,.box 30 (Jo (a0.getD Qa5.toNat Qc.z)),.flat false 2 24 1 (fun j=>[Qb.e ((a0.getD Qa5.toNat Qc.z).Keys)].getD j [])]⟩ ?_
     obtain ⟨h3,H⟩:=sC H
     refine Qeq (id:=0) (kk:=2) (by':=16) (t:=68) (e:=24) (z:=[.int .i64 0,.int .i64 0]) (dst:=some 20) (id2:=2) (e2:=24) (fz:=false) (k':=(K29 11010011001 5)) hT Qb.e Qb.z Qm ((a0.getD Qa5.toNat Qc.z).Keys) [1,5,10,11,12,20] (by kernel_rfl) (by kernel_rfl) (by kernel_rfl) (by kernel_rfl) (by kernel_rfl) (by kernel_rfl) (by kernel_rfl) h3 (by omega) (st':=⟨36,[(1,.d (Zn t1 a1)),(5,.ns),(10,.d (Qc8 t0 a0)),(11,.i (a0.length:Int)),(12,.i Qa5),(20,.own 3 2 0 ((Qm ++ [((a0.getD Qa5.toNat Qc.z).Keys)]).length))],[.gone,.box 30 (Jo (a0.getD Qa5.toNat Qc.z)),.flat false 2 24 1 (fun j=>[Qb.e ((a0.getD Qa5.toNat Qc.z).Keys)].getD j []),Je (Qm ++ [((a0.getD Qa5.toNat Qc.z).Keys)])]⟩) (by kernel_rfl) ?_
     exact Zr hT 8 _ [3] _ h0 (ih.1 (IntKind.wrap .i64 (Qa5+1)) (Qm ++ [((a0.getD Qa5.toNat Qc.z).Keys)]) H)
    refine qB hT 5 (decide_eq_false c1) ?_
    refine qE hT 11 (K29 111010 0) ⟨36,[(4,.own 0 2 0 Qm.length),(5,.ns),(22,.d (Zn t1 a1)),(23,.i (a1.length:Int)),(24,.i 0)],[Je Qm]⟩ ?_
    refine Qd1 [4,5,22,23,24] 5 2 24 (vec Qb.e Qb.z []) (st':=⟨36,[(4,.own 0 2 0 Qm.length),(5,.own 1 2 0 0),(22,.d (Zn t1 a1)),(23,.i (a1.length:Int)),(24,.i 0)],[Je Qm,Je ([]:List Qb)]⟩) (by kernel_rfl) (by kernel_rfl) ?_
    refine Qik [0,1] ⟨36,[(4,.own 0 2 0 Qm.length),(5,.own 1 2 0 ([]:List Qb).length),(22,.d (Zn t1 a1)),(23,.i (a1.length:Int)),(24,.i 0)],[Je Qm,Je ([]:List Qb)]⟩ h0 ?_
    exact ih.2 0 Qm ([]:List Qb) H
   intro Qev Qa2 Xe H
   refine qI ?_
   rcases sB H with ⟨c4,H⟩ | ⟨c4,H⟩
   ·refine qB hT 5 (decide_eq_true c4) ?_
    obtain ⟨h5,H⟩:=sC H
    refine qX hT 6 h5 ?_
    refine qE hT 9 (K29 111010011001 4) ⟨36,[(4,.own 0 2 0 Qa2.length),(22,.d (Zn t1 a1)),(23,.i (a1.length:Int)),(24,.i Qev),(28,.own 1 2 0 Xe.length),(31,.own 3 2 0 1)],[Je Qa2,Je Xe,.box 47 (Qfc (a1.getD Qev.toNat Qi.z)),.flat false 2 24 1 (fun j=>[Qb.e ((a1.getD Qev.toNat Qi.z).Keys)].getD j [])]⟩ ?_
    obtain ⟨h6,H⟩:=sC H
    refine Qeq (id:=1) (kk:=2) (by':=16) (t:=68) (e:=24) (z:=[.int .i64 0,.int .i64 0]) (dst:=some 32) (id2:=3) (e2:=24) (fz:=false) (k':=(K29 111010011001 5)) hT Qb.e Qb.z Xe ((a1.getD Qev.toNat Qi.z).Keys) [4,22,23,24,32] (by kernel_rfl) (by kernel_rfl) (by kernel_rfl) (by kernel_rfl) (by kernel_rfl) (by kernel_rfl) (by kernel_rfl) h6 (by omega) (st':=⟨36,[(4,.own 0 2 0 Qa2.length),(22,.d (Zn t1 a1)),(23,.i (a1.length:Int)),(24,.i Qev),(32,.own 4 2 0 ((Xe ++ [((a1.getD Qev.toNat Qi.z).Keys)]).length))],[Je Qa2,.gone,.box 47 (Qfc (a1.getD Qev.toNat Qi.z)),.flat false 2 24 1 (fun j=>[Qb.e ((a1.getD Qev.toNat Qi.z).Keys)].getD j []),Je (Xe ++ [((a1.getD Qev.toNat Qi.z).Keys)])]⟩) (by kernel_rfl) ?_
    exact Zr hT 8 _ [0,4] _ h0 (ih.2 (IntKind.wrap .i64 (Qev+1)) Qa2 (Xe ++ [((a1.getD Qev.toNat Qi.z).Keys)]) H)
   refine qB hT 5 (decide_eq_false c4) ?_
   obtain rfl:=Yt H
   exact qT hT 9 hf hX h0 [0,1] (ac (Xa Qb.nl) (ac (Xa Qb.nl) an)) (.Ql (.cons (.own _ _ _ _) (.cons (.own _ _ _ _) .nil)))
 refine Qik [0] ⟨36,[(1,.d (Zn t1 a1)),(4,.own 0 2 0 ([]:List Qb).length),(5,.ns),(10,.d (Qc8 t0 a0)),(11,.i (a0.length:Int)),(12,.i 0)],[Je ([]:List Qb)]⟩ h0 ?_
 obtain ⟨n,H⟩:=Qbw H
 exact (L n).1 0 ([]:List Qb) H
theorem Jz.Qt {t0:Bool} (a0:List Qb) (a1:Int) (a2:Int) {r:Bool} (H:Jz a0 a1 a2=some r):Xt Tryz.prog 30 [] [.d (Yp t0 a0),.i a1,.i a2] [] (.b r):=by
 refine Wx Tryz.func30 rfl (nt:=32) rfl (lb rfl) fun X hP h0 hX=>?_
 have hT:Qw X.P T:=hP▸tok
 have hf:X.P.funcs[30]? = some Tryz.f30:=hP▸Tryz.func30
 refine Xq hT 13 (K30 11010 0) ⟨32,[(1,.i a1),(2,.i a2),(9,.d (Yp t0 a0)),(10,.i (a0.length:Int)),(11,.i 0)],[]⟩ ?_
 have L:∀ n,(∀ (Qm5:Int) (Yg:Int),iter (Jz.step a0 a2) n (.l1 Qm5 Yg)=some r->AK X 30 ((K30 11010 0)) (Ym X [] (.b r)) ⟨32,[(1,.i Qm5),(2,.i a2),(9,.d (Yp t0 a0)),(10,.i (a0.length:Int)),(11,.i Yg)],[]⟩):=by
  intro n
  induction n with
  | zero=>exact fun _ _ H=>Qbh H
  | succ n ih=>
   ·intro Qm5 Yg H
    refine qI ?_
    rcases sB H with ⟨c1,H⟩ | ⟨c1,H⟩
    ·refine qB hT 5 (decide_eq_true c1) ?_
     obtain ⟨h2,H⟩:=sC H
     have Yx:∀ (Qr6:Bool),Jq (Jz.j1 a0 Yg Qr6) (iter (Jz.step a0 a2) n)=some r->AK X 30 ((K30 110100110010 1)) (Ym X [] (.b r)) ⟨32,[(2,.i a2),(8,.ptr 0 0 0 0),(9,.d (Yp t0 a0)),(10,.i (a0.length:Int)),(11,.i Yg),(25,.b Qr6)],[.box 24 (Qjt (a0.getD Yg.toNat Qb.z))]⟩:=by
      intro Qr6 H
      by_cases c4:Qr6=true
      ·replace H:=sT c4 H
       rw [c4]
       refine qI ?_
       obtain rfl:=Yt H
       exact qT hT 5 hf hX h0 [] an (.d (.v _))
      replace H:=sF c4 H
      rw [boF c4]
      exact Zr hT 13 _ [] _ h0 (ih ((a0.getD Yg.toNat Qb.z).Hi) (IntKind.wrap .i64 (Yg+1)) H)
     refine qX hT 6 h2 ?_
     refine qE hT 12 (K30 1101001100100 5) ⟨32,[(2,.i a2),(8,.ptr 0 0 0 0),(9,.d (Yp t0 a0)),(10,.i (a0.length:Int)),(11,.i Yg),(19,.b (((a0.getD Yg.toNat Qb.z).Lo) != Qm5))],[.box 24 (Qjt (a0.getD Yg.toNat Qb.z))]⟩ ?_
     by_cases c3:((a0.getD Yg.toNat Qb.z).Lo)=Qm5
     ·replace H:=sT c3 H
      rw [neF c3]
      exact Xq hT 7 _ _ (Yx (decide (((a0.getD Yg.toNat Qb.z).Hi)<=((a0.getD Yg.toNat Qb.z).Lo))) H)
     replace H:=sF c3 H
     rw [neT c3]
     exact Xq hT 7 _ _ (Yx true H)
    refine qB hT 5 (decide_eq_false c1) ?_
    obtain rfl:=Yt H
    exact qT hT 9 hf hX h0 [] an (.d (.v _))
 obtain ⟨n,H⟩:=Qbw H
 exact (L n) a1 0 H
theorem Yj.Qt {t0:Bool} {ff1:FuncId} {cc1:List DV} (a0:List Qi) (p1:Qi->Option Bool) (he1:Sy.Enters Tryz.prog ff1) (hp1:∀ (z0:Qi) r,p1 z0=some r->Xt Tryz.prog ff1 [] ([.d (Qu7 z0)] ++ List.map AV.d cc1) [] (.b r)) {r:Int} (H:Yj a0 p1=some r):Xt Tryz.prog 69 [] [.d (Zn t0 a0),.d (.fn ff1 cc1)] [] (.i r):=by
 refine Wx Tryz.func69 rfl (nt:=19) rfl (lb rfl) fun X hP h0 hX=>?_
 have hT:Qw X.P T:=hP▸tok
 have hf:X.P.funcs[69]? = some Tryz.f69:=hP▸Tryz.func69
 refine Xq hT 13 (K69 11010 0) ⟨19,[(0,.d (Zn t0 a0)),(1,.d (.fn ff1 cc1)),(7,.i (a0.length:Int)),(8,.i 0)],[]⟩ ?_
 have L:∀ n,(∀ (Wi:Int),iter (Yj.step a0 p1) n (.l1 Wi)=some r->AK X 69 ((K69 11010 0)) (Ym X [] (.i r)) ⟨19,[(0,.d (Zn t0 a0)),(1,.d (.fn ff1 cc1)),(7,.i (a0.length:Int)),(8,.i Wi)],[]⟩):=by
  intro n
  induction n with
  | zero=>exact fun _ H=>Qbh H
  | succ n ih=>
   ·intro Wi H
    refine qI ?_
    rcases sB H with ⟨c1,H⟩ | ⟨c1,H⟩
    ·refine qB hT 5 (decide_eq_true c1) ?_
     obtain ⟨h2,H⟩:=sC H
     refine qX hT 14 h2 ?_
     refine qE hT 1 (K69 110100110010 5) ⟨19,[(0,.d (Zn t0 a0)),(1,.d (.fn ff1 cc1)),(5,.i Wi),(7,.i (a0.length:Int)),(8,.i Wi),(11,.d (.fn ff1 cc1)),(15,.d (Qu7 (a0.getD Wi.toNat Qi.z)))],[]⟩ ?_
     obtain ⟨v1,h3,H⟩:=sbC H
     refine Zd (Xx:=[.d (Qu7 (a0.getD Wi.toNat Qi.z))] ++ List.map AV.d cc1) (dst:=some 16) (k':=(K69 110100110010 6)) [0,1,5,7,8,16] [] hP he1 (hp1 (a0.getD Wi.toNat Qi.z) v1 h3) (by kernel_rfl) (Qao _) (.cons (Qk _) (Qfn _)) (st':=⟨19,[(0,.d (Zn t0 a0)),(1,.d (.fn ff1 cc1)),(5,.i Wi),(7,.i (a0.length:Int)),(8,.i Wi),(16,.b v1)],[]⟩) (by kernel_rfl) ?_
     refine qI ?_
     rcases sB H with ⟨c4,H⟩ | ⟨c4,H⟩
     ·refine qB hT 1 (c4) ?_
      obtain rfl:=Yt H
      exact qT hT 6 hf hX h0 [] an (.d (.v _))
     refine qB hT 1 (boF c4) ?_
     exact qE hT 8 _ _ (ih (IntKind.wrap .i64 (Wi+1)) H)
    refine qB hT 5 (decide_eq_false c1) ?_
    obtain rfl:=Yt H
    exact qT hT 6 hf hX h0 [] an (.d (.v _))
 obtain ⟨n,H⟩:=Qbw H
 exact (L n) 0 H
theorem Qap.Qt {t0:Bool} {ff1:FuncId} {cc1:List DV} (a0:List Qi) (p1:Qi->Option Bool) (he1:Sy.Enters Tryz.prog ff1) (hp1:∀ (z0:Qi) r,p1 z0=some r->Xt Tryz.prog ff1 [] ([.d (Qu7 z0)] ++ List.map AV.d cc1) [] (.b r)) {r:Bool} (H:Qap a0 p1=some r):Xt Tryz.prog 31 [] [.d (Zn t0 a0),.d (.fn ff1 cc1)] [] (.b r):=by
 refine Wx Tryz.func31 rfl (nt:=9) rfl (lb rfl) fun X hP h0 hX=>?_
 have hT:Qw X.P T:=hP▸tok
 have hf:X.P.funcs[31]? = some Tryz.f31:=hP▸Tryz.func31
 refine qI ?_
 obtain ⟨v1,h1,H⟩:=ibC H
 refine qF hT 8 hP Wgk (Yj.Qt (t0:=t0) (ff1:=ff1) (cc1:=cc1) a0 p1 he1 hp1 h1) ?_
 obtain rfl:=Yt H
 exact qT hT 3 hf hX h0 [] an (.d (.v _))
theorem Qgb.Qt (a0:Qi):Xt Tryz.prog 32 [] [.d (Qu7 a0)] [] (.b (Qgb a0)):=by
 obtain ⟨r,H⟩:∃ r,Qgb a0=r:=⟨_,rfl⟩
 rw [H]
 refine Wx Tryz.func32 rfl (nt:=7) rfl (lb rfl) fun X hP h0 hX=>?_
 have hT:Qw X.P T:=hP▸tok
 have hf:X.P.funcs[32]? = some Tryz.f32:=hP▸Tryz.func32
 refine qI ?_
 refine qF hT 9 hP Qek (Qbs.Qt a0.ID 1 65536) ?_
 obtain rfl:=H
 exact qT hT 3 hf hX h0 [] an (.d (.v _))
theorem Xo.Qt {ff1:FuncId} {cc1:List DV} (a0:List Qa) (p1:Qa->Option Bool) (he1:Sy.Enters Tryz.prog ff1) (hp1:∀ (z0:Qa) r,p1 z0=some r->Xt Tryz.prog ff1 [] ([.d (Qgz z0)] ++ List.map AV.d cc1) [] (.b r)) {r:List Qa} (H:Xo a0 p1=some r):Xt Tryz.prog 169 [Yb a0] [.own 0 2 0 a0.length,.d (.fn ff1 cc1)] [.gone,Yb r] (.own 1 2 0 r.length):=by
 refine Wx Tryz.func169 rfl (nt:=42) rfl (lb rfl) fun X hP h0 hX=>?_
 have hT:Qw X.P T:=hP▸tok
 have hf:X.P.funcs[169]? = some Tryz.f169:=hP▸Tryz.func169
 refine Qgs [0] ⟨42,[(0,.own 1 2 0 a0.length),(1,.d (.fn ff1 cc1))],[.gone,Yb a0]⟩ ?_
 refine qI ?_
 obtain ⟨v1,h1,H⟩:=ibC H
 refine qF hT 8 hP Qt6 (Yn.Qt (t0:=false) (ff1:=ff1) (cc1:=cc1) a0 p1 he1 hp1 h1) ?_
 refine qE hT 8 (Qi8 1110 1) ⟨42,[(0,.own 1 2 0 a0.length),(1,.d (.fn ff1 cc1)),(5,.i v1),(12,.b (v1 == (-1)))],[.gone,Yb a0]⟩ ?_
 by_cases c2:v1=(-1)
 ·replace H:=iT c2 H
  rw [eqT c2]
  refine qI ?_
  obtain rfl:=Yt H
  exact qT hT 6 hf hX h0 [0,1] (ac .gone (ac (Xa Qa.nl) an)) (.own _ _ _ _)
 replace H:=iF c2 H
 rw [eqF c2]
 refine Xq hT 11 (Qi8 1111010 0) ⟨42,[(0,.own 1 2 0 a0.length),(1,.d (.fn ff1 cc1)),(5,.i v1),(6,.i (IntKind.wrap .i64 (v1+1)))],[.gone,Yb a0]⟩ ?_
 have L:∀ n,(∀ (Yl:Int) (Xz:Int) (Xi:List Qa),iter (Xo.step p1) n (.l1 Yl Xz Xi)=some r->AK X 169 ((Qi8 1111010 0)) (Ym X [.gone,Yb r] (.own 1 2 0 r.length)) ⟨42,[(0,.own 1 2 0 Xi.length),(1,.d (.fn ff1 cc1)),(5,.i Yl),(6,.i Xz)],[.gone,Yb Xi]⟩):=by
  intro n
  induction n with
  | zero=>exact fun _ _ _ H=>Qbh H
  | succ n ih=>
   ·intro Yl Xz Xi H
    refine qI ?_
    rcases sB H with ⟨c3,H⟩ | ⟨c3,H⟩
    ·refine qB hT 8 (decide_eq_true c3) ?_
     refine qE hT 8 (Qi8 111101001000 2) ⟨42,[(0,.own 1 2 0 Xi.length),(1,.d (.fn ff1 cc1)),(5,.i Yl),(6,.i Xz),(22,.own 1 2 0 Xi.length),(23,.i Xz)],[.gone,Yb Xi]⟩ ?_
     obtain ⟨h5,H⟩:=sC H
     refine Qh2 hT [0,1,5,6,24] (i:=Xz) (n:=(Xi.length:Int)) h5.1 h5.2 (k':=(Qi8 111101001000 3)) (st':=⟨42,[(0,.own 1 2 0 Xi.length),(1,.d (.fn ff1 cc1)),(5,.i Yl),(6,.i Xz),(24,.ptr 1 2 Xz.toNat 0)],[.gone,Yb Xi]⟩) (by kernel_rfl) ?_
     refine Qjl hT [0,1,5,6,25] (i:=Xz.toNat) (n:=Xi.length) (ltN h5.1 h5.2) (k':=(Qi8 111101001000 4)) (st':=⟨42,[(0,.own 1 2 0 Xi.length),(1,.d (.fn ff1 cc1)),(5,.i Yl),(6,.i Xz),(25,.d (Qgz (Xi.getD Xz.toNat Qa.z)))],[.gone,Yb Xi]⟩) (by kernel_rfl) ?_
     refine Xq hT 7 (Qi8 1111010010010 2) ⟨42,[(0,.own 1 2 0 Xi.length),(1,.d (.fn ff1 cc1)),(5,.i Yl),(6,.i Xz),(7,.ptr 2 0 0 0),(26,.d (.fn ff1 cc1)),(27,.d (Qgz (Xi.getD Xz.toNat Qa.z)))],[.gone,Yb Xi,.box 97 (Qe1 (Xi.getD Xz.toNat Qa.z))]⟩ ?_
     obtain ⟨v2,h6,H⟩:=sbC H
     have Yx:∀ (Qvv:Int) (Qpq:List Qa),Jq (Xo.j1 Xz Qvv Qpq) (iter (Xo.step p1) n)=some r->AK X 169 ((Qi8 111101001 1)) (Ym X [.gone,Yb r] (.own 1 2 0 r.length)) ⟨42,[(0,.own 1 2 0 Qpq.length),(1,.d (.fn ff1 cc1)),(5,.i Qvv),(6,.i Xz)],[.gone,Yb Qpq]⟩:=by
      intro Qvv Qpq H
      exact Xq hT 6 _ _ (ih Qvv (IntKind.wrap .i64 (Xz+1)) Qpq H)
     refine Zd (Xx:=[.d (Qgz (Xi.getD Xz.toNat Qa.z))] ++ List.map AV.d cc1) (dst:=some 28) (k':=(Qi8 1111010010010 3)) [0,1,5,6,7,28] [] hP he1 (hp1 (Xi.getD Xz.toNat Qa.z) v2 h6) (by kernel_rfl) (Qao _) (.cons (Qk _) (Qfn _)) (st':=⟨42,[(0,.own 1 2 0 Xi.length),(1,.d (.fn ff1 cc1)),(5,.i Yl),(6,.i Xz),(7,.ptr 2 0 0 0),(28,.b v2)],[.gone,Yb Xi,.box 97 (Qe1 (Xi.getD Xz.toNat Qa.z))]⟩) (by kernel_rfl) ?_
     refine qI ?_
     rcases sB H with ⟨c7,H⟩ | ⟨c7,H⟩
     ·refine qB hT 2 (show (!v2)=false by rw [c7];rfl) ?_
      exact qC hT 3 _ [0,1] _ h0 (Yx Yl Xi H)
     refine qB hT 2 (show (!v2)=true by rw [boF c7];rfl) ?_
     refine qE hT 6 (Qi8 111101001001100 3) ⟨42,[(0,.own 1 2 0 Xi.length),(1,.d (.fn ff1 cc1)),(5,.i Yl),(6,.i Xz),(30,.own 1 2 0 Xi.length),(31,.i Yl),(32,.d (Qgz (Xi.getD Xz.toNat Qa.z)))],[.gone,Yb Xi,.box 97 (Qe1 (Xi.getD Xz.toNat Qa.z))]⟩ ?_
     obtain ⟨h8,H⟩:=sC H
     refine Qh2 hT [0,1,5,6,32,33] (i:=Yl) (n:=(Xi.length:Int)) h8.1 h8.2 (k':=(Qi8 111101001001100 4)) (st':=⟨42,[(0,.own 1 2 0 Xi.length),(1,.d (.fn ff1 cc1)),(5,.i Yl),(6,.i Xz),(32,.d (Qgz (Xi.getD Xz.toNat Qa.z))),(33,.ptr 1 2 Yl.toNat 0)],[.gone,Yb Xi,.box 97 (Qe1 (Xi.getD Xz.toNat Qa.z))]⟩) (by kernel_rfl) ?_
     refine Qnc (id:=1) (kk:=2) (i:=Yl.toNat) (off:=0) (s:=2) (n:=Xi.length) (ty:=97) (ds:=[.i ((Xi.getD Xz.toNat Qa.z).Key),.i ((Xi.getD Xz.toNat Qa.z).Val)]) (g:=vec Qa.e Qa.z Xi) (k':=(Qi8 111101001001100 5)) hT [0,1,5,6] (vec Qa.e Qa.z (Xi.set Yl.toNat (Xi.getD Xz.toNat Qa.z))) (by kernel_rfl) (by kernel_rfl) (ltN h8.1 h8.2) ((Qi1 (ltN h8.1 h8.2)).trans (by kernel_rfl)) Qfx (st':=⟨42,[(0,.own 1 2 0 (Xi.length)),(1,.d (.fn ff1 cc1)),(5,.i Yl),(6,.i Xz)],[.gone,.flat false 2 97 Xi.length (vec Qa.e Qa.z (Xi.set Yl.toNat (Xi.getD Xz.toNat Qa.z))),.box 97 (Qe1 (Xi.getD Xz.toNat Qa.z))]⟩) (by kernel_rfl) ?_
     refine Qiw (show Xi.length=(Xi.set Yl.toNat (Xi.getD Xz.toNat Qa.z)).length from (List.length_set ..).symm) (fun nn=>⟨42,[(0,.own 1 2 0 (nn)),(1,.d (.fn ff1 cc1)),(5,.i Yl),(6,.i Xz)],[.gone,.flat false 2 97 nn (vec Qa.e Qa.z (Xi.set Yl.toNat (Xi.getD Xz.toNat Qa.z))),.box 97 (Qe1 (Xi.getD Xz.toNat Qa.z))]⟩) ?_
     exact Zr hT 7 _ [0,1] _ h0 (Yx (IntKind.wrap .i64 (Yl+1)) (Xi.set Yl.toNat (Xi.getD Xz.toNat Qa.z)) H)
    refine qB hT 8 (decide_eq_false c3) ?_
    refine qE hT 6 (Qi8 111110 2) ⟨42,[(0,.own 1 2 0 Xi.length),(5,.i Yl),(36,.own 1 2 0 Xi.length),(37,.i Yl)],[.gone,Yb Xi]⟩ ?_
    obtain ⟨h4,H⟩:=sC H
    refine Wi2 (id:=1) (s:=2) (off:=0) (n:=Xi.length) (N:=Xi.length) (kk:=.i64) (l:=Yl) (d:=38) (ty:=97) (g:=vec Qa.e Qa.z Xi) (k':=(Qi8 111110 4)) hT [0,5] (by kernel_rfl) (by kernel_rfl) h4.1 h4.2 rfl rfl (by decide) (by decide) (st':=⟨42,[(0,.own 1 2 0 Xi.length),(5,.i Yl)],[.gone,.flat false 2 97 Yl.toNat (vec Qa.e Qa.z Xi)]⟩) (by kernel_rfl) ?_
    refine Qx7 1 (kk:=2) (n:=Yl.toNat) (m:=(Xi.take Yl.toNat).length) (fz:=false) (ty:=97) (g:=vec Qa.e Qa.z Xi) (vec Qa.e Qa.z (Xi.take Yl.toNat)) (by kernel_rfl) (by simp only [List.length_take];omega) Waj (st':=⟨42,[(0,.own 1 2 0 Xi.length),(5,.i Yl)],[.gone,Yb (Xi.take Yl.toNat)]⟩) (by kernel_rfl) ?_
    refine Xq hT 5 (Qi8 1111110 2) ⟨42,[(39,.own 1 2 0 Xi.length),(40,.i Yl)],[.gone,Yb (Xi.take Yl.toNat)]⟩ ?_
    refine Wfg (id:=1) (s:=2) (off:=0) (n:=Xi.length) (kk:=.i64) (i:=Yl) (dst:=some 41) (k':=(Qi8 1111110 3)) hT [41] (by kernel_rfl) h4.1 h4.2 (st':=⟨42,[(41,.own 1 2 0 Yl.toNat)],[.gone,Yb (Xi.take Yl.toNat)]⟩) (by kernel_rfl) ?_
    refine Qiw (show Yl.toNat=(Xi.take Yl.toNat).length from by simp only [List.length_take];omega) (fun nn=>⟨42,[(41,.own 1 2 0 nn)],[.gone,Yb (Xi.take Yl.toNat)]⟩) ?_
    refine qI ?_
    obtain rfl:=Yt H
    exact qT hT 2 hf hX h0 [0,1] (ac .gone (ac (Xa Qa.nl) an)) (.own _ _ _ _)
 obtain ⟨n,H⟩:=Qbw H
 exact (L n) v1 (IntKind.wrap .i64 (v1+1)) a0 H
theorem Qdp.Qt (a0:Qa) (k0:Qb) (k1:List Qb) {r:Bool} (H:Qdp a0 k0 k1=some r):Xt Tryz.prog 170 [] [.d (Qgz a0),.d (.rop false 1 (fun _=>[.i k0.Lo,.i k0.Hi]) 0 0),.d (.rop false 1 (fun _=>[Yp true k1]) 0 0)] [] (.b r):=by
 refine Wx Tryz.func170 rfl (nt:=23) rfl (lb rfl) fun X hP h0 hX=>?_
 have hT:Qw X.P T:=hP▸tok
 have hf:X.P.funcs[170]? = some Tryz.f170:=hP▸Tryz.func170
 have Yx:∀ (Qhj:Bool),(Qdp.j1 Qhj)=some r->AK X 170 ((Wnr 11 1)) (Ym X [] (.b r)) ⟨23,[(4,.b Qhj)],[]⟩:=by
  intro Qhj H
  obtain rfl:=Yt H
  exact Qd9 hf hX h0 (.b Qhj) [] an (.d (.v _))
 refine qI ?_
 rcases iB H with ⟨c1,H⟩ | ⟨c1,H⟩
 ·refine qB hT 13 (decide_eq_true c1) ?_
  rcases iB H with ⟨c2,H⟩ | ⟨c2,H⟩
  ·refine qB hT 7 (decide_eq_true c2) ?_
   refine qE hT 3 (Wnr 110 16) ⟨23,[(17,.b true),(18,.d (Yp true k1)),(20,.i a0.Key)],[.box 97 (Qe1 a0)]⟩ ?_
   obtain ⟨v1,h3,H⟩:=ibC H
   refine qI ?_
   refine qF hT 0 hP Qni (Qe6.Qt (t0:=true) k1 a0.Key h3) ?_
   exact qC hT 3 _ [] _ h0 (Yx v1 H)
  refine qB hT 7 (decide_eq_false c2) ?_
  exact qC hT 7 _ [] _ h0 (Yx false H)
 refine qB hT 13 (decide_eq_false c1) ?_
 exact qC hT 14 _ [] _ h0 (Yx false H)
theorem Qj8.Qt (a0:List Qa) (a1:Qb) (a2:List Qb) {r:List Qa} (H:Qj8 a0 a1 a2=some r):Xt Tryz.prog 128 [Yb a0] [.own 0 2 0 a0.length,.d (Qgk a1),.d (Yp true a2)] [.gone,Yb r] (.own 1 2 0 r.length):=by
 refine Wx Tryz.func128 rfl (nt:=10) rfl (lb rfl) fun X hP h0 hX=>?_
 have hT:Qw X.P T:=hP▸tok
 have hf:X.P.funcs[128]? = some Tryz.f128:=hP▸Tryz.func128
 refine Qgs [0] ⟨10,[(0,.own 1 2 0 a0.length),(1,.d (Qgk a1)),(2,.d (Yp true a2))],[.gone,Yb a0]⟩ ?_
 refine Xq hT 10 (Wnl 110 2) ⟨10,[(7,.own 1 2 0 a0.length),(8,.fn 170 [.ptr 2 0 0 0,.ptr 3 0 0 0])],[.gone,Yb a0,.box 24 (Qjt a1),.box 68 [.d (Yp true a2)]]⟩ ?_
 obtain ⟨v1,h1,H⟩:=ibC H
 refine Zd (Xx:=[.own 1 2 0 a0.length,.fn 170 [.ptr 2 0 0 0,.ptr 3 0 0 0]]) (dst:=some 9) (k':=(Wnl 110 3)) [9] [1] hP Wda (Xo.Qt (ff1:=170) (cc1:=[.rop false 1 (fun _=>[.i a1.Lo,.i a1.Hi]) 0 0,.rop false 1 (fun _=>[Yp true a2]) 0 0]) a0 (fun z0=>Qdp z0 a1 a2) Wdb (fun z0 r h=>Qdp.Qt z0 a1 a2 h) h1) (by kernel_rfl) (Qel rfl rfl) (.cons (.same (.own 0 2 0 a0.length)) (.cons (.fn 170 (.cons (.look (ty:=24) (cs:=[.i a1.Lo,.i a1.Hi]) (by kernel_rfl) rfl) (.cons (.look (ty:=68) (cs:=[Yp true a2]) (by kernel_rfl) rfl) .nil))) .nil)) (st':=⟨10,[(9,.own 4 2 0 v1.length)],[.gone,.gone,.box 24 (Qjt a1),.box 68 [.d (Yp true a2)],Yb v1]⟩) (by kernel_rfl) ?_
 refine qI ?_
 obtain rfl:=Yt H
 exact qT hT 2 hf hX h0 [0,4] (ac .gone (ac (Xa Qa.nl) an)) (.own _ _ _ _)
theorem Qey.Qt (a0:Qp) {r:Bool} (H:Qey a0=some r):Xt Tryz.prog 129 [] [.d (Qan a0)] [] (.b r):=by
 refine Wx Tryz.func129 rfl (nt:=15) rfl (lb rfl) fun X hP h0 hX=>?_
 have hT:Qw X.P T:=hP▸tok
 have hf:X.P.funcs[129]? = some Tryz.f129:=hP▸Tryz.func129
 refine qI ?_
 obtain ⟨v1,h1,H⟩:=ibC H
 have Yx:∀ (Qcu:Bool),(Qey.j1 Qcu)=some r->AK X 129 ((Wnm 11 1)) (Ym X [] (.b r)) ⟨15,[(2,.b Qcu)],[]⟩:=by
  intro Qcu H
  obtain rfl:=Yt H
  exact Qd9 hf hX h0 (.b Qcu) [] an (.d (.v _))
 refine qF hT 8 hP Qg0 (Qbi.Qt a0 h1) ?_
 rcases iB H with ⟨c2,H⟩ | ⟨c2,H⟩
 ·refine qB hT 1 (c2) ?_
  refine qE hT 4 (Wnm 110 7) ⟨15,[(1,.ptr 0 0 0 0),(5,.b true),(9,.b (a0.Kind == 3))],[.box 35 (Qak a0)]⟩ ?_
  by_cases c3:a0.Kind=3
  ·replace H:=iT c3 H
   rw [eqT c3]
   exact Zr hT 7 _ [] _ h0 (Yx true H)
  replace H:=iF c3 H
  rw [eqF c3]
  exact Zr hT 7 _ [] _ h0 (Yx (a0.Kind == 4) H)
 refine qB hT 1 (boF c2) ?_
 exact qC hT 11 _ [] _ h0 (Yx false H)
theorem Xn.Qt {t0:Bool} {ff2:FuncId} {cc2:List DV} (a0:List Qa) (a1:Int) (p2:Qa->Int->Option Int) (he2:Sy.Enters Tryz.prog ff2) (hp2:∀ (z0:Qa) (z1:Int) r,p2 z0 z1=some r->Xt Tryz.prog ff2 [] ([.d (Qgz z0),.i z1] ++ List.map AV.d cc2) [] (.i r)) {r:Int × Bool} (H:Xn a0 a1 p2=some r):Xt Tryz.prog 198 [] [.d (We t0 a0),.i a1,.d (.fn ff2 cc2)] [] (.Ql [.i r.1,.b r.2]):=by
 refine Wx Tryz.func198 rfl (nt:=49) rfl (lb rfl) fun X hP h0 hX=>?_
 have hT:Qw X.P T:=hP▸tok
 have hf:X.P.funcs[198]? = some Tryz.f198:=hP▸Tryz.func198
 refine Xq hT 20 (Qop 111100 0) ⟨49,[(0,.d (We t0 a0)),(1,.i a1),(2,.d (.fn ff2 cc2)),(8,.i (a0.length:Int)),(9,.i 0),(10,.i (a0.length:Int))],[]⟩ ?_
 have L:∀ n,(∀ (Zo:Int) (Wq:Int),iter (Xn.step a0 a1 p2) n (.l1 Zo Wq)=some r->AK X 198 ((Qop 111100 0)) (Ym X [] (.Ql [.i r.1,.b r.2])) ⟨49,[(0,.d (We t0 a0)),(1,.i a1),(2,.d (.fn ff2 cc2)),(8,.i (a0.length:Int)),(9,.i Zo),(10,.i Wq)],[]⟩):=by
  intro n
  induction n with
  | zero=>exact fun _ _ H=>Qbh H
  | succ n ih=>
   ·intro Zo Wq H
    refine Xq hT 7 (Qop 11110000 1) ⟨49,[(0,.d (We t0 a0)),(1,.i a1),(2,.d (.fn ff2 cc2)),(8,.i (a0.length:Int)),(9,.i Zo),(10,.i Wq),(17,.b (decide (Zo < Wq)))],[]⟩ ?_
    by_cases c1:Zo < Wq
    ·replace H:=sT c1 H
     rw [decide_eq_true c1]
     refine Xq hT 12 (Qop 1111000100 7) ⟨49,[(0,.d (We t0 a0)),(1,.i a1),(2,.d (.fn ff2 cc2)),(8,.i (a0.length:Int)),(9,.i Zo),(10,.i Wq),(11,.i (IntKind.wrap .i64 (Int.fdiv (IntKind.wrap .u64 (IntKind.wrap .i64 (Zo+Wq))) 2)))],[]⟩ ?_
     obtain ⟨v2,h5,H⟩:=sdC H
     rw [<- h5]
     refine qI ?_
     obtain ⟨h6,H⟩:=sC H
     refine qX hT 6 h6 ?_
     refine qE hT 2 (Qop 11110001010 6) ⟨49,[(0,.d (We t0 a0)),(1,.i a1),(2,.d (.fn ff2 cc2)),(8,.i (a0.length:Int)),(9,.i Zo),(10,.i Wq),(11,.i v2),(24,.d (.fn ff2 cc2)),(28,.d (Qgz (a0.getD v2.toNat Qa.z))),(29,.i a1)],[]⟩ ?_
     obtain ⟨v3,h7,H⟩:=sbC H
     refine Zd (Xx:=[.d (Qgz (a0.getD v2.toNat Qa.z)),.i a1] ++ List.map AV.d cc2) (dst:=some 30) (k':=(Qop 11110001010 7)) [0,1,2,8,9,10,11,30] [] hP he2 (hp2 (a0.getD v2.toNat Qa.z) a1 v3 h7) (by kernel_rfl) (Qao _) (.cons (Qk _) (.cons (Qk _) (Qfn _))) (st':=⟨49,[(0,.d (We t0 a0)),(1,.i a1),(2,.d (.fn ff2 cc2)),(8,.i (a0.length:Int)),(9,.i Zo),(10,.i Wq),(11,.i v2),(30,.i v3)],[]⟩) (by kernel_rfl) ?_
     refine qI ?_
     rcases sB H with ⟨c8,H⟩ | ⟨c8,H⟩
     ·refine qB hT 2 (decide_eq_true c8) ?_
      exact qE hT 8 _ _ (ih (IntKind.wrap .i64 (v2+1)) Wq H)
     refine qB hT 2 (decide_eq_false c8) ?_
     exact qE hT 7 _ _ (ih Zo v2 H)
    replace H:=sF c1 H
    have Yx:∀ (Qk6:Bool),Jq (Xn.j1 Zo Qk6) (iter (Xn.step a0 a1 p2) n)=some r->AK X 198 ((Qop 11111 1)) (Ym X [] (.Ql [.i r.1,.b r.2])) ⟨49,[(6,.i Zo),(7,.b Qk6)],[]⟩:=by
     intro Qk6 H
     obtain rfl:=Yt H
     exact Qd9 hf hX h0 (.Ql [.i Zo,.b Qk6]) [] an (.Ql (.cons (.d (.v _)) (.cons (.d (.v _)) .nil)))
    rw [decide_eq_false c1]
    refine qI ?_
    rcases sB H with ⟨c2,H⟩ | ⟨c2,H⟩
    ·refine qB hT 9 (decide_eq_true c2) ?_
     obtain ⟨h3,H⟩:=sC H
     refine qX hT 3 h3 ?_
     refine qE hT 2 (Qop 111110 11) ⟨49,[(35,.i Zo),(39,.b true),(40,.d (.fn ff2 cc2)),(44,.d (Qgz (a0.getD Zo.toNat Qa.z))),(45,.i a1)],[]⟩ ?_
     obtain ⟨v1,h4,H⟩:=sbC H
     refine Zd (Xx:=[.d (Qgz (a0.getD Zo.toNat Qa.z)),.i a1] ++ List.map AV.d cc2) (dst:=some 46) (k':=(Qop 111110 12)) [35,39,46] [] hP he2 (hp2 (a0.getD Zo.toNat Qa.z) a1 v1 h4) (by kernel_rfl) (Qao _) (.cons (Qk _) (.cons (Qk _) (Qfn _))) (st':=⟨49,[(35,.i Zo),(39,.b true),(46,.i v1)],[]⟩) (by kernel_rfl) ?_
     exact Xq hT 5 _ _ (Yx (v1 == 0) H)
    refine qB hT 9 (decide_eq_false c2) ?_
    exact qE hT 12 _ _ (Yx false H)
 obtain ⟨n,H⟩:=Qbw H
 exact (L n) 0 (a0.length:Int) H
theorem Qfd.Qt (a0:Qa) (a1:Int):Xt Tryz.prog 199 [] [.d (Qgz a0),.i a1] [] (.i (Qfd a0 a1)):=by
 obtain ⟨r,H⟩:∃ r,Qfd a0 a1=r:=⟨_,rfl⟩
 rw [H]
 refine Wx Tryz.func199 rfl (nt:=9) rfl (lb rfl) fun X hP h0 hX=>?_
 have hT:Qw X.P T:=hP▸tok
 have hf:X.P.funcs[199]? = some Tryz.f199:=hP▸Tryz.func199
 refine qI ?_
 refine qF hT 10 hP Qhm (Yr.Qt a0.Key a1) ?_
 obtain rfl:=H
 exact qT hT 2 hf hX h0 [] an (.d (.v _))
theorem Qgw.Qt {t0:Bool} (a0:List Qa) (a1:Int) {r:Int × Bool} (H:Qgw a0 a1=some r):Xt Tryz.prog 172 [] [.d (We t0 a0),.i a1] [] (.Ql [.i r.1,.b r.2]):=by
 refine Wx Tryz.func172 rfl (nt:=11) rfl (lb rfl) fun X hP h0 hX=>?_
 have hT:Qw X.P T:=hP▸tok
 have hf:X.P.funcs[172]? = some Tryz.f172:=hP▸Tryz.func172
 refine qI ?_
 obtain ⟨v1,h1,H⟩:=ibC H
 refine qF hT 9 hP Wdk (Xn.Qt (t0:=t0) (ff2:=199) (cc2:=[]) a0 a1 (fun z0 z1=>some (Qfd z0 z1)) Wdl (fun z0 z1 r h=>by obtain rfl:=Yt h;exact Qfd.Qt z0 z1) h1) ?_
 obtain rfl:=Yt H
 exact qT hT 5 hf hX h0 [] an (.Ql (.cons (.d (.v _)) (.cons (.d (.v _)) .nil)))
theorem Qhq.Qt {t0:Bool} (a0:List Qa) (a1:Int) {r:Int × Bool} (H:Qhq a0 a1=some r):Xt Tryz.prog 171 [] [.d (We t0 a0),.i a1] [] (.Ql [.i r.1,.b r.2]):=by
 refine Wx Tryz.func171 rfl (nt:=20) rfl (lb rfl) fun X hP h0 hX=>?_
 have hT:Qw X.P T:=hP▸tok
 have hf:X.P.funcs[171]? = some Tryz.f171:=hP▸Tryz.func171
 refine qI ?_
 obtain ⟨v1,h1,H⟩:=ibC H
 refine qF hT 10 hP Qub (Qgw.Qt (t0:=t0) a0 a1 h1) ?_
 rcases iB H with ⟨c2,H⟩ | ⟨c2,H⟩
 ·refine qB hT 10 (c2) ?_
  refine qE hT 5 (Wp0 1101100 2) ⟨20,[(15,.d (We t0 a0)),(16,.i v1.1)],[]⟩ ?_
  obtain ⟨h3,H⟩:=iC H
  refine qI ?_
  refine qX hT 0 h3 ?_
  obtain rfl:=Yt H
  exact qT hT 5 hf hX h0 [] an (.Ql (.cons (.d (.v _)) (.cons (.d (.v _)) .nil)))
 refine qB hT 10 (boF c2) ?_
 obtain rfl:=Yt H
 exact qT hT 7 hf hX h0 [] an (.Ql (.cons (.d (.v _)) (.cons (.d (.v _)) .nil)))
theorem Qea.Qt (a0:List Qa) (a1:Int) (a2:Int) {r:List Qa} (H:Qea a0 a1 a2=some r):Xt Tryz.prog 131 [Yb a0] [.own 0 2 0 a0.length,.i a1,.i a2] [.gone,Yb r] (.own 1 2 0 r.length):=by
 refine Wx Tryz.func131 rfl (nt:=29) rfl (lb rfl) fun X hP h0 hX=>?_
 have hT:Qw X.P T:=hP▸tok
 have hf:X.P.funcs[131]? = some Tryz.f131:=hP▸Tryz.func131
 refine Qgs [0] ⟨29,[(0,.own 1 2 0 a0.length),(1,.i a1),(2,.i a2)],[.gone,Yb a0]⟩ ?_
 refine qI ?_
 obtain ⟨v1,h1,H⟩:=ibC H
 refine qF hT 8 hP Qub (Qgw.Qt (t0:=false) a0 a1 h1) ?_
 rcases iB H with ⟨c2,H⟩ | ⟨c2,H⟩
 ·refine qB hT 11 (c2) ?_
  refine qE hT 6 (Qxu 1110100 3) ⟨29,[(0,.own 1 2 0 a0.length),(16,.own 1 2 0 a0.length),(17,.i v1.1),(18,.i a2)],[.gone,Yb a0]⟩ ?_
  obtain ⟨h3,H⟩:=iC H
  refine qI ?_
  refine qX hT 0 h3 ?_
  refine qE hT 1 (Qxu 1110100 5) ⟨29,[(0,.own 1 2 0 a0.length),(18,.i a2),(20,.ptr 1 2 v1.1.toNat 1)],[.gone,Yb a0]⟩ ?_
  refine Qnc (id:=1) (kk:=2) (i:=v1.1.toNat) (off:=1) (s:=1) (n:=a0.length) (ty:=97) (ds:=[.i a2]) (g:=vec Qa.e Qa.z a0) (k':=(Qxu 1110100 6)) hT [0] (vec Qa.e Qa.z (a0.set v1.1.toNat (⟨(a0.getD v1.1.toNat Qa.z).Key,a2⟩:Qa))) (by kernel_rfl) (by kernel_rfl) (ltN h3.1 h3.2) ((Qi1 (ltN h3.1 h3.2)).trans (by kernel_rfl)) Qfx (st':=⟨29,[(0,.own 1 2 0 (a0.length))],[.gone,.flat false 2 97 a0.length (vec Qa.e Qa.z (a0.set v1.1.toNat (⟨(a0.getD v1.1.toNat Qa.z).Key,a2⟩:Qa)))]⟩) (by kernel_rfl) ?_
  refine Qiw (show a0.length=(a0.set v1.1.toNat (⟨(a0.getD v1.1.toNat Qa.z).Key,a2⟩:Qa)).length from (List.length_set ..).symm) (fun nn=>⟨29,[(0,.own 1 2 0 (nn))],[.gone,.flat false 2 97 nn (vec Qa.e Qa.z (a0.set v1.1.toNat (⟨(a0.getD v1.1.toNat Qa.z).Key,a2⟩:Qa)))]⟩) ?_
  refine qI ?_
  obtain rfl:=Yt H
  exact qT hT 6 hf hX h0 [0,1] (ac .gone (ac (Xa Qa.nl) an)) (.own _ _ _ _)
 refine qB hT 11 (boF c2) ?_
 refine qE hT 10 (Qxu 11110 6) ⟨29,[(22,.own 1 2 0 a0.length),(23,.i v1.1),(27,.own 2 2 0 1)],[.gone,Yb a0,.flat false 2 97 1 (fun j=>[[.i a1,.i a2]].getD j [])]⟩ ?_
 obtain ⟨h4,H⟩:=iC H
 refine Zd (Xx:=[.own 1 2 0 a0.length,.i v1.1,.own 2 2 0 1]) (dst:=some 28) (k':=(Qxu 11110 7)) [28] [1,2] hP Wdc (Whb a0 v1.1 (⟨a1,a2⟩:Qa) h4) (by kernel_rfl) (Qj2 rfl rfl rfl rfl (by decide)) (.cons (.same (.own 0 2 0 a0.length)) (.cons (Qk _) (.cons (.same (.own 1 2 0 1)) .nil))) (st':=⟨29,[(28,.own 3 2 0 ((a0.take v1.1.toNat ++ (⟨a1,a2⟩:Qa) :: a0.drop v1.1.toNat).length))],[.gone,.gone,.gone,Yb (a0.take v1.1.toNat ++ (⟨a1,a2⟩:Qa) :: a0.drop v1.1.toNat)]⟩) (by kernel_rfl) ?_
 refine qI ?_
 obtain rfl:=Yt H
 exact qT hT 2 hf hX h0 [0,3] (ac .gone (ac (Xa Qa.nl) an)) (.own _ _ _ _)
abbrev Qb3.q1 (a0:List Qa) (a1:Qp):List Row:=[.gone,Yb a0,.box 35 (Qak a1),.box 97 (Qe1 (a1.Pairs.getD 0 Qa.z))]
theorem Qb3.Qt (a0:List Qa) (a1:Qp) {r:(List Qa) × Bool} (H:Qb3 a0 a1=some r):Xt Tryz.prog 130 [Yb a0] [.own 0 2 0 a0.length,.d (Qan a1)] [.gone,Yb r.1] (.Ql [.own 1 2 0 r.1.length,.b r.2]):=by
 refine Wx Tryz.func130 rfl (nt:=57) rfl (lb rfl) fun X hP h0 hX=>?_
 have hT:Qw X.P T:=hP▸tok
 have hf:X.P.funcs[130]? = some Tryz.f130:=hP▸Tryz.func130
 refine Qgs [0] ⟨57,[(0,.own 1 2 0 a0.length),(1,.d (Qan a1))],[.gone,Yb a0]⟩ ?_
 refine qI ?_
 obtain ⟨h1,H⟩:=iC H
 refine qX hT 10 h1 ?_
 obtain ⟨v1,h2,H⟩:=ibC H
 refine qF hT 9 hP Qua (Qhq.Qt (t0:=false) a0 ((a1.Pairs.getD 0 Qa.z).Key) h2) ?_
 refine qE hT 13 (Qp1 11110 1) ⟨57,[(0,.own 1 2 0 a0.length),(3,.ptr 2 0 0 0),(6,.ptr 3 0 0 0),(7,.i v1.1),(8,.b v1.2),(22,.b (a1.Kind == 3))],(Qb3.q1 a0 a1)⟩ ?_
 by_cases c3:a1.Kind=3
 ·replace H:=iT c3 H
  have Yx:∀ (Qi5:Bool),(Qb3.j1 a0 a1 v1 Qi5)=some r->AK X 130 ((Qp1 11110100 1)) (Ym X [.gone,Yb r.1] (.Ql [.own 1 2 0 r.1.length,.b r.2])) ⟨57,[(0,.own 1 2 0 a0.length),(6,.ptr 2 0 0 0),(7,.i v1.1),(34,.b Qi5)],[.gone,Yb a0,.box 97 (Qe1 (a1.Pairs.getD 0 Qa.z))]⟩:=by
   intro Qi5 H
   by_cases c5:Qi5=true
   ·replace H:=iT c5 H
    rw [c5]
    refine qI ?_
    obtain rfl:=Yt H
    exact qT hT 7 hf hX h0 [0,1] (ac .gone (ac (Xa Qa.nl) an)) (.Ql (.cons (.own _ _ _ _) (.cons (.d (.v _)) .nil)))
   replace H:=iF c5 H
   rw [boF c5]
   refine Xq hT 11 (Qp1 111101010 7) ⟨57,[(36,.own 1 2 0 a0.length),(38,.i ((a1.Pairs.getD 0 Qa.z).Key)),(42,.i (IntKind.wrap .i64 (v1.1+((a1.Pairs.getD 0 Qa.z).Val))))],[.gone,Yb a0,.box 97 (Qe1 (a1.Pairs.getD 0 Qa.z))]⟩ ?_
   obtain ⟨v2,h6,H⟩:=ibC H
   refine Zd (Xx:=[.own 1 2 0 a0.length,.i ((a1.Pairs.getD 0 Qa.z).Key),.i (IntKind.wrap .i64 (v1.1+((a1.Pairs.getD 0 Qa.z).Val)))]) (dst:=some 43) (k':=(Qp1 111101010 8)) [43] [1] hP Ql2 (Qea.Qt a0 ((a1.Pairs.getD 0 Qa.z).Key) (IntKind.wrap .i64 (v1.1+((a1.Pairs.getD 0 Qa.z).Val))) h6) (by kernel_rfl) (Qel rfl rfl) (.cons (.same (.own 0 2 0 a0.length)) (.cons (Qk _) (.cons (Qk _) .nil))) (st':=⟨57,[(43,.own 3 2 0 v2.length)],[.gone,.gone,.box 97 (Qe1 (a1.Pairs.getD 0 Qa.z)),Yb v2]⟩) (by kernel_rfl) ?_
   refine qI ?_
   obtain rfl:=Yt H
   exact qT hT 3 hf hX h0 [0,3] (ac .gone (ac (Xa Qa.nl) an)) (.Ql (.cons (.own _ _ _ _) (.cons (.d (.v _)) .nil)))
  rw [eqT c3]
  refine qI ?_
  rcases iB H with ⟨c4,H⟩ | ⟨c4,H⟩
  ·refine qB hT 10 (decide_eq_true c4) ?_
   exact qC hT 7 _ [0,1,3] _ h0 (Yx true H)
  refine qB hT 10 (decide_eq_false c4) ?_
  exact qC hT 7 _ [0,1,3] _ h0 (Yx (decide ((IntKind.wrap .i64 (v1.1+((a1.Pairs.getD 0 Qa.z).Val))) > 1099511627776)) H)
 replace H:=iF c3 H
 have Jj2:∀ (Qti:Int),(Qb3.j2 a0 a1 Qti)=some r->AK X 130 ((Qp1 11111 1)) (Ym X [.gone,Yb r.1] (.Ql [.own 1 2 0 r.1.length,.b r.2])) ⟨57,[(0,.own 1 2 0 a0.length),(3,.ptr 2 0 0 0),(6,.ptr 3 0 0 0),(7,.i Qti)],(Qb3.q1 a0 a1)⟩:=by
  intro Qti H
  refine Xq hT 8 (Qp1 1111110 1) ⟨57,[(0,.own 1 2 0 a0.length),(6,.ptr 3 0 0 0),(49,.b (Qti != a1.Old))],(Qb3.q1 a0 a1)⟩ ?_
  by_cases c8:Qti=a1.Old
  ·replace H:=iT c8 H
   rw [neF c8]
   refine Xq hT 9 (Qp1 11111110 5) ⟨57,[(51,.own 1 2 0 a0.length),(53,.i ((a1.Pairs.getD 0 Qa.z).Key)),(55,.i ((a1.Pairs.getD 0 Qa.z).Val))],(Qb3.q1 a0 a1)⟩ ?_
   obtain ⟨v3,h9,H⟩:=ibC H
   refine Zd (Xx:=[.own 1 2 0 a0.length,.i ((a1.Pairs.getD 0 Qa.z).Key),.i ((a1.Pairs.getD 0 Qa.z).Val)]) (dst:=some 56) (k':=(Qp1 11111110 6)) [56] [1] hP Ql2 (Qea.Qt a0 ((a1.Pairs.getD 0 Qa.z).Key) ((a1.Pairs.getD 0 Qa.z).Val) h9) (by kernel_rfl) (Qel rfl rfl) (.cons (.same (.own 0 2 0 a0.length)) (.cons (Qk _) (.cons (Qk _) .nil))) (st':=⟨57,[(56,.own 4 2 0 v3.length)],[.gone,.gone,.box 35 (Qak a1),.box 97 (Qe1 (a1.Pairs.getD 0 Qa.z)),Yb v3]⟩) (by kernel_rfl) ?_
   refine qI ?_
   obtain rfl:=Yt H
   exact qT hT 3 hf hX h0 [0,4] (ac .gone (ac (Xa Qa.nl) an)) (.Ql (.cons (.own _ _ _ _) (.cons (.d (.v _)) .nil)))
  replace H:=iF c8 H
  rw [neT c8]
  refine qI ?_
  obtain rfl:=Yt H
  exact qT hT 7 hf hX h0 [0,1] (ac .gone (ac (Xa Qa.nl) an)) (.Ql (.cons (.own _ _ _ _) (.cons (.d (.v _)) .nil)))
 rw [eqF c3]
 refine qI ?_
 rcases iB H with ⟨c7,H⟩ | ⟨c7,H⟩
 ·refine qB hT 8 (show (!v1.2)=false by rw [c7];rfl) ?_
  exact qE hT 2 _ _ (Jj2 v1.1 H)
 refine qB hT 8 (show (!v1.2)=true by rw [boF c7];rfl) ?_
 exact qE hT 4 _ _ (Jj2 1099511627777 H)
theorem Qfw.Qt (a0:List Qa) (a1:Int) (a2:Int) {r:List Qa} (H:Qfw a0 a1 a2=some r):Xt Tryz.prog 132 [Yb a0] [.own 0 2 0 a0.length,.i a1,.i a2] [.gone,Yb r] (.own 1 2 0 r.length):=by
 refine Wx Tryz.func132 rfl (nt:=23) rfl (lb rfl) fun X hP h0 hX=>?_
 have hT:Qw X.P T:=hP▸tok
 have hf:X.P.funcs[132]? = some Tryz.f132:=hP▸Tryz.func132
 refine Qgs [0] ⟨23,[(0,.own 1 2 0 a0.length),(1,.i a1),(2,.i a2)],[.gone,Yb a0]⟩ ?_
 refine qI ?_
 obtain ⟨v1,h1,H⟩:=ibC H
 refine qF hT 8 hP Qua (Qhq.Qt (t0:=false) a0 a1 h1) ?_
 refine qE hT 15 (Wnn 1110 7) ⟨23,[(15,.own 1 2 0 a0.length),(16,.i a1),(21,.i (Qhd (Qb6 (IntKind.wrap .i64 (v1.1+a2)) (-1099511627776)) 1099511627776))],[.gone,Yb a0]⟩ ?_
 obtain ⟨v2,h2,H⟩:=ibC H
 refine Zd (Xx:=[.own 1 2 0 a0.length,.i a1,.i (Qhd (Qb6 (IntKind.wrap .i64 (v1.1+a2)) (-1099511627776)) 1099511627776)]) (dst:=some 22) (k':=(Wnn 1110 8)) [22] [1] hP Ql2 (Qea.Qt a0 a1 (Qhd (Qb6 (IntKind.wrap .i64 (v1.1+a2)) (-1099511627776)) 1099511627776) h2) (by kernel_rfl) (Qel rfl rfl) (.cons (.same (.own 0 2 0 a0.length)) (.cons (Qk _) (.cons (Qk _) .nil))) (st':=⟨23,[(22,.own 2 2 0 v2.length)],[.gone,.gone,Yb v2]⟩) (by kernel_rfl) ?_
 refine qI ?_
 obtain rfl:=Yt H
 exact qT hT 2 hf hX h0 [0,2] (ac .gone (ac (Xa Qa.nl) an)) (.own _ _ _ _)
abbrev Wm.q1 (a1:Qp) (Qad:Int):=(a1.Pairs.getD Qad.toNat Qa.z)
abbrev Wm.p0 (a2:List Qb) (a1:Qp):List (Nat × AV):=[(2,.d (Yp true a2)),(4,.ptr 0 0 0 0),(52,.d (We true a1.Pairs)),(53,.i (a1.Pairs.length:Int))]
theorem Wm.Qt {t0:Bool} (a0:List Qa) (a1:Qp) (a2:List Qb) {r:(List Qa) × Bool} (H:Wm a0 a1 a2=some r):Xt Tryz.prog 83 [] [.d (We t0 a0),.d (Qan a1),.d (Yp true a2)] [Yb r.1] (.Ql [.own 0 2 0 r.1.length,.b r.2]):=by
 refine Wx Tryz.func83 rfl (nt:=93) rfl (lb rfl) fun X hP h0 hX=>?_
 have hT:Qw X.P T:=hP▸tok
 have hf:X.P.funcs[83]? = some Tryz.f83:=hP▸Tryz.func83
 refine qI ?_
 obtain ⟨v1,h1,H⟩:=ibC H
 have Yx:∀ (Qr3:Bool),(Wm.j1 a0 a1 a2 Qr3)=some r->AK X 83 ((K83 110 1)) (Ym X [Yb r.1] (.Ql [.own 0 2 0 r.1.length,.b r.2])) ⟨93,[(0,.d (We t0 a0)),(2,.d (Yp true a2)),(4,.ptr 0 0 0 0),(22,.b Qr3)],[.box 35 (Qak a1)]⟩:=by
  intro Qr3 H
  by_cases c6:Qr3=true
  ·replace H:=iT c6 H
   rw [c6]
   refine Xq hT 6 (K83 11010 1) ⟨93,[(6,.ns),(7,.b false)],[.box 35 (Qak a1)]⟩ ?_
   refine Qd1 [6,7] 6 2 97 (vec Qa.e Qa.z []) (st':=⟨93,[(6,.own 1 2 0 0),(7,.b false)],[.box 35 (Qak a1),Yb ([]:List Qa)]⟩) (by kernel_rfl) (by kernel_rfl) ?_
   obtain rfl:=Yt H
   exact Qd9 hf hX h0 (.Ql [.own 1 2 0 0,.b false]) [1] (ac (Xa Qa.nl) an) (.Ql (.cons (.own _ _ _ _) (.cons (.d (.v _)) .nil)))
  replace H:=iF c6 H
  rw [boF c6]
  refine qI ?_
  obtain ⟨h7,H⟩:=iC H
  refine qF hT 5 hP Qng (Qrj (tg:=t0) a0 h7) ?_
  refine qE hT 11 (K83 111100 1) ⟨93,[(2,.d (Yp true a2)),(4,.ptr 0 0 0 0),(6,.own 1 2 0 a0.length),(25,.b (a1.Kind == 2))],[.box 35 (Qak a1),Yb a0]⟩ ?_
  by_cases c8:a1.Kind=2
  ·replace H:=iT c8 H
   rw [eqT c8]
   refine Xq hT 7 (K83 111100100 4) ⟨93,[(29,.own 1 2 0 a0.length),(31,.d (Qgk a1.Over)),(32,.d (Yp true a2))],[.box 35 (Qak a1),Yb a0]⟩ ?_
   obtain ⟨v4,h9,H⟩:=ibC H
   refine Zd (Xx:=[.own 1 2 0 a0.length,.d (Qgk a1.Over),.d (Yp true a2)]) (dst:=some 33) (k':=(K83 111100100 5)) [33] [1] hP Wcv (Qj8.Qt a0 a1.Over a2 h9) (by kernel_rfl) (Qel rfl rfl) (.cons (.same (.own 0 2 0 a0.length)) (.cons (Qk _) (.cons (Qk _) .nil))) (st':=⟨93,[(33,.own 2 2 0 v4.length)],[.box 35 (Qak a1),.gone,Yb v4]⟩) (by kernel_rfl) ?_
   refine qI ?_
   obtain rfl:=Yt H
   exact qT hT 3 hf hX h0 [2] (ac (Xa Qa.nl) an) (.Ql (.cons (.own _ _ _ _) (.cons (.d (.v _)) .nil)))
  replace H:=iF c8 H
  rw [eqF c8]
  refine qI ?_
  obtain ⟨v5,h10,H⟩:=ibC H
  refine qF hT 4 hP Wcw (Qey.Qt a1 h10) ?_
  rcases iB H with ⟨c11,H⟩ | ⟨c11,H⟩
  ·refine qB hT 2 (c11) ?_
   refine qE hT 7 (K83 111100111000 3) ⟨93,[(4,.ptr 0 0 0 0),(6,.own 1 2 0 a0.length),(37,.d (Yp true a2)),(39,.d (We true a1.Pairs))],[.box 35 (Qak a1),Yb a0]⟩ ?_
   obtain ⟨h12,H⟩:=iC H
   refine qI ?_
   refine qX hT 0 h12 ?_
   obtain ⟨v6,h13,H⟩:=ibC H
   refine qF hT 2 hP Qni (Qe6.Qt (t0:=true) a2 ((a1.Pairs.getD 0 Qa.z).Key) h13) ?_
   refine qE hT 2 (K83 11110011100 1) ⟨93,[(4,.ptr 0 0 0 0),(6,.own 1 2 0 a0.length),(44,.b (!v6))],[.box 35 (Qak a1),Yb a0]⟩ ?_
   refine qI ?_
   rcases iB H with ⟨c14,H⟩ | ⟨c14,H⟩
   ·refine qB hT 0 (show (!v6)=false by rw [c14];rfl) ?_
    refine qE hT 6 (K83 111100111010 2) ⟨93,[(46,.own 1 2 0 a0.length),(47,.d (Qan a1))],[.box 35 (Qak a1),Yb a0]⟩ ?_
    obtain ⟨v7,h15,H⟩:=ibC H
    refine Zd (Xx:=[.own 1 2 0 a0.length,.d (Qan a1)]) (dst:=some 48) (k':=(K83 111100111010 3)) [48] [1] hP Wcx (Qb3.Qt a0 a1 h15) (by kernel_rfl) (Qel rfl rfl) (.cons (.same (.own 0 2 0 a0.length)) (.cons (Qk _) .nil)) (st':=⟨93,[(48,.Ql [.own 2 2 0 v7.1.length,.b v7.2])],[.box 35 (Qak a1),.gone,Yb v7.1]⟩) (by kernel_rfl) ?_
    refine qI ?_
    obtain rfl:=Yt H
    exact qT hT 5 hf hX h0 [2] (ac (Xa Qa.nl) an) (.Ql (.cons (.own _ _ _ _) (.cons (.d (.v _)) .nil)))
   refine qB hT 0 (show (!v6)=true by rw [boF c14];rfl) ?_
   obtain rfl:=Yt H
   exact qT hT 7 hf hX h0 [1] (ac (Xa Qa.nl) an) (.Ql (.cons (.own _ _ _ _) (.cons (.d (.v _)) .nil)))
  refine qB hT 2 (boF c11) ?_
  refine qE hT 13 (K83 11111010 0) ⟨93,[(2,.d (Yp true a2)),(4,.ptr 0 0 0 0),(6,.own 1 2 0 a0.length),(52,.d (We true a1.Pairs)),(53,.i (a1.Pairs.length:Int)),(54,.i 0)],[.box 35 (Qak a1),Yb a0]⟩ ?_
  have L:∀ n,(∀ (Qad:Int) (Xi:List Qa),iter (Wm.step a1 a2) n (.l1 Qad Xi)=some r->AK X 83 ((K83 11111010 0)) (Ym X [Yb r.1] (.Ql [.own 0 2 0 r.1.length,.b r.2])) ⟨93,[(2,.d (Yp true a2)),(4,.ptr 0 0 0 0),(6,.own 1 2 0 Xi.length),(52,.d (We true a1.Pairs)),(53,.i (a1.Pairs.length:Int)),(54,.i Qad)],[.box 35 (Qak a1),Yb Xi]⟩):=by
   intro n
   induction n with
   | zero=>exact fun _ _ H=>Qbh H
   | succ n ih=>
    ·intro Qad Xi H
     refine qI ?_
     rcases sB H with ⟨c16,H⟩ | ⟨c16,H⟩
     ·refine qB hT 5 (decide_eq_true c16) ?_
      obtain ⟨h17,H⟩:=sC H
      refine qX hT 7 h17 ?_
      refine qE hT 11 (K83 1111101001100100 3) ⟨93,[(2,.d (Yp true a2)),(4,.ptr 0 0 0 0),(6,.own 1 2 0 Xi.length),(8,.i Qad),(9,.ptr 2 0 0 0),(52,.d (We true a1.Pairs)),(53,.i (a1.Pairs.length:Int)),(54,.i Qad),(66,.d (Yp true a2)),(68,.i ((Wm.q1 a1 Qad).Key))],[.box 35 (Qak a1),Yb Xi,.box 97 (Qe1 (Wm.q1 a1 Qad))]⟩ ?_
      obtain ⟨v8,h18,H⟩:=sbC H
      have Jj2:∀ (Qpt:List Qa),Jq (Wm.j2 Qad Qpt) (iter (Wm.step a1 a2) n)=some r->AK X 83 ((K83 11111010011 1)) (Ym X [Yb r.1] (.Ql [.own 0 2 0 r.1.length,.b r.2])) ⟨93,[(2,.d (Yp true a2)),(4,.ptr 0 0 0 0),(6,.own 1 2 0 Qpt.length),(52,.d (We true a1.Pairs)),(53,.i (a1.Pairs.length:Int)),(54,.i Qad)],[.box 35 (Qak a1),Yb Qpt]⟩:=by
       intro Qpt H
       exact Xq hT 5 _ _ (ih (IntKind.wrap .i64 (Qad+1)) Qpt H)
      refine qI ?_
      refine qF hT 0 hP Qni (Qe6.Qt (t0:=true) a2 ((Wm.q1 a1 Qad).Key) h18) ?_
      rcases sB H with ⟨c19,H⟩ | ⟨c19,H⟩
      ·refine qB hT 3 (show (!v8)=false by rw [c19];rfl) ?_
       refine qE hT 8 (K83 11111010011001011 1) ⟨93,[(2,.d (Yp true a2)),(4,.ptr 0 0 0 0),(6,.own 1 2 0 Xi.length),(8,.i Qad),(9,.ptr 2 0 0 0),(52,.d (We true a1.Pairs)),(53,.i (a1.Pairs.length:Int)),(54,.i Qad),(71,.b (a1.Kind == 1))],[.box 35 (Qak a1),Yb Xi,.box 97 (Qe1 (Wm.q1 a1 Qad))]⟩ ?_
       by_cases c20:a1.Kind=1
       ·replace H:=sT c20 H
        rw [eqT c20]
        refine Xq hT 7 (K83 1111101001100101110 5) ⟨93,(Wm.p0 a2 a1++[(54,.i Qad),(75,.own 1 2 0 Xi.length),(77,.i ((Wm.q1 a1 Qad).Key)),(79,.i ((Wm.q1 a1 Qad).Val))]),[.box 35 (Qak a1),Yb Xi,.box 97 (Qe1 (Wm.q1 a1 Qad))]⟩ ?_
        obtain ⟨v9,h21,H⟩:=sbC H
        refine Zd (Xx:=[.own 1 2 0 Xi.length,.i ((Wm.q1 a1 Qad).Key),.i ((Wm.q1 a1 Qad).Val)]) (dst:=some 80) (k':=(K83 1111101001100101110 6)) [2,4,52,53,54,80] [1] hP Ql2 (Qea.Qt Xi ((Wm.q1 a1 Qad).Key) ((Wm.q1 a1 Qad).Val) h21) (by kernel_rfl) (Qel rfl rfl) (.cons (.same (.own 0 2 0 Xi.length)) (.cons (Qk _) (.cons (Qk _) .nil))) (st':=⟨93,(Wm.p0 a2 a1++[(54,.i Qad),(80,.own 3 2 0 v9.length)]),[.box 35 (Qak a1),.gone,.box 97 (Qe1 (Wm.q1 a1 Qad)),Yb v9]⟩) (by kernel_rfl) ?_
        exact Zr hT 4 _ [0,3] _ h0 (Jj2 v9 H)
       replace H:=sF c20 H
       rw [eqF c20]
       refine Xq hT 7 (K83 1111101001100101111 1) ⟨93,[(2,.d (Yp true a2)),(4,.ptr 0 0 0 0),(6,.own 1 2 0 Xi.length),(9,.ptr 2 0 0 0),(52,.d (We true a1.Pairs)),(53,.i (a1.Pairs.length:Int)),(54,.i Qad),(81,.b (Qad == 0))],[.box 35 (Qak a1),Yb Xi,.box 97 (Qe1 (Wm.q1 a1 Qad))]⟩ ?_
       by_cases c22:Qad=0
       ·replace H:=sT c22 H
        rw [eqT c22]
        refine Xq hT 8 (K83 111110100110010111110 6) ⟨93,(Wm.p0 a2 a1++[(54,.i Qad),(84,.own 1 2 0 Xi.length),(86,.i ((Wm.q1 a1 Qad).Key)),(89,.i (IntKind.wrap .i64 (0 - ((Wm.q1 a1 Qad).Val))))]),[.box 35 (Qak a1),Yb Xi,.box 97 (Qe1 (Wm.q1 a1 Qad))]⟩ ?_
        obtain ⟨v10,h23,H⟩:=sbC H
        refine Zd (Xx:=[.own 1 2 0 Xi.length,.i ((Wm.q1 a1 Qad).Key),.i (IntKind.wrap .i64 (0 - ((Wm.q1 a1 Qad).Val)))]) (dst:=some 90) (k':=(K83 111110100110010111110 7)) [2,4,52,53,54,90] [1] hP Qt4 (Qfw.Qt Xi ((Wm.q1 a1 Qad).Key) (IntKind.wrap .i64 (0 - ((Wm.q1 a1 Qad).Val))) h23) (by kernel_rfl) (Qel rfl rfl) (.cons (.same (.own 0 2 0 Xi.length)) (.cons (Qk _) (.cons (Qk _) .nil))) (st':=⟨93,(Wm.p0 a2 a1++[(54,.i Qad),(90,.own 3 2 0 v10.length)]),[.box 35 (Qak a1),.gone,.box 97 (Qe1 (Wm.q1 a1 Qad)),Yb v10]⟩) (by kernel_rfl) ?_
        exact Zr hT 4 _ [0,3] _ h0 (Jj2 v10 H)
       replace H:=sF c22 H
       rw [eqF c22]
       refine Xq hT 7 (K83 111110100110010111111 5) ⟨93,(Wm.p0 a2 a1++[(54,.i Qad),(59,.own 1 2 0 Xi.length),(61,.i ((Wm.q1 a1 Qad).Key)),(63,.i ((Wm.q1 a1 Qad).Val))]),[.box 35 (Qak a1),Yb Xi,.box 97 (Qe1 (Wm.q1 a1 Qad))]⟩ ?_
       obtain ⟨v11,h24,H⟩:=sbC H
       refine Zd (Xx:=[.own 1 2 0 Xi.length,.i ((Wm.q1 a1 Qad).Key),.i ((Wm.q1 a1 Qad).Val)]) (dst:=some 64) (k':=(K83 111110100110010111111 6)) [2,4,52,53,54,64] [1] hP Qt4 (Qfw.Qt Xi ((Wm.q1 a1 Qad).Key) ((Wm.q1 a1 Qad).Val) h24) (by kernel_rfl) (Qel rfl rfl) (.cons (.same (.own 0 2 0 Xi.length)) (.cons (Qk _) (.cons (Qk _) .nil))) (st':=⟨93,(Wm.p0 a2 a1++[(54,.i Qad),(64,.own 3 2 0 v11.length)]),[.box 35 (Qak a1),.gone,.box 97 (Qe1 (Wm.q1 a1 Qad)),Yb v11]⟩) (by kernel_rfl) ?_
       exact Zr hT 4 _ [0,3] _ h0 (Jj2 v11 H)
      refine qB hT 3 (show (!v8)=true by rw [boF c19];rfl) ?_
      exact qC hT 4 _ [0,1] _ h0 (Jj2 Xi H)
     refine qB hT 5 (decide_eq_false c16) ?_
     obtain rfl:=Yt H
     exact qT hT 8 hf hX h0 [1] (ac (Xa Qa.nl) an) (.Ql (.cons (.own _ _ _ _) (.cons (.d (.v _)) .nil)))
  obtain ⟨n,H⟩:=Qbw H
  exact (L n) 0 a0 H
 refine qF hT 10 hP Qf1 (Wz.Qt (t0:=t0) a0 h1) ?_
 rcases iB H with ⟨c2,H⟩ | ⟨c2,H⟩
 ·refine qB hT 2 (show (!v1)=false by rw [c2];rfl) ?_
  refine qE hT 1 (K83 1100 5) ⟨93,[(0,.d (We t0 a0)),(2,.d (Yp true a2)),(4,.ptr 0 0 0 0),(13,.b false),(14,.d (Qan a1))],[.box 35 (Qak a1)]⟩ ?_
  obtain ⟨v2,h3,H⟩:=ibC H
  refine qI ?_
  refine qF hT 0 hP Qg0 (Qbi.Qt a1 h3) ?_
  rcases iB H with ⟨c4,H⟩ | ⟨c4,H⟩
  ·refine qB hT 3 (show (!v2)=false by rw [c4];rfl) ?_
   refine qE hT 1 (K83 1100 10) ⟨93,[(0,.d (We t0 a0)),(2,.d (Yp true a2)),(4,.ptr 0 0 0 0),(18,.b false),(19,.d (Yp true a2))],[.box 35 (Qak a1)]⟩ ?_
   obtain ⟨v3,h5,H⟩:=ibC H
   refine qI ?_
   refine qF hT 0 hP Qnh (Jf.Qt (t0:=true) a2 h5) ?_
   exact qE hT 3 _ _ (Yx (!v3) H)
  refine qB hT 3 (show (!v2)=true by rw [boF c4];rfl) ?_
  exact qE hT 5 _ _ (Yx true H)
 refine qB hT 2 (show (!v1)=true by rw [boF c2];rfl) ?_
 exact qE hT 10 _ _ (Yx true H)
theorem Qar.Qt (a0:Qc) {r:List Qa} (H:Qar a0=some r):Xt Tryz.prog 40 [] [.d (Qcc a0)] [] (.d (We true r)):=by
 refine Wx Tryz.func40 rfl (nt:=28) rfl (lb rfl) fun X hP h0 hX=>?_
 have hT:Qw X.P T:=hP▸tok
 have hf:X.P.funcs[40]? = some Tryz.f40:=hP▸Tryz.func40
 refine Xq hT 21 (K40 111010 0) ⟨28,[(1,.ptr 0 0 0 0),(3,.d (We true a0.Base)),(9,.d (Zl true a0.Log)),(10,.i (a0.Log.length:Int)),(11,.i 0)],[.box 30 (Jo a0)]⟩ ?_
 have L:∀ n,(∀ (Yz:List Qa) (Yg:Int),iter (Qar.step a0) n (.l1 Yz Yg)=some r->AK X 40 ((K40 111010 0)) (Ym X [] (.d (We true r))) ⟨28,[(1,.ptr 0 0 0 0),(3,.d (We true Yz)),(9,.d (Zl true a0.Log)),(10,.i (a0.Log.length:Int)),(11,.i Yg)],[.box 30 (Jo a0)]⟩):=by
  intro n
  induction n with
  | zero=>exact fun _ _ H=>Qbh H
  | succ n ih=>
   ·intro Yz Yg H
    refine qI ?_
    rcases sB H with ⟨c1,H⟩ | ⟨c1,H⟩
    ·refine qB hT 5 (decide_eq_true c1) ?_
     obtain ⟨h2,H⟩:=sC H
     have Yx:∀ (Qhi:List Qa),Jq (Qar.j1 Yg Qhi) (iter (Qar.step a0) n)=some r->AK X 40 ((K40 111010011 1)) (Ym X [] (.d (We true r))) ⟨28,[(1,.ptr 0 0 0 0),(3,.d (We true Qhi)),(9,.d (Zl true a0.Log)),(10,.i (a0.Log.length:Int)),(11,.i Yg)],[.box 30 (Jo a0)]⟩:=by
      intro Qhi H
      exact Xq hT 5 _ _ (ih Qhi (IntKind.wrap .i64 (Yg+1)) H)
     refine qX hT 6 h2 ?_
     refine qE hT 9 (K40 111010011001 1) ⟨28,[(1,.ptr 0 0 0 0),(3,.d (We true Yz)),(5,.ptr 1 0 0 0),(9,.d (Zl true a0.Log)),(10,.i (a0.Log.length:Int)),(11,.i Yg),(16,.b ((a0.Log.getD Yg.toNat Qe.z).Qa3))],[.box 30 (Jo a0),.box 141 (Qe9 (a0.Log.getD Yg.toNat Qe.z))]⟩ ?_
     refine qI ?_
     rcases sB H with ⟨c3,H⟩ | ⟨c3,H⟩
     ·refine qB hT 0 (c3) ?_
      refine qE hT 1 (K40 1110100110011 0) ⟨28,[(1,.ptr 0 0 0 0),(3,.d (We true Yz)),(5,.ptr 1 0 0 0),(9,.d (Zl true a0.Log)),(10,.i (a0.Log.length:Int)),(11,.i Yg)],[.box 30 (Jo a0),.box 141 (Qe9 (a0.Log.getD Yg.toNat Qe.z))]⟩ ?_
      obtain ⟨v1,h4,H⟩:=sbC H
      refine Qcz (nt:=28) (hP▸mixed) 10 [4,5] [1,3,5,9,10,11] [(1,.ptr 0 0 0 0),(3,.d (We true Yz)),(5,.ptr 1 0 0 0),(9,.d (Zl true a0.Log)),(10,.i (a0.Log.length:Int)),(11,.i Yg)] (sm [.d (We true Yz),.ptr 1 0 0 0,.d (Qan ((a0.Log.getD Yg.toNat Qe.z).M)),.d (Qcc a0),.own 2 2 0 ((Zx a0).length),.Ql [.own 3 2 0 v1.1.length,.b v1.2],.Ql [.own 3 2 0 v1.1.length,.b v1.2],.own 3 2 0 v1.1.length,.b v1.2,.own 3 2 0 v1.1.length]) [[.box 30 (Jo a0),.box 141 (Qe9 (a0.Log.getD Yg.toNat Qe.z))],[.box 30 (Jo a0),.box 141 (Qe9 (a0.Log.getD Yg.toNat Qe.z)),Je (Zx a0)],[.box 30 (Jo a0),.box 141 (Qe9 (a0.Log.getD Yg.toNat Qe.z)),Qfm (Zx a0),Yb v1.1]] (by kernel_rfl) (by kernel_rfl) (by kernel_rfl) (by kernel_rfl) ⟨(Wh (Wh (Wh (Wh (Qcj (Qcj (Wh (Wh (Wh (Wh Qer hT) hT) hT) hT))) hT) hT) hT) hT),(fun R rest h=>Qdb (Xx:=[.d (Qcc a0)]) (dst:=some 22) hP Qf0 (Zx.Qt a0) (by kernel_rfl) (.cons (Qk _) .nil) (by kernel_rfl) h),⟨(Wh (Wh (Wh (Wh (Qcj (Qcj (Wh (Wh (Wh (Wh Qer hT) hT) hT) hT))) hT) hT) hT) hT),(fun R rest h=>Qcb 2 (kk:=2) (n:=(Zx a0).length) (ty:=24) (g:=vec Qb.e Qb.z (Zx a0)) (by kernel_rfl) rfl ((fun R rest h=>Qdb (Xx:=[.d (We true Yz),.d (Qan ((a0.Log.getD Yg.toNat Qe.z).M)),.own 2 2 0 ((Zx a0).length)]) (dst:=some 23) hP Qqh (Wm.Qt (t0:=true) Yz ((a0.Log.getD Yg.toNat Qe.z).M) (Zx a0) h4) (by kernel_rfl) (.cons (Qk _) (.cons (Qk _) (.cons (.Qcr (ty:=24) (by kernel_rfl) rfl) .nil))) (by kernel_rfl) h) R rest h)),(Wh (Wh (Wh (Wh (Qcj (Qcj (Wh (Wh (Wh (Wh Qer hT) hT) hT) hT))) hT) hT) hT) hT)⟩⟩ ?_
      refine Xq hT 2 (K40 111010011 1) ⟨28,[(1,.ptr 0 0 0 0),(3,.own 3 2 0 v1.1.length),(9,.d (Zl true a0.Log)),(10,.i (a0.Log.length:Int)),(11,.i Yg)],[.box 30 (Jo a0),.box 141 (Qe9 (a0.Log.getD Yg.toNat Qe.z)),Qfm (Zx a0),Yb v1.1]⟩ ?_
      refine Qcb 3 (kk:=2) (n:=v1.1.length) (ty:=97) (g:=vec Qa.e Qa.z v1.1) (by kernel_rfl) (st':=⟨28,[(1,.ptr 0 0 0 0),(3,.own 3 2 0 v1.1.length),(9,.d (Zl true a0.Log)),(10,.i (a0.Log.length:Int)),(11,.i Yg)],[.box 30 (Jo a0),.box 141 (Qe9 (a0.Log.getD Yg.toNat Qe.z)),Qfm (Zx a0),Qgj v1.1]⟩) (by kernel_rfl) ?_
      refine Qe4 (av:=.own 3 2 0 v1.1.length) (y:=We true v1.1) [1,3,9,10,11] 3 (st':=⟨28,[(1,.ptr 0 0 0 0),(3,.d (We true v1.1)),(9,.d (Zl true a0.Log)),(10,.i (a0.Log.length:Int)),(11,.i Yg)],[.box 30 (Jo a0),.box 141 (Qe9 (a0.Log.getD Yg.toNat Qe.z)),Qfm (Zx a0),Qgj v1.1]⟩) (by kernel_rfl) (.own (ty:=97) (k:=2) (by kernel_rfl)) (by kernel_rfl) ?_
      refine Qik [0] ⟨28,[(1,.ptr 0 0 0 0),(3,.d (We true v1.1)),(9,.d (Zl true a0.Log)),(10,.i (a0.Log.length:Int)),(11,.i Yg)],[.box 30 (Jo a0)]⟩ h0 ?_
      exact Yx v1.1 H
     refine qB hT 0 (boF c3) ?_
     exact qC hT 3 _ [0] _ h0 (Yx Yz H)
    refine qB hT 5 (decide_eq_false c1) ?_
    obtain rfl:=Yt H
    exact qT hT 7 hf hX h0 [] an (.d (.sl fun _ _=>Qa.nl _))
 obtain ⟨n,H⟩:=Qbw H
 exact (L n) a0.Base 0 H
theorem Qhs.Qt (a0:Qc) (a1:Int) (a2:Int) {r:Int × Bool} (H:Qhs a0 a1 a2=some r):Xt Tryz.prog 70 [] [.d (.agg [.i a0.ID,.i a0.Keys.Lo,.i a0.Keys.Hi,.i a0.Clock,.b a0.Ws,.b a0.Wn,Qac true a0.Held,We false a0.Base,Zl true a0.Log,Zy false a0.Known]),.i a1,.i a2] [] (.Ql [.i r.1,.b r.2]):=by
 refine Wx Tryz.func70 rfl (nt:=16) rfl (lb rfl) fun X hP h0 hX=>?_
 have hT:Qw X.P T:=hP▸tok
 have hf:X.P.funcs[70]? = some Tryz.f70:=hP▸Tryz.func70
 refine qI ?_
 obtain ⟨v1,h1,H⟩:=ibC H
 refine qF hT 13 hP Qo3 (Qu.Qt (t0:=false) (ff2:=114) (cc2:=[]) a0.Known (⟨a1,a2,0,false⟩:Qg) (fun z0 z1=>Qcp z0 z1) Ql0 (fun z0 z1 r h=>Qcp.Qt z0 z1 h) h1) ?_
 obtain rfl:=Yt H
 exact qT hT 5 hf hX h0 [] an (.Ql (.cons (.d (.v _)) (.cons (.d (.v _)) .nil)))
abbrev Xj.q1:List AV:=[.i 0,.i 0,.i 0,.i 0,.b false,.b false,.ns,.ns,.ns,.ns]
abbrev Xj.q2 (Qc5:Int) (Jl:List Qa) (Qco:List Qg):List AV:=[.i 0,.i 0,.i 0,.i Qc5,.b false,.b false,.ns,.own 2 2 0 Jl.length,.ns,.own 3 4 0 Qco.length]
abbrev Xj.q3 (Qck:Int) (Zt:List Qa) (Qcm:List Qg):List AV:=[.i 0,.i 0,.i 0,.i Qck,.b false,.b false,.ns,.own 2 2 0 Zt.length,.ns,.own 3 4 0 Qcm.length]
abbrev Xj.p0 (t0:Bool) (a0:List Qc):List (Nat × AV):=[(2,.ptr 0 0 0 0),(3,.ptr 1 0 0 0),(10,.d (Qc8 t0 a0)),(11,.i (a0.length:Int))]
theorem Xj.Qt {t0:Bool} (a0:List Qc) {r:Qc} (H:Xj a0=some r):Xt Tryz.prog 34 [] [.d (Qc8 t0 a0)] [] (.d (Qcc r)):=by
 refine Wx Tryz.func34 rfl (nt:=56) rfl (lb rfl) fun X hP h0 hX=>?_
 have hT:Qw X.P T:=hP▸tok
 have hf:X.P.funcs[34]? = some Tryz.f34:=hP▸Tryz.func34
 refine Xq hT 17 (K34 111010 0) ⟨56,(Xj.p0 t0 a0++[(12,.i 0)]),[.box 30 (Xj.q1),.box 30 (Xj.q1)]⟩ ?_
 refine Qjx (tb:=30) (cs:=[.i 0,.i 0,.i 0,.i 0,.b false,.b false,.ns,.ns,.ns,.ns]) 1 7 2 97 (vec Qa.e Qa.z []) (st':=⟨56,(Xj.p0 t0 a0++[(12,.i 0)]),[.box 30 (Xj.q1),.box 30 [.i 0,.i 0,.i 0,.i 0,.b false,.b false,.ns,.own 2 2 0 0,.ns,.ns],Yb ([]:List Qa)]⟩) (by kernel_rfl) (by kernel_rfl) ?_
 refine Qjx (tb:=30) (cs:=[.i 0,.i 0,.i 0,.i 0,.b false,.b false,.ns,.own 2 2 0 0,.ns,.ns]) 1 9 4 131 (vec Qg.e Qg.z []) (st':=⟨56,(Xj.p0 t0 a0++[(12,.i 0)]),[.box 30 (Xj.q1),.box 30 [.i 0,.i 0,.i 0,.i 0,.b false,.b false,.ns,.own 2 2 0 0,.ns,.own 3 4 0 0],Yb ([]:List Qa),Wy ([]:List Qg)]⟩) (by kernel_rfl) (by kernel_rfl) ?_
 have L:∀ n,(∀ (Qa5:Int) (Qck:Int) (Zt:List Qa) (Qcm:List Qg),iter (Xj.step a0) n (.l1 Qa5 Qck Zt Qcm)=some r->AK X 34 ((K34 111010 0)) (Ym X [] (.d (Qcc r))) ⟨56,(Xj.p0 t0 a0++[(12,.i Qa5)]),[.box 30 (Xj.q1),.box 30 (Xj.q3 Qck Zt Qcm),Yb Zt,Wy Qcm]⟩)/\(∀ (Qfh:Int) (Qc2:List Qg) (Qfz:Int) (Qcn:Int) (Qc5:Int) (Jl:List Qa) (Qco:List Qg),iter (Xj.step a0) n (.l2 Qfh Qc2 Qfz Qcn Qc5 Jl Qco)=some r->AK X 34 ((K34 1110100110011110 0)) (Ym X [] (.d (Qcc r))) ⟨56,(Xj.p0 t0 a0++[(12,.i Qfh),(29,.d (Zy true Qc2)),(30,.i Qfz),(31,.i Qcn)]),[.box 30 (Xj.q1),.box 30 (Xj.q2 Qc5 Jl Qco),Yb Jl,Wy Qco]⟩):=by
  intro n
  induction n with
  | zero=>exact ⟨fun _ _ _ _ H=>Qbh H,fun _ _ _ _ _ _ _ H=>Qbh H⟩
  | succ n ih=>
   refine ⟨?_, ?_⟩
   ·intro Qa5 Qck Zt Qcm H
    refine qI ?_
    rcases sB H with ⟨c1,H⟩ | ⟨c1,H⟩
    ·refine qB hT 5 (decide_eq_true c1) ?_
     obtain ⟨h2,H⟩:=sC H
     refine qX hT 6 h2 ?_
     refine qE hT 15 (K34 1110100110011 0) ⟨56,[(2,.ptr 0 0 0 0),(3,.ptr 1 0 0 0),(5,.ptr 4 0 0 0),(10,.d (Qc8 t0 a0)),(11,.i (a0.length:Int)),(12,.i Qa5)],[.box 30 (Xj.q1),.box 30 [.i 0,.i 0,.i 0,.i (Qb6 Qck ((a0.getD Qa5.toNat Qc.z).Clock)),.b false,.b false,.ns,.own 2 2 0 Zt.length,.ns,.own 3 4 0 Qcm.length],Yb Zt,Wy Qcm,.box 30 (Jo (a0.getD Qa5.toNat Qc.z))]⟩ ?_
     obtain ⟨v1,h3,H⟩:=sbC H
     refine Qab (hP▸mixed) 4 [2,3,5,10,11,12] (sm [.ptr 1 0 0 7,.own 2 2 0 Zt.length,.d (Qcc (a0.getD Qa5.toNat Qc.z)),.d (We true v1)]) (opS (Qd (Qd (Qd op0 hT) hT) hT) (fun R rest h=>Zk (Xx:=[.d (Qcc (a0.getD Qa5.toNat Qc.z))]) (dst:=some 25) hP Qqe (Qar.Qt (a0.getD Qa5.toNat Qc.z) h3) (by kernel_rfl) (.cons (Qk _) .nil) (by kernel_rfl) h)) ?_
     refine Xq hT 0 (K34 11101001100110 4) ⟨56,[(2,.ptr 0 0 0 0),(3,.ptr 1 0 0 0),(5,.ptr 4 0 0 0),(10,.d (Qc8 t0 a0)),(11,.i (a0.length:Int)),(12,.i Qa5),(23,.own 2 2 0 Zt.length),(25,.d (We true v1))],[.box 30 (Xj.q1),.box 30 [.i 0,.i 0,.i 0,.i (Qb6 Qck ((a0.getD Qa5.toNat Qc.z).Clock)),.b false,.b false,.ns,.own 2 2 0 Zt.length,.ns,.own 3 4 0 Qcm.length],Yb Zt,Wy Qcm,.box 30 (Jo (a0.getD Qa5.toNat Qc.z))]⟩ ?_
     obtain ⟨h4,H⟩:=sC H
     refine Qiu (id:=2) (kk:=2) (by':=16) (t:=26) (e:=97) (z:=[.int .i64 0,.int .i64 0]) (dst:=some 26) (k':=(K34 11101001100110 5)) (x:=.d (We true v1)) hT Qa.e Qa.z Zt v1 [2,3,5,10,11,12,26] (by kernel_rfl) (by kernel_rfl) (.sl fun _ _=>rfl) (by kernel_rfl) (by kernel_rfl) (by kernel_rfl) (by kernel_rfl) h4 (by omega) (st':=⟨56,[(2,.ptr 0 0 0 0),(3,.ptr 1 0 0 0),(5,.ptr 4 0 0 0),(10,.d (Qc8 t0 a0)),(11,.i (a0.length:Int)),(12,.i Qa5),(26,.own 5 2 0 ((Zt ++ v1).length))],[.box 30 (Xj.q1),.box 30 [.i 0,.i 0,.i 0,.i (Qb6 Qck ((a0.getD Qa5.toNat Qc.z).Clock)),.b false,.b false,.ns,.own 2 2 0 Zt.length,.ns,.own 3 4 0 Qcm.length],.gone,Wy Qcm,.box 30 (Jo (a0.getD Qa5.toNat Qc.z)),Yb (Zt ++ v1)]⟩) (by kernel_rfl) ?_
     exact Zr hT 12 _ [0,1,5,3] _ h0 (ih.2 Qa5 ((a0.getD Qa5.toNat Qc.z).Known) (((a0.getD Qa5.toNat Qc.z).Known).length:Int) 0 (Qb6 Qck ((a0.getD Qa5.toNat Qc.z).Clock)) (Zt ++ v1) Qcm H)
    refine qB hT 5 (decide_eq_false c1) ?_
    refine qE hT 5 (K34 11110 1) ⟨56,[(2,.ptr 0 0 0 0),(55,.agg [.i 0,.i 0,.i 0,.i Qck,.b false,.b false,.ns,.own 2 2 0 Zt.length,.ns,.own 3 4 0 Qcm.length])],[.box 30 (Xj.q1),.box 30 (Xj.q3 Qck Zt Qcm),Yb Zt,Wy Qcm]⟩ ?_
    refine Qcb 2 (kk:=2) (n:=Zt.length) (ty:=97) (g:=vec Qa.e Qa.z Zt) (by kernel_rfl) (st':=⟨56,[(2,.ptr 0 0 0 0),(55,.agg [.i 0,.i 0,.i 0,.i Qck,.b false,.b false,.ns,.own 2 2 0 Zt.length,.ns,.own 3 4 0 Qcm.length])],[.box 30 (Xj.q1),.box 30 (Xj.q3 Qck Zt Qcm),Qgj Zt,Wy Qcm]⟩) (by kernel_rfl) ?_
    refine Qcb 3 (kk:=4) (n:=Qcm.length) (ty:=131) (g:=vec Qg.e Qg.z Qcm) (by kernel_rfl) (st':=⟨56,[(2,.ptr 0 0 0 0),(55,.agg [.i 0,.i 0,.i 0,.i Qck,.b false,.b false,.ns,.own 2 2 0 Zt.length,.ns,.own 3 4 0 Qcm.length])],[.box 30 (Xj.q1),.box 30 (Xj.q3 Qck Zt Qcm),Qgj Zt,Qjn Qcm]⟩) (by kernel_rfl) ?_
    refine Qe4 (av:=.agg [.i 0,.i 0,.i 0,.i Qck,.b false,.b false,.ns,.own 2 2 0 Zt.length,.ns,.own 3 4 0 Qcm.length]) (y:=.agg [.i 0,.i 0,.i 0,.i Qck,.b false,.b false,Qac true ([]:List Qh),We true Zt,Zl true ([]:List Qe),Zy true Qcm]) [2,55] 55 (st':=⟨56,[(2,.ptr 0 0 0 0),(55,.d (.agg [.i 0,.i 0,.i 0,.i Qck,.b false,.b false,Qac true ([]:List Qh),We true Zt,Zl true ([]:List Qe),Zy true Qcm]))],[.box 30 (Xj.q1),.box 30 (Xj.q3 Qck Zt Qcm),Qgj Zt,Qjn Qcm]⟩) (by kernel_rfl) (.agg (.cons (.d _) (.cons (.d _) (.cons (.d _) (.cons (.d _) (.cons (.d _) (.cons (.d _) (.cons (.nil _) (.cons (.own (ty:=97) (k:=2) (by kernel_rfl)) (.cons (.nil _) (.cons (.own (ty:=131) (k:=4) (by kernel_rfl)) .nil))))))))))) (by kernel_rfl) ?_
    refine Xq hT 2 (K34 1111 1) ⟨56,[(2,.ptr 0 0 0 0)],[.box 30 [.i 0,.i 0,.i 0,.i Qck,.b false,.b false,.d (Qac true ([]:List Qh)),.d (We true Zt),.d (Zl true ([]:List Qe)),.d (Zy true Qcm)],.box 30 (Xj.q3 Qck Zt Qcm),Qgj Zt,Qjn Qcm]⟩ ?_
    obtain rfl:=Yt H
    exact Qh4 hT hf hX (av:=.d (.agg [.i 0,.i 0,.i 0,.i Qck,.b false,.b false,Qac true ([]:List Qh),We true Zt,Zl true ([]:List Qe),Zy true Qcm])) (by kernel_rfl) [] (Qal (by kernel_rfl)) (by decide) (by rw [h0];rfl) (by kernel_rfl) an (.d (.agg (Qc.nl _)))
   intro Qfh Qc2 Qfz Qcn Qc5 Jl Qco H
   refine qI ?_
   rcases sB H with ⟨c5,H⟩ | ⟨c5,H⟩
   ·refine qB hT 5 (decide_eq_true c5) ?_
    obtain ⟨h6,H⟩:=sC H
    refine qX hT 6 h6 ?_
    refine qE hT 11 (K34 11101001100111100110010 5) ⟨56,[(2,.ptr 0 0 0 0),(3,.ptr 1 0 0 0),(7,.ptr 4 0 0 0),(10,.d (Qc8 t0 a0)),(11,.i (a0.length:Int)),(12,.i Qfh),(29,.d (Zy true Qc2)),(30,.i Qfz),(31,.i Qcn),(36,.agg [.i 0,.i 0,.i 0,.i Qc5,.b false,.b false,.ns,.own 2 2 0 Jl.length,.ns,.own 3 4 0 Qco.length]),(38,.i ((Qc2.getD Qcn.toNat Qg.z).Client)),(40,.i ((Qc2.getD Qcn.toNat Qg.z).Seq))],[.box 30 (Xj.q1),.box 30 (Xj.q2 Qc5 Jl Qco),Yb Jl,Wy Qco,.box 131 (Qfr (Qc2.getD Qcn.toNat Qg.z))]⟩ ?_
    obtain ⟨v2,h7,H⟩:=sbC H
    have Yx:∀ (Qpr:List Qg),Jq (Xj.j1 Qfh Qc2 Qfz Qcn Qc5 Jl Qpr) (iter (Xj.step a0) n)=some r->AK X 34 ((K34 1110100110011110011 1)) (Ym X [] (.d (Qcc r))) ⟨56,(Xj.p0 t0 a0++[(12,.i Qfh),(29,.d (Zy true Qc2)),(30,.i Qfz),(31,.i Qcn)]),[.box 30 (Xj.q1),.box 30 [.i 0,.i 0,.i 0,.i Qc5,.b false,.b false,.ns,.own 2 2 0 Jl.length,.ns,.own 3 4 0 Qpr.length],Yb Jl,Wy Qpr]⟩:=by
     intro Qpr H
     exact Xq hT 5 _ _ (ih.2 Qfh Qc2 Qfz (IntKind.wrap .i64 (Qcn+1)) Qc5 Jl Qpr H)
    refine Zd (Xx:=[.agg [.i 0,.i 0,.i 0,.i Qc5,.b false,.b false,.ns,.own 2 2 0 Jl.length,.ns,.own 3 4 0 Qco.length],.i ((Qc2.getD Qcn.toNat Qg.z).Client),.i ((Qc2.getD Qcn.toNat Qg.z).Seq)]) (dst:=some 41) (k':=(K34 11101001100111100110010 6)) [2,3,7,10,11,12,29,30,31,41] [] hP Qlm (Qhs.Qt (⟨0,(⟨0,0⟩:Qb),Qc5,false,false,[],Jl,[],Qco⟩:Qc) ((Qc2.getD Qcn.toNat Qg.z).Client) ((Qc2.getD Qcn.toNat Qg.z).Seq) h7) (by kernel_rfl) (Qao _) (.cons (.agg (.cons (Qk _) (.cons (Qk _) (.cons (Qk _) (.cons (Qk _) (.cons (Qk _) (.cons (Qk _) (.cons (.nil _ _) (.cons (.Qcr (ty:=97) (by kernel_rfl) rfl) (.cons (.nil _ _) (.cons (.Qcr (ty:=131) (by kernel_rfl) rfl) .nil))))))))))) (.cons (Qk _) (.cons (Qk _) .nil))) (st':=⟨56,[(2,.ptr 0 0 0 0),(3,.ptr 1 0 0 0),(7,.ptr 4 0 0 0),(10,.d (Qc8 t0 a0)),(11,.i (a0.length:Int)),(12,.i Qfh),(29,.d (Zy true Qc2)),(30,.i Qfz),(31,.i Qcn),(41,.Ql [.i v2.1,.b v2.2])],[.box 30 (Xj.q1),.box 30 (Xj.q2 Qc5 Jl Qco),Yb Jl,Wy Qco,.box 131 (Qfr (Qc2.getD Qcn.toNat Qg.z))]⟩) (by kernel_rfl) ?_
    refine qI ?_
    rcases sB H with ⟨c8,H⟩ | ⟨c8,H⟩
    ·refine qB hT 11 (show (!v2.2)=false by rw [c8];rfl) ?_
     exact qC hT 3 _ [0,1,2,3] _ h0 (Yx Qco H)
    refine qB hT 11 (show (!v2.2)=true by rw [boF c8];rfl) ?_
    refine qE hT 7 (K34 1110100110011110011001110 5) ⟨56,(Xj.p0 t0 a0++[(12,.i Qfh),(29,.d (Zy true Qc2)),(30,.i Qfz),(31,.i Qcn),(47,.own 3 4 0 Qco.length),(48,.i v2.1),(50,.own 5 4 0 1)]),[.box 30 (Xj.q1),.box 30 (Xj.q2 Qc5 Jl Qco),Yb Jl,Wy Qco,.box 131 (Qfr (Qc2.getD Qcn.toNat Qg.z)),.flat false 4 131 1 (fun j=>[Qg.e (Qc2.getD Qcn.toNat Qg.z)].getD j [])]⟩ ?_
    obtain ⟨h9,H⟩:=sC H
    refine Zd (Xx:=[.own 3 4 0 Qco.length,.i v2.1,.own 5 4 0 1]) (dst:=some 51) (k':=(K34 1110100110011110011001110 6)) [2,3,10,11,12,29,30,31,51] [3,5] hP Qwh (Qzc Qco v2.1 (Qc2.getD Qcn.toNat Qg.z) h9) (by kernel_rfl) (Qj2 rfl rfl rfl rfl (by decide)) (.cons (.same (.own 0 4 0 Qco.length)) (.cons (Qk _) (.cons (.same (.own 1 4 0 1)) .nil))) (st':=⟨56,(Xj.p0 t0 a0++[(12,.i Qfh),(29,.d (Zy true Qc2)),(30,.i Qfz),(31,.i Qcn),(51,.own 6 4 0 ((Qco.take v2.1.toNat ++ (Qc2.getD Qcn.toNat Qg.z) :: Qco.drop v2.1.toNat).length))]),[.box 30 (Xj.q1),.box 30 (Xj.q2 Qc5 Jl Qco),Yb Jl,.gone,.box 131 (Qfr (Qc2.getD Qcn.toNat Qg.z)),.gone,Wy (Qco.take v2.1.toNat ++ (Qc2.getD Qcn.toNat Qg.z) :: Qco.drop v2.1.toNat)]⟩) (by kernel_rfl) ?_
    exact Zr hT 4 _ [0,1,2,6] _ h0 (Yx (Qco.take v2.1.toNat ++ (Qc2.getD Qcn.toNat Qg.z) :: Qco.drop v2.1.toNat) H)
   refine qB hT 5 (decide_eq_false c5) ?_
   exact qE hT 8 _ _ (ih.1 (IntKind.wrap .i64 (Qfh+1)) Qc5 Jl Qco H)
 refine Qik [0,1,2,3] ⟨56,(Xj.p0 t0 a0++[(12,.i 0)]),[.box 30 (Xj.q1),.box 30 [.i 0,.i 0,.i 0,.i 0,.b false,.b false,.ns,.own 2 2 0 ([]:List Qa).length,.ns,.own 3 4 0 ([]:List Qg).length],Yb ([]:List Qa),Wy ([]:List Qg)]⟩ h0 ?_
 obtain ⟨n,H⟩:=Qbw H
 exact (L n).1 0 0 ([]:List Qa) ([]:List Qg) H
abbrev Qci.q1 (a0:Qp):List AV:=[.i a0.Client,.i a0.Seq,.i a0.Kind,.own 2 2 0 a0.Pairs.length,.i a0.Over.Lo,.i a0.Over.Hi,.i a0.Old]
abbrev Qci.p0 (a0:Qp):List (Nat × AV):=[(2,.ptr 1 0 0 0),(7,.agg [.i a0.Client,.i a0.Seq,.i a0.Kind,.own 2 2 0 a0.Pairs.length,.i a0.Over.Lo,.i a0.Over.Hi,.i a0.Old])]
theorem Qci.Qt (a0:Qp) {r:Qp} (H:Qci a0=some r):Xt Tryz.prog 75 [] [.d (Qan a0)] [] (.d (Qan r)):=by
 refine Wx Tryz.func75 rfl (nt:=8) rfl (lb rfl) fun X hP h0 hX=>?_
 have hT:Qw X.P T:=hP▸tok
 have hf:X.P.funcs[75]? = some Tryz.f75:=hP▸Tryz.func75
 refine qI ?_
 obtain ⟨h1,H⟩:=iC H
 refine qF hT 9 hP Qng (Qrj (tg:=true) a0.Pairs h1) ?_
 refine qE hT 6 (K75 1110 1) ⟨8,(Qci.p0 a0),[.box 35 (Qci.q1 a0),.box 35 [.i 0,.i 0,.i 0,.ns,.i 0,.i 0,.i 0],Yb a0.Pairs]⟩ ?_
 refine Qcb 2 (kk:=2) (n:=a0.Pairs.length) (ty:=97) (g:=vec Qa.e Qa.z a0.Pairs) (by kernel_rfl) (st':=⟨8,(Qci.p0 a0),[.box 35 (Qci.q1 a0),.box 35 [.i 0,.i 0,.i 0,.ns,.i 0,.i 0,.i 0],Qgj a0.Pairs]⟩) (by kernel_rfl) ?_
 refine Qe4 (av:=.agg [.i a0.Client,.i a0.Seq,.i a0.Kind,.own 2 2 0 a0.Pairs.length,.i a0.Over.Lo,.i a0.Over.Hi,.i a0.Old]) (y:=Qan a0) [2,7] 7 (st':=⟨8,[(2,.ptr 1 0 0 0),(7,.d (Qan a0))],[.box 35 (Qci.q1 a0),.box 35 [.i 0,.i 0,.i 0,.ns,.i 0,.i 0,.i 0],Qgj a0.Pairs]⟩) (by kernel_rfl) (.agg (.cons (.d _) (.cons (.d _) (.cons (.d _) (.cons (.own (ty:=97) (k:=2) (by kernel_rfl)) (.cons (.d _) (.cons (.d _) (.cons (.d _) .nil)))))))) (by kernel_rfl) ?_
 refine Xq hT 2 (K75 111 1) ⟨8,[(2,.ptr 1 0 0 0)],[.box 35 (Qci.q1 a0),.box 35 (Qak a0),Qgj a0.Pairs]⟩ ?_
 obtain rfl:=Yt H
 exact Qh4 hT hf hX (av:=.d (Qan a0)) (by kernel_rfl) [] (Qal (by kernel_rfl)) (by decide) (by rw [h0];rfl) (by kernel_rfl) an (.d (.agg (Qp.nl _)))
abbrev Zi.q1 (a0:Qc) (Jl:List Qe):List Row:=[.box 30 (eKo a0 1 a0.Held.length 2 Jl.length 3 a0.Known.length),Xk a0.Held,Xh Jl,Wy a0.Known,.box 30 [.i 0,.i 0,.i 0,.i 0,.b false,.b false,.ns,.ns,.ns,.ns]]
abbrev Zi.q2 (a0:Qc):List Row:=[.box 30 (eK a0 1 2 3),Xk a0.Held,Xh a0.Log,Wy a0.Known,.box 30 [.i 0,.i 0,.i 0,.i 0,.b false,.b false,.ns,.ns,.ns,.ns]]
abbrev Zi.q3 (Jl:List Qe) (Qcf:Int) (v1:Qp):=(Jl.set Qcf.toNat (⟨v1,(Jl.getD Qcf.toNat Qe.z).Time,(Jl.getD Qcf.toNat Qe.z).Qa3⟩:Qe))
abbrev Zi.q4:List AV:=[.i 0,.i 0,.i 0,.i 0,.b false,.b false,.ns,.ns,.ns,.ns]
abbrev Zi.p0:List (Nat × AV):=[(1,.ptr 0 0 0 0),(2,.ptr 4 0 0 0)]
theorem Zi.Qt (a0:Qc) {r:Qc} (H:Zi a0=some r):Xt Tryz.prog 35 [] [.d (Qcc a0)] [Xk r.Held,Xh r.Log,Wy r.Known] (.agg (eK r 0 1 2)):=by
 refine Wx Tryz.func35 rfl (nt:=72) rfl (lb rfl) fun X hP h0 hX=>?_
 have hT:Qw X.P T:=hP▸tok
 have hf:X.P.funcs[35]? = some Tryz.f35:=hP▸Tryz.func35
 refine Xq hT 6 (K35 11 0) ⟨72,[(1,.ptr 0 0 0 0),(2,.ptr 1 0 0 0)],[.box 30 (Jo a0),.box 30 (Zi.q4)]⟩ ?_
 obtain ⟨h1,H⟩:=iC H
 obtain ⟨h2,H⟩:=iC H
 obtain ⟨h3,H⟩:=iC H
 obtain ⟨h4,H⟩:=iC H
 refine Qcz (nt:=72) (hP▸mixed) 13 [2,8,11] [1,2] [(1,.ptr 0 0 0 0),(2,.ptr 1 0 0 0)] (sm [.ptr 0 0 0 6,.d (Qac true a0.Held),.own 2 10 0 a0.Held.length,.ptr 0 0 0 7,.d (We true a0.Base),.d (We true a0.Base),.ptr 0 0 0 8,.d (Zl true a0.Log),.own 3 9 0 a0.Log.length,.ptr 0 0 0 9,.d (Zy true a0.Known),.own 4 4 0 a0.Known.length,.ptr 0 0 0 6]) [[.box 30 (Jo a0),.box 30 (Zi.q4)],[.box 30 (Jo a0),.box 30 (Zi.q4),Xk a0.Held],[.box 30 (Jo a0),.box 30 (Zi.q4),Xk a0.Held,Xh a0.Log],[.box 30 (Jo a0),.box 30 (Zi.q4),Xk a0.Held,Xh a0.Log,Wy a0.Known]] (by kernel_rfl) (by kernel_rfl) (by kernel_rfl) (by kernel_rfl) ⟨?_,(fun R rest h=>Qdb (Xx:=[.d (Qac true a0.Held)]) (dst:=some 7) hP Wgl (Wl8 (tg:=true) a0.Held h1) (by kernel_rfl) (.cons (Qk _) .nil) (by kernel_rfl) h),⟨?_,(fun R rest h=>Qdb (Xx:=[.d (Zl true a0.Log)]) (dst:=some 13) hP Wgn (Wl9 (tg:=true) a0.Log h3) (by kernel_rfl) (.cons (Qk _) .nil) (by kernel_rfl) h),⟨?_,(fun R rest h=>Qdb (Xx:=[.d (Zy true a0.Known)]) (dst:=some 16) hP Wgo (Wma (tg:=true) a0.Known h4) (by kernel_rfl) (.cons (Qk _) .nil) (by kernel_rfl) h),?_⟩⟩⟩ ?_
 iterate 4 exact (Wh (Qcj (Wh (Wh (Qcj (Wh (Wh (Qir (Wh (Wh (Qcj (Wh (Wh Qer hT) hT)) hT) hT) (fun R rest h=>Zk (Xx:=[.d (We true a0.Base)]) (dst:=some 10) hP Qng (Xt.Wqi (Qrj (tg:=true) a0.Base h2)) (by kernel_rfl) (.cons (Qk _) .nil) (by kernel_rfl) h)) hT) hT)) hT) hT)) hT)
 have L:∀ n,(∀ (_:Unit),iter (Zi.step a0) n (.l1)=some r->AK X 35 ((K35 111010 0)) (Ym X [Xk r.Held,Xh r.Log,Wy r.Known] (.agg (eK r 0 1 2))) ⟨72,(Zi.p0++[(23,.i (a0.Held.length:Int)),(24,.i 0)]),(Zi.q2 a0)⟩)/\(∀ (Qcf:Int) (Jl:List Qe),iter (Zi.step a0) n (.l2 Qcf Jl)=some r->AK X 35 ((K35 1111010 0)) (Ym X [Xk r.Held,Xh r.Log,Wy r.Known] (.agg (eK r 0 1 2))) ⟨72,(Zi.p0++[(54,.i (a0.Log.length:Int)),(55,.i Qcf)]),(Zi.q1 a0 Jl)⟩):=by
  intro n
  induction n with
  | zero=>exact ⟨fun _ H=>Qbh H,fun _ _ H=>Qbh H⟩
  | succ n ih=>
   refine ⟨?_, ?_⟩
   ·intro _ H
    refine Xq hT 5 (K35 11101001 0) ⟨72,(Zi.p0++[(23,.i (a0.Held.length:Int)),(24,.i 0),(25,.b (decide (0 < (a0.Held.length:Int))))]),(Zi.q2 a0)⟩ ?_
    by_cases c5:0 < (a0.Held.length:Int)
    ·replace H:=sT c5 H
     cases (show (none:Option _)=some _ from H)
    replace H:=sF c5 H
    rw [decide_eq_false c5]
    exact Xq hT 12 _ _ (ih.2 0 a0.Log H)
   intro Qcf Jl H
   refine qI ?_
   rcases sB H with ⟨c6,H⟩ | ⟨c6,H⟩
   ·refine qB hT 5 (decide_eq_true c6) ?_
    refine qE hT 9 (K35 111101001100 1) ⟨72,(Zi.p0++[(4,.i Qcf),(54,.i (a0.Log.length:Int)),(55,.i Qcf)]),(Zi.q1 a0 Jl)⟩ ?_
    obtain ⟨h7,H⟩:=sC H
    obtain ⟨v1,h8,H⟩:=sbC H
    refine Qab (hP▸mixed) 10 [1,2,4,54,55] (sm [.ptr 0 0 0 8,.own 2 9 0 Jl.length,.i Qcf,.ptr 0 0 0 8,.own 2 9 0 Jl.length,.i Qcf,.ptr 2 9 Qcf.toNat 0,.ptr 2 9 Qcf.toNat 0,.d (Qan ((Jl.getD Qcf.toNat Qe.z).M)),.d (Qan v1)]) (opS (opS (Qd (opS (Qd (Qd (Qd (Qd (Qd (Qd op0 hT) hT) hT) hT) hT) hT) (fun R rest h=>Qba hT (i:=Qcf) (n:=(Jl.length:Int)) h7.1 h7.2 (by kernel_rfl) h)) hT) (fun R rest h=>Qf8 hT (i:=Qcf.toNat) (n:=Jl.length) (ltN h7.1 h7.2) (by kernel_rfl) h)) (fun R rest h=>Zk (Xx:=[.d (Qan ((Jl.getD Qcf.toNat Qe.z).M))]) (dst:=some 67) hP Qqg (Qci.Qt ((Jl.getD Qcf.toNat Qe.z).M) h8) (by kernel_rfl) (.cons (Qk _) .nil) (by kernel_rfl) h)) ?_
    refine qI ?_
    refine qX hT 0 h7 ?_
    refine qE hT 1 (K35 1111010011001 12) ⟨72,(Zi.p0++[(54,.i (a0.Log.length:Int)),(55,.i Qcf),(67,.d (Qan v1)),(69,.ptr 2 9 Qcf.toNat 0)]),(Zi.q1 a0 Jl)⟩ ?_
    refine Qnc (id:=2) (kk:=9) (i:=Qcf.toNat) (off:=0) (s:=7) (n:=Jl.length) (ty:=141) (ds:=Qp.e v1) (g:=vec Qe.e Qe.z Jl) (k':=(K35 1111010011001 13)) hT [1,2,54,55] (vec Qe.e Qe.z (Zi.q3 Jl Qcf v1)) (by kernel_rfl) (by kernel_rfl) (ltN h7.1 h7.2) ((Qi1 (ltN h7.1 h7.2)).trans (by kernel_rfl)) Qfx (st':=⟨72,(Zi.p0++[(54,.i (a0.Log.length:Int)),(55,.i Qcf)]),[.box 30 (eKo a0 1 a0.Held.length 2 (Jl.length) 3 a0.Known.length),.flat false 10 138 a0.Held.length (vec Qh.e Qh.z a0.Held),.flat false 9 141 Jl.length (vec Qe.e Qe.z (Zi.q3 Jl Qcf v1)),.flat false 4 131 a0.Known.length (vec Qg.e Qg.z a0.Known),.box 30 (Zi.q4)]⟩) (by kernel_rfl) ?_
    refine Qiw (show Jl.length=(Zi.q3 Jl Qcf v1).length from (List.length_set ..).symm) (fun nn=>⟨72,(Zi.p0++[(54,.i (a0.Log.length:Int)),(55,.i Qcf)]),[.box 30 (eKo a0 1 a0.Held.length 2 (nn) 3 a0.Known.length),.flat false 10 138 a0.Held.length (vec Qh.e Qh.z a0.Held),.flat false 9 141 nn (vec Qe.e Qe.z (Zi.q3 Jl Qcf v1)),.flat false 4 131 a0.Known.length (vec Qg.e Qg.z a0.Known),.box 30 (Zi.q4)]⟩) ?_
    exact Zr hT 7 _ [0,1,2,3,4] _ h0 (ih.2 (IntKind.wrap .i64 (Qcf+1)) (Zi.q3 Jl Qcf v1) H)
   refine qB hT 5 (decide_eq_false c6) ?_
   refine qE hT 7 (K35 11111 1) ⟨72,[(2,.ptr 4 0 0 0)],[.box 30 (eKo a0 1 a0.Held.length 2 Jl.length 3 a0.Known.length),Xk a0.Held,Xh Jl,Wy a0.Known,.box 30 (eKo a0 1 a0.Held.length 2 Jl.length 3 a0.Known.length)]⟩ ?_
   obtain rfl:=Yt H
   exact Qh4 hT hf hX (av:=.agg (eKo a0 1 a0.Held.length 2 Jl.length 3 a0.Known.length)) (by kernel_rfl) [1,2,3] (Qal (by kernel_rfl)) (by decide) (by rw [h0];rfl) (by kernel_rfl) (ac (Xa Qh.nl) (ac (Xa Qe.nl) (ac (Xa Qg.nl) an))) (.agg (.cons (.d (.v _)) (.cons (.d (.v _)) (.cons (.d (.v _)) (.cons (.d (.v _)) (.cons (.d (.v _)) (.cons (.d (.v _)) (.cons (.own _ _ _ _) (.cons (.d (.sl fun _ _=>Qa.nl _)) (.cons (.own _ _ _ _) (.cons (.own _ _ _ _) .nil)))))))))))
 refine Zr hT 18 (K35 111010 0) [0,2,3,4,1] ⟨72,(Zi.p0++[(23,.i (a0.Held.length:Int)),(24,.i 0)]),(Zi.q2 a0)⟩ h0 ?_
 obtain ⟨n,H⟩:=Qbw H
 exact (L n).1 () H
theorem Ze.Qt (a0:Qc):Xt Tryz.prog 37 [] [.d (.agg [.i a0.ID,.i a0.Keys.Lo,.i a0.Keys.Hi,.i a0.Clock,.b a0.Ws,.b a0.Wn,Qac false a0.Held,We true a0.Base,Zl false a0.Log,Zy false a0.Known])] [Je (Ze a0)] (.own 0 2 0 ((Ze a0).length)):=by
 obtain ⟨r,H⟩:∃ r,Ze a0=r:=⟨_,rfl⟩
 rw [H]
 refine Wx Tryz.func37 rfl (nt:=6) rfl (lb rfl) fun X hP h0 hX=>?_
 have hT:Qw X.P T:=hP▸tok
 have hf:X.P.funcs[37]? = some Tryz.f37:=hP▸Tryz.func37
 refine Xq hT 12 (K37 11 1) ⟨6,[(2,.own 1 2 0 1)],[.box 30 [.i a0.ID,.i a0.Keys.Lo,.i a0.Keys.Hi,.i a0.Clock,.b a0.Ws,.b a0.Wn,.d (Qac false a0.Held),.d (We true a0.Base),.d (Zl false a0.Log),.d (Zy false a0.Known)],.flat false 2 24 1 (fun j=>[Qb.e a0.Keys].getD j [])]⟩ ?_
 refine Qgp 1 (kk:=2) (fz:=false) (ty:=24) (n:=([a0.Keys]:List Qb).length) (vec Qb.e Qb.z ([a0.Keys]:List Qb)) (by kernel_rfl) Qhh (st':=⟨6,[(2,.own 1 2 0 (([a0.Keys]:List Qb).length))],[.box 30 [.i a0.ID,.i a0.Keys.Lo,.i a0.Keys.Hi,.i a0.Clock,.b a0.Ws,.b a0.Wn,.d (Qac false a0.Held),.d (We true a0.Base),.d (Zl false a0.Log),.d (Zy false a0.Known)],Je ([a0.Keys]:List Qb)]⟩) (by kernel_rfl) ?_
 obtain rfl:=H
 exact Qd9 hf hX h0 (.own 1 2 0 (([a0.Keys]:List Qb).length)) [1] (ac (Xa Qb.nl) an) (.own _ _ _ _)
abbrev Wl.q1 (a1:List Qi) (Ye:Int) (v8:Qc):=(Ze (⟨(a1.getD Ye.toNat Qi.z).ID,((a1.getD Ye.toNat Qi.z).Keys),v8.Clock,v8.Ws,v8.Wn,v8.Held,v8.Base,v8.Log,v8.Known⟩:Qc))
abbrev Wl.q2 (a1:List Qi) (Ye:Int) (v8:Qc) (v9:List Qa):List AV:=[.i ((a1.getD Ye.toNat Qi.z).ID),.i (((a1.getD Ye.toNat Qi.z).Keys).Lo),.i (((a1.getD Ye.toNat Qi.z).Keys).Hi),.i v8.Clock,.b v8.Ws,.b v8.Wn,.own 3 10 0 v8.Held.length,.own 8 2 0 v9.length,.own 4 9 0 v8.Log.length,.own 5 4 0 v8.Known.length]
abbrev Wl.q3 (a1:List Qi) (Ye:Int) (v8:Qc):List AV:=[.i ((a1.getD Ye.toNat Qi.z).ID),.i (((a1.getD Ye.toNat Qi.z).Keys).Lo),.i (((a1.getD Ye.toNat Qi.z).Keys).Hi),.i v8.Clock,.b v8.Ws,.b v8.Wn,.own 3 10 0 v8.Held.length,.d (We true v8.Base),.own 4 9 0 v8.Log.length,.own 5 4 0 v8.Known.length]
abbrev Wl.q4 (a1:List Qi) (Ye:Int) (v8:Qc) (v9:List Qa):=(⟨(a1.getD Ye.toNat Qi.z).ID,((a1.getD Ye.toNat Qi.z).Keys),v8.Clock,v8.Ws,v8.Wn,v8.Held,v9,v8.Log,v8.Known⟩:Qc)
abbrev Wl.q5 (a1:List Qi) (Ye:Int):=((a1.getD Ye.toNat Qi.z).Keys)
abbrev Wl.p0 (t1:Bool) (a1:List Qi):List (Nat × AV):=[(10,.ptr 0 0 0 0),(66,.d (Zn t1 a1)),(67,.i (a1.length:Int))]
theorem Wl.Qt {t0:Bool} {t1:Bool} (a0:List Qc) (a1:List Qi) {r:(List Qc) × Int} (H:Wl a0 a1=some r):Xt Tryz.prog 10 [] [.d (Qc8 t0 a0),.d (Zn t1 a1)] [Qax r.1] (.Ql [.own 0 10 0 r.1.length,.i r.2]):=by
 refine Wx Tryz.func10 rfl (nt:=92) rfl (lb rfl) fun X hP h0 hX=>?_
 have hT:Qw X.P T:=hP▸tok
 have hf:X.P.funcs[10]? = some Tryz.f10:=hP▸Tryz.func10
 have Yx:∀ (Qi3:Bool),(Wl.j1 a0 a1 Qi3)=some r->AK X 10 ((K10 110 1)) (Ym X [Qax r.1] (.Ql [.own 0 10 0 r.1.length,.i r.2])) ⟨92,[(0,.d (Qc8 t0 a0)),(1,.d (Zn t1 a1)),(26,.b Qi3)],[]⟩:=by
  intro Qi3 H
  by_cases c4:Qi3=true
  ·replace H:=iT c4 H
   cases (show (none:Option _)=some _ from H)
  replace H:=iF c4 H
  rw [boF c4]
  refine qI ?_
  obtain ⟨v2,h5,H⟩:=ibC H
  refine qF hT 6 hP Wf6 (Qas.Qt (t0:=t0) (t1:=t1) a0 a1 h5) ?_
  refine qE hT 7 (K10 1111 0) ⟨92,[(0,.d (Qc8 t0 a0)),(1,.d (Zn t1 a1)),(6,.own 0 2 0 v2.1.length),(7,.own 1 2 0 v2.2.length)],[Je v2.1,Je v2.2]⟩ ?_
  obtain ⟨h6,H⟩:=iC H
  obtain ⟨h7,H⟩:=iC H
  refine Qab (hP▸mixed) 12 [0,1,6,7] (sm [.own 0 2 0 v2.1.length,.ptr 0 2 0 0,.ptr 0 2 0 0,.i ((v2.1.getD 0 Qb.z).Lo),.own 0 2 0 v2.1.length,.own 0 2 0 v2.1.length,.i (v2.1.length:Int),.i (IntKind.wrap .i64 ((v2.1.length:Int) - 1)),.ptr 0 2 ((IntKind.wrap .i64 ((v2.1.length:Int) - 1)).toNat) 0,.ptr 0 2 ((IntKind.wrap .i64 ((v2.1.length:Int) - 1)).toNat) 1,.i ((v2.1.getD ((IntKind.wrap .i64 ((v2.1.length:Int) - 1)).toNat) Qb.z).Hi),.i ((v2.1.getD 0 Qb.z).Lo)]) (Qd (opS (Qd (opS (Qd (Qd (Qd (Qd (opS (Qd (opS (Qd op0 hT) (fun R rest h=>Qba hT (i:=0) (n:=(v2.1.length:Int)) h6.1 h6.2 (by kernel_rfl) h)) hT) (fun R rest h=>Qf8 hT (i:=0) (n:=v2.1.length) (by first | omega | decide) (by kernel_rfl) h)) hT) hT) hT) hT) (fun R rest h=>Qba hT (i:=IntKind.wrap .i64 ((v2.1.length:Int) - 1)) (n:=(v2.1.length:Int)) h7.1 h7.2 (by kernel_rfl) h)) hT) (fun R rest h=>Qf8 hT (i:=(IntKind.wrap .i64 ((v2.1.length:Int) - 1)).toNat) (n:=v2.1.length) (ltN h7.1 h7.2) (by kernel_rfl) h)) hT) ?_
  refine Xq hT 1 (K10 11110 13) ⟨92,[(0,.d (Qc8 t0 a0)),(1,.d (Zn t1 a1)),(6,.own 0 2 0 v2.1.length),(7,.own 1 2 0 v2.2.length),(8,.i ((v2.1.getD 0 Qb.z).Lo)),(9,.i ((v2.1.getD ((IntKind.wrap .i64 ((v2.1.length:Int) - 1)).toNat) Qb.z).Hi))],[Je v2.1,Je v2.2]⟩ ?_
  obtain ⟨v3,h8,H⟩:=idC H
  rw [<- h8]
  refine qI ?_
  obtain ⟨v4,h9,H⟩:=ibC H
  have Jj2:∀ (Qfi:Bool),(Wl.j2 a0 a1 Qfi)=some r->AK X 10 ((K10 111110 1)) (Ym X [Qax r.1] (.Ql [.own 0 10 0 r.1.length,.i r.2])) ⟨92,[(0,.d (Qc8 t0 a0)),(1,.d (Zn t1 a1)),(59,.b Qfi)],[]⟩:=by
   intro Qfi H
   by_cases c14:Qfi=true
   ·replace H:=iT c14 H
    cases (show (none:Option _)=some _ from H)
   replace H:=iF c14 H
   rw [boF c14]
   refine qI ?_
   obtain ⟨v7,h15,H⟩:=ibC H
   refine qF hT 5 hP Wf8 (Xj.Qt (t0:=t0) a0 h15) ?_
   refine qE hT 11 (K10 11111110 1) ⟨92,[(1,.d (Zn t1 a1)),(10,.ptr 0 0 0 0),(65,.b (decide ((v7.Known.length:Int) > 1000)))],[.box 30 (Jo v7)]⟩ ?_
   by_cases c16:(v7.Known.length:Int) > 1000
   ·replace H:=iT c16 H
    cases (show (none:Option _)=some _ from H)
   replace H:=iF c16 H
   rw [decide_eq_false c16]
   refine Xq hT 15 (K10 111111111010 0) ⟨92,[(10,.ptr 0 0 0 0),(11,.ns),(66,.d (Zn t1 a1)),(67,.i (a1.length:Int)),(68,.i 0)],[.box 30 (Jo v7)]⟩ ?_
   refine Qd1 [10,11,66,67,68] 11 10 30 (vec Qc.e Qc.z []) (st':=⟨92,[(10,.ptr 0 0 0 0),(11,.own 1 10 0 0),(66,.d (Zn t1 a1)),(67,.i (a1.length:Int)),(68,.i 0)],[.box 30 (Jo v7),Qax ([]:List Qc)]⟩) (by kernel_rfl) (by kernel_rfl) ?_
   have L:∀ n,(∀ (Ye:Int) (Xi:List Qc),iter (Wl.step a1 v7) n (.l1 Ye Xi)=some r->AK X 10 ((K10 111111111010 0)) (Ym X [Qax r.1] (.Ql [.own 0 10 0 r.1.length,.i r.2])) ⟨92,[(10,.ptr 0 0 0 0),(11,.own 1 10 0 Xi.length),(66,.d (Zn t1 a1)),(67,.i (a1.length:Int)),(68,.i Ye)],[.box 30 (Jo v7),Qax Xi]⟩):=by
    intro n
    induction n with
    | zero=>exact fun _ _ H=>Qbh H
    | succ n ih=>
     ·intro Ye Xi H
      refine qI ?_
      rcases sB H with ⟨c17,H⟩ | ⟨c17,H⟩
      ·refine qB hT 5 (decide_eq_true c17) ?_
       obtain ⟨h18,H⟩:=sC H
       refine qX hT 6 h18 ?_
       refine qE hT 7 (K10 1111111110100110010 1) ⟨92,[(10,.ptr 0 0 0 0),(11,.own 1 10 0 Xi.length),(13,.ptr 2 0 0 0),(66,.d (Zn t1 a1)),(67,.i (a1.length:Int)),(68,.i Ye),(72,.d (Qcc v7))],[.box 30 (Jo v7),Qax Xi,.box 47 (Qfc (a1.getD Ye.toNat Qi.z))]⟩ ?_
       obtain ⟨v8,h19,H⟩:=sbC H
       refine qI ?_
       refine qF hT 0 hP Qwe (Zi.Qt v7 h19) ?_
       refine qE hT 4 (K10 1111111110100110011 0) ⟨92,[(10,.ptr 0 0 0 0),(11,.own 1 10 0 Xi.length),(13,.ptr 2 0 0 0),(14,.ptr 6 0 0 0),(66,.d (Zn t1 a1)),(67,.i (a1.length:Int)),(68,.i Ye)],[.box 30 (Jo v7),Qax Xi,.box 47 (Qfc (a1.getD Ye.toNat Qi.z)),Xk v8.Held,Xh v8.Log,Wy v8.Known,.box 30 (eK v8 3 4 5)]⟩ ?_
       refine Qcz (nt:=92) (hP▸mixed) 6 [5] [10,11,13,14,66,67,68] [(10,.ptr 0 0 0 0),(11,.own 1 10 0 Xi.length),(13,.ptr 2 0 0 0),(14,.ptr 6 0 0 0),(66,.d (Zn t1 a1)),(67,.i (a1.length:Int)),(68,.i Ye)] [some (.ptr 2 0 0 0),some (.i ((a1.getD Ye.toNat Qi.z).ID)),some (.ptr 2 0 0 1),some (.d (Qgk (Wl.q5 a1 Ye))),some (.ptr 6 0 0 0),none] [[.box 30 (Jo v7),Qax Xi,.box 47 (Qfc (a1.getD Ye.toNat Qi.z)),Xk v8.Held,Xh v8.Log,Wy v8.Known,.box 30 (eK v8 3 4 5)],[.box 30 (Jo v7),Qax Xi,.box 47 (Qfc (a1.getD Ye.toNat Qi.z)),Xk v8.Held,Xh v8.Log,Wy v8.Known,.box 30 [.i ((a1.getD Ye.toNat Qi.z).ID),.i v8.Keys.Lo,.i v8.Keys.Hi,.i v8.Clock,.b v8.Ws,.b v8.Wn,.own 3 10 0 v8.Held.length,.d (We true v8.Base),.own 4 9 0 v8.Log.length,.own 5 4 0 v8.Known.length]]] (by kernel_rfl) (by kernel_rfl) (by kernel_rfl) (by kernel_rfl) ⟨(Qcj (Wh (Wh (Wh (Wh (Wh Qer hT) hT) hT) hT) hT)),(Qj4 hT),(Qcj (Wh (Wh (Wh (Wh (Wh Qer hT) hT) hT) hT) hT))⟩ ?_
       refine Xq hT 4 (K10 11111111101001100111 0) ⟨92,[(10,.ptr 0 0 0 0),(11,.own 1 10 0 Xi.length),(14,.ptr 6 0 0 0),(66,.d (Zn t1 a1)),(67,.i (a1.length:Int)),(68,.i Ye)],[.box 30 (Jo v7),Qax Xi,.box 47 (Qfc (a1.getD Ye.toNat Qi.z)),Xk v8.Held,Xh v8.Log,Wy v8.Known,.box 30 (Wl.q3 a1 Ye v8)]⟩ ?_
       refine Qcz (nt:=92) (hP▸mixed) 4 [3] [10,11,14,66,67,68] [(10,.ptr 0 0 0 0),(11,.own 1 10 0 Xi.length),(14,.ptr 6 0 0 0),(66,.d (Zn t1 a1)),(67,.i (a1.length:Int)),(68,.i Ye)] (sm [.ptr 0 0 0 7,.d (We true v7.Base),.agg [.i ((a1.getD Ye.toNat Qi.z).ID),.i ((Wl.q5 a1 Ye).Lo),.i ((Wl.q5 a1 Ye).Hi),.i v8.Clock,.b v8.Ws,.b v8.Wn,.own 3 10 0 v8.Held.length,.d (We true v8.Base),.own 4 9 0 v8.Log.length,.own 5 4 0 v8.Known.length],.own 7 2 0 ((Wl.q1 a1 Ye v8).length)]) [[.box 30 (Jo v7),Qax Xi,.box 47 (Qfc (a1.getD Ye.toNat Qi.z)),Xk v8.Held,Xh v8.Log,Wy v8.Known,.box 30 (Wl.q3 a1 Ye v8)],[.box 30 (Jo v7),Qax Xi,.box 47 (Qfc (a1.getD Ye.toNat Qi.z)),Xk v8.Held,Xh v8.Log,Wy v8.Known,.box 30 (Wl.q3 a1 Ye v8),Je (Wl.q1 a1 Ye v8)]] (by kernel_rfl) (by kernel_rfl) (by kernel_rfl) (by kernel_rfl) ⟨(Qcj (Wh (Wh (Wh Qer hT) hT) hT)),(fun R rest h=>Qdb (Xx:=[.agg [.i ((a1.getD Ye.toNat Qi.z).ID),.i ((Wl.q5 a1 Ye).Lo),.i ((Wl.q5 a1 Ye).Hi),.i v8.Clock,.b v8.Ws,.b v8.Wn,.own 3 10 0 v8.Held.length,.d (We true v8.Base),.own 4 9 0 v8.Log.length,.own 5 4 0 v8.Known.length]]) (dst:=some 83) hP Qf0 (Ze.Qt (⟨(a1.getD Ye.toNat Qi.z).ID,(Wl.q5 a1 Ye),v8.Clock,v8.Ws,v8.Wn,v8.Held,v8.Base,v8.Log,v8.Known⟩:Qc)) (by kernel_rfl) (.cons (.agg (.cons (Qk _) (.cons (Qk _) (.cons (Qk _) (.cons (Qk _) (.cons (Qk _) (.cons (Qk _) (.cons (.Qcr (ty:=138) (by kernel_rfl) rfl) (.cons (Qk _) (.cons (.Qcr (ty:=141) (by kernel_rfl) rfl) (.cons (.Qcr (ty:=131) (by kernel_rfl) rfl) .nil))))))))))) .nil) (by kernel_rfl) h),(Qcj (Wh (Wh (Wh Qer hT) hT) hT))⟩ ?_
       refine qI ?_
       obtain ⟨v9,h20,H⟩:=sbC H
       refine qF hT 0 hP Qlk (Ji.Qt (t0:=true) (t1:=false) v7.Base (Wl.q1 a1 Ye v8) h20) ?_
       refine qE hT 6 (K10 111111111010011001111 2) ⟨92,(Wl.p0 t1 a1++[(68,.i Ye),(86,.own 1 10 0 Xi.length),(87,.agg [.i ((a1.getD Ye.toNat Qi.z).ID),.i ((Wl.q5 a1 Ye).Lo),.i ((Wl.q5 a1 Ye).Hi),.i v8.Clock,.b v8.Ws,.b v8.Wn,.own 3 10 0 v8.Held.length,.own 8 2 0 v9.length,.own 4 9 0 v8.Log.length,.own 5 4 0 v8.Known.length])]),[.box 30 (Jo v7),Qax Xi,.box 47 (Qfc (a1.getD Ye.toNat Qi.z)),Xk v8.Held,Xh v8.Log,Wy v8.Known,.box 30 (Wl.q2 a1 Ye v8 v9),Je (Wl.q1 a1 Ye v8),Yb v9]⟩ ?_
       refine Qcb 3 (kk:=10) (n:=v8.Held.length) (ty:=138) (g:=vec Qh.e Qh.z v8.Held) (by kernel_rfl) (st':=⟨92,(Wl.p0 t1 a1++[(68,.i Ye),(86,.own 1 10 0 Xi.length),(87,.agg [.i ((a1.getD Ye.toNat Qi.z).ID),.i ((Wl.q5 a1 Ye).Lo),.i ((Wl.q5 a1 Ye).Hi),.i v8.Clock,.b v8.Ws,.b v8.Wn,.own 3 10 0 v8.Held.length,.own 8 2 0 v9.length,.own 4 9 0 v8.Log.length,.own 5 4 0 v8.Known.length])]),[.box 30 (Jo v7),Qax Xi,.box 47 (Qfc (a1.getD Ye.toNat Qi.z)),Qih v8.Held,Xh v8.Log,Wy v8.Known,.box 30 (Wl.q2 a1 Ye v8 v9),Je (Wl.q1 a1 Ye v8),Yb v9]⟩) (by kernel_rfl) ?_
       refine Qcb 8 (kk:=2) (n:=v9.length) (ty:=97) (g:=vec Qa.e Qa.z v9) (by kernel_rfl) (st':=⟨92,(Wl.p0 t1 a1++[(68,.i Ye),(86,.own 1 10 0 Xi.length),(87,.agg [.i ((a1.getD Ye.toNat Qi.z).ID),.i ((Wl.q5 a1 Ye).Lo),.i ((Wl.q5 a1 Ye).Hi),.i v8.Clock,.b v8.Ws,.b v8.Wn,.own 3 10 0 v8.Held.length,.own 8 2 0 v9.length,.own 4 9 0 v8.Log.length,.own 5 4 0 v8.Known.length])]),[.box 30 (Jo v7),Qax Xi,.box 47 (Qfc (a1.getD Ye.toNat Qi.z)),Qih v8.Held,Xh v8.Log,Wy v8.Known,.box 30 (Wl.q2 a1 Ye v8 v9),Je (Wl.q1 a1 Ye v8),Qgj v9]⟩) (by kernel_rfl) ?_
       refine Qcb 4 (kk:=9) (n:=v8.Log.length) (ty:=141) (g:=vec Qe.e Qe.z v8.Log) (by kernel_rfl) (st':=⟨92,(Wl.p0 t1 a1++[(68,.i Ye),(86,.own 1 10 0 Xi.length),(87,.agg [.i ((a1.getD Ye.toNat Qi.z).ID),.i ((Wl.q5 a1 Ye).Lo),.i ((Wl.q5 a1 Ye).Hi),.i v8.Clock,.b v8.Ws,.b v8.Wn,.own 3 10 0 v8.Held.length,.own 8 2 0 v9.length,.own 4 9 0 v8.Log.length,.own 5 4 0 v8.Known.length])]),[.box 30 (Jo v7),Qax Xi,.box 47 (Qfc (a1.getD Ye.toNat Qi.z)),Qih v8.Held,Qkc v8.Log,Wy v8.Known,.box 30 (Wl.q2 a1 Ye v8 v9),Je (Wl.q1 a1 Ye v8),Qgj v9]⟩) (by kernel_rfl) ?_
       refine Qcb 5 (kk:=4) (n:=v8.Known.length) (ty:=131) (g:=vec Qg.e Qg.z v8.Known) (by kernel_rfl) (st':=⟨92,(Wl.p0 t1 a1++[(68,.i Ye),(86,.own 1 10 0 Xi.length),(87,.agg [.i ((a1.getD Ye.toNat Qi.z).ID),.i ((Wl.q5 a1 Ye).Lo),.i ((Wl.q5 a1 Ye).Hi),.i v8.Clock,.b v8.Ws,.b v8.Wn,.own 3 10 0 v8.Held.length,.own 8 2 0 v9.length,.own 4 9 0 v8.Log.length,.own 5 4 0 v8.Known.length])]),[.box 30 (Jo v7),Qax Xi,.box 47 (Qfc (a1.getD Ye.toNat Qi.z)),Qih v8.Held,Qkc v8.Log,Qjn v8.Known,.box 30 (Wl.q2 a1 Ye v8 v9),Je (Wl.q1 a1 Ye v8),Qgj v9]⟩) (by kernel_rfl) ?_
       refine Qe4 (av:=.agg [.i ((a1.getD Ye.toNat Qi.z).ID),.i ((Wl.q5 a1 Ye).Lo),.i ((Wl.q5 a1 Ye).Hi),.i v8.Clock,.b v8.Ws,.b v8.Wn,.own 3 10 0 v8.Held.length,.own 8 2 0 v9.length,.own 4 9 0 v8.Log.length,.own 5 4 0 v8.Known.length]) (y:=.agg [.i ((a1.getD Ye.toNat Qi.z).ID),.i ((Wl.q5 a1 Ye).Lo),.i ((Wl.q5 a1 Ye).Hi),.i v8.Clock,.b v8.Ws,.b v8.Wn,Qac true v8.Held,We true v9,Zl true v8.Log,Zy true v8.Known]) [10,66,67,68,86,87] 87 (st':=⟨92,(Wl.p0 t1 a1++[(68,.i Ye),(86,.own 1 10 0 Xi.length),(87,.d (.agg [.i ((a1.getD Ye.toNat Qi.z).ID),.i ((Wl.q5 a1 Ye).Lo),.i ((Wl.q5 a1 Ye).Hi),.i v8.Clock,.b v8.Ws,.b v8.Wn,Qac true v8.Held,We true v9,Zl true v8.Log,Zy true v8.Known]))]),[.box 30 (Jo v7),Qax Xi,.box 47 (Qfc (a1.getD Ye.toNat Qi.z)),Qih v8.Held,Qkc v8.Log,Qjn v8.Known,.box 30 (Wl.q2 a1 Ye v8 v9),Je (Wl.q1 a1 Ye v8),Qgj v9]⟩) (by kernel_rfl) (.agg (.cons (.d _) (.cons (.d _) (.cons (.d _) (.cons (.d _) (.cons (.d _) (.cons (.d _) (.cons (.own (ty:=138) (k:=10) (by kernel_rfl)) (.cons (.own (ty:=97) (k:=2) (by kernel_rfl)) (.cons (.own (ty:=141) (k:=9) (by kernel_rfl)) (.cons (.own (ty:=131) (k:=4) (by kernel_rfl)) .nil))))))))))) (by kernel_rfl) ?_
       refine Xq hT 1 (K10 111111111010011001111 3) ⟨92,(Wl.p0 t1 a1++[(68,.i Ye),(86,.own 1 10 0 Xi.length),(88,.own 9 10 0 1)]),[.box 30 (Jo v7),Qax Xi,.box 47 (Qfc (a1.getD Ye.toNat Qi.z)),Qih v8.Held,Qkc v8.Log,Qjn v8.Known,.box 30 (Wl.q2 a1 Ye v8 v9),Je (Wl.q1 a1 Ye v8),Qgj v9,.flat false 10 30 1 (fun j=>[[.i ((a1.getD Ye.toNat Qi.z).ID),.i ((Wl.q5 a1 Ye).Lo),.i ((Wl.q5 a1 Ye).Hi),.i v8.Clock,.b v8.Ws,.b v8.Wn,Qac true v8.Held,We true v9,Zl true v8.Log,Zy true v8.Known]].getD j [])]⟩ ?_
       obtain ⟨h21,H⟩:=sC H
       refine Qeq (id:=1) (kk:=10) (by':=136) (t:=32) (e:=30) (z:=[.int .i64 0,.int .i64 0,.int .i64 0,.int .i64 0,.bool false,.bool false,.slice none 0 0,.slice none 0 0,.slice none 0 0,.slice none 0 0]) (dst:=some 89) (id2:=9) (e2:=30) (fz:=false) (k':=(K10 111111111010011001111 4)) hT Qc.e Qc.z Xi (Wl.q4 a1 Ye v8 v9) [10,66,67,68,89] (by kernel_rfl) (by kernel_rfl) (by kernel_rfl) (by kernel_rfl) (by kernel_rfl) (by kernel_rfl) (by kernel_rfl) h21 (by omega) (st':=⟨92,(Wl.p0 t1 a1++[(68,.i Ye),(89,.own 10 10 0 ((Xi ++ [(Wl.q4 a1 Ye v8 v9)]).length))]),[.box 30 (Jo v7),.gone,.box 47 (Qfc (a1.getD Ye.toNat Qi.z)),Qih v8.Held,Qkc v8.Log,Qjn v8.Known,.box 30 (Wl.q2 a1 Ye v8 v9),Je (Wl.q1 a1 Ye v8),Qgj v9,.flat false 10 30 1 (fun j=>[[.i ((a1.getD Ye.toNat Qi.z).ID),.i ((Wl.q5 a1 Ye).Lo),.i ((Wl.q5 a1 Ye).Hi),.i v8.Clock,.b v8.Ws,.b v8.Wn,Qac true v8.Held,We true v9,Zl true v8.Log,Zy true v8.Known]].getD j []),Qax (Xi ++ [(Wl.q4 a1 Ye v8 v9)])]⟩) (by kernel_rfl) ?_
       exact Zr hT 8 _ [0,10] _ h0 (ih (IntKind.wrap .i64 (Ye+1)) (Xi ++ [(Wl.q4 a1 Ye v8 v9)]) H)
      refine qB hT 5 (decide_eq_false c17) ?_
      obtain rfl:=Yt H
      exact qT hT 8 hf hX h0 [1] (ac (Xa Qc.nl) an) (.Ql (.cons (.own _ _ _ _) (.cons (.d (.v _)) .nil)))
   refine Qik [0,1] ⟨92,[(10,.ptr 0 0 0 0),(11,.own 1 10 0 ([]:List Qc).length),(66,.d (Zn t1 a1)),(67,.i (a1.length:Int)),(68,.i 0)],[.box 30 (Jo v7),Qax ([]:List Qc)]⟩ h0 ?_
   obtain ⟨n,H⟩:=Qbw H
   exact (L n) 0 ([]:List Qc) H
  refine qF hT 7 hP Qwc (Jz.Qt (t0:=false) v2.1 ((v2.1.getD 0 Qb.z).Lo) v3 h9) ?_
  rcases iB H with ⟨c10,H⟩ | ⟨c10,H⟩
  ·refine qB hT 2 (show (!v4)=false by rw [c10];rfl) ?_
   refine qE hT 3 (K10 1111100 9) ⟨92,[(0,.d (Qc8 t0 a0)),(1,.d (Zn t1 a1)),(49,.b false),(50,.own 1 2 0 v2.2.length),(51,.i ((v2.1.getD 0 Qb.z).Lo)),(52,.i v3)],[Je v2.1,Je v2.2]⟩ ?_
   obtain ⟨v5,h11,H⟩:=ibC H
   refine qI ?_
   refine qF hT 0 hP Qwc (Jz.Qt (t0:=false) v2.2 ((v2.1.getD 0 Qb.z).Lo) v3 h11) ?_
   rcases iB H with ⟨c12,H⟩ | ⟨c12,H⟩
   ·refine qB hT 3 (show (!v5)=false by rw [c12];rfl) ?_
    refine qE hT 1 (K10 1111100 14) ⟨92,[(0,.d (Qc8 t0 a0)),(1,.d (Zn t1 a1)),(56,.b false),(57,.d (Zn t1 a1))],[Je v2.1,Je v2.2]⟩ ?_
    obtain ⟨v6,h13,H⟩:=ibC H
    refine qI ?_
    refine qF hT 0 hP Qwd (Qap.Qt (t0:=t1) (ff1:=32) (cc1:=[]) a1 (fun z0=>some (Qgb z0)) Wf7 (fun z0 r h=>by obtain rfl:=Yt h;exact Qgb.Qt z0) h13) ?_
    exact qC hT 2 _ [] _ h0 (Jj2 v6 H)
   refine qB hT 3 (show (!v5)=true by rw [boF c12];rfl) ?_
   exact qC hT 4 _ [] _ h0 (Jj2 true H)
  refine qB hT 2 (show (!v4)=true by rw [boF c10];rfl) ?_
  exact qC hT 11 _ [] _ h0 (Jj2 true H)
 refine Xq hT 12 (K10 1100 4) ⟨92,[(0,.d (Qc8 t0 a0)),(1,.d (Zn t1 a1)),(18,.b ((a0.length:Int) == 0))],[]⟩ ?_
 by_cases c1:(a0.length:Int)=0
 ·replace H:=iT c1 H
  rw [eqT c1]
  exact Xq hT 9 _ _ (Yx true H)
 replace H:=iF c1 H
 rw [eqF c1]
 refine Xq hT 5 (K10 1100 9) ⟨92,[(0,.d (Qc8 t0 a0)),(1,.d (Zn t1 a1)),(23,.b ((a1.length:Int) == 0))],[]⟩ ?_
 by_cases c2:(a1.length:Int)=0
 ·replace H:=iT c2 H
  rw [eqT c2]
  exact Xq hT 4 _ _ (Yx true H)
 replace H:=iF c2 H
 rw [eqF c2]
 refine qI ?_
 obtain ⟨v1,h3,H⟩:=ibC H
 refine qF hT 1 hP Wf4 (Qcs.Qt (t0:=t0) (ff1:=27) (cc1:=[]) a0 (fun z0=>Qdu z0) Wf5 (fun z0 r h=>Qdu.Qt z0 h) h3) ?_
 exact qE hT 2 _ _ (Yx v1 H)
end
end Go.SyP
