/- Certificates, printed by gen.py. -/
import Derived.Test.YticmlllaimjdcaaGreatG15zLCp0
set_option linter.unusedVariables false
set_option linter.unusedSimpArgs false
namespace Go.SyP
open Go Go.Sy Go.Proofs
noncomputable section
abbrev Yx.p0:List (Nat × AV):=[(1,.ptr 0 0 0 0)]
theorem Yx.Wl (a0:Qf) {r:Bool} (H:Yx a0=some r):Yn Tryz.prog 19 [] [.d (Qct a0)] [] (.b r):=by
 refine Xt Tryz.func19 rfl (nt:=70) rfl (lb rfl) fun X hP h0 hX=>?_
 have hT:Xl X.P T:=hP▸tok
 have hf:X.P.funcs[19]? = some Tryz.f19:=hP▸Tryz.func19
 have Zl:∀ (Qrf:Bool),(Yx.j1 a0 Qrf)=some r->AK X 19 ((K19 110 1)) (Jb X [] (.b r)) ⟨70,(Yx.p0++[(28,.b Qrf)]),[.box 44 (Ym a0)]⟩:=by
  intro Qrf H
  by_cases c4:Qrf=true
  ·replace H:=iT c4 H
   rw [c4]
   refine Qi hT 5 (K19 11010 1) ⟨70,[(2,.b false)],[.box 44 (Ym a0)]⟩ ?_
   obtain rfl:=Zb H
   exact Yr hf hX h0 (.b false) [] an (.d (.v _))
  replace H:=iF c4 H
  rw [boF c4]
  refine Qi hT 2 (K19 11 1) ⟨70,(Yx.p0),[.box 44 (Ym a0)]⟩ ?_
  refine Qi hT 2 (K19 1110 0) ⟨70,(Yx.p0),[.box 44 (Ym a0)]⟩ ?_
  obtain ⟨v1,h5,H⟩:=ibC H
  have Jj2:∀ (Qi3:Bool),(Yx.j2 a0 Qi3)=some r->AK X 19 ((K19 1110 1)) (Jb X [] (.b r)) ⟨70,(Yx.p0++[(59,.b Qi3)]),[.box 44 (Ym a0)]⟩:=by
   intro Qi3 H
   by_cases c11:Qi3=true
   ·replace H:=iT c11 H
    rw [c11]
    refine Qi hT 5 (K19 111010 1) ⟨70,[(2,.b false)],[.box 44 (Ym a0)]⟩ ?_
    obtain rfl:=Zb H
    exact Yr hf hX h0 (.b false) [] an (.d (.v _))
   replace H:=iF c11 H
   rw [boF c11]
   refine Qi hT 2 (K19 111 1) ⟨70,(Yx.p0),[.box 44 (Ym a0)]⟩ ?_
   refine Qi hT 3 (K19 11110 1) ⟨70,(Yx.p0++[(60,.d (Qct a0))]),[.box 44 (Ym a0)]⟩ ?_
   obtain ⟨v3,h12,H⟩:=ibC H
   have Jj3:∀ (Qg7:Bool),(Yx.j3 Qg7)=some r->AK X 19 ((K19 1111 1)) (Jb X [] (.b r)) ⟨70,[(2,.b Qg7)],[]⟩:=by
    intro Qg7 H
    obtain rfl:=Zb H
    exact Yr hf hX h0 (.b Qg7) [] an (.d (.v _))
   refine Wj (Xw:=[.d (Qct a0)]) (dst:=some 61) (k':=(K19 11110 2)) [1,61] [] hP Wdt (Xm.Wl a0 h12) (by kernel_rfl) (Qz _) (.cons (Qn _) .nil) (st':=⟨70,(Yx.p0++[(61,.b v3)]),[.box 44 (Ym a0)]⟩) (by kernel_rfl) ?_
   refine Qi hT 1 (K19 11110 3) ⟨70,(Yx.p0++[(62,.b v3)]),[.box 44 (Ym a0)]⟩ ?_
   by_cases c13:v3=true
   ·replace H:=iT c13 H
    rw [c13]
    refine Qi hT 1 (K19 11110 4) ⟨70,(Yx.p0++[(62,.b true),(63,.d (Qct a0))]),[.box 44 (Ym a0)]⟩ ?_
    obtain ⟨v4,h14,H⟩:=ibC H
    refine Wj (Xw:=[.d (Qct a0)]) (dst:=some 64) (k':=(K19 11110 5)) [1,62,64] [] hP Wdu (Wn.Wl a0 h14) (by kernel_rfl) (Qz _) (.cons (Qn _) .nil) (st':=⟨70,(Yx.p0++[(62,.b true),(64,.b v4)]),[.box 44 (Ym a0)]⟩) (by kernel_rfl) ?_
    refine Qi hT 2 (K19 11110 7) ⟨70,(Yx.p0++[(66,.b v4)]),[.box 44 (Ym a0)]⟩ ?_
    by_cases c15:v4=true
    ·replace H:=iT c15 H
     rw [c15]
     refine Qi hT 1 (K19 11110 8) ⟨70,[(66,.b true),(67,.d (Qct a0))],[.box 44 (Ym a0)]⟩ ?_
     obtain ⟨v5,h16,H⟩:=ibC H
     refine Wj (Xw:=[.d (Qct a0)]) (dst:=some 68) (k':=(K19 11110 9)) [66,68] [] hP Wdv (We.Wl a0 h16) (by kernel_rfl) (Qz _) (.cons (Qn _) .nil) (st':=⟨70,[(66,.b true),(68,.b v5)],[.box 44 (Ym a0)]⟩) (by kernel_rfl) ?_
     refine Yi hT 3 (K19 1111 1) [] ⟨70,[(2,.b v5)],[]⟩ h0 ?_
     exact Jj3 v5 H
    replace H:=iF c15 H
    rw [boF c15]
    refine Yi hT 5 (K19 1111 1) [] ⟨70,[(2,.b false)],[]⟩ h0 ?_
    exact Jj3 false H
   replace H:=iF c13 H
   rw [boF c13]
   refine Yi hT 9 (K19 1111 1) [] ⟨70,[(2,.b false)],[]⟩ h0 ?_
   exact Jj3 false H
  by_cases c6:v1=true
  ·replace H:=iT c6 H
   obtain ⟨v2,h7,H⟩:=ibC H
   by_cases c8:(v2.length:Int)=(a0.Base.length:Int)
   ·replace H:=iT c8 H
    by_cases c9:a0.Qb6=true
    ·replace H:=iT c9 H
     by_cases c10:a0.Qdd=true
     ·replace H:=iT c10 H
      refine Qfn (nt:=70) (hP▸mixed) 31 [8,9] [1] [(1,.ptr 0 0 0 0)] (sm [.ptr 0 0 0 7,.d (Xj true a0.Base),.b true,.b false,.b false,.ptr 0 0 0 7,.d (Xj true a0.Base),.d (Qct a0),.own 1 2 0 ((Qay a0).length),.own 2 2 0 v2.length,.i (v2.length:Int),.ptr 0 0 0 7,.d (Xj true a0.Base),.i (a0.Base.length:Int),.b false,.b false,.b false,.ptr 0 0 0 5,.b true,.b true,.ptr 0 0 0 4,.b true,.b false,.b false,.ptr 0 0 0 6,.d (Qcx true a0.Held),.i (a0.Held.length:Int),.b (decide ((a0.Held.length:Int) > 0)),.b (decide ((a0.Held.length:Int) > 0)),.b (decide ((a0.Held.length:Int) > 0)),.b (decide ((a0.Held.length:Int) > 0))]) [[.box 44 (Ym a0)],[.box 44 (Ym a0),Qao (Qay a0)],[.box 44 (Ym a0),Qao (Qay a0),Xp v2]] (by kernel_rfl) (by kernel_rfl) (by kernel_rfl) (by kernel_rfl) ⟨?_,(fun R rest h=>Qg8 (Xw:=[.d (Qct a0)]) (dst:=some 37) hP Qk8 (Qay.Wl a0) (by kernel_rfl) (.cons (Qn _) .nil) (by kernel_rfl) h),⟨?_,(fun R rest h=>Qg8 (Xw:=[.d (Xj true a0.Base),.own 1 2 0 ((Qay a0).length)]) (dst:=some 38) hP Qmw (Jf.Wl (t0:=true) (t1:=false) a0.Base (Qay a0) h7) (by kernel_rfl) (.cons (Qn _) (.cons (.Qd4 (ty:=39) (by kernel_rfl) rfl) .nil)) (by kernel_rfl) h),?_⟩⟩ ?_
      iterate 3 exact (Ya (Ya (Ya (Ya (Ya (Ya (Ya (Ya (Ya (Qku (Ya (Ya (Qku (Ya (Ya (Ya (Qku (Ya (Ya (Ya (Ya (Qil (Qil (Ya (Ya (Ya (Ya (Ya (Qik (Ya (Ya Qmf hT) hT) (fun R rest h=>Jz (Xw:=[.d (Xj true a0.Base)]) (dst:=some 31) hP Qhb (by have q:=Xc.Wl (t0:=true) a0.Base h5;rw [c6] at q;exact q) (by kernel_rfl) (.cons (Qn _) .nil) (by kernel_rfl) h)) hT) hT) hT) hT) hT))) hT) hT) hT) hT) hT 43 (.b ((v2.length:Int) != (a0.Base.length:Int))) (.b false) (by rw [neF c8]<;>rfl)) hT) hT) hT) hT 47 (.b a0.Qb6) (.b true) (by rw [c9]<;>rfl)) hT) hT) hT 50 (.b a0.Qdd) (.b true) (by rw [c10]<;>rfl)) hT) hT) hT) hT) hT) hT) hT) hT) hT)
      refine Yi hT 1 (K19 1110 1) [0] ⟨70,(Yx.p0++[(59,.b (decide ((a0.Held.length:Int) > 0)))]),[.box 44 (Ym a0)]⟩ h0 ?_
      exact Jj2 (decide ((a0.Held.length:Int) > 0)) H
     replace H:=iF c10 H
     refine Qfn (nt:=70) (hP▸mixed) 31 [8,9] [1] [(1,.ptr 0 0 0 0)] (sm [.ptr 0 0 0 7,.d (Xj true a0.Base),.b true,.b false,.b false,.ptr 0 0 0 7,.d (Xj true a0.Base),.d (Qct a0),.own 1 2 0 ((Qay a0).length),.own 2 2 0 v2.length,.i (v2.length:Int),.ptr 0 0 0 7,.d (Xj true a0.Base),.i (a0.Base.length:Int),.b false,.b false,.b false,.ptr 0 0 0 5,.b true,.b true,.ptr 0 0 0 4,.b false,.b true,.b true,.Qq [],.Qq [],.Qq [],.Qq [],.b true,.b true,.b true]) [[.box 44 (Ym a0)],[.box 44 (Ym a0),Qao (Qay a0)],[.box 44 (Ym a0),Qao (Qay a0),Xp v2]] (by kernel_rfl) (by kernel_rfl) (by kernel_rfl) (by kernel_rfl) ⟨?_,(fun R rest h=>Qg8 (Xw:=[.d (Qct a0)]) (dst:=some 37) hP Qk8 (Qay.Wl a0) (by kernel_rfl) (.cons (Qn _) .nil) (by kernel_rfl) h),⟨?_,(fun R rest h=>Qg8 (Xw:=[.d (Xj true a0.Base),.own 1 2 0 ((Qay a0).length)]) (dst:=some 38) hP Qmw (Jf.Wl (t0:=true) (t1:=false) a0.Base (Qay a0) h7) (by kernel_rfl) (.cons (Qn _) (.cons (.Qd4 (ty:=39) (by kernel_rfl) rfl) .nil)) (by kernel_rfl) h),?_⟩⟩ ?_
     iterate 3 exact (Ya (Ya (Ya (Ya (Ya (Ya (Ya (Ya (Ya (Qku (Ya (Ya (Qku (Ya (Ya (Ya (Qku (Ya (Ya (Ya (Ya (Qil (Qil (Ya (Ya (Ya (Ya (Ya (Qik (Ya (Ya Qmf hT) hT) (fun R rest h=>Jz (Xw:=[.d (Xj true a0.Base)]) (dst:=some 31) hP Qhb (by have q:=Xc.Wl (t0:=true) a0.Base h5;rw [c6] at q;exact q) (by kernel_rfl) (.cons (Qn _) .nil) (by kernel_rfl) h)) hT) hT) hT) hT) hT))) hT) hT) hT) hT) hT 43 (.b ((v2.length:Int) != (a0.Base.length:Int))) (.b false) (by rw [neF c8]<;>rfl)) hT) hT) hT) hT 47 (.b a0.Qb6) (.b true) (by rw [c9]<;>rfl)) hT) hT) hT 50 (.b a0.Qdd) (.b false) (by rw [boF c10]<;>rfl)) hT) hT) hT) hT) hT) hT) hT) hT) hT)
     refine Yi hT 1 (K19 1110 1) [0] ⟨70,(Yx.p0++[(59,.b true)]),[.box 44 (Ym a0)]⟩ h0 ?_
     exact Jj2 true H
    replace H:=iF c9 H
    refine Qfn (nt:=70) (hP▸mixed) 31 [8,9] [1] [(1,.ptr 0 0 0 0)] (sm [.ptr 0 0 0 7,.d (Xj true a0.Base),.b true,.b false,.b false,.ptr 0 0 0 7,.d (Xj true a0.Base),.d (Qct a0),.own 1 2 0 ((Qay a0).length),.own 2 2 0 v2.length,.i (v2.length:Int),.ptr 0 0 0 7,.d (Xj true a0.Base),.i (a0.Base.length:Int),.b false,.b false,.b false,.ptr 0 0 0 5,.b false,.b false,.Qq [],.Qq [],.Qq [],.Qq [],.Qq [],.Qq [],.Qq [],.Qq [],.Qq [],.b false,.b false]) [[.box 44 (Ym a0)],[.box 44 (Ym a0),Qao (Qay a0)],[.box 44 (Ym a0),Qao (Qay a0),Xp v2]] (by kernel_rfl) (by kernel_rfl) (by kernel_rfl) (by kernel_rfl) ⟨?_,(fun R rest h=>Qg8 (Xw:=[.d (Qct a0)]) (dst:=some 37) hP Qk8 (Qay.Wl a0) (by kernel_rfl) (.cons (Qn _) .nil) (by kernel_rfl) h),⟨?_,(fun R rest h=>Qg8 (Xw:=[.d (Xj true a0.Base),.own 1 2 0 ((Qay a0).length)]) (dst:=some 38) hP Qmw (Jf.Wl (t0:=true) (t1:=false) a0.Base (Qay a0) h7) (by kernel_rfl) (.cons (Qn _) (.cons (.Qd4 (ty:=39) (by kernel_rfl) rfl) .nil)) (by kernel_rfl) h),?_⟩⟩ ?_
    iterate 3 exact (Ya (Ya (Ya (Ya (Ya (Ya (Ya (Ya (Ya (Ya (Ya (Ya (Qku (Ya (Ya (Ya (Qku (Ya (Ya (Ya (Ya (Qil (Qil (Ya (Ya (Ya (Ya (Ya (Qik (Ya (Ya Qmf hT) hT) (fun R rest h=>Jz (Xw:=[.d (Xj true a0.Base)]) (dst:=some 31) hP Qhb (by have q:=Xc.Wl (t0:=true) a0.Base h5;rw [c6] at q;exact q) (by kernel_rfl) (.cons (Qn _) .nil) (by kernel_rfl) h)) hT) hT) hT) hT) hT))) hT) hT) hT) hT) hT 43 (.b ((v2.length:Int) != (a0.Base.length:Int))) (.b false) (by rw [neF c8]<;>rfl)) hT) hT) hT) hT 47 (.b a0.Qb6) (.b false) (by rw [boF c9]<;>rfl)) hT) hT) hT) hT) hT) hT) hT) hT) hT) hT) hT) hT)
    refine Yi hT 1 (K19 1110 1) [0] ⟨70,(Yx.p0++[(59,.b false)]),[.box 44 (Ym a0)]⟩ h0 ?_
    exact Jj2 false H
   replace H:=iF c8 H
   refine Qfn (nt:=70) (hP▸mixed) 31 [8,9] [1] [(1,.ptr 0 0 0 0)] (sm [.ptr 0 0 0 7,.d (Xj true a0.Base),.b true,.b false,.b false,.ptr 0 0 0 7,.d (Xj true a0.Base),.d (Qct a0),.own 1 2 0 ((Qay a0).length),.own 2 2 0 v2.length,.i (v2.length:Int),.ptr 0 0 0 7,.d (Xj true a0.Base),.i (a0.Base.length:Int),.b true,.b true,.b true,.Qq [],.Qq [],.Qq [],.Qq [],.Qq [],.Qq [],.Qq [],.Qq [],.Qq [],.Qq [],.Qq [],.Qq [],.Qq [],.b true]) [[.box 44 (Ym a0)],[.box 44 (Ym a0),Qao (Qay a0)],[.box 44 (Ym a0),Qao (Qay a0),Xp v2]] (by kernel_rfl) (by kernel_rfl) (by kernel_rfl) (by kernel_rfl) ⟨?_,(fun R rest h=>Qg8 (Xw:=[.d (Qct a0)]) (dst:=some 37) hP Qk8 (Qay.Wl a0) (by kernel_rfl) (.cons (Qn _) .nil) (by kernel_rfl) h),⟨?_,(fun R rest h=>Qg8 (Xw:=[.d (Xj true a0.Base),.own 1 2 0 ((Qay a0).length)]) (dst:=some 38) hP Qmw (Jf.Wl (t0:=true) (t1:=false) a0.Base (Qay a0) h7) (by kernel_rfl) (.cons (Qn _) (.cons (.Qd4 (ty:=39) (by kernel_rfl) rfl) .nil)) (by kernel_rfl) h),?_⟩⟩ ?_
   iterate 3 exact (Ya (Ya (Ya (Ya (Ya (Ya (Ya (Ya (Ya (Ya (Ya (Ya (Ya (Ya (Ya (Ya (Qku (Ya (Ya (Ya (Ya (Qil (Qil (Ya (Ya (Ya (Ya (Ya (Qik (Ya (Ya Qmf hT) hT) (fun R rest h=>Jz (Xw:=[.d (Xj true a0.Base)]) (dst:=some 31) hP Qhb (by have q:=Xc.Wl (t0:=true) a0.Base h5;rw [c6] at q;exact q) (by kernel_rfl) (.cons (Qn _) .nil) (by kernel_rfl) h)) hT) hT) hT) hT) hT))) hT) hT) hT) hT) hT 43 (.b ((v2.length:Int) != (a0.Base.length:Int))) (.b true) (by rw [neT c8]<;>rfl)) hT) hT) hT) hT) hT) hT) hT) hT) hT) hT) hT) hT) hT) hT) hT) hT)
   refine Yi hT 1 (K19 1110 1) [0] ⟨70,(Yx.p0++[(59,.b true)]),[.box 44 (Ym a0)]⟩ h0 ?_
   exact Jj2 true H
  replace H:=iF c6 H
  refine Qbt (hP▸mixed) 31 [1] (sm [.ptr 0 0 0 7,.d (Xj true a0.Base),.b false,.b true,.b true,.Qq [],.Qq [],.Qq [],.Qq [],.Qq [],.Qq [],.Qq [],.Qq [],.Qq [],.Qq [],.b true,.b true,.Qq [],.Qq [],.Qq [],.Qq [],.Qq [],.Qq [],.Qq [],.Qq [],.Qq [],.Qq [],.Qq [],.Qq [],.Qq [],.b true]) (Qg (Qg (Qg (Qg (Qg (Qg (Qg (Qg (Qg (Qg (Qg (Qg (Qg (Qg (Qg (Qg (Qg (Qg (Qg (Qg (Qg (Qg (Qg (Qg (Qg (Qg (Qg (Qg (opS (Qg (Qg op0 hT) hT) (fun R rest h=>Jz (Xw:=[.d (Xj true a0.Base)]) (dst:=some 31) hP Qhb (by have q:=Xc.Wl (t0:=true) a0.Base h5;rw [boF c6] at q;exact q) (by kernel_rfl) (.cons (Qn _) .nil) (by kernel_rfl) h)) hT) hT) hT) hT) hT) hT) hT) hT) hT) hT) hT) hT) hT) hT) hT) hT) hT) hT) hT) hT) hT) hT) hT) hT) hT) hT) hT) hT) ?_
  refine Qi hT 1 (K19 1110 1) ⟨70,(Yx.p0++[(59,.b true)]),[.box 44 (Ym a0)]⟩ ?_
  exact Jj2 true H
 refine Qi hT 10 (K19 1100 2) ⟨70,(Yx.p0++[(4,.i a0.ID)]),[.box 44 (Ym a0)]⟩ ?_
 refine Wj (Xw:=[.i a0.ID,.i 1,.i 65536]) (dst:=some 5) (k':=(K19 1100 3)) [1,5] [] hP Qeu (Qav.Wl a0.ID 1 65536) (by kernel_rfl) (Qz _) (.cons (Qn _) (.cons (Qn _) (.cons (Qn _) .nil))) (st':=⟨70,(Yx.p0++[(5,.b (Qav a0.ID 1 65536))]),[.box 44 (Ym a0)]⟩) (by kernel_rfl) ?_
 refine Qi hT 2 (K19 1100 5) ⟨70,(Yx.p0++[(7,.b (!(Qav a0.ID 1 65536)))]),[.box 44 (Ym a0)]⟩ ?_
 by_cases c1:(Qav a0.ID 1 65536)=true
 ·replace H:=iT c1 H
  rw [c1]
  refine Qi hT 2 (K19 1100 7) ⟨70,(Yx.p0++[(7,.b false),(9,.d (Qfd a0.Keys))]),[.box 44 (Ym a0)]⟩ ?_
  refine Wj (Xw:=[.d (Qfd a0.Keys)]) (dst:=some 10) (k':=(K19 1100 8)) [1,7,10] [] hP Qid (Qbc.Wl a0.Keys) (by kernel_rfl) (Qz _) (.cons (Qn _) .nil) (st':=⟨70,(Yx.p0++[(7,.b false),(10,.b (Qbc a0.Keys))]),[.box 44 (Ym a0)]⟩) (by kernel_rfl) ?_
  refine Qi hT 3 (K19 1100 11) ⟨70,(Yx.p0++[(13,.b (!(Qbc a0.Keys)))]),[.box 44 (Ym a0)]⟩ ?_
  by_cases c2:(Qbc a0.Keys)=true
  ·replace H:=iT c2 H
   rw [c2]
   refine Qi hT 2 (K19 1100 13) ⟨70,(Yx.p0++[(13,.b false),(15,.i a0.Clock)]),[.box 44 (Ym a0)]⟩ ?_
   refine Wj (Xw:=[.i a0.Clock]) (dst:=some 16) (k':=(K19 1100 14)) [1,13,16] [] hP Qmv (Qdn.Wl a0.Clock) (by kernel_rfl) (Qz _) (.cons (Qn _) .nil) (st':=⟨70,(Yx.p0++[(13,.b false),(16,.b (Qdn a0.Clock))]),[.box 44 (Ym a0)]⟩) (by kernel_rfl) ?_
   refine Qi hT 3 (K19 1100 17) ⟨70,(Yx.p0++[(19,.b (!(Qdn a0.Clock)))]),[.box 44 (Ym a0)]⟩ ?_
   by_cases c3:(Qdn a0.Clock)=true
   ·replace H:=iT c3 H
    rw [c3]
    refine Qi hT 10 (K19 110 1) ⟨70,(Yx.p0++[(28,.b (decide ((IntKind.wrap .i64 ((a0.Held.length:Int)+(a0.Qw.length:Int))) > 1000)))]),[.box 44 (Ym a0)]⟩ ?_
    exact Zl (decide ((IntKind.wrap .i64 ((a0.Held.length:Int)+(a0.Qw.length:Int))) > 1000)) H
   replace H:=iF c3 H
   rw [boF c3]
   refine Qi hT 10 (K19 110 1) ⟨70,(Yx.p0++[(28,.b true)]),[.box 44 (Ym a0)]⟩ ?_
   exact Zl true H
  replace H:=iF c2 H
  rw [boF c2]
  refine Qi hT 16 (K19 110 1) ⟨70,(Yx.p0++[(28,.b true)]),[.box 44 (Ym a0)]⟩ ?_
  exact Zl true H
 replace H:=iF c1 H
 rw [boF c1]
 refine Qi hT 22 (K19 110 1) ⟨70,(Yx.p0++[(28,.b true)]),[.box 44 (Ym a0)]⟩ ?_
 exact Zl true H
theorem Qek.Wl (a0:Qc) (a1:Qc):Yn Tryz.prog 22 [] [.d (Qd2 a0),.d (Qd2 a1)] [] (.b (Qek a0 a1)):=by
 obtain ⟨r,H⟩:∃ r,Qek a0 a1=r:=⟨_,rfl⟩
 rw [H]
 refine Xt Tryz.func22 rfl (nt:=21) rfl (lb rfl) fun X hP h0 hX=>?_
 have hT:Xl X.P T:=hP▸tok
 have hf:X.P.funcs[22]? = some Tryz.f22:=hP▸Tryz.func22
 have Zl:∀ (Qdj:Bool),(Qek.j1 Qdj)=r->AK X 22 ((K22 11 1)) (Jb X [] (.b r)) ⟨21,[(4,.b Qdj)],[]⟩:=by
  intro Qdj H
  obtain rfl:=H
  exact Yr hf hX h0 (.b Qdj) [] an (.d (.v _))
 refine Qi hT 16 (K22 110 8) ⟨21,[(2,.ptr 0 0 0 0),(3,.ptr 1 0 0 0),(12,.b (a0.M.Client == a1.M.Client))],[.box 50 (Qbl a0),.box 50 (Qbl a1)]⟩ ?_
 by_cases c1:a0.M.Client=a1.M.Client
 ·replace H:=iT c1 H
  rw [eqT c1]
  refine Yi hT 10 (K22 11 1) [] ⟨21,[(4,.b (a0.M.Seq == a1.M.Seq))],[]⟩ h0 ?_
  exact Zl (a0.M.Seq == a1.M.Seq) H
 replace H:=iF c1 H
 rw [eqF c1]
 refine Yi hT 10 (K22 11 1) [] ⟨21,[(4,.b false)],[]⟩ h0 ?_
 exact Zl false H
theorem Qer.Wl (a0:Qc) (k0:Qc):Yn Tryz.prog 21 [] [.d (Qd2 a0),.d (.rop false 1 (fun _=>[.i k0.M.Client,.i k0.M.Seq,.i k0.M.Kind,Xj true k0.M.Pairs,.i k0.M.Over.Lo,.i k0.M.Over.Hi,.i k0.M.Old,.i k0.Time,.b k0.Jc]) 0 0)] [] (.b (Qer a0 k0)):=by
 obtain ⟨r,H⟩:∃ r,Qer a0 k0=r:=⟨_,rfl⟩
 rw [H]
 refine Xt Tryz.func21 rfl (nt:=7) rfl (lb rfl) fun X hP h0 hX=>?_
 have hT:Xl X.P T:=hP▸tok
 have hf:X.P.funcs[21]? = some Tryz.f21:=hP▸Tryz.func21
 refine Qi hT 9 (K21 110 2) ⟨7,[(4,.d (Qd2 a0)),(5,.d (Qd2 k0))],[.box 50 (Qbl a0)]⟩ ?_
 refine Wj (Xw:=[.d (Qd2 a0),.d (Qd2 k0)]) (dst:=some 6) (k':=(K21 110 3)) [6] [] hP Wdh (Qek.Wl a0 k0) (by kernel_rfl) (Qz _) (.cons (Qn _) (.cons (Qn _) .nil)) (st':=⟨7,[(6,.b (Qek a0 k0))],[.box 50 (Qbl a0)]⟩) (by kernel_rfl) ?_
 refine Qi hT 2 (K21 11 1) ⟨7,[(3,.b (Qek a0 k0))],[.box 50 (Qbl a0)]⟩ ?_
 obtain rfl:=H
 exact Yr hf hX h0 (.b (Qek a0 k0)) [] an (.d (.v _))
abbrev Yz.p0 (t0:Bool) (a0:List Qa) (t1:Bool) (a1:List Qa):List (Nat × AV):=[(0,.d (Xj t0 a0)),(1,.d (Xj t1 a1)),(12,.i (a0.length:Int))]
theorem Yz.Wl {t0:Bool} {t1:Bool} (a0:List Qa) (a1:List Qa) {r:Bool} (H:Yz a0 a1=some r):Yn Tryz.prog 91 [] [.d (Xj t0 a0),.d (Xj t1 a1)] [] (.b r):=by
 refine Xt Tryz.func91 rfl (nt:=26) rfl (lb rfl) fun X hP h0 hX=>?_
 have hT:Xl X.P T:=hP▸tok
 have hf:X.P.funcs[91]? = some Tryz.f91:=hP▸Tryz.func91
 refine Qi hT 13 (K91 110 1) ⟨26,[(0,.d (Xj t0 a0)),(1,.d (Xj t1 a1)),(10,.b ((a0.length:Int) != (a1.length:Int)))],[]⟩ ?_
 by_cases c1:(a0.length:Int)=(a1.length:Int)
 ·replace H:=iT c1 H
  rw [neF c1]
  refine Qi hT 2 (K91 11 1) ⟨26,[(0,.d (Xj t0 a0)),(1,.d (Xj t1 a1))],[]⟩ ?_
  refine Qi hT 9 (K91 111010 0) ⟨26,(Yz.p0 t0 a0 t1 a1++[(13,.i 0)]),[]⟩ ?_
  have L:∀ n,(∀ (Yv:Int),iter (Yz.step a0 a1) n (.l1 Yv)=some r->AK X 91 ((K91 111010 0)) (Jb X [] (.b r)) ⟨26,(Yz.p0 t0 a0 t1 a1++[(13,.i Yv)]),[]⟩):=by
   intro n
   induction n with
   | zero=>exact fun _ H=>Qbx H
   | succ n ih=>
    ·intro Yv H
     refine Qi hT 5 (K91 11101001 0) ⟨26,(Yz.p0 t0 a0 t1 a1++[(13,.i Yv),(14,.b (decide (Yv < (a0.length:Int))))]),[]⟩ ?_
     by_cases c2:Yv < (a0.length:Int)
     ·replace H:=sT c2 H
      rw [decide_eq_true c2]
      refine Qi hT 2 (K91 11101001 1) ⟨26,(Yz.p0 t0 a0 t1 a1++[(13,.i Yv)]),[]⟩ ?_
      refine Qi hT 8 (K91 111010011001 0) ⟨26,[(0,.d (Xj t0 a0)),(1,.d (Xj t1 a1)),(5,.i Yv),(12,.i (a0.length:Int)),(13,.i Yv)],[]⟩ ?_
      obtain ⟨h3,H⟩:=sC H
      obtain ⟨h4,H⟩:=sC H
      refine Qbt (hP▸mixed) 9 [0,1,5,12,13] (sm [.d (Xj t0 a0),.i Yv,.d (Qec t0 a0 Yv.toNat 0),.d (Qf4 (a0.getD Yv.toNat Qa.z)),.d (Xj t1 a1),.i Yv,.d (Qec t1 a1 Yv.toNat 0),.d (Qf4 (a1.getD Yv.toNat Qa.z)),.b (!((((a0.getD Yv.toNat Qa.z).Key) == ((a1.getD Yv.toNat Qa.z).Key)) && (((a0.getD Yv.toNat Qa.z).Val) == ((a1.getD Yv.toNat Qa.z).Val))))]) (Qg (Qg (opS (Qg (Qg (Qg (opS (Qg (Qg op0 hT) hT) (fun R rest h=>Qae hT (i:=Yv) (n:=(a0.length:Int)) h3.1 h3.2 (by kernel_rfl) h)) hT) hT) hT) (fun R rest h=>Qae hT (i:=Yv) (n:=(a1.length:Int)) h4.1 h4.2 (by kernel_rfl) h)) hT) hT) ?_
      refine Qi hT 1 (K91 111010011001 1) ⟨26,(Yz.p0 t0 a0 t1 a1++[(13,.i Yv),(24,.b (!((((a0.getD Yv.toNat Qa.z).Key) == ((a1.getD Yv.toNat Qa.z).Key)) && (((a0.getD Yv.toNat Qa.z).Val) == ((a1.getD Yv.toNat Qa.z).Val)))))]),[]⟩ ?_
      by_cases c5:((a0.getD Yv.toNat Qa.z).Key)=((a1.getD Yv.toNat Qa.z).Key)
      ·replace H:=sT c5 H
       rw [eqT c5]
       by_cases c6:((a0.getD Yv.toNat Qa.z).Val)=((a1.getD Yv.toNat Qa.z).Val)
       ·replace H:=sT c6 H
        rw [eqT c6]
        refine Qi hT 3 (K91 111010011 1) ⟨26,(Yz.p0 t0 a0 t1 a1++[(13,.i Yv)]),[]⟩ ?_
        refine Qi hT 5 (K91 111010 0) ⟨26,(Yz.p0 t0 a0 t1 a1++[(13,.i (IntKind.wrap .i64 (Yv+1)))]),[]⟩ ?_
        exact ih (IntKind.wrap .i64 (Yv+1)) H
       replace H:=sF c6 H
       rw [eqF c6]
       refine Qi hT 5 (K91 11101001100110 1) ⟨26,[(4,.b false)],[]⟩ ?_
       obtain rfl:=Zb H
       exact Yr hf hX h0 (.b false) [] an (.d (.v _))
      replace H:=sF c5 H
      rw [eqF c5]
      by_cases c7:((a0.getD Yv.toNat Qa.z).Val)=((a1.getD Yv.toNat Qa.z).Val)
      ·replace H:=sT c7 H
       rw [eqT c7]
       refine Qi hT 5 (K91 11101001100110 1) ⟨26,[(4,.b false)],[]⟩ ?_
       obtain rfl:=Zb H
       exact Yr hf hX h0 (.b false) [] an (.d (.v _))
      replace H:=sF c7 H
      rw [eqF c7]
      refine Qi hT 5 (K91 11101001100110 1) ⟨26,[(4,.b false)],[]⟩ ?_
      obtain rfl:=Zb H
      exact Yr hf hX h0 (.b false) [] an (.d (.v _))
     replace H:=sF c2 H
     rw [decide_eq_false c2]
     refine Qi hT 6 (K91 1111 1) ⟨26,[(4,.b true)],[]⟩ ?_
     obtain rfl:=Zb H
     exact Yr hf hX h0 (.b true) [] an (.d (.v _))
  obtain ⟨n,H⟩:=Qcn H
  exact (L n) 0 H
 replace H:=iF c1 H
 rw [neT c1]
 refine Qi hT 5 (K91 11010 1) ⟨26,[(4,.b false)],[]⟩ ?_
 obtain rfl:=Zb H
 exact Yr hf hX h0 (.b false) [] an (.d (.v _))
abbrev Qco.p0:List (Nat × AV):=[(2,.ptr 0 0 0 0),(3,.ptr 1 0 0 0)]
theorem Qco.Wl (a0:Qu) (a1:Qu) {r:Bool} (H:Qco a0 a1=some r):Yn Tryz.prog 57 [] [.d (Qaq a0),.d (Qaq a1)] [] (.b r):=by
 refine Xt Tryz.func57 rfl (nt:=45) rfl (lb rfl) fun X hP h0 hX=>?_
 have hT:Xl X.P T:=hP▸tok
 have hf:X.P.funcs[57]? = some Tryz.f57:=hP▸Tryz.func57
 have Zl:∀ (Qdj:Bool),(Qco.j1 Qdj)=some r->AK X 57 ((K57 11 1)) (Jb X [] (.b r)) ⟨45,[(4,.b Qdj)],[]⟩:=by
  intro Qdj H
  obtain rfl:=Zb H
  exact Yr hf hX h0 (.b Qdj) [] an (.d (.v _))
 refine Qi hT 14 (K57 110 6) ⟨45,(Qco.p0++[(10,.b (a0.Client == a1.Client))]),[.box 47 (Yk a0),.box 47 (Yk a1)]⟩ ?_
 by_cases c1:a0.Client=a1.Client
 ·replace H:=iT c1 H
  rw [eqT c1]
  refine Qi hT 7 (K57 110 13) ⟨45,(Qco.p0++[(17,.b (a0.Seq == a1.Seq))]),[.box 47 (Yk a0),.box 47 (Yk a1)]⟩ ?_
  by_cases c2:a0.Seq=a1.Seq
  ·replace H:=iT c2 H
   rw [eqT c2]
   refine Qi hT 7 (K57 110 20) ⟨45,(Qco.p0++[(24,.b (a0.Kind == a1.Kind))]),[.box 47 (Yk a0),.box 47 (Yk a1)]⟩ ?_
   by_cases c3:a0.Kind=a1.Kind
   ·replace H:=iT c3 H
    rw [eqT c3]
    refine Qi hT 7 (K57 110 27) ⟨45,(Qco.p0++[(31,.b ((a0.Over.Lo == a1.Over.Lo) && (a0.Over.Hi == a1.Over.Hi)))]),[.box 47 (Yk a0),.box 47 (Yk a1)]⟩ ?_
    by_cases c4:a0.Over.Lo=a1.Over.Lo
    ·replace H:=iT c4 H
     rw [eqT c4]
     by_cases c5:a0.Over.Hi=a1.Over.Hi
     ·replace H:=iT c5 H
      rw [eqT c5]
      refine Qi hT 7 (K57 110 34) ⟨45,(Qco.p0++[(38,.b (a0.Old == a1.Old))]),[.box 47 (Yk a0),.box 47 (Yk a1)]⟩ ?_
      by_cases c6:a0.Old=a1.Old
      ·replace H:=iT c6 H
       rw [eqT c6]
       refine Qi hT 4 (K57 110 38) ⟨45,[(38,.b true),(40,.d (Xj true a0.Pairs)),(42,.d (Xj true a1.Pairs))],[.box 47 (Yk a0),.box 47 (Yk a1)]⟩ ?_
       obtain ⟨v1,h7,H⟩:=ibC H
       refine Wj (Xw:=[.d (Xj true a0.Pairs),.d (Xj true a1.Pairs)]) (dst:=some 43) (k':=(K57 110 39)) [38,43] [] hP Wee (Yz.Wl (t0:=true) (t1:=true) a0.Pairs a1.Pairs h7) (by kernel_rfl) (Qz _) (.cons (Qn _) (.cons (Qn _) .nil)) (st':=⟨45,[(38,.b true),(43,.b v1)],[.box 47 (Yk a0),.box 47 (Yk a1)]⟩) (by kernel_rfl) ?_
       refine Yi hT 3 (K57 11 1) [] ⟨45,[(4,.b v1)],[]⟩ h0 ?_
       exact Zl v1 H
      replace H:=iF c6 H
      rw [eqF c6]
      refine Yi hT 8 (K57 11 1) [] ⟨45,[(4,.b false)],[]⟩ h0 ?_
      exact Zl false H
     replace H:=iF c5 H
     rw [eqF c5]
     refine Yi hT 15 (K57 11 1) [] ⟨45,[(4,.b false)],[]⟩ h0 ?_
     exact Zl false H
    replace H:=iF c4 H
    rw [eqF c4]
    by_cases c8:a0.Over.Hi=a1.Over.Hi
    ·replace H:=iT c8 H
     rw [eqT c8]
     refine Yi hT 15 (K57 11 1) [] ⟨45,[(4,.b false)],[]⟩ h0 ?_
     exact Zl false H
    replace H:=iF c8 H
    rw [eqF c8]
    refine Yi hT 15 (K57 11 1) [] ⟨45,[(4,.b false)],[]⟩ h0 ?_
    exact Zl false H
   replace H:=iF c3 H
   rw [eqF c3]
   refine Yi hT 22 (K57 11 1) [] ⟨45,[(4,.b false)],[]⟩ h0 ?_
   exact Zl false H
  replace H:=iF c2 H
  rw [eqF c2]
  refine Yi hT 29 (K57 11 1) [] ⟨45,[(4,.b false)],[]⟩ h0 ?_
  exact Zl false H
 replace H:=iF c1 H
 rw [eqF c1]
 refine Yi hT 36 (K57 11 1) [] ⟨45,[(4,.b false)],[]⟩ h0 ?_
 exact Zl false H
theorem Qd7.Wl (a0:Qc) (a1:Qc) {r:Bool} (H:Qd7 a0 a1=some r):Yn Tryz.prog 23 [] [.d (Qd2 a0),.d (Qd2 a1)] [] (.b r):=by
 refine Xt Tryz.func23 rfl (nt:=24) rfl (lb rfl) fun X hP h0 hX=>?_
 have hT:Xl X.P T:=hP▸tok
 have hf:X.P.funcs[23]? = some Tryz.f23:=hP▸Tryz.func23
 refine Qi hT 12 (K23 110 4) ⟨24,[(2,.ptr 0 0 0 0),(3,.ptr 1 0 0 0),(6,.d (Qaq a0.M)),(8,.d (Qaq a1.M))],[.box 50 (Qbl a0),.box 50 (Qbl a1)]⟩ ?_
 obtain ⟨v1,h1,H⟩:=ibC H
 have Zl:∀ (Qdj:Bool),(Qd7.j1 Qdj)=some r->AK X 23 ((K23 11 1)) (Jb X [] (.b r)) ⟨24,[(4,.b Qdj)],[]⟩:=by
  intro Qdj H
  obtain rfl:=Zb H
  exact Yr hf hX h0 (.b Qdj) [] an (.d (.v _))
 refine Wj (Xw:=[.d (Qaq a0.M),.d (Qaq a1.M)]) (dst:=some 9) (k':=(K23 110 5)) [2,3,9] [] hP Wdw (Qco.Wl a0.M a1.M h1) (by kernel_rfl) (Qz _) (.cons (Qn _) (.cons (Qn _) .nil)) (st':=⟨24,[(2,.ptr 0 0 0 0),(3,.ptr 1 0 0 0),(9,.b v1)],[.box 50 (Qbl a0),.box 50 (Qbl a1)]⟩) (by kernel_rfl) ?_
 refine Qi hT 1 (K23 110 6) ⟨24,[(2,.ptr 0 0 0 0),(3,.ptr 1 0 0 0),(10,.b v1)],[.box 50 (Qbl a0),.box 50 (Qbl a1)]⟩ ?_
 by_cases c2:v1=true
 ·replace H:=iT c2 H
  rw [c2]
  refine Qi hT 7 (K23 110 13) ⟨24,[(2,.ptr 0 0 0 0),(3,.ptr 1 0 0 0),(17,.b (a0.Time == a1.Time))],[.box 50 (Qbl a0),.box 50 (Qbl a1)]⟩ ?_
  by_cases c3:a0.Time=a1.Time
  ·replace H:=iT c3 H
   rw [eqT c3]
   refine Yi hT 8 (K23 11 1) [] ⟨24,[(4,.b (a0.Jc == a1.Jc))],[]⟩ h0 ?_
   exact Zl (a0.Jc == a1.Jc) H
  replace H:=iF c3 H
  rw [eqF c3]
  refine Yi hT 8 (K23 11 1) [] ⟨24,[(4,.b false)],[]⟩ h0 ?_
  exact Zl false H
 replace H:=iF c2 H
 rw [boF c2]
 refine Yi hT 15 (K23 11 1) [] ⟨24,[(4,.b false)],[]⟩ h0 ?_
 exact Zl false H
abbrev Qm.q1 (Yc:List Qc) (Xy:Int):List AV:=[.i (((Yc.getD Xy.toNat Qc.z).M).Client),.i (((Yc.getD Xy.toNat Qc.z).M).Seq),.i (((Yc.getD Xy.toNat Qc.z).M).Kind),.own 2 2 0 ((((Yc.getD Xy.toNat Qc.z).M).Pairs).length),.i ((((Yc.getD Xy.toNat Qc.z).M).Over).Lo),.i ((((Yc.getD Xy.toNat Qc.z).M).Over).Hi),.i (((Yc.getD Xy.toNat Qc.z).M).Old),.i ((Yc.getD Xy.toNat Qc.z).Time),.b ((Yc.getD Xy.toNat Qc.z).Jc)]
abbrev Qm.q2 (Yc:List Qc) (Xy:Int):=(Yc.getD Xy.toNat Qc.z)
abbrev Qm.p0 (t0:Bool) (a0:List Qf):List (Nat × AV):=[(0,.d (Ju t0 a0)),(4,.ns),(12,.d (Ju t0 a0)),(13,.i (a0.length:Int))]
theorem Qm.Wl {t0:Bool} (a0:List Qf) {r:(List Qc) × Int} (H:Qm a0=some r):Yn Tryz.prog 7 [] [.d (Ju t0 a0)] [Yl r.1] (.Qq [.own 0 9 0 r.1.length,.i r.2]):=by
 refine Xt Tryz.func7 rfl (nt:=66) rfl (lb rfl) fun X hP h0 hX=>?_
 have hT:Xl X.P T:=hP▸tok
 have hf:X.P.funcs[7]? = some Tryz.f7:=hP▸Tryz.func7
 refine Qi hT 18 (K7 111010 0) ⟨66,(Qm.p0 t0 a0++[(14,.i 0)]),[]⟩ ?_
 have L:∀ n,(∀ (Qc2:Int),iter (Qm.step a0) n (.l1 Qc2)=some r->AK X 7 ((K7 111010 0)) (Jb X [Yl r.1] (.Qq [.own 0 9 0 r.1.length,.i r.2])) ⟨66,(Qm.p0 t0 a0++[(14,.i Qc2)]),[]⟩)/\(∀ (Qeb:Int) (Ja:List Qc),iter (Qm.step a0) n (.l2 Qeb Ja)=some r->AK X 7 ((K7 1111010 0)) (Jb X [Yl r.1] (.Qq [.own 0 9 0 r.1.length,.i r.2])) ⟨66,[(4,.own 0 9 0 Ja.length),(22,.d (Ju t0 a0)),(23,.i (a0.length:Int)),(24,.i Qeb)],[Yl Ja]⟩)/\(∀ (Qb4:Int) (Yc:List Qc) (Qb5:Int) (Xy:Int) (Yt:List Qc),iter (Qm.step a0) n (.l3 Qb4 Yc Qb5 Xy Yt)=some r->AK X 7 ((K7 111101001100110 0)) (Jb X [Yl r.1] (.Qq [.own 0 9 0 r.1.length,.i r.2])) ⟨66,[(4,.own 0 9 0 Yt.length),(22,.d (Ju t0 a0)),(23,.i (a0.length:Int)),(24,.i Qb4),(29,.d (Zy true Yc)),(30,.i Qb5),(31,.i Xy)],[Yl Yt]⟩):=by
  intro n
  induction n with
  | zero=>exact ⟨fun _ H=>Qbx H,fun _ _ H=>Qbx H,fun _ _ _ _ _ H=>Qbx H⟩
  | succ n ih=>
   refine ⟨?_, ?_, ?_⟩
   ·intro Qc2 H
    refine Qi hT 5 (K7 11101001 0) ⟨66,(Qm.p0 t0 a0++[(14,.i Qc2),(15,.b (decide (Qc2 < (a0.length:Int))))]),[]⟩ ?_
    by_cases c1:Qc2 < (a0.length:Int)
    ·replace H:=sT c1 H
     rw [decide_eq_true c1]
     refine Qi hT 2 (K7 11101001 1) ⟨66,(Qm.p0 t0 a0++[(14,.i Qc2)]),[]⟩ ?_
     refine Qi hT 4 (K7 111010011000 0) ⟨66,(Qm.p0 t0 a0++[(14,.i Qc2)]),[]⟩ ?_
     obtain ⟨h2,H⟩:=sC H
     refine Qa7 hT [0,4,12,13,14,16] (i:=Qc2) (n:=(a0.length:Int)) h2.1 h2.2 (k':=(K7 111010011000 1)) (st':=⟨66,(Qm.p0 t0 a0++[(14,.i Qc2),(16,.d (Qw0 t0 a0 Qc2.toNat 0))]),[]⟩) (by kernel_rfl) ?_
     refine Qi hT 7 (K7 1110100110010 1) ⟨66,(Qm.p0 t0 a0++[(14,.i Qc2),(18,.d (Qct (a0.getD Qc2.toNat Qf.z)))]),[.box 44 (Ym (a0.getD Qc2.toNat Qf.z))]⟩ ?_
     obtain ⟨v1,h3,H⟩:=sbC H
     refine Wj (Xw:=[.d (Qct (a0.getD Qc2.toNat Qf.z))]) (dst:=some 19) (k':=(K7 1110100110010 2)) [0,4,12,13,14,19] [] hP Qu0 (Yx.Wl (a0.getD Qc2.toNat Qf.z) h3) (by kernel_rfl) (Qz _) (.cons (Qn _) .nil) (st':=⟨66,(Qm.p0 t0 a0++[(14,.i Qc2),(19,.b v1)]),[.box 44 (Ym (a0.getD Qc2.toNat Qf.z))]⟩) (by kernel_rfl) ?_
     refine Qi hT 2 (K7 111010011001 1) ⟨66,(Qm.p0 t0 a0++[(14,.i Qc2),(20,.b (!v1))]),[.box 44 (Ym (a0.getD Qc2.toNat Qf.z))]⟩ ?_
     by_cases c4:v1=true
     ·replace H:=sT c4 H
      rw [c4]
      refine Qi hT 3 (K7 111010011 1) ⟨66,(Qm.p0 t0 a0++[(14,.i Qc2)]),[.box 44 (Ym (a0.getD Qc2.toNat Qf.z))]⟩ ?_
      refine Yi hT 5 (K7 111010 0) [] ⟨66,(Qm.p0 t0 a0++[(14,.i (IntKind.wrap .i64 (Qc2+1)))]),[]⟩ h0 ?_
      exact ih.1 (IntKind.wrap .i64 (Qc2+1)) H
     replace H:=sF c4 H
     rw [boF c4]
     refine Qi hT 6 (K7 11101001100110 1) ⟨66,[(2,.ns),(3,.i 1)],[.box 44 (Ym (a0.getD Qc2.toNat Qf.z))]⟩ ?_
     refine Qe8 [2,3] 2 9 50 (vec Qc.e Qc.z []) (st':=⟨66,[(2,.own 1 9 0 0),(3,.i 1)],[.box 44 (Ym (a0.getD Qc2.toNat Qf.z)),Yl ([]:List Qc)]⟩) (by kernel_rfl) (by kernel_rfl) ?_
     obtain rfl:=Zb H
     exact Yr hf hX h0 (.Qq [.own 1 9 0 0,.i 1]) [1] (ac (Qbd Qc.nl) an) (.Qq (.cons (.own _ _ _ _) (.cons (.d (.v _)) .nil)))
    replace H:=sF c1 H
    rw [decide_eq_false c1]
    refine Qi hT 11 (K7 1111010 0) ⟨66,[(4,.ns),(22,.d (Ju t0 a0)),(23,.i (a0.length:Int)),(24,.i 0)],[]⟩ ?_
    refine Qe8 [4,22,23,24] 4 9 50 (vec Qc.e Qc.z []) (st':=⟨66,[(4,.own 0 9 0 0),(22,.d (Ju t0 a0)),(23,.i (a0.length:Int)),(24,.i 0)],[Yl ([]:List Qc)]⟩) (by kernel_rfl) (by kernel_rfl) ?_
    refine Qkp [0] ⟨66,[(4,.own 0 9 0 ([]:List Qc).length),(22,.d (Ju t0 a0)),(23,.i (a0.length:Int)),(24,.i 0)],[Yl ([]:List Qc)]⟩ h0 ?_
    exact ih.2.1 0 ([]:List Qc) H
   ·intro Qeb Ja H
    refine Qi hT 5 (K7 111101001 0) ⟨66,[(4,.own 0 9 0 Ja.length),(22,.d (Ju t0 a0)),(23,.i (a0.length:Int)),(24,.i Qeb),(25,.b (decide (Qeb < (a0.length:Int))))],[Yl Ja]⟩ ?_
    by_cases c5:Qeb < (a0.length:Int)
    ·replace H:=sT c5 H
     rw [decide_eq_true c5]
     refine Qi hT 2 (K7 111101001 1) ⟨66,[(4,.own 0 9 0 Ja.length),(22,.d (Ju t0 a0)),(23,.i (a0.length:Int)),(24,.i Qeb)],[Yl Ja]⟩ ?_
     refine Qi hT 4 (K7 1111010011000 0) ⟨66,[(4,.own 0 9 0 Ja.length),(22,.d (Ju t0 a0)),(23,.i (a0.length:Int)),(24,.i Qeb)],[Yl Ja]⟩ ?_
     obtain ⟨h7,H⟩:=sC H
     refine Qa7 hT [4,22,23,24,26] (i:=Qeb) (n:=(a0.length:Int)) h7.1 h7.2 (k':=(K7 1111010011000 1)) (st':=⟨66,[(4,.own 0 9 0 Ja.length),(22,.d (Ju t0 a0)),(23,.i (a0.length:Int)),(24,.i Qeb),(26,.d (Qw0 t0 a0 Qeb.toNat 0))],[Yl Ja]⟩) (by kernel_rfl) ?_
     refine Yi hT 13 (K7 111101001100110 0) [0] ⟨66,[(4,.own 0 9 0 Ja.length),(22,.d (Ju t0 a0)),(23,.i (a0.length:Int)),(24,.i Qeb),(29,.d (Zy true ((a0.getD Qeb.toNat Qf.z).Log))),(30,.i (((a0.getD Qeb.toNat Qf.z).Log).length:Int)),(31,.i 0)],[Yl Ja]⟩ h0 ?_
     exact ih.2.2 Qeb ((a0.getD Qeb.toNat Qf.z).Log) (((a0.getD Qeb.toNat Qf.z).Log).length:Int) 0 Ja H
    replace H:=sF c5 H
    rw [decide_eq_false c5]
    refine Qi hT 5 (K7 111110 1) ⟨66,[(4,.own 0 9 0 Ja.length),(63,.own 0 9 0 Ja.length)],[Yl Ja]⟩ ?_
    obtain ⟨h6,H⟩:=sC H
    refine Wj (Xw:=[.own 0 9 0 Ja.length,.d (.fn 26 [])]) (dst:=some 64) (k':=(K7 111110 2)) [4] [0] hP Wdj (Wkb Wdk Qbu Qgk (fun x y=>Qpb x y) Ja h6) (by kernel_rfl) (Qd3 rfl rfl) (.cons (.same (.own 0 9 0 Ja.length)) (.cons (Qn _) .nil)) (st':=⟨66,[(4,.own 0 9 0 (Ja.length))],[.flat false 9 50 Ja.length (vec Qc.e Qc.z (Qd8 Qc.z Qbu Ja))]⟩) (by kernel_rfl) ?_
    refine Qoa (show Ja.length=(Qd8 Qc.z Qbu Ja).length from (Qmi _ Qgk _).symm) (fun nn=>⟨66,[(4,.own 0 9 0 (nn))],[.flat false 9 50 nn (vec Qc.e Qc.z (Qd8 Qc.z Qbu Ja))]⟩) ?_
    refine Qi hT 7 (K7 111111 1) ⟨66,[(2,.own 0 9 0 ((Qd8 Qc.z Qbu Ja).length)),(3,.i 0)],[Yl (Qd8 Qc.z Qbu Ja)]⟩ ?_
    obtain rfl:=Zb H
    exact Yr hf hX h0 (.Qq [.own 0 9 0 ((Qd8 Qc.z Qbu Ja).length),.i 0]) [0] (ac (Qbd Qc.nl) an) (.Qq (.cons (.own _ _ _ _) (.cons (.d (.v _)) .nil)))
   intro Qb4 Yc Qb5 Xy Yt H
   refine Qi hT 5 (K7 11110100110011001 0) ⟨66,[(4,.own 0 9 0 Yt.length),(22,.d (Ju t0 a0)),(23,.i (a0.length:Int)),(24,.i Qb4),(29,.d (Zy true Yc)),(30,.i Qb5),(31,.i Xy),(32,.b (decide (Xy < Qb5)))],[Yl Yt]⟩ ?_
   by_cases c8:Xy < Qb5
   ·replace H:=sT c8 H
    rw [decide_eq_true c8]
    refine Qi hT 2 (K7 11110100110011001 1) ⟨66,[(4,.own 0 9 0 Yt.length),(22,.d (Ju t0 a0)),(23,.i (a0.length:Int)),(24,.i Qb4),(29,.d (Zy true Yc)),(30,.i Qb5),(31,.i Xy)],[Yl Yt]⟩ ?_
    refine Qi hT 4 (K7 111101001100110011000 0) ⟨66,[(4,.own 0 9 0 Yt.length),(22,.d (Ju t0 a0)),(23,.i (a0.length:Int)),(24,.i Qb4),(29,.d (Zy true Yc)),(30,.i Qb5),(31,.i Xy)],[Yl Yt]⟩ ?_
    obtain ⟨h9,H⟩:=sC H
    refine Qa7 hT [4,22,23,24,29,30,31,33] (i:=Xy) (n:=(Yc.length:Int)) h9.1 h9.2 (k':=(K7 111101001100110011000 1)) (st':=⟨66,[(4,.own 0 9 0 Yt.length),(22,.d (Ju t0 a0)),(23,.i (a0.length:Int)),(24,.i Qb4),(29,.d (Zy true Yc)),(30,.i Qb5),(31,.i Xy),(33,.d (Qg1 true Yc Xy.toNat 0))],[Yl Yt]⟩) (by kernel_rfl) ?_
    refine Qi hT 8 (K7 1111010011001100110010 2) ⟨66,[(4,.own 0 9 0 Yt.length),(10,.ptr 1 0 0 0),(22,.d (Ju t0 a0)),(23,.i (a0.length:Int)),(24,.i Qb4),(29,.d (Zy true Yc)),(30,.i Qb5),(31,.i Xy),(35,.own 0 9 0 Yt.length),(36,.fn 21 [.ptr 1 0 0 0])],[Yl Yt,.box 50 (Qbl (Qm.q2 Yc Xy))]⟩ ?_
    obtain ⟨v2,h10,H⟩:=sbC H
    have Zl:∀ (Qrm:Bool),stk (Qm.j1 Qb4 Yc Qb5 Xy Yt v2 Qrm) (iter (Qm.step a0) n)=some r->AK X 7 ((K7 11110100110011001100110 1)) (Jb X [Yl r.1] (.Qq [.own 0 9 0 r.1.length,.i r.2])) ⟨66,[(4,.own 0 9 0 Yt.length),(10,.ptr 1 0 0 0),(11,.i v2),(22,.d (Ju t0 a0)),(23,.i (a0.length:Int)),(24,.i Qb4),(29,.d (Zy true Yc)),(30,.i Qb5),(31,.i Xy),(48,.b Qrm)],[Yl Yt,.box 50 (Qbl (Qm.q2 Yc Xy))]⟩:=by
     intro Qrm H
     by_cases c14:Qrm=true
     ·replace H:=sT c14 H
      rw [c14]
      refine Qi hT 6 (K7 1111010011001100110011010 1) ⟨66,[(2,.ns),(3,.i 3)],[Yl Yt,.box 50 (Qbl (Qm.q2 Yc Xy))]⟩ ?_
      refine Qe8 [2,3] 2 9 50 (vec Qc.e Qc.z []) (st':=⟨66,[(2,.own 2 9 0 0),(3,.i 3)],[Yl Yt,.box 50 (Qbl (Qm.q2 Yc Xy)),Yl ([]:List Qc)]⟩) (by kernel_rfl) (by kernel_rfl) ?_
      obtain rfl:=Zb H
      exact Yr hf hX h0 (.Qq [.own 2 9 0 0,.i 3]) [2] (ac (Qbd Qc.nl) an) (.Qq (.cons (.own _ _ _ _) (.cons (.d (.v _)) .nil)))
     replace H:=sF c14 H
     have Jj2:∀ (Qfo:List Qc),stk (Qm.j2 Qb4 Yc Qb5 Xy Qfo) (iter (Qm.step a0) n)=some r->AK X 7 ((K7 111101001100110011 1)) (Jb X [Yl r.1] (.Qq [.own 0 9 0 r.1.length,.i r.2])) ⟨66,[(4,.own 0 9 0 Qfo.length),(22,.d (Ju t0 a0)),(23,.i (a0.length:Int)),(24,.i Qb4),(29,.d (Zy true Yc)),(30,.i Qb5),(31,.i Xy)],[Yl Qfo]⟩:=by
      intro Qfo H
      refine Qi hT 5 (K7 111101001100110 0) ⟨66,[(4,.own 0 9 0 Qfo.length),(22,.d (Ju t0 a0)),(23,.i (a0.length:Int)),(24,.i Qb4),(29,.d (Zy true Yc)),(30,.i Qb5),(31,.i (IntKind.wrap .i64 (Xy+1)))],[Yl Qfo]⟩ ?_
      exact ih.2.2 Qb4 Yc Qb5 (IntKind.wrap .i64 (Xy+1)) Qfo H
     rw [boF c14]
     refine Qi hT 2 (K7 1111010011001100110011 1) ⟨66,[(4,.own 0 9 0 Yt.length),(10,.ptr 1 0 0 0),(11,.i v2),(22,.d (Ju t0 a0)),(23,.i (a0.length:Int)),(24,.i Qb4),(29,.d (Zy true Yc)),(30,.i Qb5),(31,.i Xy)],[Yl Yt,.box 50 (Qbl (Qm.q2 Yc Xy))]⟩ ?_
     refine Qi hT 5 (K7 11110100110011001100111 1) ⟨66,[(4,.own 0 9 0 Yt.length),(10,.ptr 1 0 0 0),(22,.d (Ju t0 a0)),(23,.i (a0.length:Int)),(24,.i Qb4),(29,.d (Zy true Yc)),(30,.i Qb5),(31,.i Xy),(50,.b (decide (v2 < 0)))],[Yl Yt,.box 50 (Qbl (Qm.q2 Yc Xy))]⟩ ?_
     by_cases c15:v2 < 0
     ·replace H:=sT c15 H
      rw [decide_eq_true c15]
      refine Qi hT 6 (K7 11110100110011001100111100 3) ⟨66,[(4,.own 0 9 0 Yt.length),(10,.ptr 1 0 0 0),(22,.d (Ju t0 a0)),(23,.i (a0.length:Int)),(24,.i Qb4),(29,.d (Zy true Yc)),(30,.i Qb5),(31,.i Xy),(53,.d (Xj true (((Qm.q2 Yc Xy).M).Pairs)))],[Yl Yt,.box 50 (Qbl (Qm.q2 Yc Xy))]⟩ ?_
      obtain ⟨h16,H⟩:=sC H
      refine Wj (Xw:=[.d (Xj true (((Qm.q2 Yc Xy).M).Pairs))]) (dst:=some 54) (k':=(K7 11110100110011001100111100 4)) [4,10,22,23,24,29,30,31,54] [] hP Qmt (Qqx (tg:=true) (((Qm.q2 Yc Xy).M).Pairs) h16) (by kernel_rfl) (Qz _) (.cons (Qn _) .nil) (st':=⟨66,[(4,.own 0 9 0 Yt.length),(10,.ptr 1 0 0 0),(22,.d (Ju t0 a0)),(23,.i (a0.length:Int)),(24,.i Qb4),(29,.d (Zy true Yc)),(30,.i Qb5),(31,.i Xy),(54,.own 2 2 0 ((((Qm.q2 Yc Xy).M).Pairs).length))],[Yl Yt,.box 50 (Qbl (Qm.q2 Yc Xy)),Xp (((Qm.q2 Yc Xy).M).Pairs)]⟩) (by kernel_rfl) ?_
      refine Qi hT 7 (K7 11110100110011001100111101 2) ⟨66,[(22,.d (Ju t0 a0)),(23,.i (a0.length:Int)),(24,.i Qb4),(29,.d (Zy true Yc)),(30,.i Qb5),(31,.i Xy),(57,.own 0 9 0 Yt.length),(58,.agg [.i (((Qm.q2 Yc Xy).M).Client),.i (((Qm.q2 Yc Xy).M).Seq),.i (((Qm.q2 Yc Xy).M).Kind),.own 2 2 0 ((((Qm.q2 Yc Xy).M).Pairs).length),.i ((((Qm.q2 Yc Xy).M).Over).Lo),.i ((((Qm.q2 Yc Xy).M).Over).Hi),.i (((Qm.q2 Yc Xy).M).Old),.i ((Qm.q2 Yc Xy).Time),.b ((Qm.q2 Yc Xy).Jc)])],[Yl Yt,.box 50 (Qm.q1 Yc Xy),Xp (((Qm.q2 Yc Xy).M).Pairs)]⟩ ?_
      refine Qeg 2 (kk:=2) (n:=(((Qm.q2 Yc Xy).M).Pairs).length) (ty:=56) (g:=vec Qa.e Qa.z (((Qm.q2 Yc Xy).M).Pairs)) (by kernel_rfl) (st':=⟨66,[(22,.d (Ju t0 a0)),(23,.i (a0.length:Int)),(24,.i Qb4),(29,.d (Zy true Yc)),(30,.i Qb5),(31,.i Xy),(57,.own 0 9 0 Yt.length),(58,.agg [.i (((Qm.q2 Yc Xy).M).Client),.i (((Qm.q2 Yc Xy).M).Seq),.i (((Qm.q2 Yc Xy).M).Kind),.own 2 2 0 ((((Qm.q2 Yc Xy).M).Pairs).length),.i ((((Qm.q2 Yc Xy).M).Over).Lo),.i ((((Qm.q2 Yc Xy).M).Over).Hi),.i (((Qm.q2 Yc Xy).M).Old),.i ((Qm.q2 Yc Xy).Time),.b ((Qm.q2 Yc Xy).Jc)])],[Yl Yt,.box 50 (Qm.q1 Yc Xy),Qnk (((Qm.q2 Yc Xy).M).Pairs)]⟩) (by kernel_rfl) ?_
      refine Qhi (av:=.agg [.i (((Qm.q2 Yc Xy).M).Client),.i (((Qm.q2 Yc Xy).M).Seq),.i (((Qm.q2 Yc Xy).M).Kind),.own 2 2 0 ((((Qm.q2 Yc Xy).M).Pairs).length),.i ((((Qm.q2 Yc Xy).M).Over).Lo),.i ((((Qm.q2 Yc Xy).M).Over).Hi),.i (((Qm.q2 Yc Xy).M).Old),.i ((Qm.q2 Yc Xy).Time),.b ((Qm.q2 Yc Xy).Jc)]) (y:=Qd2 (Qm.q2 Yc Xy)) [22,23,24,29,30,31,57,58] 58 (st':=⟨66,[(22,.d (Ju t0 a0)),(23,.i (a0.length:Int)),(24,.i Qb4),(29,.d (Zy true Yc)),(30,.i Qb5),(31,.i Xy),(57,.own 0 9 0 Yt.length),(58,.d (Qd2 (Qm.q2 Yc Xy)))],[Yl Yt,.box 50 (Qm.q1 Yc Xy),Qnk (((Qm.q2 Yc Xy).M).Pairs)]⟩) (by kernel_rfl) (.agg (.cons (.d _) (.cons (.d _) (.cons (.d _) (.cons (.own (ty:=56) (k:=2) (by kernel_rfl)) (.cons (.d _) (.cons (.d _) (.cons (.d _) (.cons (.d _) (.cons (.d _) .nil)))))))))) (by kernel_rfl) ?_
      refine Qi hT 1 (K7 11110100110011001100111101 3) ⟨66,[(22,.d (Ju t0 a0)),(23,.i (a0.length:Int)),(24,.i Qb4),(29,.d (Zy true Yc)),(30,.i Qb5),(31,.i Xy),(57,.own 0 9 0 Yt.length),(59,.own 3 9 0 1)],[Yl Yt,.box 50 (Qm.q1 Yc Xy),Qnk (((Qm.q2 Yc Xy).M).Pairs),.flat false 9 50 1 (fun j=>[Qc.e (Qm.q2 Yc Xy)].getD j [])]⟩ ?_
      obtain ⟨h17,H⟩:=sC H
      refine Qe1 (id:=0) (kk:=9) (by':=88) (t:=25) (e:=50) (z:=[.int .i64 0,.int .i64 0,.int .i64 0,.slice none 0 0,.int .i64 0,.int .i64 0,.int .i64 0,.int .i64 0,.bool false]) (dst:=some 60) (id2:=3) (e2:=50) (fz:=false) (k':=(K7 11110100110011001100111101 4)) hT Qc.e Qc.z Yt (Qm.q2 Yc Xy) [22,23,24,29,30,31,60] (by kernel_rfl) (by kernel_rfl) (by kernel_rfl) (by kernel_rfl) (by kernel_rfl) (by kernel_rfl) (by kernel_rfl) h17 (by omega) (st':=⟨66,[(22,.d (Ju t0 a0)),(23,.i (a0.length:Int)),(24,.i Qb4),(29,.d (Zy true Yc)),(30,.i Qb5),(31,.i Xy),(60,.own 4 9 0 ((Yt ++ [(Qm.q2 Yc Xy)]).length))],[.gone,.box 50 (Qm.q1 Yc Xy),Qnk (((Qm.q2 Yc Xy).M).Pairs),.flat false 9 50 1 (fun j=>[Qc.e (Qm.q2 Yc Xy)].getD j []),Yl (Yt ++ [(Qm.q2 Yc Xy)])]⟩) (by kernel_rfl) ?_
      refine Yi hT 3 (K7 111101001100110011 1) [4] ⟨66,[(4,.own 0 9 0 (Yt ++ [(Qm.q2 Yc Xy)]).length),(22,.d (Ju t0 a0)),(23,.i (a0.length:Int)),(24,.i Qb4),(29,.d (Zy true Yc)),(30,.i Qb5),(31,.i Xy)],[Yl (Yt ++ [(Qm.q2 Yc Xy)])]⟩ h0 ?_
      exact Jj2 (Yt ++ [(Qm.q2 Yc Xy)]) H
     replace H:=sF c15 H
     rw [decide_eq_false c15]
     refine Yi hT 3 (K7 111101001100110011 1) [0] ⟨66,[(4,.own 0 9 0 Yt.length),(22,.d (Ju t0 a0)),(23,.i (a0.length:Int)),(24,.i Qb4),(29,.d (Zy true Yc)),(30,.i Qb5),(31,.i Xy)],[Yl Yt]⟩ h0 ?_
     exact Jj2 Yt H
    refine Wj (Xw:=[.own 0 9 0 Yt.length,.fn 21 [.ptr 1 0 0 0]]) (dst:=some 37) (k':=(K7 1111010011001100110010 3)) [4,10,22,23,24,29,30,31,37] [] hP Qu1 (Zc.Wl (t0:=false) (Zk:=21) (Zn:=[.rop false 1 (fun _=>[.i (((Qm.q2 Yc Xy).M).Client),.i (((Qm.q2 Yc Xy).M).Seq),.i (((Qm.q2 Yc Xy).M).Kind),Xj true (((Qm.q2 Yc Xy).M).Pairs),.i ((((Qm.q2 Yc Xy).M).Over).Lo),.i ((((Qm.q2 Yc Xy).M).Over).Hi),.i (((Qm.q2 Yc Xy).M).Old),.i ((Qm.q2 Yc Xy).Time),.b ((Qm.q2 Yc Xy).Jc)]) 0 0]) Yt (fun z0=>some (Qer z0 (Qm.q2 Yc Xy))) Wdg (fun z0 r h=>by obtain rfl:=Zb h;exact Qer.Wl z0 (Qm.q2 Yc Xy)) h10) (by kernel_rfl) (Qz _) (.cons (.Qd4 (ty:=50) (by kernel_rfl) rfl) (.cons (.fn 21 (.cons (.look (ty:=50) (cs:=[.i (((Qm.q2 Yc Xy).M).Client),.i (((Qm.q2 Yc Xy).M).Seq),.i (((Qm.q2 Yc Xy).M).Kind),Xj true (((Qm.q2 Yc Xy).M).Pairs),.i ((((Qm.q2 Yc Xy).M).Over).Lo),.i ((((Qm.q2 Yc Xy).M).Over).Hi),.i (((Qm.q2 Yc Xy).M).Old),.i ((Qm.q2 Yc Xy).Time),.b ((Qm.q2 Yc Xy).Jc)]) (by kernel_rfl) rfl) .nil)) .nil)) (st':=⟨66,[(4,.own 0 9 0 Yt.length),(10,.ptr 1 0 0 0),(22,.d (Ju t0 a0)),(23,.i (a0.length:Int)),(24,.i Qb4),(29,.d (Zy true Yc)),(30,.i Qb5),(31,.i Xy),(37,.i v2)],[Yl Yt,.box 50 (Qbl (Qm.q2 Yc Xy))]⟩) (by kernel_rfl) ?_
    refine Qi hT 4 (K7 11110100110011001100110 0) ⟨66,[(4,.own 0 9 0 Yt.length),(10,.ptr 1 0 0 0),(11,.i v2),(22,.d (Ju t0 a0)),(23,.i (a0.length:Int)),(24,.i Qb4),(29,.d (Zy true Yc)),(30,.i Qb5),(31,.i Xy)],[Yl Yt,.box 50 (Qbl (Qm.q2 Yc Xy))]⟩ ?_
    by_cases c11:v2>=0
    ·replace H:=sT c11 H
     obtain ⟨h12,H⟩:=sC H
     obtain ⟨v3,h13,H⟩:=sbC H
     refine Qbt (hP▸mixed) 11 [4,10,11,22,23,24,29,30,31] (sm [.i v2,.b true,.b true,.own 0 9 0 Yt.length,.i v2,.ptr 0 9 v2.toNat 0,.d (Qd2 (Yt.getD v2.toNat Qc.z)),.d (Qd2 (Qm.q2 Yc Xy)),.b v3,.b (!v3),.b (!v3)]) (Qg (Qg (opS (Qg (opS (opS (Qg (Qg (Qg (opV (Qg op0 hT) hT 39 (.b (decide (v2>=0))) (.b true) (by rw [decide_eq_true c11]<;>rfl)) hT) hT) hT) (fun R rest h=>Qae hT (i:=v2) (n:=(Yt.length:Int)) h12.1 h12.2 (by kernel_rfl) h)) (fun R rest h=>Qi7 hT (i:=v2.toNat) (n:=Yt.length) (ltN h12.1 h12.2) (by kernel_rfl) h)) hT) (fun R rest h=>Jz (Xw:=[.d (Qd2 (Yt.getD v2.toNat Qc.z)),.d (Qd2 (Qm.q2 Yc Xy))]) (dst:=some 46) hP Wdi (Qd7.Wl (Yt.getD v2.toNat Qc.z) (Qm.q2 Yc Xy) h13) (by kernel_rfl) (.cons (Qn _) (.cons (Qn _) .nil)) (by kernel_rfl) h)) hT) hT) ?_
     refine Qi hT 1 (K7 11110100110011001100110 1) ⟨66,[(4,.own 0 9 0 Yt.length),(10,.ptr 1 0 0 0),(11,.i v2),(22,.d (Ju t0 a0)),(23,.i (a0.length:Int)),(24,.i Qb4),(29,.d (Zy true Yc)),(30,.i Qb5),(31,.i Xy),(48,.b (!v3))],[Yl Yt,.box 50 (Qbl (Qm.q2 Yc Xy))]⟩ ?_
     exact Zl (!v3) H
    replace H:=sF c11 H
    refine Qbt (hP▸mixed) 11 [4,10,11,22,23,24,29,30,31] (sm [.i v2,.b false,.b false,.Qq [],.Qq [],.Qq [],.Qq [],.Qq [],.Qq [],.Qq [],.b false]) (Qg (Qg (Qg (Qg (Qg (Qg (Qg (Qg (Qg (opV (Qg op0 hT) hT 39 (.b (decide (v2>=0))) (.b false) (by rw [decide_eq_false c11]<;>rfl)) hT) hT) hT) hT) hT) hT) hT) hT) hT) ?_
    refine Qi hT 1 (K7 11110100110011001100110 1) ⟨66,[(4,.own 0 9 0 Yt.length),(10,.ptr 1 0 0 0),(11,.i v2),(22,.d (Ju t0 a0)),(23,.i (a0.length:Int)),(24,.i Qb4),(29,.d (Zy true Yc)),(30,.i Qb5),(31,.i Xy),(48,.b false)],[Yl Yt,.box 50 (Qbl (Qm.q2 Yc Xy))]⟩ ?_
    exact Zl false H
   replace H:=sF c8 H
   rw [decide_eq_false c8]
   refine Qi hT 8 (K7 1111010 0) ⟨66,[(4,.own 0 9 0 Yt.length),(22,.d (Ju t0 a0)),(23,.i (a0.length:Int)),(24,.i (IntKind.wrap .i64 (Qb4+1)))],[Yl Yt]⟩ ?_
   exact ih.2.1 (IntKind.wrap .i64 (Qb4+1)) Yt H
 obtain ⟨n,H⟩:=Qcn H
 exact (L n).1 0 H
abbrev Jd.q1 (a0:List Qa) (Yb:Int):=(⟨(a0.getD Yb.toNat Qa.z).Key,(a0.getD Yb.toNat Qa.z).Val⟩:Qj)
theorem Jd.Wl {t0:Bool} (a0:List Qa) {r:List Qj} (H:Jd a0=some r):Yn Tryz.prog 68 [] [.d (Xj t0 a0)] [Qey r] (.own 0 2 0 r.length):=by
 refine Xt Tryz.func68 rfl (nt:=19) rfl (lb rfl) fun X hP h0 hX=>?_
 have hT:Xl X.P T:=hP▸tok
 have hf:X.P.funcs[68]? = some Tryz.f68:=hP▸Tryz.func68
 refine Qi hT 15 (K68 111010 0) ⟨19,[(0,.d (Xj t0 a0)),(3,.ns),(4,.i 0)],[]⟩ ?_
 refine Qe8 [0,3,4] 3 2 116 (vec Qj.e Qj.z []) (st':=⟨19,[(0,.d (Xj t0 a0)),(3,.own 0 2 0 0),(4,.i 0)],[Qey ([]:List Qj)]⟩) (by kernel_rfl) (by kernel_rfl) ?_
 have L:∀ n,(∀ (Yb:Int) (Qh:List Qj),iter (Jd.step a0) n (.l1 Yb Qh)=some r->AK X 68 ((K68 111010 0)) (Jb X [Qey r] (.own 0 2 0 r.length)) ⟨19,[(0,.d (Xj t0 a0)),(3,.own 0 2 0 Qh.length),(4,.i Yb)],[Qey Qh]⟩):=by
  intro n
  induction n with
  | zero=>exact fun _ _ H=>Qbx H
  | succ n ih=>
   ·intro Yb Qh H
    refine Qi hT 8 (K68 11101000 1) ⟨19,[(0,.d (Xj t0 a0)),(3,.own 0 2 0 Qh.length),(4,.i Yb),(8,.b (decide (Yb < (a0.length:Int))))],[Qey Qh]⟩ ?_
    by_cases c1:Yb < (a0.length:Int)
    ·replace H:=sT c1 H
     rw [decide_eq_true c1]
     refine Qi hT 2 (K68 1110100 1) ⟨19,[(0,.d (Xj t0 a0)),(3,.own 0 2 0 Qh.length),(4,.i Yb)],[Qey Qh]⟩ ?_
     refine Qi hT 6 (K68 1110100100 3) ⟨19,[(0,.d (Xj t0 a0)),(4,.i Yb),(11,.own 0 2 0 Qh.length),(12,.d (Xj t0 a0)),(13,.i Yb)],[Qey Qh]⟩ ?_
     obtain ⟨h2,H⟩:=sC H
     refine Qa7 hT [0,4,11,14] (i:=Yb) (n:=(a0.length:Int)) h2.1 h2.2 (k':=(K68 1110100100 4)) (st':=⟨19,[(0,.d (Xj t0 a0)),(4,.i Yb),(11,.own 0 2 0 Qh.length),(14,.d (Qec t0 a0 Yb.toNat 0))],[Qey Qh]⟩) (by kernel_rfl) ?_
     refine Qi hT 2 (K68 1110100100 6) ⟨19,[(0,.d (Xj t0 a0)),(4,.i Yb),(11,.own 0 2 0 Qh.length),(16,.own 1 2 0 1)],[Qey Qh,.flat false 2 116 1 (fun j=>[Qa.e (a0.getD Yb.toNat Qa.z)].getD j [])]⟩ ?_
     obtain ⟨h3,H⟩:=sC H
     refine Qe1 (id:=0) (kk:=2) (by':=16) (t:=71) (e:=116) (z:=[.int .i64 0,.int .i64 0]) (dst:=some 17) (id2:=1) (e2:=116) (fz:=false) (k':=(K68 1110100100 7)) hT Qj.e Qj.z Qh (Jd.q1 a0 Yb) [0,4,17] (by kernel_rfl) (by kernel_rfl) (by kernel_rfl) (by kernel_rfl) (by kernel_rfl) (by kernel_rfl) (by kernel_rfl) h3 (by omega) (st':=⟨19,[(0,.d (Xj t0 a0)),(4,.i Yb),(17,.own 2 2 0 ((Qh ++ [(Jd.q1 a0 Yb)]).length))],[.gone,.flat false 2 116 1 (fun j=>[Qa.e (a0.getD Yb.toNat Qa.z)].getD j []),Qey (Qh ++ [(Jd.q1 a0 Yb)])]⟩) (by kernel_rfl) ?_
     refine Yi hT 9 (K68 111010 0) [2] ⟨19,[(0,.d (Xj t0 a0)),(3,.own 0 2 0 (Qh ++ [(Jd.q1 a0 Yb)]).length),(4,.i (IntKind.wrap .i64 (Yb+1)))],[Qey (Qh ++ [(Jd.q1 a0 Yb)])]⟩ h0 ?_
     exact ih (IntKind.wrap .i64 (Yb+1)) (Qh ++ [(Jd.q1 a0 Yb)]) H
    replace H:=sF c1 H
    rw [decide_eq_false c1]
    refine Qi hT 7 (K68 1111 1) ⟨19,[(2,.own 0 2 0 Qh.length)],[Qey Qh]⟩ ?_
    obtain rfl:=Zb H
    exact Yr hf hX h0 (.own 0 2 0 Qh.length) [0] (ac (Qbd Qj.nl) an) (.own _ _ _ _)
 refine Qkp [0] ⟨19,[(0,.d (Xj t0 a0)),(3,.own 0 2 0 ([]:List Qj).length),(4,.i 0)],[Qey ([]:List Qj)]⟩ h0 ?_
 obtain ⟨n,H⟩:=Qcn H
 exact (L n) 0 ([]:List Qj) H
abbrev Wz.q1 (a0:Qu) (Jw:List Qj):List AV:=[.i a0.Client,.i a0.Seq,.i a0.Kind,.own 3 2 0 Jw.length,.i a0.Over.Lo,.i a0.Over.Hi,.i a0.Old]
abbrev Wz.q2 (a0:Qu) (Yb:Int):=(⟨(a0.Pairs.getD Yb.toNat Qa.z).Key,(a0.Pairs.getD Yb.toNat Qa.z).Val⟩:Qj)
abbrev Wz.q3:List AV:=[.i 0,.i 0,.i 0,.ns,.i 0,.i 0,.i 0]
abbrev Wz.s1 (Yb:Int) (a0:Qu) (Jw:List Qj):St:=⟨34,[(1,.ptr 0 0 0 0),(2,.ptr 1 0 0 0),(3,.ptr 2 0 0 0),(4,.i Yb)],[.box 47 (Yk a0),.box 76 (Wz.q3),.box 76 (Wz.q1 a0 Jw),Qey Jw]⟩
abbrev Wz.p0:List (Nat × AV):=[(1,.ptr 0 0 0 0),(2,.ptr 1 0 0 0),(3,.ptr 2 0 0 0)]
theorem Wz.Wl (a0:Qu) {r:Xq} (H:Wz a0=some r):Yn Tryz.prog 69 [] [.d (Qaq a0)] [] (.d (Qic r)):=by
 refine Xt Tryz.func69 rfl (nt:=34) rfl (lb rfl) fun X hP h0 hX=>?_
 have hT:Xl X.P T:=hP▸tok
 have hf:X.P.funcs[69]? = some Tryz.f69:=hP▸Tryz.func69
 refine Qi hT 28 (K69 111010 0) ⟨34,(Wz.p0++[(4,.i 0)]),[.box 47 (Yk a0),.box 76 (Wz.q3),.box 76 [.i a0.Client,.i a0.Seq,.i a0.Kind,.ns,.i a0.Over.Lo,.i a0.Over.Hi,.i a0.Old]]⟩ ?_
 refine Qpp (tb:=76) (cs:=[.i a0.Client,.i a0.Seq,.i a0.Kind,.ns,.i a0.Over.Lo,.i a0.Over.Hi,.i a0.Old]) 2 3 2 116 (vec Qj.e Qj.z []) (st':=⟨34,(Wz.p0++[(4,.i 0)]),[.box 47 (Yk a0),.box 76 (Wz.q3),.box 76 [.i a0.Client,.i a0.Seq,.i a0.Kind,.own 3 2 0 0,.i a0.Over.Lo,.i a0.Over.Hi,.i a0.Old],Qey ([]:List Qj)]⟩) (by kernel_rfl) (by kernel_rfl) ?_
 have L:∀ n,(∀ (Yb:Int) (Jw:List Qj),iter (Wz.step a0) n (.l1 Yb Jw)=some r->AK X 69 ((K69 111010 0)) (Jb X [] (.d (Qic r))) ⟨34,(Wz.p0++[(4,.i Yb)]),[.box 47 (Yk a0),.box 76 (Wz.q3),.box 76 (Wz.q1 a0 Jw),Qey Jw]⟩):=by
  intro n
  induction n with
  | zero=>exact fun _ _ H=>Qbx H
  | succ n ih=>
   ·intro Yb Jw H
    refine Qi hT 9 (K69 11101000 1) ⟨34,(Wz.p0++[(4,.i Yb),(20,.b (decide (Yb < (a0.Pairs.length:Int))))]),[.box 47 (Yk a0),.box 76 (Wz.q3),.box 76 (Wz.q1 a0 Jw),Qey Jw]⟩ ?_
    by_cases c1:Yb < (a0.Pairs.length:Int)
    ·replace H:=sT c1 H
     rw [decide_eq_true c1]
     refine Qi hT 2 (K69 1110100 1) (Wz.s1 Yb a0 Jw) ?_
     refine Qi hT 2 (K69 111010010 0) (Wz.s1 Yb a0 Jw) ?_
     obtain ⟨h2,H⟩:=sC H
     refine Qfn (nt:=34) (hP▸mixed) 8 [7] [1,2,3,4] [(1,.ptr 0 0 0 0),(2,.ptr 1 0 0 0),(3,.ptr 2 0 0 0),(4,.i Yb)] (sm [.ptr 2 0 0 3,.own 3 2 0 Jw.length,.ptr 0 0 0 3,.d (Xj true a0.Pairs),.i Yb,.d (Qec true a0.Pairs Yb.toNat 0),.d (Qf4 (a0.Pairs.getD Yb.toNat Qa.z)),.own 4 2 0 1]) [[.box 47 (Yk a0),.box 76 (Wz.q3),.box 76 (Wz.q1 a0 Jw),Qey Jw],[.box 47 (Yk a0),.box 76 (Wz.q3),.box 76 (Wz.q1 a0 Jw),Qey Jw,.flat false 2 116 1 (fun j=>[Qa.e (a0.Pairs.getD Yb.toNat Qa.z)].getD j [])]] (by kernel_rfl) (by kernel_rfl) (by kernel_rfl) (by kernel_rfl) ⟨(Qil (Ya (Qik (Ya (Ya (Ya (Ya (Ya Qmf hT) hT) hT) hT) hT) (fun R rest h=>Qae hT (i:=Yb) (n:=(a0.Pairs.length:Int)) h2.1 h2.2 (by kernel_rfl) h)) hT)),(Ql0 hT),(Qil (Ya (Qik (Ya (Ya (Ya (Ya (Ya Qmf hT) hT) hT) hT) hT) (fun R rest h=>Qae hT (i:=Yb) (n:=(a0.Pairs.length:Int)) h2.1 h2.2 (by kernel_rfl) h)) hT))⟩ ?_
     refine Qi hT 0 (K69 1110100100 8) ⟨34,(Wz.p0++[(4,.i Yb),(24,.own 3 2 0 Jw.length),(30,.own 4 2 0 1)]),[.box 47 (Yk a0),.box 76 (Wz.q3),.box 76 (Wz.q1 a0 Jw),Qey Jw,.flat false 2 116 1 (fun j=>[Qa.e (a0.Pairs.getD Yb.toNat Qa.z)].getD j [])]⟩ ?_
     obtain ⟨h3,H⟩:=sC H
     refine Qe1 (id:=3) (kk:=2) (by':=16) (t:=71) (e:=116) (z:=[.int .i64 0,.int .i64 0]) (dst:=some 31) (id2:=4) (e2:=116) (fz:=false) (k':=(K69 1110100100 9)) hT Qj.e Qj.z Jw (Wz.q2 a0 Yb) [1,2,3,4,31] (by kernel_rfl) (by kernel_rfl) (by kernel_rfl) (by kernel_rfl) (by kernel_rfl) (by kernel_rfl) (by kernel_rfl) h3 (by omega) (st':=⟨34,(Wz.p0++[(4,.i Yb),(31,.own 5 2 0 ((Jw ++ [(Wz.q2 a0 Yb)]).length))]),[.box 47 (Yk a0),.box 76 (Wz.q3),.box 76 (Wz.q1 a0 Jw),.gone,.flat false 2 116 1 (fun j=>[Qa.e (a0.Pairs.getD Yb.toNat Qa.z)].getD j []),Qey (Jw ++ [(Wz.q2 a0 Yb)])]⟩) (by kernel_rfl) ?_
     refine Yi hT 10 (K69 111010 0) [0,1,2,5] ⟨34,(Wz.p0++[(4,.i (IntKind.wrap .i64 (Yb+1)))]),[.box 47 (Yk a0),.box 76 (Wz.q3),.box 76 [.i a0.Client,.i a0.Seq,.i a0.Kind,.own 3 2 0 (Jw ++ [(Wz.q2 a0 Yb)]).length,.i a0.Over.Lo,.i a0.Over.Hi,.i a0.Old],Qey (Jw ++ [(Wz.q2 a0 Yb)])]⟩ h0 ?_
     exact ih (IntKind.wrap .i64 (Yb+1)) (Jw ++ [(Wz.q2 a0 Yb)]) H
    replace H:=sF c1 H
    rw [decide_eq_false c1]
    refine Qi hT 5 (K69 11110 1) ⟨34,[(2,.ptr 1 0 0 0),(33,.agg [.i a0.Client,.i a0.Seq,.i a0.Kind,.own 3 2 0 Jw.length,.i a0.Over.Lo,.i a0.Over.Hi,.i a0.Old])],[.box 47 (Yk a0),.box 76 (Wz.q3),.box 76 (Wz.q1 a0 Jw),Qey Jw]⟩ ?_
    refine Qeg 3 (kk:=2) (n:=Jw.length) (ty:=116) (g:=vec Qj.e Qj.z Jw) (by kernel_rfl) (st':=⟨34,[(2,.ptr 1 0 0 0),(33,.agg [.i a0.Client,.i a0.Seq,.i a0.Kind,.own 3 2 0 Jw.length,.i a0.Over.Lo,.i a0.Over.Hi,.i a0.Old])],[.box 47 (Yk a0),.box 76 (Wz.q3),.box 76 (Wz.q1 a0 Jw),Qz3 Jw]⟩) (by kernel_rfl) ?_
    refine Qhi (av:=.agg [.i a0.Client,.i a0.Seq,.i a0.Kind,.own 3 2 0 Jw.length,.i a0.Over.Lo,.i a0.Over.Hi,.i a0.Old]) (y:=.agg [.i a0.Client,.i a0.Seq,.i a0.Kind,Qdw true Jw,.i a0.Over.Lo,.i a0.Over.Hi,.i a0.Old]) [2,33] 33 (st':=⟨34,[(2,.ptr 1 0 0 0),(33,.d (.agg [.i a0.Client,.i a0.Seq,.i a0.Kind,Qdw true Jw,.i a0.Over.Lo,.i a0.Over.Hi,.i a0.Old]))],[.box 47 (Yk a0),.box 76 (Wz.q3),.box 76 (Wz.q1 a0 Jw),Qz3 Jw]⟩) (by kernel_rfl) (.agg (.cons (.d _) (.cons (.d _) (.cons (.d _) (.cons (.own (ty:=116) (k:=2) (by kernel_rfl)) (.cons (.d _) (.cons (.d _) (.cons (.d _) .nil)))))))) (by kernel_rfl) ?_
    refine Qi hT 2 (K69 1111 1) ⟨34,[(2,.ptr 1 0 0 0)],[.box 47 (Yk a0),.box 76 [.i a0.Client,.i a0.Seq,.i a0.Kind,.d (Qdw true Jw),.i a0.Over.Lo,.i a0.Over.Hi,.i a0.Old],.box 76 (Wz.q1 a0 Jw),Qz3 Jw]⟩ ?_
    obtain rfl:=Zb H
    exact Qjm hT hf hX (av:=.d (.agg [.i a0.Client,.i a0.Seq,.i a0.Kind,Qdw true Jw,.i a0.Over.Lo,.i a0.Over.Hi,.i a0.Old])) (by kernel_rfl) [] (Qb1 (by kernel_rfl)) (by decide) (by rw [h0];rfl) (by kernel_rfl) an (.d (.agg (Xq.nl _)))
 refine Qkp [0,1,2,3] ⟨34,(Wz.p0++[(4,.i 0)]),[.box 47 (Yk a0),.box 76 (Wz.q3),.box 76 [.i a0.Client,.i a0.Seq,.i a0.Kind,.own 3 2 0 ([]:List Qj).length,.i a0.Over.Lo,.i a0.Over.Hi,.i a0.Old],Qey ([]:List Qj)]⟩ h0 ?_
 obtain ⟨n,H⟩:=Qcn H
 exact (L n) 0 ([]:List Qj) H
abbrev Xh.s1 (a0:Xq) (a1:Xq):St:=⟨66,[(2,.ptr 0 0 0 0),(3,.ptr 1 0 0 0),(47,.b true)],[.box 76 (Qcw a0),.box 76 (Qcw a1)]⟩
abbrev Xh.p0:List (Nat × AV):=[(2,.ptr 0 0 0 0),(3,.ptr 1 0 0 0)]
theorem Xh.Wl (a0:Xq) (a1:Xq) {r:Bool} (H:Xh a0 a1=some r):Yn Tryz.prog 30 [] [.d (Qic a0),.d (Qic a1)] [] (.b r):=by
 refine Xt Tryz.func30 rfl (nt:=66) rfl (lb rfl) fun X hP h0 hX=>?_
 have hT:Xl X.P T:=hP▸tok
 have hf:X.P.funcs[30]? = some Tryz.f30:=hP▸Tryz.func30
 have Zl:∀ (Qrl:Bool),(Xh.j1 a0 a1 Qrl)=some r->AK X 30 ((K30 110 1)) (Jb X [] (.b r)) ⟨66,(Xh.p0++[(47,.b Qrl)]),[.box 76 (Qcw a0),.box 76 (Qcw a1)]⟩:=by
  intro Qrl H
  by_cases c8:Qrl=true
  ·replace H:=iT c8 H
   rw [c8]
   refine Qi hT 5 (K30 11010 1) ⟨66,[(4,.b false)],[.box 76 (Qcw a0),.box 76 (Qcw a1)]⟩ ?_
   obtain rfl:=Zb H
   exact Yr hf hX h0 (.b false) [] an (.d (.v _))
  replace H:=iF c8 H
  rw [boF c8]
  refine Qi hT 2 (K30 11 1) ⟨66,(Xh.p0),[.box 76 (Qcw a0),.box 76 (Qcw a1)]⟩ ?_
  refine Qi hT 7 (K30 111010 0) ⟨66,(Xh.p0++[(5,.i 0)]),[.box 76 (Qcw a0),.box 76 (Qcw a1)]⟩ ?_
  have L:∀ n,(∀ (Wy:Int),iter (Xh.step a0 a1) n (.l1 Wy)=some r->AK X 30 ((K30 111010 0)) (Jb X [] (.b r)) ⟨66,(Xh.p0++[(5,.i Wy)]),[.box 76 (Qcw a0),.box 76 (Qcw a1)]⟩):=by
   intro n
   induction n with
   | zero=>exact fun _ H=>Qbx H
   | succ n ih=>
    ·intro Wy H
     refine Qi hT 9 (K30 11101000 1) ⟨66,(Xh.p0++[(5,.i Wy),(52,.b (decide (Wy < (a0.Pairs.length:Int))))]),[.box 76 (Qcw a0),.box 76 (Qcw a1)]⟩ ?_
     by_cases c9:Wy < (a0.Pairs.length:Int)
     ·replace H:=sT c9 H
      rw [decide_eq_true c9]
      refine Qi hT 2 (K30 1110100 1) ⟨66,(Xh.p0++[(5,.i Wy)]),[.box 76 (Qcw a0),.box 76 (Qcw a1)]⟩ ?_
      refine Qi hT 3 (K30 1110100100 0) ⟨66,(Xh.p0++[(5,.i Wy)]),[.box 76 (Qcw a0),.box 76 (Qcw a1)]⟩ ?_
      obtain ⟨h10,H⟩:=sC H
      obtain ⟨h11,H⟩:=sC H
      refine Qbt (hP▸mixed) 11 [2,3,5] (sm [.ptr 0 0 0 3,.d (Qdw true a0.Pairs),.i Wy,.d (Wh7 true a0.Pairs Wy.toNat 0),.d (Wh6 (a0.Pairs.getD Wy.toNat Qj.z)),.ptr 1 0 0 3,.d (Qdw true a1.Pairs),.i Wy,.d (Wh7 true a1.Pairs Wy.toNat 0),.d (Wh6 (a1.Pairs.getD Wy.toNat Qj.z)),.b (!((((a0.Pairs.getD Wy.toNat Qj.z).Key) == ((a1.Pairs.getD Wy.toNat Qj.z).Key)) && (((a0.Pairs.getD Wy.toNat Qj.z).Val) == ((a1.Pairs.getD Wy.toNat Qj.z).Val))))]) (Qg (Qg (opS (Qg (Qg (Qg (Qg (opS (Qg (Qg (Qg op0 hT) hT) hT) (fun R rest h=>Qae hT (i:=Wy) (n:=(a0.Pairs.length:Int)) h10.1 h10.2 (by kernel_rfl) h)) hT) hT) hT) hT) (fun R rest h=>Qae hT (i:=Wy) (n:=(a1.Pairs.length:Int)) h11.1 h11.2 (by kernel_rfl) h)) hT) hT) ?_
      refine Qi hT 1 (K30 1110100100 1) ⟨66,(Xh.p0++[(5,.i Wy),(65,.b (!((((a0.Pairs.getD Wy.toNat Qj.z).Key) == ((a1.Pairs.getD Wy.toNat Qj.z).Key)) && (((a0.Pairs.getD Wy.toNat Qj.z).Val) == ((a1.Pairs.getD Wy.toNat Qj.z).Val)))))]),[.box 76 (Qcw a0),.box 76 (Qcw a1)]⟩ ?_
      by_cases c12:((a0.Pairs.getD Wy.toNat Qj.z).Key)=((a1.Pairs.getD Wy.toNat Qj.z).Key)
      ·replace H:=sT c12 H
       rw [eqT c12]
       by_cases c13:((a0.Pairs.getD Wy.toNat Qj.z).Val)=((a1.Pairs.getD Wy.toNat Qj.z).Val)
       ·replace H:=sT c13 H
        rw [eqT c13]
        refine Qi hT 3 (K30 11101001 1) ⟨66,(Xh.p0++[(5,.i Wy)]),[.box 76 (Qcw a0),.box 76 (Qcw a1)]⟩ ?_
        refine Qi hT 6 (K30 111010 0) ⟨66,(Xh.p0++[(5,.i (IntKind.wrap .i64 (Wy+1)))]),[.box 76 (Qcw a0),.box 76 (Qcw a1)]⟩ ?_
        exact ih (IntKind.wrap .i64 (Wy+1)) H
       replace H:=sF c13 H
       rw [eqF c13]
       refine Qi hT 5 (K30 111010010010 1) ⟨66,[(4,.b false)],[.box 76 (Qcw a0),.box 76 (Qcw a1)]⟩ ?_
       obtain rfl:=Zb H
       exact Yr hf hX h0 (.b false) [] an (.d (.v _))
      replace H:=sF c12 H
      rw [eqF c12]
      by_cases c14:((a0.Pairs.getD Wy.toNat Qj.z).Val)=((a1.Pairs.getD Wy.toNat Qj.z).Val)
      ·replace H:=sT c14 H
       rw [eqT c14]
       refine Qi hT 5 (K30 111010010010 1) ⟨66,[(4,.b false)],[.box 76 (Qcw a0),.box 76 (Qcw a1)]⟩ ?_
       obtain rfl:=Zb H
       exact Yr hf hX h0 (.b false) [] an (.d (.v _))
      replace H:=sF c14 H
      rw [eqF c14]
      refine Qi hT 5 (K30 111010010010 1) ⟨66,[(4,.b false)],[.box 76 (Qcw a0),.box 76 (Qcw a1)]⟩ ?_
      obtain rfl:=Zb H
      exact Yr hf hX h0 (.b false) [] an (.d (.v _))
     replace H:=sF c9 H
     rw [decide_eq_false c9]
     refine Qi hT 6 (K30 1111 1) ⟨66,[(4,.b true)],[.box 76 (Qcw a0),.box 76 (Qcw a1)]⟩ ?_
     obtain rfl:=Zb H
     exact Yr hf hX h0 (.b true) [] an (.d (.v _))
  obtain ⟨n,H⟩:=Qcn H
  exact (L n) 0 H
 refine Qi hT 15 (K30 1100 6) ⟨66,(Xh.p0++[(11,.b (a0.Client != a1.Client))]),[.box 76 (Qcw a0),.box 76 (Qcw a1)]⟩ ?_
 by_cases c1:a0.Client=a1.Client
 ·replace H:=iT c1 H
  rw [neF c1]
  refine Qi hT 7 (K30 1100 13) ⟨66,(Xh.p0++[(18,.b (a0.Seq != a1.Seq))]),[.box 76 (Qcw a0),.box 76 (Qcw a1)]⟩ ?_
  by_cases c2:a0.Seq=a1.Seq
  ·replace H:=iT c2 H
   rw [neF c2]
   refine Qi hT 7 (K30 1100 20) ⟨66,(Xh.p0++[(25,.b (a0.Kind != a1.Kind))]),[.box 76 (Qcw a0),.box 76 (Qcw a1)]⟩ ?_
   by_cases c3:a0.Kind=a1.Kind
   ·replace H:=iT c3 H
    rw [neF c3]
    refine Qi hT 7 (K30 1100 27) ⟨66,(Xh.p0++[(32,.b (!((a0.Over.Lo == a1.Over.Lo) && (a0.Over.Hi == a1.Over.Hi))))]),[.box 76 (Qcw a0),.box 76 (Qcw a1)]⟩ ?_
    by_cases c4:a0.Over.Lo=a1.Over.Lo
    ·replace H:=iT c4 H
     rw [eqT c4]
     by_cases c5:a0.Over.Hi=a1.Over.Hi
     ·replace H:=iT c5 H
      rw [eqT c5]
      refine Qi hT 7 (K30 1100 34) ⟨66,(Xh.p0++[(39,.b (a0.Old != a1.Old))]),[.box 76 (Qcw a0),.box 76 (Qcw a1)]⟩ ?_
      by_cases c6:a0.Old=a1.Old
      ·replace H:=iT c6 H
       rw [neF c6]
       refine Qi hT 9 (K30 110 1) ⟨66,(Xh.p0++[(47,.b ((a0.Pairs.length:Int) != (a1.Pairs.length:Int)))]),[.box 76 (Qcw a0),.box 76 (Qcw a1)]⟩ ?_
       exact Zl ((a0.Pairs.length:Int) != (a1.Pairs.length:Int)) H
      replace H:=iF c6 H
      rw [neT c6]
      refine Qi hT 9 (K30 110 1) (Xh.s1 a0 a1) ?_
      exact Zl true H
     replace H:=iF c5 H
     rw [eqF c5]
     refine Qi hT 16 (K30 110 1) (Xh.s1 a0 a1) ?_
     exact Zl true H
    replace H:=iF c4 H
    rw [eqF c4]
    by_cases c7:a0.Over.Hi=a1.Over.Hi
    ·replace H:=iT c7 H
     rw [eqT c7]
     refine Qi hT 16 (K30 110 1) (Xh.s1 a0 a1) ?_
     exact Zl true H
    replace H:=iF c7 H
    rw [eqF c7]
    refine Qi hT 16 (K30 110 1) (Xh.s1 a0 a1) ?_
    exact Zl true H
   replace H:=iF c3 H
   rw [neT c3]
   refine Qi hT 23 (K30 110 1) (Xh.s1 a0 a1) ?_
   exact Zl true H
  replace H:=iF c2 H
  rw [neT c2]
  refine Qi hT 30 (K30 110 1) (Xh.s1 a0 a1) ?_
  exact Zl true H
 replace H:=iF c1 H
 rw [neT c1]
 refine Qi hT 37 (K30 110 1) (Xh.s1 a0 a1) ?_
 exact Zl true H
abbrev Qo.q1 (a0:List Qc) (v1:List Qj) (Qar:List Qe):List Row:=[.box 44 [.i 0,.i 0,.i 0,.i 0,.b false,.b false,.ns,.ns,.d (Zy true a0),.ns],.box 74 [.i 0,.i 0,.i 0,.i 0,.b false,.b false,.ns,.ns,.ns,.ns],.box 74 [.i 0,.i 0,.i 0,.i 0,.b false,.b false,.ns,.d (Qdw true v1),.own 3 9 0 Qar.length,.ns],Qpw Qar]
abbrev Qo.q2 (a0:List Qc):List AV:=[.i 0,.i 0,.i 0,.i 0,.b false,.b false,.ns,.ns,.d (Zy true a0),.ns]
abbrev Qo.q3:List AV:=[.i 0,.i 0,.i 0,.i 0,.b false,.b false,.ns,.ns,.ns,.ns]
abbrev Qo.q4 (v1:List Qj) (Qar:List Qe):List AV:=[.i 0,.i 0,.i 0,.i 0,.b false,.b false,.ns,.d (Qdw true v1),.own 3 9 0 Qar.length,.ns]
abbrev Qo.s1 (Qba:Int) (a0:List Qc) (v1:List Qj) (Qar:List Qe):St:=⟨131,[(1,.ptr 0 0 0 0),(2,.ptr 1 0 0 0),(3,.ptr 2 0 0 0),(7,.i Qba)],(Qo.q1 a0 v1 Qar)⟩
abbrev Qo.p0:List (Nat × AV):=[(1,.ptr 0 0 0 0),(2,.ptr 1 0 0 0),(3,.ptr 2 0 0 0)]
theorem Qo.Wl (a0:List Qc) {r:Qt} (H:Qo a0=some r):Yn Tryz.prog 33 [] [.d (.agg [.i 0,.i 0,.i 0,.i 0,.b false,.b false,.ns,.ns,Zy true a0,.ns])] [] (.d (Qwz r)):=by
 refine Xt Tryz.func33 rfl (nt:=131) rfl (lb rfl) fun X hP h0 hX=>?_
 have hT:Xl X.P T:=hP▸tok
 have hf:X.P.funcs[33]? = some Tryz.f33:=hP▸Tryz.func33
 refine Qi hT 6 (K33 11 0) ⟨131,[(1,.ptr 0 0 0 0),(2,.ptr 1 0 0 0)],[.box 44 (Qo.q2 a0),.box 74 (Qo.q3)]⟩ ?_
 obtain ⟨v1,h1,H⟩:=ibC H
 refine Qfn (nt:=131) (hP▸mixed) 15 [14] [1,2] [(1,.ptr 0 0 0 0),(2,.ptr 1 0 0 0)] (sm [.ptr 0 0 0 0,.i 0,.ptr 0 0 0 1,.d (.agg [.i 0,.i 0]),.ptr 0 0 0 3,.i 0,.ptr 0 0 0 4,.b false,.ptr 0 0 0 5,.b false,.ptr 0 0 0 7,.ns,.d (Qdw true v1),.d (.agg [.i 0,.i 0,.i 0,.i 0,.b false,.b false,.ns,Qdw true v1,.ns,.ns]),.ptr 2 0 0 0]) [[.box 44 (Qo.q2 a0),.box 74 (Qo.q3)],[.box 44 (Qo.q2 a0),.box 74 (Qo.q3),.box 74 (Qo.q3)]] (by kernel_rfl) (by kernel_rfl) (by kernel_rfl) (by kernel_rfl) ⟨?_,(Ql0 hT),?_⟩ ?_
 iterate 2 exact (Qil (Ya (Qik (Ya (Ya (Ya (Ya (Ya (Ya (Ya (Ya (Ya (Ya (Ya (Ya Qmf hT) hT) hT) hT) hT) hT) hT) hT) hT) hT) hT) hT) (fun R rest h=>Jz (Xw:=[.ns]) (dst:=some 21) hP Wdx (Yn.Wlh (Jd.Wl (t0:=true) ([]:List Qa) h1)) (by kernel_rfl) (.cons (.nil _ _) .nil) (by kernel_rfl) h)) hT))
 refine Qi hT 9 (K33 111010 0) ⟨131,(Qo.p0++[(4,.i 0)]),[.box 44 (Qo.q2 a0),.box 74 (Qo.q3),.box 74 [.i 0,.i 0,.i 0,.i 0,.b false,.b false,.ns,.d (Qdw true v1),.ns,.ns]]⟩ ?_
 have L:∀ n,(∀ (_:Unit),iter (Qo.step a0 v1) n (.l1)=some r->AK X 33 ((K33 111010 0)) (Jb X [] (.d (Qwz r))) ⟨131,(Qo.p0++[(4,.i 0)]),[.box 44 (Qo.q2 a0),.box 74 (Qo.q3),.box 74 [.i 0,.i 0,.i 0,.i 0,.b false,.b false,.ns,.d (Qdw true v1),.ns,.ns]]⟩)/\(∀ (Qba:Int) (Qar:List Qe),iter (Qo.step a0 v1) n (.l2 Qba Qar)=some r->AK X 33 ((K33 1111010 0)) (Jb X [] (.d (Qwz r))) ⟨131,(Qo.p0++[(7,.i Qba)]),(Qo.q1 a0 v1 Qar)⟩)/\(∀ (Qar:List Qe),iter (Qo.step a0 v1) n (.l3 Qar)=some r->AK X 33 ((K33 11111010 0)) (Jb X [] (.d (Qwz r))) ⟨131,(Qo.p0++[(8,.i 0)]),(Qo.q1 a0 v1 Qar)⟩):=by
  intro n
  induction n with
  | zero=>exact ⟨fun _ H=>Qbx H,fun _ _ H=>Qbx H,fun _ H=>Qbx H⟩
  | succ n ih=>
   refine ⟨?_, ?_, ?_⟩
   ·intro _ H
    refine Qi hT 18 (K33 1111010 0) ⟨131,(Qo.p0++[(7,.i 0)]),[.box 44 (Qo.q2 a0),.box 74 (Qo.q3),.box 74 [.i 0,.i 0,.i 0,.i 0,.b false,.b false,.ns,.d (Qdw true v1),.ns,.ns]]⟩ ?_
    refine Qpp (tb:=74) (cs:=[.i 0,.i 0,.i 0,.i 0,.b false,.b false,.ns,.d (Qdw true v1),.ns,.ns]) 2 8 9 78 (vec Qe.e Qe.z []) (st':=⟨131,(Qo.p0++[(7,.i 0)]),[.box 44 (Qo.q2 a0),.box 74 (Qo.q3),.box 74 [.i 0,.i 0,.i 0,.i 0,.b false,.b false,.ns,.d (Qdw true v1),.own 3 9 0 0,.ns],Qpw ([]:List Qe)]⟩) (by kernel_rfl) (by kernel_rfl) ?_
    refine Qkp [0,1,2,3] ⟨131,(Qo.p0++[(7,.i 0)]),[.box 44 (Qo.q2 a0),.box 74 (Qo.q3),.box 74 [.i 0,.i 0,.i 0,.i 0,.b false,.b false,.ns,.d (Qdw true v1),.own 3 9 0 ([]:List Qe).length,.ns],Qpw ([]:List Qe)]⟩ h0 ?_
    exact ih.2.1 0 ([]:List Qe) H
   ·intro Qba Qar H
    refine Qi hT 9 (K33 111101000 1) ⟨131,(Qo.p0++[(7,.i Qba),(85,.b (decide (Qba < (a0.length:Int))))]),(Qo.q1 a0 v1 Qar)⟩ ?_
    by_cases c2:Qba < (a0.length:Int)
    ·replace H:=sT c2 H
     rw [decide_eq_true c2]
     refine Qi hT 2 (K33 11110100 1) (Qo.s1 Qba a0 v1 Qar) ?_
     refine Qi hT 2 (K33 1111010010 0) (Qo.s1 Qba a0 v1 Qar) ?_
     obtain ⟨h3,H⟩:=sC H
     obtain ⟨v2,h4,H⟩:=sbC H
     refine Qfn (nt:=131) (hP▸mixed) 23 [22] [1,2,3,7] [(1,.ptr 0 0 0 0),(2,.ptr 1 0 0 0),(3,.ptr 2 0 0 0),(7,.i Qba)] (sm [.ptr 2 0 0 8,.own 3 9 0 Qar.length,.ptr 0 0 0 8,.d (Zy true a0),.i Qba,.d (Qg1 true a0 Qba.toNat 0),.d (Qg1 true a0 Qba.toNat 0),.d (Qaq ((a0.getD Qba.toNat Qc.z).M)),.d (Qic v2),.ptr 0 0 0 8,.d (Zy true a0),.i Qba,.d (Qg1 true a0 Qba.toNat 0),.d (Qg1 true a0 Qba.toNat 7),.i ((a0.getD Qba.toNat Qc.z).Time),.ptr 0 0 0 8,.d (Zy true a0),.i Qba,.d (Qg1 true a0 Qba.toNat 0),.d (Qg1 true a0 Qba.toNat 8),.b ((a0.getD Qba.toNat Qc.z).Jc),.d (.agg [.i v2.Client,.i v2.Seq,.i v2.Kind,Qdw true v2.Pairs,.i v2.Over.Lo,.i v2.Over.Hi,.i v2.Old,.i ((a0.getD Qba.toNat Qc.z).Time),.b ((a0.getD Qba.toNat Qc.z).Jc)]),.own 4 9 0 1]) [[.box 44 (Qo.q2 a0),.box 74 (Qo.q3),.box 74 (Qo.q4 v1 Qar),Qpw Qar],[.box 44 (Qo.q2 a0),.box 74 (Qo.q3),.box 74 (Qo.q4 v1 Qar),Qpw Qar,.flat false 9 78 1 (fun j=>[[.i v2.Client,.i v2.Seq,.i v2.Kind,Qdw true v2.Pairs,.i v2.Over.Lo,.i v2.Over.Hi,.i v2.Old,.i ((a0.getD Qba.toNat Qc.z).Time),.b ((a0.getD Qba.toNat Qc.z).Jc)]].getD j [])]] (by kernel_rfl) (by kernel_rfl) (by kernel_rfl) (by kernel_rfl) ⟨?_,(Ql0 hT),?_⟩ ?_
     iterate 2 exact (Qil (Ya (Ya (Ya (Qik (Ya (Ya (Ya (Ya (Ya (Qik (Ya (Ya (Ya (Qik (Ya (Ya (Qik (Ya (Ya (Ya (Ya (Ya Qmf hT) hT) hT) hT) hT) (fun R rest h=>Qae hT (i:=Qba) (n:=(a0.length:Int)) h3.1 h3.2 (by kernel_rfl) h)) hT) hT) (fun R rest h=>Jz (Xw:=[.d (Qaq ((a0.getD Qba.toNat Qc.z).M))]) (dst:=some 96) hP Wdy (Wz.Wl ((a0.getD Qba.toNat Qc.z).M) h4) (by kernel_rfl) (.cons (Qn _) .nil) (by kernel_rfl) h)) hT) hT) hT) (fun R rest h=>Qae hT (i:=Qba) (n:=(a0.length:Int)) h3.1 h3.2 (by kernel_rfl) h)) hT) hT) hT) hT) hT) (fun R rest h=>Qae hT (i:=Qba) (n:=(a0.length:Int)) h3.1 h3.2 (by kernel_rfl) h)) hT) hT) hT))
     refine Qi hT 0 (K33 11110100100 23) ⟨131,(Qo.p0++[(7,.i Qba),(89,.own 3 9 0 Qar.length),(110,.own 4 9 0 1)]),[.box 44 (Qo.q2 a0),.box 74 (Qo.q3),.box 74 (Qo.q4 v1 Qar),Qpw Qar,.flat false 9 78 1 (fun j=>[[.i v2.Client,.i v2.Seq,.i v2.Kind,Qdw true v2.Pairs,.i v2.Over.Lo,.i v2.Over.Hi,.i v2.Old,.i ((a0.getD Qba.toNat Qc.z).Time),.b ((a0.getD Qba.toNat Qc.z).Jc)]].getD j [])]⟩ ?_
     obtain ⟨h5,H⟩:=sC H
     refine Qe1 (id:=3) (kk:=9) (by':=88) (t:=29) (e:=78) (z:=[.int .i64 0,.int .i64 0,.int .i64 0,.slice none 0 0,.int .i64 0,.int .i64 0,.int .i64 0,.int .i64 0,.bool false]) (dst:=some 111) (id2:=4) (e2:=78) (fz:=false) (k':=(K33 11110100100 24)) hT Qe.e Qe.z Qar (⟨v2,(a0.getD Qba.toNat Qc.z).Time,(a0.getD Qba.toNat Qc.z).Jc⟩:Qe) [1,2,3,7,111] (by kernel_rfl) (by kernel_rfl) (by kernel_rfl) (by kernel_rfl) (by kernel_rfl) (by kernel_rfl) (by kernel_rfl) h5 (by omega) (st':=⟨131,(Qo.p0++[(7,.i Qba),(111,.own 5 9 0 ((Qar ++ [(⟨v2,(a0.getD Qba.toNat Qc.z).Time,(a0.getD Qba.toNat Qc.z).Jc⟩:Qe)]).length))]),[.box 44 (Qo.q2 a0),.box 74 (Qo.q3),.box 74 (Qo.q4 v1 Qar),.gone,.flat false 9 78 1 (fun j=>[[.i v2.Client,.i v2.Seq,.i v2.Kind,Qdw true v2.Pairs,.i v2.Over.Lo,.i v2.Over.Hi,.i v2.Old,.i ((a0.getD Qba.toNat Qc.z).Time),.b ((a0.getD Qba.toNat Qc.z).Jc)]].getD j []),Qpw (Qar ++ [(⟨v2,(a0.getD Qba.toNat Qc.z).Time,(a0.getD Qba.toNat Qc.z).Jc⟩:Qe)])]⟩) (by kernel_rfl) ?_
     refine Yi hT 10 (K33 1111010 0) [0,1,2,5] ⟨131,(Qo.p0++[(7,.i (IntKind.wrap .i64 (Qba+1)))]),[.box 44 (Qo.q2 a0),.box 74 (Qo.q3),.box 74 [.i 0,.i 0,.i 0,.i 0,.b false,.b false,.ns,.d (Qdw true v1),.own 3 9 0 (Qar ++ [(⟨v2,(a0.getD Qba.toNat Qc.z).Time,(a0.getD Qba.toNat Qc.z).Jc⟩:Qe)]).length,.ns],Qpw (Qar ++ [(⟨v2,(a0.getD Qba.toNat Qc.z).Time,(a0.getD Qba.toNat Qc.z).Jc⟩:Qe)])]⟩ h0 ?_
     exact ih.2.1 (IntKind.wrap .i64 (Qba+1)) (Qar ++ [(⟨v2,(a0.getD Qba.toNat Qc.z).Time,(a0.getD Qba.toNat Qc.z).Jc⟩:Qe)]) H
    replace H:=sF c2 H
    rw [decide_eq_false c2]
    refine Qi hT 9 (K33 11111010 0) ⟨131,(Qo.p0++[(8,.i 0)]),(Qo.q1 a0 v1 Qar)⟩ ?_
    exact ih.2.2 Qar H
   intro Qar H
   refine Qi hT 14 (K33 1111110 1) ⟨131,[(2,.ptr 1 0 0 0),(130,.agg [.i 0,.i 0,.i 0,.i 0,.b false,.b false,.ns,.d (Qdw true v1),.own 3 9 0 Qar.length,.ns])],(Qo.q1 a0 v1 Qar)⟩ ?_
   refine Qeg 3 (kk:=9) (n:=Qar.length) (ty:=78) (g:=vec Qe.e Qe.z Qar) (by kernel_rfl) (st':=⟨131,[(2,.ptr 1 0 0 0),(130,.agg [.i 0,.i 0,.i 0,.i 0,.b false,.b false,.ns,.d (Qdw true v1),.own 3 9 0 Qar.length,.ns])],[.box 44 (Qo.q2 a0),.box 74 (Qo.q3),.box 74 (Qo.q4 v1 Qar),Wgp Qar]⟩) (by kernel_rfl) ?_
   refine Qhi (av:=.agg [.i 0,.i 0,.i 0,.i 0,.b false,.b false,.ns,.d (Qdw true v1),.own 3 9 0 Qar.length,.ns]) (y:=.agg [.i 0,.i 0,.i 0,.i 0,.b false,.b false,Qwd true ([]:List Xo),Qdw true v1,Qdv true Qar,Qz4 true ([]:List Yg)]) [2,130] 130 (st':=⟨131,[(2,.ptr 1 0 0 0),(130,.d (.agg [.i 0,.i 0,.i 0,.i 0,.b false,.b false,Qwd true ([]:List Xo),Qdw true v1,Qdv true Qar,Qz4 true ([]:List Yg)]))],[.box 44 (Qo.q2 a0),.box 74 (Qo.q3),.box 74 (Qo.q4 v1 Qar),Wgp Qar]⟩) (by kernel_rfl) (.agg (.cons (.d _) (.cons (.d _) (.cons (.d _) (.cons (.d _) (.cons (.d _) (.cons (.d _) (.cons (.nil _) (.cons (.d _) (.cons (.own (ty:=78) (k:=9) (by kernel_rfl)) (.cons (.nil _) .nil))))))))))) (by kernel_rfl) ?_
   refine Qi hT 2 (K33 111111 1) ⟨131,[(2,.ptr 1 0 0 0)],[.box 44 (Qo.q2 a0),.box 74 [.i 0,.i 0,.i 0,.i 0,.b false,.b false,.d (Qwd true ([]:List Xo)),.d (Qdw true v1),.d (Qdv true Qar),.d (Qz4 true ([]:List Yg))],.box 74 (Qo.q4 v1 Qar),Wgp Qar]⟩ ?_
   obtain rfl:=Zb H
   exact Qjm hT hf hX (av:=.d (.agg [.i 0,.i 0,.i 0,.i 0,.b false,.b false,Qwd true ([]:List Xo),Qdw true v1,Qdv true Qar,Qz4 true ([]:List Yg)])) (by kernel_rfl) [] (Qb1 (by kernel_rfl)) (by decide) (by rw [h0];rfl) (by kernel_rfl) an (.d (.agg (Qt.nl _)))
 obtain ⟨n,H⟩:=Qcn H
 exact (L n).1 () H
theorem Qbm.Wl (a0:List Qc) {r:List Qe} (H:Qbm a0=some r):Yn Tryz.prog 11 [] [.d (Zy true a0)] [] (.d (Qdv true r)):=by
 refine Xt Tryz.func11 rfl (nt:=7) rfl (lb rfl) fun X hP h0 hX=>?_
 have hT:Xl X.P T:=hP▸tok
 have hf:X.P.funcs[11]? = some Tryz.f11:=hP▸Tryz.func11
 refine Qi hT 8 (K11 110 2) ⟨7,[(4,.d (.agg [.i 0,.i 0,.i 0,.i 0,.b false,.b false,.ns,.ns,Zy true a0,.ns]))],[]⟩ ?_
 obtain ⟨v1,h1,H⟩:=ibC H
 refine Wj (Xw:=[.d (.agg [.i 0,.i 0,.i 0,.i 0,.b false,.b false,.ns,.ns,Zy true a0,.ns])]) (dst:=some 5) (k':=(K11 110 3)) [5] [] hP Wdl (Qo.Wl a0 h1) (by kernel_rfl) (Qz _) (.cons (Qn _) .nil) (st':=⟨7,[(5,.d (Qwz v1))],[]⟩) (by kernel_rfl) ?_
 refine Qi hT 3 (K11 11 1) ⟨7,[(2,.d (Qdv true v1.Log))],[]⟩ ?_
 obtain rfl:=Zb H
 exact Yr hf hX h0 (.d (Qdv true v1.Log)) [] an (.d (.sl fun _ _=>Qe.nl _))
abbrev Yd.p0 (t0:Bool) (a0:List Qe) (t1:Bool) (a1:List Qe):List (Nat × AV):=[(0,.d (Qdv t0 a0)),(1,.d (Qdv t1 a1))]
theorem Yd.Wl {t0:Bool} {t1:Bool} (a0:List Qe) (a1:List Qe) {r:Bool} (H:Yd a0 a1=some r):Yn Tryz.prog 10 [] [.d (Qdv t0 a0),.d (Qdv t1 a1)] [] (.b r):=by
 refine Xt Tryz.func10 rfl (nt:=55) rfl (lb rfl) fun X hP h0 hX=>?_
 have hT:Xl X.P T:=hP▸tok
 have hf:X.P.funcs[10]? = some Tryz.f10:=hP▸Tryz.func10
 refine Qi hT 13 (K10 110 1) ⟨55,(Yd.p0 t0 a0 t1 a1++[(10,.b ((a0.length:Int) != (a1.length:Int)))]),[]⟩ ?_
 by_cases c1:(a0.length:Int)=(a1.length:Int)
 ·replace H:=iT c1 H
  rw [neF c1]
  refine Qi hT 2 (K10 11 1) ⟨55,(Yd.p0 t0 a0 t1 a1),[]⟩ ?_
  refine Qi hT 7 (K10 111010 0) ⟨55,(Yd.p0 t0 a0 t1 a1++[(5,.i 0)]),[]⟩ ?_
  have L:∀ n,(∀ (Wy:Int),iter (Yd.step a0 a1) n (.l1 Wy)=some r->AK X 10 ((K10 111010 0)) (Jb X [] (.b r)) ⟨55,(Yd.p0 t0 a0 t1 a1++[(5,.i Wy)]),[]⟩):=by
   intro n
   induction n with
   | zero=>exact fun _ H=>Qbx H
   | succ n ih=>
    ·intro Wy H
     refine Qi hT 8 (K10 11101000 1) ⟨55,(Yd.p0 t0 a0 t1 a1++[(5,.i Wy),(14,.b (decide (Wy < (a0.length:Int))))]),[]⟩ ?_
     by_cases c2:Wy < (a0.length:Int)
     ·replace H:=sT c2 H
      rw [decide_eq_true c2]
      refine Qi hT 2 (K10 1110100 1) ⟨55,(Yd.p0 t0 a0 t1 a1++[(5,.i Wy)]),[]⟩ ?_
      refine Qi hT 3 (K10 1110100100 0) ⟨55,(Yd.p0 t0 a0 t1 a1++[(5,.i Wy)]),[]⟩ ?_
      obtain ⟨h3,H⟩:=sC H
      obtain ⟨h4,H⟩:=sC H
      obtain ⟨v1,h5,H⟩:=sbC H
      have Zl:∀ (Qrn:Bool),stk (Yd.j1 Wy Qrn) (iter (Yd.step a0 a1) n)=some r->AK X 10 ((K10 1110100100 1)) (Jb X [] (.b r)) ⟨55,(Yd.p0 t0 a0 t1 a1++[(5,.i Wy),(54,.b Qrn)]),[]⟩:=by
       intro Qrn H
       by_cases c8:Qrn=true
       ·replace H:=sT c8 H
        rw [c8]
        refine Qi hT 5 (K10 111010010010 1) ⟨55,[(4,.b false)],[]⟩ ?_
        obtain rfl:=Zb H
        exact Yr hf hX h0 (.b false) [] an (.d (.v _))
       replace H:=sF c8 H
       rw [boF c8]
       refine Qi hT 3 (K10 11101001 1) ⟨55,(Yd.p0 t0 a0 t1 a1++[(5,.i Wy)]),[]⟩ ?_
       refine Qi hT 6 (K10 111010 0) ⟨55,(Yd.p0 t0 a0 t1 a1++[(5,.i (IntKind.wrap .i64 (Wy+1)))]),[]⟩ ?_
       exact ih (IntKind.wrap .i64 (Wy+1)) H
      by_cases c6:v1=true
      ·replace H:=sT c6 H
       by_cases c7:((a0.getD Wy.toNat Qe.z).Time)=((a1.getD Wy.toNat Qe.z).Time)
       ·replace H:=sT c7 H
        refine Qbt (hP▸mixed) 38 [0,1,5] (sm [.d (Qdv t0 a0),.i Wy,.d (Qf5 t0 a0 Wy.toNat 0),.d (Qf5 t0 a0 Wy.toNat 0),.d (Qic ((a0.getD Wy.toNat Qe.z).M)),.d (Qdv t1 a1),.i Wy,.d (Qf5 t1 a1 Wy.toNat 0),.d (Qf5 t1 a1 Wy.toNat 0),.d (Qic ((a1.getD Wy.toNat Qe.z).M)),.b true,.b false,.b false,.d (Qdv t0 a0),.i Wy,.d (Qf5 t0 a0 Wy.toNat 0),.d (Qf5 t0 a0 Wy.toNat 7),.i ((a0.getD Wy.toNat Qe.z).Time),.d (Qdv t1 a1),.i Wy,.d (Qf5 t1 a1 Wy.toNat 0),.d (Qf5 t1 a1 Wy.toNat 7),.i ((a1.getD Wy.toNat Qe.z).Time),.b false,.b false,.b false,.d (Qdv t0 a0),.i Wy,.d (Qf5 t0 a0 Wy.toNat 0),.d (Qf5 t0 a0 Wy.toNat 8),.b ((a0.getD Wy.toNat Qe.z).Jc),.d (Qdv t1 a1),.i Wy,.d (Qf5 t1 a1 Wy.toNat 0),.d (Qf5 t1 a1 Wy.toNat 8),.b ((a1.getD Wy.toNat Qe.z).Jc),.b (!(((a0.getD Wy.toNat Qe.z).Jc) == ((a1.getD Wy.toNat Qe.z).Jc))),.b (!(((a0.getD Wy.toNat Qe.z).Jc) == ((a1.getD Wy.toNat Qe.z).Jc)))]) (Qg (Qg (Qg (Qg (opS (Qg (Qg (Qg (Qg (opS (Qg (Qg (Qg (Qg (opV (Qg (Qg (opS (Qg (Qg (Qg (Qg (opS (Qg (Qg (Qg (Qg (opS (Qg (Qg (opS (Qg (Qg (Qg (Qg (opS (Qg (Qg op0 hT) hT) (fun R rest h=>Qae hT (i:=Wy) (n:=(a0.length:Int)) h3.1 h3.2 (by kernel_rfl) h)) hT) hT) hT) hT) (fun R rest h=>Qae hT (i:=Wy) (n:=(a1.length:Int)) h4.1 h4.2 (by kernel_rfl) h)) hT) hT) (fun R rest h=>Jz (Xw:=[.d (Qic ((a0.getD Wy.toNat Qe.z).M)),.d (Qic ((a1.getD Wy.toNat Qe.z).M))]) (dst:=some 27) hP Qpy (by have q:=Xh.Wl ((a0.getD Wy.toNat Qe.z).M) ((a1.getD Wy.toNat Qe.z).M) h5;rw [c6] at q;exact q) (by kernel_rfl) (.cons (Qn _) (.cons (Qn _) .nil)) (by kernel_rfl) h)) hT) hT) hT) hT) (fun R rest h=>Qae hT (i:=Wy) (n:=(a0.length:Int)) h3.1 h3.2 (by kernel_rfl) h)) hT) hT) hT) hT) (fun R rest h=>Qae hT (i:=Wy) (n:=(a1.length:Int)) h4.1 h4.2 (by kernel_rfl) h)) hT) hT) hT 40 (.b (((a0.getD Wy.toNat Qe.z).Time) != ((a1.getD Wy.toNat Qe.z).Time))) (.b false) (by rw [neF c7]<;>rfl)) hT) hT) hT) hT) (fun R rest h=>Qae hT (i:=Wy) (n:=(a0.length:Int)) h3.1 h3.2 (by kernel_rfl) h)) hT) hT) hT) hT) (fun R rest h=>Qae hT (i:=Wy) (n:=(a1.length:Int)) h4.1 h4.2 (by kernel_rfl) h)) hT) hT) hT) hT) ?_
        refine Qi hT 1 (K10 1110100100 1) ⟨55,(Yd.p0 t0 a0 t1 a1++[(5,.i Wy),(54,.b (!(((a0.getD Wy.toNat Qe.z).Jc) == ((a1.getD Wy.toNat Qe.z).Jc))))]),[]⟩ ?_
        exact Zl (!(((a0.getD Wy.toNat Qe.z).Jc) == ((a1.getD Wy.toNat Qe.z).Jc))) H
       replace H:=sF c7 H
       refine Qbt (hP▸mixed) 38 [0,1,5] (sm [.d (Qdv t0 a0),.i Wy,.d (Qf5 t0 a0 Wy.toNat 0),.d (Qf5 t0 a0 Wy.toNat 0),.d (Qic ((a0.getD Wy.toNat Qe.z).M)),.d (Qdv t1 a1),.i Wy,.d (Qf5 t1 a1 Wy.toNat 0),.d (Qf5 t1 a1 Wy.toNat 0),.d (Qic ((a1.getD Wy.toNat Qe.z).M)),.b true,.b false,.b false,.d (Qdv t0 a0),.i Wy,.d (Qf5 t0 a0 Wy.toNat 0),.d (Qf5 t0 a0 Wy.toNat 7),.i ((a0.getD Wy.toNat Qe.z).Time),.d (Qdv t1 a1),.i Wy,.d (Qf5 t1 a1 Wy.toNat 0),.d (Qf5 t1 a1 Wy.toNat 7),.i ((a1.getD Wy.toNat Qe.z).Time),.b true,.b true,.b true,.Qq [],.Qq [],.Qq [],.Qq [],.Qq [],.Qq [],.Qq [],.Qq [],.Qq [],.Qq [],.Qq [],.b true]) (Qg (Qg (Qg (Qg (Qg (Qg (Qg (Qg (Qg (Qg (Qg (Qg (Qg (Qg (opV (Qg (Qg (opS (Qg (Qg (Qg (Qg (opS (Qg (Qg (Qg (Qg (opS (Qg (Qg (opS (Qg (Qg (Qg (Qg (opS (Qg (Qg op0 hT) hT) (fun R rest h=>Qae hT (i:=Wy) (n:=(a0.length:Int)) h3.1 h3.2 (by kernel_rfl) h)) hT) hT) hT) hT) (fun R rest h=>Qae hT (i:=Wy) (n:=(a1.length:Int)) h4.1 h4.2 (by kernel_rfl) h)) hT) hT) (fun R rest h=>Jz (Xw:=[.d (Qic ((a0.getD Wy.toNat Qe.z).M)),.d (Qic ((a1.getD Wy.toNat Qe.z).M))]) (dst:=some 27) hP Qpy (by have q:=Xh.Wl ((a0.getD Wy.toNat Qe.z).M) ((a1.getD Wy.toNat Qe.z).M) h5;rw [c6] at q;exact q) (by kernel_rfl) (.cons (Qn _) (.cons (Qn _) .nil)) (by kernel_rfl) h)) hT) hT) hT) hT) (fun R rest h=>Qae hT (i:=Wy) (n:=(a0.length:Int)) h3.1 h3.2 (by kernel_rfl) h)) hT) hT) hT) hT) (fun R rest h=>Qae hT (i:=Wy) (n:=(a1.length:Int)) h4.1 h4.2 (by kernel_rfl) h)) hT) hT) hT 40 (.b (((a0.getD Wy.toNat Qe.z).Time) != ((a1.getD Wy.toNat Qe.z).Time))) (.b true) (by rw [neT c7]<;>rfl)) hT) hT) hT) hT) hT) hT) hT) hT) hT) hT) hT) hT) hT) hT) ?_
       refine Qi hT 1 (K10 1110100100 1) ⟨55,(Yd.p0 t0 a0 t1 a1++[(5,.i Wy),(54,.b true)]),[]⟩ ?_
       exact Zl true H
      replace H:=sF c6 H
      refine Qbt (hP▸mixed) 38 [0,1,5] (sm [.d (Qdv t0 a0),.i Wy,.d (Qf5 t0 a0 Wy.toNat 0),.d (Qf5 t0 a0 Wy.toNat 0),.d (Qic ((a0.getD Wy.toNat Qe.z).M)),.d (Qdv t1 a1),.i Wy,.d (Qf5 t1 a1 Wy.toNat 0),.d (Qf5 t1 a1 Wy.toNat 0),.d (Qic ((a1.getD Wy.toNat Qe.z).M)),.b false,.b true,.b true,.Qq [],.Qq [],.Qq [],.Qq [],.Qq [],.Qq [],.Qq [],.Qq [],.Qq [],.Qq [],.Qq [],.b true,.b true,.Qq [],.Qq [],.Qq [],.Qq [],.Qq [],.Qq [],.Qq [],.Qq [],.Qq [],.Qq [],.Qq [],.b true]) (Qg (Qg (Qg (Qg (Qg (Qg (Qg (Qg (Qg (Qg (Qg (Qg (Qg (Qg (Qg (Qg (Qg (Qg (Qg (Qg (Qg (Qg (Qg (Qg (Qg (Qg (Qg (opS (Qg (Qg (opS (Qg (Qg (Qg (Qg (opS (Qg (Qg op0 hT) hT) (fun R rest h=>Qae hT (i:=Wy) (n:=(a0.length:Int)) h3.1 h3.2 (by kernel_rfl) h)) hT) hT) hT) hT) (fun R rest h=>Qae hT (i:=Wy) (n:=(a1.length:Int)) h4.1 h4.2 (by kernel_rfl) h)) hT) hT) (fun R rest h=>Jz (Xw:=[.d (Qic ((a0.getD Wy.toNat Qe.z).M)),.d (Qic ((a1.getD Wy.toNat Qe.z).M))]) (dst:=some 27) hP Qpy (by have q:=Xh.Wl ((a0.getD Wy.toNat Qe.z).M) ((a1.getD Wy.toNat Qe.z).M) h5;rw [boF c6] at q;exact q) (by kernel_rfl) (.cons (Qn _) (.cons (Qn _) .nil)) (by kernel_rfl) h)) hT) hT) hT) hT) hT) hT) hT) hT) hT) hT) hT) hT) hT) hT) hT) hT) hT) hT) hT) hT) hT) hT) hT) hT) hT) hT) hT) ?_
      refine Qi hT 1 (K10 1110100100 1) ⟨55,(Yd.p0 t0 a0 t1 a1++[(5,.i Wy),(54,.b true)]),[]⟩ ?_
      exact Zl true H
     replace H:=sF c2 H
     rw [decide_eq_false c2]
     refine Qi hT 6 (K10 1111 1) ⟨55,[(4,.b true)],[]⟩ ?_
     obtain rfl:=Zb H
     exact Yr hf hX h0 (.b true) [] an (.d (.v _))
  obtain ⟨n,H⟩:=Qcn H
  exact (L n) 0 H
 replace H:=iF c1 H
 rw [neT c1]
 refine Qi hT 5 (K10 11010 1) ⟨55,[(4,.b false)],[]⟩ ?_
 obtain rfl:=Zb H
 exact Yr hf hX h0 (.b false) [] an (.d (.v _))
abbrev Qat.p0 (a0:Qf):List (Nat × AV):=[(1,.ptr 0 0 0 0),(3,.ptr 1 0 0 0),(11,.d (Qcx true a0.Held)),(12,.i (a0.Held.length:Int))]
theorem Qat.Wl (a0:Qf) {r:Int} (H:Qat a0=some r):Yn Tryz.prog 34 [] [.d (Qct a0)] [] (.i r):=by
 refine Xt Tryz.func34 rfl (nt:=29) rfl (lb rfl) fun X hP h0 hX=>?_
 have hT:Xl X.P T:=hP▸tok
 have hf:X.P.funcs[34]? = some Tryz.f34:=hP▸Tryz.func34
 refine Qi hT 9 (K34 1100 1) ⟨29,[(1,.ptr 0 0 0 0),(6,.d (Qct a0))],[.box 44 (Ym a0)]⟩ ?_
 obtain ⟨v1,h1,H⟩:=ibC H
 refine Wj (Xw:=[.d (Qct a0)]) (dst:=some 7) (k':=(K34 1100 2)) [1,7] [] hP Qu0 (Yx.Wl a0 h1) (by kernel_rfl) (Qz _) (.cons (Qn _) .nil) (st':=⟨29,[(1,.ptr 0 0 0 0),(7,.b v1)],[.box 44 (Ym a0)]⟩) (by kernel_rfl) ?_
 refine Qi hT 2 (K34 110 1) ⟨29,[(1,.ptr 0 0 0 0),(8,.b (!v1))],[.box 44 (Ym a0)]⟩ ?_
 by_cases c2:v1=true
 ·replace H:=iT c2 H
  rw [c2]
  refine Qi hT 2 (K34 11 1) ⟨29,[(1,.ptr 0 0 0 0)],[.box 44 (Ym a0)]⟩ ?_
  refine Qi hT 2 (K34 1110 0) ⟨29,[(1,.ptr 0 0 0 0)],[.box 44 (Ym a0)]⟩ ?_
  refine Wj (Xw:=[]) (dst:=some 9) (k':=(K34 1110 1)) [1,9] [] hP Wdz (Wfi) (by kernel_rfl) (Qz _) .nil (st':=⟨29,[(1,.ptr 0 0 0 0),(9,.ptr 1 0 0 0)],[.box 44 (Ym a0),qR Qqe]⟩) (by kernel_rfl) ?_
  obtain ⟨v2,h3,H⟩:=idC H
  rw [<- h3]
  refine Qi hT 12 (K34 1111010 0) ⟨29,(Qat.p0 a0++[(13,.i 0)]),[.box 44 (Ym a0),qR v2]⟩ ?_
  have L:∀ n,(∀ (Yv:Int) (Xi:QL),iter (Qat.step a0) n (.l1 Yv Xi)=some r->AK X 34 ((K34 1111010 0)) (Jb X [] (.i r)) ⟨29,(Qat.p0 a0++[(13,.i Yv)]),[.box 44 (Ym a0),qR Xi]⟩):=by
   intro n
   induction n with
   | zero=>exact fun _ _ H=>Qbx H
   | succ n ih=>
    ·intro Yv Xi H
     refine Qi hT 5 (K34 111101001 0) ⟨29,(Qat.p0 a0++[(13,.i Yv),(14,.b (decide (Yv < (a0.Held.length:Int))))]),[.box 44 (Ym a0),qR Xi]⟩ ?_
     by_cases c4:Yv < (a0.Held.length:Int)
     ·replace H:=sT c4 H
      rw [decide_eq_true c4]
      refine Qi hT 2 (K34 111101001 1) ⟨29,(Qat.p0 a0++[(13,.i Yv)]),[.box 44 (Ym a0),qR Xi]⟩ ?_
      refine Qi hT 4 (K34 1111010011000 0) ⟨29,(Qat.p0 a0++[(13,.i Yv)]),[.box 44 (Ym a0),qR Xi]⟩ ?_
      obtain ⟨h5,H⟩:=sC H
      refine Qa7 hT [1,3,11,12,13,15] (i:=Yv) (n:=(a0.Held.length:Int)) h5.1 h5.2 (k':=(K34 1111010011000 1)) (st':=⟨29,(Qat.p0 a0++[(13,.i Yv),(15,.d (Qw1 true a0.Held Yv.toNat 0))]),[.box 44 (Ym a0),qR Xi]⟩) (by kernel_rfl) ?_
      refine Qi hT 11 (K34 1111010011001 6) ⟨29,(Qat.p0 a0++[(13,.i Yv),(17,.ptr 1 0 0 0),(22,.d (.agg [.i (((a0.Held.getD Yv.toNat Qr.z).M).Client),.i (((a0.Held.getD Yv.toNat Qr.z).M).Seq),.i (((a0.Held.getD Yv.toNat Qr.z).M).Kind),Xj true (((a0.Held.getD Yv.toNat Qr.z).M).Pairs),.i ((((a0.Held.getD Yv.toNat Qr.z).M).Over).Lo),.i ((((a0.Held.getD Yv.toNat Qr.z).M).Over).Hi),.i (((a0.Held.getD Yv.toNat Qr.z).M).Old),.i ((a0.Held.getD Yv.toNat Qr.z).Time),.b false]))]),[.box 44 (Ym a0),qR Xi,.box 94 (Qsf (a0.Held.getD Yv.toNat Qr.z))]⟩ ?_
      obtain ⟨v3,h6,H⟩:=sbC H
      refine Wj (Xw:=[.ptr 1 0 0 0,.d (.agg [.i (((a0.Held.getD Yv.toNat Qr.z).M).Client),.i (((a0.Held.getD Yv.toNat Qr.z).M).Seq),.i (((a0.Held.getD Yv.toNat Qr.z).M).Kind),Xj true (((a0.Held.getD Yv.toNat Qr.z).M).Pairs),.i ((((a0.Held.getD Yv.toNat Qr.z).M).Over).Lo),.i ((((a0.Held.getD Yv.toNat Qr.z).M).Over).Hi),.i (((a0.Held.getD Yv.toNat Qr.z).M).Old),.i ((a0.Held.getD Yv.toNat Qr.z).Time),.b false])]) (dst:=some 23) (k':=(K34 1111010011001 7)) [1,3,11,12,13] [1] hP Wd0 (Wfh Xi (⟨((a0.Held.getD Yv.toNat Qr.z).M),(a0.Held.getD Yv.toNat Qr.z).Time,false⟩:Yo) h6) (by kernel_rfl) (Qd3 rfl rfl) (.cons (.same (.ptr 0 0 0 0)) (.cons (Qn _) .nil)) (st':=⟨29,(Qat.p0 a0++[(13,.i Yv)]),[.box 44 (Ym a0),qR v3.2,.box 94 (Qsf (a0.Held.getD Yv.toNat Qr.z))]⟩) (by kernel_rfl) ?_
      refine Yi hT 7 (K34 1111010 0) [0,1] ⟨29,(Qat.p0 a0++[(13,.i (IntKind.wrap .i64 (Yv+1)))]),[.box 44 (Ym a0),qR v3.2]⟩ h0 ?_
      exact ih (IntKind.wrap .i64 (Yv+1)) v3.2 H
     replace H:=sF c4 H
     rw [decide_eq_false c4]
     refine Qi hT 7 (K34 111110 3) ⟨29,[(25,.ptr 1 0 0 0),(27,.i a0.Clock)],[.box 44 (Ym a0),qR Xi]⟩ ?_
     refine Wj (Xw:=[.ptr 1 0 0 0,.i a0.Clock]) (dst:=some 28) (k':=(K34 111110 4)) [28] [1] hP Wd1 (Qyn Xi a0.Clock) (by kernel_rfl) (Qd3 rfl rfl) (.cons (.same (.ptr 0 0 0 0)) (.cons (Qn _) .nil)) (st':=⟨29,[(28,.i (Qj9 Xi a0.Clock))],[.box 44 (Ym a0),qR Xi]⟩) (by kernel_rfl) ?_
     refine Qi hT 2 (K34 11111 1) ⟨29,[(2,.i (Qj9 Xi a0.Clock))],[.box 44 (Ym a0),qR Xi]⟩ ?_
     obtain rfl:=Zb H
     exact Yr hf hX h0 (.i (Qj9 Xi a0.Clock)) [] an (.d (.v _))
  obtain ⟨n,H⟩:=Qcn H
  exact (L n) 0 v2 H
 replace H:=iF c2 H
 rw [boF c2]
 refine Qi hT 5 (K34 11010 1) ⟨29,[(2,.i 0)],[.box 44 (Ym a0)]⟩ ?_
 obtain rfl:=Zb H
 exact Yr hf hX h0 (.i 0) [] an (.d (.v _))
theorem Zp.Wl {t0:Bool} {Zk:FuncId} {Zn:List DV} (a0:List Ql) (p1:Ql->Option Bool) (he1:Sy.Enters Tryz.prog Zk) (hp1:∀ (z0:Ql) r,p1 z0=some r->Yn Tryz.prog Zk [] ([.d (Qfg z0)] ++ List.map AV.d Zn) [] (.b r)) {r:Int} (H:Zp a0 p1=some r):Yn Tryz.prog 119 [] [.d (Qb0 t0 a0),.d (.fn Zk Zn)] [] (.i r):=by
 refine Xt Tryz.func119 rfl (nt:=19) rfl (lb rfl) fun X hP h0 hX=>?_
 have hT:Xl X.P T:=hP▸tok
 have hf:X.P.funcs[119]? = some Tryz.f119:=hP▸Tryz.func119
 refine Qi hT 13 (Qkg 11010 0) ⟨19,[(0,.d (Qb0 t0 a0)),(1,.d (.fn Zk Zn)),(7,.i (a0.length:Int)),(8,.i 0)],[]⟩ ?_
 have L:∀ n,(∀ (Qy:Int),iter (Zp.step a0 p1) n (.l1 Qy)=some r->AK X 119 ((Qkg 11010 0)) (Jb X [] (.i r)) ⟨19,[(0,.d (Qb0 t0 a0)),(1,.d (.fn Zk Zn)),(7,.i (a0.length:Int)),(8,.i Qy)],[]⟩):=by
  intro n
  induction n with
  | zero=>exact fun _ H=>Qbx H
  | succ n ih=>
   ·intro Qy H
    refine Qi hT 5 (Qkg 1101001 0) ⟨19,[(0,.d (Qb0 t0 a0)),(1,.d (.fn Zk Zn)),(7,.i (a0.length:Int)),(8,.i Qy),(9,.b (decide (Qy < (a0.length:Int))))],[]⟩ ?_
    by_cases c1:Qy < (a0.length:Int)
    ·replace H:=sT c1 H
     rw [decide_eq_true c1]
     refine Qi hT 2 (Qkg 1101001 1) ⟨19,[(0,.d (Qb0 t0 a0)),(1,.d (.fn Zk Zn)),(7,.i (a0.length:Int)),(8,.i Qy)],[]⟩ ?_
     refine Qi hT 12 (Qkg 110100110010 3) ⟨19,[(0,.d (Qb0 t0 a0)),(1,.d (.fn Zk Zn)),(5,.i Qy),(7,.i (a0.length:Int)),(8,.i Qy),(11,.d (.fn Zk Zn)),(12,.d (Qb0 t0 a0)),(13,.i Qy)],[]⟩ ?_
     obtain ⟨h2,H⟩:=sC H
     refine Qa7 hT [0,1,5,7,8,11,14] (i:=Qy) (n:=(a0.length:Int)) h2.1 h2.2 (k':=(Qkg 110100110010 4)) (st':=⟨19,[(0,.d (Qb0 t0 a0)),(1,.d (.fn Zk Zn)),(5,.i Qy),(7,.i (a0.length:Int)),(8,.i Qy),(11,.d (.fn Zk Zn)),(14,.d (Qj2 t0 a0 Qy.toNat 0))],[]⟩) (by kernel_rfl) ?_
     refine Qi hT 1 (Qkg 110100110010 5) ⟨19,[(0,.d (Qb0 t0 a0)),(1,.d (.fn Zk Zn)),(5,.i Qy),(7,.i (a0.length:Int)),(8,.i Qy),(11,.d (.fn Zk Zn)),(15,.d (Qfg (a0.getD Qy.toNat Ql.z)))],[]⟩ ?_
     obtain ⟨v1,h3,H⟩:=sbC H
     refine Wj (Xw:=[.d (Qfg (a0.getD Qy.toNat Ql.z))] ++ List.map AV.d Zn) (dst:=some 16) (k':=(Qkg 110100110010 6)) [0,1,5,7,8,16] [] hP he1 (hp1 (a0.getD Qy.toNat Ql.z) v1 h3) (by kernel_rfl) (Qz _) (.cons (Qn _) (Qfz _)) (st':=⟨19,[(0,.d (Qb0 t0 a0)),(1,.d (.fn Zk Zn)),(5,.i Qy),(7,.i (a0.length:Int)),(8,.i Qy),(16,.b v1)],[]⟩) (by kernel_rfl) ?_
     refine Qi hT 1 (Qkg 11010011001 1) ⟨19,[(0,.d (Qb0 t0 a0)),(1,.d (.fn Zk Zn)),(5,.i Qy),(7,.i (a0.length:Int)),(8,.i Qy),(16,.b v1)],[]⟩ ?_
     by_cases c4:v1=true
     ·replace H:=sT c4 H
      rw [c4]
      refine Qi hT 6 (Qkg 1101001100110 1) ⟨19,[(4,.i Qy)],[]⟩ ?_
      obtain rfl:=Zb H
      exact Yr hf hX h0 (.i Qy) [] an (.d (.v _))
     replace H:=sF c4 H
     rw [boF c4]
     refine Qi hT 3 (Qkg 11010011 1) ⟨19,[(0,.d (Qb0 t0 a0)),(1,.d (.fn Zk Zn)),(7,.i (a0.length:Int)),(8,.i Qy)],[]⟩ ?_
     refine Qi hT 5 (Qkg 11010 0) ⟨19,[(0,.d (Qb0 t0 a0)),(1,.d (.fn Zk Zn)),(7,.i (a0.length:Int)),(8,.i (IntKind.wrap .i64 (Qy+1)))],[]⟩ ?_
     exact ih (IntKind.wrap .i64 (Qy+1)) H
    replace H:=sF c1 H
    rw [decide_eq_false c1]
    refine Qi hT 6 (Qkg 111 1) ⟨19,[(4,.i (-1))],[]⟩ ?_
    obtain rfl:=Zb H
    exact Yr hf hX h0 (.i (-1)) [] an (.d (.v _))
 obtain ⟨n,H⟩:=Qcn H
 exact (L n) 0 H
theorem Qc7.Wl {t0:Bool} {Zk:FuncId} {Zn:List DV} (a0:List Ql) (p1:Ql->Option Bool) (he1:Sy.Enters Tryz.prog Zk) (hp1:∀ (z0:Ql) r,p1 z0=some r->Yn Tryz.prog Zk [] ([.d (Qfg z0)] ++ List.map AV.d Zn) [] (.b r)) {r:Bool} (H:Qc7 a0 p1=some r):Yn Tryz.prog 75 [] [.d (Qb0 t0 a0),.d (.fn Zk Zn)] [] (.b r):=by
 refine Xt Tryz.func75 rfl (nt:=9) rfl (lb rfl) fun X hP h0 hX=>?_
 have hT:Xl X.P T:=hP▸tok
 have hf:X.P.funcs[75]? = some Tryz.f75:=hP▸Tryz.func75
 refine Qi hT 8 (K75 110 2) ⟨9,[(5,.d (Qb0 t0 a0)),(6,.d (.fn Zk Zn))],[]⟩ ?_
 obtain ⟨v1,h1,H⟩:=ibC H
 refine Wj (Xw:=[.d (Qb0 t0 a0),.d (.fn Zk Zn)]) (dst:=some 7) (k':=(K75 110 3)) [7] [] hP Waf (Zp.Wl (t0:=t0) (Zk:=Zk) (Zn:=Zn) a0 p1 he1 hp1 h1) (by kernel_rfl) (Qz _) (.cons (Qn _) (.cons (Qn _) .nil)) (st':=⟨9,[(7,.i v1)],[]⟩) (by kernel_rfl) ?_
 refine Qi hT 3 (K75 11 1) ⟨9,[(4,.b (decide (v1>=0)))],[]⟩ ?_
 obtain rfl:=Zb H
 exact Yr hf hX h0 (.b (decide (v1>=0))) [] an (.d (.v _))
theorem Qcm.Wl (a0:Ql) (k0:Qc):Yn Tryz.prog 76 [] [.d (Qfg a0),.d (.rop false 1 (fun _=>[.i k0.M.Client,.i k0.M.Seq,.i k0.M.Kind,Xj true k0.M.Pairs,.i k0.M.Over.Lo,.i k0.M.Over.Hi,.i k0.M.Old,.i k0.Time,.b k0.Jc]) 0 0)] [] (.b (Qcm a0 k0)):=by
 obtain ⟨r,H⟩:∃ r,Qcm a0 k0=r:=⟨_,rfl⟩
 rw [H]
 refine Xt Tryz.func76 rfl (nt:=18) rfl (lb rfl) fun X hP h0 hX=>?_
 have hT:Xl X.P T:=hP▸tok
 have hf:X.P.funcs[76]? = some Tryz.f76:=hP▸Tryz.func76
 have Zl:∀ (Qg6:Bool),(Qcm.j1 Qg6)=r->AK X 76 ((K76 11 1)) (Jb X [] (.b r)) ⟨18,[(3,.b Qg6)],[]⟩:=by
  intro Qg6 H
  obtain rfl:=H
  exact Yr hf hX h0 (.b Qg6) [] an (.d (.v _))
 refine Qi hT 14 (K76 110 7) ⟨18,[(1,.d (.rop false 1 (fun _=>[.i k0.M.Client,.i k0.M.Seq,.i k0.M.Kind,Xj true k0.M.Pairs,.i k0.M.Over.Lo,.i k0.M.Over.Hi,.i k0.M.Old,.i k0.Time,.b k0.Jc]) 0 0)),(2,.ptr 0 0 0 0),(10,.b (a0.Client == k0.M.Client))],[.box 125 (Qeh a0)]⟩ ?_
 by_cases c1:a0.Client=k0.M.Client
 ·replace H:=iT c1 H
  rw [eqT c1]
  refine Yi hT 9 (K76 11 1) [] ⟨18,[(3,.b (a0.Seq == k0.M.Seq))],[]⟩ h0 ?_
  exact Zl (a0.Seq == k0.M.Seq) H
 replace H:=iF c1 H
 rw [eqF c1]
 refine Yi hT 9 (K76 11 1) [] ⟨18,[(3,.b false)],[]⟩ h0 ?_
 exact Zl false H
theorem Qgs.Wl (a0:Qf) (a1:Qc) {r:Bool} (H:Qgs a0 a1=some r):Yn Tryz.prog 37 [] [.d (Qct a0),.d (Qd2 a1)] [] (.b r):=by
 refine Xt Tryz.func37 rfl (nt:=9) rfl (lb rfl) fun X hP h0 hX=>?_
 have hT:Xl X.P T:=hP▸tok
 have hf:X.P.funcs[37]? = some Tryz.f37:=hP▸Tryz.func37
 refine Qi hT 11 (K37 110 3) ⟨9,[(6,.d (Qb0 true a0.Qw)),(7,.fn 76 [.ptr 1 0 0 0])],[.box 44 (Ym a0),.box 50 (Qbl a1)]⟩ ?_
 obtain ⟨v1,h1,H⟩:=ibC H
 refine Wj (Xw:=[.d (Qb0 true a0.Qw),.fn 76 [.ptr 1 0 0 0]]) (dst:=some 8) (k':=(K37 110 4)) [8] [] hP Wd4 (Qc7.Wl (t0:=true) (Zk:=76) (Zn:=[.rop false 1 (fun _=>[.i a1.M.Client,.i a1.M.Seq,.i a1.M.Kind,Xj true a1.M.Pairs,.i a1.M.Over.Lo,.i a1.M.Over.Hi,.i a1.M.Old,.i a1.Time,.b a1.Jc]) 0 0]) a0.Qw (fun z0=>some (Qcm z0 a1)) Wd5 (fun z0 r h=>by obtain rfl:=Zb h;exact Qcm.Wl z0 a1) h1) (by kernel_rfl) (Qz _) (.cons (Qn _) (.cons (.fn 76 (.cons (.look (ty:=50) (cs:=[.i a1.M.Client,.i a1.M.Seq,.i a1.M.Kind,Xj true a1.M.Pairs,.i a1.M.Over.Lo,.i a1.M.Over.Hi,.i a1.M.Old,.i a1.Time,.b a1.Jc]) (by kernel_rfl) rfl) .nil)) .nil)) (st':=⟨9,[(8,.b v1)],[.box 44 (Ym a0),.box 50 (Qbl a1)]⟩) (by kernel_rfl) ?_
 refine Qi hT 2 (K37 11 1) ⟨9,[(4,.b v1)],[.box 44 (Ym a0),.box 50 (Qbl a1)]⟩ ?_
 obtain rfl:=Zb H
 exact Yr hf hX h0 (.b v1) [] an (.d (.v _))
abbrev Wh.q1 (Yq:Int) (Xx:Int) (Zz:Int) (Qaf:Int) (Qag:Bool) (Js:Bool) (Qah:List Qr) (Qai:List Qa) (Qam:List Qc) (Qan:List Ql):List AV:=[.i Yq,.i Xx,.i Zz,.i Qaf,.b Qag,.b Js,.d (Qcx true Qah),.d (Xj true Qai),.d (Zy true Qam),.d (Qb0 true Qan)]
abbrev Wh.q2 (v1:(List Qc) × Int) (Qaj:Int):=(v1.1.getD Qaj.toNat Qc.z)
theorem Wh.Wl {t0:Bool} (a0:List Qf) {r:Int} (H:Wh a0=some r):Yn Tryz.prog 12 [] [.d (Ju t0 a0)] [] (.i r):=by
 refine Xt Tryz.func12 rfl (nt:=61) rfl (lb rfl) fun X hP h0 hX=>?_
 have hT:Xl X.P T:=hP▸tok
 have hf:X.P.funcs[12]? = some Tryz.f12:=hP▸Tryz.func12
 refine Qi hT 7 (K12 110 1) ⟨61,[(0,.d (Ju t0 a0)),(12,.d (Ju t0 a0))],[]⟩ ?_
 obtain ⟨v1,h1,H⟩:=ibC H
 refine Wj (Xw:=[.d (Ju t0 a0)]) (dst:=some 13) (k':=(K12 110 2)) [0,13] [] hP Qod (Qm.Wl (t0:=t0) a0 h1) (by kernel_rfl) (Qz _) (.cons (Qn _) .nil) (st':=⟨61,[(0,.d (Ju t0 a0)),(13,.Qq [.own 0 9 0 v1.1.length,.i v1.2])],[Yl v1.1]⟩) (by kernel_rfl) ?_
 refine Qi hT 12 (K12 1110 1) ⟨61,[(0,.d (Ju t0 a0)),(3,.own 0 9 0 v1.1.length),(17,.b (v1.2 != 0))],[Yl v1.1]⟩ ?_
 by_cases c2:v1.2=0
 ·replace H:=iT c2 H
  rw [neF c2]
  refine Qi hT 2 (K12 111 1) ⟨61,[(0,.d (Ju t0 a0)),(3,.own 0 9 0 v1.1.length)],[Yl v1.1]⟩ ?_
  refine Qi hT 13 (K12 11111010 0) ⟨61,[(3,.own 0 9 0 v1.1.length),(5,.i 0),(18,.d (Ju t0 a0)),(19,.i (a0.length:Int)),(20,.i 0)],[Yl v1.1]⟩ ?_
  have L:∀ n,(∀ (Wy:Int) (Zw:Int),iter (Wh.step a0 v1) n (.l1 Wy Zw)=some r->AK X 12 ((K12 11111010 0)) (Jb X [] (.i r)) ⟨61,[(3,.own 0 9 0 v1.1.length),(5,.i Wy),(18,.d (Ju t0 a0)),(19,.i (a0.length:Int)),(20,.i Zw)],[Yl v1.1]⟩)/\(∀ (v2:Int) (Qa6:Int) (Qcg:Int) (Qaj:Int) (Yq:Int) (Xx:Int) (Zz:Int) (Qaf:Int) (Qag:Bool) (Js:Bool) (Qah:List Qr) (Qai:List Qa) (Qam:List Qc) (Qan:List Ql),iter (Wh.step a0 v1) n (.l2 v2 Qa6 Qcg Qaj Yq Xx Zz Qaf Qag Js Qah Qai Qam Qan)=some r->AK X 12 ((K12 11111010011001110 0)) (Jb X [] (.i r)) ⟨61,[(3,.own 0 9 0 v1.1.length),(5,.i Qa6),(7,.ptr 1 0 0 0),(8,.i v2),(18,.d (Ju t0 a0)),(19,.i (a0.length:Int)),(20,.i Qcg),(26,.own 0 9 0 v1.1.length),(27,.i (v1.1.length:Int)),(28,.i Qaj)],[Yl v1.1,.box 44 (Wh.q1 Yq Xx Zz Qaf Qag Js Qah Qai Qam Qan)]⟩):=by
   intro n
   induction n with
   | zero=>exact ⟨fun _ _ H=>Qbx H,fun _ _ _ _ _ _ _ _ _ _ _ _ _ _ H=>Qbx H⟩
   | succ n ih=>
    refine ⟨?_, ?_⟩
    ·intro Wy Zw H
     refine Qi hT 5 (K12 1111101001 0) ⟨61,[(3,.own 0 9 0 v1.1.length),(5,.i Wy),(18,.d (Ju t0 a0)),(19,.i (a0.length:Int)),(20,.i Zw),(21,.b (decide (Zw < (a0.length:Int))))],[Yl v1.1]⟩ ?_
     by_cases c3:Zw < (a0.length:Int)
     ·replace H:=sT c3 H
      rw [decide_eq_true c3]
      refine Qi hT 2 (K12 1111101001 1) ⟨61,[(3,.own 0 9 0 v1.1.length),(5,.i Wy),(18,.d (Ju t0 a0)),(19,.i (a0.length:Int)),(20,.i Zw)],[Yl v1.1]⟩ ?_
      refine Qi hT 4 (K12 11111010011000 0) ⟨61,[(3,.own 0 9 0 v1.1.length),(5,.i Wy),(18,.d (Ju t0 a0)),(19,.i (a0.length:Int)),(20,.i Zw)],[Yl v1.1]⟩ ?_
      obtain ⟨h4,H⟩:=sC H
      refine Qa7 hT [3,5,18,19,20,22] (i:=Zw) (n:=(a0.length:Int)) h4.1 h4.2 (k':=(K12 11111010011000 1)) (st':=⟨61,[(3,.own 0 9 0 v1.1.length),(5,.i Wy),(18,.d (Ju t0 a0)),(19,.i (a0.length:Int)),(20,.i Zw),(22,.d (Qw0 t0 a0 Zw.toNat 0))],[Yl v1.1]⟩) (by kernel_rfl) ?_
      refine Qi hT 7 (K12 111110100110010 1) ⟨61,[(3,.own 0 9 0 v1.1.length),(5,.i Wy),(7,.ptr 1 0 0 0),(18,.d (Ju t0 a0)),(19,.i (a0.length:Int)),(20,.i Zw),(24,.d (Qct (a0.getD Zw.toNat Qf.z)))],[Yl v1.1,.box 44 (Ym (a0.getD Zw.toNat Qf.z))]⟩ ?_
      obtain ⟨v2,h5,H⟩:=sbC H
      refine Wj (Xw:=[.d (Qct (a0.getD Zw.toNat Qf.z))]) (dst:=some 25) (k':=(K12 111110100110010 2)) [3,5,7,18,19,20,25] [] hP Wdm (Qat.Wl (a0.getD Zw.toNat Qf.z) h5) (by kernel_rfl) (Qz _) (.cons (Qn _) .nil) (st':=⟨61,[(3,.own 0 9 0 v1.1.length),(5,.i Wy),(7,.ptr 1 0 0 0),(18,.d (Ju t0 a0)),(19,.i (a0.length:Int)),(20,.i Zw),(25,.i v2)],[Yl v1.1,.box 44 (Ym (a0.getD Zw.toNat Qf.z))]⟩) (by kernel_rfl) ?_
      refine Yi hT 10 (K12 11111010011001110 0) [0,1] ⟨61,[(3,.own 0 9 0 v1.1.length),(5,.i Wy),(7,.ptr 1 0 0 0),(8,.i v2),(18,.d (Ju t0 a0)),(19,.i (a0.length:Int)),(20,.i Zw),(26,.own 0 9 0 v1.1.length),(27,.i (v1.1.length:Int)),(28,.i 0)],[Yl v1.1,.box 44 [.i ((a0.getD Zw.toNat Qf.z).ID),.i (((a0.getD Zw.toNat Qf.z).Keys).Lo),.i (((a0.getD Zw.toNat Qf.z).Keys).Hi),.i ((a0.getD Zw.toNat Qf.z).Clock),.b ((a0.getD Zw.toNat Qf.z).Qdd),.b ((a0.getD Zw.toNat Qf.z).Qb6),.d (Qcx true ((a0.getD Zw.toNat Qf.z).Held)),.d (Xj true ((a0.getD Zw.toNat Qf.z).Base)),.d (Zy true ((a0.getD Zw.toNat Qf.z).Log)),.d (Qb0 true ((a0.getD Zw.toNat Qf.z).Qw))]]⟩ h0 ?_
      exact ih.2 v2 Wy Zw 0 ((a0.getD Zw.toNat Qf.z).ID) (((a0.getD Zw.toNat Qf.z).Keys).Lo) (((a0.getD Zw.toNat Qf.z).Keys).Hi) ((a0.getD Zw.toNat Qf.z).Clock) ((a0.getD Zw.toNat Qf.z).Qdd) ((a0.getD Zw.toNat Qf.z).Qb6) ((a0.getD Zw.toNat Qf.z).Held) ((a0.getD Zw.toNat Qf.z).Base) ((a0.getD Zw.toNat Qf.z).Log) ((a0.getD Zw.toNat Qf.z).Qw) H
     replace H:=sF c3 H
     rw [decide_eq_false c3]
     refine Qi hT 7 (K12 111111 1) ⟨61,[(2,.i Wy)],[Yl v1.1]⟩ ?_
     obtain rfl:=Zb H
     exact Yr hf hX h0 (.i Wy) [] an (.d (.v _))
    intro v2 Qa6 Qcg Qaj Yq Xx Zz Qaf Qag Js Qah Qai Qam Qan H
    refine Qi hT 5 (K12 1111101001100111001 0) ⟨61,[(3,.own 0 9 0 v1.1.length),(5,.i Qa6),(7,.ptr 1 0 0 0),(8,.i v2),(18,.d (Ju t0 a0)),(19,.i (a0.length:Int)),(20,.i Qcg),(26,.own 0 9 0 v1.1.length),(27,.i (v1.1.length:Int)),(28,.i Qaj),(29,.b (decide (Qaj < (v1.1.length:Int))))],[Yl v1.1,.box 44 (Wh.q1 Yq Xx Zz Qaf Qag Js Qah Qai Qam Qan)]⟩ ?_
    by_cases c6:Qaj < (v1.1.length:Int)
    ·replace H:=sT c6 H
     rw [decide_eq_true c6]
     refine Qi hT 2 (K12 1111101001100111001 1) ⟨61,[(3,.own 0 9 0 v1.1.length),(5,.i Qa6),(7,.ptr 1 0 0 0),(8,.i v2),(18,.d (Ju t0 a0)),(19,.i (a0.length:Int)),(20,.i Qcg),(26,.own 0 9 0 v1.1.length),(27,.i (v1.1.length:Int)),(28,.i Qaj)],[Yl v1.1,.box 44 (Wh.q1 Yq Xx Zz Qaf Qag Js Qah Qai Qam Qan)]⟩ ?_
     refine Qi hT 4 (K12 11111010011001110011000 0) ⟨61,[(3,.own 0 9 0 v1.1.length),(5,.i Qa6),(7,.ptr 1 0 0 0),(8,.i v2),(18,.d (Ju t0 a0)),(19,.i (a0.length:Int)),(20,.i Qcg),(26,.own 0 9 0 v1.1.length),(27,.i (v1.1.length:Int)),(28,.i Qaj)],[Yl v1.1,.box 44 (Wh.q1 Yq Xx Zz Qaf Qag Js Qah Qai Qam Qan)]⟩ ?_
     obtain ⟨h7,H⟩:=sC H
     have Zl:∀ (Qro:Bool),stk (Wh.j1 Qa6 Qcg Qaj Yq Xx Zz Qaf Qag Js Qah Qai Qam Qan v2 Qro) (iter (Wh.step a0 v1) n)=some r->AK X 12 ((K12 11111010011001110011001 1)) (Jb X [] (.i r)) ⟨61,[(3,.own 0 9 0 v1.1.length),(5,.i Qa6),(7,.ptr 1 0 0 0),(8,.i v2),(18,.d (Ju t0 a0)),(19,.i (a0.length:Int)),(20,.i Qcg),(26,.own 0 9 0 v1.1.length),(27,.i (v1.1.length:Int)),(28,.i Qaj),(55,.b Qro)],[Yl v1.1,.box 44 (Wh.q1 Yq Xx Zz Qaf Qag Js Qah Qai Qam Qan)]⟩:=by
      intro Qro H
      have Jj2:∀ (Qo4:Int),stk (Wh.j2 Qcg Qaj Yq Xx Zz Qaf Qag Js Qah Qai Qam Qan v2 Qo4) (iter (Wh.step a0 v1) n)=some r->AK X 12 ((K12 11111010011001110011 1)) (Jb X [] (.i r)) ⟨61,[(3,.own 0 9 0 v1.1.length),(5,.i Qo4),(7,.ptr 1 0 0 0),(8,.i v2),(18,.d (Ju t0 a0)),(19,.i (a0.length:Int)),(20,.i Qcg),(26,.own 0 9 0 v1.1.length),(27,.i (v1.1.length:Int)),(28,.i Qaj)],[Yl v1.1,.box 44 (Wh.q1 Yq Xx Zz Qaf Qag Js Qah Qai Qam Qan)]⟩:=by
       intro Qo4 H
       refine Qi hT 5 (K12 11111010011001110 0) ⟨61,[(3,.own 0 9 0 v1.1.length),(5,.i Qo4),(7,.ptr 1 0 0 0),(8,.i v2),(18,.d (Ju t0 a0)),(19,.i (a0.length:Int)),(20,.i Qcg),(26,.own 0 9 0 v1.1.length),(27,.i (v1.1.length:Int)),(28,.i (IntKind.wrap .i64 (Qaj+1)))],[Yl v1.1,.box 44 (Wh.q1 Yq Xx Zz Qaf Qag Js Qah Qai Qam Qan)]⟩ ?_
       exact ih.2 v2 Qo4 Qcg (IntKind.wrap .i64 (Qaj+1)) Yq Xx Zz Qaf Qag Js Qah Qai Qam Qan H
      by_cases c14:Qro=true
      ·replace H:=sT c14 H
       rw [c14]
       refine Qi hT 7 (K12 11111010011001110011 1) ⟨61,[(3,.own 0 9 0 v1.1.length),(5,.i (IntKind.wrap .i64 (Qa6+1))),(7,.ptr 1 0 0 0),(8,.i v2),(18,.d (Ju t0 a0)),(19,.i (a0.length:Int)),(20,.i Qcg),(26,.own 0 9 0 v1.1.length),(27,.i (v1.1.length:Int)),(28,.i Qaj)],[Yl v1.1,.box 44 (Wh.q1 Yq Xx Zz Qaf Qag Js Qah Qai Qam Qan)]⟩ ?_
       exact Jj2 (IntKind.wrap .i64 (Qa6+1)) H
      replace H:=sF c14 H
      rw [boF c14]
      refine Qi hT 3 (K12 11111010011001110011 1) ⟨61,[(3,.own 0 9 0 v1.1.length),(5,.i Qa6),(7,.ptr 1 0 0 0),(8,.i v2),(18,.d (Ju t0 a0)),(19,.i (a0.length:Int)),(20,.i Qcg),(26,.own 0 9 0 v1.1.length),(27,.i (v1.1.length:Int)),(28,.i Qaj)],[Yl v1.1,.box 44 (Wh.q1 Yq Xx Zz Qaf Qag Js Qah Qai Qam Qan)]⟩ ?_
      exact Jj2 Qa6 H
     refine Qa7 hT [3,5,7,8,18,19,20,26,27,28,30] (i:=Qaj) (n:=(v1.1.length:Int)) h7.1 h7.2 (k':=(K12 11111010011001110011000 1)) (st':=⟨61,[(3,.own 0 9 0 v1.1.length),(5,.i Qa6),(7,.ptr 1 0 0 0),(8,.i v2),(18,.d (Ju t0 a0)),(19,.i (a0.length:Int)),(20,.i Qcg),(26,.own 0 9 0 v1.1.length),(27,.i (v1.1.length:Int)),(28,.i Qaj),(30,.ptr 0 9 Qaj.toNat 0)],[Yl v1.1,.box 44 (Wh.q1 Yq Xx Zz Qaf Qag Js Qah Qai Qam Qan)]⟩) (by kernel_rfl) ?_
     refine Qmo hT [3,5,7,8,18,19,20,26,27,28,31] (i:=Qaj.toNat) (n:=v1.1.length) (ltN h7.1 h7.2) (k':=(K12 11111010011001110011000 2)) (st':=⟨61,[(3,.own 0 9 0 v1.1.length),(5,.i Qa6),(7,.ptr 1 0 0 0),(8,.i v2),(18,.d (Ju t0 a0)),(19,.i (a0.length:Int)),(20,.i Qcg),(26,.own 0 9 0 v1.1.length),(27,.i (v1.1.length:Int)),(28,.i Qaj),(31,.d (Qd2 (Wh.q2 v1 Qaj)))],[Yl v1.1,.box 44 (Wh.q1 Yq Xx Zz Qaf Qag Js Qah Qai Qam Qan)]⟩) (by kernel_rfl) ?_
     refine Qi hT 4 (K12 11111010011001110011001 0) ⟨61,[(3,.own 0 9 0 v1.1.length),(5,.i Qa6),(7,.ptr 1 0 0 0),(8,.i v2),(10,.ptr 2 0 0 0),(18,.d (Ju t0 a0)),(19,.i (a0.length:Int)),(20,.i Qcg),(26,.own 0 9 0 v1.1.length),(27,.i (v1.1.length:Int)),(28,.i Qaj)],[Yl v1.1,.box 44 (Wh.q1 Yq Xx Zz Qaf Qag Js Qah Qai Qam Qan),.box 50 (Qbl (Wh.q2 v1 Qaj))]⟩ ?_
     by_cases c8:Js=true
     ·replace H:=sT c8 H
      refine Qbt (hP▸mixed) 24 [3,5,7,8,10,18,19,20,26,27,28] (sm [.ptr 1 0 0 5,.b true,.b false,.b false,.Qq [],.Qq [],.Qq [],.Qq [],.b false,.b false,.Qq [],.Qq [],.Qq [],.Qq [],.Qq [],.Qq [],.Qq [],.b false,.b false,.Qq [],.Qq [],.Qq [],.Qq [],.b false]) (Qg (Qg (Qg (Qg (Qg (Qg (Qg (Qg (Qg (Qg (Qg (Qg (Qg (Qg (Qg (Qg (Qg (Qg (Qg (Qg (Qg (Qg (opV (Qg op0 hT) hT 33 (.b Js) (.b true) (by rw [c8]<;>rfl)) hT) hT) hT) hT) hT) hT) hT) hT) hT) hT) hT) hT) hT) hT) hT) hT) hT) hT) hT) hT) hT) hT) ?_
      refine Yi hT 1 (K12 11111010011001110011001 1) [0,1] ⟨61,[(3,.own 0 9 0 v1.1.length),(5,.i Qa6),(7,.ptr 1 0 0 0),(8,.i v2),(18,.d (Ju t0 a0)),(19,.i (a0.length:Int)),(20,.i Qcg),(26,.own 0 9 0 v1.1.length),(27,.i (v1.1.length:Int)),(28,.i Qaj),(55,.b false)],[Yl v1.1,.box 44 (Wh.q1 Yq Xx Zz Qaf Qag Js Qah Qai Qam Qan)]⟩ h0 ?_
      exact Zl false H
     replace H:=sF c8 H
     by_cases c9:((Wh.q2 v1 Qaj).Time)<=v2
     ·replace H:=sT c9 H
      obtain ⟨v3,h10,H⟩:=sbC H
      obtain ⟨v4,h11,H⟩:=sbC H
      by_cases c12:v4=true
      ·replace H:=sT c12 H
       obtain ⟨v5,h13,H⟩:=sbC H
       refine Qfn (nt:=61) (hP▸mixed) 24 [15,16] [3,5,7,8,10,18,19,20,26,27,28] [(3,.own 0 9 0 v1.1.length),(5,.i Qa6),(7,.ptr 1 0 0 0),(8,.i v2),(10,.ptr 2 0 0 0),(18,.d (Ju t0 a0)),(19,.i (a0.length:Int)),(20,.i Qcg),(26,.own 0 9 0 v1.1.length),(27,.i (v1.1.length:Int)),(28,.i Qaj)] (sm [.ptr 1 0 0 5,.b false,.b true,.b true,.ptr 2 0 0 7,.i ((Wh.q2 v1 Qaj).Time),.i v2,.b true,.b true,.b true,.ptr 2 0 0 0,.d (Qaq ((Wh.q2 v1 Qaj).M)),.d (Xf true v3),.ptr 1 0 0 1,.d (.agg [.i Xx,.i Zz]),.own 3 2 0 1,.b true,.b true,.b true,.d (.agg [.i Yq,.i Xx,.i Zz,.i Qaf,.b Qag,.b Js,Qcx true Qah,Xj true Qai,Zy true Qam,Qb0 true Qan]),.d (Qd2 (Wh.q2 v1 Qaj)),.b v5,.b (!v5),.b (!v5)]) [[Yl v1.1,.box 44 (Wh.q1 Yq Xx Zz Qaf Qag Js Qah Qai Qam Qan),.box 50 (Qbl (Wh.q2 v1 Qaj))],[Yl v1.1,.box 44 (Wh.q1 Yq Xx Zz Qaf Qag Js Qah Qai Qam Qan),.box 50 (Qbl (Wh.q2 v1 Qaj)),.flat false 2 39 1 (fun j=>[[.i Xx,.i Zz]].getD j [])],[Yl v1.1,.box 44 (Wh.q1 Yq Xx Zz Qaf Qag Js Qah Qai Qam Qan),.box 50 (Qbl (Wh.q2 v1 Qaj)),Qhj ([(⟨Xx,Zz⟩:Qb)]:List Qb)]] (by kernel_rfl) (by kernel_rfl) (by kernel_rfl) (by kernel_rfl) ⟨?_,(Ql0 hT),⟨?_,(fun R rest h=>Qi9 3 (kk:=2) (fz:=false) (ty:=39) (n:=([(⟨Xx,Zz⟩:Qb)]:List Qb).length) (vec Qb.e Qb.z ([(⟨Xx,Zz⟩:Qb)]:List Qb)) (by kernel_rfl) Qhx rfl ((fun R rest h=>Qeg 3 (kk:=2) (n:=([(⟨Xx,Zz⟩:Qb)]:List Qb).length) (ty:=39) (g:=vec Qb.e Qb.z ([(⟨Xx,Zz⟩:Qb)]:List Qb)) (by kernel_rfl) rfl ((fun R rest h=>Jz (Xw:=[.d (Xf true v3),.own 3 2 0 1]) (dst:=some 48) hP Qpz (by have q:=Qdc.Wl (t0:=true) (t1:=true) v3 ([(⟨Xx,Zz⟩:Qb)]:List Qb) h11;rw [c12] at q;exact q) (by kernel_rfl) (.cons (Qn _) (.cons (.Qd4 (ty:=39) (by kernel_rfl) rfl) .nil)) (by kernel_rfl) h) R rest h)) R rest h)),?_⟩⟩ ?_
       iterate 3 exact (Ya (Ya (Qik (Ya (Ya (Ya (Ya (Qil (Qil (Ya (Ya (Qik (Ya (Ya (Ya (Ya (Qku (Ya (Ya (Ya (Ya (Ya (Qku (Ya Qmf hT) hT 33 (.b Js) (.b false) (by rw [boF c8]<;>rfl)) hT) hT) hT) hT) hT) hT 39 (.b (decide (((Wh.q2 v1 Qaj).Time)<=v2))) (.b true) (by rw [decide_eq_true c9]<;>rfl)) hT) hT) hT) hT) (fun R rest h=>Jz (Xw:=[.d (Qaq ((Wh.q2 v1 Qaj).M))]) (dst:=some 44) hP Qp0 (Qa0.Wl ((Wh.q2 v1 Qaj).M) h10) (by kernel_rfl) (.cons (Qn _) .nil) (by kernel_rfl) h)) hT) hT))) hT) hT) hT) hT) (fun R rest h=>Jz (Xw:=[.d (.agg [.i Yq,.i Xx,.i Zz,.i Qaf,.b Qag,.b Js,Qcx true Qah,Xj true Qai,Zy true Qam,Qb0 true Qan]),.d (Qd2 (Wh.q2 v1 Qaj))]) (dst:=some 53) hP Wdn (Qgs.Wl (⟨Yq,(⟨Xx,Zz⟩:Qb),Qaf,Qag,Js,Qah,Qai,Qam,Qan⟩:Qf) (Wh.q2 v1 Qaj) h13) (by kernel_rfl) (.cons (Qn _) (.cons (Qn _) .nil)) (by kernel_rfl) h)) hT) hT)
       refine Yi hT 1 (K12 11111010011001110011001 1) [0,1] ⟨61,[(3,.own 0 9 0 v1.1.length),(5,.i Qa6),(7,.ptr 1 0 0 0),(8,.i v2),(18,.d (Ju t0 a0)),(19,.i (a0.length:Int)),(20,.i Qcg),(26,.own 0 9 0 v1.1.length),(27,.i (v1.1.length:Int)),(28,.i Qaj),(55,.b (!v5))],[Yl v1.1,.box 44 (Wh.q1 Yq Xx Zz Qaf Qag Js Qah Qai Qam Qan)]⟩ h0 ?_
       exact Zl (!v5) H
      replace H:=sF c12 H
      refine Qfn (nt:=61) (hP▸mixed) 24 [15,16] [3,5,7,8,10,18,19,20,26,27,28] [(3,.own 0 9 0 v1.1.length),(5,.i Qa6),(7,.ptr 1 0 0 0),(8,.i v2),(10,.ptr 2 0 0 0),(18,.d (Ju t0 a0)),(19,.i (a0.length:Int)),(20,.i Qcg),(26,.own 0 9 0 v1.1.length),(27,.i (v1.1.length:Int)),(28,.i Qaj)] (sm [.ptr 1 0 0 5,.b false,.b true,.b true,.ptr 2 0 0 7,.i ((Wh.q2 v1 Qaj).Time),.i v2,.b true,.b true,.b true,.ptr 2 0 0 0,.d (Qaq ((Wh.q2 v1 Qaj).M)),.d (Xf true v3),.ptr 1 0 0 1,.d (.agg [.i Xx,.i Zz]),.own 3 2 0 1,.b false,.b false,.b false,.Qq [],.Qq [],.Qq [],.Qq [],.b false]) [[Yl v1.1,.box 44 (Wh.q1 Yq Xx Zz Qaf Qag Js Qah Qai Qam Qan),.box 50 (Qbl (Wh.q2 v1 Qaj))],[Yl v1.1,.box 44 (Wh.q1 Yq Xx Zz Qaf Qag Js Qah Qai Qam Qan),.box 50 (Qbl (Wh.q2 v1 Qaj)),.flat false 2 39 1 (fun j=>[[.i Xx,.i Zz]].getD j [])],[Yl v1.1,.box 44 (Wh.q1 Yq Xx Zz Qaf Qag Js Qah Qai Qam Qan),.box 50 (Qbl (Wh.q2 v1 Qaj)),Qhj ([(⟨Xx,Zz⟩:Qb)]:List Qb)]] (by kernel_rfl) (by kernel_rfl) (by kernel_rfl) (by kernel_rfl) ⟨?_,(Ql0 hT),⟨?_,(fun R rest h=>Qi9 3 (kk:=2) (fz:=false) (ty:=39) (n:=([(⟨Xx,Zz⟩:Qb)]:List Qb).length) (vec Qb.e Qb.z ([(⟨Xx,Zz⟩:Qb)]:List Qb)) (by kernel_rfl) Qhx rfl ((fun R rest h=>Qeg 3 (kk:=2) (n:=([(⟨Xx,Zz⟩:Qb)]:List Qb).length) (ty:=39) (g:=vec Qb.e Qb.z ([(⟨Xx,Zz⟩:Qb)]:List Qb)) (by kernel_rfl) rfl ((fun R rest h=>Jz (Xw:=[.d (Xf true v3),.own 3 2 0 1]) (dst:=some 48) hP Qpz (by have q:=Qdc.Wl (t0:=true) (t1:=true) v3 ([(⟨Xx,Zz⟩:Qb)]:List Qb) h11;rw [boF c12] at q;exact q) (by kernel_rfl) (.cons (Qn _) (.cons (.Qd4 (ty:=39) (by kernel_rfl) rfl) .nil)) (by kernel_rfl) h) R rest h)) R rest h)),?_⟩⟩ ?_
      iterate 3 exact (Ya (Ya (Ya (Ya (Ya (Ya (Ya (Qil (Qil (Ya (Ya (Qik (Ya (Ya (Ya (Ya (Qku (Ya (Ya (Ya (Ya (Ya (Qku (Ya Qmf hT) hT 33 (.b Js) (.b false) (by rw [boF c8]<;>rfl)) hT) hT) hT) hT) hT) hT 39 (.b (decide (((Wh.q2 v1 Qaj).Time)<=v2))) (.b true) (by rw [decide_eq_true c9]<;>rfl)) hT) hT) hT) hT) (fun R rest h=>Jz (Xw:=[.d (Qaq ((Wh.q2 v1 Qaj).M))]) (dst:=some 44) hP Qp0 (Qa0.Wl ((Wh.q2 v1 Qaj).M) h10) (by kernel_rfl) (.cons (Qn _) .nil) (by kernel_rfl) h)) hT) hT))) hT) hT) hT) hT) hT) hT) hT)
      refine Yi hT 1 (K12 11111010011001110011001 1) [0,1] ⟨61,[(3,.own 0 9 0 v1.1.length),(5,.i Qa6),(7,.ptr 1 0 0 0),(8,.i v2),(18,.d (Ju t0 a0)),(19,.i (a0.length:Int)),(20,.i Qcg),(26,.own 0 9 0 v1.1.length),(27,.i (v1.1.length:Int)),(28,.i Qaj),(55,.b false)],[Yl v1.1,.box 44 (Wh.q1 Yq Xx Zz Qaf Qag Js Qah Qai Qam Qan)]⟩ h0 ?_
      exact Zl false H
     replace H:=sF c9 H
     refine Qbt (hP▸mixed) 24 [3,5,7,8,10,18,19,20,26,27,28] (sm [.ptr 1 0 0 5,.b false,.b true,.b true,.ptr 2 0 0 7,.i ((Wh.q2 v1 Qaj).Time),.i v2,.b false,.b false,.b false,.Qq [],.Qq [],.Qq [],.Qq [],.Qq [],.Qq [],.Qq [],.b false,.b false,.Qq [],.Qq [],.Qq [],.Qq [],.b false]) (Qg (Qg (Qg (Qg (Qg (Qg (Qg (Qg (Qg (Qg (Qg (Qg (Qg (Qg (Qg (Qg (opV (Qg (Qg (Qg (Qg (Qg (opV (Qg op0 hT) hT 33 (.b Js) (.b false) (by rw [boF c8]<;>rfl)) hT) hT) hT) hT) hT) hT 39 (.b (decide (((Wh.q2 v1 Qaj).Time)<=v2))) (.b false) (by rw [decide_eq_false c9]<;>rfl)) hT) hT) hT) hT) hT) hT) hT) hT) hT) hT) hT) hT) hT) hT) hT) hT) ?_
     refine Yi hT 1 (K12 11111010011001110011001 1) [0,1] ⟨61,[(3,.own 0 9 0 v1.1.length),(5,.i Qa6),(7,.ptr 1 0 0 0),(8,.i v2),(18,.d (Ju t0 a0)),(19,.i (a0.length:Int)),(20,.i Qcg),(26,.own 0 9 0 v1.1.length),(27,.i (v1.1.length:Int)),(28,.i Qaj),(55,.b false)],[Yl v1.1,.box 44 (Wh.q1 Yq Xx Zz Qaf Qag Js Qah Qai Qam Qan)]⟩ h0 ?_
     exact Zl false H
    replace H:=sF c6 H
    rw [decide_eq_false c6]
    refine Yi hT 8 (K12 11111010 0) [0] ⟨61,[(3,.own 0 9 0 v1.1.length),(5,.i Qa6),(18,.d (Ju t0 a0)),(19,.i (a0.length:Int)),(20,.i (IntKind.wrap .i64 (Qcg+1)))],[Yl v1.1]⟩ h0 ?_
    exact ih.1 Qa6 (IntKind.wrap .i64 (Qcg+1)) H
  obtain ⟨n,H⟩:=Qcn H
  exact (L n).1 0 0 H
 replace H:=iF c2 H
 rw [neT c2]
 refine Qi hT 5 (K12 111010 1) ⟨61,[(2,.i (-1))],[Yl v1.1]⟩ ?_
 obtain rfl:=Zb H
 exact Yr hf hX h0 (.i (-1)) [] an (.d (.v _))
abbrev Qp.p0 (t0:Bool) (a0:List Qf):List (Nat × AV):=[(0,.d (Ju t0 a0))]
theorem Qp.Wl {t0:Bool} (a0:List Qf) {r:Bool} (H:Qp a0=some r):Yn Tryz.prog 4 [] [.d (Ju t0 a0)] [] (.b r):=by
 refine Xt Tryz.func4 rfl (nt:=88) rfl (lb rfl) fun X hP h0 hX=>?_
 have hT:Xl X.P T:=hP▸tok
 have hf:X.P.funcs[4]? = some Tryz.f4:=hP▸Tryz.func4
 have Zl:∀ (Qrb:Bool),(Qp.j1 a0 Qrb)=some r->AK X 4 ((K4 110 1)) (Jb X [] (.b r)) ⟨88,(Qp.p0 t0 a0++[(18,.b Qrb)]),[]⟩:=by
  intro Qrb H
  by_cases c3:Qrb=true
  ·replace H:=iT c3 H
   rw [c3]
   refine Qi hT 3 (K4 110100 0) ⟨88,[],[]⟩ ?_
   obtain ⟨v2,h4,H⟩:=ibC H
   refine Wj (Xw:=[]) (dst:=some 19) (k':=(K4 110100 1)) [19] [] hP Qw2 (Qk.Wl h4) (by kernel_rfl) (Qz _) .nil (st':=⟨88,[(19,.b v2)],[]⟩) (by kernel_rfl) ?_
   refine Qi hT 2 (K4 11010 1) ⟨88,[(2,.b v2)],[]⟩ ?_
   obtain rfl:=Zb H
   exact Yr hf hX h0 (.b v2) [] an (.d (.v _))
  replace H:=iF c3 H
  rw [boF c3]
  refine Qi hT 2 (K4 11 1) ⟨88,(Qp.p0 t0 a0),[]⟩ ?_
  refine Qi hT 14 (K4 1111010 0) ⟨88,(Qp.p0 t0 a0++[(3,.ns),(4,.i (IntKind.wrap .i64 ((a0.length:Int) - 1)))]),[]⟩ ?_
  refine Qe8 [0,3,4] 3 10 44 (vec Qf.e Qf.z []) (st':=⟨88,(Qp.p0 t0 a0++[(3,.own 0 10 0 0),(4,.i (IntKind.wrap .i64 ((a0.length:Int) - 1)))]),[Qaw ([]:List Qf)]⟩) (by kernel_rfl) (by kernel_rfl) ?_
  have L:∀ n,(∀ (Yb:Int) (Qh:List Qf),iter (Qp.step a0) n (.l1 Yb Qh)=some r->AK X 4 ((K4 1111010 0)) (Jb X [] (.b r)) ⟨88,(Qp.p0 t0 a0++[(3,.own 0 10 0 Qh.length),(4,.i Yb)]),[Qaw Qh]⟩):=by
   intro n
   induction n with
   | zero=>exact fun _ _ H=>Qbx H
   | succ n ih=>
    ·intro Yb Qh H
     refine Qi hT 6 (K4 111101000 1) ⟨88,(Qp.p0 t0 a0++[(3,.own 0 10 0 Qh.length),(4,.i Yb),(24,.b (decide (Yb>=0)))]),[Qaw Qh]⟩ ?_
     by_cases c5:Yb>=0
     ·replace H:=sT c5 H
      rw [decide_eq_true c5]
      refine Qi hT 2 (K4 11110100 1) ⟨88,(Qp.p0 t0 a0++[(3,.own 0 10 0 Qh.length),(4,.i Yb)]),[Qaw Qh]⟩ ?_
      refine Qi hT 6 (K4 11110100100 3) ⟨88,(Qp.p0 t0 a0++[(4,.i Yb),(27,.own 0 10 0 Qh.length),(28,.d (Ju t0 a0)),(29,.i Yb)]),[Qaw Qh]⟩ ?_
      obtain ⟨h30,H⟩:=sC H
      refine Qa7 hT [0,4,27,30] (i:=Yb) (n:=(a0.length:Int)) h30.1 h30.2 (k':=(K4 11110100100 4)) (st':=⟨88,(Qp.p0 t0 a0++[(4,.i Yb),(27,.own 0 10 0 Qh.length),(30,.d (Qw0 t0 a0 Yb.toNat 0))]),[Qaw Qh]⟩) (by kernel_rfl) ?_
      refine Qi hT 2 (K4 11110100100 6) ⟨88,(Qp.p0 t0 a0++[(4,.i Yb),(27,.own 0 10 0 Qh.length),(32,.own 1 10 0 1)]),[Qaw Qh,.flat false 10 44 1 (fun j=>[Qf.e (a0.getD Yb.toNat Qf.z)].getD j [])]⟩ ?_
      obtain ⟨h31,H⟩:=sC H
      refine Qe1 (id:=0) (kk:=10) (by':=136) (t:=22) (e:=44) (z:=[.int .i64 0,.int .i64 0,.int .i64 0,.int .i64 0,.bool false,.bool false,.slice none 0 0,.slice none 0 0,.slice none 0 0,.slice none 0 0]) (dst:=some 33) (id2:=1) (e2:=44) (fz:=false) (k':=(K4 11110100100 7)) hT Qf.e Qf.z Qh (a0.getD Yb.toNat Qf.z) [0,4,33] (by kernel_rfl) (by kernel_rfl) (by kernel_rfl) (by kernel_rfl) (by kernel_rfl) (by kernel_rfl) (by kernel_rfl) h31 (by omega) (st':=⟨88,(Qp.p0 t0 a0++[(4,.i Yb),(33,.own 2 10 0 ((Qh ++ [a0.getD Yb.toNat Qf.z]).length))]),[.gone,.flat false 10 44 1 (fun j=>[Qf.e (a0.getD Yb.toNat Qf.z)].getD j []),Qaw (Qh ++ [a0.getD Yb.toNat Qf.z])]⟩) (by kernel_rfl) ?_
      refine Yi hT 9 (K4 1111010 0) [2] ⟨88,(Qp.p0 t0 a0++[(3,.own 0 10 0 (Qh ++ [a0.getD Yb.toNat Qf.z]).length),(4,.i (IntKind.wrap .i64 (Yb - 1)))]),[Qaw (Qh ++ [a0.getD Yb.toNat Qf.z])]⟩ h0 ?_
      exact ih (IntKind.wrap .i64 (Yb - 1)) (Qh ++ [a0.getD Yb.toNat Qf.z]) H
     replace H:=sF c5 H
     rw [decide_eq_false c5]
     refine Qi hT 5 (K4 111110 1) ⟨88,(Qp.p0 t0 a0++[(3,.own 0 10 0 Qh.length),(35,.d (Ju t0 a0))]),[Qaw Qh]⟩ ?_
     obtain ⟨v3,h6,H⟩:=sbC H
     refine Wj (Xw:=[.d (Ju t0 a0)]) (dst:=some 36) (k':=(K4 111110 2)) [0,3,36] [] hP Qod (Qm.Wl (t0:=t0) a0 h6) (by kernel_rfl) (Qz _) (.cons (Qn _) .nil) (st':=⟨88,(Qp.p0 t0 a0++[(3,.own 0 10 0 Qh.length),(36,.Qq [.own 1 9 0 v3.1.length,.i v3.2])]),[Qaw Qh,Yl v3.1]⟩) (by kernel_rfl) ?_
     refine Qi hT 9 (K4 1111110 1) ⟨88,(Qp.p0 t0 a0++[(3,.own 0 10 0 Qh.length),(5,.own 1 9 0 v3.1.length),(6,.i v3.2),(40,.own 0 10 0 Qh.length)]),[Qaw Qh,Yl v3.1]⟩ ?_
     obtain ⟨v4,h7,H⟩:=sbC H
     have Jj2:∀ (Qng:Bool),stk (Qp.j2 a0 Qh v3 v4 Qng) (iter (Qp.step a0) n)=some r->AK X 4 ((K4 11111110 1)) (Jb X [] (.b r)) ⟨88,(Qp.p0 t0 a0++[(3,.own 0 10 0 Qh.length),(5,.own 1 9 0 v3.1.length),(6,.i v3.2),(7,.own 2 9 0 v4.1.length),(55,.b Qng)]),[Qaw Qh,Yl v3.1,Yl v4.1]⟩:=by
      intro Qng H
      by_cases c15:Qng=true
      ·replace H:=sT c15 H
       rw [c15]
       refine Qi hT 5 (K4 1111111010 1) ⟨88,[(2,.b false)],[Qaw Qh,Yl v3.1,Yl v4.1]⟩ ?_
       obtain rfl:=Zb H
       exact Yr hf hX h0 (.b false) [] an (.d (.v _))
      replace H:=sF c15 H
      rw [boF c15]
      refine Qi hT 2 (K4 1111111 1) ⟨88,(Qp.p0 t0 a0++[(3,.own 0 10 0 Qh.length),(5,.own 1 9 0 v3.1.length),(6,.i v3.2),(7,.own 2 9 0 v4.1.length)]),[Qaw Qh,Yl v3.1,Yl v4.1]⟩ ?_
      refine Qi hT 2 (K4 111111110 0) ⟨88,(Qp.p0 t0 a0++[(3,.own 0 10 0 Qh.length),(5,.own 1 9 0 v3.1.length),(6,.i v3.2),(7,.own 2 9 0 v4.1.length)]),[Qaw Qh,Yl v3.1,Yl v4.1]⟩ ?_
      refine Quv hT [0,3,5,6,7,57] (vec Qf.e Qf.z []) (e:=44) (s:=10) (dst:=some 57) (k':=(K4 111111110 1)) (by kernel_rfl) (st':=⟨88,(Qp.p0 t0 a0++[(3,.own 0 10 0 Qh.length),(5,.own 1 9 0 v3.1.length),(6,.i v3.2),(7,.own 2 9 0 v4.1.length),(57,.own 3 10 0 (([]:List Qf).length))]),[Qaw Qh,Yl v3.1,Yl v4.1,Qaw ([]:List Qf)]⟩) (by kernel_rfl) ?_
      refine Qi hT 1 (K4 111111110 2) ⟨88,[(3,.own 0 10 0 Qh.length),(5,.own 1 9 0 v3.1.length),(6,.i v3.2),(7,.own 2 9 0 v4.1.length),(57,.own 3 10 0 (([]:List Qf).length)),(58,.d (Ju t0 a0))],[Qaw Qh,Yl v3.1,Yl v4.1,Qaw ([]:List Qf)]⟩ ?_
      obtain ⟨h16,H⟩:=sC H
      refine Qn9 (id:=3) (kk:=10) (by':=136) (t:=22) (e:=44) (z:=[.int .i64 0,.int .i64 0,.int .i64 0,.int .i64 0,.bool false,.bool false,.slice none 0 0,.slice none 0 0,.slice none 0 0,.slice none 0 0]) (dst:=some 59) (k':=(K4 111111110 3)) (x:=.d (Ju t0 a0)) hT Qf.e Qf.z ([]:List Qf) a0 [3,5,6,7,59] (by kernel_rfl) (by kernel_rfl) (.sl fun _ _=>rfl) (by kernel_rfl) (by kernel_rfl) (by kernel_rfl) (by kernel_rfl) h16 (by omega) (st':=⟨88,[(3,.own 0 10 0 Qh.length),(5,.own 1 9 0 v3.1.length),(6,.i v3.2),(7,.own 2 9 0 v4.1.length),(59,.own 4 10 0 ((([]:List Qf) ++ a0).length))],[Qaw Qh,Yl v3.1,Yl v4.1,.gone,Qaw (([]:List Qf) ++ a0)]⟩) (by kernel_rfl) ?_
      refine Qi hT 1 (K4 111111110 4) ⟨88,[(5,.own 1 9 0 v3.1.length),(6,.i v3.2),(7,.own 2 9 0 v4.1.length),(59,.own 4 10 0 ((([]:List Qf) ++ a0).length)),(60,.own 0 10 0 Qh.length)],[Qaw Qh,Yl v3.1,Yl v4.1,.gone,Qaw (([]:List Qf) ++ a0)]⟩ ?_
      obtain ⟨h17,H⟩:=sC H
      refine Qn9 (id:=4) (kk:=10) (by':=136) (t:=22) (e:=44) (z:=[.int .i64 0,.int .i64 0,.int .i64 0,.int .i64 0,.bool false,.bool false,.slice none 0 0,.slice none 0 0,.slice none 0 0,.slice none 0 0]) (dst:=some 61) (k':=(K4 111111110 5)) (x:=.own 0 10 0 Qh.length) hT Qf.e Qf.z (([]:List Qf) ++ a0) Qh [5,6,7,61] (by kernel_rfl) (by kernel_rfl) (.own (fz:=false) (e:=44) (by kernel_rfl)) (by kernel_rfl) (by kernel_rfl) (by kernel_rfl) (by kernel_rfl) h17 (by omega) (st':=⟨88,[(5,.own 1 9 0 v3.1.length),(6,.i v3.2),(7,.own 2 9 0 v4.1.length),(61,.own 5 10 0 (((([]:List Qf) ++ a0) ++ Qh).length))],[Qaw Qh,Yl v3.1,Yl v4.1,.gone,.gone,Qaw ((([]:List Qf) ++ a0) ++ Qh)]⟩) (by kernel_rfl) ?_
      obtain ⟨v9,h18,H⟩:=sbC H
      refine Wj (Xw:=[.own 5 10 0 (((([]:List Qf) ++ a0) ++ Qh).length)]) (dst:=some 62) (k':=(K4 111111110 6)) [5,6,7,62] [] hP Qod (Qm.Wl (t0:=false) ((([]:List Qf) ++ a0) ++ Qh) h18) (by kernel_rfl) (Qz _) (.cons (.Qd4 (ty:=44) (by kernel_rfl) rfl) .nil) (st':=⟨88,[(5,.own 1 9 0 v3.1.length),(6,.i v3.2),(7,.own 2 9 0 v4.1.length),(62,.Qq [.own 6 9 0 v9.1.length,.i v9.2])],[Qaw Qh,Yl v3.1,Yl v4.1,.gone,.gone,Qaw ((([]:List Qf) ++ a0) ++ Qh),Yl v9.1]⟩) (by kernel_rfl) ?_
      refine Qi hT 8 (K4 1111111110 0) ⟨88,[(5,.own 1 9 0 v3.1.length),(6,.i v3.2),(7,.own 2 9 0 v4.1.length),(9,.own 6 9 0 v9.1.length),(10,.i v9.2)],[Qaw Qh,Yl v3.1,Yl v4.1,.gone,.gone,Qaw ((([]:List Qf) ++ a0) ++ Qh),Yl v9.1]⟩ ?_
      obtain ⟨v10,h19,H⟩:=sbC H
      have Jj3:∀ (Qg7:Bool),stk (Qp.j3 Qg7) (iter (Qp.step a0) n)=some r->AK X 4 ((K4 111111111 1)) (Jb X [] (.b r)) ⟨88,[(2,.b Qg7)],[]⟩:=by
       intro Qg7 H
       obtain rfl:=Zb H
       exact Yr hf hX h0 (.b Qg7) [] an (.d (.v _))
      refine Wj (Xw:=[]) (dst:=some 65) (k':=(K4 1111111110 1)) [5,6,7,9,10,65] [] hP Qw2 (Qk.Wl h19) (by kernel_rfl) (Qz _) .nil (st':=⟨88,[(5,.own 1 9 0 v3.1.length),(6,.i v3.2),(7,.own 2 9 0 v4.1.length),(9,.own 6 9 0 v9.1.length),(10,.i v9.2),(65,.b v10)],[Qaw Qh,Yl v3.1,Yl v4.1,.gone,.gone,Qaw ((([]:List Qf) ++ a0) ++ Qh),Yl v9.1]⟩) (by kernel_rfl) ?_
      refine Qi hT 1 (K4 1111111110 2) ⟨88,[(5,.own 1 9 0 v3.1.length),(6,.i v3.2),(7,.own 2 9 0 v4.1.length),(9,.own 6 9 0 v9.1.length),(10,.i v9.2),(66,.b v10)],[Qaw Qh,Yl v3.1,Yl v4.1,.gone,.gone,Qaw ((([]:List Qf) ++ a0) ++ Qh),Yl v9.1]⟩ ?_
      by_cases c20:v10=true
      ·replace H:=sT c20 H
       rw [c20]
       refine Qi hT 3 (K4 1111111110 5) ⟨88,[(5,.own 1 9 0 v3.1.length),(7,.own 2 9 0 v4.1.length),(9,.own 6 9 0 v9.1.length),(10,.i v9.2),(66,.b true),(69,.b (v3.2 != 0))],[Qaw Qh,Yl v3.1,Yl v4.1,.gone,.gone,Qaw ((([]:List Qf) ++ a0) ++ Qh),Yl v9.1]⟩ ?_
       by_cases c21:v3.2=0
       ·replace H:=sT c21 H
        rw [neF c21]
        refine Qi hT 1 (K4 1111111110 6) ⟨88,[(5,.own 1 9 0 v3.1.length),(7,.own 2 9 0 v4.1.length),(9,.own 6 9 0 v9.1.length),(10,.i v9.2),(66,.b true),(69,.b false),(70,.own 1 9 0 v3.1.length)],[Qaw Qh,Yl v3.1,Yl v4.1,.gone,.gone,Qaw ((([]:List Qf) ++ a0) ++ Qh),Yl v9.1]⟩ ?_
        refine Qeg 1 (kk:=9) (n:=v3.1.length) (ty:=50) (g:=vec Qc.e Qc.z v3.1) (by kernel_rfl) (st':=⟨88,[(5,.own 1 9 0 v3.1.length),(7,.own 2 9 0 v4.1.length),(9,.own 6 9 0 v9.1.length),(10,.i v9.2),(66,.b true),(69,.b false),(70,.own 1 9 0 v3.1.length)],[Qaw Qh,Qfc v3.1,Yl v4.1,.gone,.gone,Qaw ((([]:List Qf) ++ a0) ++ Qh),Yl v9.1]⟩) (by kernel_rfl) ?_
        obtain ⟨v11,h22,H⟩:=sbC H
        refine Wj (Xw:=[.own 1 9 0 v3.1.length]) (dst:=some 71) (k':=(K4 1111111110 7)) [5,7,9,10,66,69,71] [] hP Qmr (Qbm.Wl v3.1 h22) (by kernel_rfl) (Qz _) (.cons (.Qd4 (ty:=50) (by kernel_rfl) rfl) .nil) (st':=⟨88,[(5,.own 1 9 0 v3.1.length),(7,.own 2 9 0 v4.1.length),(9,.own 6 9 0 v9.1.length),(10,.i v9.2),(66,.b true),(69,.b false),(71,.d (Qdv true v11))],[Qaw Qh,Qfc v3.1,Yl v4.1,.gone,.gone,Qaw ((([]:List Qf) ++ a0) ++ Qh),Yl v9.1]⟩) (by kernel_rfl) ?_
        refine Qi hT 1 (K4 1111111110 8) ⟨88,[(5,.own 1 9 0 v3.1.length),(9,.own 6 9 0 v9.1.length),(10,.i v9.2),(66,.b true),(69,.b false),(71,.d (Qdv true v11)),(72,.own 2 9 0 v4.1.length)],[Qaw Qh,Qfc v3.1,Yl v4.1,.gone,.gone,Qaw ((([]:List Qf) ++ a0) ++ Qh),Yl v9.1]⟩ ?_
        refine Qeg 2 (kk:=9) (n:=v4.1.length) (ty:=50) (g:=vec Qc.e Qc.z v4.1) (by kernel_rfl) (st':=⟨88,[(5,.own 1 9 0 v3.1.length),(9,.own 6 9 0 v9.1.length),(10,.i v9.2),(66,.b true),(69,.b false),(71,.d (Qdv true v11)),(72,.own 2 9 0 v4.1.length)],[Qaw Qh,Qfc v3.1,Qfc v4.1,.gone,.gone,Qaw ((([]:List Qf) ++ a0) ++ Qh),Yl v9.1]⟩) (by kernel_rfl) ?_
        obtain ⟨v12,h23,H⟩:=sbC H
        refine Wj (Xw:=[.own 2 9 0 v4.1.length]) (dst:=some 73) (k':=(K4 1111111110 9)) [5,9,10,66,69,71,73] [] hP Qmr (Qbm.Wl v4.1 h23) (by kernel_rfl) (Qz _) (.cons (.Qd4 (ty:=50) (by kernel_rfl) rfl) .nil) (st':=⟨88,[(5,.own 1 9 0 v3.1.length),(9,.own 6 9 0 v9.1.length),(10,.i v9.2),(66,.b true),(69,.b false),(71,.d (Qdv true v11)),(73,.d (Qdv true v12))],[Qaw Qh,Qfc v3.1,Qfc v4.1,.gone,.gone,Qaw ((([]:List Qf) ++ a0) ++ Qh),Yl v9.1]⟩) (by kernel_rfl) ?_
        obtain ⟨v13,h24,H⟩:=sbC H
        refine Wj (Xw:=[.d (Qdv true v11),.d (Qdv true v12)]) (dst:=some 74) (k':=(K4 1111111110 10)) [5,9,10,66,69,74] [] hP Quy (Yd.Wl (t0:=true) (t1:=true) v11 v12 h24) (by kernel_rfl) (Qz _) (.cons (Qn _) (.cons (Qn _) .nil)) (st':=⟨88,[(5,.own 1 9 0 v3.1.length),(9,.own 6 9 0 v9.1.length),(10,.i v9.2),(66,.b true),(69,.b false),(74,.b v13)],[Qaw Qh,Qfc v3.1,Qfc v4.1,.gone,.gone,Qaw ((([]:List Qf) ++ a0) ++ Qh),Yl v9.1]⟩) (by kernel_rfl) ?_
        refine Qi hT 1 (K4 1111111110 11) ⟨88,[(5,.own 1 9 0 v3.1.length),(9,.own 6 9 0 v9.1.length),(10,.i v9.2),(66,.b true),(69,.b false),(75,.b v13)],[Qaw Qh,Qfc v3.1,Qfc v4.1,.gone,.gone,Qaw ((([]:List Qf) ++ a0) ++ Qh),Yl v9.1]⟩ ?_
        by_cases c25:v13=true
        ·replace H:=sT c25 H
         rw [c25]
         refine Qi hT 4 (K4 1111111110 15) ⟨88,[(5,.own 1 9 0 v3.1.length),(9,.own 6 9 0 v9.1.length),(66,.b true),(69,.b false),(79,.b (v9.2 == 0))],[Qaw Qh,Qfc v3.1,Qfc v4.1,.gone,.gone,Qaw ((([]:List Qf) ++ a0) ++ Qh),Yl v9.1]⟩ ?_
         by_cases c26:v9.2=0
         ·replace H:=sT c26 H
          rw [eqT c26]
          refine Qi hT 1 (K4 1111111110 16) ⟨88,[(9,.own 6 9 0 v9.1.length),(66,.b true),(69,.b false),(79,.b true),(80,.own 1 9 0 v3.1.length)],[Qaw Qh,Qfc v3.1,Qfc v4.1,.gone,.gone,Qaw ((([]:List Qf) ++ a0) ++ Qh),Yl v9.1]⟩ ?_
          obtain ⟨v14,h27,H⟩:=sbC H
          refine Wj (Xw:=[.own 1 9 0 v3.1.length]) (dst:=some 81) (k':=(K4 1111111110 17)) [9,66,69,79,81] [] hP Qmr (Qbm.Wl v3.1 h27) (by kernel_rfl) (Qz _) (.cons (.Qd4 (ty:=50) (by kernel_rfl) rfl) .nil) (st':=⟨88,[(9,.own 6 9 0 v9.1.length),(66,.b true),(69,.b false),(79,.b true),(81,.d (Qdv true v14))],[Qaw Qh,Qfc v3.1,Qfc v4.1,.gone,.gone,Qaw ((([]:List Qf) ++ a0) ++ Qh),Yl v9.1]⟩) (by kernel_rfl) ?_
          refine Qi hT 1 (K4 1111111110 18) ⟨88,[(66,.b true),(69,.b false),(79,.b true),(81,.d (Qdv true v14)),(82,.own 6 9 0 v9.1.length)],[Qaw Qh,Qfc v3.1,Qfc v4.1,.gone,.gone,Qaw ((([]:List Qf) ++ a0) ++ Qh),Yl v9.1]⟩ ?_
          refine Qeg 6 (kk:=9) (n:=v9.1.length) (ty:=50) (g:=vec Qc.e Qc.z v9.1) (by kernel_rfl) (st':=⟨88,[(66,.b true),(69,.b false),(79,.b true),(81,.d (Qdv true v14)),(82,.own 6 9 0 v9.1.length)],[Qaw Qh,Qfc v3.1,Qfc v4.1,.gone,.gone,Qaw ((([]:List Qf) ++ a0) ++ Qh),Qfc v9.1]⟩) (by kernel_rfl) ?_
          obtain ⟨v15,h28,H⟩:=sbC H
          refine Wj (Xw:=[.own 6 9 0 v9.1.length]) (dst:=some 83) (k':=(K4 1111111110 19)) [66,69,79,81,83] [] hP Qmr (Qbm.Wl v9.1 h28) (by kernel_rfl) (Qz _) (.cons (.Qd4 (ty:=50) (by kernel_rfl) rfl) .nil) (st':=⟨88,[(66,.b true),(69,.b false),(79,.b true),(81,.d (Qdv true v14)),(83,.d (Qdv true v15))],[Qaw Qh,Qfc v3.1,Qfc v4.1,.gone,.gone,Qaw ((([]:List Qf) ++ a0) ++ Qh),Qfc v9.1]⟩) (by kernel_rfl) ?_
          obtain ⟨v16,h29,H⟩:=sbC H
          refine Wj (Xw:=[.d (Qdv true v14),.d (Qdv true v15)]) (dst:=some 84) (k':=(K4 1111111110 20)) [66,69,79,84] [] hP Quy (Yd.Wl (t0:=true) (t1:=true) v14 v15 h29) (by kernel_rfl) (Qz _) (.cons (Qn _) (.cons (Qn _) .nil)) (st':=⟨88,[(66,.b true),(69,.b false),(79,.b true),(84,.b v16)],[Qaw Qh,Qfc v3.1,Qfc v4.1,.gone,.gone,Qaw ((([]:List Qf) ++ a0) ++ Qh),Qfc v9.1]⟩) (by kernel_rfl) ?_
          refine Yi hT 5 (K4 111111111 1) [] ⟨88,[(2,.b v16)],[]⟩ h0 ?_
          exact Jj3 v16 H
         replace H:=sF c26 H
         rw [eqF c26]
         refine Yi hT 10 (K4 111111111 1) [] ⟨88,[(2,.b false)],[]⟩ h0 ?_
         exact Jj3 false H
        replace H:=sF c25 H
        rw [boF c25]
        refine Yi hT 14 (K4 111111111 1) [] ⟨88,[(2,.b false)],[]⟩ h0 ?_
        exact Jj3 false H
       replace H:=sF c21 H
       rw [neT c21]
       refine Yi hT 20 (K4 111111111 1) [] ⟨88,[(2,.b true)],[]⟩ h0 ?_
       exact Jj3 true H
      replace H:=sF c20 H
      rw [boF c20]
      refine Yi hT 23 (K4 111111111 1) [] ⟨88,[(2,.b false)],[]⟩ h0 ?_
      exact Jj3 false H
     refine Wj (Xw:=[.own 0 10 0 Qh.length]) (dst:=some 41) (k':=(K4 1111110 2)) [0,3,5,6,41] [] hP Qod (Qm.Wl (t0:=false) Qh h7) (by kernel_rfl) (Qz _) (.cons (.Qd4 (ty:=44) (by kernel_rfl) rfl) .nil) (st':=⟨88,(Qp.p0 t0 a0++[(3,.own 0 10 0 Qh.length),(5,.own 1 9 0 v3.1.length),(6,.i v3.2),(41,.Qq [.own 2 9 0 v4.1.length,.i v4.2])]),[Qaw Qh,Yl v3.1,Yl v4.1]⟩) (by kernel_rfl) ?_
     refine Qi hT 15 (K4 111111100 6) ⟨88,(Qp.p0 t0 a0++[(3,.own 0 10 0 Qh.length),(5,.own 1 9 0 v3.1.length),(6,.i v3.2),(7,.own 2 9 0 v4.1.length),(49,.b (!((v3.2 == 0) == (v4.2 == 0))))]),[Qaw Qh,Yl v3.1,Yl v4.1]⟩ ?_
     by_cases c8:v3.2=0
     ·replace H:=sT c8 H
      rw [eqT c8]
      by_cases c9:v4.2=0
      ·replace H:=sT c9 H
       rw [eqT c9]
       refine Qi hT 1 (K4 111111100 7) ⟨88,(Qp.p0 t0 a0++[(3,.own 0 10 0 Qh.length),(5,.own 1 9 0 v3.1.length),(6,.i v3.2),(7,.own 2 9 0 v4.1.length),(49,.b false),(50,.d (Ju t0 a0))]),[Qaw Qh,Yl v3.1,Yl v4.1]⟩ ?_
       obtain ⟨v5,h10,H⟩:=sbC H
       refine Wj (Xw:=[.d (Ju t0 a0)]) (dst:=some 51) (k':=(K4 111111100 8)) [0,3,5,6,7,49,51] [] hP Qms (Wh.Wl (t0:=t0) a0 h10) (by kernel_rfl) (Qz _) (.cons (Qn _) .nil) (st':=⟨88,(Qp.p0 t0 a0++[(3,.own 0 10 0 Qh.length),(5,.own 1 9 0 v3.1.length),(6,.i v3.2),(7,.own 2 9 0 v4.1.length),(49,.b false),(51,.i v5)]),[Qaw Qh,Yl v3.1,Yl v4.1]⟩) (by kernel_rfl) ?_
       refine Qi hT 1 (K4 111111100 9) ⟨88,(Qp.p0 t0 a0++[(3,.own 0 10 0 Qh.length),(5,.own 1 9 0 v3.1.length),(6,.i v3.2),(7,.own 2 9 0 v4.1.length),(49,.b false),(51,.i v5),(52,.own 0 10 0 Qh.length)]),[Qaw Qh,Yl v3.1,Yl v4.1]⟩ ?_
       obtain ⟨v6,h11,H⟩:=sbC H
       refine Wj (Xw:=[.own 0 10 0 Qh.length]) (dst:=some 53) (k':=(K4 111111100 10)) [0,3,5,6,7,49,51,53] [] hP Qms (Wh.Wl (t0:=false) Qh h11) (by kernel_rfl) (Qz _) (.cons (.Qd4 (ty:=44) (by kernel_rfl) rfl) .nil) (st':=⟨88,(Qp.p0 t0 a0++[(3,.own 0 10 0 Qh.length),(5,.own 1 9 0 v3.1.length),(6,.i v3.2),(7,.own 2 9 0 v4.1.length),(49,.b false),(51,.i v5),(53,.i v6)]),[Qaw Qh,Yl v3.1,Yl v4.1]⟩) (by kernel_rfl) ?_
       refine Qi hT 3 (K4 11111110 1) ⟨88,(Qp.p0 t0 a0++[(3,.own 0 10 0 Qh.length),(5,.own 1 9 0 v3.1.length),(6,.i v3.2),(7,.own 2 9 0 v4.1.length),(55,.b (v5 != v6))]),[Qaw Qh,Yl v3.1,Yl v4.1]⟩ ?_
       exact Jj2 (v5 != v6) H
      replace H:=sF c9 H
      rw [eqF c9]
      refine Qi hT 7 (K4 11111110 1) ⟨88,(Qp.p0 t0 a0++[(3,.own 0 10 0 Qh.length),(5,.own 1 9 0 v3.1.length),(6,.i v3.2),(7,.own 2 9 0 v4.1.length),(55,.b true)]),[Qaw Qh,Yl v3.1,Yl v4.1]⟩ ?_
      exact Jj2 true H
     replace H:=sF c8 H
     rw [eqF c8]
     by_cases c12:v4.2=0
     ·replace H:=sT c12 H
      rw [eqT c12]
      refine Qi hT 7 (K4 11111110 1) ⟨88,(Qp.p0 t0 a0++[(3,.own 0 10 0 Qh.length),(5,.own 1 9 0 v3.1.length),(6,.i v3.2),(7,.own 2 9 0 v4.1.length),(55,.b true)]),[Qaw Qh,Yl v3.1,Yl v4.1]⟩ ?_
      exact Jj2 true H
     replace H:=sF c12 H
     rw [eqF c12]
     refine Qi hT 1 (K4 111111100 7) ⟨88,(Qp.p0 t0 a0++[(3,.own 0 10 0 Qh.length),(5,.own 1 9 0 v3.1.length),(6,.i v3.2),(7,.own 2 9 0 v4.1.length),(49,.b false),(50,.d (Ju t0 a0))]),[Qaw Qh,Yl v3.1,Yl v4.1]⟩ ?_
     obtain ⟨v7,h13,H⟩:=sbC H
     refine Wj (Xw:=[.d (Ju t0 a0)]) (dst:=some 51) (k':=(K4 111111100 8)) [0,3,5,6,7,49,51] [] hP Qms (Wh.Wl (t0:=t0) a0 h13) (by kernel_rfl) (Qz _) (.cons (Qn _) .nil) (st':=⟨88,(Qp.p0 t0 a0++[(3,.own 0 10 0 Qh.length),(5,.own 1 9 0 v3.1.length),(6,.i v3.2),(7,.own 2 9 0 v4.1.length),(49,.b false),(51,.i v7)]),[Qaw Qh,Yl v3.1,Yl v4.1]⟩) (by kernel_rfl) ?_
     refine Qi hT 1 (K4 111111100 9) ⟨88,(Qp.p0 t0 a0++[(3,.own 0 10 0 Qh.length),(5,.own 1 9 0 v3.1.length),(6,.i v3.2),(7,.own 2 9 0 v4.1.length),(49,.b false),(51,.i v7),(52,.own 0 10 0 Qh.length)]),[Qaw Qh,Yl v3.1,Yl v4.1]⟩ ?_
     obtain ⟨v8,h14,H⟩:=sbC H
     refine Wj (Xw:=[.own 0 10 0 Qh.length]) (dst:=some 53) (k':=(K4 111111100 10)) [0,3,5,6,7,49,51,53] [] hP Qms (Wh.Wl (t0:=false) Qh h14) (by kernel_rfl) (Qz _) (.cons (.Qd4 (ty:=44) (by kernel_rfl) rfl) .nil) (st':=⟨88,(Qp.p0 t0 a0++[(3,.own 0 10 0 Qh.length),(5,.own 1 9 0 v3.1.length),(6,.i v3.2),(7,.own 2 9 0 v4.1.length),(49,.b false),(51,.i v7),(53,.i v8)]),[Qaw Qh,Yl v3.1,Yl v4.1]⟩) (by kernel_rfl) ?_
     refine Qi hT 3 (K4 11111110 1) ⟨88,(Qp.p0 t0 a0++[(3,.own 0 10 0 Qh.length),(5,.own 1 9 0 v3.1.length),(6,.i v3.2),(7,.own 2 9 0 v4.1.length),(55,.b (v7 != v8))]),[Qaw Qh,Yl v3.1,Yl v4.1]⟩ ?_
     exact Jj2 (v7 != v8) H
  refine Qkp [0] ⟨88,(Qp.p0 t0 a0++[(3,.own 0 10 0 ([]:List Qf).length),(4,.i (IntKind.wrap .i64 ((a0.length:Int) - 1)))]),[Qaw ([]:List Qf)]⟩ h0 ?_
  obtain ⟨n,H⟩:=Qcn H
  exact (L n) (IntKind.wrap .i64 ((a0.length:Int) - 1)) ([]:List Qf) H
 refine Qi hT 11 (K4 1100 4) ⟨88,(Qp.p0 t0 a0++[(14,.b (decide ((a0.length:Int) > 4)))]),[]⟩ ?_
 by_cases c1:(a0.length:Int) > 4
 ·replace H:=iT c1 H
  rw [decide_eq_true c1]
  refine Qi hT 5 (K4 110 1) ⟨88,(Qp.p0 t0 a0++[(18,.b true)]),[]⟩ ?_
  exact Zl true H
 replace H:=iF c1 H
 rw [decide_eq_false c1]
 refine Qi hT 1 (K4 1100 5) ⟨88,(Qp.p0 t0 a0++[(14,.b false),(15,.d (Ju t0 a0))]),[]⟩ ?_
 obtain ⟨v1,h2,H⟩:=ibC H
 refine Wj (Xw:=[.d (Ju t0 a0)]) (dst:=some 16) (k':=(K4 1100 6)) [0,14,16] [] hP Wgq (Jm.Wl (t0:=t0) a0 h2) (by kernel_rfl) (Qz _) (.cons (Qn _) .nil) (st':=⟨88,(Qp.p0 t0 a0++[(14,.b false),(16,.b v1)]),[]⟩) (by kernel_rfl) ?_
 refine Qi hT 3 (K4 110 1) ⟨88,(Qp.p0 t0 a0++[(18,.b (!v1))]),[]⟩ ?_
 exact Zl (!v1) H
end
end Go.SyP
