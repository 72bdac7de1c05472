/- Certificates, printed by gen.py. -/
import Derived.Test.YticmlllaimjdcaaGreatG15zD
import Derived.Test.YticmlllaimjdcaaGreatG15zI
import Derived.Test.YticmlllaimjdcaaGreatG15zW
set_option linter.unusedVariables false
set_option linter.unusedSimpArgs false
namespace Go.SyP
open Go Go.Sy Go.Proofs
noncomputable section
abbrev Za.p0 (a1:Int) (a2:Int) (a0:Xu):List (Nat × AV):=[(1,.i a1),(2,.i a2),(15,.own 3 1 0 a0.h.l.length),(16,.i (a0.h.l.length:Int))]
theorem Za.Wl (a0:Xu) (a1:Int) (a2:Int) (dom:List Nat) (M:Nat->Qd) {r:(Option Nat) × Xu} (H:Za a0 a1 a2 dom M=some r):Yn Tryz.prog 109 [.box 171 [.own 1 1 0 a0.h.l.length],Yh a0.h.l,.obj (Zf Qd.e Qd.nl 178 dom M)] [.ptr 0 0 0 0,.i a1,.i a2] [.box 171 [.own 3 1 0 r.2.h.l.length],.gone,.obj (Zf Qd.e Qd.nl 178 dom M),Yh r.2.h.l] (oA r.1):=by
 refine Xt Tryz.func109 rfl (nt:=41) rfl (lb rfl) fun X hP h0 hX=>?_
 have hT:Xl X.P T:=hP▸tok
 have hf:X.P.funcs[109]? = some Tryz.f109:=hP▸Tryz.func109
 refine Qf0 1 (r:=Yh a0.h.l) rfl rfl (st':=⟨41,[(0,.ptr 0 0 0 0),(1,.i a1),(2,.i a2)],[.box 171 [.own 3 1 0 a0.h.l.length],.gone,.obj (Zf Qd.e Qd.nl 178 dom M),Yh a0.h.l]⟩) (by kernel_rfl) (by kernel_rfl) rfl ?_
 refine Qi hT 25 (Qhh 111010 0) ⟨41,(Za.p0 a1 a2 a0++[(17,.i 0)]),[.box 171 [.own 3 1 0 a0.h.l.length],.gone,.obj (Zf Qd.e Qd.nl 178 dom M),Yh a0.h.l]⟩ ?_
 have L:∀ n,(∀ (Qa4:Int),iter (Za.step a0 a1 a2 dom M) n (.l1 Qa4)=some r->AK X 109 ((Qhh 111010 0)) (Jb X [.box 171 [.own 3 1 0 r.2.h.l.length],.gone,.obj (Zf Qd.e Qd.nl 178 dom M),Yh r.2.h.l] (oA r.1)) ⟨41,(Za.p0 a1 a2 a0++[(17,.i Qa4)]),[.box 171 [.own 3 1 0 a0.h.l.length],.gone,.obj (Zf Qd.e Qd.nl 178 dom M),Yh a0.h.l]⟩):=by
  intro n
  induction n with
  | zero=>exact fun _ H=>Qbx H
  | succ n ih=>
   ·intro Qa4 H
    refine Qi hT 5 (Qhh 11101001 0) ⟨41,(Za.p0 a1 a2 a0++[(17,.i Qa4),(18,.b (decide (Qa4 < (a0.h.l.length:Int))))]),[.box 171 [.own 3 1 0 a0.h.l.length],.gone,.obj (Zf Qd.e Qd.nl 178 dom M),Yh a0.h.l]⟩ ?_
    by_cases c1:Qa4 < (a0.h.l.length:Int)
    ·replace H:=sT c1 H
     rw [decide_eq_true c1]
     refine Qi hT 2 (Qhh 11101001 1) ⟨41,(Za.p0 a1 a2 a0++[(17,.i Qa4)]),[.box 171 [.own 3 1 0 a0.h.l.length],.gone,.obj (Zf Qd.e Qd.nl 178 dom M),Yh a0.h.l]⟩ ?_
     refine Qi hT 4 (Qhh 111010011000 0) ⟨41,(Za.p0 a1 a2 a0++[(17,.i Qa4)]),[.box 171 [.own 3 1 0 a0.h.l.length],.gone,.obj (Zf Qd.e Qd.nl 178 dom M),Yh a0.h.l]⟩ ?_
     obtain ⟨h2,H⟩:=sC H
     refine Qa7 hT [1,2,15,16,17,19] (i:=Qa4) (n:=(a0.h.l.length:Int)) h2.1 h2.2 (k':=(Qhh 111010011000 1)) (st':=⟨41,(Za.p0 a1 a2 a0++[(17,.i Qa4),(19,.ptr 3 1 Qa4.toNat 0)]),[.box 171 [.own 3 1 0 a0.h.l.length],.gone,.obj (Zf Qd.e Qd.nl 178 dom M),Yh a0.h.l]⟩) (by kernel_rfl) ?_
     refine Qmo hT [1,2,15,16,17,20] (i:=Qa4.toNat) (n:=a0.h.l.length) (ltN h2.1 h2.2) (k':=(Qhh 111010011000 2)) (st':=⟨41,(Za.p0 a1 a2 a0++[(17,.i Qa4),(20,.d (pA (a0.h.l.getD Qa4.toNat 0) 0))]),[.box 171 [.own 3 1 0 a0.h.l.length],.gone,.obj (Zf Qd.e Qd.nl 178 dom M),Yh a0.h.l]⟩) (by kernel_rfl) ?_
     refine Qi hT 9 (Qhh 1110100110010 5) ⟨41,[(1,.i a1),(2,.i a2),(8,.d (pA (a0.h.l.getD Qa4.toNat 0) 0)),(15,.own 3 1 0 a0.h.l.length),(16,.i (a0.h.l.length:Int)),(17,.i Qa4),(25,.d (pA (a0.h.l.getD Qa4.toNat 0) 0))],[.box 171 [.own 3 1 0 a0.h.l.length],.gone,.obj (Zf Qd.e Qd.nl 178 dom M),Yh a0.h.l]⟩ ?_
     obtain ⟨h3,H⟩:=sC H
     have Zl:∀ (Qnf:Bool),stk (Za.j1 a0 Qa4 Qnf) (iter (Za.step a0 a1 a2 dom M) n)=some r->AK X 109 ((Qhh 111010011001 1)) (Jb X [.box 171 [.own 3 1 0 r.2.h.l.length],.gone,.obj (Zf Qd.e Qd.nl 178 dom M),Yh r.2.h.l] (oA r.1)) ⟨41,[(1,.i a1),(2,.i a2),(8,.d (pA (a0.h.l.getD Qa4.toNat 0) 0)),(15,.own 3 1 0 a0.h.l.length),(16,.i (a0.h.l.length:Int)),(17,.i Qa4),(38,.b Qnf)],[.box 171 [.own 3 1 0 a0.h.l.length],.gone,.obj (Zf Qd.e Qd.nl 178 dom M),Yh a0.h.l]⟩:=by
      intro Qnf H
      by_cases c5:Qnf=true
      ·replace H:=sT c5 H
       rw [c5]
       refine Qi hT 6 (Qhh 11101001100110 1) ⟨41,[(6,.d (pA (a0.h.l.getD Qa4.toNat 0) 0))],[.box 171 [.own 3 1 0 a0.h.l.length],.gone,.obj (Zf Qd.e Qd.nl 178 dom M),Yh a0.h.l]⟩ ?_
       obtain rfl:=Zb H
       exact Yr hf hX h0 (.d (pA (a0.h.l.getD Qa4.toNat 0) 0)) [0,1,2,3] (ac (.box (.cons (.own _ _ _ _) .nil)) (ac .gone (ac (.obj _) (ac (Qbd nlA) an)))) (.d (.v _))
      replace H:=sF c5 H
      rw [boF c5]
      refine Qi hT 3 (Qhh 111010011 1) ⟨41,(Za.p0 a1 a2 a0++[(17,.i Qa4)]),[.box 171 [.own 3 1 0 a0.h.l.length],.gone,.obj (Zf Qd.e Qd.nl 178 dom M),Yh a0.h.l]⟩ ?_
      refine Qi hT 5 (Qhh 111010 0) ⟨41,(Za.p0 a1 a2 a0++[(17,.i (IntKind.wrap .i64 (Qa4+1)))]),[.box 171 [.own 3 1 0 a0.h.l.length],.gone,.obj (Zf Qd.e Qd.nl 178 dom M),Yh a0.h.l]⟩ ?_
      exact ih (IntKind.wrap .i64 (Qa4+1)) H
     refine Qwr hT [1,2,8,15,16,17,26] (e:=Qd.e) (he:=Qd.nl) (ty:=178) (dom:=dom) (m:=M) 2 (a:=a0.h.l.getD Qa4.toNat 0) (off:=0) (s:=1) (agg:=false) (dst:=some 26) (k':=(Qhh 1110100110010 6)) [.i ((((M (a0.h.l.getD Qa4.toNat 0)).h).M).Client)] (by kernel_rfl) (by kernel_rfl) h3 rfl rfl (fun _=>rfl) (st':=⟨41,[(1,.i a1),(2,.i a2),(8,.d (pA (a0.h.l.getD Qa4.toNat 0) 0)),(15,.own 3 1 0 a0.h.l.length),(16,.i (a0.h.l.length:Int)),(17,.i Qa4),(26,.i ((((M (a0.h.l.getD Qa4.toNat 0)).h).M).Client))],[.box 171 [.own 3 1 0 a0.h.l.length],.gone,.obj (Zf Qd.e Qd.nl 178 dom M),Yh a0.h.l]⟩) (by kernel_rfl) ?_
     refine Qi hT 3 (Qhh 1110100110010 9) ⟨41,[(1,.i a1),(2,.i a2),(8,.d (pA (a0.h.l.getD Qa4.toNat 0) 0)),(15,.own 3 1 0 a0.h.l.length),(16,.i (a0.h.l.length:Int)),(17,.i Qa4),(29,.b (((((M (a0.h.l.getD Qa4.toNat 0)).h).M).Client) == a1))],[.box 171 [.own 3 1 0 a0.h.l.length],.gone,.obj (Zf Qd.e Qd.nl 178 dom M),Yh a0.h.l]⟩ ?_
     by_cases c4:((((M (a0.h.l.getD Qa4.toNat 0)).h).M).Client)=a1
     ·replace H:=sT c4 H
      rw [eqT c4]
      refine Qi hT 5 (Qhh 1110100110010 14) ⟨41,[(1,.i a1),(2,.i a2),(8,.d (pA (a0.h.l.getD Qa4.toNat 0) 0)),(15,.own 3 1 0 a0.h.l.length),(16,.i (a0.h.l.length:Int)),(17,.i Qa4),(29,.b true),(34,.d (pA (a0.h.l.getD Qa4.toNat 0) 1))],[.box 171 [.own 3 1 0 a0.h.l.length],.gone,.obj (Zf Qd.e Qd.nl 178 dom M),Yh a0.h.l]⟩ ?_
      refine Qwr hT [1,2,8,15,16,17,29,35] (e:=Qd.e) (he:=Qd.nl) (ty:=178) (dom:=dom) (m:=M) 2 (a:=a0.h.l.getD Qa4.toNat 0) (off:=1) (s:=1) (agg:=false) (dst:=some 35) (k':=(Qhh 1110100110010 15)) [.i ((((M (a0.h.l.getD Qa4.toNat 0)).h).M).Seq)] (by kernel_rfl) (by kernel_rfl) h3 rfl rfl (fun _=>rfl) (st':=⟨41,[(1,.i a1),(2,.i a2),(8,.d (pA (a0.h.l.getD Qa4.toNat 0) 0)),(15,.own 3 1 0 a0.h.l.length),(16,.i (a0.h.l.length:Int)),(17,.i Qa4),(29,.b true),(35,.i ((((M (a0.h.l.getD Qa4.toNat 0)).h).M).Seq))],[.box 171 [.own 3 1 0 a0.h.l.length],.gone,.obj (Zf Qd.e Qd.nl 178 dom M),Yh a0.h.l]⟩) (by kernel_rfl) ?_
      refine Qi hT 4 (Qhh 111010011001 1) ⟨41,[(1,.i a1),(2,.i a2),(8,.d (pA (a0.h.l.getD Qa4.toNat 0) 0)),(15,.own 3 1 0 a0.h.l.length),(16,.i (a0.h.l.length:Int)),(17,.i Qa4),(38,.b (((((M (a0.h.l.getD Qa4.toNat 0)).h).M).Seq) == a2))],[.box 171 [.own 3 1 0 a0.h.l.length],.gone,.obj (Zf Qd.e Qd.nl 178 dom M),Yh a0.h.l]⟩ ?_
      exact Zl (((((M (a0.h.l.getD Qa4.toNat 0)).h).M).Seq) == a2) H
     replace H:=sF c4 H
     rw [eqF c4]
     refine Qi hT 10 (Qhh 111010011001 1) ⟨41,[(1,.i a1),(2,.i a2),(8,.d (pA (a0.h.l.getD Qa4.toNat 0) 0)),(15,.own 3 1 0 a0.h.l.length),(16,.i (a0.h.l.length:Int)),(17,.i Qa4),(38,.b false)],[.box 171 [.own 3 1 0 a0.h.l.length],.gone,.obj (Zf Qd.e Qd.nl 178 dom M),Yh a0.h.l]⟩ ?_
     exact Zl false H
    replace H:=sF c1 H
    rw [decide_eq_false c1]
    refine Qi hT 6 (Qhh 1111 1) ⟨41,[(6,.d .np)],[.box 171 [.own 3 1 0 a0.h.l.length],.gone,.obj (Zf Qd.e Qd.nl 178 dom M),Yh a0.h.l]⟩ ?_
    obtain rfl:=Zb H
    exact Yr hf hX h0 (.d .np) [0,1,2,3] (ac (.box (.cons (.own _ _ _ _) .nil)) (ac .gone (ac (.obj _) (ac (Qbd nlA) an)))) (.d (.v _))
 obtain ⟨n,H⟩:=Qcn H
 exact (L n) 0 H
theorem Qcv.Wl (a0:Xu) (dom:List Nat) (M:Nat->Qd):Yn Tryz.prog 112 [.box 171 [.own 1 1 0 a0.h.l.length],Yh a0.h.l,.obj (Zf Qd.e Qd.nl 178 dom M)] [.ptr 0 0 0 0] [.box 171 [.own 3 1 0 (((((Qcv a0 dom M).2).h).l).length)],.gone,.obj (Zf Qd.e Qd.nl 178 dom M),Yh ((((Qcv a0 dom M).2).h).l)] (.i ((Qcv a0 dom M).1)):=by
 obtain ⟨r,H⟩:∃ r,Qcv a0 dom M=r:=⟨_,rfl⟩
 rw [H]
 refine Xt Tryz.func112 rfl (nt:=11) rfl (lb rfl) fun X hP h0 hX=>?_
 have hT:Xl X.P T:=hP▸tok
 have hf:X.P.funcs[112]? = some Tryz.f112:=hP▸Tryz.func112
 refine Qf0 1 (r:=Yh a0.h.l) rfl rfl (st':=⟨11,[(0,.ptr 0 0 0 0)],[.box 171 [.own 3 1 0 a0.h.l.length],.gone,.obj (Zf Qd.e Qd.nl 178 dom M),Yh a0.h.l]⟩) (by kernel_rfl) (by kernel_rfl) rfl ?_
 refine Qi hT 22 (Wk6 111 1) ⟨11,[(2,.i (a0.h.l.length:Int))],[.box 171 [.own 3 1 0 a0.h.l.length],.gone,.obj (Zf Qd.e Qd.nl 178 dom M),Yh a0.h.l]⟩ ?_
 obtain rfl:=H
 exact Yr hf hX h0 (.i (a0.h.l.length:Int)) [0,1,2,3] (ac (.box (.cons (.own _ _ _ _) .nil)) (ac .gone (ac (.obj _) (ac (Qbd nlA) an)))) (.d (.v _))
theorem Qgd.Wl (a0:Xu) (a1:Int) (dom:List Nat) (M:Nat->Qd) {r:Int × Xu} (H:Qgd a0 a1 dom M=some r):Yn Tryz.prog 72 [.box 171 [.own 1 1 0 a0.h.l.length],Yh a0.h.l,.obj (Zf Qd.e Qd.nl 178 dom M)] [.ptr 0 0 0 0,.i a1] [.box 171 [.own 3 1 0 r.2.h.l.length],.gone,.obj (Zf Qd.e Qd.nl 178 dom M),Yh r.2.h.l] (.i r.1):=by
 refine Xt Tryz.func72 rfl (nt:=21) rfl (lb rfl) fun X hP h0 hX=>?_
 have hT:Xl X.P T:=hP▸tok
 have hf:X.P.funcs[72]? = some Tryz.f72:=hP▸Tryz.func72
 refine Qf0 1 (r:=Yh a0.h.l) rfl rfl (st':=⟨21,[(0,.ptr 0 0 0 0),(1,.i a1)],[.box 171 [.own 3 1 0 a0.h.l.length],.gone,.obj (Zf Qd.e Qd.nl 178 dom M),Yh a0.h.l]⟩) (by kernel_rfl) (by kernel_rfl) rfl ?_
 refine Qi hT 8 (K72 1100 1) ⟨21,[(0,.ptr 0 0 0 0),(1,.i a1),(5,.ptr 0 0 0 0)],[.box 171 [.own 3 1 0 a0.h.l.length],.gone,.obj (Zf Qd.e Qd.nl 178 dom M),Yh a0.h.l]⟩ ?_
 refine Wj (Xw:=[.ptr 0 0 0 0]) (dst:=some 6) (k':=(K72 1100 2)) [0,1,6] [0,3,2] hP Qz9 (Qcv.Wl (⟨(⟨a0.h.l⟩:Qa5)⟩:Xu) dom M) (by kernel_rfl) (Qd6 rfl rfl rfl (by decide)) (.cons (.same (.ptr 0 0 0 0)) .nil) (st':=⟨21,[(0,.ptr 0 0 0 0),(1,.i a1),(6,.i ((Qcv (⟨(⟨a0.h.l⟩:Qa5)⟩:Xu) dom M).1))],[.box 171 [.own 4 1 0 (((((Qcv (⟨(⟨a0.h.l⟩:Qa5)⟩:Xu) dom M).2).h).l).length)],.gone,.obj (Zf Qd.e Qd.nl 178 dom M),.gone,Yh ((((Qcv (⟨(⟨a0.h.l⟩:Qa5)⟩:Xu) dom M).2).h).l)]⟩) (by kernel_rfl) ?_
 obtain ⟨v1,h1,H⟩:=idC H
 rw [<- h1]
 refine Qi hT 2 (K72 110 1) ⟨21,[(0,.ptr 0 0 0 0),(1,.i a1),(7,.b (v1.1 == 0))],[.box 171 [.own 4 1 0 ((((v1.2).h).l).length)],.gone,.obj (Zf Qd.e Qd.nl 178 dom M),.gone,Yh (((v1.2).h).l)]⟩ ?_
 by_cases c2:v1.1=0
 ·replace H:=iT c2 H
  rw [eqT c2]
  refine Qi hT 6 (K72 11010 1) ⟨21,[(4,.i a1)],[.box 171 [.own 4 1 0 ((((v1.2).h).l).length)],.gone,.obj (Zf Qd.e Qd.nl 178 dom M),.gone,Yh (((v1.2).h).l)]⟩ ?_
  obtain rfl:=Zb H
  exact Yr hf hX h0 (.i a1) [0,1,2,4] (ac (.box (.cons (.own _ _ _ _) .nil)) (ac .gone (ac (.obj _) (ac (Qbd nlA) an)))) (.d (.v _))
 replace H:=iF c2 H
 rw [eqF c2]
 refine Qi hT 2 (K72 11 1) ⟨21,[(0,.ptr 0 0 0 0)],[.box 171 [.own 4 1 0 ((((v1.2).h).l).length)],.gone,.obj (Zf Qd.e Qd.nl 178 dom M),.gone,Yh (((v1.2).h).l)]⟩ ?_
 refine Qi hT 7 (K72 1110 5) ⟨21,[(13,.own 4 1 0 ((((v1.2).h).l).length))],[.box 171 [.own 4 1 0 ((((v1.2).h).l).length)],.gone,.obj (Zf Qd.e Qd.nl 178 dom M),.gone,Yh (((v1.2).h).l)]⟩ ?_
 obtain ⟨h3,H⟩:=iC H
 refine Qa7 hT [14] (i:=0) (n:=((((v1.2).h).l).length:Int)) h3.1 h3.2 (k':=(K72 1110 6)) (st':=⟨21,[(14,.ptr 4 1 0 0)],[.box 171 [.own 4 1 0 ((((v1.2).h).l).length)],.gone,.obj (Zf Qd.e Qd.nl 178 dom M),.gone,Yh (((v1.2).h).l)]⟩) (by kernel_rfl) ?_
 refine Qmo hT [15] (i:=0) (n:=(((v1.2).h).l).length) (by first | omega | decide) (k':=(K72 1110 7)) (st':=⟨21,[(15,.d (pA ((((v1.2).h).l).getD 0 0) 0))],[.box 171 [.own 4 1 0 ((((v1.2).h).l).length)],.gone,.obj (Zf Qd.e Qd.nl 178 dom M),.gone,Yh (((v1.2).h).l)]⟩) (by kernel_rfl) ?_
 refine Qi hT 3 (K72 1110 10) ⟨21,[(18,.d (pA ((((v1.2).h).l).getD 0 0) 7))],[.box 171 [.own 4 1 0 ((((v1.2).h).l).length)],.gone,.obj (Zf Qd.e Qd.nl 178 dom M),.gone,Yh (((v1.2).h).l)]⟩ ?_
 obtain ⟨h4,H⟩:=iC H
 refine Qwr hT [19] (e:=Qd.e) (he:=Qd.nl) (ty:=178) (dom:=dom) (m:=M) 2 (a:=(((v1.2).h).l).getD 0 0) (off:=7) (s:=1) (agg:=false) (dst:=some 19) (k':=(K72 1110 11)) [.i (((M ((((v1.2).h).l).getD 0 0)).h).Time)] (by kernel_rfl) (by kernel_rfl) h4 rfl rfl (fun _=>rfl) (st':=⟨21,[(19,.i (((M ((((v1.2).h).l).getD 0 0)).h).Time))],[.box 171 [.own 4 1 0 ((((v1.2).h).l).length)],.gone,.obj (Zf Qd.e Qd.nl 178 dom M),.gone,Yh (((v1.2).h).l)]⟩) (by kernel_rfl) ?_
 refine Qi hT 2 (K72 1110 13) ⟨21,[(4,.i (IntKind.wrap .i64 ((((M ((((v1.2).h).l).getD 0 0)).h).Time) - 1)))],[.box 171 [.own 4 1 0 ((((v1.2).h).l).length)],.gone,.obj (Zf Qd.e Qd.nl 178 dom M),.gone,Yh (((v1.2).h).l)]⟩ ?_
 obtain ⟨v2,h5,H⟩:=idC H
 rw [<- h5]
 refine Qi hT 1 (K72 111 1) ⟨21,[(4,.i v2)],[.box 171 [.own 4 1 0 ((((v1.2).h).l).length)],.gone,.obj (Zf Qd.e Qd.nl 178 dom M),.gone,Yh (((v1.2).h).l)]⟩ ?_
 obtain rfl:=Zb H
 exact Yr hf hX h0 (.i v2) [0,1,2,4] (ac (.box (.cons (.own _ _ _ _) .nil)) (ac .gone (ac (.obj _) (ac (Qbd nlA) an)))) (.d (.v _))
theorem Qe5.Wl (a0:Xu) (a1:Nat) (dom:List Nat) (M:Nat->Qd) {r:Xu × (Nat->Qd)} (H:Qe5 a0 a1 dom M=some r):Yn Tryz.prog 191 [.box 171 [.own 1 1 0 a0.h.l.length],Yh a0.h.l,.obj (Zf Qd.e Qd.nl 178 dom M)] [.ptr 0 0 0 0,.d (.ifc 172 (pA a1 0))] [.box 171 [.own 3 1 0 r.1.h.l.length],.gone,.obj (Zf Qd.e Qd.nl 178 dom r.2),Yh r.1.h.l] (.Qq []):=by
 refine Xt Tryz.func191 rfl (nt:=30) rfl (lb rfl) fun X hP h0 hX=>?_
 have hT:Xl X.P T:=hP▸tok
 have hf:X.P.funcs[191]? = some Tryz.f191:=hP▸Tryz.func191
 refine Qf0 1 (r:=Yh a0.h.l) rfl rfl (st':=⟨30,[(0,.ptr 0 0 0 0),(1,.d (.ifc 172 (pA a1 0)))],[.box 171 [.own 3 1 0 a0.h.l.length],.gone,.obj (Zf Qd.e Qd.nl 178 dom M),Yh a0.h.l]⟩) (by kernel_rfl) (by kernel_rfl) rfl ?_
 refine Qi hT 3 (Qtu 10 1) ⟨30,[(0,.ptr 0 0 0 0),(7,.d (.ifc 172 (pA a1 0)))],[.box 171 [.own 3 1 0 a0.h.l.length],.gone,.obj (Zf Qd.e Qd.nl 178 dom M),Yh a0.h.l]⟩ ?_
 refine Wcq hT [0,8] (a:=172) (y:=.d (pA a1 0)) (dst:=some 8) (k':=(Qtu 10 2)) (by kernel_rfl) (by rw [hP];exact Tryz.underlying172) (fun _ h=>by cases h) (st':=⟨30,[(0,.ptr 0 0 0 0),(8,.Qq [.d (pA a1 0),.b true])],[.box 171 [.own 3 1 0 a0.h.l.length],.gone,.obj (Zf Qd.e Qd.nl 178 dom M),Yh a0.h.l]⟩) (by kernel_rfl) ?_
 refine Qi hT 21 (Qtu 11100 8) ⟨30,[(0,.ptr 0 0 0 0),(4,.d (pA a1 0)),(17,.i (a0.h.l.length:Int)),(19,.d (pA a1 9))],[.box 171 [.own 3 1 0 a0.h.l.length],.gone,.obj (Zf Qd.e Qd.nl 178 dom M),Yh a0.h.l]⟩ ?_
 obtain ⟨h1,H⟩:=iC H
 refine Wc1 hT [0,4] (e:=Qd.e) (he:=Qd.nl) (ty:=178) (dom:=dom) (m:=M) 2 (a:=a1) (off:=9) (s:=1) (ds:=[.i (a0.h.l.length:Int)]) (k':=(Qtu 11100 9)) (⟨(⟨(⟨(((M a1).h).M).Client,(((M a1).h).M).Seq,(((M a1).h).M).Kind,(((M a1).h).M).Pairs,(⟨((((M a1).h).M).Over).Lo,((((M a1).h).M).Over).Hi⟩:Qb),(((M a1).h).M).Old⟩:Qu),((M a1).h).Time,((M a1).h).Qda⟩:Yo),(a0.h.l.length:Int)⟩:Qd) (by kernel_rfl) (by kernel_rfl) h1 (lb rfl) rfl (st':=⟨30,[(0,.ptr 0 0 0 0),(4,.d (pA a1 0))],[.box 171 [.own 3 1 0 a0.h.l.length],.gone,.obj (Zf Qd.e Qd.nl 178 dom (upd M a1 (⟨(⟨(⟨(((M a1).h).M).Client,(((M a1).h).M).Seq,(((M a1).h).M).Kind,(((M a1).h).M).Pairs,(⟨((((M a1).h).M).Over).Lo,((((M a1).h).M).Over).Hi⟩:Qb),(((M a1).h).M).Old⟩:Qu),((M a1).h).Time,((M a1).h).Qda⟩:Yo),(a0.h.l.length:Int)⟩:Qd))),Yh a0.h.l]⟩) (by kernel_rfl) ?_
 obtain ⟨v1,h2,H⟩:=idC H
 rw [<- h2]
 refine Qi hT 9 (Qtu 11101 7) ⟨30,[(20,.ptr 0 0 0 0),(24,.own 3 1 0 a0.h.l.length),(26,.own 4 1 0 1)],[.box 171 [.own 3 1 0 a0.h.l.length],.gone,.obj (Zf Qd.e Qd.nl 178 dom v1),Yh a0.h.l,.flat false 1 172 1 (fun j=>[[pA a1 0]].getD j [])]⟩ ?_
 obtain ⟨h3,H⟩:=iC H
 refine Qe1 (id:=3) (kk:=1) (by':=8) (t:=167) (e:=172) (z:=[.pointer none]) (dst:=some 27) (id2:=4) (e2:=172) (fz:=false) (k':=(Qtu 11101 8)) hT eA 0 a0.h.l a1 [20,27] (by kernel_rfl) (by kernel_rfl) (by kernel_rfl) (by kernel_rfl) (by kernel_rfl) (by kernel_rfl) (by kernel_rfl) h3 (by omega) (st':=⟨30,[(20,.ptr 0 0 0 0),(27,.own 5 1 0 ((a0.h.l ++ [a1]).length))],[.box 171 [.own 3 1 0 a0.h.l.length],.gone,.obj (Zf Qd.e Qd.nl 178 dom v1),.gone,.flat false 1 172 1 (fun j=>[[pA a1 0]].getD j []),Yh (a0.h.l ++ [a1])]⟩) (by kernel_rfl) ?_
 refine Qi hT 4 [] ⟨30,[],[.box 171 [.own 5 1 0 ((a0.h.l ++ [a1]).length)],.gone,.obj (Zf Qd.e Qd.nl 178 dom v1),.gone,.flat false 1 172 1 (fun j=>[[pA a1 0]].getD j []),Yh (a0.h.l ++ [a1])]⟩ ?_
 obtain rfl:=Zb H
 exact Qz5 hf hX h0 (.Qq []) [0,1,2,5] (ac (.box (.cons (.own _ _ _ _) .nil)) (ac .gone (ac (.obj _) (ac (Qbd nlA) an)))) (.Qq .nil)
theorem Qde.Wl (a0:Xu) (dom:List Nat) (M:Nat->Qd):Yn Tryz.prog 189 [.box 171 [.own 1 1 0 a0.h.l.length],Yh a0.h.l,.obj (Zf Qd.e Qd.nl 178 dom M)] [.ptr 0 0 0 0] [.box 171 [.own 3 1 0 (((((Qde a0 dom M).2).h).l).length)],.gone,.obj (Zf Qd.e Qd.nl 178 dom M),Yh ((((Qde a0 dom M).2).h).l)] (.i ((Qde a0 dom M).1)):=by
 obtain ⟨r,H⟩:∃ r,Qde a0 dom M=r:=⟨_,rfl⟩
 rw [H]
 refine Xt Tryz.func189 rfl (nt:=8) rfl (lb rfl) fun X hP h0 hX=>?_
 have hT:Xl X.P T:=hP▸tok
 have hf:X.P.funcs[189]? = some Tryz.f189:=hP▸Tryz.func189
 refine Qf0 1 (r:=Yh a0.h.l) rfl rfl (st':=⟨8,[(0,.ptr 0 0 0 0)],[.box 171 [.own 3 1 0 a0.h.l.length],.gone,.obj (Zf Qd.e Qd.nl 178 dom M),Yh a0.h.l]⟩) (by kernel_rfl) (by kernel_rfl) rfl ?_
 refine Qi hT 13 (Wk7 11 1) ⟨8,[(2,.i (a0.h.l.length:Int))],[.box 171 [.own 3 1 0 a0.h.l.length],.gone,.obj (Zf Qd.e Qd.nl 178 dom M),Yh a0.h.l]⟩ ?_
 obtain rfl:=H
 exact Yr hf hX h0 (.i (a0.h.l.length:Int)) [0,1,2,3] (ac (.box (.cons (.own _ _ _ _) .nil)) (ac .gone (ac (.obj _) (ac (Qbd nlA) an)))) (.d (.v _))
theorem Qbg.Wl (a0:Int) (a1:Qu):Yn Tryz.prog 62 [] [.i a0,.d (Qaq a1)] [] (.d (Qen (Qbg a0 a1))):=by
 obtain ⟨r,H⟩:∃ r,Qbg a0 a1=r:=⟨_,rfl⟩
 rw [H]
 refine Xt Tryz.func62 rfl (nt:=11) rfl (lb rfl) fun X hP h0 hX=>?_
 have hT:Xl X.P T:=hP▸tok
 have hf:X.P.funcs[62]? = some Tryz.f62:=hP▸Tryz.func62
 refine Qi hT 15 (K62 11 1) ⟨11,[(4,.ptr 1 0 0 0)],[.box 47 (Yk a1),.box 65 [.i a0,.i a1.Client,.i a1.Seq]]⟩ ?_
 obtain rfl:=H
 exact Qjm hT hf hX (av:=.d (.agg [.i a0,.i a1.Client,.i a1.Seq])) (by kernel_rfl) [] (Qb1 (by kernel_rfl)) (by decide) (by rw [h0];rfl) (by kernel_rfl) an (.d (.agg (Jh.nl _)))
theorem Qej.Wl (a0:Nat) (dom:List Nat) (M:Nat->Qd) {r:Jh} (H:Qej a0 dom M=some r):Yn Tryz.prog 188 [.obj (Zf Qd.e Qd.nl 178 dom M)] [.d (pA a0 0)] [.obj (Zf Qd.e Qd.nl 178 dom M)] (.d (Qen r)):=by
 refine Xt Tryz.func188 rfl (nt:=14) rfl (lb rfl) fun X hP h0 hX=>?_
 have hT:Xl X.P T:=hP▸tok
 have hf:X.P.funcs[188]? = some Tryz.f188:=hP▸Tryz.func188
 refine Qi hT 5 (Qzs 11 0) ⟨14,[(0,.d (pA a0 0)),(2,.ptr 1 0 0 0)],[.obj (Zf Qd.e Qd.nl 178 dom M),.box 65 [.i 0,.i 0,.i 0]]⟩ ?_
 obtain ⟨h1,H⟩:=iC H
 refine Qbt (hP▸mixed) 10 [0,2] (sm [.d (pA a0 0),.d (pA a0 0),.d (pA a0 0),.d (pA a0 7),.i (((M a0).h).Time),.d (pA a0 0),.d (pA a0 0),.d (pA a0 0),.d (pA a0 0),.d (.agg [.i ((((M a0).h).M).Client),.i ((((M a0).h).M).Seq),.i ((((M a0).h).M).Kind),Xj true ((((M a0).h).M).Pairs),.i (((((M a0).h).M).Over).Lo),.i (((((M a0).h).M).Over).Hi),.i ((((M a0).h).M).Old)])]) (opS (Qg (Qg (Qg (Qg (opS (Qg (Qg (Qg (Qg op0 hT) hT) hT) hT) (fun R rest h=>Qtz hT (e:=Qd.e) (he:=Qd.nl) (ty:=178) (dom:=dom) (m:=M) 0 (a:=a0) (off:=7) (s:=1) (agg:=false) (dst:=some 7) [.i (((M a0).h).Time)] (by kernel_rfl) (by kernel_rfl) h1 rfl rfl (fun _=>rfl) (by kernel_rfl) h)) hT) hT) hT) hT) (fun R rest h=>Qtz hT (e:=Qd.e) (he:=Qd.nl) (ty:=178) (dom:=dom) (m:=M) 0 (a:=a0) (off:=0) (s:=7) (agg:=true) (dst:=some 12) [.i ((((M a0).h).M).Client),.i ((((M a0).h).M).Seq),.i ((((M a0).h).M).Kind),Xj true ((((M a0).h).M).Pairs),.i (((((M a0).h).M).Over).Lo),.i (((((M a0).h).M).Over).Hi),.i ((((M a0).h).M).Old)] (by kernel_rfl) (by kernel_rfl) h1 rfl rfl (fun h=>by cases h) (by kernel_rfl) h)) ?_
 refine Qi hT 0 (Qzs 110 10) ⟨14,[(2,.ptr 1 0 0 0),(7,.i (((M a0).h).Time)),(12,.d (.agg [.i ((((M a0).h).M).Client),.i ((((M a0).h).M).Seq),.i ((((M a0).h).M).Kind),Xj true ((((M a0).h).M).Pairs),.i (((((M a0).h).M).Over).Lo),.i (((((M a0).h).M).Over).Hi),.i ((((M a0).h).M).Old)]))],[.obj (Zf Qd.e Qd.nl 178 dom M),.box 65 [.i 0,.i 0,.i 0]]⟩ ?_
 refine Wj (Xw:=[.i (((M a0).h).Time),.d (.agg [.i ((((M a0).h).M).Client),.i ((((M a0).h).M).Seq),.i ((((M a0).h).M).Kind),Xj true ((((M a0).h).M).Pairs),.i (((((M a0).h).M).Over).Lo),.i (((((M a0).h).M).Over).Hi),.i ((((M a0).h).M).Old)])]) (dst:=some 13) (k':=(Qzs 110 11)) [2,13] [] hP Qjq (Qbg.Wl (((M a0).h).Time) (⟨(((M a0).h).M).Client,(((M a0).h).M).Seq,(((M a0).h).M).Kind,(((M a0).h).M).Pairs,(⟨((((M a0).h).M).Over).Lo,((((M a0).h).M).Over).Hi⟩:Qb),(((M a0).h).M).Old⟩:Qu)) (by kernel_rfl) (Qz _) (.cons (Qn _) (.cons (Qn _) .nil)) (st':=⟨14,[(2,.ptr 1 0 0 0),(13,.d (Qen (Qbg (((M a0).h).Time) (⟨(((M a0).h).M).Client,(((M a0).h).M).Seq,(((M a0).h).M).Kind,(((M a0).h).M).Pairs,(⟨((((M a0).h).M).Over).Lo,((((M a0).h).M).Over).Hi⟩:Qb),(((M a0).h).M).Old⟩:Qu))))],[.obj (Zf Qd.e Qd.nl 178 dom M),.box 65 [.i 0,.i 0,.i 0]]⟩) (by kernel_rfl) ?_
 obtain ⟨v1,h2,H⟩:=idC H
 rw [<- h2]
 refine Qi hT 2 (Qzs 11 1) ⟨14,[(2,.ptr 1 0 0 0)],[.obj (Zf Qd.e Qd.nl 178 dom M),.box 65 (Qib v1)]⟩ ?_
 obtain rfl:=Zb H
 exact Qjm hT hf hX (av:=.d (Qen v1)) (by kernel_rfl) [0] (Qb1 (by kernel_rfl)) (by decide) (by rw [h0];rfl) (by kernel_rfl) (ac (.obj _) an) (.d (.agg (Jh.nl _)))
theorem cmp_isNaN_int.Wl (a0:Int):Yn Tryz.prog 102 [] [.i a0] [] (.b (cmp_isNaN_int a0)):=by
 obtain ⟨r,H⟩:∃ r,cmp_isNaN_int a0=r:=⟨_,rfl⟩
 rw [H]
 refine Xt Tryz.func102 rfl (nt:=6) rfl (lb rfl) fun X hP h0 hX=>?_
 have hT:Xl X.P T:=hP▸tok
 have hf:X.P.funcs[102]? = some Tryz.f102:=hP▸Tryz.func102
 refine Qi hT 11 (Wk5 11 1) ⟨6,[(2,.b (a0 != a0))],[]⟩ ?_
 obtain rfl:=H
 exact Yr hf hX h0 (.b (a0 != a0)) [] an (.d (.v _))
theorem Yf.Wl (a0:Int) (a1:Int):Yn Tryz.prog 61 [] [.i a0,.i a1] [] (.i (Yf a0 a1)):=by
 obtain ⟨r,H⟩:∃ r,Yf a0 a1=r:=⟨_,rfl⟩
 rw [H]
 refine Xt Tryz.func61 rfl (nt:=20) rfl (lb rfl) fun X hP h0 hX=>?_
 have hT:Xl X.P T:=hP▸tok
 have hf:X.P.funcs[61]? = some Tryz.f61:=hP▸Tryz.func61
 refine Qi hT 7 (K61 110 1) ⟨20,[(0,.i a0),(1,.i a1),(7,.i a0)],[]⟩ ?_
 refine Wj (Xw:=[.i a0]) (dst:=some 8) (k':=(K61 110 2)) [0,1,8] [] hP Qs4 (cmp_isNaN_int.Wl a0) (by kernel_rfl) (Qz _) (.cons (Qn _) .nil) (st':=⟨20,[(0,.i a0),(1,.i a1),(8,.b (cmp_isNaN_int a0))],[]⟩) (by kernel_rfl) ?_
 refine Qi hT 5 (K61 1110 1) ⟨20,[(0,.i a0),(1,.i a1),(5,.b (cmp_isNaN_int a0)),(9,.i a1)],[]⟩ ?_
 refine Wj (Xw:=[.i a1]) (dst:=some 10) (k':=(K61 1110 2)) [0,1,5,10] [] hP Qs4 (cmp_isNaN_int.Wl a1) (by kernel_rfl) (Qz _) (.cons (Qn _) .nil) (st':=⟨20,[(0,.i a0),(1,.i a1),(5,.b (cmp_isNaN_int a0)),(10,.b (cmp_isNaN_int a1))],[]⟩) (by kernel_rfl) ?_
 refine Qi hT 7 (K61 11110 1) ⟨20,[(0,.i a0),(1,.i a1),(6,.b (cmp_isNaN_int a1)),(11,.b (cmp_isNaN_int a0))],[]⟩ ?_
 by_cases c1:(cmp_isNaN_int a0)=true
 ·replace H:=iT c1 H
  rw [c1]
  refine Qi hT 6 (K61 11110100 1) ⟨20,[(12,.b (cmp_isNaN_int a1))],[]⟩ ?_
  by_cases c2:(cmp_isNaN_int a1)=true
  ·replace H:=iT c2 H
   rw [c2]
   refine Qi hT 5 (K61 1111010010 1) ⟨20,[(4,.i 0)],[]⟩ ?_
   obtain rfl:=H
   exact Yr hf hX h0 (.i 0) [] an (.d (.v _))
  replace H:=iF c2 H
  rw [boF c2]
  refine Qi hT 2 (K61 1111010 1) ⟨20,[],[]⟩ ?_
  refine Qi hT 4 (K61 11110101 1) ⟨20,[(4,.i (-1))],[]⟩ ?_
  obtain rfl:=H
  exact Yr hf hX h0 (.i (-1)) [] an (.d (.v _))
 replace H:=iF c1 H
 rw [boF c1]
 refine Qi hT 2 (K61 1111 1) ⟨20,[(0,.i a0),(1,.i a1),(6,.b (cmp_isNaN_int a1))],[]⟩ ?_
 refine Qi hT 5 (K61 111110 1) ⟨20,[(0,.i a0),(1,.i a1),(13,.b (cmp_isNaN_int a1))],[]⟩ ?_
 by_cases c3:(cmp_isNaN_int a1)=true
 ·replace H:=iT c3 H
  rw [c3]
  refine Qi hT 5 (K61 11111010 1) ⟨20,[(4,.i 1)],[]⟩ ?_
  obtain rfl:=H
  exact Yr hf hX h0 (.i 1) [] an (.d (.v _))
 replace H:=iF c3 H
 rw [boF c3]
 refine Qi hT 2 (K61 11111 1) ⟨20,[(0,.i a0),(1,.i a1)],[]⟩ ?_
 refine Qi hT 7 (K61 1111110 1) ⟨20,[(0,.i a0),(1,.i a1),(16,.b (decide (a0 < a1)))],[]⟩ ?_
 by_cases c4:a0 < a1
 ·replace H:=iT c4 H
  rw [decide_eq_true c4]
  refine Qi hT 5 (K61 111111010 1) ⟨20,[(4,.i (-1))],[]⟩ ?_
  obtain rfl:=H
  exact Yr hf hX h0 (.i (-1)) [] an (.d (.v _))
 replace H:=iF c4 H
 rw [decide_eq_false c4]
 refine Qi hT 2 (K61 111111 1) ⟨20,[(0,.i a0),(1,.i a1)],[]⟩ ?_
 refine Qi hT 7 (K61 11111110 1) ⟨20,[(19,.b (decide (a0 > a1)))],[]⟩ ?_
 by_cases c5:a0 > a1
 ·replace H:=iT c5 H
  rw [decide_eq_true c5]
  refine Qi hT 5 (K61 1111111010 1) ⟨20,[(4,.i 1)],[]⟩ ?_
  obtain rfl:=H
  exact Yr hf hX h0 (.i 1) [] an (.d (.v _))
 replace H:=iF c5 H
 rw [decide_eq_false c5]
 refine Qi hT 2 (K61 1111111 1) ⟨20,[],[]⟩ ?_
 refine Qi hT 4 (K61 11111111 1) ⟨20,[(4,.i 0)],[]⟩ ?_
 obtain rfl:=H
 exact Yr hf hX h0 (.i 0) [] an (.d (.v _))
abbrev Jt.p0 (t0:Bool) (a0:List Int):List (Nat × AV):=[(3,.i 0),(6,.d (eL3 t0 a0)),(7,.i (a0.length:Int))]
theorem Jt.Wl {t0:Bool} (a0:List Int) {r:Int} (H:Jt a0=some r):Yn Tryz.prog 60 [] [.d (eL3 t0 a0)] [] (.i r):=by
 refine Xt Tryz.func60 rfl (nt:=18) rfl (lb rfl) fun X hP h0 hX=>?_
 have hT:Xl X.P T:=hP▸tok
 have hf:X.P.funcs[60]? = some Tryz.f60:=hP▸Tryz.func60
 refine Qi hT 17 (K60 111010 0) ⟨18,(Jt.p0 t0 a0++[(8,.i 0)]),[]⟩ ?_
 have L:∀ n,(∀ (Qy:Int),iter (Jt.step a0) n (.l1 Qy)=some r->AK X 60 ((K60 111010 0)) (Jb X [] (.i r)) ⟨18,(Jt.p0 t0 a0++[(8,.i Qy)]),[]⟩):=by
  intro n
  induction n with
  | zero=>exact fun _ H=>Qbx H
  | succ n ih=>
   ·intro Qy H
    refine Qi hT 5 (K60 11101001 0) ⟨18,(Jt.p0 t0 a0++[(8,.i Qy),(9,.b (decide (Qy < (a0.length:Int))))]),[]⟩ ?_
    by_cases c1:Qy < (a0.length:Int)
    ·replace H:=sT c1 H
     rw [decide_eq_true c1]
     refine Qi hT 2 (K60 11101001 1) ⟨18,(Jt.p0 t0 a0++[(8,.i Qy)]),[]⟩ ?_
     refine Qi hT 4 (K60 111010011000 0) ⟨18,(Jt.p0 t0 a0++[(8,.i Qy)]),[]⟩ ?_
     obtain ⟨h2,H⟩:=sC H
     refine Qa7 hT [3,6,7,8,10] (i:=Qy) (n:=(a0.length:Int)) h2.1 h2.2 (k':=(K60 111010011000 1)) (st':=⟨18,(Jt.p0 t0 a0++[(8,.i Qy),(10,.d (eP3 t0 a0 Qy.toNat 0))]),[]⟩) (by kernel_rfl) ?_
     refine Qi hT 9 (K60 111010011001 1) ⟨18,[(3,.i 0),(5,.i (a0.getD Qy.toNat 0)),(6,.d (eL3 t0 a0)),(7,.i (a0.length:Int)),(8,.i Qy),(14,.b ((a0.getD Qy.toNat 0) != 0))],[]⟩ ?_
     by_cases c3:(a0.getD Qy.toNat 0)=0
     ·replace H:=sT c3 H
      rw [neF c3]
      refine Qi hT 3 (K60 111010011 1) ⟨18,(Jt.p0 t0 a0++[(8,.i Qy)]),[]⟩ ?_
      refine Qi hT 5 (K60 111010 0) ⟨18,(Jt.p0 t0 a0++[(8,.i (IntKind.wrap .i64 (Qy+1)))]),[]⟩ ?_
      exact ih (IntKind.wrap .i64 (Qy+1)) H
     replace H:=sF c3 H
     rw [neT c3]
     refine Qi hT 6 (K60 11101001100110 1) ⟨18,[(2,.i (a0.getD Qy.toNat 0))],[]⟩ ?_
     obtain rfl:=Zb H
     exact Yr hf hX h0 (.i (a0.getD Qy.toNat 0)) [] an (.d (.v _))
    replace H:=sF c1 H
    rw [decide_eq_false c1]
    refine Qi hT 7 (K60 1111 1) ⟨18,[(2,.i 0)],[]⟩ ?_
    obtain rfl:=Zb H
    exact Yr hf hX h0 (.i 0) [] an (.d (.v _))
 obtain ⟨n,H⟩:=Qcn H
 exact (L n) 0 H
abbrev Qbs.q1 (a0:Jh) (a1:Jh):=([Yf a0.Time a1.Time,Yf a0.Client a1.Client,Yf a0.Seq a1.Seq]:List Int)
theorem Qbs.Wl (a0:Jh) (a1:Jh) {r:Int} (H:Qbs a0 a1=some r):Yn Tryz.prog 27 [] [.d (Qen a0),.d (Qen a1)] [] (.i r):=by
 refine Xt Tryz.func27 rfl (nt:=22) rfl (lb rfl) fun X hP h0 hX=>?_
 have hT:Xl X.P T:=hP▸tok
 have hf:X.P.funcs[27]? = some Tryz.f27:=hP▸Tryz.func27
 refine Qi hT 7 (K27 11 0) ⟨22,[(2,.ptr 0 0 0 0),(3,.ptr 1 0 0 0)],[.box 65 (Qib a0),.box 65 (Qib a1)]⟩ ?_
 refine Qbt (hP▸mixed) 14 [2,3] (sm [.ptr 0 0 0 0,.i a0.Time,.ptr 1 0 0 0,.i a1.Time,.i (Yf a0.Time a1.Time),.ptr 0 0 0 1,.i a0.Client,.ptr 1 0 0 1,.i a1.Client,.i (Yf a0.Client a1.Client),.ptr 0 0 0 2,.i a0.Seq,.ptr 1 0 0 2,.i a1.Seq]) (Qg (Qg (Qg (Qg (opS (Qg (Qg (Qg (Qg (opS (Qg (Qg (Qg (Qg op0 hT) hT) hT) hT) (fun R rest h=>Jz (Xw:=[.i a0.Time,.i a1.Time]) (dst:=some 9) hP Qie (Yf.Wl a0.Time a1.Time) (by kernel_rfl) (.cons (Qn _) (.cons (Qn _) .nil)) (by kernel_rfl) h)) hT) hT) hT) hT) (fun R rest h=>Jz (Xw:=[.i a0.Client,.i a1.Client]) (dst:=some 14) hP Qie (Yf.Wl a0.Client a1.Client) (by kernel_rfl) (.cons (Qn _) (.cons (Qn _) .nil)) (by kernel_rfl) h)) hT) hT) hT) hT) ?_
 refine Qi hT 0 (K27 110 14) ⟨22,[(9,.i (Yf a0.Time a1.Time)),(14,.i (Yf a0.Client a1.Client)),(16,.i a0.Seq),(18,.i a1.Seq)],[.box 65 (Qib a0),.box 65 (Qib a1)]⟩ ?_
 refine Wj (Xw:=[.i a0.Seq,.i a1.Seq]) (dst:=some 19) (k':=(K27 110 15)) [9,14,19] [] hP Qie (Yf.Wl a0.Seq a1.Seq) (by kernel_rfl) (Qz _) (.cons (Qn _) (.cons (Qn _) .nil)) (st':=⟨22,[(9,.i (Yf a0.Time a1.Time)),(14,.i (Yf a0.Client a1.Client)),(19,.i (Yf a0.Seq a1.Seq))],[.box 65 (Qib a0),.box 65 (Qib a1)]⟩) (by kernel_rfl) ?_
 refine Qi hT 1 (K27 110 16) ⟨22,[(20,.own 2 1 0 3)],[.box 65 (Qib a0),.box 65 (Qib a1),.flat false 1 3 3 (fun j=>[[.i (Yf a0.Time a1.Time)],[.i (Yf a0.Client a1.Client)],[.i (Yf a0.Seq a1.Seq)]].getD j [])]⟩ ?_
 refine Qi9 2 (kk:=1) (fz:=false) (ty:=3) (n:=(Qbs.q1 a0 a1).length) (vec (eI .i64) 0 (Qbs.q1 a0 a1)) (by kernel_rfl) Qhx (st':=⟨22,[(20,.own 2 1 0 ((Qbs.q1 a0 a1).length))],[.box 65 (Qib a0),.box 65 (Qib a1),eR3 (Qbs.q1 a0 a1)]⟩) (by kernel_rfl) ?_
 obtain ⟨v1,h1,H⟩:=ibC H
 refine Wj (Xw:=[.own 2 1 0 ((Qbs.q1 a0 a1).length)]) (dst:=some 21) (k':=(K27 110 17)) [21] [] hP Qu5 (Jt.Wl (t0:=false) (Qbs.q1 a0 a1) h1) (by kernel_rfl) (Qz _) (.cons (.Qd4 (ty:=3) (by kernel_rfl) rfl) .nil) (st':=⟨22,[(21,.i v1)],[.box 65 (Qib a0),.box 65 (Qib a1),eR3 (Qbs.q1 a0 a1)]⟩) (by kernel_rfl) ?_
 refine Qi hT 2 (K27 11 1) ⟨22,[(4,.i v1)],[.box 65 (Qib a0),.box 65 (Qib a1),eR3 (Qbs.q1 a0 a1)]⟩ ?_
 obtain rfl:=Zb H
 exact Yr hf hX h0 (.i v1) [] an (.d (.v _))
theorem Qfv.Wl (a0:Xu) (a1:Int) (a2:Int) (dom:List Nat) (M:Nat->Qd) {r:Bool × Xu} (H:Qfv a0 a1 a2 dom M=some r):Yn Tryz.prog 190 [.box 171 [.own 1 1 0 a0.h.l.length],Yh a0.h.l,.obj (Zf Qd.e Qd.nl 178 dom M)] [.ptr 0 0 0 0,.i a1,.i a2] [.box 171 [.own 3 1 0 r.2.h.l.length],.gone,.obj (Zf Qd.e Qd.nl 178 dom M),Yh r.2.h.l] (.b r.1):=by
 refine Xt Tryz.func190 rfl (nt:=25) rfl (lb rfl) fun X hP h0 hX=>?_
 have hT:Xl X.P T:=hP▸tok
 have hf:X.P.funcs[190]? = some Tryz.f190:=hP▸Tryz.func190
 refine Qf0 1 (r:=Yh a0.h.l) rfl rfl (st':=⟨25,[(0,.ptr 0 0 0 0),(1,.i a1),(2,.i a2)],[.box 171 [.own 3 1 0 a0.h.l.length],.gone,.obj (Zf Qd.e Qd.nl 178 dom M),Yh a0.h.l]⟩) (by kernel_rfl) (by kernel_rfl) rfl ?_
 refine Qi hT 5 (Qwm 11 0) ⟨25,[(0,.ptr 0 0 0 0),(1,.i a1),(2,.i a2)],[.box 171 [.own 3 1 0 a0.h.l.length],.gone,.obj (Zf Qd.e Qd.nl 178 dom M),Yh a0.h.l]⟩ ?_
 obtain ⟨h1,H⟩:=iC H
 obtain ⟨v1,h2,H⟩:=ibC H
 obtain ⟨h3,H⟩:=iC H
 refine Qbt (hP▸mixed) 15 [0,1,2] (sm [.ptr 0 0 0 0,.ptr 0 0 0 0,.ptr 0 0 0 0,.own 3 1 0 a0.h.l.length,.i a1,.ptr 3 1 a1.toNat 0,.d (pA (a0.h.l.getD a1.toNat 0) 0),.d (Qen v1),.ptr 0 0 0 0,.ptr 0 0 0 0,.ptr 0 0 0 0,.own 3 1 0 a0.h.l.length,.i a2,.ptr 3 1 a2.toNat 0,.d (pA (a0.h.l.getD a2.toNat 0) 0)]) (opS (opS (Qg (Qg (Qg (Qg (Qg (opS (opS (opS (Qg (Qg (Qg (Qg (Qg op0 hT) hT) hT) hT) hT) (fun R rest h=>Qae hT (i:=a1) (n:=(a0.h.l.length:Int)) h1.1 h1.2 (by kernel_rfl) h)) (fun R rest h=>Qi7 hT (i:=a1.toNat) (n:=a0.h.l.length) (ltN h1.1 h1.2) (by kernel_rfl) h)) (fun R rest h=>Wcr (Xw:=[.d (pA (a0.h.l.getD a1.toNat 0) 0)]) (dst:=some 14) [2] hP Qtb (Qej.Wl (a0.h.l.getD a1.toNat 0) dom M h2) (by kernel_rfl) (Qd3 rfl rfl) (.cons (Qn _) .nil) (by kernel_rfl) h)) hT) hT) hT) hT) hT) (fun R rest h=>Qae hT (i:=a2) (n:=(a0.h.l.length:Int)) h3.1 h3.2 (by kernel_rfl) h)) (fun R rest h=>Qi7 hT (i:=a2.toNat) (n:=a0.h.l.length) (ltN h3.1 h3.2) (by kernel_rfl) h)) ?_
 refine Qi hT 0 (Qwm 110 15) ⟨25,[(14,.d (Qen v1)),(21,.d (pA (a0.h.l.getD a2.toNat 0) 0))],[.box 171 [.own 3 1 0 a0.h.l.length],.gone,.obj (Zf Qd.e Qd.nl 178 dom M),Yh a0.h.l]⟩ ?_
 obtain ⟨v2,h4,H⟩:=ibC H
 refine Wj (Xw:=[.d (pA (a0.h.l.getD a2.toNat 0) 0)]) (dst:=some 22) (k':=(Qwm 110 16)) [14,22] [2] hP Qtb (Qej.Wl (a0.h.l.getD a2.toNat 0) dom M h4) (by kernel_rfl) (Qd3 rfl rfl) (.cons (Qn _) .nil) (st':=⟨25,[(14,.d (Qen v1)),(22,.d (Qen v2))],[.box 171 [.own 3 1 0 a0.h.l.length],.gone,.obj (Zf Qd.e Qd.nl 178 dom M),Yh a0.h.l]⟩) (by kernel_rfl) ?_
 obtain ⟨v3,h5,H⟩:=ibC H
 refine Wj (Xw:=[.d (Qen v1),.d (Qen v2)]) (dst:=some 23) (k':=(Qwm 110 17)) [23] [] hP Qmu (Qbs.Wl v1 v2 h5) (by kernel_rfl) (Qz _) (.cons (Qn _) (.cons (Qn _) .nil)) (st':=⟨25,[(23,.i v3)],[.box 171 [.own 3 1 0 a0.h.l.length],.gone,.obj (Zf Qd.e Qd.nl 178 dom M),Yh a0.h.l]⟩) (by kernel_rfl) ?_
 refine Qi hT 3 (Qwm 11 1) ⟨25,[(6,.b (decide (v3 < 0)))],[.box 171 [.own 3 1 0 a0.h.l.length],.gone,.obj (Zf Qd.e Qd.nl 178 dom M),Yh a0.h.l]⟩ ?_
 obtain rfl:=Zb H
 exact Yr hf hX h0 (.b (decide (v3 < 0))) [0,1,2,3] (ac (.box (.cons (.own _ _ _ _) .nil)) (ac .gone (ac (.obj _) (ac (Qbd nlA) an)))) (.d (.v _))
abbrev Wm.q1 (v1:List Nat) (a2:Int) (a0:Xu) (a1:Int):=(v1.set a2.toNat (a0.h.l.getD a1.toNat 0))
abbrev Wm.p0 (a1:Int) (a2:Int):List (Nat × AV):=[(0,.ptr 0 0 0 0),(1,.i a1),(2,.i a2)]
theorem Wm.Wl (a0:Xu) (a1:Int) (a2:Int) (dom:List Nat) (M:Nat->Qd) {r:Xu × (Nat->Qd)} (H:Wm a0 a1 a2 dom M=some r):Yn Tryz.prog 192 [.box 171 [.own 1 1 0 a0.h.l.length],Yh a0.h.l,.obj (Zf Qd.e Qd.nl 178 dom M)] [.ptr 0 0 0 0,.i a1,.i a2] [.box 171 [.own 3 1 0 r.1.h.l.length],.gone,.obj (Zf Qd.e Qd.nl 178 dom r.2),Yh r.1.h.l] (.Qq []):=by
 refine Xt Tryz.func192 rfl (nt:=52) rfl (lb rfl) fun X hP h0 hX=>?_
 have hT:Xl X.P T:=hP▸tok
 have hf:X.P.funcs[192]? = some Tryz.f192:=hP▸Tryz.func192
 refine Qf0 1 (r:=Yh a0.h.l) rfl rfl (st':=⟨52,(Wm.p0 a1 a2),[.box 171 [.own 3 1 0 a0.h.l.length],.gone,.obj (Zf Qd.e Qd.nl 178 dom M),Yh a0.h.l]⟩) (by kernel_rfl) (by kernel_rfl) rfl ?_
 refine Qi hT 1 (Qtv 1 0) ⟨52,(Wm.p0 a1 a2),[.box 171 [.own 3 1 0 a0.h.l.length],.gone,.obj (Zf Qd.e Qd.nl 178 dom M),Yh a0.h.l]⟩ ?_
 obtain ⟨h1,H⟩:=iC H
 obtain ⟨h2,H⟩:=iC H
 refine Qsz (nt:=52) (hP▸mixed) 26 [25] [0,1,2] [(0,.ptr 0 0 0 0),(1,.i a1),(2,.i a2)] [some (.ptr 0 0 0 0),some (.ptr 0 0 0 0),some (.ptr 0 0 0 0),some (.own 3 1 0 a0.h.l.length),some (.i a1),some (.ptr 0 0 0 0),some (.ptr 0 0 0 0),some (.ptr 0 0 0 0),some (.own 3 1 0 a0.h.l.length),some (.i a2),some (.ptr 0 0 0 0),some (.ptr 0 0 0 0),some (.ptr 0 0 0 0),some (.own 3 1 0 a0.h.l.length),some (.i a2),some (.ptr 3 1 a2.toNat 0),some (.d (pA (a0.h.l.getD a2.toNat 0) 0)),some (.ptr 0 0 0 0),some (.ptr 0 0 0 0),some (.ptr 0 0 0 0),some (.own 3 1 0 a0.h.l.length),some (.i a1),some (.ptr 3 1 a1.toNat 0),some (.d (pA (a0.h.l.getD a1.toNat 0) 0)),some (.ptr 3 1 a1.toNat 0),none] [[.box 171 [.own 3 1 0 a0.h.l.length],.gone,.obj (Zf Qd.e Qd.nl 178 dom M),Yh a0.h.l],[.box 171 [.own 3 1 0 a0.h.l.length],.gone,.obj (Zf Qd.e Qd.nl 178 dom M),.flat false 1 172 a0.h.l.length (vec eA 0 (a0.h.l.set a1.toNat (a0.h.l.getD a2.toNat 0)))]] (by kernel_rfl) (by kernel_rfl) (by kernel_rfl) (by kernel_rfl) ⟨(Wbx (Qnl (Qnl (Qnl (Qdz (Qdz (Qdz (Qdz (Qdz (Qnl (Qnl (Qdz (Qdz (Qdz (Qdz (Qdz (Qdz (Qdz (Qdz (Qdz (Qdz (Qdz (Qdz (Qdz (Qdz (Qdz Wbw hT) hT) hT) hT) hT) hT) hT) hT) hT) hT) hT) hT) hT) hT) hT) (fun R rest h=>Qae hT (i:=a2) (n:=(a0.h.l.length:Int)) h1.1 h1.2 (by kernel_rfl) h)) (fun R rest h=>Qi7 hT (i:=a2.toNat) (n:=a0.h.l.length) (ltN h1.1 h1.2) (by kernel_rfl) h)) hT) hT) hT) hT) hT) (fun R rest h=>Qae hT (i:=a1) (n:=(a0.h.l.length:Int)) h2.1 h2.2 (by kernel_rfl) h)) (fun R rest h=>Qi7 hT (i:=a1.toNat) (n:=a0.h.l.length) (ltN h2.1 h2.2) (by kernel_rfl) h)) (fun R rest h=>Qae hT (i:=a1) (n:=(a0.h.l.length:Int)) h2.1 h2.2 (by kernel_rfl) h))),(fun R rest h=>Wc0 (id:=3) (kk:=1) (i:=a1.toNat) (off:=0) (s:=1) (n:=a0.h.l.length) (ty:=172) (ds:=[pA (a0.h.l.getD a2.toNat 0) 0]) (g:=vec eA 0 a0.h.l) hT (vec eA 0 (a0.h.l.set a1.toNat (a0.h.l.getD a2.toNat 0))) (by kernel_rfl) (by kernel_rfl) (ltN h2.1 h2.2) ((Qn4 (ltN h2.1 h2.2)).trans (by kernel_rfl)) Qkd rfl h),(Wbx (Qdf (Qdf (Qdf (Qdf (Qdf (Qdf (Qdf (Qdf (Qdf (Qdf (Qdf (Qdf (Qdf (Qdf (Qdf (Qdz (Qdf (Qdf (Qdf (Qdf (Qdf (Qdf (Qdf (Qdf (Qdf Wbw))))))))) hT)))))))))))))))))⟩ ?_
 refine Wil [0,1,2,14,15,29] (st':=⟨52,(Wm.p0 a1 a2++[(14,.own 3 1 0 (a0.h.l.length)),(15,.i a2),(29,.d (pA (a0.h.l.getD a1.toNat 0) 0))]),[.box 171 [.own 3 1 0 (a0.h.l.length)],.gone,.obj (Zf Qd.e Qd.nl 178 dom M),.flat false 1 172 a0.h.l.length (vec eA 0 (a0.h.l.set a1.toNat (a0.h.l.getD a2.toNat 0)))]⟩) (by kernel_rfl) ?_
 refine Qoa (show a0.h.l.length=(a0.h.l.set a1.toNat (a0.h.l.getD a2.toNat 0)).length from by simp only [List.length_set]) (fun nn=>⟨52,(Wm.p0 a1 a2++[(14,.own 3 1 0 (nn)),(15,.i a2),(29,.d (pA (a0.h.l.getD a1.toNat 0) 0))]),[.box 171 [.own 3 1 0 (nn)],.gone,.obj (Zf Qd.e Qd.nl 178 dom M),.flat false 1 172 nn (vec eA 0 (a0.h.l.set a1.toNat (a0.h.l.getD a2.toNat 0)))]⟩) ?_
 obtain ⟨v1,h3,H⟩:=idC H
 rw [<- h3]
 obtain ⟨h4,H⟩:=iC H
 refine Qa7 hT [0,1,2,29,31] (i:=a2) (n:=(v1.length:Int)) h4.1 h4.2 (k':=(Qtv 10 27)) (st':=⟨52,(Wm.p0 a1 a2++[(29,.d (pA (a0.h.l.getD a1.toNat 0) 0)),(31,.ptr 3 1 a2.toNat 0)]),[.box 171 [.own 3 1 0 v1.length],.gone,.obj (Zf Qd.e Qd.nl 178 dom M),Yh v1]⟩) (by kernel_rfl) ?_
 refine Qwb (id:=3) (kk:=1) (i:=a2.toNat) (off:=0) (s:=1) (n:=v1.length) (ty:=172) (ds:=[pA (a0.h.l.getD a1.toNat 0) 0]) (g:=vec eA 0 v1) (k':=(Qtv 10 28)) hT [0,1,2] (vec eA 0 (Wm.q1 v1 a2 a0 a1)) (by kernel_rfl) (by kernel_rfl) (ltN h4.1 h4.2) ((Qn4 (ltN h4.1 h4.2)).trans (by kernel_rfl)) Qkd (st':=⟨52,(Wm.p0 a1 a2),[.box 171 [.own 3 1 0 (v1.length)],.gone,.obj (Zf Qd.e Qd.nl 178 dom M),.flat false 1 172 v1.length (vec eA 0 (Wm.q1 v1 a2 a0 a1))]⟩) (by kernel_rfl) ?_
 refine Qoa (show v1.length=(Wm.q1 v1 a2 a0 a1).length from (List.length_set ..).symm) (fun nn=>⟨52,(Wm.p0 a1 a2),[.box 171 [.own 3 1 0 (nn)],.gone,.obj (Zf Qd.e Qd.nl 178 dom M),.flat false 1 172 nn (vec eA 0 (Wm.q1 v1 a2 a0 a1))]⟩) ?_
 refine Qi hT 1 (Qtv 1 1) ⟨52,(Wm.p0 a1 a2),[.box 171 [.own 3 1 0 ((Wm.q1 v1 a2 a0 a1).length)],.gone,.obj (Zf Qd.e Qd.nl 178 dom M),Yh (Wm.q1 v1 a2 a0 a1)]⟩ ?_
 obtain ⟨h5,H⟩:=iC H
 obtain ⟨h6,H⟩:=iC H
 obtain ⟨h7,H⟩:=iC H
 refine Qsz (nt:=52) (hP▸mixed) 19 [18] [0,1,2] [(0,.ptr 0 0 0 0),(1,.i a1),(2,.i a2)] [some (.ptr 0 0 0 0),some (.ptr 0 0 0 0),some (.ptr 0 0 0 0),some (.own 3 1 0 ((Wm.q1 v1 a2 a0 a1).length)),some (.i a1),some (.ptr 3 1 a1.toNat 0),some (.d (pA ((Wm.q1 v1 a2 a0 a1).getD a1.toNat 0) 0)),some (.ptr 0 0 0 0),some (.ptr 0 0 0 0),some (.ptr 0 0 0 0),some (.own 3 1 0 ((Wm.q1 v1 a2 a0 a1).length)),some (.i a2),some (.ptr 3 1 a2.toNat 0),some (.d (pA ((Wm.q1 v1 a2 a0 a1).getD a2.toNat 0) 0)),some (.i a1),some (.i a2),some (.d (pA ((Wm.q1 v1 a2 a0 a1).getD a1.toNat 0) 0)),some (.d (pA ((Wm.q1 v1 a2 a0 a1).getD a1.toNat 0) 9)),none] [[.box 171 [.own 3 1 0 ((Wm.q1 v1 a2 a0 a1).length)],.gone,.obj (Zf Qd.e Qd.nl 178 dom M),Yh (Wm.q1 v1 a2 a0 a1)],[.box 171 [.own 3 1 0 ((Wm.q1 v1 a2 a0 a1).length)],.gone,.obj (Zf Qd.e Qd.nl 178 dom (upd M ((Wm.q1 v1 a2 a0 a1).getD a1.toNat 0) (⟨(⟨(⟨(((M ((Wm.q1 v1 a2 a0 a1).getD a1.toNat 0)).h).M).Client,(((M ((Wm.q1 v1 a2 a0 a1).getD a1.toNat 0)).h).M).Seq,(((M ((Wm.q1 v1 a2 a0 a1).getD a1.toNat 0)).h).M).Kind,(((M ((Wm.q1 v1 a2 a0 a1).getD a1.toNat 0)).h).M).Pairs,(⟨((((M ((Wm.q1 v1 a2 a0 a1).getD a1.toNat 0)).h).M).Over).Lo,((((M ((Wm.q1 v1 a2 a0 a1).getD a1.toNat 0)).h).M).Over).Hi⟩:Qb),(((M ((Wm.q1 v1 a2 a0 a1).getD a1.toNat 0)).h).M).Old⟩:Qu),((M ((Wm.q1 v1 a2 a0 a1).getD a1.toNat 0)).h).Time,((M ((Wm.q1 v1 a2 a0 a1).getD a1.toNat 0)).h).Qda⟩:Yo),a1⟩:Qd))),Yh (Wm.q1 v1 a2 a0 a1)]] (by kernel_rfl) (by kernel_rfl) (by kernel_rfl) (by kernel_rfl) ⟨(Wbx (Qdz (Qdz (Qdz (Qdz (Qnl (Qnl (Qdz (Qdz (Qdz (Qdz (Qdz (Qnl (Qnl (Qdz (Qdz (Qdz (Qdz (Qdz Wbw hT) hT) hT) hT) hT) (fun R rest h=>Qae hT (i:=a1) (n:=((Wm.q1 v1 a2 a0 a1).length:Int)) h5.1 h5.2 (by kernel_rfl) h)) (fun R rest h=>Qi7 hT (i:=a1.toNat) (n:=(Wm.q1 v1 a2 a0 a1).length) (ltN h5.1 h5.2) (by kernel_rfl) h)) hT) hT) hT) hT) hT) (fun R rest h=>Qae hT (i:=a2) (n:=((Wm.q1 v1 a2 a0 a1).length:Int)) h6.1 h6.2 (by kernel_rfl) h)) (fun R rest h=>Qi7 hT (i:=a2.toNat) (n:=(Wm.q1 v1 a2 a0 a1).length) (ltN h6.1 h6.2) (by kernel_rfl) h)) hT) hT) hT) hT)),(fun R rest h=>Qyt hT (e:=Qd.e) (he:=Qd.nl) (ty:=178) (dom:=dom) (m:=M) 2 (a:=((Wm.q1 v1 a2 a0 a1).getD a1.toNat 0)) (off:=9) (s:=1) (ds:=[.i a1]) (⟨(⟨(⟨(((M ((Wm.q1 v1 a2 a0 a1).getD a1.toNat 0)).h).M).Client,(((M ((Wm.q1 v1 a2 a0 a1).getD a1.toNat 0)).h).M).Seq,(((M ((Wm.q1 v1 a2 a0 a1).getD a1.toNat 0)).h).M).Kind,(((M ((Wm.q1 v1 a2 a0 a1).getD a1.toNat 0)).h).M).Pairs,(⟨((((M ((Wm.q1 v1 a2 a0 a1).getD a1.toNat 0)).h).M).Over).Lo,((((M ((Wm.q1 v1 a2 a0 a1).getD a1.toNat 0)).h).M).Over).Hi⟩:Qb),(((M ((Wm.q1 v1 a2 a0 a1).getD a1.toNat 0)).h).M).Old⟩:Qu),((M ((Wm.q1 v1 a2 a0 a1).getD a1.toNat 0)).h).Time,((M ((Wm.q1 v1 a2 a0 a1).getD a1.toNat 0)).h).Qda⟩:Yo),a1⟩:Qd) (by kernel_rfl) (by kernel_rfl) h7 (lb rfl) rfl rfl h),(Wbx (Qdf (Qdf (Qdz (Qdf (Qdf (Qdf (Qdf (Qdf (Qdf (Qdf (Qdf (Qdf (Qdf (Qdf (Qdf (Qdf (Qdf (Qdf Wbw))))))))))))))) hT))))⟩ ?_
 obtain ⟨v2,h8,H⟩:=idC H
 rw [<- h8]
 refine Qi hT 2 (Qtv 11 21) ⟨52,[(47,.i a2),(51,.d (pA ((Wm.q1 v1 a2 a0 a1).getD a2.toNat 0) 9))],[.box 171 [.own 3 1 0 ((Wm.q1 v1 a2 a0 a1).length)],.gone,.obj (Zf Qd.e Qd.nl 178 dom v2),Yh (Wm.q1 v1 a2 a0 a1)]⟩ ?_
 obtain ⟨h9,H⟩:=iC H
 refine Wc1 hT [] (e:=Qd.e) (he:=Qd.nl) (ty:=178) (dom:=dom) (m:=v2) 2 (a:=(Wm.q1 v1 a2 a0 a1).getD a2.toNat 0) (off:=9) (s:=1) (ds:=[.i a2]) (k':=(Qtv 11 22)) (⟨(⟨(⟨(((v2 ((Wm.q1 v1 a2 a0 a1).getD a2.toNat 0)).h).M).Client,(((v2 ((Wm.q1 v1 a2 a0 a1).getD a2.toNat 0)).h).M).Seq,(((v2 ((Wm.q1 v1 a2 a0 a1).getD a2.toNat 0)).h).M).Kind,(((v2 ((Wm.q1 v1 a2 a0 a1).getD a2.toNat 0)).h).M).Pairs,(⟨((((v2 ((Wm.q1 v1 a2 a0 a1).getD a2.toNat 0)).h).M).Over).Lo,((((v2 ((Wm.q1 v1 a2 a0 a1).getD a2.toNat 0)).h).M).Over).Hi⟩:Qb),(((v2 ((Wm.q1 v1 a2 a0 a1).getD a2.toNat 0)).h).M).Old⟩:Qu),((v2 ((Wm.q1 v1 a2 a0 a1).getD a2.toNat 0)).h).Time,((v2 ((Wm.q1 v1 a2 a0 a1).getD a2.toNat 0)).h).Qda⟩:Yo),a2⟩:Qd) (by kernel_rfl) (by kernel_rfl) h9 (lb rfl) rfl (st':=⟨52,[],[.box 171 [.own 3 1 0 ((Wm.q1 v1 a2 a0 a1).length)],.gone,.obj (Zf Qd.e Qd.nl 178 dom (upd v2 ((Wm.q1 v1 a2 a0 a1).getD a2.toNat 0) (⟨(⟨(⟨(((v2 ((Wm.q1 v1 a2 a0 a1).getD a2.toNat 0)).h).M).Client,(((v2 ((Wm.q1 v1 a2 a0 a1).getD a2.toNat 0)).h).M).Seq,(((v2 ((Wm.q1 v1 a2 a0 a1).getD a2.toNat 0)).h).M).Kind,(((v2 ((Wm.q1 v1 a2 a0 a1).getD a2.toNat 0)).h).M).Pairs,(⟨((((v2 ((Wm.q1 v1 a2 a0 a1).getD a2.toNat 0)).h).M).Over).Lo,((((v2 ((Wm.q1 v1 a2 a0 a1).getD a2.toNat 0)).h).M).Over).Hi⟩:Qb),(((v2 ((Wm.q1 v1 a2 a0 a1).getD a2.toNat 0)).h).M).Old⟩:Qu),((v2 ((Wm.q1 v1 a2 a0 a1).getD a2.toNat 0)).h).Time,((v2 ((Wm.q1 v1 a2 a0 a1).getD a2.toNat 0)).h).Qda⟩:Yo),a2⟩:Qd))),Yh (Wm.q1 v1 a2 a0 a1)]⟩) (by kernel_rfl) ?_
 obtain ⟨v3,h10,H⟩:=idC H
 rw [<- h10]
 refine Qi hT 1 [] ⟨52,[],[.box 171 [.own 3 1 0 ((Wm.q1 v1 a2 a0 a1).length)],.gone,.obj (Zf Qd.e Qd.nl 178 dom v3),Yh (Wm.q1 v1 a2 a0 a1)]⟩ ?_
 obtain rfl:=Zb H
 exact Qz5 hf hX h0 (.Qq []) [0,1,2,3] (ac (.box (.cons (.own _ _ _ _) .nil)) (ac .gone (ac (.obj _) (ac (Qbd nlA) an)))) (.Qq .nil)
abbrev Zo.p0:List (Nat × AV):=[(0,.ifc 175 (.ptr 0 0 0 0))]
theorem Zo.Wl (a0:Xu) (a1:Int) (dom:List Nat) (M:Nat->Qd) {r:Xu × (Nat->Qd)} (H:Zo a0 a1 dom M=some r):Yn Tryz.prog 140 [.box 171 [.own 1 1 0 a0.h.l.length],Yh a0.h.l,.obj (Zf Qd.e Qd.nl 178 dom M)] [.ifc 175 (.ptr 0 0 0 0),.i a1] [.box 171 [.own 3 1 0 r.1.h.l.length],.gone,.obj (Zf Qd.e Qd.nl 178 dom r.2),Yh r.1.h.l] (.Qq []):=by
 refine Xt Tryz.func140 rfl (nt:=23) rfl (lb rfl) fun X hP h0 hX=>?_
 have hT:Xl X.P T:=hP▸tok
 have hf:X.P.funcs[140]? = some Tryz.f140:=hP▸Tryz.func140
 refine Qf0 1 (r:=Yh a0.h.l) rfl rfl (st':=⟨23,(Zo.p0++[(1,.i a1)]),[.box 171 [.own 3 1 0 a0.h.l.length],.gone,.obj (Zf Qd.e Qd.nl 178 dom M),Yh a0.h.l]⟩) (by kernel_rfl) (by kernel_rfl) rfl ?_
 refine Qi hT 2 (Qkj 10 0) ⟨23,(Zo.p0++[(1,.i a1)]),[.box 171 [.own 3 1 0 a0.h.l.length],.gone,.obj (Zf Qd.e Qd.nl 178 dom M),Yh a0.h.l]⟩ ?_
 have L:∀ n,(∀ (Qef:Int) (Qd9:Nat->Qd) (Jw:List Nat),iter (Zo.step dom) n (.l1 Qef Qd9 Jw)=some r->AK X 140 ((Qkj 10 0)) (Jb X [.box 171 [.own 3 1 0 r.1.h.l.length],.gone,.obj (Zf Qd.e Qd.nl 178 dom r.2),Yh r.1.h.l] (.Qq [])) ⟨23,(Zo.p0++[(1,.i Qef)]),[.box 171 [.own 3 1 0 Jw.length],.gone,.obj (Zf Qd.e Qd.nl 178 dom Qd9),Yh Jw]⟩):=by
  intro n
  induction n with
  | zero=>exact fun _ _ _ H=>Qbx H
  | succ n ih=>
   ·intro Qef Qd9 Jw H
    replace H:stk (Zo.step dom (.l1 Qef Qd9 Jw)) (iter (Zo.step dom) n)=some r:=H
    simp only [Zo.step,Zo.l1] at H
    refine Qi hT 7 (Qkj 10000 4) ⟨23,(Zo.p0++[(1,.i Qef),(4,.i (IntKind.wrap .i64 (Int.tdiv (IntKind.wrap .i64 (Qef - 1)) 2)))]),[.box 171 [.own 3 1 0 Jw.length],.gone,.obj (Zf Qd.e Qd.nl 178 dom Qd9),Yh Jw]⟩ ?_
    obtain ⟨v1,h1,H⟩:=sdC H
    have Zl:∀ (Qnd:Bool) (Qh8:List Nat),stk (Zo.j1 dom Qef Qd9 v1 Qnd Qh8) (iter (Zo.step dom) n)=some r->AK X 140 ((Qkj 100010 1)) (Jb X [.box 171 [.own 3 1 0 r.1.h.l.length],.gone,.obj (Zf Qd.e Qd.nl 178 dom r.2),Yh r.1.h.l] (.Qq [])) ⟨23,(Zo.p0++[(1,.i Qef),(4,.i v1),(17,.b Qnd)]),[.box 171 [.own 3 1 0 Qh8.length],.gone,.obj (Zf Qd.e Qd.nl 178 dom Qd9),Yh Qh8]⟩:=by
     intro Qnd Qh8 H
     by_cases c4:Qnd=true
     ·replace H:=sT c4 H
      rw [c4]
      refine Qi hT 2 [] ⟨23,[],[.box 171 [.own 3 1 0 Qh8.length],.gone,.obj (Zf Qd.e Qd.nl 178 dom Qd9),Yh Qh8]⟩ ?_
      obtain rfl:=Zb H
      exact Qz5 hf hX h0 (.Qq []) [0,1,2,3] (ac (.box (.cons (.own _ _ _ _) .nil)) (ac .gone (ac (.obj _) (ac (Qbd nlA) an)))) (.Qq .nil)
     replace H:=sF c4 H
     rw [boF c4]
     refine Qi hT 2 (Qkj 10001 1) ⟨23,(Zo.p0++[(1,.i Qef),(4,.i v1)]),[.box 171 [.own 3 1 0 Qh8.length],.gone,.obj (Zf Qd.e Qd.nl 178 dom Qd9),Yh Qh8]⟩ ?_
     refine Qi hT 5 (Qkj 1000110 3) ⟨23,(Zo.p0++[(4,.i v1),(18,.ifc 175 (.ptr 0 0 0 0)),(19,.i v1),(20,.i Qef)]),[.box 171 [.own 3 1 0 Qh8.length],.gone,.obj (Zf Qd.e Qd.nl 178 dom Qd9),Yh Qh8]⟩ ?_
     obtain ⟨v3,h5,H⟩:=sbC H
     refine Qmn (x:=.ptr 0 0 0 0) (Xw:=[.i v1,.i Qef]) (dst:=some 21) (k':=(Qkj 1000110 4)) [0,4] [0,3,2] hP Qvz Wa3 (Wm.Wl (⟨(⟨Qh8⟩:Qa5)⟩:Xu) v1 Qef dom Qd9 h5) (by kernel_rfl) (fun _ _ h=>by cases h) (fun _ _ h=>by cases h) (Qd6 rfl rfl rfl (by decide)) (.cons (.same (.ptr 0 0 0 0)) (.cons (Qn _) (.cons (Qn _) .nil))) (st':=⟨23,(Zo.p0++[(4,.i v1)]),[.box 171 [.own 4 1 0 v3.1.h.l.length],.gone,.obj (Zf Qd.e Qd.nl 178 dom v3.2),.gone,Yh v3.1.h.l]⟩) (by kernel_rfl) ?_
     refine Yi hT 7 (Qkj 10 0) [0,1,2,4] ⟨23,(Zo.p0++[(1,.i v1)]),[.box 171 [.own 3 1 0 v3.1.h.l.length],.gone,.obj (Zf Qd.e Qd.nl 178 dom v3.2),Yh v3.1.h.l]⟩ h0 ?_
     exact ih v1 v3.2 v3.1.h.l H
    rw [<- h1]
    refine Qi hT 8 (Qkj 1000100 4) ⟨23,(Zo.p0++[(1,.i Qef),(4,.i v1),(11,.b (v1 == Qef))]),[.box 171 [.own 3 1 0 Jw.length],.gone,.obj (Zf Qd.e Qd.nl 178 dom Qd9),Yh Jw]⟩ ?_
    by_cases c2:v1=Qef
    ·replace H:=sT c2 H
     rw [eqT c2]
     refine Qi hT 7 (Qkj 100010 1) ⟨23,(Zo.p0++[(1,.i Qef),(4,.i v1),(17,.b true)]),[.box 171 [.own 3 1 0 Jw.length],.gone,.obj (Zf Qd.e Qd.nl 178 dom Qd9),Yh Jw]⟩ ?_
     exact Zl true Jw H
    replace H:=sF c2 H
    rw [eqF c2]
    refine Qi hT 3 (Qkj 1000100 7) ⟨23,(Zo.p0++[(1,.i Qef),(4,.i v1),(11,.b false),(12,.ifc 175 (.ptr 0 0 0 0)),(13,.i Qef),(14,.i v1)]),[.box 171 [.own 3 1 0 Jw.length],.gone,.obj (Zf Qd.e Qd.nl 178 dom Qd9),Yh Jw]⟩ ?_
    obtain ⟨v2,h3,H⟩:=sbC H
    refine Qmn (x:=.ptr 0 0 0 0) (Xw:=[.i Qef,.i v1]) (dst:=some 15) (k':=(Qkj 1000100 8)) [0,1,4,11,15] [0,3,2] hP Qvx Wa1 (Qfv.Wl (⟨(⟨Jw⟩:Qa5)⟩:Xu) Qef v1 dom Qd9 h3) (by kernel_rfl) (fun _ _ h=>by cases h) (fun _ _ h=>by cases h) (Qd6 rfl rfl rfl (by decide)) (.cons (.same (.ptr 0 0 0 0)) (.cons (Qn _) (.cons (Qn _) .nil))) (st':=⟨23,(Zo.p0++[(1,.i Qef),(4,.i v1),(11,.b false),(15,.b v2.1)]),[.box 171 [.own 4 1 0 v2.2.h.l.length],.gone,.obj (Zf Qd.e Qd.nl 178 dom Qd9),.gone,Yh v2.2.h.l]⟩) (by kernel_rfl) ?_
    refine Yi hT 3 (Qkj 100010 1) [0,1,2,4] ⟨23,(Zo.p0++[(1,.i Qef),(4,.i v1),(17,.b (!v2.1))]),[.box 171 [.own 3 1 0 v2.2.h.l.length],.gone,.obj (Zf Qd.e Qd.nl 178 dom Qd9),Yh v2.2.h.l]⟩ h0 ?_
    exact Zl (!v2.1) v2.2.h.l H
 obtain ⟨n,H⟩:=Qcn H
 exact (L n) a1 M a0.h.l H
theorem Qem.Wl (a0:Xu) (a1:Nat) (dom:List Nat) (M:Nat->Qd) {r:Xu × (Nat->Qd)} (H:Qem a0 a1 dom M=some r):Yn Tryz.prog 110 [.box 171 [.own 1 1 0 a0.h.l.length],Yh a0.h.l,.obj (Zf Qd.e Qd.nl 178 dom M)] [.ifc 175 (.ptr 0 0 0 0),.d (.ifc 172 (pA a1 0))] [.box 171 [.own 3 1 0 r.1.h.l.length],.gone,.obj (Zf Qd.e Qd.nl 178 dom r.2),Yh r.1.h.l] (.Qq []):=by
 refine Xt Tryz.func110 rfl (nt:=12) rfl (lb rfl) fun X hP h0 hX=>?_
 have hT:Xl X.P T:=hP▸tok
 have hf:X.P.funcs[110]? = some Tryz.f110:=hP▸Tryz.func110
 refine Qf0 1 (r:=Yh a0.h.l) rfl rfl (st':=⟨12,[(0,.ifc 175 (.ptr 0 0 0 0)),(1,.d (.ifc 172 (pA a1 0)))],[.box 171 [.own 3 1 0 a0.h.l.length],.gone,.obj (Zf Qd.e Qd.nl 178 dom M),Yh a0.h.l]⟩) (by kernel_rfl) (by kernel_rfl) rfl ?_
 refine Qi hT 4 (Qtt 10 2) ⟨12,[(0,.ifc 175 (.ptr 0 0 0 0)),(4,.ifc 175 (.ptr 0 0 0 0)),(5,.d (.ifc 172 (pA a1 0)))],[.box 171 [.own 3 1 0 a0.h.l.length],.gone,.obj (Zf Qd.e Qd.nl 178 dom M),Yh a0.h.l]⟩ ?_
 obtain ⟨v1,h1,H⟩:=ibC H
 refine Qmn (x:=.ptr 0 0 0 0) (Xw:=[.d (.ifc 172 (pA a1 0))]) (dst:=some 6) (k':=(Qtt 10 3)) [0] [0,3,2] hP Qvy Wa2 (Qe5.Wl (⟨(⟨a0.h.l⟩:Qa5)⟩:Xu) a1 dom M h1) (by kernel_rfl) (fun _ _ h=>by cases h) (fun _ _ h=>by cases h) (Qd6 rfl rfl rfl (by decide)) (.cons (.same (.ptr 0 0 0 0)) (.cons (Qn _) .nil)) (st':=⟨12,[(0,.ifc 175 (.ptr 0 0 0 0))],[.box 171 [.own 4 1 0 v1.1.h.l.length],.gone,.obj (Zf Qd.e Qd.nl 178 dom v1.2),.gone,Yh v1.1.h.l]⟩) (by kernel_rfl) ?_
 refine Qi hT 4 (Qtt 11 2) ⟨12,[(7,.ifc 175 (.ptr 0 0 0 0)),(8,.ifc 175 (.ptr 0 0 0 0))],[.box 171 [.own 4 1 0 v1.1.h.l.length],.gone,.obj (Zf Qd.e Qd.nl 178 dom v1.2),.gone,Yh v1.1.h.l]⟩ ?_
 refine Qmn (x:=.ptr 0 0 0 0) (Xw:=[]) (dst:=some 9) (k':=(Qtt 11 3)) [7,9] [0,4,2] hP Qxm Wa0 (Qde.Wl (⟨(⟨v1.1.h.l⟩:Qa5)⟩:Xu) dom v1.2) (by kernel_rfl) (fun _ _ h=>by cases h) (fun _ _ h=>by cases h) (Qd6 rfl rfl rfl (by decide)) (.cons (.same (.ptr 0 0 0 0)) .nil) (st':=⟨12,[(7,.ifc 175 (.ptr 0 0 0 0)),(9,.i ((Qde (⟨(⟨v1.1.h.l⟩:Qa5)⟩:Xu) dom v1.2).1))],[.box 171 [.own 5 1 0 (((((Qde (⟨(⟨v1.1.h.l⟩:Qa5)⟩:Xu) dom v1.2).2).h).l).length)],.gone,.obj (Zf Qd.e Qd.nl 178 dom v1.2),.gone,.gone,Yh ((((Qde (⟨(⟨v1.1.h.l⟩:Qa5)⟩:Xu) dom v1.2).2).h).l)]⟩) (by kernel_rfl) ?_
 obtain ⟨v2,h2,H⟩:=idC H
 rw [<- h2]
 refine Qi hT 1 (Qtt 11 4) ⟨12,[(7,.ifc 175 (.ptr 0 0 0 0)),(10,.i (IntKind.wrap .i64 (v2.1 - 1)))],[.box 171 [.own 5 1 0 ((((v2.2).h).l).length)],.gone,.obj (Zf Qd.e Qd.nl 178 dom v1.2),.gone,.gone,Yh (((v2.2).h).l)]⟩ ?_
 obtain ⟨v3,h3,H⟩:=ibC H
 refine Wj (Xw:=[.ifc 175 (.ptr 0 0 0 0),.i (IntKind.wrap .i64 (v2.1 - 1))]) (dst:=some 11) (k':=(Qtt 11 5)) [] [0,5,2] hP Wao (Zo.Wl (⟨(⟨((v2.2).h).l⟩:Qa5)⟩:Xu) (IntKind.wrap .i64 (v2.1 - 1)) dom v1.2 h3) (by kernel_rfl) (Qd6 rfl rfl rfl (by decide)) (.cons (.same (.ifc 175 (.ptr 0 0 0 0))) (.cons (Qn _) .nil)) (st':=⟨12,[],[.box 171 [.own 6 1 0 v3.1.h.l.length],.gone,.obj (Zf Qd.e Qd.nl 178 dom v3.2),.gone,.gone,.gone,Yh v3.1.h.l]⟩) (by kernel_rfl) ?_
 refine Qi hT 1 [] ⟨12,[],[.box 171 [.own 6 1 0 v3.1.h.l.length],.gone,.obj (Zf Qd.e Qd.nl 178 dom v3.2),.gone,.gone,.gone,Yh v3.1.h.l]⟩ ?_
 obtain rfl:=Zb H
 exact Qz5 hf hX h0 (.Qq []) [0,1,2,6] (ac (.box (.cons (.own _ _ _ _) .nil)) (ac .gone (ac (.obj _) (ac (Qbd nlA) an)))) (.Qq .nil)
theorem Zj.Wl {t0:Bool} {Zk:FuncId} {Zn:List DV} (a0:List Qa) (p1:Qa->Option Bool) (he1:Sy.Enters Tryz.prog Zk) (hp1:∀ (z0:Qa) r,p1 z0=some r->Yn Tryz.prog Zk [] ([.d (Qf4 z0)] ++ List.map AV.d Zn) [] (.b r)) {r:Int} (H:Zj a0 p1=some r):Yn Tryz.prog 150 [] [.d (Xj t0 a0),.d (.fn Zk Zn)] [] (.i r):=by
 refine Xt Tryz.func150 rfl (nt:=19) rfl (lb rfl) fun X hP h0 hX=>?_
 have hT:Xl X.P T:=hP▸tok
 have hf:X.P.funcs[150]? = some Tryz.f150:=hP▸Tryz.func150
 refine Qi hT 13 (Qkl 11010 0) ⟨19,[(0,.d (Xj t0 a0)),(1,.d (.fn Zk Zn)),(7,.i (a0.length:Int)),(8,.i 0)],[]⟩ ?_
 have L:∀ n,(∀ (Qy:Int),iter (Zj.step a0 p1) n (.l1 Qy)=some r->AK X 150 ((Qkl 11010 0)) (Jb X [] (.i r)) ⟨19,[(0,.d (Xj t0 a0)),(1,.d (.fn Zk Zn)),(7,.i (a0.length:Int)),(8,.i Qy)],[]⟩):=by
  intro n
  induction n with
  | zero=>exact fun _ H=>Qbx H
  | succ n ih=>
   ·intro Qy H
    refine Qi hT 5 (Qkl 1101001 0) ⟨19,[(0,.d (Xj t0 a0)),(1,.d (.fn Zk Zn)),(7,.i (a0.length:Int)),(8,.i Qy),(9,.b (decide (Qy < (a0.length:Int))))],[]⟩ ?_
    by_cases c1:Qy < (a0.length:Int)
    ·replace H:=sT c1 H
     rw [decide_eq_true c1]
     refine Qi hT 2 (Qkl 1101001 1) ⟨19,[(0,.d (Xj t0 a0)),(1,.d (.fn Zk Zn)),(7,.i (a0.length:Int)),(8,.i Qy)],[]⟩ ?_
     refine Qi hT 12 (Qkl 110100110010 3) ⟨19,[(0,.d (Xj t0 a0)),(1,.d (.fn Zk Zn)),(5,.i Qy),(7,.i (a0.length:Int)),(8,.i Qy),(11,.d (.fn Zk Zn)),(12,.d (Xj t0 a0)),(13,.i Qy)],[]⟩ ?_
     obtain ⟨h2,H⟩:=sC H
     refine Qa7 hT [0,1,5,7,8,11,14] (i:=Qy) (n:=(a0.length:Int)) h2.1 h2.2 (k':=(Qkl 110100110010 4)) (st':=⟨19,[(0,.d (Xj t0 a0)),(1,.d (.fn Zk Zn)),(5,.i Qy),(7,.i (a0.length:Int)),(8,.i Qy),(11,.d (.fn Zk Zn)),(14,.d (Qec t0 a0 Qy.toNat 0))],[]⟩) (by kernel_rfl) ?_
     refine Qi hT 1 (Qkl 110100110010 5) ⟨19,[(0,.d (Xj t0 a0)),(1,.d (.fn Zk Zn)),(5,.i Qy),(7,.i (a0.length:Int)),(8,.i Qy),(11,.d (.fn Zk Zn)),(15,.d (Qf4 (a0.getD Qy.toNat Qa.z)))],[]⟩ ?_
     obtain ⟨v1,h3,H⟩:=sbC H
     refine Wj (Xw:=[.d (Qf4 (a0.getD Qy.toNat Qa.z))] ++ List.map AV.d Zn) (dst:=some 16) (k':=(Qkl 110100110010 6)) [0,1,5,7,8,16] [] hP he1 (hp1 (a0.getD Qy.toNat Qa.z) v1 h3) (by kernel_rfl) (Qz _) (.cons (Qn _) (Qfz _)) (st':=⟨19,[(0,.d (Xj t0 a0)),(1,.d (.fn Zk Zn)),(5,.i Qy),(7,.i (a0.length:Int)),(8,.i Qy),(16,.b v1)],[]⟩) (by kernel_rfl) ?_
     refine Qi hT 1 (Qkl 11010011001 1) ⟨19,[(0,.d (Xj t0 a0)),(1,.d (.fn Zk Zn)),(5,.i Qy),(7,.i (a0.length:Int)),(8,.i Qy),(16,.b v1)],[]⟩ ?_
     by_cases c4:v1=true
     ·replace H:=sT c4 H
      rw [c4]
      refine Qi hT 6 (Qkl 1101001100110 1) ⟨19,[(4,.i Qy)],[]⟩ ?_
      obtain rfl:=Zb H
      exact Yr hf hX h0 (.i Qy) [] an (.d (.v _))
     replace H:=sF c4 H
     rw [boF c4]
     refine Qi hT 3 (Qkl 11010011 1) ⟨19,[(0,.d (Xj t0 a0)),(1,.d (.fn Zk Zn)),(7,.i (a0.length:Int)),(8,.i Qy)],[]⟩ ?_
     refine Qi hT 5 (Qkl 11010 0) ⟨19,[(0,.d (Xj t0 a0)),(1,.d (.fn Zk Zn)),(7,.i (a0.length:Int)),(8,.i (IntKind.wrap .i64 (Qy+1)))],[]⟩ ?_
     exact ih (IntKind.wrap .i64 (Qy+1)) H
    replace H:=sF c1 H
    rw [decide_eq_false c1]
    refine Qi hT 6 (Qkl 111 1) ⟨19,[(4,.i (-1))],[]⟩ ?_
    obtain rfl:=Zb H
    exact Yr hf hX h0 (.i (-1)) [] an (.d (.v _))
 obtain ⟨n,H⟩:=Qcn H
 exact (L n) 0 H
theorem Qcl.Wl {t0:Bool} {Zk:FuncId} {Zn:List DV} (a0:List Qa) (p1:Qa->Option Bool) (he1:Sy.Enters Tryz.prog Zk) (hp1:∀ (z0:Qa) r,p1 z0=some r->Yn Tryz.prog Zk [] ([.d (Qf4 z0)] ++ List.map AV.d Zn) [] (.b r)) {r:Bool} (H:Qcl a0 p1=some r):Yn Tryz.prog 147 [] [.d (Xj t0 a0),.d (.fn Zk Zn)] [] (.b r):=by
 refine Xt Tryz.func147 rfl (nt:=9) rfl (lb rfl) fun X hP h0 hX=>?_
 have hT:Xl X.P T:=hP▸tok
 have hf:X.P.funcs[147]? = some Tryz.f147:=hP▸Tryz.func147
 refine Qi hT 8 (Wf4 110 2) ⟨9,[(5,.d (Xj t0 a0)),(6,.d (.fn Zk Zn))],[]⟩ ?_
 obtain ⟨v1,h1,H⟩:=ibC H
 refine Wj (Xw:=[.d (Xj t0 a0),.d (.fn Zk Zn)]) (dst:=some 7) (k':=(Wf4 110 3)) [7] [] hP Qta (Zj.Wl (t0:=t0) (Zk:=Zk) (Zn:=Zn) a0 p1 he1 hp1 h1) (by kernel_rfl) (Qz _) (.cons (Qn _) (.cons (Qn _) .nil)) (st':=⟨9,[(7,.i v1)],[]⟩) (by kernel_rfl) ?_
 refine Qi hT 3 (Wf4 11 1) ⟨9,[(4,.b (decide (v1>=0)))],[]⟩ ?_
 obtain rfl:=Zb H
 exact Yr hf hX h0 (.b (decide (v1>=0))) [] an (.d (.v _))
theorem Qcs.Wl (a0:Int):Yn Tryz.prog 123 [] [.i a0] [] (.b (Qcs a0)):=by
 obtain ⟨r,H⟩:∃ r,Qcs a0=r:=⟨_,rfl⟩
 rw [H]
 refine Xt Tryz.func123 rfl (nt:=9) rfl (lb rfl) fun X hP h0 hX=>?_
 have hT:Xl X.P T:=hP▸tok
 have hf:X.P.funcs[123]? = some Tryz.f123:=hP▸Tryz.func123
 have Zl:∀ (Qcq:Bool),(Qcs.j1 Qcq)=r->AK X 123 ((Qzq 11 1)) (Jb X [] (.b r)) ⟨9,[(2,.b Qcq)],[]⟩:=by
  intro Qcq H
  obtain rfl:=H
  exact Yr hf hX h0 (.b Qcq) [] an (.d (.v _))
 refine Qi hT 9 (Qzq 110 3) ⟨9,[(0,.i a0),(5,.b (decide (a0>=(-1099511627776))))],[]⟩ ?_
 by_cases c1:a0>=(-1099511627776)
 ·replace H:=iT c1 H
  rw [decide_eq_true c1]
  refine Qi hT 5 (Qzq 11 1) ⟨9,[(2,.b (decide (a0<=1099511627776)))],[]⟩ ?_
  exact Zl (decide (a0<=1099511627776)) H
 replace H:=iF c1 H
 rw [decide_eq_false c1]
 refine Qi hT 5 (Qzq 11 1) ⟨9,[(2,.b false)],[]⟩ ?_
 exact Zl false H
theorem Qed.Wl (a0:Qa):Yn Tryz.prog 149 [] [.d (Qf4 a0)] [] (.b (Qed a0)):=by
 obtain ⟨r,H⟩:∃ r,Qed a0=r:=⟨_,rfl⟩
 rw [H]
 refine Xt Tryz.func149 rfl (nt:=16) rfl (lb rfl) fun X hP h0 hX=>?_
 have hT:Xl X.P T:=hP▸tok
 have hf:X.P.funcs[149]? = some Tryz.f149:=hP▸Tryz.func149
 have Zl:∀ (Qcq:Bool),(Qed.j1 Qcq)=r->AK X 149 ((Qpi 11 1)) (Jb X [] (.b r)) ⟨16,[(2,.b Qcq)],[]⟩:=by
  intro Qcq H
  obtain rfl:=H
  exact Yr hf hX h0 (.b Qcq) [] an (.d (.v _))
 refine Qi hT 11 (Qpi 110 4) ⟨16,[(1,.ptr 0 0 0 0),(6,.b (decide (a0.Key>=0)))],[.box 56 (Qcc a0)]⟩ ?_
 by_cases c1:a0.Key>=0
 ·replace H:=iT c1 H
  rw [decide_eq_true c1]
  refine Qi hT 5 (Qpi 110 9) ⟨16,[(1,.ptr 0 0 0 0),(11,.b (decide (a0.Key < 4096)))],[.box 56 (Qcc a0)]⟩ ?_
  by_cases c2:a0.Key < 4096
  ·replace H:=iT c2 H
   rw [decide_eq_true c2]
   refine Qi hT 2 (Qpi 110 11) ⟨16,[(11,.b true),(13,.i a0.Val)],[.box 56 (Qcc a0)]⟩ ?_
   refine Wj (Xw:=[.i a0.Val]) (dst:=some 14) (k':=(Qpi 110 12)) [11,14] [] hP Qs7 (Qcs.Wl a0.Val) (by kernel_rfl) (Qz _) (.cons (Qn _) .nil) (st':=⟨16,[(11,.b true),(14,.b (Qcs a0.Val))],[.box 56 (Qcc a0)]⟩) (by kernel_rfl) ?_
   refine Yi hT 3 (Qpi 11 1) [] ⟨16,[(2,.b (Qcs a0.Val))],[]⟩ h0 ?_
   exact Zl (Qcs a0.Val) H
  replace H:=iF c2 H
  rw [decide_eq_false c2]
  refine Yi hT 6 (Qpi 11 1) [] ⟨16,[(2,.b false)],[]⟩ h0 ?_
  exact Zl false H
 replace H:=iF c1 H
 rw [decide_eq_false c1]
 refine Yi hT 11 (Qpi 11 1) [] ⟨16,[(2,.b false)],[]⟩ h0 ?_
 exact Zl false H
theorem Qga.Wl (a0:Qa):Yn Tryz.prog 148 [] [.d (Qf4 a0)] [] (.b (Qga a0)):=by
 obtain ⟨r,H⟩:∃ r,Qga a0=r:=⟨_,rfl⟩
 rw [H]
 refine Xt Tryz.func148 rfl (nt:=6) rfl (lb rfl) fun X hP h0 hX=>?_
 have hT:Xl X.P T:=hP▸tok
 have hf:X.P.funcs[148]? = some Tryz.f148:=hP▸Tryz.func148
 refine Qi hT 8 (Wf5 110 1) ⟨6,[(3,.d (Qf4 a0))],[.box 56 (Qcc a0)]⟩ ?_
 refine Wj (Xw:=[.d (Qf4 a0)]) (dst:=some 4) (k':=(Wf5 110 2)) [4] [] hP Wav (Qed.Wl a0) (by kernel_rfl) (Qz _) (.cons (Qn _) .nil) (st':=⟨6,[(4,.b (Qed a0))],[.box 56 (Qcc a0)]⟩) (by kernel_rfl) ?_
 refine Qi hT 3 (Wf5 11 1) ⟨6,[(2,.b (!(Qed a0)))],[.box 56 (Qcc a0)]⟩ ?_
 obtain rfl:=H
 exact Yr hf hX h0 (.b (!(Qed a0))) [] an (.d (.v _))
theorem Qci.Wl (a0:Qu) (a1:Int) (a2:Int) {r:Bool} (H:Qci a0 a1 a2=some r):Yn Tryz.prog 121 [] [.d (Qaq a0),.i a1,.i a2] [] (.b r):=by
 refine Xt Tryz.func121 rfl (nt:=25) rfl (lb rfl) fun X hP h0 hX=>?_
 have hT:Xl X.P T:=hP▸tok
 have hf:X.P.funcs[121]? = some Tryz.f121:=hP▸Tryz.func121
 have Zl:∀ (Qjl:Bool),(Qci.j1 Qjl)=some r->AK X 121 ((Qpe 11 1)) (Jb X [] (.b r)) ⟨25,[(6,.b Qjl)],[]⟩:=by
  intro Qjl H
  obtain rfl:=Zb H
  exact Yr hf hX h0 (.b Qjl) [] an (.d (.v _))
 refine Qi hT 13 (Qpe 110 6) ⟨25,[(2,.i a2),(3,.ptr 0 0 0 0),(12,.b (decide ((a0.Pairs.length:Int)>=a1)))],[.box 47 (Yk a0)]⟩ ?_
 by_cases c1:(a0.Pairs.length:Int)>=a1
 ·replace H:=iT c1 H
  rw [decide_eq_true c1]
  refine Qi hT 7 (Qpe 110 13) ⟨25,[(3,.ptr 0 0 0 0),(19,.b (decide ((a0.Pairs.length:Int)<=a2)))],[.box 47 (Yk a0)]⟩ ?_
  by_cases c2:(a0.Pairs.length:Int)<=a2
  ·replace H:=iT c2 H
   rw [decide_eq_true c2]
   refine Qi hT 2 (Qpe 110 15) ⟨25,[(19,.b true),(21,.d (Xj true a0.Pairs))],[.box 47 (Yk a0)]⟩ ?_
   obtain ⟨v1,h3,H⟩:=ibC H
   refine Wj (Xw:=[.d (Xj true a0.Pairs),.d (.fn 148 [])]) (dst:=some 22) (k':=(Qpe 110 16)) [19,22] [] hP Wat (Qcl.Wl (t0:=true) (Zk:=148) (Zn:=[]) a0.Pairs (fun z0=>some (Qga z0)) Wau (fun z0 r h=>by obtain rfl:=Zb h;exact Qga.Wl z0) h3) (by kernel_rfl) (Qz _) (.cons (Qn _) (.cons (Qn _) .nil)) (st':=⟨25,[(19,.b true),(22,.b v1)],[.box 47 (Yk a0)]⟩) (by kernel_rfl) ?_
   refine Yi hT 4 (Qpe 11 1) [] ⟨25,[(6,.b (!v1))],[]⟩ h0 ?_
   exact Zl (!v1) H
  replace H:=iF c2 H
  rw [decide_eq_false c2]
  refine Yi hT 7 (Qpe 11 1) [] ⟨25,[(6,.b false)],[]⟩ h0 ?_
  exact Zl false H
 replace H:=iF c1 H
 rw [decide_eq_false c1]
 refine Yi hT 14 (Qpe 11 1) [] ⟨25,[(6,.b false)],[]⟩ h0 ?_
 exact Zl false H
theorem Qb2.Wl {t0:Bool} (a0:List Qa) {r:Bool} (H:Qb2 a0=some r):Yn Tryz.prog 122 [] [.d (Xj t0 a0)] [] (.b r):=by
 refine Xt Tryz.func122 rfl (nt:=22) rfl (lb rfl) fun X hP h0 hX=>?_
 have hT:Xl X.P T:=hP▸tok
 have hf:X.P.funcs[122]? = some Tryz.f122:=hP▸Tryz.func122
 refine Qi hT 11 (Qni 11010 0) ⟨22,[(0,.d (Xj t0 a0)),(3,.i 1)],[]⟩ ?_
 have L:∀ n,(∀ (Xe:Int),iter (Qb2.step a0) n (.l1 Xe)=some r->AK X 122 ((Qni 11010 0)) (Jb X [] (.b r)) ⟨22,[(0,.d (Xj t0 a0)),(3,.i Xe)],[]⟩):=by
  intro n
  induction n with
  | zero=>exact fun _ H=>Qbx H
  | succ n ih=>
   ·intro Xe H
    refine Qi hT 8 (Qni 1101000 1) ⟨22,[(0,.d (Xj t0 a0)),(3,.i Xe),(7,.b (decide (Xe < (a0.length:Int))))],[]⟩ ?_
    by_cases c1:Xe < (a0.length:Int)
    ·replace H:=sT c1 H
     rw [decide_eq_true c1]
     refine Qi hT 2 (Qni 110100 1) ⟨22,[(0,.d (Xj t0 a0)),(3,.i Xe)],[]⟩ ?_
     refine Qi hT 3 (Qni 110100100 0) ⟨22,[(0,.d (Xj t0 a0)),(3,.i Xe)],[]⟩ ?_
     obtain ⟨h2,H⟩:=sC H
     obtain ⟨h3,H⟩:=sC H
     refine Qbt (hP▸mixed) 12 [0,3] (sm [.d (Xj t0 a0),.i Xe,.i (IntKind.wrap .i64 (Xe - 1)),.d (Qec t0 a0 ((IntKind.wrap .i64 (Xe - 1)).toNat) 0),.d (Qec t0 a0 ((IntKind.wrap .i64 (Xe - 1)).toNat) 0),.i ((a0.getD ((IntKind.wrap .i64 (Xe - 1)).toNat) Qa.z).Key),.d (Xj t0 a0),.i Xe,.d (Qec t0 a0 Xe.toNat 0),.d (Qec t0 a0 Xe.toNat 0),.i ((a0.getD Xe.toNat Qa.z).Key),.b (decide (((a0.getD ((IntKind.wrap .i64 (Xe - 1)).toNat) Qa.z).Key)>=((a0.getD Xe.toNat Qa.z).Key)))]) (Qg (Qg (Qg (opS (Qg (Qg (Qg (Qg (opS (Qg (Qg (Qg op0 hT) hT) hT) (fun R rest h=>Qae hT (i:=IntKind.wrap .i64 (Xe - 1)) (n:=(a0.length:Int)) h2.1 h2.2 (by kernel_rfl) h)) hT) hT) hT) hT) (fun R rest h=>Qae hT (i:=Xe) (n:=(a0.length:Int)) h3.1 h3.2 (by kernel_rfl) h)) hT) hT) hT) ?_
     refine Qi hT 1 (Qni 110100100 1) ⟨22,[(0,.d (Xj t0 a0)),(3,.i Xe),(21,.b (decide (((a0.getD ((IntKind.wrap .i64 (Xe - 1)).toNat) Qa.z).Key)>=((a0.getD Xe.toNat Qa.z).Key))))],[]⟩ ?_
     by_cases c4:((a0.getD ((IntKind.wrap .i64 (Xe - 1)).toNat) Qa.z).Key)>=((a0.getD Xe.toNat Qa.z).Key)
     ·replace H:=sT c4 H
      rw [decide_eq_true c4]
      refine Qi hT 5 (Qni 11010010010 1) ⟨22,[(2,.b false)],[]⟩ ?_
      obtain rfl:=Zb H
      exact Yr hf hX h0 (.b false) [] an (.d (.v _))
     replace H:=sF c4 H
     rw [decide_eq_false c4]
     refine Qi hT 3 (Qni 1101001 1) ⟨22,[(0,.d (Xj t0 a0)),(3,.i Xe)],[]⟩ ?_
     refine Qi hT 6 (Qni 11010 0) ⟨22,[(0,.d (Xj t0 a0)),(3,.i (IntKind.wrap .i64 (Xe+1)))],[]⟩ ?_
     exact ih (IntKind.wrap .i64 (Xe+1)) H
    replace H:=sF c1 H
    rw [decide_eq_false c1]
    refine Qi hT 6 (Qni 111 1) ⟨22,[(2,.b true)],[]⟩ ?_
    obtain rfl:=Zb H
    exact Yr hf hX h0 (.b true) [] an (.d (.v _))
 obtain ⟨n,H⟩:=Qcn H
 exact (L n) 1 H
theorem Qbc.Wl (a0:Qb):Yn Tryz.prog 50 [] [.d (Qfd a0)] [] (.b (Qbc a0)):=by
 obtain ⟨r,H⟩:∃ r,Qbc a0=r:=⟨_,rfl⟩
 rw [H]
 refine Xt Tryz.func50 rfl (nt:=18) rfl (lb rfl) fun X hP h0 hX=>?_
 have hT:Xl X.P T:=hP▸tok
 have hf:X.P.funcs[50]? = some Tryz.f50:=hP▸Tryz.func50
 have Zl:∀ (Qcq:Bool),(Qbc.j1 Qcq)=r->AK X 50 ((K50 11 1)) (Jb X [] (.b r)) ⟨18,[(2,.b Qcq)],[]⟩:=by
  intro Qcq H
  obtain rfl:=H
  exact Yr hf hX h0 (.b Qcq) [] an (.d (.v _))
 refine Qi hT 11 (K50 110 4) ⟨18,[(1,.ptr 0 0 0 0),(6,.b (decide (a0.Lo>=0)))],[.box 39 (Qfb a0)]⟩ ?_
 by_cases c1:a0.Lo>=0
 ·replace H:=iT c1 H
  rw [decide_eq_true c1]
  refine Qi hT 7 (K50 110 11) ⟨18,[(1,.ptr 0 0 0 0),(13,.b (decide (a0.Lo < a0.Hi)))],[.box 39 (Qfb a0)]⟩ ?_
  by_cases c2:a0.Lo < a0.Hi
  ·replace H:=iT c2 H
   rw [decide_eq_true c2]
   refine Yi hT 6 (K50 11 1) [] ⟨18,[(2,.b (decide (a0.Hi<=4096)))],[]⟩ h0 ?_
   exact Zl (decide (a0.Hi<=4096)) H
  replace H:=iF c2 H
  rw [decide_eq_false c2]
  refine Yi hT 6 (K50 11 1) [] ⟨18,[(2,.b false)],[]⟩ h0 ?_
  exact Zl false H
 replace H:=iF c1 H
 rw [decide_eq_false c1]
 refine Yi hT 13 (K50 11 1) [] ⟨18,[(2,.b false)],[]⟩ h0 ?_
 exact Zl false H
abbrev Zh.p0:List (Nat × AV):=[(1,.ptr 0 0 0 0)]
theorem Zh.Wl (a0:Qu) {r:Bool} (H:Zh a0=some r):Yn Tryz.prog 78 [] [.d (Qaq a0)] [] (.b r):=by
 refine Xt Tryz.func78 rfl (nt:=102) rfl (lb rfl) fun X hP h0 hX=>?_
 have hT:Xl X.P T:=hP▸tok
 have hf:X.P.funcs[78]? = some Tryz.f78:=hP▸Tryz.func78
 have Zl:∀ (Qre:Bool),(Zh.j1 a0 Qre)=some r->AK X 78 ((K78 1110 1)) (Jb X [] (.b r)) ⟨102,(Zh.p0++[(23,.b Qre)]),[.box 47 (Yk a0)]⟩:=by
  intro Qre H
  by_cases c7:Qre=true
  ·replace H:=iT c7 H
   rw [c7]
   refine Qi hT 5 (K78 111010 1) ⟨102,[(2,.b false)],[.box 47 (Yk a0)]⟩ ?_
   obtain rfl:=Zb H
   exact Yr hf hX h0 (.b false) [] an (.d (.v _))
  replace H:=iF c7 H
  rw [boF c7]
  refine Qi hT 2 (K78 111 1) ⟨102,(Zh.p0),[.box 47 (Yk a0)]⟩ ?_
  refine Qi hT 12 (K78 1111010 1) ⟨102,(Zh.p0++[(25,.i a0.Kind),(26,.b (a0.Kind == 1))]),[.box 47 (Yk a0)]⟩ ?_
  by_cases c8:a0.Kind=1
  ·replace H:=iT c8 H
   rw [eqT c8]
   refine Qi hT 4 (K78 1111010100 1) ⟨102,(Zh.p0++[(28,.d (Qaq a0))]),[.box 47 (Yk a0)]⟩ ?_
   obtain ⟨v1,h9,H⟩:=ibC H
   have Jj2:∀ (Qqo:Bool),(Zh.j2 Qqo)=some r->AK X 78 ((K78 111101010 1)) (Jb X [] (.b r)) ⟨102,[(2,.b Qqo)],[]⟩:=by
    intro Qqo H
    obtain rfl:=Zb H
    exact Yr hf hX h0 (.b Qqo) [] an (.d (.v _))
   refine Wj (Xw:=[.d (Qaq a0),.i 1,.i 8]) (dst:=some 29) (k':=(K78 1111010100 2)) [1,29] [] hP Qiq (Qci.Wl a0 1 8 h9) (by kernel_rfl) (Qz _) (.cons (Qn _) (.cons (Qn _) (.cons (Qn _) .nil))) (st':=⟨102,(Zh.p0++[(29,.b v1)]),[.box 47 (Yk a0)]⟩) (by kernel_rfl) ?_
   refine Qi hT 1 (K78 1111010100 3) ⟨102,(Zh.p0++[(30,.b v1)]),[.box 47 (Yk a0)]⟩ ?_
   by_cases c10:v1=true
   ·replace H:=iT c10 H
    rw [c10]
    refine Qi hT 2 (K78 1111010100 5) ⟨102,[(30,.b true),(32,.d (Xj true a0.Pairs))],[.box 47 (Yk a0)]⟩ ?_
    obtain ⟨v2,h11,H⟩:=ibC H
    refine Wj (Xw:=[.d (Xj true a0.Pairs)]) (dst:=some 33) (k':=(K78 1111010100 6)) [30,33] [] hP Wag (Qb2.Wl (t0:=true) a0.Pairs h11) (by kernel_rfl) (Qz _) (.cons (Qn _) .nil) (st':=⟨102,[(30,.b true),(33,.b v2)],[.box 47 (Yk a0)]⟩) (by kernel_rfl) ?_
    refine Yi hT 3 (K78 111101010 1) [] ⟨102,[(2,.b v2)],[]⟩ h0 ?_
    exact Jj2 v2 H
   replace H:=iF c10 H
   rw [boF c10]
   refine Yi hT 6 (K78 111101010 1) [] ⟨102,[(2,.b false)],[]⟩ h0 ?_
   exact Jj2 false H
  replace H:=iF c8 H
  rw [eqF c8]
  refine Qi hT 6 (K78 111101011 1) ⟨102,(Zh.p0++[(25,.i a0.Kind),(35,.b (a0.Kind == 2))]),[.box 47 (Yk a0)]⟩ ?_
  by_cases c12:a0.Kind=2
  ·replace H:=iT c12 H
   have Jj3:∀ (Qg7:Bool),(Zh.j3 Qg7)=some r->AK X 78 ((K78 11110101110 1)) (Jb X [] (.b r)) ⟨102,[(2,.b Qg7)],[]⟩:=by
    intro Qg7 H
    obtain rfl:=Zb H
    exact Yr hf hX h0 (.b Qg7) [] an (.d (.v _))
   rw [eqT c12]
   refine Qi hT 8 (K78 111101011100 5) ⟨102,(Zh.p0++[(41,.b ((a0.Pairs.length:Int) == 0))]),[.box 47 (Yk a0)]⟩ ?_
   by_cases c13:(a0.Pairs.length:Int)=0
   ·replace H:=iT c13 H
    rw [eqT c13]
    refine Qi hT 2 (K78 111101011100 7) ⟨102,[(41,.b true),(43,.d (Qfd a0.Over))],[.box 47 (Yk a0)]⟩ ?_
    refine Wj (Xw:=[.d (Qfd a0.Over)]) (dst:=some 44) (k':=(K78 111101011100 8)) [41,44] [] hP Qid (Qbc.Wl a0.Over) (by kernel_rfl) (Qz _) (.cons (Qn _) .nil) (st':=⟨102,[(41,.b true),(44,.b (Qbc a0.Over))],[.box 47 (Yk a0)]⟩) (by kernel_rfl) ?_
    refine Yi hT 3 (K78 11110101110 1) [] ⟨102,[(2,.b (Qbc a0.Over))],[]⟩ h0 ?_
    exact Jj3 (Qbc a0.Over) H
   replace H:=iF c13 H
   rw [eqF c13]
   refine Yi hT 6 (K78 11110101110 1) [] ⟨102,[(2,.b false)],[]⟩ h0 ?_
   exact Jj3 false H
  replace H:=iF c12 H
  rw [eqF c12]
  refine Qi hT 6 (K78 11110101111 1) ⟨102,(Zh.p0++[(25,.i a0.Kind),(46,.b (a0.Kind == 3))]),[.box 47 (Yk a0)]⟩ ?_
  by_cases c14:a0.Kind=3
  ·replace H:=iT c14 H
   rw [eqT c14]
   refine Qi hT 4 (K78 11110101111100 1) ⟨102,[(48,.d (Qaq a0))],[.box 47 (Yk a0)]⟩ ?_
   obtain ⟨v3,h15,H⟩:=ibC H
   refine Wj (Xw:=[.d (Qaq a0),.i 1,.i 1]) (dst:=some 49) (k':=(K78 11110101111100 2)) [49] [] hP Qiq (Qci.Wl a0 1 1 h15) (by kernel_rfl) (Qz _) (.cons (Qn _) (.cons (Qn _) (.cons (Qn _) .nil))) (st':=⟨102,[(49,.b v3)],[.box 47 (Yk a0)]⟩) (by kernel_rfl) ?_
   refine Qi hT 2 (K78 1111010111110 1) ⟨102,[(2,.b v3)],[.box 47 (Yk a0)]⟩ ?_
   obtain rfl:=Zb H
   exact Yr hf hX h0 (.b v3) [] an (.d (.v _))
  replace H:=iF c14 H
  rw [eqF c14]
  refine Qi hT 6 (K78 1111010111111 1) ⟨102,(Zh.p0++[(25,.i a0.Kind),(50,.b (a0.Kind == 4))]),[.box 47 (Yk a0)]⟩ ?_
  by_cases c16:a0.Kind=4
  ·replace H:=iT c16 H
   rw [eqT c16]
   refine Qi hT 4 (K78 1111010111111100 1) ⟨102,(Zh.p0++[(52,.d (Qaq a0))]),[.box 47 (Yk a0)]⟩ ?_
   obtain ⟨v4,h17,H⟩:=ibC H
   have Jj4:∀ (Qnm:Bool),(Zh.j4 Qnm)=some r->AK X 78 ((K78 111101011111110 1)) (Jb X [] (.b r)) ⟨102,[(2,.b Qnm)],[]⟩:=by
    intro Qnm H
    obtain rfl:=Zb H
    exact Yr hf hX h0 (.b Qnm) [] an (.d (.v _))
   refine Wj (Xw:=[.d (Qaq a0),.i 1,.i 1]) (dst:=some 53) (k':=(K78 1111010111111100 2)) [1,53] [] hP Qiq (Qci.Wl a0 1 1 h17) (by kernel_rfl) (Qz _) (.cons (Qn _) (.cons (Qn _) (.cons (Qn _) .nil))) (st':=⟨102,(Zh.p0++[(53,.b v4)]),[.box 47 (Yk a0)]⟩) (by kernel_rfl) ?_
   refine Qi hT 1 (K78 1111010111111100 3) ⟨102,(Zh.p0++[(54,.b v4)]),[.box 47 (Yk a0)]⟩ ?_
   by_cases c18:v4=true
   ·replace H:=iT c18 H
    rw [c18]
    refine Qi hT 2 (K78 1111010111111100 5) ⟨102,(Zh.p0++[(54,.b true),(56,.i a0.Old)]),[.box 47 (Yk a0)]⟩ ?_
    refine Wj (Xw:=[.i a0.Old]) (dst:=some 57) (k':=(K78 1111010111111100 6)) [1,54,57] [] hP Qs7 (Qcs.Wl a0.Old) (by kernel_rfl) (Qz _) (.cons (Qn _) .nil) (st':=⟨102,(Zh.p0++[(54,.b true),(57,.b (Qcs a0.Old))]),[.box 47 (Yk a0)]⟩) (by kernel_rfl) ?_
    refine Qi hT 1 (K78 1111010111111100 7) ⟨102,(Zh.p0++[(54,.b true),(58,.b (Qcs a0.Old))]),[.box 47 (Yk a0)]⟩ ?_
    by_cases c19:(Qcs a0.Old)=true
    ·replace H:=iT c19 H
     rw [c19]
     refine Yi hT 7 (K78 111101011111110 1) [] ⟨102,[(2,.b true)],[]⟩ h0 ?_
     exact Jj4 true H
    replace H:=iF c19 H
    rw [boF c19]
    refine Yi hT 7 (K78 111101011111110 1) [] ⟨102,[(2,.b (a0.Old == 1099511627777))],[]⟩ h0 ?_
    exact Jj4 (a0.Old == 1099511627777) H
   replace H:=iF c18 H
   rw [boF c18]
   refine Yi hT 11 (K78 111101011111110 1) [] ⟨102,[(2,.b false)],[]⟩ h0 ?_
   exact Jj4 false H
  replace H:=iF c16 H
  rw [eqF c16]
  refine Qi hT 6 (K78 111101011111111 1) ⟨102,(Zh.p0++[(64,.b (a0.Kind == 5))]),[.box 47 (Yk a0)]⟩ ?_
  by_cases c20:a0.Kind=5
  ·replace H:=iT c20 H
   rw [eqT c20]
   refine Qi hT 2 (K78 11110101111111110 0) ⟨102,(Zh.p0),[.box 47 (Yk a0)]⟩ ?_
   obtain ⟨v5,h21,H⟩:=ibC H
   have Jj5:∀ (Qqp:Bool),(Zh.j5 Qqp)=some r->AK X 78 ((K78 11110101111111110 1)) (Jb X [] (.b r)) ⟨102,[(2,.b Qqp)],[]⟩:=by
    intro Qqp H
    obtain rfl:=Zb H
    exact Yr hf hX h0 (.b Qqp) [] an (.d (.v _))
   by_cases c22:v5=true
   ·replace H:=iT c22 H
    obtain ⟨h23,H⟩:=iC H
    obtain ⟨h24,H⟩:=iC H
    by_cases c25:((a0.Pairs.getD 0 Qa.z).Key)=((a0.Pairs.getD 1 Qa.z).Key)
    ·replace H:=iT c25 H
     refine Qbt (hP▸mixed) 26 [1] (sm [.d (Qaq a0),.b true,.b true,.ptr 0 0 0 3,.d (Xj true a0.Pairs),.d (Qec true a0.Pairs 0 0),.d (Qec true a0.Pairs 0 0),.i ((a0.Pairs.getD 0 Qa.z).Key),.ptr 0 0 0 3,.d (Xj true a0.Pairs),.d (Qec true a0.Pairs 1 0),.d (Qec true a0.Pairs 1 0),.i ((a0.Pairs.getD 1 Qa.z).Key),.b false,.b false,.b false,.Qq [],.Qq [],.Qq [],.Qq [],.Qq [],.Qq [],.Qq [],.Qq [],.Qq [],.Qq []]) (Qg (Qg (Qg (Qg (Qg (Qg (Qg (Qg (Qg (Qg (Qg (Qg (opV (Qg (Qg (opS (Qg (Qg (Qg (Qg (opS (Qg (Qg (Qg (opS (Qg op0 hT) (fun R rest h=>Jz (Xw:=[.d (Qaq a0),.i 2,.i 2]) (dst:=some 67) hP Qiq (by have q:=Qci.Wl a0 2 2 h21;rw [c22] at q;exact q) (by kernel_rfl) (.cons (Qn _) (.cons (Qn _) (.cons (Qn _) .nil))) (by kernel_rfl) h)) hT) hT) hT) (fun R rest h=>Qae hT (i:=0) (n:=(a0.Pairs.length:Int)) h23.1 h23.2 (by kernel_rfl) h)) hT) hT) hT) hT) (fun R rest h=>Qae hT (i:=1) (n:=(a0.Pairs.length:Int)) h24.1 h24.2 (by kernel_rfl) h)) hT) hT) hT 79 (.b (((a0.Pairs.getD 0 Qa.z).Key) != ((a0.Pairs.getD 1 Qa.z).Key))) (.b false) (by rw [neF c25]<;>rfl)) hT) hT) hT) hT) hT) hT) hT) hT) hT) hT) hT) hT) ?_
     refine Yi hT 12 (K78 11110101111111110 1) [] ⟨102,[(2,.b false)],[]⟩ h0 ?_
     exact Jj5 false H
    replace H:=iF c25 H
    refine Qbt (hP▸mixed) 26 [1] (sm [.d (Qaq a0),.b true,.b true,.ptr 0 0 0 3,.d (Xj true a0.Pairs),.d (Qec true a0.Pairs 0 0),.d (Qec true a0.Pairs 0 0),.i ((a0.Pairs.getD 0 Qa.z).Key),.ptr 0 0 0 3,.d (Xj true a0.Pairs),.d (Qec true a0.Pairs 1 0),.d (Qec true a0.Pairs 1 0),.i ((a0.Pairs.getD 1 Qa.z).Key),.b true,.b true,.b true,.ptr 0 0 0 3,.d (Xj true a0.Pairs),.d (Qec true a0.Pairs 0 0),.d (Qec true a0.Pairs 0 1),.i ((a0.Pairs.getD 0 Qa.z).Val),.ptr 0 0 0 3,.d (Xj true a0.Pairs),.d (Qec true a0.Pairs 1 0),.d (Qec true a0.Pairs 1 1),.i ((a0.Pairs.getD 1 Qa.z).Val)]) (Qg (Qg (opS (Qg (Qg (Qg (Qg (opS (Qg (Qg (Qg (Qg (opV (Qg (Qg (opS (Qg (Qg (Qg (Qg (opS (Qg (Qg (Qg (opS (Qg op0 hT) (fun R rest h=>Jz (Xw:=[.d (Qaq a0),.i 2,.i 2]) (dst:=some 67) hP Qiq (by have q:=Qci.Wl a0 2 2 h21;rw [c22] at q;exact q) (by kernel_rfl) (.cons (Qn _) (.cons (Qn _) (.cons (Qn _) .nil))) (by kernel_rfl) h)) hT) hT) hT) (fun R rest h=>Qae hT (i:=0) (n:=(a0.Pairs.length:Int)) h23.1 h23.2 (by kernel_rfl) h)) hT) hT) hT) hT) (fun R rest h=>Qae hT (i:=1) (n:=(a0.Pairs.length:Int)) h24.1 h24.2 (by kernel_rfl) h)) hT) hT) hT 79 (.b (((a0.Pairs.getD 0 Qa.z).Key) != ((a0.Pairs.getD 1 Qa.z).Key))) (.b true) (by rw [neT c25]<;>rfl)) hT) hT) hT) hT) (fun R rest h=>Qae hT (i:=0) (n:=(a0.Pairs.length:Int)) h23.1 h23.2 (by kernel_rfl) h)) hT) hT) hT) hT) (fun R rest h=>Qae hT (i:=1) (n:=(a0.Pairs.length:Int)) h24.1 h24.2 (by kernel_rfl) h)) hT) hT) ?_
    refine Qi hT 3 (K78 111101011111111100 29) ⟨102,(Zh.p0++[(94,.b (((a0.Pairs.getD 0 Qa.z).Val) == ((a0.Pairs.getD 1 Qa.z).Val)))]),[.box 47 (Yk a0)]⟩ ?_
    by_cases c26:((a0.Pairs.getD 0 Qa.z).Val)=((a0.Pairs.getD 1 Qa.z).Val)
    ·replace H:=iT c26 H
     rw [eqT c26]
     refine Qi hT 2 (K78 111101011111111100 31) ⟨102,[(94,.b true),(96,.d (Xj true a0.Pairs))],[.box 47 (Yk a0)]⟩ ?_
     refine Qa7 hT [94,97] (i:=0) (n:=(a0.Pairs.length:Int)) h23.1 h23.2 (k':=(K78 111101011111111100 32)) (st':=⟨102,[(94,.b true),(97,.d (Qec true a0.Pairs 0 0))],[.box 47 (Yk a0)]⟩) (by kernel_rfl) ?_
     refine Yi hT 6 (K78 11110101111111110 1) [] ⟨102,[(2,.b (decide (((a0.Pairs.getD 0 Qa.z).Val)>=0)))],[]⟩ h0 ?_
     exact Jj5 (decide (((a0.Pairs.getD 0 Qa.z).Val)>=0)) H
    replace H:=iF c26 H
    rw [eqF c26]
    refine Yi hT 9 (K78 11110101111111110 1) [] ⟨102,[(2,.b false)],[]⟩ h0 ?_
    exact Jj5 false H
   replace H:=iF c22 H
   refine Qbt (hP▸mixed) 26 [1] (sm [.d (Qaq a0),.b false,.b false,.Qq [],.Qq [],.Qq [],.Qq [],.Qq [],.Qq [],.Qq [],.Qq [],.Qq [],.Qq [],.Qq [],.b false,.b false,.Qq [],.Qq [],.Qq [],.Qq [],.Qq [],.Qq [],.Qq [],.Qq [],.Qq [],.Qq []]) (Qg (Qg (Qg (Qg (Qg (Qg (Qg (Qg (Qg (Qg (Qg (Qg (Qg (Qg (Qg (Qg (Qg (Qg (Qg (Qg (Qg (Qg (Qg (Qg (opS (Qg op0 hT) (fun R rest h=>Jz (Xw:=[.d (Qaq a0),.i 2,.i 2]) (dst:=some 67) hP Qiq (by have q:=Qci.Wl a0 2 2 h21;rw [boF c22] at q;exact q) (by kernel_rfl) (.cons (Qn _) (.cons (Qn _) (.cons (Qn _) .nil))) (by kernel_rfl) h)) hT) hT) hT) hT) hT) hT) hT) hT) hT) hT) hT) hT) hT) hT) hT) hT) hT) hT) hT) hT) hT) hT) hT) hT) ?_
   refine Yi hT 12 (K78 11110101111111110 1) [] ⟨102,[(2,.b false)],[]⟩ h0 ?_
   exact Jj5 false H
  replace H:=iF c20 H
  rw [eqF c20]
  refine Qi hT 3 (K78 1111 1) ⟨102,[],[.box 47 (Yk a0)]⟩ ?_
  refine Qi hT 4 (K78 11111 1) ⟨102,[(2,.b false)],[.box 47 (Yk a0)]⟩ ?_
  obtain rfl:=Zb H
  exact Yr hf hX h0 (.b false) [] an (.d (.v _))
 refine Qi hT 18 (K78 11100 4) ⟨102,(Zh.p0++[(3,.ptr 1 0 0 0),(8,.b (a0.Kind != 2))]),[.box 47 (Yk a0),.box 39 [.i 0,.i 0]]⟩ ?_
 by_cases c1:a0.Kind=2
 ·replace H:=iT c1 H
  rw [neF c1]
  refine Qi hT 10 (K78 11100 14) ⟨102,(Zh.p0++[(14,.b false),(18,.b (a0.Kind != 4))]),[.box 47 (Yk a0),.box 39 [.i 0,.i 0]]⟩ ?_
  by_cases c2:a0.Kind=4
  ·replace H:=iT c2 H
   rw [neF c2]
   refine Yi hT 6 (K78 1110 1) [0] ⟨102,(Zh.p0++[(23,.b false)]),[.box 47 (Yk a0)]⟩ h0 ?_
   exact Zl false H
  replace H:=iF c2 H
  rw [neT c2]
  refine Yi hT 6 (K78 1110 1) [0] ⟨102,(Zh.p0++[(23,.b (a0.Old != 0))]),[.box 47 (Yk a0)]⟩ h0 ?_
  exact Zl (a0.Old != 0) H
 replace H:=iF c1 H
 rw [neT c1]
 refine Qi hT 6 (K78 11100 10) ⟨102,(Zh.p0++[(14,.b (!((a0.Over.Lo == 0) && (a0.Over.Hi == 0))))]),[.box 47 (Yk a0),.box 39 [.i 0,.i 0]]⟩ ?_
 by_cases c3:a0.Over.Lo=0
 ·replace H:=iT c3 H
  rw [eqT c3]
  by_cases c4:a0.Over.Hi=0
  ·replace H:=iT c4 H
   rw [eqT c4]
   refine Qi hT 4 (K78 11100 14) ⟨102,(Zh.p0++[(14,.b false),(18,.b (a0.Kind != 4))]),[.box 47 (Yk a0),.box 39 [.i 0,.i 0]]⟩ ?_
   by_cases c5:a0.Kind=4
   ·replace H:=iT c5 H
    rw [neF c5]
    refine Yi hT 6 (K78 1110 1) [0] ⟨102,(Zh.p0++[(23,.b false)]),[.box 47 (Yk a0)]⟩ h0 ?_
    exact Zl false H
   replace H:=iF c5 H
   rw [neT c5]
   refine Yi hT 6 (K78 1110 1) [0] ⟨102,(Zh.p0++[(23,.b (a0.Old != 0))]),[.box 47 (Yk a0)]⟩ h0 ?_
   exact Zl (a0.Old != 0) H
  replace H:=iF c4 H
  rw [eqF c4]
  refine Yi hT 10 (K78 1110 1) [0] ⟨102,(Zh.p0++[(23,.b true)]),[.box 47 (Yk a0)]⟩ h0 ?_
  exact Zl true H
 replace H:=iF c3 H
 rw [eqF c3]
 by_cases c6:a0.Over.Hi=0
 ·replace H:=iT c6 H
  rw [eqT c6]
  refine Yi hT 10 (K78 1110 1) [0] ⟨102,(Zh.p0++[(23,.b true)]),[.box 47 (Yk a0)]⟩ h0 ?_
  exact Zl true H
 replace H:=iF c6 H
 rw [eqF c6]
 refine Yi hT 10 (K78 1110 1) [0] ⟨102,(Zh.p0++[(23,.b true)]),[.box 47 (Yk a0)]⟩ h0 ?_
 exact Zl true H
theorem Qbn.Wl (a0:Qu) {r:Bool} (H:Qbn a0=some r):Yn Tryz.prog 43 [] [.d (Qaq a0)] [] (.b r):=by
 refine Xt Tryz.func43 rfl (nt:=25) rfl (lb rfl) fun X hP h0 hX=>?_
 have hT:Xl X.P T:=hP▸tok
 have hf:X.P.funcs[43]? = some Tryz.f43:=hP▸Tryz.func43
 have Zl:∀ (Qcq:Bool),(Qbn.j1 Qcq)=some r->AK X 43 ((K43 11 1)) (Jb X [] (.b r)) ⟨25,[(2,.b Qcq)],[]⟩:=by
  intro Qcq H
  obtain rfl:=Zb H
  exact Yr hf hX h0 (.b Qcq) [] an (.d (.v _))
 refine Qi hT 11 (K43 110 4) ⟨25,[(1,.ptr 0 0 0 0),(6,.b (decide (a0.Client>=1)))],[.box 47 (Yk a0)]⟩ ?_
 by_cases c1:a0.Client>=1
 ·replace H:=iT c1 H
  rw [decide_eq_true c1]
  refine Qi hT 5 (K43 110 9) ⟨25,[(1,.ptr 0 0 0 0),(11,.b (decide (a0.Client<=1048576)))],[.box 47 (Yk a0)]⟩ ?_
  by_cases c2:a0.Client<=1048576
  ·replace H:=iT c2 H
   rw [decide_eq_true c2]
   refine Qi hT 5 (K43 110 14) ⟨25,[(1,.ptr 0 0 0 0),(16,.b (decide (a0.Seq>=1)))],[.box 47 (Yk a0)]⟩ ?_
   by_cases c3:a0.Seq>=1
   ·replace H:=iT c3 H
    rw [decide_eq_true c3]
    refine Qi hT 5 (K43 110 19) ⟨25,[(1,.ptr 0 0 0 0),(21,.b (decide (a0.Seq<=1073741824)))],[.box 47 (Yk a0)]⟩ ?_
    by_cases c4:a0.Seq<=1073741824
    ·replace H:=iT c4 H
     rw [decide_eq_true c4]
     refine Qi hT 1 (K43 110 20) ⟨25,[(21,.b true),(22,.d (Qaq a0))],[.box 47 (Yk a0)]⟩ ?_
     obtain ⟨v1,h5,H⟩:=ibC H
     refine Wj (Xw:=[.d (Qaq a0)]) (dst:=some 23) (k':=(K43 110 21)) [21,23] [] hP Wd6 (Zh.Wl a0 h5) (by kernel_rfl) (Qz _) (.cons (Qn _) .nil) (st':=⟨25,[(21,.b true),(23,.b v1)],[.box 47 (Yk a0)]⟩) (by kernel_rfl) ?_
     refine Yi hT 3 (K43 11 1) [] ⟨25,[(2,.b v1)],[]⟩ h0 ?_
     exact Zl v1 H
    replace H:=iF c4 H
    rw [decide_eq_false c4]
    refine Yi hT 5 (K43 11 1) [] ⟨25,[(2,.b false)],[]⟩ h0 ?_
    exact Zl false H
   replace H:=iF c3 H
   rw [decide_eq_false c3]
   refine Yi hT 10 (K43 11 1) [] ⟨25,[(2,.b false)],[]⟩ h0 ?_
   exact Zl false H
  replace H:=iF c2 H
  rw [decide_eq_false c2]
  refine Yi hT 15 (K43 11 1) [] ⟨25,[(2,.b false)],[]⟩ h0 ?_
  exact Zl false H
 replace H:=iF c1 H
 rw [decide_eq_false c1]
 refine Yi hT 20 (K43 11 1) [] ⟨25,[(2,.b false)],[]⟩ h0 ?_
 exact Zl false H
theorem Qdp.Wl (a0:Int):Yn Tryz.prog 108 [] [.i a0] [] (.b (Qdp a0)):=by
 obtain ⟨r,H⟩:∃ r,Qdp a0=r:=⟨_,rfl⟩
 rw [H]
 refine Xt Tryz.func108 rfl (nt:=9) rfl (lb rfl) fun X hP h0 hX=>?_
 have hT:Xl X.P T:=hP▸tok
 have hf:X.P.funcs[108]? = some Tryz.f108:=hP▸Tryz.func108
 have Zl:∀ (Qcq:Bool),(Qdp.j1 Qcq)=r->AK X 108 ((Qzn 11 1)) (Jb X [] (.b r)) ⟨9,[(2,.b Qcq)],[]⟩:=by
  intro Qcq H
  obtain rfl:=H
  exact Yr hf hX h0 (.b Qcq) [] an (.d (.v _))
 refine Qi hT 9 (Qzn 110 3) ⟨9,[(0,.i a0),(5,.b (decide (a0>=0)))],[]⟩ ?_
 by_cases c1:a0>=0
 ·replace H:=iT c1 H
  rw [decide_eq_true c1]
  refine Qi hT 5 (Qzn 11 1) ⟨9,[(2,.b (decide (a0<=1099511627775)))],[]⟩ ?_
  exact Zl (decide (a0<=1099511627775)) H
 replace H:=iF c1 H
 rw [decide_eq_false c1]
 refine Qi hT 5 (Qzn 11 1) ⟨9,[(2,.b false)],[]⟩ ?_
 exact Zl false H
abbrev Qdo.q1 (a0:Yo):List AV:=[.i a0.M.Client,.i a0.M.Seq,.i a0.M.Kind,.own 2 2 0 a0.M.Pairs.length,.i a0.M.Over.Lo,.i a0.M.Over.Hi,.i a0.M.Old,.i a0.Time,.b a0.Qda]
abbrev Qdo.q2:List AV:=[.i 0,.i 0,.i 0,.ns,.i 0,.i 0,.i 0,.i 0,.b false]
abbrev Qdo.p0 (a0:Yo):List (Nat × AV):=[(2,.ptr 1 0 0 0),(9,.agg [.i a0.M.Client,.i a0.M.Seq,.i a0.M.Kind,.own 2 2 0 a0.M.Pairs.length,.i a0.M.Over.Lo,.i a0.M.Over.Hi,.i a0.M.Old,.i a0.Time,.b a0.Qda])]
theorem Qdo.Wl (a0:Yo) {r:Yo} (H:Qdo a0=some r):Yn Tryz.prog 111 [] [.d (Qj1 a0)] [] (.d (Qj1 r)):=by
 refine Xt Tryz.func111 rfl (nt:=10) rfl (lb rfl) fun X hP h0 hX=>?_
 have hT:Xl X.P T:=hP▸tok
 have hf:X.P.funcs[111]? = some Tryz.f111:=hP▸Tryz.func111
 refine Qi hT 10 (Qzo 110 3) ⟨10,[(1,.ptr 0 0 0 0),(2,.ptr 1 0 0 0),(5,.d (Xj true a0.M.Pairs))],[.box 130 (Qei a0),.box 130 (Qdo.q2)]⟩ ?_
 obtain ⟨h1,H⟩:=iC H
 refine Wj (Xw:=[.d (Xj true a0.M.Pairs)]) (dst:=some 6) (k':=(Qzo 110 4)) [1,2,6] [] hP Qmt (Qqx (tg:=true) a0.M.Pairs h1) (by kernel_rfl) (Qz _) (.cons (Qn _) .nil) (st':=⟨10,[(1,.ptr 0 0 0 0),(2,.ptr 1 0 0 0),(6,.own 2 2 0 a0.M.Pairs.length)],[.box 130 (Qei a0),.box 130 (Qdo.q2),Xp a0.M.Pairs]⟩) (by kernel_rfl) ?_
 refine Qi hT 7 (Qzo 1110 1) ⟨10,(Qdo.p0 a0),[.box 130 (Qdo.q1 a0),.box 130 (Qdo.q2),Xp a0.M.Pairs]⟩ ?_
 refine Qeg 2 (kk:=2) (n:=a0.M.Pairs.length) (ty:=56) (g:=vec Qa.e Qa.z a0.M.Pairs) (by kernel_rfl) (st':=⟨10,(Qdo.p0 a0),[.box 130 (Qdo.q1 a0),.box 130 (Qdo.q2),Qnk a0.M.Pairs]⟩) (by kernel_rfl) ?_
 refine Qhi (av:=.agg [.i a0.M.Client,.i a0.M.Seq,.i a0.M.Kind,.own 2 2 0 a0.M.Pairs.length,.i a0.M.Over.Lo,.i a0.M.Over.Hi,.i a0.M.Old,.i a0.Time,.b a0.Qda]) (y:=Qj1 a0) [2,9] 9 (st':=⟨10,[(2,.ptr 1 0 0 0),(9,.d (Qj1 a0))],[.box 130 (Qdo.q1 a0),.box 130 (Qdo.q2),Qnk a0.M.Pairs]⟩) (by kernel_rfl) (.agg (.cons (.d _) (.cons (.d _) (.cons (.d _) (.cons (.own (ty:=56) (k:=2) (by kernel_rfl)) (.cons (.d _) (.cons (.d _) (.cons (.d _) (.cons (.d _) (.cons (.d _) .nil)))))))))) (by kernel_rfl) ?_
 refine Qi hT 2 (Qzo 111 1) ⟨10,[(2,.ptr 1 0 0 0)],[.box 130 (Qdo.q1 a0),.box 130 (Qei a0),Qnk a0.M.Pairs]⟩ ?_
 obtain rfl:=Zb H
 exact Qjm hT hf hX (av:=.d (Qj1 a0)) (by kernel_rfl) [] (Qb1 (by kernel_rfl)) (by decide) (by rw [h0];rfl) (by kernel_rfl) an (.d (.agg (Yo.nl _)))
theorem Qdr.Wl (a0:Qc):Yn Tryz.prog 28 [] [.d (Qd2 a0)] [] (.d (Qen (Qdr a0))):=by
 obtain ⟨r,H⟩:∃ r,Qdr a0=r:=⟨_,rfl⟩
 rw [H]
 refine Xt Tryz.func28 rfl (nt:=8) rfl (lb rfl) fun X hP h0 hX=>?_
 have hT:Xl X.P T:=hP▸tok
 have hf:X.P.funcs[28]? = some Tryz.f28:=hP▸Tryz.func28
 refine Qi hT 11 (K28 110 4) ⟨8,[(2,.ptr 1 0 0 0),(4,.i a0.Time),(6,.d (Qaq a0.M))],[.box 50 (Qbl a0),.box 65 [.i 0,.i 0,.i 0]]⟩ ?_
 refine Wj (Xw:=[.i a0.Time,.d (Qaq a0.M)]) (dst:=some 7) (k':=(K28 110 5)) [2,7] [] hP Qjq (Qbg.Wl a0.Time a0.M) (by kernel_rfl) (Qz _) (.cons (Qn _) (.cons (Qn _) .nil)) (st':=⟨8,[(2,.ptr 1 0 0 0),(7,.d (Qen (Qbg a0.Time a0.M)))],[.box 50 (Qbl a0),.box 65 [.i 0,.i 0,.i 0]]⟩) (by kernel_rfl) ?_
 obtain ⟨v1,h1,H⟩:=idC H
 rw [<- h1]
 refine Qi hT 2 (K28 11 1) ⟨8,[(2,.ptr 1 0 0 0)],[.box 50 (Qbl a0),.box 65 (Qib v1)]⟩ ?_
 obtain rfl:=H
 exact Qjm hT hf hX (av:=.d (Qen v1)) (by kernel_rfl) [] (Qb1 (by kernel_rfl)) (by decide) (by rw [h0];rfl) (by kernel_rfl) an (.d (.agg (Jh.nl _)))
theorem Qhr.Wl (a0:Qc) (a1:Qc) {r:Int} (H:Qhr a0 a1=some r):Yn Tryz.prog 26 [] [.d (Qd2 a0),.d (Qd2 a1)] [] (.i r):=by
 refine Xt Tryz.func26 rfl (nt:=10) rfl (lb rfl) fun X hP h0 hX=>?_
 have hT:Xl X.P T:=hP▸tok
 have hf:X.P.funcs[26]? = some Tryz.f26:=hP▸Tryz.func26
 refine Qi hT 7 (K26 11 0) ⟨10,[(2,.ptr 0 0 0 0),(3,.ptr 1 0 0 0)],[.box 50 (Qbl a0),.box 50 (Qbl a1)]⟩ ?_
 refine Qbt (hP▸mixed) 3 [2,3] (sm [.d (Qd2 a0),.d (Qen (Qdr a0)),.d (Qd2 a1)]) (Qg (opS (Qg op0 hT) (fun R rest h=>Jz (Xw:=[.d (Qd2 a0)]) (dst:=some 6) hP Qu2 (Qdr.Wl a0) (by kernel_rfl) (.cons (Qn _) .nil) (by kernel_rfl) h)) hT) ?_
 refine Qi hT 0 (K26 110 3) ⟨10,[(6,.d (Qen (Qdr a0))),(7,.d (Qd2 a1))],[.box 50 (Qbl a0),.box 50 (Qbl a1)]⟩ ?_
 refine Wj (Xw:=[.d (Qd2 a1)]) (dst:=some 8) (k':=(K26 110 4)) [6,8] [] hP Qu2 (Qdr.Wl a1) (by kernel_rfl) (Qz _) (.cons (Qn _) .nil) (st':=⟨10,[(6,.d (Qen (Qdr a0))),(8,.d (Qen (Qdr a1)))],[.box 50 (Qbl a0),.box 50 (Qbl a1)]⟩) (by kernel_rfl) ?_
 obtain ⟨v1,h1,H⟩:=idC H
 rw [<- h1]
 obtain ⟨v2,h2,H⟩:=ibC H
 refine Wj (Xw:=[.d (Qen (Qdr a0)),.d (Qen v1)]) (dst:=some 9) (k':=(K26 110 5)) [9] [] hP Qmu (Qbs.Wl (Qdr a0) v1 h2) (by kernel_rfl) (Qz _) (.cons (Qn _) (.cons (Qn _) .nil)) (st':=⟨10,[(9,.i v2)],[.box 50 (Qbl a0),.box 50 (Qbl a1)]⟩) (by kernel_rfl) ?_
 refine Qi hT 2 (K26 11 1) ⟨10,[(4,.i v2)],[.box 50 (Qbl a0),.box 50 (Qbl a1)]⟩ ?_
 obtain rfl:=Zb H
 exact Yr hf hX h0 (.i v2) [] an (.d (.v _))
theorem Zr.Wl {t0:Bool} {Zk:FuncId} {Zn:List DV} (a0:List Qb) (p1:Qb->Option Bool) (he1:Sy.Enters Tryz.prog Zk) (hp1:∀ (z0:Qb) r,p1 z0=some r->Yn Tryz.prog Zk [] ([.d (Qfd z0)] ++ List.map AV.d Zn) [] (.b r)) {r:Int} (H:Zr a0 p1=some r):Yn Tryz.prog 141 [] [.d (Xf t0 a0),.d (.fn Zk Zn)] [] (.i r):=by
 refine Xt Tryz.func141 rfl (nt:=19) rfl (lb rfl) fun X hP h0 hX=>?_
 have hT:Xl X.P T:=hP▸tok
 have hf:X.P.funcs[141]? = some Tryz.f141:=hP▸Tryz.func141
 refine Qi hT 13 (Qkk 11010 0) ⟨19,[(0,.d (Xf t0 a0)),(1,.d (.fn Zk Zn)),(7,.i (a0.length:Int)),(8,.i 0)],[]⟩ ?_
 have L:∀ n,(∀ (Qy:Int),iter (Zr.step a0 p1) n (.l1 Qy)=some r->AK X 141 ((Qkk 11010 0)) (Jb X [] (.i r)) ⟨19,[(0,.d (Xf t0 a0)),(1,.d (.fn Zk Zn)),(7,.i (a0.length:Int)),(8,.i Qy)],[]⟩):=by
  intro n
  induction n with
  | zero=>exact fun _ H=>Qbx H
  | succ n ih=>
   ·intro Qy H
    refine Qi hT 5 (Qkk 1101001 0) ⟨19,[(0,.d (Xf t0 a0)),(1,.d (.fn Zk Zn)),(7,.i (a0.length:Int)),(8,.i Qy),(9,.b (decide (Qy < (a0.length:Int))))],[]⟩ ?_
    by_cases c1:Qy < (a0.length:Int)
    ·replace H:=sT c1 H
     rw [decide_eq_true c1]
     refine Qi hT 2 (Qkk 1101001 1) ⟨19,[(0,.d (Xf t0 a0)),(1,.d (.fn Zk Zn)),(7,.i (a0.length:Int)),(8,.i Qy)],[]⟩ ?_
     refine Qi hT 12 (Qkk 110100110010 3) ⟨19,[(0,.d (Xf t0 a0)),(1,.d (.fn Zk Zn)),(5,.i Qy),(7,.i (a0.length:Int)),(8,.i Qy),(11,.d (.fn Zk Zn)),(12,.d (Xf t0 a0)),(13,.i Qy)],[]⟩ ?_
     obtain ⟨h2,H⟩:=sC H
     refine Qa7 hT [0,1,5,7,8,11,14] (i:=Qy) (n:=(a0.length:Int)) h2.1 h2.2 (k':=(Qkk 110100110010 4)) (st':=⟨19,[(0,.d (Xf t0 a0)),(1,.d (.fn Zk Zn)),(5,.i Qy),(7,.i (a0.length:Int)),(8,.i Qy),(11,.d (.fn Zk Zn)),(14,.d (Qt5 t0 a0 Qy.toNat 0))],[]⟩) (by kernel_rfl) ?_
     refine Qi hT 1 (Qkk 110100110010 5) ⟨19,[(0,.d (Xf t0 a0)),(1,.d (.fn Zk Zn)),(5,.i Qy),(7,.i (a0.length:Int)),(8,.i Qy),(11,.d (.fn Zk Zn)),(15,.d (Qfd (a0.getD Qy.toNat Qb.z)))],[]⟩ ?_
     obtain ⟨v1,h3,H⟩:=sbC H
     refine Wj (Xw:=[.d (Qfd (a0.getD Qy.toNat Qb.z))] ++ List.map AV.d Zn) (dst:=some 16) (k':=(Qkk 110100110010 6)) [0,1,5,7,8,16] [] hP he1 (hp1 (a0.getD Qy.toNat Qb.z) v1 h3) (by kernel_rfl) (Qz _) (.cons (Qn _) (Qfz _)) (st':=⟨19,[(0,.d (Xf t0 a0)),(1,.d (.fn Zk Zn)),(5,.i Qy),(7,.i (a0.length:Int)),(8,.i Qy),(16,.b v1)],[]⟩) (by kernel_rfl) ?_
     refine Qi hT 1 (Qkk 11010011001 1) ⟨19,[(0,.d (Xf t0 a0)),(1,.d (.fn Zk Zn)),(5,.i Qy),(7,.i (a0.length:Int)),(8,.i Qy),(16,.b v1)],[]⟩ ?_
     by_cases c4:v1=true
     ·replace H:=sT c4 H
      rw [c4]
      refine Qi hT 6 (Qkk 1101001100110 1) ⟨19,[(4,.i Qy)],[]⟩ ?_
      obtain rfl:=Zb H
      exact Yr hf hX h0 (.i Qy) [] an (.d (.v _))
     replace H:=sF c4 H
     rw [boF c4]
     refine Qi hT 3 (Qkk 11010011 1) ⟨19,[(0,.d (Xf t0 a0)),(1,.d (.fn Zk Zn)),(7,.i (a0.length:Int)),(8,.i Qy)],[]⟩ ?_
     refine Qi hT 5 (Qkk 11010 0) ⟨19,[(0,.d (Xf t0 a0)),(1,.d (.fn Zk Zn)),(7,.i (a0.length:Int)),(8,.i (IntKind.wrap .i64 (Qy+1)))],[]⟩ ?_
     exact ih (IntKind.wrap .i64 (Qy+1)) H
    replace H:=sF c1 H
    rw [decide_eq_false c1]
    refine Qi hT 6 (Qkk 111 1) ⟨19,[(4,.i (-1))],[]⟩ ?_
    obtain rfl:=Zb H
    exact Yr hf hX h0 (.i (-1)) [] an (.d (.v _))
 obtain ⟨n,H⟩:=Qcn H
 exact (L n) 0 H
theorem Qbq.Wl {t0:Bool} {Zk:FuncId} {Zn:List DV} (a0:List Qb) (p1:Qb->Option Bool) (he1:Sy.Enters Tryz.prog Zk) (hp1:∀ (z0:Qb) r,p1 z0=some r->Yn Tryz.prog Zk [] ([.d (Qfd z0)] ++ List.map AV.d Zn) [] (.b r)) {r:Bool} (H:Qbq a0 p1=some r):Yn Tryz.prog 113 [] [.d (Xf t0 a0),.d (.fn Zk Zn)] [] (.b r):=by
 refine Xt Tryz.func113 rfl (nt:=9) rfl (lb rfl) fun X hP h0 hX=>?_
 have hT:Xl X.P T:=hP▸tok
 have hf:X.P.funcs[113]? = some Tryz.f113:=hP▸Tryz.func113
 refine Qi hT 8 (Wf0 110 2) ⟨9,[(5,.d (Xf t0 a0)),(6,.d (.fn Zk Zn))],[]⟩ ?_
 obtain ⟨v1,h1,H⟩:=ibC H
 refine Wj (Xw:=[.d (Xf t0 a0),.d (.fn Zk Zn)]) (dst:=some 7) (k':=(Wf0 110 3)) [7] [] hP Wap (Zr.Wl (t0:=t0) (Zk:=Zk) (Zn:=Zn) a0 p1 he1 hp1 h1) (by kernel_rfl) (Qz _) (.cons (Qn _) (.cons (Qn _) .nil)) (st':=⟨9,[(7,.i v1)],[]⟩) (by kernel_rfl) ?_
 refine Qi hT 3 (Wf0 11 1) ⟨9,[(4,.b (decide (v1>=0)))],[]⟩ ?_
 obtain rfl:=Zb H
 exact Yr hf hX h0 (.b (decide (v1>=0))) [] an (.d (.v _))
theorem Qgt.Wl (a0:Qb):Yn Tryz.prog 114 [] [.d (Qfd a0)] [] (.b (Qgt a0)):=by
 obtain ⟨r,H⟩:∃ r,Qgt a0=r:=⟨_,rfl⟩
 rw [H]
 refine Xt Tryz.func114 rfl (nt:=6) rfl (lb rfl) fun X hP h0 hX=>?_
 have hT:Xl X.P T:=hP▸tok
 have hf:X.P.funcs[114]? = some Tryz.f114:=hP▸Tryz.func114
 refine Qi hT 8 (Wf1 110 1) ⟨6,[(3,.d (Qfd a0))],[.box 39 (Qfb a0)]⟩ ?_
 refine Wj (Xw:=[.d (Qfd a0)]) (dst:=some 4) (k':=(Wf1 110 2)) [4] [] hP Qid (Qbc.Wl a0) (by kernel_rfl) (Qz _) (.cons (Qn _) .nil) (st':=⟨6,[(4,.b (Qbc a0))],[.box 39 (Qfb a0)]⟩) (by kernel_rfl) ?_
 refine Qi hT 3 (Wf1 11 1) ⟨6,[(2,.b (!(Qbc a0)))],[.box 39 (Qfb a0)]⟩ ?_
 obtain rfl:=H
 exact Yr hf hX h0 (.b (!(Qbc a0))) [] an (.d (.v _))
theorem Yw.Wl (a0:Qb) (a1:Qb):Yn Tryz.prog 117 [] [.d (Qfd a0),.d (Qfd a1)] [] (.i (Yw a0 a1)):=by
 obtain ⟨r,H⟩:∃ r,Yw a0 a1=r:=⟨_,rfl⟩
 rw [H]
 refine Xt Tryz.func117 rfl (nt:=10) rfl (lb rfl) fun X hP h0 hX=>?_
 have hT:Xl X.P T:=hP▸tok
 have hf:X.P.funcs[117]? = some Tryz.f117:=hP▸Tryz.func117
 refine Qi hT 12 (Wf2 110 4) ⟨10,[(6,.i a0.Lo),(8,.i a1.Lo)],[.box 39 (Qfb a0),.box 39 (Qfb a1)]⟩ ?_
 refine Wj (Xw:=[.i a0.Lo,.i a1.Lo]) (dst:=some 9) (k':=(Wf2 110 5)) [9] [] hP Qie (Yf.Wl a0.Lo a1.Lo) (by kernel_rfl) (Qz _) (.cons (Qn _) (.cons (Qn _) .nil)) (st':=⟨10,[(9,.i (Yf a0.Lo a1.Lo))],[.box 39 (Qfb a0),.box 39 (Qfb a1)]⟩) (by kernel_rfl) ?_
 refine Qi hT 2 (Wf2 11 1) ⟨10,[(4,.i (Yf a0.Lo a1.Lo))],[.box 39 (Qfb a0),.box 39 (Qfb a1)]⟩ ?_
 obtain rfl:=H
 exact Yr hf hX h0 (.i (Yf a0.Lo a1.Lo)) [] an (.d (.v _))
theorem Qe7.Wl (a0:List Qb):Yn Tryz.prog 118 [] [.d (Xf true a0)] [] (.Qq [.d (Xf true ((Qe7 a0).1)),.i ((Qe7 a0).2)]):=by
 obtain ⟨r,H⟩:∃ r,Qe7 a0=r:=⟨_,rfl⟩
 rw [H]
 refine Xt Tryz.func118 rfl (nt:=8) rfl (lb rfl) fun X hP h0 hX=>?_
 have hT:Xl X.P T:=hP▸tok
 have hf:X.P.funcs[118]? = some Tryz.f118:=hP▸Tryz.func118
 refine Qi hT 12 (Qzp 110 1) ⟨8,[(0,.d (Xf true a0)),(6,.b (decide ((a0.length:Int) > 64)))],[]⟩ ?_
 by_cases c1:(a0.length:Int) > 64
 ·replace H:=iT c1 H
  rw [decide_eq_true c1]
  refine Qi hT 6 (Qzp 11010 1) ⟨8,[(2,.ns),(3,.i 2)],[]⟩ ?_
  refine Qhi (av:=.d (.v (.slice none 0 0))) (y:=Xf true ([]:List Qb)) [2,3] 2 (st':=⟨8,[(2,.d (Xf true ([]:List Qb))),(3,.i 2)],[]⟩) (by kernel_rfl) (.nil _) (by kernel_rfl) ?_
  obtain rfl:=H
  exact Yr hf hX h0 (.Qq [.d (Xf true ([]:List Qb)),.i 2]) [] an (.Qq (.cons (.d (.sl fun _ _=>Qb.nl _)) (.cons (.d (.v _)) .nil)))
 replace H:=iF c1 H
 rw [decide_eq_false c1]
 refine Qi hT 2 (Qzp 11 1) ⟨8,[(0,.d (Xf true a0))],[]⟩ ?_
 refine Qi hT 6 (Qzp 111 1) ⟨8,[(2,.d (Xf true a0)),(3,.i 0)],[]⟩ ?_
 obtain rfl:=H
 exact Yr hf hX h0 (.Qq [.d (Xf true a0),.i 0]) [] an (.Qq (.cons (.d (.sl fun _ _=>Qb.nl _)) (.cons (.d (.v _)) .nil)))
abbrev Qv.q1 (Qh:List Qb) (a0:List Qb) (Ji:Int):=(Qh.set ((IntKind.wrap .i64 ((Qh.length:Int) - 1)).toNat) (⟨(Qh.getD ((IntKind.wrap .i64 ((Qh.length:Int) - 1)).toNat) Qb.z).Lo,Qeo ((Qh.getD ((IntKind.wrap .i64 ((Qh.length:Int) - 1)).toNat) Qb.z).Hi) (((Jr Qb.z Yw a0).getD Ji.toNat Qb.z).Hi)⟩:Qb))
abbrev Qv.q2 (a0:List Qb) (Ji:Int):=((Jr Qb.z Yw a0).getD Ji.toNat Qb.z)
abbrev Qv.q3 (Qh:List Qb):=(IntKind.wrap .i64 ((Qh.length:Int) - 1))
abbrev Qv.q4 (a0:List Qb):=((Jr Qb.z Yw a0).length:Int)
abbrev Qv.q5 (a0:List Qb):=((Jr Qb.z Yw a0).length)
abbrev Qv.q6 (Qh:List Qb):=((Qh.getD ((Qv.q3 Qh).toNat) Qb.z).Hi)
abbrev Qv.q7 (Qh:List Qb) (a0:List Qb) (Ji:Int):List Row:=[Qao Qh,.box 39 (Qfb (Qv.q2 a0 Ji)),Qao (Jr Qb.z Yw a0)]
theorem Qv.Wl (a0:List Qb) {r:(List Qb) × Int} (H:Qv a0=some r):Yn Tryz.prog 74 [] [.d (Xf true a0)] [] (.Qq [.d (Xf true r.1),.i r.2]):=by
 refine Xt Tryz.func74 rfl (nt:=56) rfl (lb rfl) fun X hP h0 hX=>?_
 have hT:Xl X.P T:=hP▸tok
 have hf:X.P.funcs[74]? = some Tryz.f74:=hP▸Tryz.func74
 refine Qi hT 9 (K74 1100 1) ⟨56,[(0,.d (Xf true a0)),(9,.d (Xf true a0))],[]⟩ ?_
 obtain ⟨v1,h1,H⟩:=ibC H
 refine Wj (Xw:=[.d (Xf true a0),.d (.fn 114 [])]) (dst:=some 10) (k':=(K74 1100 2)) [0,10] [] hP Qs6 (Qbq.Wl (t0:=true) (Zk:=114) (Zn:=[]) a0 (fun z0=>some (Qgt z0)) Waa (fun z0 r h=>by obtain rfl:=Zb h;exact Qgt.Wl z0) h1) (by kernel_rfl) (Qz _) (.cons (Qn _) (.cons (Qn _) .nil)) (st':=⟨56,[(0,.d (Xf true a0)),(10,.b v1)],[]⟩) (by kernel_rfl) ?_
 refine Qi hT 1 (K74 110 1) ⟨56,[(0,.d (Xf true a0)),(10,.b v1)],[]⟩ ?_
 by_cases c2:v1=true
 ·replace H:=iT c2 H
  rw [c2]
  refine Qi hT 6 (K74 11010 1) ⟨56,[(2,.ns),(3,.i 1)],[]⟩ ?_
  refine Qhi (av:=.d (.v (.slice none 0 0))) (y:=Xf true ([]:List Qb)) [2,3] 2 (st':=⟨56,[(2,.d (Xf true ([]:List Qb))),(3,.i 1)],[]⟩) (by kernel_rfl) (.nil _) (by kernel_rfl) ?_
  obtain rfl:=Zb H
  exact Yr hf hX h0 (.Qq [.d (Xf true ([]:List Qb)),.i 1]) [] an (.Qq (.cons (.d (.sl fun _ _=>Qb.nl _)) (.cons (.d (.v _)) .nil)))
 replace H:=iF c2 H
 rw [boF c2]
 refine Qi hT 2 (K74 11 1) ⟨56,[(0,.d (Xf true a0))],[]⟩ ?_
 refine Qi hT 3 (K74 1110 1) ⟨56,[(11,.d (Xf true a0))],[]⟩ ?_
 refine Wj (Xw:=[.d (Xf true a0)]) (dst:=some 12) (k':=(K74 1110 2)) [12] [] hP Wac (Wfw a0) (by kernel_rfl) (Qz _) (.cons (Qn _) .nil) (st':=⟨56,[(12,.fn 144 [.ptr 0 0 0 0])],[.box 51 [.d (Xf true a0)]]⟩) (by kernel_rfl) ?_
 obtain ⟨h3,H⟩:=iC H
 refine Wj (Xw:=[.fn 144 [.ptr 0 0 0 0],.d (.fn 117 [])]) (dst:=some 13) (k':=(K74 1110 3)) [13] [] hP Wab (Qv7 (tg:=true) Wad Yw Qkb (fun x y=>Yw.Wl x y) a0 h3) (by kernel_rfl) (Qz _) (.cons (.fn 144 (.cons (.look (ty:=51) (cs:=[Xf true a0]) (by kernel_rfl) rfl) .nil)) (.cons (Qn _) .nil)) (st':=⟨56,[(13,.own 1 2 0 (Qv.q5 a0))],[.box 51 [.d (Xf true a0)],Qao (Jr Qb.z Yw a0)]⟩) (by kernel_rfl) ?_
 refine Qi hT 15 (K74 11111010 0) ⟨56,[(5,.ns),(14,.own 1 2 0 (Qv.q5 a0)),(15,.i (Qv.q4 a0)),(16,.i 0)],[.box 51 [.d (Xf true a0)],Qao (Jr Qb.z Yw a0)]⟩ ?_
 refine Qe8 [5,14,15,16] 5 2 39 (vec Qb.e Qb.z []) (st':=⟨56,[(5,.own 2 2 0 0),(14,.own 1 2 0 (Qv.q5 a0)),(15,.i (Qv.q4 a0)),(16,.i 0)],[.box 51 [.d (Xf true a0)],Qao (Jr Qb.z Yw a0),Qao ([]:List Qb)]⟩) (by kernel_rfl) (by kernel_rfl) ?_
 have L:∀ n,(∀ (Ji:Int) (Qh:List Qb),iter (Qv.step a0) n (.l1 Ji Qh)=some r->AK X 74 ((K74 11111010 0)) (Jb X [] (.Qq [.d (Xf true r.1),.i r.2])) ⟨56,[(5,.own 0 2 0 Qh.length),(14,.own 1 2 0 (Qv.q5 a0)),(15,.i (Qv.q4 a0)),(16,.i Ji)],[Qao Qh,Qao (Jr Qb.z Yw a0)]⟩):=by
  intro n
  induction n with
  | zero=>exact fun _ _ H=>Qbx H
  | succ n ih=>
   ·intro Ji Qh H
    refine Qi hT 5 (K74 1111101001 0) ⟨56,[(5,.own 0 2 0 Qh.length),(14,.own 1 2 0 (Qv.q5 a0)),(15,.i (Qv.q4 a0)),(16,.i Ji),(17,.b (decide (Ji < (Qv.q4 a0))))],[Qao Qh,Qao (Jr Qb.z Yw a0)]⟩ ?_
    by_cases c4:Ji < (Qv.q4 a0)
    ·replace H:=sT c4 H
     rw [decide_eq_true c4]
     refine Qi hT 2 (K74 1111101001 1) ⟨56,[(5,.own 0 2 0 Qh.length),(14,.own 1 2 0 (Qv.q5 a0)),(15,.i (Qv.q4 a0)),(16,.i Ji)],[Qao Qh,Qao (Jr Qb.z Yw a0)]⟩ ?_
     refine Qi hT 4 (K74 11111010011000 0) ⟨56,[(5,.own 0 2 0 Qh.length),(14,.own 1 2 0 (Qv.q5 a0)),(15,.i (Qv.q4 a0)),(16,.i Ji)],[Qao Qh,Qao (Jr Qb.z Yw a0)]⟩ ?_
     obtain ⟨h6,H⟩:=sC H
     have Zl:∀ (Qgr:Bool),stk (Qv.j1 a0 Ji Qh Qgr) (iter (Qv.step a0) n)=some r->AK X 74 ((K74 1111101001100101 1)) (Jb X [] (.Qq [.d (Xf true r.1),.i r.2])) ⟨56,[(5,.own 0 2 0 Qh.length),(7,.ptr 1 0 0 0),(8,.i (Qv.q3 Qh)),(14,.own 2 2 0 (Qv.q5 a0)),(15,.i (Qv.q4 a0)),(16,.i Ji),(34,.b Qgr)],(Qv.q7 Qh a0 Ji)⟩:=by
      intro Qgr H
      by_cases c9:Qgr=true
      ·replace H:=sT c9 H
       rw [c9]
       refine Qi hT 2 (K74 111110100110010110 0) ⟨56,[(5,.own 0 2 0 Qh.length),(7,.ptr 1 0 0 0),(8,.i (Qv.q3 Qh)),(14,.own 2 2 0 (Qv.q5 a0)),(15,.i (Qv.q4 a0)),(16,.i Ji)],(Qv.q7 Qh a0 Ji)⟩ ?_
       obtain ⟨h10,H⟩:=sC H
       refine Qbt (hP▸mixed) 10 [5,7,8,14,15,16] (sm [.own 0 2 0 Qh.length,.i (Qv.q3 Qh),.own 0 2 0 Qh.length,.i (Qv.q3 Qh),.ptr 0 2 ((Qv.q3 Qh).toNat) 0,.ptr 0 2 ((Qv.q3 Qh).toNat) 1,.i (Qv.q6 Qh),.ptr 1 0 0 1,.i ((Qv.q2 a0 Ji).Hi),.i (Qeo (Qv.q6 Qh) ((Qv.q2 a0 Ji).Hi))]) (Qg (Qg (Qg (opS (Qg (opS (Qg (Qg (Qg (Qg op0 hT) hT) hT) hT) (fun R rest h=>Qae hT (i:=IntKind.wrap .i64 ((Qh.length:Int) - 1)) (n:=(Qh.length:Int)) h10.1 h10.2 (by kernel_rfl) h)) hT) (fun R rest h=>Qi7 hT (i:=(Qv.q3 Qh).toNat) (n:=Qh.length) (ltN h10.1 h10.2) (by kernel_rfl) h)) hT) hT) hT) ?_
       refine Qi hT 0 (K74 1111101001100101100 10) ⟨56,[(5,.own 0 2 0 Qh.length),(14,.own 2 2 0 (Qv.q5 a0)),(15,.i (Qv.q4 a0)),(16,.i Ji),(35,.own 0 2 0 Qh.length),(36,.i (Qv.q3 Qh)),(44,.i (Qeo (Qv.q6 Qh) ((Qv.q2 a0 Ji).Hi)))],(Qv.q7 Qh a0 Ji)⟩ ?_
       refine Qa7 hT [5,14,15,16,44,45] (i:=IntKind.wrap .i64 ((Qh.length:Int) - 1)) (n:=(Qh.length:Int)) h10.1 h10.2 (k':=(K74 1111101001100101100 11)) (st':=⟨56,[(5,.own 0 2 0 Qh.length),(14,.own 2 2 0 (Qv.q5 a0)),(15,.i (Qv.q4 a0)),(16,.i Ji),(44,.i (Qeo (Qv.q6 Qh) ((Qv.q2 a0 Ji).Hi))),(45,.ptr 0 2 ((Qv.q3 Qh).toNat) 0)],(Qv.q7 Qh a0 Ji)⟩) (by kernel_rfl) ?_
       refine Qi hT 1 (K74 1111101001100101100 12) ⟨56,[(5,.own 0 2 0 Qh.length),(14,.own 2 2 0 (Qv.q5 a0)),(15,.i (Qv.q4 a0)),(16,.i Ji),(44,.i (Qeo (Qv.q6 Qh) ((Qv.q2 a0 Ji).Hi))),(46,.ptr 0 2 ((Qv.q3 Qh).toNat) 1)],(Qv.q7 Qh a0 Ji)⟩ ?_
       refine Qwb (id:=0) (kk:=2) (i:=((Qv.q3 Qh).toNat)) (off:=1) (s:=1) (n:=Qh.length) (ty:=39) (ds:=[.i (Qeo (Qv.q6 Qh) ((Qv.q2 a0 Ji).Hi))]) (g:=vec Qb.e Qb.z Qh) (k':=(K74 1111101001100101100 13)) hT [5,14,15,16] (vec Qb.e Qb.z (Qv.q1 Qh a0 Ji)) (by kernel_rfl) (by kernel_rfl) (ltN h10.1 h10.2) ((Qn4 (ltN h10.1 h10.2)).trans (by kernel_rfl)) Qkd (st':=⟨56,[(5,.own 0 2 0 (Qh.length)),(14,.own 2 2 0 (Qv.q5 a0)),(15,.i (Qv.q4 a0)),(16,.i Ji)],[.flat false 2 39 Qh.length (vec Qb.e Qb.z (Qv.q1 Qh a0 Ji)),.box 39 (Qfb (Qv.q2 a0 Ji)),.flat false 2 39 (Jr Qb.z Yw a0).length (vec Qb.e Qb.z (Jr Qb.z Yw a0))]⟩) (by kernel_rfl) ?_
       refine Qoa (show Qh.length=(Qv.q1 Qh a0 Ji).length from (List.length_set ..).symm) (fun nn=>⟨56,[(5,.own 0 2 0 (nn)),(14,.own 2 2 0 (Qv.q5 a0)),(15,.i (Qv.q4 a0)),(16,.i Ji)],[.flat false 2 39 nn (vec Qb.e Qb.z (Qv.q1 Qh a0 Ji)),.box 39 (Qfb (Qv.q2 a0 Ji)),.flat false 2 39 (Jr Qb.z Yw a0).length (vec Qb.e Qb.z (Jr Qb.z Yw a0))]⟩) ?_
       refine Yi hT 7 (K74 11111010 0) [0,2] ⟨56,[(5,.own 0 2 0 (Qv.q1 Qh a0 Ji).length),(14,.own 1 2 0 (Qv.q5 a0)),(15,.i (Qv.q4 a0)),(16,.i (IntKind.wrap .i64 (Ji+1)))],[Qao (Qv.q1 Qh a0 Ji),Qao (Jr Qb.z Yw a0)]⟩ h0 ?_
       exact ih (IntKind.wrap .i64 (Ji+1)) (Qv.q1 Qh a0 Ji) H
      replace H:=sF c9 H
      rw [boF c9]
      refine Qi hT 2 (K74 11111010011001 1) ⟨56,[(5,.own 0 2 0 Qh.length),(7,.ptr 1 0 0 0),(14,.own 2 2 0 (Qv.q5 a0)),(15,.i (Qv.q4 a0)),(16,.i Ji)],(Qv.q7 Qh a0 Ji)⟩ ?_
      refine Qi hT 4 (K74 111110100110011 3) ⟨56,[(14,.own 2 2 0 (Qv.q5 a0)),(15,.i (Qv.q4 a0)),(16,.i Ji),(47,.own 0 2 0 Qh.length),(49,.own 3 2 0 1)],[Qao Qh,.box 39 (Qfb (Qv.q2 a0 Ji)),Qao (Jr Qb.z Yw a0),.flat false 2 39 1 (fun j=>[Qb.e (Qv.q2 a0 Ji)].getD j [])]⟩ ?_
      obtain ⟨h11,H⟩:=sC H
      refine Qe1 (id:=0) (kk:=2) (by':=16) (t:=51) (e:=39) (z:=[.int .i64 0,.int .i64 0]) (dst:=some 50) (id2:=3) (e2:=39) (fz:=false) (k':=(K74 111110100110011 4)) hT Qb.e Qb.z Qh (Qv.q2 a0 Ji) [14,15,16,50] (by kernel_rfl) (by kernel_rfl) (by kernel_rfl) (by kernel_rfl) (by kernel_rfl) (by kernel_rfl) (by kernel_rfl) h11 (by omega) (st':=⟨56,[(14,.own 2 2 0 (Qv.q5 a0)),(15,.i (Qv.q4 a0)),(16,.i Ji),(50,.own 4 2 0 ((Qh ++ [(Qv.q2 a0 Ji)]).length))],[.gone,.box 39 (Qfb (Qv.q2 a0 Ji)),Qao (Jr Qb.z Yw a0),.flat false 2 39 1 (fun j=>[Qb.e (Qv.q2 a0 Ji)].getD j []),Qao (Qh ++ [(Qv.q2 a0 Ji)])]⟩) (by kernel_rfl) ?_
      refine Yi hT 8 (K74 11111010 0) [4,2] ⟨56,[(5,.own 0 2 0 (Qh ++ [(Qv.q2 a0 Ji)]).length),(14,.own 1 2 0 (Qv.q5 a0)),(15,.i (Qv.q4 a0)),(16,.i (IntKind.wrap .i64 (Ji+1)))],[Qao (Qh ++ [(Qv.q2 a0 Ji)]),Qao (Jr Qb.z Yw a0)]⟩ h0 ?_
      exact ih (IntKind.wrap .i64 (Ji+1)) (Qh ++ [(Qv.q2 a0 Ji)]) H
     refine Qa7 hT [5,14,15,16,18] (i:=Ji) (n:=(Qv.q4 a0)) h6.1 h6.2 (k':=(K74 11111010011000 1)) (st':=⟨56,[(5,.own 0 2 0 Qh.length),(14,.own 1 2 0 (Qv.q5 a0)),(15,.i (Qv.q4 a0)),(16,.i Ji),(18,.ptr 1 2 Ji.toNat 0)],[Qao Qh,Qao (Jr Qb.z Yw a0)]⟩) (by kernel_rfl) ?_
     refine Qmo hT [5,14,15,16,19] (i:=Ji.toNat) (n:=(Jr Qb.z Yw a0).length) (ltN h6.1 h6.2) (k':=(K74 11111010011000 2)) (st':=⟨56,[(5,.own 0 2 0 Qh.length),(14,.own 1 2 0 (Qv.q5 a0)),(15,.i (Qv.q4 a0)),(16,.i Ji),(19,.d (Qfd (Qv.q2 a0 Ji)))],[Qao Qh,Qao (Jr Qb.z Yw a0)]⟩) (by kernel_rfl) ?_
     refine Qi hT 12 (K74 1111101001100101 0) ⟨56,[(5,.own 0 2 0 Qh.length),(7,.ptr 2 0 0 0),(8,.i (Qv.q3 Qh)),(14,.own 1 2 0 (Qv.q5 a0)),(15,.i (Qv.q4 a0)),(16,.i Ji)],[Qao Qh,Qao (Jr Qb.z Yw a0),.box 39 (Qfb (Qv.q2 a0 Ji))]⟩ ?_
     by_cases c7:(Qv.q3 Qh)>=0
     ·replace H:=sT c7 H
      obtain ⟨h8,H⟩:=sC H
      refine Qbt (hP▸mixed) 12 [5,7,8,14,15,16] (sm [.i (Qv.q3 Qh),.b true,.b true,.ptr 2 0 0 0,.i ((Qv.q2 a0 Ji).Lo),.own 0 2 0 Qh.length,.i (Qv.q3 Qh),.ptr 0 2 ((Qv.q3 Qh).toNat) 0,.ptr 0 2 ((Qv.q3 Qh).toNat) 1,.i (Qv.q6 Qh),.b (decide (((Qv.q2 a0 Ji).Lo)<=(Qv.q6 Qh))),.b (decide (((Qv.q2 a0 Ji).Lo)<=(Qv.q6 Qh)))]) (Qg (Qg (opS (Qg (opS (Qg (Qg (Qg (Qg (Qg (opV (Qg op0 hT) hT 24 (.b (decide ((Qv.q3 Qh)>=0))) (.b true) (by rw [decide_eq_true c7]<;>rfl)) hT) hT) hT) hT) hT) (fun R rest h=>Qae hT (i:=IntKind.wrap .i64 ((Qh.length:Int) - 1)) (n:=(Qh.length:Int)) h8.1 h8.2 (by kernel_rfl) h)) hT) (fun R rest h=>Qi7 hT (i:=(Qv.q3 Qh).toNat) (n:=Qh.length) (ltN h8.1 h8.2) (by kernel_rfl) h)) hT) hT) ?_
      refine Yi hT 1 (K74 1111101001100101 1) [0,2,1] ⟨56,[(5,.own 0 2 0 Qh.length),(7,.ptr 1 0 0 0),(8,.i (Qv.q3 Qh)),(14,.own 2 2 0 (Qv.q5 a0)),(15,.i (Qv.q4 a0)),(16,.i Ji),(34,.b (decide (((Qv.q2 a0 Ji).Lo)<=(Qv.q6 Qh))))],(Qv.q7 Qh a0 Ji)⟩ h0 ?_
      exact Zl (decide (((Qv.q2 a0 Ji).Lo)<=(Qv.q6 Qh))) H
     replace H:=sF c7 H
     refine Qbt (hP▸mixed) 12 [5,7,8,14,15,16] (sm [.i (Qv.q3 Qh),.b false,.b false,.Qq [],.Qq [],.Qq [],.Qq [],.Qq [],.Qq [],.Qq [],.Qq [],.b false]) (Qg (Qg (Qg (Qg (Qg (Qg (Qg (Qg (Qg (Qg (opV (Qg op0 hT) hT 24 (.b (decide ((Qv.q3 Qh)>=0))) (.b false) (by rw [decide_eq_false c7]<;>rfl)) hT) hT) hT) hT) hT) hT) hT) hT) hT) hT) ?_
     refine Yi hT 1 (K74 1111101001100101 1) [0,2,1] ⟨56,[(5,.own 0 2 0 Qh.length),(7,.ptr 1 0 0 0),(8,.i (Qv.q3 Qh)),(14,.own 2 2 0 (Qv.q5 a0)),(15,.i (Qv.q4 a0)),(16,.i Ji),(34,.b false)],(Qv.q7 Qh a0 Ji)⟩ h0 ?_
     exact Zl false H
    replace H:=sF c4 H
    rw [decide_eq_false c4]
    refine Qi hT 5 (K74 1111110 1) ⟨56,[(52,.own 0 2 0 Qh.length)],[Qao Qh,Qao (Jr Qb.z Yw a0)]⟩ ?_
    refine Qeg 0 (kk:=2) (n:=Qh.length) (ty:=39) (g:=vec Qb.e Qb.z Qh) (by kernel_rfl) (st':=⟨56,[(52,.own 0 2 0 Qh.length)],[Qhj Qh,Qao (Jr Qb.z Yw a0)]⟩) (by kernel_rfl) ?_
    refine Wj (Xw:=[.own 0 2 0 Qh.length]) (dst:=some 53) (k':=(K74 1111110 2)) [53] [] hP Wae (Qe7.Wl Qh) (by kernel_rfl) (Qz _) (.cons (.Qd4 (ty:=39) (by kernel_rfl) rfl) .nil) (st':=⟨56,[(53,.Qq [.d (Xf true ((Qe7 Qh).1)),.i ((Qe7 Qh).2)])],[Qhj Qh,Qao (Jr Qb.z Yw a0)]⟩) (by kernel_rfl) ?_
    obtain ⟨v2,h5,H⟩:=sdC H
    rw [<- h5]
    refine Qi hT 5 (K74 111111 1) ⟨56,[(2,.d (Xf true v2.1)),(3,.i v2.2)],[Qhj Qh,Qao (Jr Qb.z Yw a0)]⟩ ?_
    obtain rfl:=Zb H
    exact Yr hf hX h0 (.Qq [.d (Xf true v2.1),.i v2.2]) [] an (.Qq (.cons (.d (.sl fun _ _=>Qb.nl _)) (.cons (.d (.v _)) .nil)))
 refine Qkp [2,1] ⟨56,[(5,.own 0 2 0 ([]:List Qb).length),(14,.own 1 2 0 (Qv.q5 a0)),(15,.i (Qv.q4 a0)),(16,.i 0)],[Qao ([]:List Qb),Qao (Jr Qb.z Yw a0)]⟩ h0 ?_
 obtain ⟨n,H⟩:=Qcn H
 exact (L n) 0 ([]:List Qb) H
end
end Go.SyP
