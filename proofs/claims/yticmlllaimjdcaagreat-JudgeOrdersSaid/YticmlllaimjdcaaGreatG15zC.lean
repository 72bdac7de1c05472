/- Certificates, printed by gen.py. -/
import Derived.Test.YticmlllaimjdcaaGreatG15zD
import Derived.Test.YticmlllaimjdcaaGreatG15zI
import Derived.Test.YticmlllaimjdcaaGreatG15zW
import Derived.Test.YticmlllaimjdcaaGreatSyPtr
set_option linter.unusedVariables false
set_option linter.unusedSimpArgs false
namespace Go.SyP
open Go Go.Sy Go.Proofs
noncomputable section
abbrev Zi.p0 (a1:Int) (a2:Int) (a0:Xv):List (Nat × AV):=[(1,.i a1),(2,.i a2),(15,.own 3 1 0 a0.h.l.length),(16,.i (a0.h.l.length:Int))]
theorem Zi.Qy (a0:Xv) (a1:Int) (a2:Int) (dom:List Nat) (M:Nat->Qh) {r:(Option Nat) × Xv} (H:Zi a0 a1 a2 dom M=some r):Xz Tryz.prog 109 [.box 171 [.own 1 1 0 a0.h.l.length],Yv a0.h.l,.obj (Zj Qh.e Qh.nl 178 dom M)] [.ptr 0 0 0 0,.i a1,.i a2] [.box 171 [.own 3 1 0 r.2.h.l.length],.gone,.obj (Zj Qh.e Qh.nl 178 dom M),Yv r.2.h.l] (oA r.1):=by
 refine Xj Tryz.func109 rfl (nt:=41) rfl (lb rfl) fun X hP h0 hX=>?_
 have hT:Xb X.P T:=hP▸tok
 have hf:X.P.funcs[109]? = some Tryz.f109:=hP▸Tryz.func109
 refine Qgr 1 (r:=Yv a0.h.l) rfl rfl (st':=⟨41,[(0,.ptr 0 0 0 0),(1,.i a1),(2,.i a2)],[.box 171 [.own 3 1 0 a0.h.l.length],.gone,.obj (Zj Qh.e Qh.nl 178 dom M),Yv a0.h.l]⟩) (by kernel_rfl) (by kernel_rfl) rfl ?_
 refine Xl hT 25 (Qmx 111010 0) ⟨41,(Zi.p0 a1 a2 a0++[(17,.i 0)]),[.box 171 [.own 3 1 0 a0.h.l.length],.gone,.obj (Zj Qh.e Qh.nl 178 dom M),Yv a0.h.l]⟩ ?_
 have L:∀ n,(∀ (Qb2:Int),iter (Zi.step a0 a1 a2 dom M) n (.l1 Qb2)=some r->AK X 109 ((Qmx 111010 0)) (Yc X [.box 171 [.own 3 1 0 r.2.h.l.length],.gone,.obj (Zj Qh.e Qh.nl 178 dom M),Yv r.2.h.l] (oA r.1)) ⟨41,(Zi.p0 a1 a2 a0++[(17,.i Qb2)]),[.box 171 [.own 3 1 0 a0.h.l.length],.gone,.obj (Zj Qh.e Qh.nl 178 dom M),Yv a0.h.l]⟩):=by
  intro n
  induction n with
  | zero=>exact fun _ H=>Qal H
  | succ n ih=>
   ·intro Qb2 H
    refine qI ?_
    rcases sB H with ⟨c1,H⟩ | ⟨c1,H⟩
    ·refine qB hT 5 (decide_eq_true c1) ?_
     refine qE hT 6 (Qmx 111010011000 0) ⟨41,(Zi.p0 a1 a2 a0++[(17,.i Qb2)]),[.box 171 [.own 3 1 0 a0.h.l.length],.gone,.obj (Zj Qh.e Qh.nl 178 dom M),Yv a0.h.l]⟩ ?_
     obtain ⟨h2,H⟩:=sC H
     refine Qjb hT [1,2,15,16,17,19] (i:=Qb2) (n:=(a0.h.l.length:Int)) h2.1 h2.2 (k':=(Qmx 111010011000 1)) (st':=⟨41,(Zi.p0 a1 a2 a0++[(17,.i Qb2),(19,.ptr 3 1 Qb2.toNat 0)]),[.box 171 [.own 3 1 0 a0.h.l.length],.gone,.obj (Zj Qh.e Qh.nl 178 dom M),Yv a0.h.l]⟩) (by kernel_rfl) ?_
     refine Qlw hT [1,2,15,16,17,20] (i:=Qb2.toNat) (n:=a0.h.l.length) (ltN h2.1 h2.2) (k':=(Qmx 111010011000 2)) (st':=⟨41,(Zi.p0 a1 a2 a0++[(17,.i Qb2),(20,.d (pA (a0.h.l.getD Qb2.toNat 0) 0))]),[.box 171 [.own 3 1 0 a0.h.l.length],.gone,.obj (Zj Qh.e Qh.nl 178 dom M),Yv a0.h.l]⟩) (by kernel_rfl) ?_
     refine Xl hT 9 (Qmx 1110100110010 5) ⟨41,[(1,.i a1),(2,.i a2),(8,.d (pA (a0.h.l.getD Qb2.toNat 0) 0)),(15,.own 3 1 0 a0.h.l.length),(16,.i (a0.h.l.length:Int)),(17,.i Qb2),(25,.d (pA (a0.h.l.getD Qb2.toNat 0) 0))],[.box 171 [.own 3 1 0 a0.h.l.length],.gone,.obj (Zj Qh.e Qh.nl 178 dom M),Yv a0.h.l]⟩ ?_
     obtain ⟨h3,H⟩:=sC H
     have Xy:∀ (Qj1:Bool),stk (Zi.j1 a0 Qb2 Qj1) (iter (Zi.step a0 a1 a2 dom M) n)=some r->AK X 109 ((Qmx 111010011001 1)) (Yc X [.box 171 [.own 3 1 0 r.2.h.l.length],.gone,.obj (Zj Qh.e Qh.nl 178 dom M),Yv r.2.h.l] (oA r.1)) ⟨41,[(1,.i a1),(2,.i a2),(8,.d (pA (a0.h.l.getD Qb2.toNat 0) 0)),(15,.own 3 1 0 a0.h.l.length),(16,.i (a0.h.l.length:Int)),(17,.i Qb2),(38,.b Qj1)],[.box 171 [.own 3 1 0 a0.h.l.length],.gone,.obj (Zj Qh.e Qh.nl 178 dom M),Yv a0.h.l]⟩:=by
      intro Qj1 H
      by_cases c5:Qj1=true
      ·replace H:=sT c5 H
       rw [c5]
       refine qI ?_
       obtain rfl:=Xr H
       exact qT hT 6 hf hX h0 [0,1,2,3] (ac (.box (.cons (.own _ _ _ _) .nil)) (ac .gone (ac (.obj _) (ac (Qat nlA) an)))) (.d (.v _))
      replace H:=sF c5 H
      rw [Jo c5]
      exact Xl hT 8 _ _ (ih (IntKind.wrap .i64 (Qb2+1)) H)
     refine Qx2 hT [1,2,8,15,16,17,26] (e:=Qh.e) (he:=Qh.nl) (ty:=178) (dom:=dom) (m:=M) 2 (a:=a0.h.l.getD Qb2.toNat 0) (off:=0) (s:=1) (agg:=false) (dst:=some 26) (k':=(Qmx 1110100110010 6)) [.i ((((M (a0.h.l.getD Qb2.toNat 0)).h).M).Client)] (by kernel_rfl) (by kernel_rfl) h3 rfl rfl (fun _=>rfl) (st':=⟨41,[(1,.i a1),(2,.i a2),(8,.d (pA (a0.h.l.getD Qb2.toNat 0) 0)),(15,.own 3 1 0 a0.h.l.length),(16,.i (a0.h.l.length:Int)),(17,.i Qb2),(26,.i ((((M (a0.h.l.getD Qb2.toNat 0)).h).M).Client))],[.box 171 [.own 3 1 0 a0.h.l.length],.gone,.obj (Zj Qh.e Qh.nl 178 dom M),Yv a0.h.l]⟩) (by kernel_rfl) ?_
     refine Xl hT 3 (Qmx 1110100110010 9) ⟨41,[(1,.i a1),(2,.i a2),(8,.d (pA (a0.h.l.getD Qb2.toNat 0) 0)),(15,.own 3 1 0 a0.h.l.length),(16,.i (a0.h.l.length:Int)),(17,.i Qb2),(29,.b (((((M (a0.h.l.getD Qb2.toNat 0)).h).M).Client) == a1))],[.box 171 [.own 3 1 0 a0.h.l.length],.gone,.obj (Zj Qh.e Qh.nl 178 dom M),Yv a0.h.l]⟩ ?_
     by_cases c4:((((M (a0.h.l.getD Qb2.toNat 0)).h).M).Client)=a1
     ·replace H:=sT c4 H
      rw [eqT c4]
      refine Xl hT 5 (Qmx 1110100110010 14) ⟨41,[(1,.i a1),(2,.i a2),(8,.d (pA (a0.h.l.getD Qb2.toNat 0) 0)),(15,.own 3 1 0 a0.h.l.length),(16,.i (a0.h.l.length:Int)),(17,.i Qb2),(29,.b true),(34,.d (pA (a0.h.l.getD Qb2.toNat 0) 1))],[.box 171 [.own 3 1 0 a0.h.l.length],.gone,.obj (Zj Qh.e Qh.nl 178 dom M),Yv a0.h.l]⟩ ?_
      refine Qx2 hT [1,2,8,15,16,17,29,35] (e:=Qh.e) (he:=Qh.nl) (ty:=178) (dom:=dom) (m:=M) 2 (a:=a0.h.l.getD Qb2.toNat 0) (off:=1) (s:=1) (agg:=false) (dst:=some 35) (k':=(Qmx 1110100110010 15)) [.i ((((M (a0.h.l.getD Qb2.toNat 0)).h).M).Seq)] (by kernel_rfl) (by kernel_rfl) h3 rfl rfl (fun _=>rfl) (st':=⟨41,[(1,.i a1),(2,.i a2),(8,.d (pA (a0.h.l.getD Qb2.toNat 0) 0)),(15,.own 3 1 0 a0.h.l.length),(16,.i (a0.h.l.length:Int)),(17,.i Qb2),(29,.b true),(35,.i ((((M (a0.h.l.getD Qb2.toNat 0)).h).M).Seq))],[.box 171 [.own 3 1 0 a0.h.l.length],.gone,.obj (Zj Qh.e Qh.nl 178 dom M),Yv a0.h.l]⟩) (by kernel_rfl) ?_
      exact Xl hT 4 _ _ (Xy (((((M (a0.h.l.getD Qb2.toNat 0)).h).M).Seq) == a2) H)
     replace H:=sF c4 H
     rw [eqF c4]
     exact Xl hT 10 _ _ (Xy false H)
    refine qB hT 5 (decide_eq_false c1) ?_
    obtain rfl:=Xr H
    exact qT hT 6 hf hX h0 [0,1,2,3] (ac (.box (.cons (.own _ _ _ _) .nil)) (ac .gone (ac (.obj _) (ac (Qat nlA) an)))) (.d (.v _))
 obtain ⟨n,H⟩:=Qbp H
 exact (L n) 0 H
theorem Qdo.Qy (a0:Xv) (dom:List Nat) (M:Nat->Qh):Xz Tryz.prog 112 [.box 171 [.own 1 1 0 a0.h.l.length],Yv a0.h.l,.obj (Zj Qh.e Qh.nl 178 dom M)] [.ptr 0 0 0 0] [.box 171 [.own 3 1 0 (((((Qdo a0 dom M).2).h).l).length)],.gone,.obj (Zj Qh.e Qh.nl 178 dom M),Yv ((((Qdo a0 dom M).2).h).l)] (.i ((Qdo a0 dom M).1)):=by
 obtain ⟨r,H⟩:∃ r,Qdo a0 dom M=r:=⟨_,rfl⟩
 rw [H]
 refine Xj Tryz.func112 rfl (nt:=11) rfl (lb rfl) fun X hP h0 hX=>?_
 have hT:Xb X.P T:=hP▸tok
 have hf:X.P.funcs[112]? = some Tryz.f112:=hP▸Tryz.func112
 refine Qgr 1 (r:=Yv a0.h.l) rfl rfl (st':=⟨11,[(0,.ptr 0 0 0 0)],[.box 171 [.own 3 1 0 a0.h.l.length],.gone,.obj (Zj Qh.e Qh.nl 178 dom M),Yv a0.h.l]⟩) (by kernel_rfl) (by kernel_rfl) rfl ?_
 refine qI ?_
 obtain rfl:=H
 exact qT hT 22 hf hX h0 [0,1,2,3] (ac (.box (.cons (.own _ _ _ _) .nil)) (ac .gone (ac (.obj _) (ac (Qat nlA) an)))) (.d (.v _))
theorem Qg6.Qy (a0:Xv) (a1:Int) (dom:List Nat) (M:Nat->Qh) {r:Int × Xv} (H:Qg6 a0 a1 dom M=some r):Xz Tryz.prog 72 [.box 171 [.own 1 1 0 a0.h.l.length],Yv a0.h.l,.obj (Zj Qh.e Qh.nl 178 dom M)] [.ptr 0 0 0 0,.i a1] [.box 171 [.own 3 1 0 r.2.h.l.length],.gone,.obj (Zj Qh.e Qh.nl 178 dom M),Yv r.2.h.l] (.i r.1):=by
 refine Xj Tryz.func72 rfl (nt:=21) rfl (lb rfl) fun X hP h0 hX=>?_
 have hT:Xb X.P T:=hP▸tok
 have hf:X.P.funcs[72]? = some Tryz.f72:=hP▸Tryz.func72
 refine Qgr 1 (r:=Yv a0.h.l) rfl rfl (st':=⟨21,[(0,.ptr 0 0 0 0),(1,.i a1)],[.box 171 [.own 3 1 0 a0.h.l.length],.gone,.obj (Zj Qh.e Qh.nl 178 dom M),Yv a0.h.l]⟩) (by kernel_rfl) (by kernel_rfl) rfl ?_
 refine Xl hT 8 (K72 1100 1) ⟨21,[(0,.ptr 0 0 0 0),(1,.i a1),(5,.ptr 0 0 0 0)],[.box 171 [.own 3 1 0 a0.h.l.length],.gone,.obj (Zj Qh.e Qh.nl 178 dom M),Yv a0.h.l]⟩ ?_
 refine Jj (Zk:=[.ptr 0 0 0 0]) (dst:=some 6) (k':=(K72 1100 2)) [0,1,6] [0,3,2] hP Wbq (Qdo.Qy (⟨(⟨a0.h.l⟩:Qbc)⟩:Xv) dom M) (by kernel_rfl) (Qey rfl rfl rfl (by decide)) (.cons (.same (.ptr 0 0 0 0)) .nil) (st':=⟨21,[(0,.ptr 0 0 0 0),(1,.i a1),(6,.i ((Qdo (⟨(⟨a0.h.l⟩:Qbc)⟩:Xv) dom M).1))],[.box 171 [.own 4 1 0 (((((Qdo (⟨(⟨a0.h.l⟩:Qbc)⟩:Xv) dom M).2).h).l).length)],.gone,.obj (Zj Qh.e Qh.nl 178 dom M),.gone,Yv ((((Qdo (⟨(⟨a0.h.l⟩:Qbc)⟩:Xv) dom M).2).h).l)]⟩) (by kernel_rfl) ?_
 obtain ⟨v1,h1,H⟩:=idC H
 rw [<- h1]
 refine Xl hT 2 (K72 110 1) ⟨21,[(0,.ptr 0 0 0 0),(1,.i a1),(7,.b (v1.1 == 0))],[.box 171 [.own 4 1 0 ((((v1.2).h).l).length)],.gone,.obj (Zj Qh.e Qh.nl 178 dom M),.gone,Yv (((v1.2).h).l)]⟩ ?_
 by_cases c2:v1.1=0
 ·replace H:=iT c2 H
  rw [eqT c2]
  refine qI ?_
  obtain rfl:=Xr H
  exact qT hT 6 hf hX h0 [0,1,2,4] (ac (.box (.cons (.own _ _ _ _) .nil)) (ac .gone (ac (.obj _) (ac (Qat nlA) an)))) (.d (.v _))
 replace H:=iF c2 H
 rw [eqF c2]
 refine Xl hT 9 (K72 1110 5) ⟨21,[(13,.own 4 1 0 ((((v1.2).h).l).length))],[.box 171 [.own 4 1 0 ((((v1.2).h).l).length)],.gone,.obj (Zj Qh.e Qh.nl 178 dom M),.gone,Yv (((v1.2).h).l)]⟩ ?_
 obtain ⟨h3,H⟩:=iC H
 refine Qjb hT [14] (i:=0) (n:=((((v1.2).h).l).length:Int)) h3.1 h3.2 (k':=(K72 1110 6)) (st':=⟨21,[(14,.ptr 4 1 0 0)],[.box 171 [.own 4 1 0 ((((v1.2).h).l).length)],.gone,.obj (Zj Qh.e Qh.nl 178 dom M),.gone,Yv (((v1.2).h).l)]⟩) (by kernel_rfl) ?_
 refine Qlw hT [15] (i:=0) (n:=(((v1.2).h).l).length) (by first | omega | decide) (k':=(K72 1110 7)) (st':=⟨21,[(15,.d (pA ((((v1.2).h).l).getD 0 0) 0))],[.box 171 [.own 4 1 0 ((((v1.2).h).l).length)],.gone,.obj (Zj Qh.e Qh.nl 178 dom M),.gone,Yv (((v1.2).h).l)]⟩) (by kernel_rfl) ?_
 refine Xl hT 3 (K72 1110 10) ⟨21,[(18,.d (pA ((((v1.2).h).l).getD 0 0) 7))],[.box 171 [.own 4 1 0 ((((v1.2).h).l).length)],.gone,.obj (Zj Qh.e Qh.nl 178 dom M),.gone,Yv (((v1.2).h).l)]⟩ ?_
 obtain ⟨h4,H⟩:=iC H
 refine Qx2 hT [19] (e:=Qh.e) (he:=Qh.nl) (ty:=178) (dom:=dom) (m:=M) 2 (a:=(((v1.2).h).l).getD 0 0) (off:=7) (s:=1) (agg:=false) (dst:=some 19) (k':=(K72 1110 11)) [.i (((M ((((v1.2).h).l).getD 0 0)).h).Time)] (by kernel_rfl) (by kernel_rfl) h4 rfl rfl (fun _=>rfl) (st':=⟨21,[(19,.i (((M ((((v1.2).h).l).getD 0 0)).h).Time))],[.box 171 [.own 4 1 0 ((((v1.2).h).l).length)],.gone,.obj (Zj Qh.e Qh.nl 178 dom M),.gone,Yv (((v1.2).h).l)]⟩) (by kernel_rfl) ?_
 refine Xl hT 2 (K72 1110 13) ⟨21,[(4,.i (IntKind.wrap .i64 ((((M ((((v1.2).h).l).getD 0 0)).h).Time) - 1)))],[.box 171 [.own 4 1 0 ((((v1.2).h).l).length)],.gone,.obj (Zj Qh.e Qh.nl 178 dom M),.gone,Yv (((v1.2).h).l)]⟩ ?_
 obtain ⟨v2,h5,H⟩:=idC H
 rw [<- h5]
 refine qI ?_
 obtain rfl:=Xr H
 exact qT hT 1 hf hX h0 [0,1,2,4] (ac (.box (.cons (.own _ _ _ _) .nil)) (ac .gone (ac (.obj _) (ac (Qat nlA) an)))) (.d (.v _))
theorem Qfv.Qy (a0:Xv) (a1:Nat) (dom:List Nat) (M:Nat->Qh) {r:Xv × (Nat->Qh)} (H:Qfv a0 a1 dom M=some r):Xz Tryz.prog 191 [.box 171 [.own 1 1 0 a0.h.l.length],Yv a0.h.l,.obj (Zj Qh.e Qh.nl 178 dom M)] [.ptr 0 0 0 0,.d (.ifc 172 (pA a1 0))] [.box 171 [.own 3 1 0 r.1.h.l.length],.gone,.obj (Zj Qh.e Qh.nl 178 dom r.2),Yv r.1.h.l] (.Qn []):=by
 refine Xj Tryz.func191 rfl (nt:=30) rfl (lb rfl) fun X hP h0 hX=>?_
 have hT:Xb X.P T:=hP▸tok
 have hf:X.P.funcs[191]? = some Tryz.f191:=hP▸Tryz.func191
 refine Qgr 1 (r:=Yv a0.h.l) rfl rfl (st':=⟨30,[(0,.ptr 0 0 0 0),(1,.d (.ifc 172 (pA a1 0)))],[.box 171 [.own 3 1 0 a0.h.l.length],.gone,.obj (Zj Qh.e Qh.nl 178 dom M),Yv a0.h.l]⟩) (by kernel_rfl) (by kernel_rfl) rfl ?_
 refine Xl hT 3 (Quw 10 1) ⟨30,[(0,.ptr 0 0 0 0),(7,.d (.ifc 172 (pA a1 0)))],[.box 171 [.own 3 1 0 a0.h.l.length],.gone,.obj (Zj Qh.e Qh.nl 178 dom M),Yv a0.h.l]⟩ ?_
 refine Wd9 hT [0,8] (a:=172) (y:=.d (pA a1 0)) (dst:=some 8) (k':=(Quw 10 2)) (by kernel_rfl) (by rw [hP];exact Tryz.underlying172) (fun _ h=>by cases h) (st':=⟨30,[(0,.ptr 0 0 0 0),(8,.Qn [.d (pA a1 0),.b true])],[.box 171 [.own 3 1 0 a0.h.l.length],.gone,.obj (Zj Qh.e Qh.nl 178 dom M),Yv a0.h.l]⟩) (by kernel_rfl) ?_
 refine Xl hT 21 (Quw 11100 8) ⟨30,[(0,.ptr 0 0 0 0),(4,.d (pA a1 0)),(17,.i (a0.h.l.length:Int)),(19,.d (pA a1 9))],[.box 171 [.own 3 1 0 a0.h.l.length],.gone,.obj (Zj Qh.e Qh.nl 178 dom M),Yv a0.h.l]⟩ ?_
 obtain ⟨h1,H⟩:=iC H
 refine Wel hT [0,4] (e:=Qh.e) (he:=Qh.nl) (ty:=178) (dom:=dom) (m:=M) 2 (a:=a1) (off:=9) (s:=1) (ds:=[.i (a0.h.l.length:Int)]) (k':=(Quw 11100 9)) (⟨(⟨(⟨(((M a1).h).M).Client,(((M a1).h).M).Seq,(((M a1).h).M).Kind,(((M a1).h).M).Pairs,(⟨((((M a1).h).M).Over).Lo,((((M a1).h).M).Over).Hi⟩:Qb),(((M a1).h).M).Old⟩:We),((M a1).h).Time,((M a1).h).Qcq⟩:Yl),(a0.h.l.length:Int)⟩:Qh) (by kernel_rfl) (by kernel_rfl) h1 (lb rfl) rfl (st':=⟨30,[(0,.ptr 0 0 0 0),(4,.d (pA a1 0))],[.box 171 [.own 3 1 0 a0.h.l.length],.gone,.obj (Zj Qh.e Qh.nl 178 dom (upd M a1 (⟨(⟨(⟨(((M a1).h).M).Client,(((M a1).h).M).Seq,(((M a1).h).M).Kind,(((M a1).h).M).Pairs,(⟨((((M a1).h).M).Over).Lo,((((M a1).h).M).Over).Hi⟩:Qb),(((M a1).h).M).Old⟩:We),((M a1).h).Time,((M a1).h).Qcq⟩:Yl),(a0.h.l.length:Int)⟩:Qh))),Yv a0.h.l]⟩) (by kernel_rfl) ?_
 obtain ⟨v1,h2,H⟩:=idC H
 rw [<- h2]
 refine Xl hT 9 (Quw 11101 7) ⟨30,[(20,.ptr 0 0 0 0),(24,.own 3 1 0 a0.h.l.length),(26,.own 4 1 0 1)],[.box 171 [.own 3 1 0 a0.h.l.length],.gone,.obj (Zj Qh.e Qh.nl 178 dom v1),Yv a0.h.l,.flat false 1 172 1 (fun j=>[[pA a1 0]].getD j [])]⟩ ?_
 obtain ⟨h3,H⟩:=iC H
 refine Qcj (id:=3) (kk:=1) (by':=8) (t:=167) (e:=172) (z:=[.pointer none]) (dst:=some 27) (id2:=4) (e2:=172) (fz:=false) (k':=(Quw 11101 8)) hT eA 0 a0.h.l a1 [20,27] (by kernel_rfl) (by kernel_rfl) (by kernel_rfl) (by kernel_rfl) (by kernel_rfl) (by kernel_rfl) (by kernel_rfl) h3 (by omega) (st':=⟨30,[(20,.ptr 0 0 0 0),(27,.own 5 1 0 ((a0.h.l ++ [a1]).length))],[.box 171 [.own 3 1 0 a0.h.l.length],.gone,.obj (Zj Qh.e Qh.nl 178 dom v1),.gone,.flat false 1 172 1 (fun j=>[[pA a1 0]].getD j []),Yv (a0.h.l ++ [a1])]⟩) (by kernel_rfl) ?_
 refine Xl hT 4 [] ⟨30,[],[.box 171 [.own 5 1 0 ((a0.h.l ++ [a1]).length)],.gone,.obj (Zj Qh.e Qh.nl 178 dom v1),.gone,.flat false 1 172 1 (fun j=>[[pA a1 0]].getD j []),Yv (a0.h.l ++ [a1])]⟩ ?_
 obtain rfl:=Xr H
 exact Wbl hf hX h0 (.Qn []) [0,1,2,5] (ac (.box (.cons (.own _ _ _ _) .nil)) (ac .gone (ac (.obj _) (ac (Qat nlA) an)))) (.Qn .nil)
theorem Qdz.Qy (a0:Xv) (dom:List Nat) (M:Nat->Qh):Xz Tryz.prog 189 [.box 171 [.own 1 1 0 a0.h.l.length],Yv a0.h.l,.obj (Zj Qh.e Qh.nl 178 dom M)] [.ptr 0 0 0 0] [.box 171 [.own 3 1 0 (((((Qdz a0 dom M).2).h).l).length)],.gone,.obj (Zj Qh.e Qh.nl 178 dom M),Yv ((((Qdz a0 dom M).2).h).l)] (.i ((Qdz a0 dom M).1)):=by
 obtain ⟨r,H⟩:∃ r,Qdz a0 dom M=r:=⟨_,rfl⟩
 rw [H]
 refine Xj Tryz.func189 rfl (nt:=8) rfl (lb rfl) fun X hP h0 hX=>?_
 have hT:Xb X.P T:=hP▸tok
 have hf:X.P.funcs[189]? = some Tryz.f189:=hP▸Tryz.func189
 refine Qgr 1 (r:=Yv a0.h.l) rfl rfl (st':=⟨8,[(0,.ptr 0 0 0 0)],[.box 171 [.own 3 1 0 a0.h.l.length],.gone,.obj (Zj Qh.e Qh.nl 178 dom M),Yv a0.h.l]⟩) (by kernel_rfl) (by kernel_rfl) rfl ?_
 refine qI ?_
 obtain rfl:=H
 exact qT hT 13 hf hX h0 [0,1,2,3] (ac (.box (.cons (.own _ _ _ _) .nil)) (ac .gone (ac (.obj _) (ac (Qat nlA) an)))) (.d (.v _))
theorem Qbr.Qy (a0:Int) (a1:We):Xz Tryz.prog 62 [] [.i a0,.d (Qb5 a1)] [] (.d (Qf0 (Qbr a0 a1))):=by
 obtain ⟨r,H⟩:∃ r,Qbr a0 a1=r:=⟨_,rfl⟩
 rw [H]
 refine Xj Tryz.func62 rfl (nt:=11) rfl (lb rfl) fun X hP h0 hX=>?_
 have hT:Xb X.P T:=hP▸tok
 have hf:X.P.funcs[62]? = some Tryz.f62:=hP▸Tryz.func62
 refine Xl hT 15 (K62 11 1) ⟨11,[(4,.ptr 1 0 0 0)],[.box 47 (Qaj a1),.box 65 [.i a0,.i a1.Client,.i a1.Seq]]⟩ ?_
 obtain rfl:=H
 exact Qhw hT hf hX (av:=.d (.agg [.i a0,.i a1.Client,.i a1.Seq])) (by kernel_rfl) [] (Qbu (by kernel_rfl)) (by decide) (by rw [h0];rfl) (by kernel_rfl) an (.d (.agg (Jk.nl _)))
theorem Qe5.Qy (a0:Nat) (dom:List Nat) (M:Nat->Qh) {r:Jk} (H:Qe5 a0 dom M=some r):Xz Tryz.prog 188 [.obj (Zj Qh.e Qh.nl 178 dom M)] [.d (pA a0 0)] [.obj (Zj Qh.e Qh.nl 178 dom M)] (.d (Qf0 r)):=by
 refine Xj Tryz.func188 rfl (nt:=14) rfl (lb rfl) fun X hP h0 hX=>?_
 have hT:Xb X.P T:=hP▸tok
 have hf:X.P.funcs[188]? = some Tryz.f188:=hP▸Tryz.func188
 refine Xl hT 5 (Wa5 11 0) ⟨14,[(0,.d (pA a0 0)),(2,.ptr 1 0 0 0)],[.obj (Zj Qh.e Qh.nl 178 dom M),.box 65 [.i 0,.i 0,.i 0]]⟩ ?_
 obtain ⟨h1,H⟩:=iC H
 refine Qak (hP▸mixed) 10 [0,2] (sm [.d (pA a0 0),.d (pA a0 0),.d (pA a0 0),.d (pA a0 7),.i (((M a0).h).Time),.d (pA a0 0),.d (pA a0 0),.d (pA a0 0),.d (pA a0 0),.d (.agg [.i ((((M a0).h).M).Client),.i ((((M a0).h).M).Seq),.i ((((M a0).h).M).Kind),Yi true ((((M a0).h).M).Pairs),.i (((((M a0).h).M).Over).Lo),.i (((((M a0).h).M).Over).Hi),.i ((((M a0).h).M).Old)])]) (Jr (Qe (Qe (Qe (Qe (Jr (Qe (Qe (Qe (Qe op0 hT) hT) hT) hT) (fun R rest h=>Qu1 hT (e:=Qh.e) (he:=Qh.nl) (ty:=178) (dom:=dom) (m:=M) 0 (a:=a0) (off:=7) (s:=1) (agg:=false) (dst:=some 7) [.i (((M a0).h).Time)] (by kernel_rfl) (by kernel_rfl) h1 rfl rfl (fun _=>rfl) (by kernel_rfl) h)) hT) hT) hT) hT) (fun R rest h=>Qu1 hT (e:=Qh.e) (he:=Qh.nl) (ty:=178) (dom:=dom) (m:=M) 0 (a:=a0) (off:=0) (s:=7) (agg:=true) (dst:=some 12) [.i ((((M a0).h).M).Client),.i ((((M a0).h).M).Seq),.i ((((M a0).h).M).Kind),Yi true ((((M a0).h).M).Pairs),.i (((((M a0).h).M).Over).Lo),.i (((((M a0).h).M).Over).Hi),.i ((((M a0).h).M).Old)] (by kernel_rfl) (by kernel_rfl) h1 rfl rfl (fun h=>by cases h) (by kernel_rfl) h)) ?_
 refine Xl hT 0 (Wa5 110 10) ⟨14,[(2,.ptr 1 0 0 0),(7,.i (((M a0).h).Time)),(12,.d (.agg [.i ((((M a0).h).M).Client),.i ((((M a0).h).M).Seq),.i ((((M a0).h).M).Kind),Yi true ((((M a0).h).M).Pairs),.i (((((M a0).h).M).Over).Lo),.i (((((M a0).h).M).Over).Hi),.i ((((M a0).h).M).Old)]))],[.obj (Zj Qh.e Qh.nl 178 dom M),.box 65 [.i 0,.i 0,.i 0]]⟩ ?_
 refine Jj (Zk:=[.i (((M a0).h).Time),.d (.agg [.i ((((M a0).h).M).Client),.i ((((M a0).h).M).Seq),.i ((((M a0).h).M).Kind),Yi true ((((M a0).h).M).Pairs),.i (((((M a0).h).M).Over).Lo),.i (((((M a0).h).M).Over).Hi),.i ((((M a0).h).M).Old)])]) (dst:=some 13) (k':=(Wa5 110 11)) [2,13] [] hP Qkr (Qbr.Qy (((M a0).h).Time) (⟨(((M a0).h).M).Client,(((M a0).h).M).Seq,(((M a0).h).M).Kind,(((M a0).h).M).Pairs,(⟨((((M a0).h).M).Over).Lo,((((M a0).h).M).Over).Hi⟩:Qb),(((M a0).h).M).Old⟩:We)) (by kernel_rfl) (Jy _) (.cons (Wj _) (.cons (Wj _) .nil)) (st':=⟨14,[(2,.ptr 1 0 0 0),(13,.d (Qf0 (Qbr (((M a0).h).Time) (⟨(((M a0).h).M).Client,(((M a0).h).M).Seq,(((M a0).h).M).Kind,(((M a0).h).M).Pairs,(⟨((((M a0).h).M).Over).Lo,((((M a0).h).M).Over).Hi⟩:Qb),(((M a0).h).M).Old⟩:We))))],[.obj (Zj Qh.e Qh.nl 178 dom M),.box 65 [.i 0,.i 0,.i 0]]⟩) (by kernel_rfl) ?_
 obtain ⟨v1,h2,H⟩:=idC H
 rw [<- h2]
 refine Xl hT 2 (Wa5 11 1) ⟨14,[(2,.ptr 1 0 0 0)],[.obj (Zj Qh.e Qh.nl 178 dom M),.box 65 (Qpc v1)]⟩ ?_
 obtain rfl:=Xr H
 exact Qhw hT hf hX (av:=.d (Qf0 v1)) (by kernel_rfl) [0] (Qbu (by kernel_rfl)) (by decide) (by rw [h0];rfl) (by kernel_rfl) (ac (.obj _) an) (.d (.agg (Jk.nl _)))
theorem cmp_isNaN_int.Qy (a0:Int):Xz Tryz.prog 102 [] [.i a0] [] (.b (cmp_isNaN_int a0)):=by
 obtain ⟨r,H⟩:∃ r,cmp_isNaN_int a0=r:=⟨_,rfl⟩
 rw [H]
 refine Xj Tryz.func102 rfl (nt:=6) rfl (lb rfl) fun X hP h0 hX=>?_
 have hT:Xb X.P T:=hP▸tok
 have hf:X.P.funcs[102]? = some Tryz.f102:=hP▸Tryz.func102
 refine qI ?_
 obtain rfl:=H
 exact qT hT 11 hf hX h0 [] an (.d (.v _))
theorem Zt.Qy (a0:Int) (a1:Int):Xz Tryz.prog 61 [] [.i a0,.i a1] [] (.i (Zt a0 a1)):=by
 obtain ⟨r,H⟩:∃ r,Zt a0 a1=r:=⟨_,rfl⟩
 rw [H]
 refine Xj Tryz.func61 rfl (nt:=20) rfl (lb rfl) fun X hP h0 hX=>?_
 have hT:Xb X.P T:=hP▸tok
 have hf:X.P.funcs[61]? = some Tryz.f61:=hP▸Tryz.func61
 refine qI ?_
 refine qF hT 7 hP Qt5 (cmp_isNaN_int.Qy a0) ?_
 refine qE hT 5 (K61 1110 1) ⟨20,[(0,.i a0),(1,.i a1),(5,.b (cmp_isNaN_int a0)),(9,.i a1)],[]⟩ ?_
 refine qI ?_
 refine qF hT 0 hP Qt5 (cmp_isNaN_int.Qy a1) ?_
 refine qE hT 7 (K61 11110 1) ⟨20,[(0,.i a0),(1,.i a1),(6,.b (cmp_isNaN_int a1)),(11,.b (cmp_isNaN_int a0))],[]⟩ ?_
 refine qI ?_
 rcases iB H with ⟨c1,H⟩ | ⟨c1,H⟩
 ·refine qB hT 0 (c1) ?_
  refine qE hT 6 (K61 11110100 1) ⟨20,[(12,.b (cmp_isNaN_int a1))],[]⟩ ?_
  refine qI ?_
  rcases iB H with ⟨c2,H⟩ | ⟨c2,H⟩
  ·refine qB hT 0 (c2) ?_
   obtain rfl:=H
   exact qT hT 5 hf hX h0 [] an (.d (.v _))
  refine qB hT 0 (Jo c2) ?_
  obtain rfl:=H
  exact qT hT 6 hf hX h0 [] an (.d (.v _))
 refine qB hT 0 (Jo c1) ?_
 refine qE hT 7 (K61 111110 1) ⟨20,[(0,.i a0),(1,.i a1),(13,.b (cmp_isNaN_int a1))],[]⟩ ?_
 refine qI ?_
 rcases iB H with ⟨c3,H⟩ | ⟨c3,H⟩
 ·refine qB hT 0 (c3) ?_
  obtain rfl:=H
  exact qT hT 5 hf hX h0 [] an (.d (.v _))
 refine qB hT 0 (Jo c3) ?_
 refine qE hT 9 (K61 1111110 1) ⟨20,[(0,.i a0),(1,.i a1),(16,.b (decide (a0 < a1)))],[]⟩ ?_
 refine qI ?_
 rcases iB H with ⟨c4,H⟩ | ⟨c4,H⟩
 ·refine qB hT 0 (decide_eq_true c4) ?_
  obtain rfl:=H
  exact qT hT 5 hf hX h0 [] an (.d (.v _))
 refine qB hT 0 (decide_eq_false c4) ?_
 refine qE hT 9 (K61 11111110 1) ⟨20,[(19,.b (decide (a0 > a1)))],[]⟩ ?_
 refine qI ?_
 rcases iB H with ⟨c5,H⟩ | ⟨c5,H⟩
 ·refine qB hT 0 (decide_eq_true c5) ?_
  obtain rfl:=H
  exact qT hT 5 hf hX h0 [] an (.d (.v _))
 refine qB hT 0 (decide_eq_false c5) ?_
 obtain rfl:=H
 exact qT hT 6 hf hX h0 [] an (.d (.v _))
theorem Qa8.Qy {t0:Bool} (a0:List Int) {r:Int} (H:Qa8 a0=some r):Xz Tryz.prog 60 [] [.d (eL3 t0 a0)] [] (.i r):=by
 refine Xj Tryz.func60 rfl (nt:=18) rfl (lb rfl) fun X hP h0 hX=>?_
 have hT:Xb X.P T:=hP▸tok
 have hf:X.P.funcs[60]? = some Tryz.f60:=hP▸Tryz.func60
 refine Xl hT 17 (K60 111010 0) ⟨18,[(3,.i 0),(6,.d (eL3 t0 a0)),(7,.i (a0.length:Int)),(8,.i 0)],[]⟩ ?_
 have L:∀ n,(∀ (Xd:Int),iter (Qa8.step a0) n (.l1 Xd)=some r->AK X 60 ((K60 111010 0)) (Yc X [] (.i r)) ⟨18,[(3,.i 0),(6,.d (eL3 t0 a0)),(7,.i (a0.length:Int)),(8,.i Xd)],[]⟩):=by
  intro n
  induction n with
  | zero=>exact fun _ H=>Qal H
  | succ n ih=>
   ·intro Xd H
    refine qI ?_
    rcases sB H with ⟨c1,H⟩ | ⟨c1,H⟩
    ·refine qB hT 5 (decide_eq_true c1) ?_
     refine qE hT 6 (K60 111010011000 0) ⟨18,[(3,.i 0),(6,.d (eL3 t0 a0)),(7,.i (a0.length:Int)),(8,.i Xd)],[]⟩ ?_
     obtain ⟨h2,H⟩:=sC H
     refine qI ?_
     refine qX hT 0 h2 ?_
     refine qE hT 9 (K60 111010011001 1) ⟨18,[(3,.i 0),(5,.i (a0.getD Xd.toNat 0)),(6,.d (eL3 t0 a0)),(7,.i (a0.length:Int)),(8,.i Xd),(14,.b ((a0.getD Xd.toNat 0) != 0))],[]⟩ ?_
     by_cases c3:(a0.getD Xd.toNat 0)=0
     ·replace H:=sT c3 H
      rw [neF c3]
      exact Xl hT 8 _ _ (ih (IntKind.wrap .i64 (Xd+1)) H)
     replace H:=sF c3 H
     rw [neT c3]
     refine qI ?_
     obtain rfl:=Xr H
     exact qT hT 6 hf hX h0 [] an (.d (.v _))
    refine qB hT 5 (decide_eq_false c1) ?_
    obtain rfl:=Xr H
    exact qT hT 7 hf hX h0 [] an (.d (.v _))
 obtain ⟨n,H⟩:=Qbp H
 exact (L n) 0 H
abbrev Qcw.q1 (a0:Jk) (a1:Jk):=([Zt a0.Time a1.Time,Zt a0.Client a1.Client,Zt a0.Seq a1.Seq]:List Int)
theorem Qcw.Qy (a0:Jk) (a1:Jk) {r:Int} (H:Qcw a0 a1=some r):Xz Tryz.prog 27 [] [.d (Qf0 a0),.d (Qf0 a1)] [] (.i r):=by
 refine Xj Tryz.func27 rfl (nt:=22) rfl (lb rfl) fun X hP h0 hX=>?_
 have hT:Xb X.P T:=hP▸tok
 have hf:X.P.funcs[27]? = some Tryz.f27:=hP▸Tryz.func27
 refine Xl hT 7 (K27 11 0) ⟨22,[(2,.ptr 0 0 0 0),(3,.ptr 1 0 0 0)],[.box 65 (Qpc a0),.box 65 (Qpc a1)]⟩ ?_
 refine Qak (hP▸mixed) 14 [2,3] (sm [.ptr 0 0 0 0,.i a0.Time,.ptr 1 0 0 0,.i a1.Time,.i (Zt a0.Time a1.Time),.ptr 0 0 0 1,.i a0.Client,.ptr 1 0 0 1,.i a1.Client,.i (Zt a0.Client a1.Client),.ptr 0 0 0 2,.i a0.Seq,.ptr 1 0 0 2,.i a1.Seq]) (Qe (Qe (Qe (Qe (Jr (Qe (Qe (Qe (Qe (Jr (Qe (Qe (Qe (Qe op0 hT) hT) hT) hT) (fun R rest h=>Zl (Zk:=[.i a0.Time,.i a1.Time]) (dst:=some 9) hP Qjh (Zt.Qy a0.Time a1.Time) (by kernel_rfl) (.cons (Wj _) (.cons (Wj _) .nil)) (by kernel_rfl) h)) hT) hT) hT) hT) (fun R rest h=>Zl (Zk:=[.i a0.Client,.i a1.Client]) (dst:=some 14) hP Qjh (Zt.Qy a0.Client a1.Client) (by kernel_rfl) (.cons (Wj _) (.cons (Wj _) .nil)) (by kernel_rfl) h)) hT) hT) hT) hT) ?_
 refine qI ?_
 refine qF hT 0 hP Qjh (Zt.Qy a0.Seq a1.Seq) ?_
 refine qE hT 1 (K27 110 16) ⟨22,[(20,.own 2 1 0 3)],[.box 65 (Qpc a0),.box 65 (Qpc a1),.flat false 1 3 3 (fun j=>[[.i (Zt a0.Time a1.Time)],[.i (Zt a0.Client a1.Client)],[.i (Zt a0.Seq a1.Seq)]].getD j [])]⟩ ?_
 refine Qje 2 (kk:=1) (fz:=false) (ty:=3) (n:=(Qcw.q1 a0 a1).length) (vec (eI .i64) 0 (Qcw.q1 a0 a1)) (by kernel_rfl) Qh7 (st':=⟨22,[(20,.own 2 1 0 ((Qcw.q1 a0 a1).length))],[.box 65 (Qpc a0),.box 65 (Qpc a1),eR3 (Qcw.q1 a0 a1)]⟩) (by kernel_rfl) ?_
 obtain ⟨v1,h1,H⟩:=ibC H
 refine qI ?_
 refine qF hT 0 hP Qv8 (Qa8.Qy (t0:=false) (Qcw.q1 a0 a1) h1) ?_
 obtain rfl:=Xr H
 exact qT hT 2 hf hX h0 [] an (.d (.v _))
theorem Qgk.Qy (a0:Xv) (a1:Int) (a2:Int) (dom:List Nat) (M:Nat->Qh) {r:Bool × Xv} (H:Qgk a0 a1 a2 dom M=some r):Xz Tryz.prog 190 [.box 171 [.own 1 1 0 a0.h.l.length],Yv a0.h.l,.obj (Zj Qh.e Qh.nl 178 dom M)] [.ptr 0 0 0 0,.i a1,.i a2] [.box 171 [.own 3 1 0 r.2.h.l.length],.gone,.obj (Zj Qh.e Qh.nl 178 dom M),Yv r.2.h.l] (.b r.1):=by
 refine Xj Tryz.func190 rfl (nt:=25) rfl (lb rfl) fun X hP h0 hX=>?_
 have hT:Xb X.P T:=hP▸tok
 have hf:X.P.funcs[190]? = some Tryz.f190:=hP▸Tryz.func190
 refine Qgr 1 (r:=Yv a0.h.l) rfl rfl (st':=⟨25,[(0,.ptr 0 0 0 0),(1,.i a1),(2,.i a2)],[.box 171 [.own 3 1 0 a0.h.l.length],.gone,.obj (Zj Qh.e Qh.nl 178 dom M),Yv a0.h.l]⟩) (by kernel_rfl) (by kernel_rfl) rfl ?_
 refine Xl hT 5 (Whx 11 0) ⟨25,[(0,.ptr 0 0 0 0),(1,.i a1),(2,.i a2)],[.box 171 [.own 3 1 0 a0.h.l.length],.gone,.obj (Zj Qh.e Qh.nl 178 dom M),Yv a0.h.l]⟩ ?_
 obtain ⟨h1,H⟩:=iC H
 obtain ⟨v1,h2,H⟩:=ibC H
 obtain ⟨h3,H⟩:=iC H
 refine Qak (hP▸mixed) 15 [0,1,2] (sm [.ptr 0 0 0 0,.ptr 0 0 0 0,.ptr 0 0 0 0,.own 3 1 0 a0.h.l.length,.i a1,.ptr 3 1 a1.toNat 0,.d (pA (a0.h.l.getD a1.toNat 0) 0),.d (Qf0 v1),.ptr 0 0 0 0,.ptr 0 0 0 0,.ptr 0 0 0 0,.own 3 1 0 a0.h.l.length,.i a2,.ptr 3 1 a2.toNat 0,.d (pA (a0.h.l.getD a2.toNat 0) 0)]) (Jr (Jr (Qe (Qe (Qe (Qe (Qe (Jr (Jr (Jr (Qe (Qe (Qe (Qe (Qe op0 hT) hT) hT) hT) hT) (fun R rest h=>Yf hT (i:=a1) (n:=(a0.h.l.length:Int)) h1.1 h1.2 (by kernel_rfl) h)) (fun R rest h=>Qgs hT (i:=a1.toNat) (n:=a0.h.l.length) (ltN h1.1 h1.2) (by kernel_rfl) h)) (fun R rest h=>Wea (Zk:=[.d (pA (a0.h.l.getD a1.toNat 0) 0)]) (dst:=some 14) [2] hP Quf (Qe5.Qy (a0.h.l.getD a1.toNat 0) dom M h2) (by kernel_rfl) (Qev rfl rfl) (.cons (Wj _) .nil) (by kernel_rfl) h)) hT) hT) hT) hT) hT) (fun R rest h=>Yf hT (i:=a2) (n:=(a0.h.l.length:Int)) h3.1 h3.2 (by kernel_rfl) h)) (fun R rest h=>Qgs hT (i:=a2.toNat) (n:=a0.h.l.length) (ltN h3.1 h3.2) (by kernel_rfl) h)) ?_
 refine Xl hT 0 (Whx 110 15) ⟨25,[(14,.d (Qf0 v1)),(21,.d (pA (a0.h.l.getD a2.toNat 0) 0))],[.box 171 [.own 3 1 0 a0.h.l.length],.gone,.obj (Zj Qh.e Qh.nl 178 dom M),Yv a0.h.l]⟩ ?_
 obtain ⟨v2,h4,H⟩:=ibC H
 refine Jj (Zk:=[.d (pA (a0.h.l.getD a2.toNat 0) 0)]) (dst:=some 22) (k':=(Whx 110 16)) [14,22] [2] hP Quf (Qe5.Qy (a0.h.l.getD a2.toNat 0) dom M h4) (by kernel_rfl) (Qev rfl rfl) (.cons (Wj _) .nil) (st':=⟨25,[(14,.d (Qf0 v1)),(22,.d (Qf0 v2))],[.box 171 [.own 3 1 0 a0.h.l.length],.gone,.obj (Zj Qh.e Qh.nl 178 dom M),Yv a0.h.l]⟩) (by kernel_rfl) ?_
 obtain ⟨v3,h5,H⟩:=ibC H
 refine qI ?_
 refine qF hT 0 hP Qnq (Qcw.Qy v1 v2 h5) ?_
 obtain rfl:=Xr H
 exact qT hT 3 hf hX h0 [0,1,2,3] (ac (.box (.cons (.own _ _ _ _) .nil)) (ac .gone (ac (.obj _) (ac (Qat nlA) an)))) (.d (.v _))
abbrev Wl.q1 (v1:List Nat) (a2:Int) (a0:Xv) (a1:Int):=(v1.set a2.toNat (a0.h.l.getD a1.toNat 0))
abbrev Wl.p0 (a1:Int) (a2:Int):List (Nat × AV):=[(0,.ptr 0 0 0 0),(1,.i a1),(2,.i a2)]
theorem Wl.Qy (a0:Xv) (a1:Int) (a2:Int) (dom:List Nat) (M:Nat->Qh) {r:Xv × (Nat->Qh)} (H:Wl a0 a1 a2 dom M=some r):Xz Tryz.prog 192 [.box 171 [.own 1 1 0 a0.h.l.length],Yv a0.h.l,.obj (Zj Qh.e Qh.nl 178 dom M)] [.ptr 0 0 0 0,.i a1,.i a2] [.box 171 [.own 3 1 0 r.1.h.l.length],.gone,.obj (Zj Qh.e Qh.nl 178 dom r.2),Yv r.1.h.l] (.Qn []):=by
 refine Xj Tryz.func192 rfl (nt:=52) rfl (lb rfl) fun X hP h0 hX=>?_
 have hT:Xb X.P T:=hP▸tok
 have hf:X.P.funcs[192]? = some Tryz.f192:=hP▸Tryz.func192
 refine Qgr 1 (r:=Yv a0.h.l) rfl rfl (st':=⟨52,(Wl.p0 a1 a2),[.box 171 [.own 3 1 0 a0.h.l.length],.gone,.obj (Zj Qh.e Qh.nl 178 dom M),Yv a0.h.l]⟩) (by kernel_rfl) (by kernel_rfl) rfl ?_
 refine Xl hT 1 (Qux 1 0) ⟨52,(Wl.p0 a1 a2),[.box 171 [.own 3 1 0 a0.h.l.length],.gone,.obj (Zj Qh.e Qh.nl 178 dom M),Yv a0.h.l]⟩ ?_
 obtain ⟨h1,H⟩:=iC H
 obtain ⟨h2,H⟩:=iC H
 refine Qty (nt:=52) (hP▸mixed) 26 [25] [0,1,2] [(0,.ptr 0 0 0 0),(1,.i a1),(2,.i a2)] [some (.ptr 0 0 0 0),some (.ptr 0 0 0 0),some (.ptr 0 0 0 0),some (.own 3 1 0 a0.h.l.length),some (.i a1),some (.ptr 0 0 0 0),some (.ptr 0 0 0 0),some (.ptr 0 0 0 0),some (.own 3 1 0 a0.h.l.length),some (.i a2),some (.ptr 0 0 0 0),some (.ptr 0 0 0 0),some (.ptr 0 0 0 0),some (.own 3 1 0 a0.h.l.length),some (.i a2),some (.ptr 3 1 a2.toNat 0),some (.d (pA (a0.h.l.getD a2.toNat 0) 0)),some (.ptr 0 0 0 0),some (.ptr 0 0 0 0),some (.ptr 0 0 0 0),some (.own 3 1 0 a0.h.l.length),some (.i a1),some (.ptr 3 1 a1.toNat 0),some (.d (pA (a0.h.l.getD a1.toNat 0) 0)),some (.ptr 3 1 a1.toNat 0),none] [[.box 171 [.own 3 1 0 a0.h.l.length],.gone,.obj (Zj Qh.e Qh.nl 178 dom M),Yv a0.h.l],[.box 171 [.own 3 1 0 a0.h.l.length],.gone,.obj (Zj Qh.e Qh.nl 178 dom M),.flat false 1 172 a0.h.l.length (vec eA 0 (a0.h.l.set a1.toNat (a0.h.l.getD a2.toNat 0)))]] (by kernel_rfl) (by kernel_rfl) (by kernel_rfl) (by kernel_rfl) ⟨(Wdg (Qoh (Qoh (Qoh (Qes (Qes (Qes (Qes (Qes (Qoh (Qoh (Qes (Qes (Qes (Qes (Qes (Qes (Qes (Qes (Qes (Qes (Qes (Qes (Qes (Qes (Qes Wdf hT) hT) hT) hT) hT) hT) hT) hT) hT) hT) hT) hT) hT) hT) hT) (fun R rest h=>Yf hT (i:=a2) (n:=(a0.h.l.length:Int)) h1.1 h1.2 (by kernel_rfl) h)) (fun R rest h=>Qgs hT (i:=a2.toNat) (n:=a0.h.l.length) (ltN h1.1 h1.2) (by kernel_rfl) h)) hT) hT) hT) hT) hT) (fun R rest h=>Yf hT (i:=a1) (n:=(a0.h.l.length:Int)) h2.1 h2.2 (by kernel_rfl) h)) (fun R rest h=>Qgs hT (i:=a1.toNat) (n:=a0.h.l.length) (ltN h2.1 h2.2) (by kernel_rfl) h)) (fun R rest h=>Yf hT (i:=a1) (n:=(a0.h.l.length:Int)) h2.1 h2.2 (by kernel_rfl) h))),(fun R rest h=>Wek (id:=3) (kk:=1) (i:=a1.toNat) (off:=0) (s:=1) (n:=a0.h.l.length) (ty:=172) (ds:=[pA (a0.h.l.getD a2.toNat 0) 0]) (g:=vec eA 0 a0.h.l) hT (vec eA 0 (a0.h.l.set a1.toNat (a0.h.l.getD a2.toNat 0))) (by kernel_rfl) (by kernel_rfl) (ltN h2.1 h2.2) ((Qmw (ltN h2.1 h2.2)).trans (by kernel_rfl)) Qjx rfl h),(Wdg (Qd0 (Qd0 (Qd0 (Qd0 (Qd0 (Qd0 (Qd0 (Qd0 (Qd0 (Qd0 (Qd0 (Qd0 (Qd0 (Qd0 (Qd0 (Qes (Qd0 (Qd0 (Qd0 (Qd0 (Qd0 (Qd0 (Qd0 (Qd0 (Qd0 Wdf))))))))) hT)))))))))))))))))⟩ ?_
 refine Wj9 [0,1,2,14,15,29] (st':=⟨52,(Wl.p0 a1 a2++[(14,.own 3 1 0 (a0.h.l.length)),(15,.i a2),(29,.d (pA (a0.h.l.getD a1.toNat 0) 0))]),[.box 171 [.own 3 1 0 (a0.h.l.length)],.gone,.obj (Zj Qh.e Qh.nl 178 dom M),.flat false 1 172 a0.h.l.length (vec eA 0 (a0.h.l.set a1.toNat (a0.h.l.getD a2.toNat 0)))]⟩) (by kernel_rfl) ?_
 refine Qnm (show a0.h.l.length=(a0.h.l.set a1.toNat (a0.h.l.getD a2.toNat 0)).length from by simp only [List.length_set]) (fun nn=>⟨52,(Wl.p0 a1 a2++[(14,.own 3 1 0 (nn)),(15,.i a2),(29,.d (pA (a0.h.l.getD a1.toNat 0) 0))]),[.box 171 [.own 3 1 0 (nn)],.gone,.obj (Zj Qh.e Qh.nl 178 dom M),.flat false 1 172 nn (vec eA 0 (a0.h.l.set a1.toNat (a0.h.l.getD a2.toNat 0)))]⟩) ?_
 obtain ⟨v1,h3,H⟩:=idC H
 rw [<- h3]
 obtain ⟨h4,H⟩:=iC H
 refine Qjb hT [0,1,2,29,31] (i:=a2) (n:=(v1.length:Int)) h4.1 h4.2 (k':=(Qux 10 27)) (st':=⟨52,(Wl.p0 a1 a2++[(29,.d (pA (a0.h.l.getD a1.toNat 0) 0)),(31,.ptr 3 1 a2.toNat 0)]),[.box 171 [.own 3 1 0 v1.length],.gone,.obj (Zj Qh.e Qh.nl 178 dom M),Yv v1]⟩) (by kernel_rfl) ?_
 refine Qtz (id:=3) (kk:=1) (i:=a2.toNat) (off:=0) (s:=1) (n:=v1.length) (ty:=172) (ds:=[pA (a0.h.l.getD a1.toNat 0) 0]) (g:=vec eA 0 v1) (k':=(Qux 10 28)) hT [0,1,2] (vec eA 0 (Wl.q1 v1 a2 a0 a1)) (by kernel_rfl) (by kernel_rfl) (ltN h4.1 h4.2) ((Qmw (ltN h4.1 h4.2)).trans (by kernel_rfl)) Qjx (st':=⟨52,(Wl.p0 a1 a2),[.box 171 [.own 3 1 0 (v1.length)],.gone,.obj (Zj Qh.e Qh.nl 178 dom M),.flat false 1 172 v1.length (vec eA 0 (Wl.q1 v1 a2 a0 a1))]⟩) (by kernel_rfl) ?_
 refine Qnm (show v1.length=(Wl.q1 v1 a2 a0 a1).length from (List.length_set ..).symm) (fun nn=>⟨52,(Wl.p0 a1 a2),[.box 171 [.own 3 1 0 (nn)],.gone,.obj (Zj Qh.e Qh.nl 178 dom M),.flat false 1 172 nn (vec eA 0 (Wl.q1 v1 a2 a0 a1))]⟩) ?_
 refine Xl hT 1 (Qux 1 1) ⟨52,(Wl.p0 a1 a2),[.box 171 [.own 3 1 0 ((Wl.q1 v1 a2 a0 a1).length)],.gone,.obj (Zj Qh.e Qh.nl 178 dom M),Yv (Wl.q1 v1 a2 a0 a1)]⟩ ?_
 obtain ⟨h5,H⟩:=iC H
 obtain ⟨h6,H⟩:=iC H
 obtain ⟨h7,H⟩:=iC H
 refine Qty (nt:=52) (hP▸mixed) 19 [18] [0,1,2] [(0,.ptr 0 0 0 0),(1,.i a1),(2,.i a2)] [some (.ptr 0 0 0 0),some (.ptr 0 0 0 0),some (.ptr 0 0 0 0),some (.own 3 1 0 ((Wl.q1 v1 a2 a0 a1).length)),some (.i a1),some (.ptr 3 1 a1.toNat 0),some (.d (pA ((Wl.q1 v1 a2 a0 a1).getD a1.toNat 0) 0)),some (.ptr 0 0 0 0),some (.ptr 0 0 0 0),some (.ptr 0 0 0 0),some (.own 3 1 0 ((Wl.q1 v1 a2 a0 a1).length)),some (.i a2),some (.ptr 3 1 a2.toNat 0),some (.d (pA ((Wl.q1 v1 a2 a0 a1).getD a2.toNat 0) 0)),some (.i a1),some (.i a2),some (.d (pA ((Wl.q1 v1 a2 a0 a1).getD a1.toNat 0) 0)),some (.d (pA ((Wl.q1 v1 a2 a0 a1).getD a1.toNat 0) 9)),none] [[.box 171 [.own 3 1 0 ((Wl.q1 v1 a2 a0 a1).length)],.gone,.obj (Zj Qh.e Qh.nl 178 dom M),Yv (Wl.q1 v1 a2 a0 a1)],[.box 171 [.own 3 1 0 ((Wl.q1 v1 a2 a0 a1).length)],.gone,.obj (Zj Qh.e Qh.nl 178 dom (upd M ((Wl.q1 v1 a2 a0 a1).getD a1.toNat 0) (⟨(⟨(⟨(((M ((Wl.q1 v1 a2 a0 a1).getD a1.toNat 0)).h).M).Client,(((M ((Wl.q1 v1 a2 a0 a1).getD a1.toNat 0)).h).M).Seq,(((M ((Wl.q1 v1 a2 a0 a1).getD a1.toNat 0)).h).M).Kind,(((M ((Wl.q1 v1 a2 a0 a1).getD a1.toNat 0)).h).M).Pairs,(⟨((((M ((Wl.q1 v1 a2 a0 a1).getD a1.toNat 0)).h).M).Over).Lo,((((M ((Wl.q1 v1 a2 a0 a1).getD a1.toNat 0)).h).M).Over).Hi⟩:Qb),(((M ((Wl.q1 v1 a2 a0 a1).getD a1.toNat 0)).h).M).Old⟩:We),((M ((Wl.q1 v1 a2 a0 a1).getD a1.toNat 0)).h).Time,((M ((Wl.q1 v1 a2 a0 a1).getD a1.toNat 0)).h).Qcq⟩:Yl),a1⟩:Qh))),Yv (Wl.q1 v1 a2 a0 a1)]] (by kernel_rfl) (by kernel_rfl) (by kernel_rfl) (by kernel_rfl) ⟨(Wdg (Qes (Qes (Qes (Qes (Qoh (Qoh (Qes (Qes (Qes (Qes (Qes (Qoh (Qoh (Qes (Qes (Qes (Qes (Qes Wdf hT) hT) hT) hT) hT) (fun R rest h=>Yf hT (i:=a1) (n:=((Wl.q1 v1 a2 a0 a1).length:Int)) h5.1 h5.2 (by kernel_rfl) h)) (fun R rest h=>Qgs hT (i:=a1.toNat) (n:=(Wl.q1 v1 a2 a0 a1).length) (ltN h5.1 h5.2) (by kernel_rfl) h)) hT) hT) hT) hT) hT) (fun R rest h=>Yf hT (i:=a2) (n:=((Wl.q1 v1 a2 a0 a1).length:Int)) h6.1 h6.2 (by kernel_rfl) h)) (fun R rest h=>Qgs hT (i:=a2.toNat) (n:=(Wl.q1 v1 a2 a0 a1).length) (ltN h6.1 h6.2) (by kernel_rfl) h)) hT) hT) hT) hT)),(fun R rest h=>Qz6 hT (e:=Qh.e) (he:=Qh.nl) (ty:=178) (dom:=dom) (m:=M) 2 (a:=((Wl.q1 v1 a2 a0 a1).getD a1.toNat 0)) (off:=9) (s:=1) (ds:=[.i a1]) (⟨(⟨(⟨(((M ((Wl.q1 v1 a2 a0 a1).getD a1.toNat 0)).h).M).Client,(((M ((Wl.q1 v1 a2 a0 a1).getD a1.toNat 0)).h).M).Seq,(((M ((Wl.q1 v1 a2 a0 a1).getD a1.toNat 0)).h).M).Kind,(((M ((Wl.q1 v1 a2 a0 a1).getD a1.toNat 0)).h).M).Pairs,(⟨((((M ((Wl.q1 v1 a2 a0 a1).getD a1.toNat 0)).h).M).Over).Lo,((((M ((Wl.q1 v1 a2 a0 a1).getD a1.toNat 0)).h).M).Over).Hi⟩:Qb),(((M ((Wl.q1 v1 a2 a0 a1).getD a1.toNat 0)).h).M).Old⟩:We),((M ((Wl.q1 v1 a2 a0 a1).getD a1.toNat 0)).h).Time,((M ((Wl.q1 v1 a2 a0 a1).getD a1.toNat 0)).h).Qcq⟩:Yl),a1⟩:Qh) (by kernel_rfl) (by kernel_rfl) h7 (lb rfl) rfl rfl h),(Wdg (Qd0 (Qd0 (Qes (Qd0 (Qd0 (Qd0 (Qd0 (Qd0 (Qd0 (Qd0 (Qd0 (Qd0 (Qd0 (Qd0 (Qd0 (Qd0 (Qd0 (Qd0 Wdf))))))))))))))) hT))))⟩ ?_
 obtain ⟨v2,h8,H⟩:=idC H
 rw [<- h8]
 refine Xl hT 2 (Qux 11 21) ⟨52,[(47,.i a2),(51,.d (pA ((Wl.q1 v1 a2 a0 a1).getD a2.toNat 0) 9))],[.box 171 [.own 3 1 0 ((Wl.q1 v1 a2 a0 a1).length)],.gone,.obj (Zj Qh.e Qh.nl 178 dom v2),Yv (Wl.q1 v1 a2 a0 a1)]⟩ ?_
 obtain ⟨h9,H⟩:=iC H
 refine Wel hT [] (e:=Qh.e) (he:=Qh.nl) (ty:=178) (dom:=dom) (m:=v2) 2 (a:=(Wl.q1 v1 a2 a0 a1).getD a2.toNat 0) (off:=9) (s:=1) (ds:=[.i a2]) (k':=(Qux 11 22)) (⟨(⟨(⟨(((v2 ((Wl.q1 v1 a2 a0 a1).getD a2.toNat 0)).h).M).Client,(((v2 ((Wl.q1 v1 a2 a0 a1).getD a2.toNat 0)).h).M).Seq,(((v2 ((Wl.q1 v1 a2 a0 a1).getD a2.toNat 0)).h).M).Kind,(((v2 ((Wl.q1 v1 a2 a0 a1).getD a2.toNat 0)).h).M).Pairs,(⟨((((v2 ((Wl.q1 v1 a2 a0 a1).getD a2.toNat 0)).h).M).Over).Lo,((((v2 ((Wl.q1 v1 a2 a0 a1).getD a2.toNat 0)).h).M).Over).Hi⟩:Qb),(((v2 ((Wl.q1 v1 a2 a0 a1).getD a2.toNat 0)).h).M).Old⟩:We),((v2 ((Wl.q1 v1 a2 a0 a1).getD a2.toNat 0)).h).Time,((v2 ((Wl.q1 v1 a2 a0 a1).getD a2.toNat 0)).h).Qcq⟩:Yl),a2⟩:Qh) (by kernel_rfl) (by kernel_rfl) h9 (lb rfl) rfl (st':=⟨52,[],[.box 171 [.own 3 1 0 ((Wl.q1 v1 a2 a0 a1).length)],.gone,.obj (Zj Qh.e Qh.nl 178 dom (upd v2 ((Wl.q1 v1 a2 a0 a1).getD a2.toNat 0) (⟨(⟨(⟨(((v2 ((Wl.q1 v1 a2 a0 a1).getD a2.toNat 0)).h).M).Client,(((v2 ((Wl.q1 v1 a2 a0 a1).getD a2.toNat 0)).h).M).Seq,(((v2 ((Wl.q1 v1 a2 a0 a1).getD a2.toNat 0)).h).M).Kind,(((v2 ((Wl.q1 v1 a2 a0 a1).getD a2.toNat 0)).h).M).Pairs,(⟨((((v2 ((Wl.q1 v1 a2 a0 a1).getD a2.toNat 0)).h).M).Over).Lo,((((v2 ((Wl.q1 v1 a2 a0 a1).getD a2.toNat 0)).h).M).Over).Hi⟩:Qb),(((v2 ((Wl.q1 v1 a2 a0 a1).getD a2.toNat 0)).h).M).Old⟩:We),((v2 ((Wl.q1 v1 a2 a0 a1).getD a2.toNat 0)).h).Time,((v2 ((Wl.q1 v1 a2 a0 a1).getD a2.toNat 0)).h).Qcq⟩:Yl),a2⟩:Qh))),Yv (Wl.q1 v1 a2 a0 a1)]⟩) (by kernel_rfl) ?_
 obtain ⟨v3,h10,H⟩:=idC H
 rw [<- h10]
 refine Xl hT 1 [] ⟨52,[],[.box 171 [.own 3 1 0 ((Wl.q1 v1 a2 a0 a1).length)],.gone,.obj (Zj Qh.e Qh.nl 178 dom v3),Yv (Wl.q1 v1 a2 a0 a1)]⟩ ?_
 obtain rfl:=Xr H
 exact Wbl hf hX h0 (.Qn []) [0,1,2,3] (ac (.box (.cons (.own _ _ _ _) .nil)) (ac .gone (ac (.obj _) (ac (Qat nlA) an)))) (.Qn .nil)
abbrev Jb.p0:List (Nat × AV):=[(0,.ifc 175 (.ptr 0 0 0 0))]
theorem Jb.Qy (a0:Xv) (a1:Int) (dom:List Nat) (M:Nat->Qh) {r:Xv × (Nat->Qh)} (H:Jb a0 a1 dom M=some r):Xz Tryz.prog 140 [.box 171 [.own 1 1 0 a0.h.l.length],Yv a0.h.l,.obj (Zj Qh.e Qh.nl 178 dom M)] [.ifc 175 (.ptr 0 0 0 0),.i a1] [.box 171 [.own 3 1 0 r.1.h.l.length],.gone,.obj (Zj Qh.e Qh.nl 178 dom r.2),Yv r.1.h.l] (.Qn []):=by
 refine Xj Tryz.func140 rfl (nt:=23) rfl (lb rfl) fun X hP h0 hX=>?_
 have hT:Xb X.P T:=hP▸tok
 have hf:X.P.funcs[140]? = some Tryz.f140:=hP▸Tryz.func140
 refine Qgr 1 (r:=Yv a0.h.l) rfl rfl (st':=⟨23,(Jb.p0++[(1,.i a1)]),[.box 171 [.own 3 1 0 a0.h.l.length],.gone,.obj (Zj Qh.e Qh.nl 178 dom M),Yv a0.h.l]⟩) (by kernel_rfl) (by kernel_rfl) rfl ?_
 refine Xl hT 2 (Qo6 10 0) ⟨23,(Jb.p0++[(1,.i a1)]),[.box 171 [.own 3 1 0 a0.h.l.length],.gone,.obj (Zj Qh.e Qh.nl 178 dom M),Yv a0.h.l]⟩ ?_
 have L:∀ n,(∀ (Qfq:Int) (Qfn:Nat->Qh) (Zx:List Nat),iter (Jb.step dom) n (.l1 Qfq Qfn Zx)=some r->AK X 140 ((Qo6 10 0)) (Yc X [.box 171 [.own 3 1 0 r.1.h.l.length],.gone,.obj (Zj Qh.e Qh.nl 178 dom r.2),Yv r.1.h.l] (.Qn [])) ⟨23,(Jb.p0++[(1,.i Qfq)]),[.box 171 [.own 3 1 0 Zx.length],.gone,.obj (Zj Qh.e Qh.nl 178 dom Qfn),Yv Zx]⟩):=by
  intro n
  induction n with
  | zero=>exact fun _ _ _ H=>Qal H
  | succ n ih=>
   ·intro Qfq Qfn Zx H
    replace H:stk (Jb.step dom (.l1 Qfq Qfn Zx)) (iter (Jb.step dom) n)=some r:=H
    simp only [Jb.step,Jb.l1] at H
    refine Xl hT 7 (Qo6 10000 4) ⟨23,(Jb.p0++[(1,.i Qfq),(4,.i (IntKind.wrap .i64 (Int.tdiv (IntKind.wrap .i64 (Qfq - 1)) 2)))]),[.box 171 [.own 3 1 0 Zx.length],.gone,.obj (Zj Qh.e Qh.nl 178 dom Qfn),Yv Zx]⟩ ?_
    obtain ⟨v1,h1,H⟩:=sdC H
    have Xy:∀ (Qjy:Bool) (Qki:List Nat),stk (Jb.j1 dom Qfq Qfn v1 Qjy Qki) (iter (Jb.step dom) n)=some r->AK X 140 ((Qo6 100010 1)) (Yc X [.box 171 [.own 3 1 0 r.1.h.l.length],.gone,.obj (Zj Qh.e Qh.nl 178 dom r.2),Yv r.1.h.l] (.Qn [])) ⟨23,(Jb.p0++[(1,.i Qfq),(4,.i v1),(17,.b Qjy)]),[.box 171 [.own 3 1 0 Qki.length],.gone,.obj (Zj Qh.e Qh.nl 178 dom Qfn),Yv Qki]⟩:=by
     intro Qjy Qki H
     by_cases c4:Qjy=true
     ·replace H:=sT c4 H
      rw [c4]
      refine Xl hT 2 [] ⟨23,[],[.box 171 [.own 3 1 0 Qki.length],.gone,.obj (Zj Qh.e Qh.nl 178 dom Qfn),Yv Qki]⟩ ?_
      obtain rfl:=Xr H
      exact Wbl hf hX h0 (.Qn []) [0,1,2,3] (ac (.box (.cons (.own _ _ _ _) .nil)) (ac .gone (ac (.obj _) (ac (Qat nlA) an)))) (.Qn .nil)
     replace H:=sF c4 H
     rw [Jo c4]
     refine Xl hT 7 (Qo6 1000110 3) ⟨23,(Jb.p0++[(4,.i v1),(18,.ifc 175 (.ptr 0 0 0 0)),(19,.i v1),(20,.i Qfq)]),[.box 171 [.own 3 1 0 Qki.length],.gone,.obj (Zj Qh.e Qh.nl 178 dom Qfn),Yv Qki]⟩ ?_
     obtain ⟨v3,h5,H⟩:=sbC H
     refine Qnl (x:=.ptr 0 0 0 0) (Zk:=[.i v1,.i Qfq]) (dst:=some 21) (k':=(Qo6 1000110 4)) [0,4] [0,3,2] hP Qw4 Wcm (Wl.Qy (⟨(⟨Qki⟩:Qbc)⟩:Xv) v1 Qfq dom Qfn h5) (by kernel_rfl) (fun _ _ h=>by cases h) (fun _ _ h=>by cases h) (Qey rfl rfl rfl (by decide)) (.cons (.same (.ptr 0 0 0 0)) (.cons (Wj _) (.cons (Wj _) .nil))) (st':=⟨23,(Jb.p0++[(4,.i v1)]),[.box 171 [.own 4 1 0 v3.1.h.l.length],.gone,.obj (Zj Qh.e Qh.nl 178 dom v3.2),.gone,Yv v3.1.h.l]⟩) (by kernel_rfl) ?_
     exact Yp hT 7 _ [0,1,2,4] _ h0 (ih v1 v3.2 v3.1.h.l H)
    rw [<- h1]
    refine Xl hT 8 (Qo6 1000100 4) ⟨23,(Jb.p0++[(1,.i Qfq),(4,.i v1),(11,.b (v1 == Qfq))]),[.box 171 [.own 3 1 0 Zx.length],.gone,.obj (Zj Qh.e Qh.nl 178 dom Qfn),Yv Zx]⟩ ?_
    by_cases c2:v1=Qfq
    ·replace H:=sT c2 H
     rw [eqT c2]
     exact Xl hT 7 _ _ (Xy true Zx H)
    replace H:=sF c2 H
    rw [eqF c2]
    refine Xl hT 3 (Qo6 1000100 7) ⟨23,(Jb.p0++[(1,.i Qfq),(4,.i v1),(11,.b false),(12,.ifc 175 (.ptr 0 0 0 0)),(13,.i Qfq),(14,.i v1)]),[.box 171 [.own 3 1 0 Zx.length],.gone,.obj (Zj Qh.e Qh.nl 178 dom Qfn),Yv Zx]⟩ ?_
    obtain ⟨v2,h3,H⟩:=sbC H
    refine Qnl (x:=.ptr 0 0 0 0) (Zk:=[.i Qfq,.i v1]) (dst:=some 15) (k':=(Qo6 1000100 8)) [0,1,4,11,15] [0,3,2] hP Qw2 Wck (Qgk.Qy (⟨(⟨Zx⟩:Qbc)⟩:Xv) Qfq v1 dom Qfn h3) (by kernel_rfl) (fun _ _ h=>by cases h) (fun _ _ h=>by cases h) (Qey rfl rfl rfl (by decide)) (.cons (.same (.ptr 0 0 0 0)) (.cons (Wj _) (.cons (Wj _) .nil))) (st':=⟨23,(Jb.p0++[(1,.i Qfq),(4,.i v1),(11,.b false),(15,.b v2.1)]),[.box 171 [.own 4 1 0 v2.2.h.l.length],.gone,.obj (Zj Qh.e Qh.nl 178 dom Qfn),.gone,Yv v2.2.h.l]⟩) (by kernel_rfl) ?_
    exact Yp hT 3 _ [0,1,2,4] _ h0 (Xy (!v2.1) v2.2.h.l H)
 obtain ⟨n,H⟩:=Qbp H
 exact (L n) a1 M a0.h.l H
theorem Qe7.Qy (a0:Xv) (a1:Nat) (dom:List Nat) (M:Nat->Qh) {r:Xv × (Nat->Qh)} (H:Qe7 a0 a1 dom M=some r):Xz Tryz.prog 110 [.box 171 [.own 1 1 0 a0.h.l.length],Yv a0.h.l,.obj (Zj Qh.e Qh.nl 178 dom M)] [.ifc 175 (.ptr 0 0 0 0),.d (.ifc 172 (pA a1 0))] [.box 171 [.own 3 1 0 r.1.h.l.length],.gone,.obj (Zj Qh.e Qh.nl 178 dom r.2),Yv r.1.h.l] (.Qn []):=by
 refine Xj Tryz.func110 rfl (nt:=12) rfl (lb rfl) fun X hP h0 hX=>?_
 have hT:Xb X.P T:=hP▸tok
 have hf:X.P.funcs[110]? = some Tryz.f110:=hP▸Tryz.func110
 refine Qgr 1 (r:=Yv a0.h.l) rfl rfl (st':=⟨12,[(0,.ifc 175 (.ptr 0 0 0 0)),(1,.d (.ifc 172 (pA a1 0)))],[.box 171 [.own 3 1 0 a0.h.l.length],.gone,.obj (Zj Qh.e Qh.nl 178 dom M),Yv a0.h.l]⟩) (by kernel_rfl) (by kernel_rfl) rfl ?_
 refine Xl hT 4 (Quv 10 2) ⟨12,[(0,.ifc 175 (.ptr 0 0 0 0)),(4,.ifc 175 (.ptr 0 0 0 0)),(5,.d (.ifc 172 (pA a1 0)))],[.box 171 [.own 3 1 0 a0.h.l.length],.gone,.obj (Zj Qh.e Qh.nl 178 dom M),Yv a0.h.l]⟩ ?_
 obtain ⟨v1,h1,H⟩:=ibC H
 refine Qnl (x:=.ptr 0 0 0 0) (Zk:=[.d (.ifc 172 (pA a1 0))]) (dst:=some 6) (k':=(Quv 10 3)) [0] [0,3,2] hP Qw3 Wcl (Qfv.Qy (⟨(⟨a0.h.l⟩:Qbc)⟩:Xv) a1 dom M h1) (by kernel_rfl) (fun _ _ h=>by cases h) (fun _ _ h=>by cases h) (Qey rfl rfl rfl (by decide)) (.cons (.same (.ptr 0 0 0 0)) (.cons (Wj _) .nil)) (st':=⟨12,[(0,.ifc 175 (.ptr 0 0 0 0))],[.box 171 [.own 4 1 0 v1.1.h.l.length],.gone,.obj (Zj Qh.e Qh.nl 178 dom v1.2),.gone,Yv v1.1.h.l]⟩) (by kernel_rfl) ?_
 refine Xl hT 4 (Quv 11 2) ⟨12,[(7,.ifc 175 (.ptr 0 0 0 0)),(8,.ifc 175 (.ptr 0 0 0 0))],[.box 171 [.own 4 1 0 v1.1.h.l.length],.gone,.obj (Zj Qh.e Qh.nl 178 dom v1.2),.gone,Yv v1.1.h.l]⟩ ?_
 refine Qnl (x:=.ptr 0 0 0 0) (Zk:=[]) (dst:=some 9) (k':=(Quv 11 3)) [7,9] [0,4,2] hP Qyz Wcj (Qdz.Qy (⟨(⟨v1.1.h.l⟩:Qbc)⟩:Xv) dom v1.2) (by kernel_rfl) (fun _ _ h=>by cases h) (fun _ _ h=>by cases h) (Qey rfl rfl rfl (by decide)) (.cons (.same (.ptr 0 0 0 0)) .nil) (st':=⟨12,[(7,.ifc 175 (.ptr 0 0 0 0)),(9,.i ((Qdz (⟨(⟨v1.1.h.l⟩:Qbc)⟩:Xv) dom v1.2).1))],[.box 171 [.own 5 1 0 (((((Qdz (⟨(⟨v1.1.h.l⟩:Qbc)⟩:Xv) dom v1.2).2).h).l).length)],.gone,.obj (Zj Qh.e Qh.nl 178 dom v1.2),.gone,.gone,Yv ((((Qdz (⟨(⟨v1.1.h.l⟩:Qbc)⟩:Xv) dom v1.2).2).h).l)]⟩) (by kernel_rfl) ?_
 obtain ⟨v2,h2,H⟩:=idC H
 rw [<- h2]
 refine Xl hT 1 (Quv 11 4) ⟨12,[(7,.ifc 175 (.ptr 0 0 0 0)),(10,.i (IntKind.wrap .i64 (v2.1 - 1)))],[.box 171 [.own 5 1 0 ((((v2.2).h).l).length)],.gone,.obj (Zj Qh.e Qh.nl 178 dom v1.2),.gone,.gone,Yv (((v2.2).h).l)]⟩ ?_
 obtain ⟨v3,h3,H⟩:=ibC H
 refine Jj (Zk:=[.ifc 175 (.ptr 0 0 0 0),.i (IntKind.wrap .i64 (v2.1 - 1))]) (dst:=some 11) (k':=(Quv 11 5)) [] [0,5,2] hP Wb6 (Jb.Qy (⟨(⟨((v2.2).h).l⟩:Qbc)⟩:Xv) (IntKind.wrap .i64 (v2.1 - 1)) dom v1.2 h3) (by kernel_rfl) (Qey rfl rfl rfl (by decide)) (.cons (.same (.ifc 175 (.ptr 0 0 0 0))) (.cons (Wj _) .nil)) (st':=⟨12,[],[.box 171 [.own 6 1 0 v3.1.h.l.length],.gone,.obj (Zj Qh.e Qh.nl 178 dom v3.2),.gone,.gone,.gone,Yv v3.1.h.l]⟩) (by kernel_rfl) ?_
 refine Xl hT 1 [] ⟨12,[],[.box 171 [.own 6 1 0 v3.1.h.l.length],.gone,.obj (Zj Qh.e Qh.nl 178 dom v3.2),.gone,.gone,.gone,Yv v3.1.h.l]⟩ ?_
 obtain rfl:=Xr H
 exact Wbl hf hX h0 (.Qn []) [0,1,2,6] (ac (.box (.cons (.own _ _ _ _) .nil)) (ac .gone (ac (.obj _) (ac (Qat nlA) an)))) (.Qn .nil)
theorem Zd.Qy {t0:Bool} {ff1:FuncId} {cc1:List DV} (a0:List Qa) (p1:Qa->Option Bool) (he1:Sy.Enters Tryz.prog ff1) (hp1:∀ (z0:Qa) r,p1 z0=some r->Xz Tryz.prog ff1 [] ([.d (Qhe z0)] ++ List.map AV.d cc1) [] (.b r)) {r:Int} (H:Zd a0 p1=some r):Xz Tryz.prog 150 [] [.d (Yi t0 a0),.d (.fn ff1 cc1)] [] (.i r):=by
 refine Xj Tryz.func150 rfl (nt:=19) rfl (lb rfl) fun X hP h0 hX=>?_
 have hT:Xb X.P T:=hP▸tok
 have hf:X.P.funcs[150]? = some Tryz.f150:=hP▸Tryz.func150
 refine Xl hT 13 (Qxw 11010 0) ⟨19,[(0,.d (Yi t0 a0)),(1,.d (.fn ff1 cc1)),(7,.i (a0.length:Int)),(8,.i 0)],[]⟩ ?_
 have L:∀ n,(∀ (Xd:Int),iter (Zd.step a0 p1) n (.l1 Xd)=some r->AK X 150 ((Qxw 11010 0)) (Yc X [] (.i r)) ⟨19,[(0,.d (Yi t0 a0)),(1,.d (.fn ff1 cc1)),(7,.i (a0.length:Int)),(8,.i Xd)],[]⟩):=by
  intro n
  induction n with
  | zero=>exact fun _ H=>Qal H
  | succ n ih=>
   ·intro Xd H
    refine qI ?_
    rcases sB H with ⟨c1,H⟩ | ⟨c1,H⟩
    ·refine qB hT 5 (decide_eq_true c1) ?_
     refine qE hT 14 (Qxw 110100110010 3) ⟨19,[(0,.d (Yi t0 a0)),(1,.d (.fn ff1 cc1)),(5,.i Xd),(7,.i (a0.length:Int)),(8,.i Xd),(11,.d (.fn ff1 cc1)),(12,.d (Yi t0 a0)),(13,.i Xd)],[]⟩ ?_
     obtain ⟨h2,H⟩:=sC H
     refine qI ?_
     refine qX hT 0 h2 ?_
     refine qE hT 1 (Qxw 110100110010 5) ⟨19,[(0,.d (Yi t0 a0)),(1,.d (.fn ff1 cc1)),(5,.i Xd),(7,.i (a0.length:Int)),(8,.i Xd),(11,.d (.fn ff1 cc1)),(15,.d (Qhe (a0.getD Xd.toNat Qa.z)))],[]⟩ ?_
     obtain ⟨v1,h3,H⟩:=sbC H
     refine Jj (Zk:=[.d (Qhe (a0.getD Xd.toNat Qa.z))] ++ List.map AV.d cc1) (dst:=some 16) (k':=(Qxw 110100110010 6)) [0,1,5,7,8,16] [] hP he1 (hp1 (a0.getD Xd.toNat Qa.z) v1 h3) (by kernel_rfl) (Jy _) (.cons (Wj _) (Qgq _)) (st':=⟨19,[(0,.d (Yi t0 a0)),(1,.d (.fn ff1 cc1)),(5,.i Xd),(7,.i (a0.length:Int)),(8,.i Xd),(16,.b v1)],[]⟩) (by kernel_rfl) ?_
     refine qI ?_
     rcases sB H with ⟨c4,H⟩ | ⟨c4,H⟩
     ·refine qB hT 1 (c4) ?_
      obtain rfl:=Xr H
      exact qT hT 6 hf hX h0 [] an (.d (.v _))
     refine qB hT 1 (Jo c4) ?_
     exact qE hT 8 _ _ (ih (IntKind.wrap .i64 (Xd+1)) H)
    refine qB hT 5 (decide_eq_false c1) ?_
    obtain rfl:=Xr H
    exact qT hT 6 hf hX h0 [] an (.d (.v _))
 obtain ⟨n,H⟩:=Qbp H
 exact (L n) 0 H
theorem Qc6.Qy {t0:Bool} {ff1:FuncId} {cc1:List DV} (a0:List Qa) (p1:Qa->Option Bool) (he1:Sy.Enters Tryz.prog ff1) (hp1:∀ (z0:Qa) r,p1 z0=some r->Xz Tryz.prog ff1 [] ([.d (Qhe z0)] ++ List.map AV.d cc1) [] (.b r)) {r:Bool} (H:Qc6 a0 p1=some r):Xz Tryz.prog 147 [] [.d (Yi t0 a0),.d (.fn ff1 cc1)] [] (.b r):=by
 refine Xj Tryz.func147 rfl (nt:=9) rfl (lb rfl) fun X hP h0 hX=>?_
 have hT:Xb X.P T:=hP▸tok
 have hf:X.P.funcs[147]? = some Tryz.f147:=hP▸Tryz.func147
 refine qI ?_
 obtain ⟨v1,h1,H⟩:=ibC H
 refine qF hT 8 hP Que (Zd.Qy (t0:=t0) (ff1:=ff1) (cc1:=cc1) a0 p1 he1 hp1 h1) ?_
 obtain rfl:=Xr H
 exact qT hT 3 hf hX h0 [] an (.d (.v _))
theorem Qeo.Qy (a0:Int):Xz Tryz.prog 123 [] [.i a0] [] (.b (Qeo a0)):=by
 obtain ⟨r,H⟩:∃ r,Qeo a0=r:=⟨_,rfl⟩
 rw [H]
 refine Xj Tryz.func123 rfl (nt:=9) rfl (lb rfl) fun X hP h0 hX=>?_
 have hT:Xb X.P T:=hP▸tok
 have hf:X.P.funcs[123]? = some Tryz.f123:=hP▸Tryz.func123
 have Xy:∀ (Qb4:Bool),(Qeo.j1 Qb4)=r->AK X 123 ((Wmt 11 1)) (Yc X [] (.b r)) ⟨9,[(2,.b Qb4)],[]⟩:=by
  intro Qb4 H
  obtain rfl:=H
  exact Qc0 hf hX h0 (.b Qb4) [] an (.d (.v _))
 refine qI ?_
 rcases iB H with ⟨c1,H⟩ | ⟨c1,H⟩
 ·refine qB hT 9 (decide_eq_true c1) ?_
  exact qE hT 5 _ _ (Xy (decide (a0<=1099511627776)) H)
 refine qB hT 9 (decide_eq_false c1) ?_
 exact qE hT 5 _ _ (Xy false H)
theorem Qf7.Qy (a0:Qa):Xz Tryz.prog 149 [] [.d (Qhe a0)] [] (.b (Qf7 a0)):=by
 obtain ⟨r,H⟩:∃ r,Qf7 a0=r:=⟨_,rfl⟩
 rw [H]
 refine Xj Tryz.func149 rfl (nt:=16) rfl (lb rfl) fun X hP h0 hX=>?_
 have hT:Xb X.P T:=hP▸tok
 have hf:X.P.funcs[149]? = some Tryz.f149:=hP▸Tryz.func149
 have Xy:∀ (Qb4:Bool),(Qf7.j1 Qb4)=r->AK X 149 ((Whw 11 1)) (Yc X [] (.b r)) ⟨16,[(2,.b Qb4)],[]⟩:=by
  intro Qb4 H
  obtain rfl:=H
  exact Qc0 hf hX h0 (.b Qb4) [] an (.d (.v _))
 refine qI ?_
 rcases iB H with ⟨c1,H⟩ | ⟨c1,H⟩
 ·refine qB hT 11 (decide_eq_true c1) ?_
  refine qE hT 5 (Whw 110 9) ⟨16,[(1,.ptr 0 0 0 0),(11,.b (decide (a0.Key < 4096)))],[.box 56 (Qe8 a0)]⟩ ?_
  refine qI ?_
  rcases iB H with ⟨c2,H⟩ | ⟨c2,H⟩
  ·refine qB hT 0 (decide_eq_true c2) ?_
   refine qE hT 2 (Whw 110 11) ⟨16,[(11,.b true),(13,.i a0.Val)],[.box 56 (Qe8 a0)]⟩ ?_
   refine qI ?_
   refine qF hT 0 hP Qua (Qeo.Qy a0.Val) ?_
   exact qC hT 3 _ [] _ h0 (Xy (Qeo a0.Val) H)
  refine qB hT 0 (decide_eq_false c2) ?_
  exact qC hT 6 _ [] _ h0 (Xy false H)
 refine qB hT 11 (decide_eq_false c1) ?_
 exact qC hT 11 _ [] _ h0 (Xy false H)
theorem Qg1.Qy (a0:Qa):Xz Tryz.prog 148 [] [.d (Qhe a0)] [] (.b (Qg1 a0)):=by
 obtain ⟨r,H⟩:∃ r,Qg1 a0=r:=⟨_,rfl⟩
 rw [H]
 refine Xj Tryz.func148 rfl (nt:=6) rfl (lb rfl) fun X hP h0 hX=>?_
 have hT:Xb X.P T:=hP▸tok
 have hf:X.P.funcs[148]? = some Tryz.f148:=hP▸Tryz.func148
 refine qI ?_
 refine qF hT 8 hP Wcf (Qf7.Qy a0) ?_
 obtain rfl:=H
 exact qT hT 3 hf hX h0 [] an (.d (.v _))
theorem Qc3.Qy (a0:We) (a1:Int) (a2:Int) {r:Bool} (H:Qc3 a0 a1 a2=some r):Xz Tryz.prog 121 [] [.d (Qb5 a0),.i a1,.i a2] [] (.b r):=by
 refine Xj Tryz.func121 rfl (nt:=25) rfl (lb rfl) fun X hP h0 hX=>?_
 have hT:Xb X.P T:=hP▸tok
 have hf:X.P.funcs[121]? = some Tryz.f121:=hP▸Tryz.func121
 have Xy:∀ (Qh9:Bool),(Qc3.j1 Qh9)=some r->AK X 121 ((Whs 11 1)) (Yc X [] (.b r)) ⟨25,[(6,.b Qh9)],[]⟩:=by
  intro Qh9 H
  obtain rfl:=Xr H
  exact Qc0 hf hX h0 (.b Qh9) [] an (.d (.v _))
 refine qI ?_
 rcases iB H with ⟨c1,H⟩ | ⟨c1,H⟩
 ·refine qB hT 13 (decide_eq_true c1) ?_
  refine qE hT 7 (Whs 110 13) ⟨25,[(3,.ptr 0 0 0 0),(19,.b (decide ((a0.Pairs.length:Int)<=a2)))],[.box 47 (Qaj a0)]⟩ ?_
  refine qI ?_
  rcases iB H with ⟨c2,H⟩ | ⟨c2,H⟩
  ·refine qB hT 0 (decide_eq_true c2) ?_
   refine qE hT 2 (Whs 110 15) ⟨25,[(19,.b true),(21,.d (Yi true a0.Pairs))],[.box 47 (Qaj a0)]⟩ ?_
   obtain ⟨v1,h3,H⟩:=ibC H
   refine qI ?_
   refine qF hT 0 hP Wcd (Qc6.Qy (t0:=true) (ff1:=148) (cc1:=[]) a0.Pairs (fun z0=>some (Qg1 z0)) Wce (fun z0 r h=>by obtain rfl:=Xr h;exact Qg1.Qy z0) h3) ?_
   exact qC hT 4 _ [] _ h0 (Xy (!v1) H)
  refine qB hT 0 (decide_eq_false c2) ?_
  exact qC hT 7 _ [] _ h0 (Xy false H)
 refine qB hT 13 (decide_eq_false c1) ?_
 exact qC hT 14 _ [] _ h0 (Xy false H)
theorem Qck.Qy {t0:Bool} (a0:List Qa) {r:Bool} (H:Qck a0=some r):Xz Tryz.prog 122 [] [.d (Yi t0 a0)] [] (.b r):=by
 refine Xj Tryz.func122 rfl (nt:=22) rfl (lb rfl) fun X hP h0 hX=>?_
 have hT:Xb X.P T:=hP▸tok
 have hf:X.P.funcs[122]? = some Tryz.f122:=hP▸Tryz.func122
 refine Xl hT 11 (Wht 11010 0) ⟨22,[(0,.d (Yi t0 a0)),(3,.i 1)],[]⟩ ?_
 have L:∀ n,(∀ (Qq:Int),iter (Qck.step a0) n (.l1 Qq)=some r->AK X 122 ((Wht 11010 0)) (Yc X [] (.b r)) ⟨22,[(0,.d (Yi t0 a0)),(3,.i Qq)],[]⟩):=by
  intro n
  induction n with
  | zero=>exact fun _ H=>Qal H
  | succ n ih=>
   ·intro Qq H
    refine qI ?_
    rcases sB H with ⟨c1,H⟩ | ⟨c1,H⟩
    ·refine qB hT 8 (decide_eq_true c1) ?_
     refine qE hT 5 (Wht 110100100 0) ⟨22,[(0,.d (Yi t0 a0)),(3,.i Qq)],[]⟩ ?_
     obtain ⟨h2,H⟩:=sC H
     obtain ⟨h3,H⟩:=sC H
     refine Qak (hP▸mixed) 12 [0,3] (sm [.d (Yi t0 a0),.i Qq,.i (IntKind.wrap .i64 (Qq - 1)),.d (Qhq t0 a0 ((IntKind.wrap .i64 (Qq - 1)).toNat) 0),.d (Qhq t0 a0 ((IntKind.wrap .i64 (Qq - 1)).toNat) 0),.i ((a0.getD ((IntKind.wrap .i64 (Qq - 1)).toNat) Qa.z).Key),.d (Yi t0 a0),.i Qq,.d (Qhq t0 a0 Qq.toNat 0),.d (Qhq t0 a0 Qq.toNat 0),.i ((a0.getD Qq.toNat Qa.z).Key),.b (decide (((a0.getD ((IntKind.wrap .i64 (Qq - 1)).toNat) Qa.z).Key)>=((a0.getD Qq.toNat Qa.z).Key)))]) (Qe (Qe (Qe (Jr (Qe (Qe (Qe (Qe (Jr (Qe (Qe (Qe op0 hT) hT) hT) (fun R rest h=>Yf hT (i:=IntKind.wrap .i64 (Qq - 1)) (n:=(a0.length:Int)) h2.1 h2.2 (by kernel_rfl) h)) hT) hT) hT) hT) (fun R rest h=>Yf hT (i:=Qq) (n:=(a0.length:Int)) h3.1 h3.2 (by kernel_rfl) h)) hT) hT) hT) ?_
     refine qI ?_
     rcases sB H with ⟨c4,H⟩ | ⟨c4,H⟩
     ·refine qB hT 1 (decide_eq_true c4) ?_
      obtain rfl:=Xr H
      exact qT hT 5 hf hX h0 [] an (.d (.v _))
     refine qB hT 1 (decide_eq_false c4) ?_
     exact qE hT 9 _ _ (ih (IntKind.wrap .i64 (Qq+1)) H)
    refine qB hT 8 (decide_eq_false c1) ?_
    obtain rfl:=Xr H
    exact qT hT 6 hf hX h0 [] an (.d (.v _))
 obtain ⟨n,H⟩:=Qbp H
 exact (L n) 1 H
theorem Qcd.Qy (a0:Qb):Xz Tryz.prog 50 [] [.d (Qhd a0)] [] (.b (Qcd a0)):=by
 obtain ⟨r,H⟩:∃ r,Qcd a0=r:=⟨_,rfl⟩
 rw [H]
 refine Xj Tryz.func50 rfl (nt:=18) rfl (lb rfl) fun X hP h0 hX=>?_
 have hT:Xb X.P T:=hP▸tok
 have hf:X.P.funcs[50]? = some Tryz.f50:=hP▸Tryz.func50
 have Xy:∀ (Qb4:Bool),(Qcd.j1 Qb4)=r->AK X 50 ((K50 11 1)) (Yc X [] (.b r)) ⟨18,[(2,.b Qb4)],[]⟩:=by
  intro Qb4 H
  obtain rfl:=H
  exact Qc0 hf hX h0 (.b Qb4) [] an (.d (.v _))
 refine qI ?_
 rcases iB H with ⟨c1,H⟩ | ⟨c1,H⟩
 ·refine qB hT 11 (decide_eq_true c1) ?_
  refine qE hT 7 (K50 110 11) ⟨18,[(1,.ptr 0 0 0 0),(13,.b (decide (a0.Lo < a0.Hi)))],[.box 39 (Qkj a0)]⟩ ?_
  refine qI ?_
  rcases iB H with ⟨c2,H⟩ | ⟨c2,H⟩
  ·refine qB hT 0 (decide_eq_true c2) ?_
   exact qC hT 6 _ [] _ h0 (Xy (decide (a0.Hi<=4096)) H)
  refine qB hT 0 (decide_eq_false c2) ?_
  exact qC hT 6 _ [] _ h0 (Xy false H)
 refine qB hT 11 (decide_eq_false c1) ?_
 exact qC hT 13 _ [] _ h0 (Xy false H)
abbrev Ji.p0:List (Nat × AV):=[(1,.ptr 0 0 0 0)]
theorem Ji.Qy (a0:We) {r:Bool} (H:Ji a0=some r):Xz Tryz.prog 78 [] [.d (Qb5 a0)] [] (.b r):=by
 refine Xj Tryz.func78 rfl (nt:=102) rfl (lb rfl) fun X hP h0 hX=>?_
 have hT:Xb X.P T:=hP▸tok
 have hf:X.P.funcs[78]? = some Tryz.f78:=hP▸Tryz.func78
 have Xy:∀ (Qr1:Bool),(Ji.j1 a0 Qr1)=some r->AK X 78 ((K78 1110 1)) (Yc X [] (.b r)) ⟨102,(Ji.p0++[(23,.b Qr1)]),[.box 47 (Qaj a0)]⟩:=by
  intro Qr1 H
  by_cases c7:Qr1=true
  ·replace H:=iT c7 H
   rw [c7]
   refine qI ?_
   obtain rfl:=Xr H
   exact qT hT 5 hf hX h0 [] an (.d (.v _))
  replace H:=iF c7 H
  rw [Jo c7]
  refine Xl hT 14 (K78 1111010 1) ⟨102,(Ji.p0++[(25,.i a0.Kind),(26,.b (a0.Kind == 1))]),[.box 47 (Qaj a0)]⟩ ?_
  by_cases c8:a0.Kind=1
  ·replace H:=iT c8 H
   rw [eqT c8]
   refine qI ?_
   obtain ⟨v1,h9,H⟩:=ibC H
   have Jj2:∀ (Qlq:Bool),(Ji.j2 Qlq)=some r->AK X 78 ((K78 111101010 1)) (Yc X [] (.b r)) ⟨102,[(2,.b Qlq)],[]⟩:=by
    intro Qlq H
    obtain rfl:=Xr H
    exact Qc0 hf hX h0 (.b Qlq) [] an (.d (.v _))
   refine qF hT 4 hP Qjq (Qc3.Qy a0 1 8 h9) ?_
   refine qE hT 1 (K78 1111010100 3) ⟨102,(Ji.p0++[(30,.b v1)]),[.box 47 (Qaj a0)]⟩ ?_
   refine qI ?_
   rcases iB H with ⟨c10,H⟩ | ⟨c10,H⟩
   ·refine qB hT 0 (c10) ?_
    refine qE hT 2 (K78 1111010100 5) ⟨102,[(30,.b true),(32,.d (Yi true a0.Pairs))],[.box 47 (Qaj a0)]⟩ ?_
    obtain ⟨v2,h11,H⟩:=ibC H
    refine qI ?_
    refine qF hT 0 hP Wby (Qck.Qy (t0:=true) a0.Pairs h11) ?_
    exact qC hT 3 _ [] _ h0 (Jj2 v2 H)
   refine qB hT 0 (Jo c10) ?_
   exact qC hT 6 _ [] _ h0 (Jj2 false H)
  replace H:=iF c8 H
  rw [eqF c8]
  refine Xl hT 6 (K78 111101011 1) ⟨102,(Ji.p0++[(25,.i a0.Kind),(35,.b (a0.Kind == 2))]),[.box 47 (Qaj a0)]⟩ ?_
  by_cases c12:a0.Kind=2
  ·replace H:=iT c12 H
   have Jj3:∀ (Qkn:Bool),(Ji.j3 Qkn)=some r->AK X 78 ((K78 11110101110 1)) (Yc X [] (.b r)) ⟨102,[(2,.b Qkn)],[]⟩:=by
    intro Qkn H
    obtain rfl:=Xr H
    exact Qc0 hf hX h0 (.b Qkn) [] an (.d (.v _))
   rw [eqT c12]
   refine Xl hT 8 (K78 111101011100 5) ⟨102,(Ji.p0++[(41,.b ((a0.Pairs.length:Int) == 0))]),[.box 47 (Qaj a0)]⟩ ?_
   by_cases c13:(a0.Pairs.length:Int)=0
   ·replace H:=iT c13 H
    rw [eqT c13]
    refine qI ?_
    refine qF hT 2 hP Qjg (Qcd.Qy a0.Over) ?_
    exact qC hT 3 _ [] _ h0 (Jj3 (Qcd a0.Over) H)
   replace H:=iF c13 H
   rw [eqF c13]
   exact Yp hT 6 _ [] _ h0 (Jj3 false H)
  replace H:=iF c12 H
  rw [eqF c12]
  refine Xl hT 6 (K78 11110101111 1) ⟨102,(Ji.p0++[(25,.i a0.Kind),(46,.b (a0.Kind == 3))]),[.box 47 (Qaj a0)]⟩ ?_
  by_cases c14:a0.Kind=3
  ·replace H:=iT c14 H
   rw [eqT c14]
   refine qI ?_
   obtain ⟨v3,h15,H⟩:=ibC H
   refine qF hT 4 hP Qjq (Qc3.Qy a0 1 1 h15) ?_
   obtain rfl:=Xr H
   exact qT hT 2 hf hX h0 [] an (.d (.v _))
  replace H:=iF c14 H
  rw [eqF c14]
  refine Xl hT 6 (K78 1111010111111 1) ⟨102,(Ji.p0++[(25,.i a0.Kind),(50,.b (a0.Kind == 4))]),[.box 47 (Qaj a0)]⟩ ?_
  by_cases c16:a0.Kind=4
  ·replace H:=iT c16 H
   rw [eqT c16]
   refine qI ?_
   obtain ⟨v4,h17,H⟩:=ibC H
   have Jj4:∀ (Qia:Bool),(Ji.j4 Qia)=some r->AK X 78 ((K78 111101011111110 1)) (Yc X [] (.b r)) ⟨102,[(2,.b Qia)],[]⟩:=by
    intro Qia H
    obtain rfl:=Xr H
    exact Qc0 hf hX h0 (.b Qia) [] an (.d (.v _))
   refine qF hT 4 hP Qjq (Qc3.Qy a0 1 1 h17) ?_
   refine qE hT 1 (K78 1111010111111100 3) ⟨102,(Ji.p0++[(54,.b v4)]),[.box 47 (Qaj a0)]⟩ ?_
   refine qI ?_
   rcases iB H with ⟨c18,H⟩ | ⟨c18,H⟩
   ·refine qB hT 0 (c18) ?_
    refine qE hT 2 (K78 1111010111111100 5) ⟨102,(Ji.p0++[(54,.b true),(56,.i a0.Old)]),[.box 47 (Qaj a0)]⟩ ?_
    refine qI ?_
    refine qF hT 0 hP Qua (Qeo.Qy a0.Old) ?_
    refine qE hT 1 (K78 1111010111111100 7) ⟨102,(Ji.p0++[(54,.b true),(58,.b (Qeo a0.Old))]),[.box 47 (Qaj a0)]⟩ ?_
    refine qI ?_
    rcases iB H with ⟨c19,H⟩ | ⟨c19,H⟩
    ·refine qB hT 0 (c19) ?_
     exact qC hT 7 _ [] _ h0 (Jj4 true H)
    refine qB hT 0 (Jo c19) ?_
    exact qC hT 7 _ [] _ h0 (Jj4 (a0.Old == 1099511627777) H)
   refine qB hT 0 (Jo c18) ?_
   exact qC hT 11 _ [] _ h0 (Jj4 false H)
  replace H:=iF c16 H
  rw [eqF c16]
  refine Xl hT 6 (K78 111101011111111 1) ⟨102,(Ji.p0++[(64,.b (a0.Kind == 5))]),[.box 47 (Qaj a0)]⟩ ?_
  by_cases c20:a0.Kind=5
  ·replace H:=iT c20 H
   rw [eqT c20]
   refine Xl hT 2 (K78 11110101111111110 0) ⟨102,(Ji.p0),[.box 47 (Qaj a0)]⟩ ?_
   obtain ⟨v5,h21,H⟩:=ibC H
   have Jj5:∀ (Qls:Bool),(Ji.j5 Qls)=some r->AK X 78 ((K78 11110101111111110 1)) (Yc X [] (.b r)) ⟨102,[(2,.b Qls)],[]⟩:=by
    intro Qls H
    obtain rfl:=Xr H
    exact Qc0 hf hX h0 (.b Qls) [] an (.d (.v _))
   by_cases c22:v5=true
   ·replace H:=iT c22 H
    obtain ⟨h23,H⟩:=iC H
    obtain ⟨h24,H⟩:=iC H
    by_cases c25:((a0.Pairs.getD 0 Qa.z).Key)=((a0.Pairs.getD 1 Qa.z).Key)
    ·replace H:=iT c25 H
     refine Qak (hP▸mixed) 26 [1] (sm [.d (Qb5 a0),.b true,.b true,.ptr 0 0 0 3,.d (Yi true a0.Pairs),.d (Qhq true a0.Pairs 0 0),.d (Qhq true a0.Pairs 0 0),.i ((a0.Pairs.getD 0 Qa.z).Key),.ptr 0 0 0 3,.d (Yi true a0.Pairs),.d (Qhq true a0.Pairs 1 0),.d (Qhq true a0.Pairs 1 0),.i ((a0.Pairs.getD 1 Qa.z).Key),.b false,.b false,.b false,.Qn [],.Qn [],.Qn [],.Qn [],.Qn [],.Qn [],.Qn [],.Qn [],.Qn [],.Qn []]) (Qe (Qe (Qe (Qe (Qe (Qe (Qe (Qe (Qe (Qe (Qe (Qe (opV (Qe (Qe (Jr (Qe (Qe (Qe (Qe (Jr (Qe (Qe (Qe (Jr (Qe op0 hT) (fun R rest h=>Zl (Zk:=[.d (Qb5 a0),.i 2,.i 2]) (dst:=some 67) hP Qjq (by have q:=Qc3.Qy a0 2 2 h21;rw [c22] at q;exact q) (by kernel_rfl) (.cons (Wj _) (.cons (Wj _) (.cons (Wj _) .nil))) (by kernel_rfl) h)) hT) hT) hT) (fun R rest h=>Yf hT (i:=0) (n:=(a0.Pairs.length:Int)) h23.1 h23.2 (by kernel_rfl) h)) hT) hT) hT) hT) (fun R rest h=>Yf hT (i:=1) (n:=(a0.Pairs.length:Int)) h24.1 h24.2 (by kernel_rfl) h)) hT) hT) hT 79 (.b (((a0.Pairs.getD 0 Qa.z).Key) != ((a0.Pairs.getD 1 Qa.z).Key))) (.b false) (by rw [neF c25]<;>rfl)) hT) hT) hT) hT) hT) hT) hT) hT) hT) hT) hT) hT) ?_
     exact Yp hT 12 _ [] _ h0 (Jj5 false H)
    replace H:=iF c25 H
    refine Qak (hP▸mixed) 26 [1] (sm [.d (Qb5 a0),.b true,.b true,.ptr 0 0 0 3,.d (Yi true a0.Pairs),.d (Qhq true a0.Pairs 0 0),.d (Qhq true a0.Pairs 0 0),.i ((a0.Pairs.getD 0 Qa.z).Key),.ptr 0 0 0 3,.d (Yi true a0.Pairs),.d (Qhq true a0.Pairs 1 0),.d (Qhq true a0.Pairs 1 0),.i ((a0.Pairs.getD 1 Qa.z).Key),.b true,.b true,.b true,.ptr 0 0 0 3,.d (Yi true a0.Pairs),.d (Qhq true a0.Pairs 0 0),.d (Qhq true a0.Pairs 0 1),.i ((a0.Pairs.getD 0 Qa.z).Val),.ptr 0 0 0 3,.d (Yi true a0.Pairs),.d (Qhq true a0.Pairs 1 0),.d (Qhq true a0.Pairs 1 1),.i ((a0.Pairs.getD 1 Qa.z).Val)]) (Qe (Qe (Jr (Qe (Qe (Qe (Qe (Jr (Qe (Qe (Qe (Qe (opV (Qe (Qe (Jr (Qe (Qe (Qe (Qe (Jr (Qe (Qe (Qe (Jr (Qe op0 hT) (fun R rest h=>Zl (Zk:=[.d (Qb5 a0),.i 2,.i 2]) (dst:=some 67) hP Qjq (by have q:=Qc3.Qy a0 2 2 h21;rw [c22] at q;exact q) (by kernel_rfl) (.cons (Wj _) (.cons (Wj _) (.cons (Wj _) .nil))) (by kernel_rfl) h)) hT) hT) hT) (fun R rest h=>Yf hT (i:=0) (n:=(a0.Pairs.length:Int)) h23.1 h23.2 (by kernel_rfl) h)) hT) hT) hT) hT) (fun R rest h=>Yf hT (i:=1) (n:=(a0.Pairs.length:Int)) h24.1 h24.2 (by kernel_rfl) h)) hT) hT) hT 79 (.b (((a0.Pairs.getD 0 Qa.z).Key) != ((a0.Pairs.getD 1 Qa.z).Key))) (.b true) (by rw [neT c25]<;>rfl)) hT) hT) hT) hT) (fun R rest h=>Yf hT (i:=0) (n:=(a0.Pairs.length:Int)) h23.1 h23.2 (by kernel_rfl) h)) hT) hT) hT) hT) (fun R rest h=>Yf hT (i:=1) (n:=(a0.Pairs.length:Int)) h24.1 h24.2 (by kernel_rfl) h)) hT) hT) ?_
    refine Xl hT 3 (K78 111101011111111100 29) ⟨102,(Ji.p0++[(94,.b (((a0.Pairs.getD 0 Qa.z).Val) == ((a0.Pairs.getD 1 Qa.z).Val)))]),[.box 47 (Qaj a0)]⟩ ?_
    by_cases c26:((a0.Pairs.getD 0 Qa.z).Val)=((a0.Pairs.getD 1 Qa.z).Val)
    ·replace H:=iT c26 H
     rw [eqT c26]
     refine qI ?_
     refine qX hT 2 h23 ?_
     exact qC hT 6 _ [] _ h0 (Jj5 (decide (((a0.Pairs.getD 0 Qa.z).Val)>=0)) H)
    replace H:=iF c26 H
    rw [eqF c26]
    exact Yp hT 9 _ [] _ h0 (Jj5 false H)
   replace H:=iF c22 H
   refine Qak (hP▸mixed) 26 [1] (sm [.d (Qb5 a0),.b false,.b false,.Qn [],.Qn [],.Qn [],.Qn [],.Qn [],.Qn [],.Qn [],.Qn [],.Qn [],.Qn [],.Qn [],.b false,.b false,.Qn [],.Qn [],.Qn [],.Qn [],.Qn [],.Qn [],.Qn [],.Qn [],.Qn [],.Qn []]) (Qe (Qe (Qe (Qe (Qe (Qe (Qe (Qe (Qe (Qe (Qe (Qe (Qe (Qe (Qe (Qe (Qe (Qe (Qe (Qe (Qe (Qe (Qe (Qe (Jr (Qe op0 hT) (fun R rest h=>Zl (Zk:=[.d (Qb5 a0),.i 2,.i 2]) (dst:=some 67) hP Qjq (by have q:=Qc3.Qy a0 2 2 h21;rw [Jo c22] at q;exact q) (by kernel_rfl) (.cons (Wj _) (.cons (Wj _) (.cons (Wj _) .nil))) (by kernel_rfl) h)) hT) hT) hT) hT) hT) hT) hT) hT) hT) hT) hT) hT) hT) hT) hT) hT) hT) hT) hT) hT) hT) hT) hT) hT) ?_
   exact Yp hT 12 _ [] _ h0 (Jj5 false H)
  replace H:=iF c20 H
  rw [eqF c20]
  refine qI ?_
  obtain rfl:=Xr H
  exact qT hT 7 hf hX h0 [] an (.d (.v _))
 refine Xl hT 18 (K78 11100 4) ⟨102,(Ji.p0++[(3,.ptr 1 0 0 0),(8,.b (a0.Kind != 2))]),[.box 47 (Qaj a0),.box 39 [.i 0,.i 0]]⟩ ?_
 by_cases c1:a0.Kind=2
 ·replace H:=iT c1 H
  rw [neF c1]
  refine Xl hT 10 (K78 11100 14) ⟨102,(Ji.p0++[(14,.b false),(18,.b (a0.Kind != 4))]),[.box 47 (Qaj a0),.box 39 [.i 0,.i 0]]⟩ ?_
  by_cases c2:a0.Kind=4
  ·replace H:=iT c2 H
   rw [neF c2]
   exact Yp hT 6 _ [0] _ h0 (Xy false H)
  replace H:=iF c2 H
  rw [neT c2]
  exact Yp hT 6 _ [0] _ h0 (Xy (a0.Old != 0) H)
 replace H:=iF c1 H
 rw [neT c1]
 refine Xl hT 6 (K78 11100 10) ⟨102,(Ji.p0++[(14,.b (!((a0.Over.Lo == 0) && (a0.Over.Hi == 0))))]),[.box 47 (Qaj a0),.box 39 [.i 0,.i 0]]⟩ ?_
 by_cases c3:a0.Over.Lo=0
 ·replace H:=iT c3 H
  rw [eqT c3]
  by_cases c4:a0.Over.Hi=0
  ·replace H:=iT c4 H
   rw [eqT c4]
   refine Xl hT 4 (K78 11100 14) ⟨102,(Ji.p0++[(14,.b false),(18,.b (a0.Kind != 4))]),[.box 47 (Qaj a0),.box 39 [.i 0,.i 0]]⟩ ?_
   by_cases c5:a0.Kind=4
   ·replace H:=iT c5 H
    rw [neF c5]
    exact Yp hT 6 _ [0] _ h0 (Xy false H)
   replace H:=iF c5 H
   rw [neT c5]
   exact Yp hT 6 _ [0] _ h0 (Xy (a0.Old != 0) H)
  replace H:=iF c4 H
  rw [eqF c4]
  exact Yp hT 10 _ [0] _ h0 (Xy true H)
 replace H:=iF c3 H
 rw [eqF c3]
 by_cases c6:a0.Over.Hi=0
 ·replace H:=iT c6 H
  rw [eqT c6]
  exact Yp hT 10 _ [0] _ h0 (Xy true H)
 replace H:=iF c6 H
 rw [eqF c6]
 exact Yp hT 10 _ [0] _ h0 (Xy true H)
theorem Qbx.Qy (a0:We) {r:Bool} (H:Qbx a0=some r):Xz Tryz.prog 43 [] [.d (Qb5 a0)] [] (.b r):=by
 refine Xj Tryz.func43 rfl (nt:=25) rfl (lb rfl) fun X hP h0 hX=>?_
 have hT:Xb X.P T:=hP▸tok
 have hf:X.P.funcs[43]? = some Tryz.f43:=hP▸Tryz.func43
 have Xy:∀ (Qb4:Bool),(Qbx.j1 Qb4)=some r->AK X 43 ((K43 11 1)) (Yc X [] (.b r)) ⟨25,[(2,.b Qb4)],[]⟩:=by
  intro Qb4 H
  obtain rfl:=Xr H
  exact Qc0 hf hX h0 (.b Qb4) [] an (.d (.v _))
 refine qI ?_
 rcases iB H with ⟨c1,H⟩ | ⟨c1,H⟩
 ·refine qB hT 11 (decide_eq_true c1) ?_
  refine qE hT 5 (K43 110 9) ⟨25,[(1,.ptr 0 0 0 0),(11,.b (decide (a0.Client<=1048576)))],[.box 47 (Qaj a0)]⟩ ?_
  refine qI ?_
  rcases iB H with ⟨c2,H⟩ | ⟨c2,H⟩
  ·refine qB hT 0 (decide_eq_true c2) ?_
   refine qE hT 5 (K43 110 14) ⟨25,[(1,.ptr 0 0 0 0),(16,.b (decide (a0.Seq>=1)))],[.box 47 (Qaj a0)]⟩ ?_
   refine qI ?_
   rcases iB H with ⟨c3,H⟩ | ⟨c3,H⟩
   ·refine qB hT 0 (decide_eq_true c3) ?_
    refine qE hT 5 (K43 110 19) ⟨25,[(1,.ptr 0 0 0 0),(21,.b (decide (a0.Seq<=1073741824)))],[.box 47 (Qaj a0)]⟩ ?_
    refine qI ?_
    rcases iB H with ⟨c4,H⟩ | ⟨c4,H⟩
    ·refine qB hT 0 (decide_eq_true c4) ?_
     refine qE hT 1 (K43 110 20) ⟨25,[(21,.b true),(22,.d (Qb5 a0))],[.box 47 (Qaj a0)]⟩ ?_
     obtain ⟨v1,h5,H⟩:=ibC H
     refine qI ?_
     refine qF hT 0 hP Wfv (Ji.Qy a0 h5) ?_
     exact qC hT 3 _ [] _ h0 (Xy v1 H)
    refine qB hT 0 (decide_eq_false c4) ?_
    exact qC hT 5 _ [] _ h0 (Xy false H)
   refine qB hT 0 (decide_eq_false c3) ?_
   exact qC hT 10 _ [] _ h0 (Xy false H)
  refine qB hT 0 (decide_eq_false c2) ?_
  exact qC hT 15 _ [] _ h0 (Xy false H)
 refine qB hT 11 (decide_eq_false c1) ?_
 exact qC hT 20 _ [] _ h0 (Xy false H)
theorem Qee.Qy (a0:Int):Xz Tryz.prog 108 [] [.i a0] [] (.b (Qee a0)):=by
 obtain ⟨r,H⟩:∃ r,Qee a0=r:=⟨_,rfl⟩
 rw [H]
 refine Xj Tryz.func108 rfl (nt:=9) rfl (lb rfl) fun X hP h0 hX=>?_
 have hT:Xb X.P T:=hP▸tok
 have hf:X.P.funcs[108]? = some Tryz.f108:=hP▸Tryz.func108
 have Xy:∀ (Qb4:Bool),(Qee.j1 Qb4)=r->AK X 108 ((Wmr 11 1)) (Yc X [] (.b r)) ⟨9,[(2,.b Qb4)],[]⟩:=by
  intro Qb4 H
  obtain rfl:=H
  exact Qc0 hf hX h0 (.b Qb4) [] an (.d (.v _))
 refine qI ?_
 rcases iB H with ⟨c1,H⟩ | ⟨c1,H⟩
 ·refine qB hT 9 (decide_eq_true c1) ?_
  exact qE hT 5 _ _ (Xy (decide (a0<=1099511627775)) H)
 refine qB hT 9 (decide_eq_false c1) ?_
 exact qE hT 5 _ _ (Xy false H)
abbrev Qew.q1 (a0:Yl):List AV:=[.i a0.M.Client,.i a0.M.Seq,.i a0.M.Kind,.own 2 2 0 a0.M.Pairs.length,.i a0.M.Over.Lo,.i a0.M.Over.Hi,.i a0.M.Old,.i a0.Time,.b a0.Qcq]
abbrev Qew.q2:List AV:=[.i 0,.i 0,.i 0,.ns,.i 0,.i 0,.i 0,.i 0,.b false]
abbrev Qew.p0 (a0:Yl):List (Nat × AV):=[(2,.ptr 1 0 0 0),(9,.agg [.i a0.M.Client,.i a0.M.Seq,.i a0.M.Kind,.own 2 2 0 a0.M.Pairs.length,.i a0.M.Over.Lo,.i a0.M.Over.Hi,.i a0.M.Old,.i a0.Time,.b a0.Qcq])]
theorem Qew.Qy (a0:Yl) {r:Yl} (H:Qew a0=some r):Xz Tryz.prog 111 [] [.d (Qk2 a0)] [] (.d (Qk2 r)):=by
 refine Xj Tryz.func111 rfl (nt:=10) rfl (lb rfl) fun X hP h0 hX=>?_
 have hT:Xb X.P T:=hP▸tok
 have hf:X.P.funcs[111]? = some Tryz.f111:=hP▸Tryz.func111
 refine qI ?_
 obtain ⟨h1,H⟩:=iC H
 refine qF hT 10 hP Qnp (Qro (tg:=true) a0.M.Pairs h1) ?_
 refine qE hT 7 (Wla 1110 1) ⟨10,(Qew.p0 a0),[.box 130 (Qew.q1 a0),.box 130 (Qew.q2),Zg a0.M.Pairs]⟩ ?_
 refine Qen 2 (kk:=2) (n:=a0.M.Pairs.length) (ty:=56) (g:=vec Qa.e Qa.z a0.M.Pairs) (by kernel_rfl) (st':=⟨10,(Qew.p0 a0),[.box 130 (Qew.q1 a0),.box 130 (Qew.q2),Qof a0.M.Pairs]⟩) (by kernel_rfl) ?_
 refine Qg3 (av:=.agg [.i a0.M.Client,.i a0.M.Seq,.i a0.M.Kind,.own 2 2 0 a0.M.Pairs.length,.i a0.M.Over.Lo,.i a0.M.Over.Hi,.i a0.M.Old,.i a0.Time,.b a0.Qcq]) (y:=Qk2 a0) [2,9] 9 (st':=⟨10,[(2,.ptr 1 0 0 0),(9,.d (Qk2 a0))],[.box 130 (Qew.q1 a0),.box 130 (Qew.q2),Qof a0.M.Pairs]⟩) (by kernel_rfl) (.agg (.cons (.d _) (.cons (.d _) (.cons (.d _) (.cons (.own (ty:=56) (k:=2) (by kernel_rfl)) (.cons (.d _) (.cons (.d _) (.cons (.d _) (.cons (.d _) (.cons (.d _) .nil)))))))))) (by kernel_rfl) ?_
 refine Xl hT 2 (Wla 111 1) ⟨10,[(2,.ptr 1 0 0 0)],[.box 130 (Qew.q1 a0),.box 130 (Qfl a0),Qof a0.M.Pairs]⟩ ?_
 obtain rfl:=Xr H
 exact Qhw hT hf hX (av:=.d (Qk2 a0)) (by kernel_rfl) [] (Qbu (by kernel_rfl)) (by decide) (by rw [h0];rfl) (by kernel_rfl) an (.d (.agg (Yl.nl _)))
theorem Qez.Qy (a0:Qc):Xz Tryz.prog 28 [] [.d (Qff a0)] [] (.d (Qf0 (Qez a0))):=by
 obtain ⟨r,H⟩:∃ r,Qez a0=r:=⟨_,rfl⟩
 rw [H]
 refine Xj Tryz.func28 rfl (nt:=8) rfl (lb rfl) fun X hP h0 hX=>?_
 have hT:Xb X.P T:=hP▸tok
 have hf:X.P.funcs[28]? = some Tryz.f28:=hP▸Tryz.func28
 refine Xl hT 11 (K28 110 4) ⟨8,[(2,.ptr 1 0 0 0),(4,.i a0.Time),(6,.d (Qb5 a0.M))],[.box 50 (Qed a0),.box 65 [.i 0,.i 0,.i 0]]⟩ ?_
 refine Jj (Zk:=[.i a0.Time,.d (Qb5 a0.M)]) (dst:=some 7) (k':=(K28 110 5)) [2,7] [] hP Qkr (Qbr.Qy a0.Time a0.M) (by kernel_rfl) (Jy _) (.cons (Wj _) (.cons (Wj _) .nil)) (st':=⟨8,[(2,.ptr 1 0 0 0),(7,.d (Qf0 (Qbr a0.Time a0.M)))],[.box 50 (Qed a0),.box 65 [.i 0,.i 0,.i 0]]⟩) (by kernel_rfl) ?_
 obtain ⟨v1,h1,H⟩:=idC H
 rw [<- h1]
 refine Xl hT 2 (K28 11 1) ⟨8,[(2,.ptr 1 0 0 0)],[.box 50 (Qed a0),.box 65 (Qpc v1)]⟩ ?_
 obtain rfl:=H
 exact Qhw hT hf hX (av:=.d (Qf0 v1)) (by kernel_rfl) [] (Qbu (by kernel_rfl)) (by decide) (by rw [h0];rfl) (by kernel_rfl) an (.d (.agg (Jk.nl _)))
theorem Qiu.Qy (a0:Qc) (a1:Qc) {r:Int} (H:Qiu a0 a1=some r):Xz Tryz.prog 26 [] [.d (Qff a0),.d (Qff a1)] [] (.i r):=by
 refine Xj Tryz.func26 rfl (nt:=10) rfl (lb rfl) fun X hP h0 hX=>?_
 have hT:Xb X.P T:=hP▸tok
 have hf:X.P.funcs[26]? = some Tryz.f26:=hP▸Tryz.func26
 refine Xl hT 7 (K26 11 0) ⟨10,[(2,.ptr 0 0 0 0),(3,.ptr 1 0 0 0)],[.box 50 (Qed a0),.box 50 (Qed a1)]⟩ ?_
 refine Qak (hP▸mixed) 3 [2,3] (sm [.d (Qff a0),.d (Qf0 (Qez a0)),.d (Qff a1)]) (Qe (Jr (Qe op0 hT) (fun R rest h=>Zl (Zk:=[.d (Qff a0)]) (dst:=some 6) hP Qv2 (Qez.Qy a0) (by kernel_rfl) (.cons (Wj _) .nil) (by kernel_rfl) h)) hT) ?_
 refine Xl hT 0 (K26 110 3) ⟨10,[(6,.d (Qf0 (Qez a0))),(7,.d (Qff a1))],[.box 50 (Qed a0),.box 50 (Qed a1)]⟩ ?_
 refine Jj (Zk:=[.d (Qff a1)]) (dst:=some 8) (k':=(K26 110 4)) [6,8] [] hP Qv2 (Qez.Qy a1) (by kernel_rfl) (Jy _) (.cons (Wj _) .nil) (st':=⟨10,[(6,.d (Qf0 (Qez a0))),(8,.d (Qf0 (Qez a1)))],[.box 50 (Qed a0),.box 50 (Qed a1)]⟩) (by kernel_rfl) ?_
 obtain ⟨v1,h1,H⟩:=idC H
 rw [<- h1]
 obtain ⟨v2,h2,H⟩:=ibC H
 refine qI ?_
 refine qF hT 0 hP Qnq (Qcw.Qy (Qez a0) v1 h2) ?_
 obtain rfl:=Xr H
 exact qT hT 2 hf hX h0 [] an (.d (.v _))
theorem Zu.Qy {t0:Bool} {ff1:FuncId} {cc1:List DV} (a0:List Qb) (p1:Qb->Option Bool) (he1:Sy.Enters Tryz.prog ff1) (hp1:∀ (z0:Qb) r,p1 z0=some r->Xz Tryz.prog ff1 [] ([.d (Qhd z0)] ++ List.map AV.d cc1) [] (.b r)) {r:Int} (H:Zu a0 p1=some r):Xz Tryz.prog 141 [] [.d (Yx t0 a0),.d (.fn ff1 cc1)] [] (.i r):=by
 refine Xj Tryz.func141 rfl (nt:=19) rfl (lb rfl) fun X hP h0 hX=>?_
 have hT:Xb X.P T:=hP▸tok
 have hf:X.P.funcs[141]? = some Tryz.f141:=hP▸Tryz.func141
 refine Xl hT 13 (Qxv 11010 0) ⟨19,[(0,.d (Yx t0 a0)),(1,.d (.fn ff1 cc1)),(7,.i (a0.length:Int)),(8,.i 0)],[]⟩ ?_
 have L:∀ n,(∀ (Xd:Int),iter (Zu.step a0 p1) n (.l1 Xd)=some r->AK X 141 ((Qxv 11010 0)) (Yc X [] (.i r)) ⟨19,[(0,.d (Yx t0 a0)),(1,.d (.fn ff1 cc1)),(7,.i (a0.length:Int)),(8,.i Xd)],[]⟩):=by
  intro n
  induction n with
  | zero=>exact fun _ H=>Qal H
  | succ n ih=>
   ·intro Xd H
    refine qI ?_
    rcases sB H with ⟨c1,H⟩ | ⟨c1,H⟩
    ·refine qB hT 5 (decide_eq_true c1) ?_
     refine qE hT 14 (Qxv 110100110010 3) ⟨19,[(0,.d (Yx t0 a0)),(1,.d (.fn ff1 cc1)),(5,.i Xd),(7,.i (a0.length:Int)),(8,.i Xd),(11,.d (.fn ff1 cc1)),(12,.d (Yx t0 a0)),(13,.i Xd)],[]⟩ ?_
     obtain ⟨h2,H⟩:=sC H
     refine qI ?_
     refine qX hT 0 h2 ?_
     refine qE hT 1 (Qxv 110100110010 5) ⟨19,[(0,.d (Yx t0 a0)),(1,.d (.fn ff1 cc1)),(5,.i Xd),(7,.i (a0.length:Int)),(8,.i Xd),(11,.d (.fn ff1 cc1)),(15,.d (Qhd (a0.getD Xd.toNat Qb.z)))],[]⟩ ?_
     obtain ⟨v1,h3,H⟩:=sbC H
     refine Jj (Zk:=[.d (Qhd (a0.getD Xd.toNat Qb.z))] ++ List.map AV.d cc1) (dst:=some 16) (k':=(Qxv 110100110010 6)) [0,1,5,7,8,16] [] hP he1 (hp1 (a0.getD Xd.toNat Qb.z) v1 h3) (by kernel_rfl) (Jy _) (.cons (Wj _) (Qgq _)) (st':=⟨19,[(0,.d (Yx t0 a0)),(1,.d (.fn ff1 cc1)),(5,.i Xd),(7,.i (a0.length:Int)),(8,.i Xd),(16,.b v1)],[]⟩) (by kernel_rfl) ?_
     refine qI ?_
     rcases sB H with ⟨c4,H⟩ | ⟨c4,H⟩
     ·refine qB hT 1 (c4) ?_
      obtain rfl:=Xr H
      exact qT hT 6 hf hX h0 [] an (.d (.v _))
     refine qB hT 1 (Jo c4) ?_
     exact qE hT 8 _ _ (ih (IntKind.wrap .i64 (Xd+1)) H)
    refine qB hT 5 (decide_eq_false c1) ?_
    obtain rfl:=Xr H
    exact qT hT 6 hf hX h0 [] an (.d (.v _))
 obtain ⟨n,H⟩:=Qbp H
 exact (L n) 0 H
theorem Qb3.Qy {t0:Bool} {ff1:FuncId} {cc1:List DV} (a0:List Qb) (p1:Qb->Option Bool) (he1:Sy.Enters Tryz.prog ff1) (hp1:∀ (z0:Qb) r,p1 z0=some r->Xz Tryz.prog ff1 [] ([.d (Qhd z0)] ++ List.map AV.d cc1) [] (.b r)) {r:Bool} (H:Qb3 a0 p1=some r):Xz Tryz.prog 113 [] [.d (Yx t0 a0),.d (.fn ff1 cc1)] [] (.b r):=by
 refine Xj Tryz.func113 rfl (nt:=9) rfl (lb rfl) fun X hP h0 hX=>?_
 have hT:Xb X.P T:=hP▸tok
 have hf:X.P.funcs[113]? = some Tryz.f113:=hP▸Tryz.func113
 refine qI ?_
 obtain ⟨v1,h1,H⟩:=ibC H
 refine qF hT 8 hP Wb7 (Zu.Qy (t0:=t0) (ff1:=ff1) (cc1:=cc1) a0 p1 he1 hp1 h1) ?_
 obtain rfl:=Xr H
 exact qT hT 3 hf hX h0 [] an (.d (.v _))
theorem Qhs.Qy (a0:Qb):Xz Tryz.prog 114 [] [.d (Qhd a0)] [] (.b (Qhs a0)):=by
 obtain ⟨r,H⟩:∃ r,Qhs a0=r:=⟨_,rfl⟩
 rw [H]
 refine Xj Tryz.func114 rfl (nt:=6) rfl (lb rfl) fun X hP h0 hX=>?_
 have hT:Xb X.P T:=hP▸tok
 have hf:X.P.funcs[114]? = some Tryz.f114:=hP▸Tryz.func114
 refine qI ?_
 refine qF hT 8 hP Qjg (Qcd.Qy a0) ?_
 obtain rfl:=H
 exact qT hT 3 hf hX h0 [] an (.d (.v _))
theorem Ze.Qy (a0:Qb) (a1:Qb):Xz Tryz.prog 117 [] [.d (Qhd a0),.d (Qhd a1)] [] (.i (Ze a0 a1)):=by
 obtain ⟨r,H⟩:∃ r,Ze a0 a1=r:=⟨_,rfl⟩
 rw [H]
 refine Xj Tryz.func117 rfl (nt:=10) rfl (lb rfl) fun X hP h0 hX=>?_
 have hT:Xb X.P T:=hP▸tok
 have hf:X.P.funcs[117]? = some Tryz.f117:=hP▸Tryz.func117
 refine qI ?_
 refine qF hT 12 hP Qjh (Zt.Qy a0.Lo a1.Lo) ?_
 obtain rfl:=H
 exact qT hT 2 hf hX h0 [] an (.d (.v _))
theorem Qfx.Qy (a0:List Qb):Xz Tryz.prog 118 [] [.d (Yx true a0)] [] (.Qn [.d (Yx true ((Qfx a0).1)),.i ((Qfx a0).2)]):=by
 obtain ⟨r,H⟩:∃ r,Qfx a0=r:=⟨_,rfl⟩
 rw [H]
 refine Xj Tryz.func118 rfl (nt:=8) rfl (lb rfl) fun X hP h0 hX=>?_
 have hT:Xb X.P T:=hP▸tok
 have hf:X.P.funcs[118]? = some Tryz.f118:=hP▸Tryz.func118
 refine qI ?_
 rcases iB H with ⟨c1,H⟩ | ⟨c1,H⟩
 ·refine qB hT 12 (decide_eq_true c1) ?_
  refine qE hT 6 (Wms 11010 1) ⟨8,[(2,.ns),(3,.i 2)],[]⟩ ?_
  refine Qg3 (av:=.d (.v (.slice none 0 0))) (y:=Yx true ([]:List Qb)) [2,3] 2 (st':=⟨8,[(2,.d (Yx true ([]:List Qb))),(3,.i 2)],[]⟩) (by kernel_rfl) (.nil _) (by kernel_rfl) ?_
  obtain rfl:=H
  exact Qc0 hf hX h0 (.Qn [.d (Yx true ([]:List Qb)),.i 2]) [] an (.Qn (.cons (.d (.sl fun _ _=>Qb.nl _)) (.cons (.d (.v _)) .nil)))
 refine qB hT 12 (decide_eq_false c1) ?_
 obtain rfl:=H
 exact qT hT 8 hf hX h0 [] an (.Qn (.cons (.d (.sl fun _ _=>Qb.nl _)) (.cons (.d (.v _)) .nil)))
abbrev Wx.q1 (Qx:List Qb) (a0:List Qb) (Qav:Int):=(Qx.set ((IntKind.wrap .i64 ((Qx.length:Int) - 1)).toNat) (⟨(Qx.getD ((IntKind.wrap .i64 ((Qx.length:Int) - 1)).toNat) Qb.z).Lo,Qf6 ((Qx.getD ((IntKind.wrap .i64 ((Qx.length:Int) - 1)).toNat) Qb.z).Hi) (((Qai Qb.z Ze a0).getD Qav.toNat Qb.z).Hi)⟩:Qb))
abbrev Wx.q2 (a0:List Qb) (Qav:Int):=((Qai Qb.z Ze a0).getD Qav.toNat Qb.z)
abbrev Wx.q3 (Qx:List Qb):=(IntKind.wrap .i64 ((Qx.length:Int) - 1))
abbrev Wx.q4 (a0:List Qb):=((Qai Qb.z Ze a0).length:Int)
abbrev Wx.q5 (a0:List Qb):=((Qai Qb.z Ze a0).length)
abbrev Wx.q6 (Qx:List Qb):=((Qx.getD ((Wx.q3 Qx).toNat) Qb.z).Hi)
abbrev Wx.q7 (Qx:List Qb) (a0:List Qb) (Qav:Int):List Row:=[Qca Qx,.box 39 (Qkj (Wx.q2 a0 Qav)),Qca (Qai Qb.z Ze a0)]
theorem Wx.Qy (a0:List Qb) {r:(List Qb) × Int} (H:Wx a0=some r):Xz Tryz.prog 74 [] [.d (Yx true a0)] [] (.Qn [.d (Yx true r.1),.i r.2]):=by
 refine Xj Tryz.func74 rfl (nt:=56) rfl (lb rfl) fun X hP h0 hX=>?_
 have hT:Xb X.P T:=hP▸tok
 have hf:X.P.funcs[74]? = some Tryz.f74:=hP▸Tryz.func74
 refine qI ?_
 obtain ⟨v1,h1,H⟩:=ibC H
 refine qF hT 9 hP Qt9 (Qb3.Qy (t0:=true) (ff1:=114) (cc1:=[]) a0 (fun z0=>some (Qhs z0)) Wbr (fun z0 r h=>by obtain rfl:=Xr h;exact Qhs.Qy z0) h1) ?_
 refine qE hT 1 (K74 110 1) ⟨56,[(0,.d (Yx true a0)),(10,.b v1)],[]⟩ ?_
 refine qI ?_
 rcases iB H with ⟨c2,H⟩ | ⟨c2,H⟩
 ·refine qB hT 0 (c2) ?_
  refine qE hT 6 (K74 11010 1) ⟨56,[(2,.ns),(3,.i 1)],[]⟩ ?_
  refine Qg3 (av:=.d (.v (.slice none 0 0))) (y:=Yx true ([]:List Qb)) [2,3] 2 (st':=⟨56,[(2,.d (Yx true ([]:List Qb))),(3,.i 1)],[]⟩) (by kernel_rfl) (.nil _) (by kernel_rfl) ?_
  obtain rfl:=Xr H
  exact Qc0 hf hX h0 (.Qn [.d (Yx true ([]:List Qb)),.i 1]) [] an (.Qn (.cons (.d (.sl fun _ _=>Qb.nl _)) (.cons (.d (.v _)) .nil)))
 refine qB hT 0 (Jo c2) ?_
 refine qE hT 5 (K74 1110 1) ⟨56,[(11,.d (Yx true a0))],[]⟩ ?_
 refine Jj (Zk:=[.d (Yx true a0)]) (dst:=some 12) (k':=(K74 1110 2)) [12] [] hP Wbt (Whn a0) (by kernel_rfl) (Jy _) (.cons (Wj _) .nil) (st':=⟨56,[(12,.fn 144 [.ptr 0 0 0 0])],[.box 51 [.d (Yx true a0)]]⟩) (by kernel_rfl) ?_
 obtain ⟨h3,H⟩:=iC H
 refine Jj (Zk:=[.fn 144 [.ptr 0 0 0 0],.d (.fn 117 [])]) (dst:=some 13) (k':=(K74 1110 3)) [13] [] hP Wbs (Qxb (tg:=true) Wbu Ze Qlb (fun x y=>Ze.Qy x y) a0 h3) (by kernel_rfl) (Jy _) (.cons (.fn 144 (.cons (.look (ty:=51) (cs:=[Yx true a0]) (by kernel_rfl) rfl) .nil)) (.cons (Wj _) .nil)) (st':=⟨56,[(13,.own 1 2 0 (Wx.q5 a0))],[.box 51 [.d (Yx true a0)],Qca (Qai Qb.z Ze a0)]⟩) (by kernel_rfl) ?_
 refine Xl hT 15 (K74 11111010 0) ⟨56,[(5,.ns),(14,.own 1 2 0 (Wx.q5 a0)),(15,.i (Wx.q4 a0)),(16,.i 0)],[.box 51 [.d (Yx true a0)],Qca (Qai Qb.z Ze a0)]⟩ ?_
 refine Qdj [5,14,15,16] 5 2 39 (vec Qb.e Qb.z []) (st':=⟨56,[(5,.own 2 2 0 0),(14,.own 1 2 0 (Wx.q5 a0)),(15,.i (Wx.q4 a0)),(16,.i 0)],[.box 51 [.d (Yx true a0)],Qca (Qai Qb.z Ze a0),Qca ([]:List Qb)]⟩) (by kernel_rfl) (by kernel_rfl) ?_
 have L:∀ n,(∀ (Qav:Int) (Qx:List Qb),iter (Wx.step a0) n (.l1 Qav Qx)=some r->AK X 74 ((K74 11111010 0)) (Yc X [] (.Qn [.d (Yx true r.1),.i r.2])) ⟨56,[(5,.own 0 2 0 Qx.length),(14,.own 1 2 0 (Wx.q5 a0)),(15,.i (Wx.q4 a0)),(16,.i Qav)],[Qca Qx,Qca (Qai Qb.z Ze a0)]⟩):=by
  intro n
  induction n with
  | zero=>exact fun _ _ H=>Qal H
  | succ n ih=>
   ·intro Qav Qx H
    refine qI ?_
    rcases sB H with ⟨c4,H⟩ | ⟨c4,H⟩
    ·refine qB hT 5 (decide_eq_true c4) ?_
     refine qE hT 6 (K74 11111010011000 0) ⟨56,[(5,.own 0 2 0 Qx.length),(14,.own 1 2 0 (Wx.q5 a0)),(15,.i (Wx.q4 a0)),(16,.i Qav)],[Qca Qx,Qca (Qai Qb.z Ze a0)]⟩ ?_
     obtain ⟨h6,H⟩:=sC H
     have Xy:∀ (Qe4:Bool),stk (Wx.j1 a0 Qav Qx Qe4) (iter (Wx.step a0) n)=some r->AK X 74 ((K74 1111101001100101 1)) (Yc X [] (.Qn [.d (Yx true r.1),.i r.2])) ⟨56,[(5,.own 0 2 0 Qx.length),(7,.ptr 1 0 0 0),(8,.i (Wx.q3 Qx)),(14,.own 2 2 0 (Wx.q5 a0)),(15,.i (Wx.q4 a0)),(16,.i Qav),(34,.b Qe4)],(Wx.q7 Qx a0 Qav)⟩:=by
      intro Qe4 H
      by_cases c9:Qe4=true
      ·replace H:=sT c9 H
       rw [c9]
       refine Xl hT 2 (K74 111110100110010110 0) ⟨56,[(5,.own 0 2 0 Qx.length),(7,.ptr 1 0 0 0),(8,.i (Wx.q3 Qx)),(14,.own 2 2 0 (Wx.q5 a0)),(15,.i (Wx.q4 a0)),(16,.i Qav)],(Wx.q7 Qx a0 Qav)⟩ ?_
       obtain ⟨h10,H⟩:=sC H
       refine Qak (hP▸mixed) 10 [5,7,8,14,15,16] (sm [.own 0 2 0 Qx.length,.i (Wx.q3 Qx),.own 0 2 0 Qx.length,.i (Wx.q3 Qx),.ptr 0 2 ((Wx.q3 Qx).toNat) 0,.ptr 0 2 ((Wx.q3 Qx).toNat) 1,.i (Wx.q6 Qx),.ptr 1 0 0 1,.i ((Wx.q2 a0 Qav).Hi),.i (Qf6 (Wx.q6 Qx) ((Wx.q2 a0 Qav).Hi))]) (Qe (Qe (Qe (Jr (Qe (Jr (Qe (Qe (Qe (Qe op0 hT) hT) hT) hT) (fun R rest h=>Yf hT (i:=IntKind.wrap .i64 ((Qx.length:Int) - 1)) (n:=(Qx.length:Int)) h10.1 h10.2 (by kernel_rfl) h)) hT) (fun R rest h=>Qgs hT (i:=(Wx.q3 Qx).toNat) (n:=Qx.length) (ltN h10.1 h10.2) (by kernel_rfl) h)) hT) hT) hT) ?_
       refine qI ?_
       refine qX hT 0 h10 ?_
       refine qE hT 1 (K74 1111101001100101100 12) ⟨56,[(5,.own 0 2 0 Qx.length),(14,.own 2 2 0 (Wx.q5 a0)),(15,.i (Wx.q4 a0)),(16,.i Qav),(44,.i (Qf6 (Wx.q6 Qx) ((Wx.q2 a0 Qav).Hi))),(46,.ptr 0 2 ((Wx.q3 Qx).toNat) 1)],(Wx.q7 Qx a0 Qav)⟩ ?_
       refine Qtz (id:=0) (kk:=2) (i:=((Wx.q3 Qx).toNat)) (off:=1) (s:=1) (n:=Qx.length) (ty:=39) (ds:=[.i (Qf6 (Wx.q6 Qx) ((Wx.q2 a0 Qav).Hi))]) (g:=vec Qb.e Qb.z Qx) (k':=(K74 1111101001100101100 13)) hT [5,14,15,16] (vec Qb.e Qb.z (Wx.q1 Qx a0 Qav)) (by kernel_rfl) (by kernel_rfl) (ltN h10.1 h10.2) ((Qmw (ltN h10.1 h10.2)).trans (by kernel_rfl)) Qjx (st':=⟨56,[(5,.own 0 2 0 (Qx.length)),(14,.own 2 2 0 (Wx.q5 a0)),(15,.i (Wx.q4 a0)),(16,.i Qav)],[.flat false 2 39 Qx.length (vec Qb.e Qb.z (Wx.q1 Qx a0 Qav)),.box 39 (Qkj (Wx.q2 a0 Qav)),.flat false 2 39 (Qai Qb.z Ze a0).length (vec Qb.e Qb.z (Qai Qb.z Ze a0))]⟩) (by kernel_rfl) ?_
       refine Qnm (show Qx.length=(Wx.q1 Qx a0 Qav).length from (List.length_set ..).symm) (fun nn=>⟨56,[(5,.own 0 2 0 (nn)),(14,.own 2 2 0 (Wx.q5 a0)),(15,.i (Wx.q4 a0)),(16,.i Qav)],[.flat false 2 39 nn (vec Qb.e Qb.z (Wx.q1 Qx a0 Qav)),.box 39 (Qkj (Wx.q2 a0 Qav)),.flat false 2 39 (Qai Qb.z Ze a0).length (vec Qb.e Qb.z (Qai Qb.z Ze a0))]⟩) ?_
       exact Yp hT 7 _ [0,2] _ h0 (ih (IntKind.wrap .i64 (Qav+1)) (Wx.q1 Qx a0 Qav) H)
      replace H:=sF c9 H
      rw [Jo c9]
      refine Xl hT 6 (K74 111110100110011 3) ⟨56,[(14,.own 2 2 0 (Wx.q5 a0)),(15,.i (Wx.q4 a0)),(16,.i Qav),(47,.own 0 2 0 Qx.length),(49,.own 3 2 0 1)],[Qca Qx,.box 39 (Qkj (Wx.q2 a0 Qav)),Qca (Qai Qb.z Ze a0),.flat false 2 39 1 (fun j=>[Qb.e (Wx.q2 a0 Qav)].getD j [])]⟩ ?_
      obtain ⟨h11,H⟩:=sC H
      refine Qcj (id:=0) (kk:=2) (by':=16) (t:=51) (e:=39) (z:=[.int .i64 0,.int .i64 0]) (dst:=some 50) (id2:=3) (e2:=39) (fz:=false) (k':=(K74 111110100110011 4)) hT Qb.e Qb.z Qx (Wx.q2 a0 Qav) [14,15,16,50] (by kernel_rfl) (by kernel_rfl) (by kernel_rfl) (by kernel_rfl) (by kernel_rfl) (by kernel_rfl) (by kernel_rfl) h11 (by omega) (st':=⟨56,[(14,.own 2 2 0 (Wx.q5 a0)),(15,.i (Wx.q4 a0)),(16,.i Qav),(50,.own 4 2 0 ((Qx ++ [(Wx.q2 a0 Qav)]).length))],[.gone,.box 39 (Qkj (Wx.q2 a0 Qav)),Qca (Qai Qb.z Ze a0),.flat false 2 39 1 (fun j=>[Qb.e (Wx.q2 a0 Qav)].getD j []),Qca (Qx ++ [(Wx.q2 a0 Qav)])]⟩) (by kernel_rfl) ?_
      exact Yp hT 8 _ [4,2] _ h0 (ih (IntKind.wrap .i64 (Qav+1)) (Qx ++ [(Wx.q2 a0 Qav)]) H)
     refine Qjb hT [5,14,15,16,18] (i:=Qav) (n:=(Wx.q4 a0)) h6.1 h6.2 (k':=(K74 11111010011000 1)) (st':=⟨56,[(5,.own 0 2 0 Qx.length),(14,.own 1 2 0 (Wx.q5 a0)),(15,.i (Wx.q4 a0)),(16,.i Qav),(18,.ptr 1 2 Qav.toNat 0)],[Qca Qx,Qca (Qai Qb.z Ze a0)]⟩) (by kernel_rfl) ?_
     refine Qlw hT [5,14,15,16,19] (i:=Qav.toNat) (n:=(Qai Qb.z Ze a0).length) (ltN h6.1 h6.2) (k':=(K74 11111010011000 2)) (st':=⟨56,[(5,.own 0 2 0 Qx.length),(14,.own 1 2 0 (Wx.q5 a0)),(15,.i (Wx.q4 a0)),(16,.i Qav),(19,.d (Qhd (Wx.q2 a0 Qav)))],[Qca Qx,Qca (Qai Qb.z Ze a0)]⟩) (by kernel_rfl) ?_
     refine Xl hT 12 (K74 1111101001100101 0) ⟨56,[(5,.own 0 2 0 Qx.length),(7,.ptr 2 0 0 0),(8,.i (Wx.q3 Qx)),(14,.own 1 2 0 (Wx.q5 a0)),(15,.i (Wx.q4 a0)),(16,.i Qav)],[Qca Qx,Qca (Qai Qb.z Ze a0),.box 39 (Qkj (Wx.q2 a0 Qav))]⟩ ?_
     by_cases c7:(Wx.q3 Qx)>=0
     ·replace H:=sT c7 H
      obtain ⟨h8,H⟩:=sC H
      refine Qak (hP▸mixed) 12 [5,7,8,14,15,16] (sm [.i (Wx.q3 Qx),.b true,.b true,.ptr 2 0 0 0,.i ((Wx.q2 a0 Qav).Lo),.own 0 2 0 Qx.length,.i (Wx.q3 Qx),.ptr 0 2 ((Wx.q3 Qx).toNat) 0,.ptr 0 2 ((Wx.q3 Qx).toNat) 1,.i (Wx.q6 Qx),.b (decide (((Wx.q2 a0 Qav).Lo)<=(Wx.q6 Qx))),.b (decide (((Wx.q2 a0 Qav).Lo)<=(Wx.q6 Qx)))]) (Qe (Qe (Jr (Qe (Jr (Qe (Qe (Qe (Qe (Qe (opV (Qe op0 hT) hT 24 (.b (decide ((Wx.q3 Qx)>=0))) (.b true) (by rw [decide_eq_true c7]<;>rfl)) hT) hT) hT) hT) hT) (fun R rest h=>Yf hT (i:=IntKind.wrap .i64 ((Qx.length:Int) - 1)) (n:=(Qx.length:Int)) h8.1 h8.2 (by kernel_rfl) h)) hT) (fun R rest h=>Qgs hT (i:=(Wx.q3 Qx).toNat) (n:=Qx.length) (ltN h8.1 h8.2) (by kernel_rfl) h)) hT) hT) ?_
      exact Yp hT 1 _ [0,2,1] _ h0 (Xy (decide (((Wx.q2 a0 Qav).Lo)<=(Wx.q6 Qx))) H)
     replace H:=sF c7 H
     refine Qak (hP▸mixed) 12 [5,7,8,14,15,16] (sm [.i (Wx.q3 Qx),.b false,.b false,.Qn [],.Qn [],.Qn [],.Qn [],.Qn [],.Qn [],.Qn [],.Qn [],.b false]) (Qe (Qe (Qe (Qe (Qe (Qe (Qe (Qe (Qe (Qe (opV (Qe op0 hT) hT 24 (.b (decide ((Wx.q3 Qx)>=0))) (.b false) (by rw [decide_eq_false c7]<;>rfl)) hT) hT) hT) hT) hT) hT) hT) hT) hT) hT) ?_
     exact Yp hT 1 _ [0,2,1] _ h0 (Xy false H)
    refine qB hT 5 (decide_eq_false c4) ?_
    refine qE hT 5 (K74 1111110 1) ⟨56,[(52,.own 0 2 0 Qx.length)],[Qca Qx,Qca (Qai Qb.z Ze a0)]⟩ ?_
    refine Qen 0 (kk:=2) (n:=Qx.length) (ty:=39) (g:=vec Qb.e Qb.z Qx) (by kernel_rfl) (st':=⟨56,[(52,.own 0 2 0 Qx.length)],[Qk1 Qx,Qca (Qai Qb.z Ze a0)]⟩) (by kernel_rfl) ?_
    refine Jj (Zk:=[.own 0 2 0 Qx.length]) (dst:=some 53) (k':=(K74 1111110 2)) [53] [] hP Wbv (Qfx.Qy Qx) (by kernel_rfl) (Jy _) (.cons (.Qog (ty:=39) (by kernel_rfl) rfl) .nil) (st':=⟨56,[(53,.Qn [.d (Yx true ((Qfx Qx).1)),.i ((Qfx Qx).2)])],[Qk1 Qx,Qca (Qai Qb.z Ze a0)]⟩) (by kernel_rfl) ?_
    obtain ⟨v2,h5,H⟩:=sdC H
    rw [<- h5]
    refine qI ?_
    obtain rfl:=Xr H
    exact qT hT 5 hf hX h0 [] an (.Qn (.cons (.d (.sl fun _ _=>Qb.nl _)) (.cons (.d (.v _)) .nil)))
 refine Qg4 [2,1] ⟨56,[(5,.own 0 2 0 ([]:List Qb).length),(14,.own 1 2 0 (Wx.q5 a0)),(15,.i (Wx.q4 a0)),(16,.i 0)],[Qca ([]:List Qb),Qca (Qai Qb.z Ze a0)]⟩ h0 ?_
 obtain ⟨n,H⟩:=Qbp H
 exact (L n) 0 ([]:List Qb) H
end
end Go.SyP
