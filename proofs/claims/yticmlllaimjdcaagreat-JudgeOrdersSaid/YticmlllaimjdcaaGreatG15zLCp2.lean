/- Certificates, printed by gen.py. -/
import Derived.Test.YticmlllaimjdcaaGreatG15zLCp1
set_option linter.unusedVariables false
set_option linter.unusedSimpArgs false
namespace Go.SyP
open Go Go.Sy Go.Proofs
theorem Qbh.Qy {t0:Bool} (a0:List Qm) {r:Bool} (H:Qbh a0=some r):Xz Tryz.prog 3 [] [.d (Qbn t0 a0)] [] (.b r):=by
 refine Xj Tryz.func3 rfl (nt:=42) rfl (lb rfl) fun X hP h0 hX=>?_
 have hT:Xb X.P T:=hP▸tok
 have hf:X.P.funcs[3]? = some Tryz.f3:=hP▸Tryz.func3
 refine qI ?_
 obtain ⟨v1,h1,H⟩:=ibC H
 refine qF hT 8 hP Wih (Jw.Qy (t0:=t0) a0 h1) ?_
 refine qE hT 2 (K3 110 1) ⟨42,[(0,.d (Qbn t0 a0)),(9,.b (!v1))],[]⟩ ?_
 refine qI ?_
 rcases iB H with ⟨c2,H⟩ | ⟨c2,H⟩
 ·refine qB hT 0 (show (!v1)=false by rw [c2];rfl) ?_
  refine qE hT 5 (K3 1110 1) ⟨42,[(0,.d (Qbn t0 a0)),(12,.d (Qbn t0 a0))],[]⟩ ?_
  obtain ⟨v3,h4,H⟩:=ibC H
  refine qI ?_
  refine qF hT 0 hP Qyd (Qt.Qy (t0:=t0) a0 h4) ?_
  refine qE hT 9 (K3 11110 1) ⟨42,[(0,.d (Qbn t0 a0)),(3,.own 0 9 0 v3.1.length),(4,.i v3.2),(17,.d (Qbn t0 a0))],[Qb6 v3.1]⟩ ?_
  obtain ⟨v4,h5,H⟩:=ibC H
  refine Jj (Zk:=[.d (Qbn t0 a0)]) (dst:=some 18) (k':=(K3 11110 2)) [0,3,4,18] [] hP Qyf (Qab.Qy (t0:=t0) a0 h5) (by kernel_rfl) (Jy _) (.cons (Wj _) .nil) (st':=⟨42,[(0,.d (Qbn t0 a0)),(3,.own 0 9 0 v3.1.length),(4,.i v3.2),(18,.own 1 10 0 v4.length)],[Qb6 v3.1,Qh1 v4]⟩) (by kernel_rfl) ?_
  obtain ⟨v5,h6,H⟩:=ibC H
  refine qI ?_
  refine qF hT 0 hP Qye (Qf.Qy (t0:=false) v4 h6) ?_
  refine qE hT 8 (K3 111110 0) ⟨42,[(0,.d (Qbn t0 a0)),(3,.own 0 9 0 v3.1.length),(4,.i v3.2),(5,.own 2 9 0 v5.1.length),(6,.i v5.2)],[Qb6 v3.1,Qh1 v4,Jq v5.1]⟩ ?_
  obtain ⟨v6,h7,H⟩:=ibC H
  have Xy:∀ (Qb4:Bool),(Qbh.j1 Qb4)=some r->AK X 3 ((K3 11111 1)) (Yc X [] (.b r)) ⟨42,[(2,.b Qb4)],[]⟩:=by
   intro Qb4 H
   obtain rfl:=Xr H
   exact Qc0 hf hX h0 (.b Qb4) [] an (.d (.v _))
  refine qI ?_
  refine qF hT 0 hP Qyc (Qu.Qy h7) ?_
  refine qE hT 1 (K3 111110 2) ⟨42,[(0,.d (Qbn t0 a0)),(3,.own 0 9 0 v3.1.length),(4,.i v3.2),(5,.own 2 9 0 v5.1.length),(6,.i v5.2),(23,.b v6)],[Qb6 v3.1,Qh1 v4,Jq v5.1]⟩ ?_
  refine qI ?_
  rcases iB H with ⟨c8,H⟩ | ⟨c8,H⟩
  ·refine qB hT 0 (c8) ?_
   refine qE hT 1 (K3 111110 3) ⟨42,[(0,.d (Qbn t0 a0)),(4,.i v3.2),(5,.own 2 9 0 v5.1.length),(6,.i v5.2),(23,.b true),(24,.own 0 9 0 v3.1.length)],[Qb6 v3.1,Qh1 v4,Jq v5.1]⟩ ?_
   refine Qen 0 (kk:=9) (n:=v3.1.length) (ty:=50) (g:=vec Qc.e Qc.z v3.1) (by kernel_rfl) (st':=⟨42,[(0,.d (Qbn t0 a0)),(4,.i v3.2),(5,.own 2 9 0 v5.1.length),(6,.i v5.2),(23,.b true),(24,.own 0 9 0 v3.1.length)],[Qu7 v3.1,Qh1 v4,Jq v5.1]⟩) (by kernel_rfl) ?_
   obtain ⟨v7,h9,H⟩:=ibC H
   refine qI ?_
   refine qF hT 0 hP Wey (Qcx.Qy v3.1 h9) ?_
   refine qE hT 1 (K3 111110 5) ⟨42,[(0,.d (Qbn t0 a0)),(4,.i v3.2),(6,.i v5.2),(23,.b true),(25,.d (Qdy true v7)),(26,.own 2 9 0 v5.1.length)],[Qu7 v3.1,Qh1 v4,Jq v5.1]⟩ ?_
   obtain ⟨v8,h10,H⟩:=ibC H
   refine qI ?_
   refine qF hT 0 hP Wex (Jf.Qy (t0:=true) (t1:=false) v7 v5.1 h10) ?_
   refine qE hT 2 (K3 111110 8) ⟨42,[(0,.d (Qbn t0 a0)),(4,.i v3.2),(6,.i v5.2),(29,.b v8)],[Qu7 v3.1,Qh1 v4,Jq v5.1]⟩ ?_
   refine qI ?_
   rcases iB H with ⟨c11,H⟩ | ⟨c11,H⟩
   ·refine qB hT 0 (c11) ?_
    refine qE hT 5 (K3 111110 13) ⟨42,[(0,.d (Qbn t0 a0)),(34,.b (v3.2 == v5.2))],[Qu7 v3.1,Qh1 v4,Jq v5.1]⟩ ?_
    by_cases c12:v3.2=v5.2
    ·replace H:=iT c12 H
     rw [eqT c12]
     refine qI ?_
     obtain ⟨v9,h13,H⟩:=ibC H
     refine qF hT 1 hP Wez (Wu.Qy (t0:=t0) a0 h13) ?_
     refine qE hT 1 (K3 111110 16) ⟨42,[(34,.b true),(36,.i v9),(37,.d (Qbn t0 a0))],[Qu7 v3.1,Qh1 v4,Jq v5.1]⟩ ?_
     obtain ⟨v10,h14,H⟩:=ibC H
     refine Jj (Zk:=[.d (Qbn t0 a0)]) (dst:=some 38) (k':=(K3 111110 17)) [34,36,38] [] hP Qyf (Qab.Qy (t0:=t0) a0 h14) (by kernel_rfl) (Jy _) (.cons (Wj _) .nil) (st':=⟨42,[(34,.b true),(36,.i v9),(38,.own 3 10 0 v10.length)],[Qu7 v3.1,Qh1 v4,Jq v5.1,Qh1 v10]⟩) (by kernel_rfl) ?_
     obtain ⟨v11,h15,H⟩:=ibC H
     refine qI ?_
     refine qF hT 0 hP We0 (Wq.Qy (t0:=false) v10 h15) ?_
     exact qC hT 4 _ [] _ h0 (Xy (v9 == v11) H)
    replace H:=iF c12 H
    rw [eqF c12]
    exact Yp hT 9 _ [] _ h0 (Xy false H)
   refine qB hT 0 (Jo c11) ?_
   exact qC hT 14 _ [] _ h0 (Xy false H)
  refine qB hT 0 (Jo c8) ?_
  exact qC hT 20 _ [] _ h0 (Xy false H)
 refine qB hT 0 (show (!v1)=true by rw [Jo c2];rfl) ?_
 refine qE hT 3 (K3 110100 0) ⟨42,[],[]⟩ ?_
 obtain ⟨v2,h3,H⟩:=ibC H
 refine qI ?_
 refine qF hT 0 hP Qyc (Qu.Qy h3) ?_
 obtain rfl:=Xr H
 exact qT hT 2 hf hX h0 [] an (.d (.v _))
end Go.SyP
