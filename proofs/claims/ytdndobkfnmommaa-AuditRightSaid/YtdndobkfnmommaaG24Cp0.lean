/- Certificates, printed by gen.py. -/
import Derived.Test.YtdndobkfnmommaaG24D
import Derived.Test.YtdndobkfnmommaaG24I
import Derived.Test.YtdndobkfnmommaaSyArr
import Derived.Test.YtdndobkfnmommaaSyObj
set_option linter.unusedVariables false
set_option linter.unusedSimpArgs false
namespace Go.SyP
open Go Go.Sy Go.Proofs


theorem slices_IndexFunc_api_Pair.says {t0:Bool} {ff1:FuncId} {cc1:List DV} (a0:List api_Pair) (p1:api_Pair→Option Bool) (he1:Sy.Enters Try.prog ff1) (hp1:∀ (z0:api_Pair) r,p1 z0=some r→Says Try.prog ff1 [] ([.d (eG76 z0)] ++ List.map AV.d cc1) [] (.b r)) {r:Int} (H:slices_IndexFunc_api_Pair a0 p1=some r):Says Try.prog 92 [] [.d (eL76 t0 a0),.d (.fn ff1 cc1)] [] (.i r):=by
 refine says_of Try.func92 rfl (nt:=19) rfl (Nat.le_of_ble_eq_true rfl) fun X hP h0 hX=>?_
 have hT:TabOk X.P T:=hP▸tok
 have hf:X.P.funcs[92]? = some Try.f92:=hP▸Try.func92
 refine goK hT 13 (K92 11010 0) ⟨19,[(0,.d (eL76 t0 a0)),(1,.d (.fn ff1 cc1)),(7,.i (a0.length:Int)),(8,.i 0)],[]⟩ ?_
 have L:∀ n,(∀ (x1_8:Int),iter (slices_IndexFunc_api_Pair.step a0 p1) n (.l1 x1_8)=some r→AK X 92 ((K92 11010 0)) (Back X [] (.i r)) ⟨19,[(0,.d (eL76 t0 a0)),(1,.d (.fn ff1 cc1)),(7,.i (a0.length:Int)),(8,.i x1_8)],[]⟩):=by
  intro n
  induction n with
  | zero=>exact fun _ H=>iter0 H
  | succ n ih=>
   ·intro x1_8 H
    refine goK hT 5 (K92 1101001 0) ⟨19,[(0,.d (eL76 t0 a0)),(1,.d (.fn ff1 cc1)),(7,.i (a0.length:Int)),(8,.i x1_8),(9,.b (decide (x1_8 < (a0.length:Int))))],[]⟩ ?_
    by_cases c1:x1_8 < (a0.length:Int)
    ·replace H:=sT c1 H
     rw [decide_eq_true c1]
     refine goK hT 2 (K92 1101001 1) ⟨19,[(0,.d (eL76 t0 a0)),(1,.d (.fn ff1 cc1)),(7,.i (a0.length:Int)),(8,.i x1_8)],[]⟩ ?_
     refine goK hT 12 (K92 110100110010 3) ⟨19,[(0,.d (eL76 t0 a0)),(1,.d (.fn ff1 cc1)),(5,.i x1_8),(7,.i (a0.length:Int)),(8,.i x1_8),(11,.d (.fn ff1 cc1)),(12,.d (eL76 t0 a0)),(13,.i x1_8)],[]⟩ ?_
     obtain ⟨h2,H⟩:=sC H
     refine ak_idx hT [0,1,5,7,8,11,14] (i:=x1_8) (n:=(a0.length:Int)) h2.1 h2.2 (k':=(K92 110100110010 4)) (st':=⟨19,[(0,.d (eL76 t0 a0)),(1,.d (.fn ff1 cc1)),(5,.i x1_8),(7,.i (a0.length:Int)),(8,.i x1_8),(11,.d (.fn ff1 cc1)),(14,.d (eP76 t0 a0 x1_8.toNat 0))],[]⟩) (by kernel_rfl) ?_
     refine goK hT 1 (K92 110100110010 5) ⟨19,[(0,.d (eL76 t0 a0)),(1,.d (.fn ff1 cc1)),(5,.i x1_8),(7,.i (a0.length:Int)),(8,.i x1_8),(11,.d (.fn ff1 cc1)),(15,.d (eG76 (a0.getD x1_8.toNat api_Pair.z)))],[]⟩ ?_
     obtain ⟨v1,h3,H⟩:=sbC H
     refine ak_callP (avs:=[.d (eG76 (a0.getD x1_8.toNat api_Pair.z))] ++ List.map AV.d cc1) (dst:=some 16) (k':=(K92 110100110010 6)) [0,1,5,7,8,16] [] hP he1 (hp1 (a0.getD x1_8.toNat api_Pair.z) v1 h3) (by kernel_rfl) (hands_none _) (.cons (pass_d _) (passes_d _)) (st':=⟨19,[(0,.d (eL76 t0 a0)),(1,.d (.fn ff1 cc1)),(5,.i x1_8),(7,.i (a0.length:Int)),(8,.i x1_8),(16,.b v1)],[]⟩) (by kernel_rfl) ?_
     refine goK hT 1 (K92 11010011001 1) ⟨19,[(0,.d (eL76 t0 a0)),(1,.d (.fn ff1 cc1)),(5,.i x1_8),(7,.i (a0.length:Int)),(8,.i x1_8),(16,.b v1)],[]⟩ ?_
     by_cases c4:v1=true
     ·replace H:=sT c4 H
      rw [c4]
      refine goK hT 6 (K92 1101001100110 1) ⟨19,[(4,.i x1_8)],[]⟩ ?_
      obtain rfl:=retC H
      exact retK hf hX h0 (.i x1_8) [] (fun _ h=>all_nil h) (.d (.v _))
     ·replace H:=sF c4 H
      rw [boF c4]
      refine goK hT 3 (K92 11010011 1) ⟨19,[(0,.d (eL76 t0 a0)),(1,.d (.fn ff1 cc1)),(7,.i (a0.length:Int)),(8,.i x1_8)],[]⟩ ?_
      refine goK hT 5 (K92 11010 0) ⟨19,[(0,.d (eL76 t0 a0)),(1,.d (.fn ff1 cc1)),(7,.i (a0.length:Int)),(8,.i (IntKind.wrap .i64 (x1_8+1)))],[]⟩ ?_
      exact ih (IntKind.wrap .i64 (x1_8+1)) H
    ·replace H:=sF c1 H
     rw [decide_eq_false c1]
     refine goK hT 6 (K92 111 1) ⟨19,[(4,.i (-1))],[]⟩ ?_
     obtain rfl:=retC H
     exact retK hf hX h0 (.i (-1)) [] (fun _ h=>all_nil h) (.d (.v _))
 obtain ⟨n,H⟩:=loopC H
 exact (L n) 0 H


theorem slices_ContainsFunc_api_Pair.says {t0:Bool} {ff1:FuncId} {cc1:List DV} (a0:List api_Pair) (p1:api_Pair→Option Bool) (he1:Sy.Enters Try.prog ff1) (hp1:∀ (z0:api_Pair) r,p1 z0=some r→Says Try.prog ff1 [] ([.d (eG76 z0)] ++ List.map AV.d cc1) [] (.b r)) {r:Bool} (H:slices_ContainsFunc_api_Pair a0 p1=some r):Says Try.prog 78 [] [.d (eL76 t0 a0),.d (.fn ff1 cc1)] [] (.b r):=by
 refine says_of Try.func78 rfl (nt:=9) rfl (Nat.le_of_ble_eq_true rfl) fun X hP h0 hX=>?_
 have hT:TabOk X.P T:=hP▸tok
 have hf:X.P.funcs[78]? = some Try.f78:=hP▸Try.func78
 refine goK hT 8 (K78 110 2) ⟨9,[(5,.d (eL76 t0 a0)),(6,.d (.fn ff1 cc1))],[]⟩ ?_
 obtain ⟨v1,h1,H⟩:=ibC H
 refine ak_callP (avs:=[.d (eL76 t0 a0),.d (.fn ff1 cc1)]) (dst:=some 7) (k':=(K78 110 3)) [7] [] hP enters_92 (slices_IndexFunc_api_Pair.says (t0:=t0) (ff1:=ff1) (cc1:=cc1) a0 p1 he1 hp1 h1) (by kernel_rfl) (hands_none _) (.cons (pass_d _) (.cons (pass_d _) .nil)) (st':=⟨9,[(7,.i v1)],[]⟩) (by kernel_rfl) ?_
 refine goK hT 3 (K78 11 1) ⟨9,[(4,.b (decide (v1≥0)))],[]⟩ ?_
 obtain rfl:=retC H
 exact retK hf hX h0 (.b (decide (v1≥0))) [] (fun _ h=>all_nil h) (.d (.v _))


theorem mut_value.says (a0:Int):Says Try.prog 62 [] [.i a0] [] (.b (mut_value a0)):=by
 obtain ⟨r,H⟩:∃ r,mut_value a0=r:=⟨_,rfl⟩
 rw [H]
 refine says_of Try.func62 rfl (nt:=9) rfl (Nat.le_of_ble_eq_true rfl) fun X hP h0 hX=>?_
 have hT:TabOk X.P T:=hP▸tok
 have hf:X.P.funcs[62]? = some Try.f62:=hP▸Try.func62
 have Jj1:∀ (y1_2:Bool),(mut_value.j1 y1_2)=r→AK X 62 ((K62 11 1)) (Back X [] (.b r)) ⟨9,[(2,.b y1_2)],[]⟩:=by
  intro y1_2 H
  obtain rfl:=H
  exact retK hf hX h0 (.b y1_2) [] (fun _ h=>all_nil h) (.d (.v _))
 refine goK hT 9 (K62 110 3) ⟨9,[(0,.i a0),(5,.b (decide (a0≥(-1099511627776))))],[]⟩ ?_
 by_cases c1:a0≥(-1099511627776)
 ·replace H:=iT c1 H
  rw [decide_eq_true c1]
  refine goK hT 5 (K62 11 1) ⟨9,[(2,.b (decide (a0≤1099511627776)))],[]⟩ ?_
  exact Jj1 (decide (a0≤1099511627776)) H
 ·replace H:=iF c1 H
  rw [decide_eq_false c1]
  refine goK hT 5 (K62 11 1) ⟨9,[(2,.b false)],[]⟩ ?_
  exact Jj1 false H


theorem mut_pair.says (a0:api_Pair):Says Try.prog 80 [] [.d (eG76 a0)] [] (.b (mut_pair a0)):=by
 obtain ⟨r,H⟩:∃ r,mut_pair a0=r:=⟨_,rfl⟩
 rw [H]
 refine says_of Try.func80 rfl (nt:=16) rfl (Nat.le_of_ble_eq_true rfl) fun X hP h0 hX=>?_
 have hT:TabOk X.P T:=hP▸tok
 have hf:X.P.funcs[80]? = some Try.f80:=hP▸Try.func80
 have Jj1:∀ (y1_2:Bool),(mut_pair.j1 y1_2)=r→AK X 80 ((K80 11 1)) (Back X [] (.b r)) ⟨16,[(2,.b y1_2)],[]⟩:=by
  intro y1_2 H
  obtain rfl:=H
  exact retK hf hX h0 (.b y1_2) [] (fun _ h=>all_nil h) (.d (.v _))
 refine goK hT 11 (K80 110 4) ⟨16,[(1,.ptr 0 0 0 0),(6,.b (decide (a0.Key≥0)))],[.box 76 (eC76 a0)]⟩ ?_
 by_cases c1:a0.Key≥0
 ·replace H:=iT c1 H
  rw [decide_eq_true c1]
  refine goK hT 5 (K80 110 9) ⟨16,[(1,.ptr 0 0 0 0),(11,.b (decide (a0.Key < 4096)))],[.box 76 (eC76 a0)]⟩ ?_
  by_cases c2:a0.Key < 4096
  ·replace H:=iT c2 H
   rw [decide_eq_true c2]
   refine goK hT 2 (K80 110 11) ⟨16,[(11,.b true),(13,.i a0.Val)],[.box 76 (eC76 a0)]⟩ ?_
   refine ak_callP (avs:=[.i a0.Val]) (dst:=some 14) (k':=(K80 110 12)) [11,14] [] hP enters_62 (mut_value.says a0.Val) (by kernel_rfl) (hands_none _) (.cons (pass_d _) .nil) (st':=⟨16,[(11,.b true),(14,.b (mut_value a0.Val))],[.box 76 (eC76 a0)]⟩) (by kernel_rfl) ?_
   refine goCut hT 3 (K80 11 1) [] ⟨16,[(2,.b (mut_value a0.Val))],[]⟩ h0 ?_
   exact Jj1 (mut_value a0.Val) H
  ·replace H:=iF c2 H
   rw [decide_eq_false c2]
   refine goCut hT 6 (K80 11 1) [] ⟨16,[(2,.b false)],[]⟩ h0 ?_
   exact Jj1 false H
 ·replace H:=iF c1 H
  rw [decide_eq_false c1]
  refine goCut hT 11 (K80 11 1) [] ⟨16,[(2,.b false)],[]⟩ h0 ?_
  exact Jj1 false H


theorem mut_pairs_1.says (a0:api_Pair):Says Try.prog 79 [] [.d (eG76 a0)] [] (.b (mut_pairs_1 a0)):=by
 obtain ⟨r,H⟩:∃ r,mut_pairs_1 a0=r:=⟨_,rfl⟩
 rw [H]
 refine says_of Try.func79 rfl (nt:=6) rfl (Nat.le_of_ble_eq_true rfl) fun X hP h0 hX=>?_
 have hT:TabOk X.P T:=hP▸tok
 have hf:X.P.funcs[79]? = some Try.f79:=hP▸Try.func79
 refine goK hT 8 (K79 110 1) ⟨6,[(3,.d (eG76 a0))],[.box 76 (eC76 a0)]⟩ ?_
 refine ak_callP (avs:=[.d (eG76 a0)]) (dst:=some 4) (k':=(K79 110 2)) [4] [] hP enters_80 (mut_pair.says a0) (by kernel_rfl) (hands_none _) (.cons (pass_d _) .nil) (st':=⟨6,[(4,.b (mut_pair a0))],[.box 76 (eC76 a0)]⟩) (by kernel_rfl) ?_
 refine goK hT 3 (K79 11 1) ⟨6,[(2,.b (!(mut_pair a0)))],[.box 76 (eC76 a0)]⟩ ?_
 obtain rfl:=H
 exact retK hf hX h0 (.b (!(mut_pair a0))) [] (fun _ h=>all_nil h) (.d (.v _))


theorem mut_pairs.says (a0:api_Mut) (a1:Int) (a2:Int) {r:Bool} (H:mut_pairs a0 a1 a2=some r):Says Try.prog 59 [] [.d (eG48 a0),.i a1,.i a2] [] (.b r):=by
 refine says_of Try.func59 rfl (nt:=25) rfl (Nat.le_of_ble_eq_true rfl) fun X hP h0 hX=>?_
 have hT:TabOk X.P T:=hP▸tok
 have hf:X.P.funcs[59]? = some Try.f59:=hP▸Try.func59
 have Jj1:∀ (y1_6:Bool),(mut_pairs.j1 y1_6)=some r→AK X 59 ((K59 11 1)) (Back X [] (.b r)) ⟨25,[(6,.b y1_6)],[]⟩:=by
  intro y1_6 H
  obtain rfl:=retC H
  exact retK hf hX h0 (.b y1_6) [] (fun _ h=>all_nil h) (.d (.v _))
 refine goK hT 13 (K59 110 6) ⟨25,[(2,.i a2),(3,.ptr 0 0 0 0),(12,.b (decide ((a0.Pairs.length:Int)≥a1)))],[.box 48 (eC48 a0)]⟩ ?_
 by_cases c1:(a0.Pairs.length:Int)≥a1
 ·replace H:=iT c1 H
  rw [decide_eq_true c1]
  refine goK hT 7 (K59 110 13) ⟨25,[(3,.ptr 0 0 0 0),(19,.b (decide ((a0.Pairs.length:Int)≤a2)))],[.box 48 (eC48 a0)]⟩ ?_
  by_cases c2:(a0.Pairs.length:Int)≤a2
  ·replace H:=iT c2 H
   rw [decide_eq_true c2]
   refine goK hT 2 (K59 110 15) ⟨25,[(19,.b true),(21,.d (eL76 true a0.Pairs))],[.box 48 (eC48 a0)]⟩ ?_
   obtain ⟨v1,h3,H⟩:=ibC H
   refine ak_callP (avs:=[.d (eL76 true a0.Pairs),.d (.fn 79 [])]) (dst:=some 22) (k':=(K59 110 16)) [19,22] [] hP enters_78 (slices_ContainsFunc_api_Pair.says (t0:=true) (ff1:=79) (cc1:=[]) a0.Pairs (fun z0=>some (mut_pairs_1 z0)) enters_79 (fun z0 r h=>by obtain rfl:=retC h;exact mut_pairs_1.says z0) h3) (by kernel_rfl) (hands_none _) (.cons (pass_d _) (.cons (pass_d _) .nil)) (st':=⟨25,[(19,.b true),(22,.b v1)],[.box 48 (eC48 a0)]⟩) (by kernel_rfl) ?_
   refine goCut hT 4 (K59 11 1) [] ⟨25,[(6,.b (!v1))],[]⟩ h0 ?_
   exact Jj1 (!v1) H
  ·replace H:=iF c2 H
   rw [decide_eq_false c2]
   refine goCut hT 7 (K59 11 1) [] ⟨25,[(6,.b false)],[]⟩ h0 ?_
   exact Jj1 false H
 ·replace H:=iF c1 H
  rw [decide_eq_false c1]
  refine goCut hT 14 (K59 11 1) [] ⟨25,[(6,.b false)],[]⟩ h0 ?_
  exact Jj1 false H


theorem mut_rising.says {t0:Bool} (a0:List api_Pair) {r:Bool} (H:mut_rising a0=some r):Says Try.prog 60 [] [.d (eL76 t0 a0)] [] (.b r):=by
 refine says_of Try.func60 rfl (nt:=22) rfl (Nat.le_of_ble_eq_true rfl) fun X hP h0 hX=>?_
 have hT:TabOk X.P T:=hP▸tok
 have hf:X.P.funcs[60]? = some Try.f60:=hP▸Try.func60
 refine goK hT 11 (K60 11010 0) ⟨22,[(0,.d (eL76 t0 a0)),(3,.i 1)],[]⟩ ?_
 have L:∀ n,(∀ (x1_3:Int),iter (mut_rising.step a0) n (.l1 x1_3)=some r→AK X 60 ((K60 11010 0)) (Back X [] (.b r)) ⟨22,[(0,.d (eL76 t0 a0)),(3,.i x1_3)],[]⟩):=by
  intro n
  induction n with
  | zero=>exact fun _ H=>iter0 H
  | succ n ih=>
   ·intro x1_3 H
    refine goK hT 8 (K60 1101000 1) ⟨22,[(0,.d (eL76 t0 a0)),(3,.i x1_3),(7,.b (decide (x1_3 < (a0.length:Int))))],[]⟩ ?_
    by_cases c1:x1_3 < (a0.length:Int)
    ·replace H:=sT c1 H
     rw [decide_eq_true c1]
     refine goK hT 2 (K60 110100 1) ⟨22,[(0,.d (eL76 t0 a0)),(3,.i x1_3)],[]⟩ ?_
     refine goK hT 3 (K60 110100100 0) ⟨22,[(0,.d (eL76 t0 a0)),(3,.i x1_3)],[]⟩ ?_
     obtain ⟨h2,H⟩:=sC H
     obtain ⟨h3,H⟩:=sC H
     refine drawK (hP▸mixed) 12 [0,3] [some (.d (eL76 t0 a0)),some (.i x1_3),some (.i (IntKind.wrap .i64 (x1_3 - 1))),some (.d (eP76 t0 a0 ((IntKind.wrap .i64 (x1_3 - 1)).toNat) 0)),some (.d (eP76 t0 a0 ((IntKind.wrap .i64 (x1_3 - 1)).toNat) 0)),some (.i ((a0.getD ((IntKind.wrap .i64 (x1_3 - 1)).toNat) api_Pair.z).Key)),some (.d (eL76 t0 a0)),some (.i x1_3),some (.d (eP76 t0 a0 x1_3.toNat 0)),some (.d (eP76 t0 a0 x1_3.toNat 0)),some (.i ((a0.getD x1_3.toNat api_Pair.z).Key)),some (.b (decide (((a0.getD ((IntKind.wrap .i64 (x1_3 - 1)).toNat) api_Pair.z).Key)≥((a0.getD x1_3.toNat api_Pair.z).Key))))] (opG (opG (opG (opS (opG (opG (opG (opG (opS (opG (opG (opG op0 hT) hT) hT) (fun R rest h=>ak_idx0 hT (i:=IntKind.wrap .i64 (x1_3 - 1)) (n:=(a0.length:Int)) h2.1 h2.2 (by kernel_rfl) h)) hT) hT) hT) hT) (fun R rest h=>ak_idx0 hT (i:=x1_3) (n:=(a0.length:Int)) h3.1 h3.2 (by kernel_rfl) h)) hT) hT) hT) ?_
     refine goK hT 1 (K60 110100100 1) ⟨22,[(0,.d (eL76 t0 a0)),(3,.i x1_3),(21,.b (decide (((a0.getD ((IntKind.wrap .i64 (x1_3 - 1)).toNat) api_Pair.z).Key)≥((a0.getD x1_3.toNat api_Pair.z).Key))))],[]⟩ ?_
     by_cases c4:((a0.getD ((IntKind.wrap .i64 (x1_3 - 1)).toNat) api_Pair.z).Key)≥((a0.getD x1_3.toNat api_Pair.z).Key)
     ·replace H:=sT c4 H
      rw [decide_eq_true c4]
      refine goK hT 5 (K60 11010010010 1) ⟨22,[(2,.b false)],[]⟩ ?_
      obtain rfl:=retC H
      exact retK hf hX h0 (.b false) [] (fun _ h=>all_nil h) (.d (.v _))
     ·replace H:=sF c4 H
      rw [decide_eq_false c4]
      refine goK hT 3 (K60 1101001 1) ⟨22,[(0,.d (eL76 t0 a0)),(3,.i x1_3)],[]⟩ ?_
      refine goK hT 6 (K60 11010 0) ⟨22,[(0,.d (eL76 t0 a0)),(3,.i (IntKind.wrap .i64 (x1_3+1)))],[]⟩ ?_
      exact ih (IntKind.wrap .i64 (x1_3+1)) H
    ·replace H:=sF c1 H
     rw [decide_eq_false c1]
     refine goK hT 6 (K60 111 1) ⟨22,[(2,.b true)],[]⟩ ?_
     obtain rfl:=retC H
     exact retK hf hX h0 (.b true) [] (fun _ h=>all_nil h) (.d (.v _))
 obtain ⟨n,H⟩:=loopC H
 exact (L n) 1 H


theorem span_One.says (a0:api_Span):Says Try.prog 61 [] [.d (eG46 a0)] [] (.b (span_One a0)):=by
 obtain ⟨r,H⟩:∃ r,span_One a0=r:=⟨_,rfl⟩
 rw [H]
 refine says_of Try.func61 rfl (nt:=18) rfl (Nat.le_of_ble_eq_true rfl) fun X hP h0 hX=>?_
 have hT:TabOk X.P T:=hP▸tok
 have hf:X.P.funcs[61]? = some Try.f61:=hP▸Try.func61
 have Jj1:∀ (y1_2:Bool),(span_One.j1 y1_2)=r→AK X 61 ((K61 11 1)) (Back X [] (.b r)) ⟨18,[(2,.b y1_2)],[]⟩:=by
  intro y1_2 H
  obtain rfl:=H
  exact retK hf hX h0 (.b y1_2) [] (fun _ h=>all_nil h) (.d (.v _))
 refine goK hT 11 (K61 110 4) ⟨18,[(1,.ptr 0 0 0 0),(6,.b (decide (a0.Lo≥0)))],[.box 46 (eC46 a0)]⟩ ?_
 by_cases c1:a0.Lo≥0
 ·replace H:=iT c1 H
  rw [decide_eq_true c1]
  refine goK hT 7 (K61 110 11) ⟨18,[(1,.ptr 0 0 0 0),(13,.b (decide (a0.Lo < a0.Hi)))],[.box 46 (eC46 a0)]⟩ ?_
  by_cases c2:a0.Lo < a0.Hi
  ·replace H:=iT c2 H
   rw [decide_eq_true c2]
   refine goCut hT 6 (K61 11 1) [] ⟨18,[(2,.b (decide (a0.Hi≤4096)))],[]⟩ h0 ?_
   exact Jj1 (decide (a0.Hi≤4096)) H
  ·replace H:=iF c2 H
   rw [decide_eq_false c2]
   refine goCut hT 6 (K61 11 1) [] ⟨18,[(2,.b false)],[]⟩ h0 ?_
   exact Jj1 false H
 ·replace H:=iF c1 H
  rw [decide_eq_false c1]
  refine goCut hT 13 (K61 11 1) [] ⟨18,[(2,.b false)],[]⟩ h0 ?_
  exact Jj1 false H


theorem mut_kind.says (a0:api_Mut) {r:Bool} (H:mut_kind a0=some r):Says Try.prog 45 [] [.d (eG48 a0)] [] (.b r):=by
 refine says_of Try.func45 rfl (nt:=102) rfl (Nat.le_of_ble_eq_true rfl) fun X hP h0 hX=>?_
 have hT:TabOk X.P T:=hP▸tok
 have hf:X.P.funcs[45]? = some Try.f45:=hP▸Try.func45
 have Jj1:∀ (y1_23:Bool),(mut_kind.j1 a0 y1_23)=some r→AK X 45 ((K45 1110 1)) (Back X [] (.b r)) ⟨102,[(1,.ptr 0 0 0 0),(23,.b y1_23)],[.box 48 (eC48 a0)]⟩:=by
  intro y1_23 H
  by_cases c7:y1_23=true
  ·replace H:=iT c7 H
   rw [c7]
   refine goK hT 5 (K45 111010 1) ⟨102,[(2,.b false)],[.box 48 (eC48 a0)]⟩ ?_
   obtain rfl:=retC H
   exact retK hf hX h0 (.b false) [] (fun _ h=>all_nil h) (.d (.v _))
  ·replace H:=iF c7 H
   rw [boF c7]
   refine goK hT 2 (K45 111 1) ⟨102,[(1,.ptr 0 0 0 0)],[.box 48 (eC48 a0)]⟩ ?_
   refine goK hT 12 (K45 1111010 1) ⟨102,[(1,.ptr 0 0 0 0),(25,.i a0.Kind),(26,.b (a0.Kind == 1))],[.box 48 (eC48 a0)]⟩ ?_
   by_cases c8:a0.Kind=1
   ·replace H:=iT c8 H
    rw [eqT c8]
    refine goK hT 4 (K45 1111010100 1) ⟨102,[(1,.ptr 0 0 0 0),(28,.d (eG48 a0))],[.box 48 (eC48 a0)]⟩ ?_
    obtain ⟨v1,h9,H⟩:=ibC H
    have Jj2:∀ (y2_2:Bool),(mut_kind.j2 y2_2)=some r→AK X 45 ((K45 111101010 1)) (Back X [] (.b r)) ⟨102,[(2,.b y2_2)],[]⟩:=by
     intro y2_2 H
     obtain rfl:=retC H
     exact retK hf hX h0 (.b y2_2) [] (fun _ h=>all_nil h) (.d (.v _))
    refine ak_callP (avs:=[.d (eG48 a0),.i 1,.i 8]) (dst:=some 29) (k':=(K45 1111010100 2)) [1,29] [] hP enters_59 (mut_pairs.says a0 1 8 h9) (by kernel_rfl) (hands_none _) (.cons (pass_d _) (.cons (pass_d _) (.cons (pass_d _) .nil))) (st':=⟨102,[(1,.ptr 0 0 0 0),(29,.b v1)],[.box 48 (eC48 a0)]⟩) (by kernel_rfl) ?_
    refine goK hT 1 (K45 1111010100 3) ⟨102,[(1,.ptr 0 0 0 0),(30,.b v1)],[.box 48 (eC48 a0)]⟩ ?_
    by_cases c10:v1=true
    ·replace H:=iT c10 H
     rw [c10]
     refine goK hT 2 (K45 1111010100 5) ⟨102,[(30,.b true),(32,.d (eL76 true a0.Pairs))],[.box 48 (eC48 a0)]⟩ ?_
     obtain ⟨v2,h11,H⟩:=ibC H
     refine ak_callP (avs:=[.d (eL76 true a0.Pairs)]) (dst:=some 33) (k':=(K45 1111010100 6)) [30,33] [] hP enters_60 (mut_rising.says (t0:=true) a0.Pairs h11) (by kernel_rfl) (hands_none _) (.cons (pass_d _) .nil) (st':=⟨102,[(30,.b true),(33,.b v2)],[.box 48 (eC48 a0)]⟩) (by kernel_rfl) ?_
     refine goCut hT 3 (K45 111101010 1) [] ⟨102,[(2,.b v2)],[]⟩ h0 ?_
     exact Jj2 v2 H
    ·replace H:=iF c10 H
     rw [boF c10]
     refine goCut hT 6 (K45 111101010 1) [] ⟨102,[(2,.b false)],[]⟩ h0 ?_
     exact Jj2 false H
   ·replace H:=iF c8 H
    rw [eqF c8]
    refine goK hT 6 (K45 111101011 1) ⟨102,[(1,.ptr 0 0 0 0),(25,.i a0.Kind),(35,.b (a0.Kind == 2))],[.box 48 (eC48 a0)]⟩ ?_
    by_cases c12:a0.Kind=2
    ·replace H:=iT c12 H
     have Jj3:∀ (y3_2:Bool),(mut_kind.j3 y3_2)=some r→AK X 45 ((K45 11110101110 1)) (Back X [] (.b r)) ⟨102,[(2,.b y3_2)],[]⟩:=by
      intro y3_2 H
      obtain rfl:=retC H
      exact retK hf hX h0 (.b y3_2) [] (fun _ h=>all_nil h) (.d (.v _))
     rw [eqT c12]
     refine goK hT 8 (K45 111101011100 5) ⟨102,[(1,.ptr 0 0 0 0),(41,.b ((a0.Pairs.length:Int) == 0))],[.box 48 (eC48 a0)]⟩ ?_
     by_cases c13:(a0.Pairs.length:Int)=0
     ·replace H:=iT c13 H
      rw [eqT c13]
      refine goK hT 2 (K45 111101011100 7) ⟨102,[(41,.b true),(43,.d (eG46 a0.Over))],[.box 48 (eC48 a0)]⟩ ?_
      refine ak_callP (avs:=[.d (eG46 a0.Over)]) (dst:=some 44) (k':=(K45 111101011100 8)) [41,44] [] hP enters_61 (span_One.says a0.Over) (by kernel_rfl) (hands_none _) (.cons (pass_d _) .nil) (st':=⟨102,[(41,.b true),(44,.b (span_One a0.Over))],[.box 48 (eC48 a0)]⟩) (by kernel_rfl) ?_
      refine goCut hT 3 (K45 11110101110 1) [] ⟨102,[(2,.b (span_One a0.Over))],[]⟩ h0 ?_
      exact Jj3 (span_One a0.Over) H
     ·replace H:=iF c13 H
      rw [eqF c13]
      refine goCut hT 6 (K45 11110101110 1) [] ⟨102,[(2,.b false)],[]⟩ h0 ?_
      exact Jj3 false H
    ·replace H:=iF c12 H
     rw [eqF c12]
     refine goK hT 6 (K45 11110101111 1) ⟨102,[(1,.ptr 0 0 0 0),(25,.i a0.Kind),(46,.b (a0.Kind == 3))],[.box 48 (eC48 a0)]⟩ ?_
     by_cases c14:a0.Kind=3
     ·replace H:=iT c14 H
      rw [eqT c14]
      refine goK hT 4 (K45 11110101111100 1) ⟨102,[(48,.d (eG48 a0))],[.box 48 (eC48 a0)]⟩ ?_
      obtain ⟨v3,h15,H⟩:=ibC H
      refine ak_callP (avs:=[.d (eG48 a0),.i 1,.i 1]) (dst:=some 49) (k':=(K45 11110101111100 2)) [49] [] hP enters_59 (mut_pairs.says a0 1 1 h15) (by kernel_rfl) (hands_none _) (.cons (pass_d _) (.cons (pass_d _) (.cons (pass_d _) .nil))) (st':=⟨102,[(49,.b v3)],[.box 48 (eC48 a0)]⟩) (by kernel_rfl) ?_
      refine goK hT 2 (K45 1111010111110 1) ⟨102,[(2,.b v3)],[.box 48 (eC48 a0)]⟩ ?_
      obtain rfl:=retC H
      exact retK hf hX h0 (.b v3) [] (fun _ h=>all_nil h) (.d (.v _))
     ·replace H:=iF c14 H
      rw [eqF c14]
      refine goK hT 6 (K45 1111010111111 1) ⟨102,[(1,.ptr 0 0 0 0),(25,.i a0.Kind),(50,.b (a0.Kind == 4))],[.box 48 (eC48 a0)]⟩ ?_
      by_cases c16:a0.Kind=4
      ·replace H:=iT c16 H
       rw [eqT c16]
       refine goK hT 4 (K45 1111010111111100 1) ⟨102,[(1,.ptr 0 0 0 0),(52,.d (eG48 a0))],[.box 48 (eC48 a0)]⟩ ?_
       obtain ⟨v4,h17,H⟩:=ibC H
       have Jj4:∀ (y4_2:Bool),(mut_kind.j4 y4_2)=some r→AK X 45 ((K45 111101011111110 1)) (Back X [] (.b r)) ⟨102,[(2,.b y4_2)],[]⟩:=by
        intro y4_2 H
        obtain rfl:=retC H
        exact retK hf hX h0 (.b y4_2) [] (fun _ h=>all_nil h) (.d (.v _))
       refine ak_callP (avs:=[.d (eG48 a0),.i 1,.i 1]) (dst:=some 53) (k':=(K45 1111010111111100 2)) [1,53] [] hP enters_59 (mut_pairs.says a0 1 1 h17) (by kernel_rfl) (hands_none _) (.cons (pass_d _) (.cons (pass_d _) (.cons (pass_d _) .nil))) (st':=⟨102,[(1,.ptr 0 0 0 0),(53,.b v4)],[.box 48 (eC48 a0)]⟩) (by kernel_rfl) ?_
       refine goK hT 1 (K45 1111010111111100 3) ⟨102,[(1,.ptr 0 0 0 0),(54,.b v4)],[.box 48 (eC48 a0)]⟩ ?_
       by_cases c18:v4=true
       ·replace H:=iT c18 H
        rw [c18]
        refine goK hT 2 (K45 1111010111111100 5) ⟨102,[(1,.ptr 0 0 0 0),(54,.b true),(56,.i a0.Old)],[.box 48 (eC48 a0)]⟩ ?_
        refine ak_callP (avs:=[.i a0.Old]) (dst:=some 57) (k':=(K45 1111010111111100 6)) [1,54,57] [] hP enters_62 (mut_value.says a0.Old) (by kernel_rfl) (hands_none _) (.cons (pass_d _) .nil) (st':=⟨102,[(1,.ptr 0 0 0 0),(54,.b true),(57,.b (mut_value a0.Old))],[.box 48 (eC48 a0)]⟩) (by kernel_rfl) ?_
        refine goK hT 1 (K45 1111010111111100 7) ⟨102,[(1,.ptr 0 0 0 0),(54,.b true),(58,.b (mut_value a0.Old))],[.box 48 (eC48 a0)]⟩ ?_
        by_cases c19:(mut_value a0.Old)=true
        ·replace H:=iT c19 H
         rw [c19]
         refine goCut hT 7 (K45 111101011111110 1) [] ⟨102,[(2,.b true)],[]⟩ h0 ?_
         exact Jj4 true H
        ·replace H:=iF c19 H
         rw [boF c19]
         refine goCut hT 7 (K45 111101011111110 1) [] ⟨102,[(2,.b (a0.Old == 1099511627777))],[]⟩ h0 ?_
         exact Jj4 (a0.Old == 1099511627777) H
       ·replace H:=iF c18 H
        rw [boF c18]
        refine goCut hT 11 (K45 111101011111110 1) [] ⟨102,[(2,.b false)],[]⟩ h0 ?_
        exact Jj4 false H
      ·replace H:=iF c16 H
       rw [eqF c16]
       refine goK hT 6 (K45 111101011111111 1) ⟨102,[(1,.ptr 0 0 0 0),(64,.b (a0.Kind == 5))],[.box 48 (eC48 a0)]⟩ ?_
       by_cases c20:a0.Kind=5
       ·replace H:=iT c20 H
        rw [eqT c20]
        refine goK hT 2 (K45 11110101111111110 0) ⟨102,[(1,.ptr 0 0 0 0)],[.box 48 (eC48 a0)]⟩ ?_
        obtain ⟨v5,h21,H⟩:=ibC H
        have Jj5:∀ (y5_2:Bool),(mut_kind.j5 y5_2)=some r→AK X 45 ((K45 11110101111111110 1)) (Back X [] (.b r)) ⟨102,[(2,.b y5_2)],[]⟩:=by
         intro y5_2 H
         obtain rfl:=retC H
         exact retK hf hX h0 (.b y5_2) [] (fun _ h=>all_nil h) (.d (.v _))
        by_cases c22:v5=true
        ·replace H:=iT c22 H
         obtain ⟨h23,H⟩:=iC H
         obtain ⟨h24,H⟩:=iC H
         by_cases c25:((a0.Pairs.getD 0 api_Pair.z).Key)=((a0.Pairs.getD 1 api_Pair.z).Key)
         ·replace H:=iT c25 H
          refine drawK (hP▸mixed) 26 [1] [some (.d (eG48 a0)),some (.b true),some (.b true),some (.ptr 0 0 0 3),some (.d (eL76 true a0.Pairs)),some (.d (eP76 true a0.Pairs 0 0)),some (.d (eP76 true a0.Pairs 0 0)),some (.i ((a0.Pairs.getD 0 api_Pair.z).Key)),some (.ptr 0 0 0 3),some (.d (eL76 true a0.Pairs)),some (.d (eP76 true a0.Pairs 1 0)),some (.d (eP76 true a0.Pairs 1 0)),some (.i ((a0.Pairs.getD 1 api_Pair.z).Key)),some (.b false),some (.b false),some (.b false),some (.tup []),some (.tup []),some (.tup []),some (.tup []),some (.tup []),some (.tup []),some (.tup []),some (.tup []),some (.tup []),some (.tup [])] (opG (opG (opG (opG (opG (opG (opG (opG (opG (opG (opG (opG (opV (opG (opG (opS (opG (opG (opG (opG (opS (opG (opG (opG (opS (opG op0 hT) (fun R rest h=>ak_callD (avs:=[.d (eG48 a0),.i 2,.i 2]) (dst:=some 67) hP enters_59 (by have q:=mut_pairs.says a0 2 2 h21;rw [c22] at q;exact q) (by kernel_rfl) (.cons (pass_d _) (.cons (pass_d _) (.cons (pass_d _) .nil))) (by kernel_rfl) h)) hT) hT) hT) (fun R rest h=>ak_idx0 hT (i:=0) (n:=(a0.Pairs.length:Int)) h23.1 h23.2 (by kernel_rfl) h)) hT) hT) hT) hT) (fun R rest h=>ak_idx0 hT (i:=1) (n:=(a0.Pairs.length:Int)) h24.1 h24.2 (by kernel_rfl) h)) hT) hT) hT 79 (.b (((a0.Pairs.getD 0 api_Pair.z).Key) != ((a0.Pairs.getD 1 api_Pair.z).Key))) (.b false) (by rw [neF c25]<;>rfl)) hT) hT) hT) hT) hT) hT) hT) hT) hT) hT) hT) hT) ?_
          refine goCut hT 12 (K45 11110101111111110 1) [] ⟨102,[(2,.b false)],[]⟩ h0 ?_
          exact Jj5 false H
         ·replace H:=iF c25 H
          refine drawK (hP▸mixed) 26 [1] [some (.d (eG48 a0)),some (.b true),some (.b true),some (.ptr 0 0 0 3),some (.d (eL76 true a0.Pairs)),some (.d (eP76 true a0.Pairs 0 0)),some (.d (eP76 true a0.Pairs 0 0)),some (.i ((a0.Pairs.getD 0 api_Pair.z).Key)),some (.ptr 0 0 0 3),some (.d (eL76 true a0.Pairs)),some (.d (eP76 true a0.Pairs 1 0)),some (.d (eP76 true a0.Pairs 1 0)),some (.i ((a0.Pairs.getD 1 api_Pair.z).Key)),some (.b true),some (.b true),some (.b true),some (.ptr 0 0 0 3),some (.d (eL76 true a0.Pairs)),some (.d (eP76 true a0.Pairs 0 0)),some (.d (eP76 true a0.Pairs 0 1)),some (.i ((a0.Pairs.getD 0 api_Pair.z).Val)),some (.ptr 0 0 0 3),some (.d (eL76 true a0.Pairs)),some (.d (eP76 true a0.Pairs 1 0)),some (.d (eP76 true a0.Pairs 1 1)),some (.i ((a0.Pairs.getD 1 api_Pair.z).Val))] (opG (opG (opS (opG (opG (opG (opG (opS (opG (opG (opG (opG (opV (opG (opG (opS (opG (opG (opG (opG (opS (opG (opG (opG (opS (opG op0 hT) (fun R rest h=>ak_callD (avs:=[.d (eG48 a0),.i 2,.i 2]) (dst:=some 67) hP enters_59 (by have q:=mut_pairs.says a0 2 2 h21;rw [c22] at q;exact q) (by kernel_rfl) (.cons (pass_d _) (.cons (pass_d _) (.cons (pass_d _) .nil))) (by kernel_rfl) h)) hT) hT) hT) (fun R rest h=>ak_idx0 hT (i:=0) (n:=(a0.Pairs.length:Int)) h23.1 h23.2 (by kernel_rfl) h)) hT) hT) hT) hT) (fun R rest h=>ak_idx0 hT (i:=1) (n:=(a0.Pairs.length:Int)) h24.1 h24.2 (by kernel_rfl) h)) hT) hT) hT 79 (.b (((a0.Pairs.getD 0 api_Pair.z).Key) != ((a0.Pairs.getD 1 api_Pair.z).Key))) (.b true) (by rw [neT c25]<;>rfl)) hT) hT) hT) hT) (fun R rest h=>ak_idx0 hT (i:=0) (n:=(a0.Pairs.length:Int)) h23.1 h23.2 (by kernel_rfl) h)) hT) hT) hT) hT) (fun R rest h=>ak_idx0 hT (i:=1) (n:=(a0.Pairs.length:Int)) h24.1 h24.2 (by kernel_rfl) h)) hT) hT) ?_
          refine goK hT 3 (K45 111101011111111100 29) ⟨102,[(1,.ptr 0 0 0 0),(94,.b (((a0.Pairs.getD 0 api_Pair.z).Val) == ((a0.Pairs.getD 1 api_Pair.z).Val)))],[.box 48 (eC48 a0)]⟩ ?_
          by_cases c26:((a0.Pairs.getD 0 api_Pair.z).Val)=((a0.Pairs.getD 1 api_Pair.z).Val)
          ·replace H:=iT c26 H
           rw [eqT c26]
           refine goK hT 2 (K45 111101011111111100 31) ⟨102,[(94,.b true),(96,.d (eL76 true a0.Pairs))],[.box 48 (eC48 a0)]⟩ ?_
           refine ak_idx hT [94,97] (i:=0) (n:=(a0.Pairs.length:Int)) h23.1 h23.2 (k':=(K45 111101011111111100 32)) (st':=⟨102,[(94,.b true),(97,.d (eP76 true a0.Pairs 0 0))],[.box 48 (eC48 a0)]⟩) (by kernel_rfl) ?_
           refine goCut hT 6 (K45 11110101111111110 1) [] ⟨102,[(2,.b (decide (((a0.Pairs.getD 0 api_Pair.z).Val)≥0)))],[]⟩ h0 ?_
           exact Jj5 (decide (((a0.Pairs.getD 0 api_Pair.z).Val)≥0)) H
          ·replace H:=iF c26 H
           rw [eqF c26]
           refine goCut hT 9 (K45 11110101111111110 1) [] ⟨102,[(2,.b false)],[]⟩ h0 ?_
           exact Jj5 false H
        ·replace H:=iF c22 H
         refine drawK (hP▸mixed) 26 [1] [some (.d (eG48 a0)),some (.b false),some (.b false),some (.tup []),some (.tup []),some (.tup []),some (.tup []),some (.tup []),some (.tup []),some (.tup []),some (.tup []),some (.tup []),some (.tup []),some (.tup []),some (.b false),some (.b false),some (.tup []),some (.tup []),some (.tup []),some (.tup []),some (.tup []),some (.tup []),some (.tup []),some (.tup []),some (.tup []),some (.tup [])] (opG (opG (opG (opG (opG (opG (opG (opG (opG (opG (opG (opG (opG (opG (opG (opG (opG (opG (opG (opG (opG (opG (opG (opG (opS (opG op0 hT) (fun R rest h=>ak_callD (avs:=[.d (eG48 a0),.i 2,.i 2]) (dst:=some 67) hP enters_59 (by have q:=mut_pairs.says a0 2 2 h21;rw [boF c22] at q;exact q) (by kernel_rfl) (.cons (pass_d _) (.cons (pass_d _) (.cons (pass_d _) .nil))) (by kernel_rfl) h)) hT) hT) hT) hT) hT) hT) hT) hT) hT) hT) hT) hT) hT) hT) hT) hT) hT) hT) hT) hT) hT) hT) hT) hT) ?_
         refine goCut hT 12 (K45 11110101111111110 1) [] ⟨102,[(2,.b false)],[]⟩ h0 ?_
         exact Jj5 false H
       ·replace H:=iF c20 H
        rw [eqF c20]
        refine goK hT 3 (K45 1111 1) ⟨102,[],[.box 48 (eC48 a0)]⟩ ?_
        refine goK hT 4 (K45 11111 1) ⟨102,[(2,.b false)],[.box 48 (eC48 a0)]⟩ ?_
        obtain rfl:=retC H
        exact retK hf hX h0 (.b false) [] (fun _ h=>all_nil h) (.d (.v _))
 refine goK hT 18 (K45 11100 4) ⟨102,[(1,.ptr 0 0 0 0),(3,.ptr 1 0 0 0),(8,.b (a0.Kind != 2))],[.box 48 (eC48 a0),.box 46 [.i 0,.i 0]]⟩ ?_
 by_cases c1:a0.Kind=2
 ·replace H:=iT c1 H
  rw [neF c1]
  refine goK hT 10 (K45 11100 14) ⟨102,[(1,.ptr 0 0 0 0),(14,.b false),(18,.b (a0.Kind != 4))],[.box 48 (eC48 a0),.box 46 [.i 0,.i 0]]⟩ ?_
  by_cases c2:a0.Kind=4
  ·replace H:=iT c2 H
   rw [neF c2]
   refine goCut hT 6 (K45 1110 1) [0] ⟨102,[(1,.ptr 0 0 0 0),(23,.b false)],[.box 48 (eC48 a0)]⟩ h0 ?_
   exact Jj1 false H
  ·replace H:=iF c2 H
   rw [neT c2]
   refine goCut hT 6 (K45 1110 1) [0] ⟨102,[(1,.ptr 0 0 0 0),(23,.b (a0.Old != 0))],[.box 48 (eC48 a0)]⟩ h0 ?_
   exact Jj1 (a0.Old != 0) H
 ·replace H:=iF c1 H
  rw [neT c1]
  refine goK hT 6 (K45 11100 10) ⟨102,[(1,.ptr 0 0 0 0),(14,.b (!((a0.Over.Lo == 0) && (a0.Over.Hi == 0))))],[.box 48 (eC48 a0),.box 46 [.i 0,.i 0]]⟩ ?_
  by_cases c3:a0.Over.Lo=0
  ·replace H:=iT c3 H
   rw [eqT c3]
   by_cases c4:a0.Over.Hi=0
   ·replace H:=iT c4 H
    rw [eqT c4]
    refine goK hT 4 (K45 11100 14) ⟨102,[(1,.ptr 0 0 0 0),(14,.b false),(18,.b (a0.Kind != 4))],[.box 48 (eC48 a0),.box 46 [.i 0,.i 0]]⟩ ?_
    by_cases c5:a0.Kind=4
    ·replace H:=iT c5 H
     rw [neF c5]
     refine goCut hT 6 (K45 1110 1) [0] ⟨102,[(1,.ptr 0 0 0 0),(23,.b false)],[.box 48 (eC48 a0)]⟩ h0 ?_
     exact Jj1 false H
    ·replace H:=iF c5 H
     rw [neT c5]
     refine goCut hT 6 (K45 1110 1) [0] ⟨102,[(1,.ptr 0 0 0 0),(23,.b (a0.Old != 0))],[.box 48 (eC48 a0)]⟩ h0 ?_
     exact Jj1 (a0.Old != 0) H
   ·replace H:=iF c4 H
    rw [eqF c4]
    refine goCut hT 10 (K45 1110 1) [0] ⟨102,[(1,.ptr 0 0 0 0),(23,.b true)],[.box 48 (eC48 a0)]⟩ h0 ?_
    exact Jj1 true H
  ·replace H:=iF c3 H
   rw [eqF c3]
   by_cases c6:a0.Over.Hi=0
   ·replace H:=iT c6 H
    rw [eqT c6]
    refine goCut hT 10 (K45 1110 1) [0] ⟨102,[(1,.ptr 0 0 0 0),(23,.b true)],[.box 48 (eC48 a0)]⟩ h0 ?_
    exact Jj1 true H
   ·replace H:=iF c6 H
    rw [eqF c6]
    refine goCut hT 10 (K45 1110 1) [0] ⟨102,[(1,.ptr 0 0 0 0),(23,.b true)],[.box 48 (eC48 a0)]⟩ h0 ?_
    exact Jj1 true H


theorem mut_Check.says (a0:api_Mut) {r:Bool} (H:mut_Check a0=some r):Says Try.prog 25 [] [.d (eG48 a0)] [] (.b r):=by
 refine says_of Try.func25 rfl (nt:=25) rfl (Nat.le_of_ble_eq_true rfl) fun X hP h0 hX=>?_
 have hT:TabOk X.P T:=hP▸tok
 have hf:X.P.funcs[25]? = some Try.f25:=hP▸Try.func25
 have Jj1:∀ (y1_2:Bool),(mut_Check.j1 y1_2)=some r→AK X 25 ((K25 11 1)) (Back X [] (.b r)) ⟨25,[(2,.b y1_2)],[]⟩:=by
  intro y1_2 H
  obtain rfl:=retC H
  exact retK hf hX h0 (.b y1_2) [] (fun _ h=>all_nil h) (.d (.v _))
 refine goK hT 11 (K25 110 4) ⟨25,[(1,.ptr 0 0 0 0),(6,.b (decide (a0.Client≥1)))],[.box 48 (eC48 a0)]⟩ ?_
 by_cases c1:a0.Client≥1
 ·replace H:=iT c1 H
  rw [decide_eq_true c1]
  refine goK hT 5 (K25 110 9) ⟨25,[(1,.ptr 0 0 0 0),(11,.b (decide (a0.Client≤1048576)))],[.box 48 (eC48 a0)]⟩ ?_
  by_cases c2:a0.Client≤1048576
  ·replace H:=iT c2 H
   rw [decide_eq_true c2]
   refine goK hT 5 (K25 110 14) ⟨25,[(1,.ptr 0 0 0 0),(16,.b (decide (a0.Seq≥1)))],[.box 48 (eC48 a0)]⟩ ?_
   by_cases c3:a0.Seq≥1
   ·replace H:=iT c3 H
    rw [decide_eq_true c3]
    refine goK hT 5 (K25 110 19) ⟨25,[(1,.ptr 0 0 0 0),(21,.b (decide (a0.Seq≤1073741824)))],[.box 48 (eC48 a0)]⟩ ?_
    by_cases c4:a0.Seq≤1073741824
    ·replace H:=iT c4 H
     rw [decide_eq_true c4]
     refine goK hT 1 (K25 110 20) ⟨25,[(21,.b true),(22,.d (eG48 a0))],[.box 48 (eC48 a0)]⟩ ?_
     obtain ⟨v1,h5,H⟩:=ibC H
     refine ak_callP (avs:=[.d (eG48 a0)]) (dst:=some 23) (k':=(K25 110 21)) [21,23] [] hP enters_45 (mut_kind.says a0 h5) (by kernel_rfl) (hands_none _) (.cons (pass_d _) .nil) (st':=⟨25,[(21,.b true),(23,.b v1)],[.box 48 (eC48 a0)]⟩) (by kernel_rfl) ?_
     refine goCut hT 3 (K25 11 1) [] ⟨25,[(2,.b v1)],[]⟩ h0 ?_
     exact Jj1 v1 H
    ·replace H:=iF c4 H
     rw [decide_eq_false c4]
     refine goCut hT 5 (K25 11 1) [] ⟨25,[(2,.b false)],[]⟩ h0 ?_
     exact Jj1 false H
   ·replace H:=iF c3 H
    rw [decide_eq_false c3]
    refine goCut hT 10 (K25 11 1) [] ⟨25,[(2,.b false)],[]⟩ h0 ?_
    exact Jj1 false H
  ·replace H:=iF c2 H
   rw [decide_eq_false c2]
   refine goCut hT 15 (K25 11 1) [] ⟨25,[(2,.b false)],[]⟩ h0 ?_
   exact Jj1 false H
 ·replace H:=iF c1 H
  rw [decide_eq_false c1]
  refine goCut hT 20 (K25 11 1) [] ⟨25,[(2,.b false)],[]⟩ h0 ?_
  exact Jj1 false H


theorem mut_Stamp.says (a0:Int) (a1:api_Mut):Says Try.prog 48 [] [.i a0,.d (eG48 a1)] [] (.d (eG95 (mut_Stamp a0 a1))):=by
 obtain ⟨r,H⟩:∃ r,mut_Stamp a0 a1=r:=⟨_,rfl⟩
 rw [H]
 refine says_of Try.func48 rfl (nt:=11) rfl (Nat.le_of_ble_eq_true rfl) fun X hP h0 hX=>?_
 have hT:TabOk X.P T:=hP▸tok
 have hf:X.P.funcs[48]? = some Try.f48:=hP▸Try.func48
 refine goK hT 15 (K48 11 1) ⟨11,[(4,.ptr 1 0 0 0)],[.box 48 (eC48 a1),.box 95 [.i a0,.i a1.Client,.i a1.Seq]]⟩ ?_
 obtain rfl:=H
 exact ak_retM hT hf hX (av:=.d (.agg [.i a0,.i a1.Client,.i a1.Seq])) (by kernel_rfl) [] (sel_of_eq (by kernel_rfl)) (by decide) (by rw [h0];rfl) (by kernel_rfl) (fun _ h=>all_nil h) (.d (.agg (api_Stamp.nl _)))


theorem audit_stamp.says (a0:api_Entry):Says Try.prog 27 [] [.d (eG74 a0)] [] (.d (eG95 (audit_stamp a0))):=by
 obtain ⟨r,H⟩:∃ r,audit_stamp a0=r:=⟨_,rfl⟩
 rw [H]
 refine says_of Try.func27 rfl (nt:=8) rfl (Nat.le_of_ble_eq_true rfl) fun X hP h0 hX=>?_
 have hT:TabOk X.P T:=hP▸tok
 have hf:X.P.funcs[27]? = some Try.f27:=hP▸Try.func27
 refine goK hT 11 (K27 110 4) ⟨8,[(2,.ptr 1 0 0 0),(4,.i a0.Time),(6,.d (eG48 a0.M))],[.box 74 (eC74 a0),.box 95 [.i 0,.i 0,.i 0]]⟩ ?_
 refine ak_callP (avs:=[.i a0.Time,.d (eG48 a0.M)]) (dst:=some 7) (k':=(K27 110 5)) [2,7] [] hP enters_48 (mut_Stamp.says a0.Time a0.M) (by kernel_rfl) (hands_none _) (.cons (pass_d _) (.cons (pass_d _) .nil)) (st':=⟨8,[(2,.ptr 1 0 0 0),(7,.d (eG95 (mut_Stamp a0.Time a0.M)))],[.box 74 (eC74 a0),.box 95 [.i 0,.i 0,.i 0]]⟩) (by kernel_rfl) ?_
 obtain ⟨v1,h1,H⟩:=idC H
 rw [← h1]
 refine goK hT 2 (K27 11 1) ⟨8,[(2,.ptr 1 0 0 0)],[.box 74 (eC74 a0),.box 95 (eC95 v1)]⟩ ?_
 obtain rfl:=H
 exact ak_retM hT hf hX (av:=.d (eG95 v1)) (by kernel_rfl) [] (sel_of_eq (by kernel_rfl)) (by decide) (by rw [h0];rfl) (by kernel_rfl) (fun _ h=>all_nil h) (.d (.agg (api_Stamp.nl _)))


theorem cmp_isNaN_int.says (a0:Int):Says Try.prog 63 [] [.i a0] [] (.b (cmp_isNaN_int a0)):=by
 obtain ⟨r,H⟩:∃ r,cmp_isNaN_int a0=r:=⟨_,rfl⟩
 rw [H]
 refine says_of Try.func63 rfl (nt:=6) rfl (Nat.le_of_ble_eq_true rfl) fun X hP h0 hX=>?_
 have hT:TabOk X.P T:=hP▸tok
 have hf:X.P.funcs[63]? = some Try.f63:=hP▸Try.func63
 refine goK hT 11 (K63 11 1) ⟨6,[(2,.b (a0 != a0))],[]⟩ ?_
 obtain rfl:=H
 exact retK hf hX h0 (.b (a0 != a0)) [] (fun _ h=>all_nil h) (.d (.v _))


theorem cmp_Compare_int.says (a0:Int) (a1:Int):Says Try.prog 47 [] [.i a0,.i a1] [] (.i (cmp_Compare_int a0 a1)):=by
 obtain ⟨r,H⟩:∃ r,cmp_Compare_int a0 a1=r:=⟨_,rfl⟩
 rw [H]
 refine says_of Try.func47 rfl (nt:=20) rfl (Nat.le_of_ble_eq_true rfl) fun X hP h0 hX=>?_
 have hT:TabOk X.P T:=hP▸tok
 have hf:X.P.funcs[47]? = some Try.f47:=hP▸Try.func47
 refine goK hT 7 (K47 110 1) ⟨20,[(0,.i a0),(1,.i a1),(7,.i a0)],[]⟩ ?_
 refine ak_callP (avs:=[.i a0]) (dst:=some 8) (k':=(K47 110 2)) [0,1,8] [] hP enters_63 (cmp_isNaN_int.says a0) (by kernel_rfl) (hands_none _) (.cons (pass_d _) .nil) (st':=⟨20,[(0,.i a0),(1,.i a1),(8,.b (cmp_isNaN_int a0))],[]⟩) (by kernel_rfl) ?_
 refine goK hT 5 (K47 1110 1) ⟨20,[(0,.i a0),(1,.i a1),(5,.b (cmp_isNaN_int a0)),(9,.i a1)],[]⟩ ?_
 refine ak_callP (avs:=[.i a1]) (dst:=some 10) (k':=(K47 1110 2)) [0,1,5,10] [] hP enters_63 (cmp_isNaN_int.says a1) (by kernel_rfl) (hands_none _) (.cons (pass_d _) .nil) (st':=⟨20,[(0,.i a0),(1,.i a1),(5,.b (cmp_isNaN_int a0)),(10,.b (cmp_isNaN_int a1))],[]⟩) (by kernel_rfl) ?_
 refine goK hT 7 (K47 11110 1) ⟨20,[(0,.i a0),(1,.i a1),(6,.b (cmp_isNaN_int a1)),(11,.b (cmp_isNaN_int a0))],[]⟩ ?_
 by_cases c1:(cmp_isNaN_int a0)=true
 ·replace H:=iT c1 H
  rw [c1]
  refine goK hT 6 (K47 11110100 1) ⟨20,[(12,.b (cmp_isNaN_int a1))],[]⟩ ?_
  by_cases c2:(cmp_isNaN_int a1)=true
  ·replace H:=iT c2 H
   rw [c2]
   refine goK hT 5 (K47 1111010010 1) ⟨20,[(4,.i 0)],[]⟩ ?_
   obtain rfl:=H
   exact retK hf hX h0 (.i 0) [] (fun _ h=>all_nil h) (.d (.v _))
  ·replace H:=iF c2 H
   rw [boF c2]
   refine goK hT 2 (K47 1111010 1) ⟨20,[],[]⟩ ?_
   refine goK hT 4 (K47 11110101 1) ⟨20,[(4,.i (-1))],[]⟩ ?_
   obtain rfl:=H
   exact retK hf hX h0 (.i (-1)) [] (fun _ h=>all_nil h) (.d (.v _))
 ·replace H:=iF c1 H
  rw [boF c1]
  refine goK hT 2 (K47 1111 1) ⟨20,[(0,.i a0),(1,.i a1),(6,.b (cmp_isNaN_int a1))],[]⟩ ?_
  refine goK hT 5 (K47 111110 1) ⟨20,[(0,.i a0),(1,.i a1),(13,.b (cmp_isNaN_int a1))],[]⟩ ?_
  by_cases c3:(cmp_isNaN_int a1)=true
  ·replace H:=iT c3 H
   rw [c3]
   refine goK hT 5 (K47 11111010 1) ⟨20,[(4,.i 1)],[]⟩ ?_
   obtain rfl:=H
   exact retK hf hX h0 (.i 1) [] (fun _ h=>all_nil h) (.d (.v _))
  ·replace H:=iF c3 H
   rw [boF c3]
   refine goK hT 2 (K47 11111 1) ⟨20,[(0,.i a0),(1,.i a1)],[]⟩ ?_
   refine goK hT 7 (K47 1111110 1) ⟨20,[(0,.i a0),(1,.i a1),(16,.b (decide (a0 < a1)))],[]⟩ ?_
   by_cases c4:a0 < a1
   ·replace H:=iT c4 H
    rw [decide_eq_true c4]
    refine goK hT 5 (K47 111111010 1) ⟨20,[(4,.i (-1))],[]⟩ ?_
    obtain rfl:=H
    exact retK hf hX h0 (.i (-1)) [] (fun _ h=>all_nil h) (.d (.v _))
   ·replace H:=iF c4 H
    rw [decide_eq_false c4]
    refine goK hT 2 (K47 111111 1) ⟨20,[(0,.i a0),(1,.i a1)],[]⟩ ?_
    refine goK hT 7 (K47 11111110 1) ⟨20,[(19,.b (decide (a0 > a1)))],[]⟩ ?_
    by_cases c5:a0 > a1
    ·replace H:=iT c5 H
     rw [decide_eq_true c5]
     refine goK hT 5 (K47 1111111010 1) ⟨20,[(4,.i 1)],[]⟩ ?_
     obtain rfl:=H
     exact retK hf hX h0 (.i 1) [] (fun _ h=>all_nil h) (.d (.v _))
    ·replace H:=iF c5 H
     rw [decide_eq_false c5]
     refine goK hT 2 (K47 1111111 1) ⟨20,[],[]⟩ ?_
     refine goK hT 4 (K47 11111111 1) ⟨20,[(4,.i 0)],[]⟩ ?_
     obtain rfl:=H
     exact retK hf hX h0 (.i 0) [] (fun _ h=>all_nil h) (.d (.v _))


theorem cmp_Or_int.says {t0:Bool} (a0:List Int) {r:Int} (H:cmp_Or_int a0=some r):Says Try.prog 46 [] [.d (eL3 t0 a0)] [] (.i r):=by
 refine says_of Try.func46 rfl (nt:=18) rfl (Nat.le_of_ble_eq_true rfl) fun X hP h0 hX=>?_
 have hT:TabOk X.P T:=hP▸tok
 have hf:X.P.funcs[46]? = some Try.f46:=hP▸Try.func46
 refine goK hT 17 (K46 111010 0) ⟨18,[(3,.i 0),(6,.d (eL3 t0 a0)),(7,.i (a0.length:Int)),(8,.i 0)],[]⟩ ?_
 have L:∀ n,(∀ (x1_8:Int),iter (cmp_Or_int.step a0) n (.l1 x1_8)=some r→AK X 46 ((K46 111010 0)) (Back X [] (.i r)) ⟨18,[(3,.i 0),(6,.d (eL3 t0 a0)),(7,.i (a0.length:Int)),(8,.i x1_8)],[]⟩):=by
  intro n
  induction n with
  | zero=>exact fun _ H=>iter0 H
  | succ n ih=>
   ·intro x1_8 H
    refine goK hT 5 (K46 11101001 0) ⟨18,[(3,.i 0),(6,.d (eL3 t0 a0)),(7,.i (a0.length:Int)),(8,.i x1_8),(9,.b (decide (x1_8 < (a0.length:Int))))],[]⟩ ?_
    by_cases c1:x1_8 < (a0.length:Int)
    ·replace H:=sT c1 H
     rw [decide_eq_true c1]
     refine goK hT 2 (K46 11101001 1) ⟨18,[(3,.i 0),(6,.d (eL3 t0 a0)),(7,.i (a0.length:Int)),(8,.i x1_8)],[]⟩ ?_
     refine goK hT 4 (K46 111010011000 0) ⟨18,[(3,.i 0),(6,.d (eL3 t0 a0)),(7,.i (a0.length:Int)),(8,.i x1_8)],[]⟩ ?_
     obtain ⟨h2,H⟩:=sC H
     refine ak_idx hT [3,6,7,8,10] (i:=x1_8) (n:=(a0.length:Int)) h2.1 h2.2 (k':=(K46 111010011000 1)) (st':=⟨18,[(3,.i 0),(6,.d (eL3 t0 a0)),(7,.i (a0.length:Int)),(8,.i x1_8),(10,.d (eP3 t0 a0 x1_8.toNat 0))],[]⟩) (by kernel_rfl) ?_
     refine goK hT 9 (K46 111010011001 1) ⟨18,[(3,.i 0),(5,.i (a0.getD x1_8.toNat 0)),(6,.d (eL3 t0 a0)),(7,.i (a0.length:Int)),(8,.i x1_8),(14,.b ((a0.getD x1_8.toNat 0) != 0))],[]⟩ ?_
     by_cases c3:(a0.getD x1_8.toNat 0)=0
     ·replace H:=sT c3 H
      rw [neF c3]
      refine goK hT 3 (K46 111010011 1) ⟨18,[(3,.i 0),(6,.d (eL3 t0 a0)),(7,.i (a0.length:Int)),(8,.i x1_8)],[]⟩ ?_
      refine goK hT 5 (K46 111010 0) ⟨18,[(3,.i 0),(6,.d (eL3 t0 a0)),(7,.i (a0.length:Int)),(8,.i (IntKind.wrap .i64 (x1_8+1)))],[]⟩ ?_
      exact ih (IntKind.wrap .i64 (x1_8+1)) H
     ·replace H:=sF c3 H
      rw [neT c3]
      refine goK hT 6 (K46 11101001100110 1) ⟨18,[(2,.i (a0.getD x1_8.toNat 0))],[]⟩ ?_
      obtain rfl:=retC H
      exact retK hf hX h0 (.i (a0.getD x1_8.toNat 0)) [] (fun _ h=>all_nil h) (.d (.v _))
    ·replace H:=sF c1 H
     rw [decide_eq_false c1]
     refine goK hT 7 (K46 1111 1) ⟨18,[(2,.i 0)],[]⟩ ?_
     obtain rfl:=retC H
     exact retK hf hX h0 (.i 0) [] (fun _ h=>all_nil h) (.d (.v _))
 obtain ⟨n,H⟩:=loopC H
 exact (L n) 0 H


noncomputable abbrev mut_Compare.q1 (a0:api_Stamp) (a1:api_Stamp):=([cmp_Compare_int a0.Time a1.Time,cmp_Compare_int a0.Client a1.Client,cmp_Compare_int a0.Seq a1.Seq]:List Int)


theorem mut_Compare.says (a0:api_Stamp) (a1:api_Stamp) {r:Int} (H:mut_Compare a0 a1=some r):Says Try.prog 26 [] [.d (eG95 a0),.d (eG95 a1)] [] (.i r):=by
 refine says_of Try.func26 rfl (nt:=22) rfl (Nat.le_of_ble_eq_true rfl) fun X hP h0 hX=>?_
 have hT:TabOk X.P T:=hP▸tok
 have hf:X.P.funcs[26]? = some Try.f26:=hP▸Try.func26
 refine goK hT 7 (K26 11 0) ⟨22,[(2,.ptr 0 0 0 0),(3,.ptr 1 0 0 0)],[.box 95 (eC95 a0),.box 95 (eC95 a1)]⟩ ?_
 refine drawK (hP▸mixed) 14 [2,3] [some (.ptr 0 0 0 0),some (.i a0.Time),some (.ptr 1 0 0 0),some (.i a1.Time),some (.i (cmp_Compare_int a0.Time a1.Time)),some (.ptr 0 0 0 1),some (.i a0.Client),some (.ptr 1 0 0 1),some (.i a1.Client),some (.i (cmp_Compare_int a0.Client a1.Client)),some (.ptr 0 0 0 2),some (.i a0.Seq),some (.ptr 1 0 0 2),some (.i a1.Seq)] (opG (opG (opG (opG (opS (opG (opG (opG (opG (opS (opG (opG (opG (opG op0 hT) hT) hT) hT) (fun R rest h=>ak_callD (avs:=[.i a0.Time,.i a1.Time]) (dst:=some 9) hP enters_47 (cmp_Compare_int.says a0.Time a1.Time) (by kernel_rfl) (.cons (pass_d _) (.cons (pass_d _) .nil)) (by kernel_rfl) h)) hT) hT) hT) hT) (fun R rest h=>ak_callD (avs:=[.i a0.Client,.i a1.Client]) (dst:=some 14) hP enters_47 (cmp_Compare_int.says a0.Client a1.Client) (by kernel_rfl) (.cons (pass_d _) (.cons (pass_d _) .nil)) (by kernel_rfl) h)) hT) hT) hT) hT) ?_
 refine goK hT 0 (K26 110 14) ⟨22,[(9,.i (cmp_Compare_int a0.Time a1.Time)),(14,.i (cmp_Compare_int a0.Client a1.Client)),(16,.i a0.Seq),(18,.i a1.Seq)],[.box 95 (eC95 a0),.box 95 (eC95 a1)]⟩ ?_
 refine ak_callP (avs:=[.i a0.Seq,.i a1.Seq]) (dst:=some 19) (k':=(K26 110 15)) [9,14,19] [] hP enters_47 (cmp_Compare_int.says a0.Seq a1.Seq) (by kernel_rfl) (hands_none _) (.cons (pass_d _) (.cons (pass_d _) .nil)) (st':=⟨22,[(9,.i (cmp_Compare_int a0.Time a1.Time)),(14,.i (cmp_Compare_int a0.Client a1.Client)),(19,.i (cmp_Compare_int a0.Seq a1.Seq))],[.box 95 (eC95 a0),.box 95 (eC95 a1)]⟩) (by kernel_rfl) ?_
 refine goK hT 1 (K26 110 16) ⟨22,[(20,.own 2 1 0 3)],[.box 95 (eC95 a0),.box 95 (eC95 a1),.flat false 1 3 3 (fun j=>[[.i (cmp_Compare_int a0.Time a1.Time)],[.i (cmp_Compare_int a0.Client a1.Client)],[.i (cmp_Compare_int a0.Seq a1.Seq)]].getD j [])]⟩ ?_
 refine ak_row 2 (kk:=1) (fz:=false) (ty:=3) (n:=(mut_Compare.q1 a0 a1).length) (vec (eI .i64) 0 (mut_Compare.q1 a0 a1)) (by kernel_rfl) vec_lit (st':=⟨22,[(20,.own 2 1 0 ((mut_Compare.q1 a0 a1).length))],[.box 95 (eC95 a0),.box 95 (eC95 a1),eR3 (mut_Compare.q1 a0 a1)]⟩) (by kernel_rfl) ?_
 obtain ⟨v1,h1,H⟩:=ibC H
 refine ak_callP (avs:=[.own 2 1 0 ((mut_Compare.q1 a0 a1).length)]) (dst:=some 21) (k':=(K26 110 17)) [21] [] hP enters_46 (cmp_Or_int.says (t0:=false) (mut_Compare.q1 a0 a1) h1) (by kernel_rfl) (hands_none _) (.cons (.lend (ty:=3) (by kernel_rfl) rfl) .nil) (st':=⟨22,[(21,.i v1)],[.box 95 (eC95 a0),.box 95 (eC95 a1),eR3 (mut_Compare.q1 a0 a1)]⟩) (by kernel_rfl) ?_
 refine goK hT 2 (K26 11 1) ⟨22,[(4,.i v1)],[.box 95 (eC95 a0),.box 95 (eC95 a1),eR3 (mut_Compare.q1 a0 a1)]⟩ ?_
 obtain rfl:=retC H
 exact retK hf hX h0 (.i v1) [] (fun _ h=>all_nil h) (.d (.v _))


theorem audit_Order.says {t0:Bool} (a0:List api_Entry) {r:Bool} (H:audit_Order a0=some r):Says Try.prog 12 [] [.d (eL74 t0 a0)] [] (.b r):=by
 refine says_of Try.func12 rfl (nt:=33) rfl (Nat.le_of_ble_eq_true rfl) fun X hP h0 hX=>?_
 have hT:TabOk X.P T:=hP▸tok
 have hf:X.P.funcs[12]? = some Try.f12:=hP▸Try.func12
 refine goK hT 13 (K12 11010 0) ⟨33,[(0,.d (eL74 t0 a0)),(5,.d (eL74 t0 a0)),(6,.i (a0.length:Int)),(7,.i 0)],[]⟩ ?_
 have L:∀ n,(∀ (x1_7:Int),iter (audit_Order.step a0) n (.l1 x1_7)=some r→AK X 12 ((K12 11010 0)) (Back X [] (.b r)) ⟨33,[(0,.d (eL74 t0 a0)),(5,.d (eL74 t0 a0)),(6,.i (a0.length:Int)),(7,.i x1_7)],[]⟩):=by
  intro n
  induction n with
  | zero=>exact fun _ H=>iter0 H
  | succ n ih=>
   ·intro x1_7 H
    refine goK hT 5 (K12 1101001 0) ⟨33,[(0,.d (eL74 t0 a0)),(5,.d (eL74 t0 a0)),(6,.i (a0.length:Int)),(7,.i x1_7),(8,.b (decide (x1_7 < (a0.length:Int))))],[]⟩ ?_
    by_cases c1:x1_7 < (a0.length:Int)
    ·replace H:=sT c1 H
     rw [decide_eq_true c1]
     refine goK hT 2 (K12 1101001 1) ⟨33,[(0,.d (eL74 t0 a0)),(5,.d (eL74 t0 a0)),(6,.i (a0.length:Int)),(7,.i x1_7)],[]⟩ ?_
     refine goK hT 5 (K12 11010011000 1) ⟨33,[(0,.d (eL74 t0 a0)),(5,.d (eL74 t0 a0)),(6,.i (a0.length:Int)),(7,.i x1_7),(9,.i x1_7)],[]⟩ ?_
     obtain ⟨h2,H⟩:=sC H
     refine ak_idx hT [0,5,6,7,9,10] (i:=x1_7) (n:=(a0.length:Int)) h2.1 h2.2 (k':=(K12 11010011000 2)) (st':=⟨33,[(0,.d (eL74 t0 a0)),(5,.d (eL74 t0 a0)),(6,.i (a0.length:Int)),(7,.i x1_7),(9,.i x1_7),(10,.d (eP74 t0 a0 x1_7.toNat 0))],[]⟩) (by kernel_rfl) ?_
     refine goK hT 6 (K12 11010011001 0) ⟨33,[(0,.d (eL74 t0 a0)),(3,.i x1_7),(4,.ptr 0 0 0 0),(5,.d (eL74 t0 a0)),(6,.i (a0.length:Int)),(7,.i x1_7)],[.box 74 (eC74 (a0.getD x1_7.toNat api_Entry.z))]⟩ ?_
     obtain ⟨v1,h3,H⟩:=sbC H
     have Jj1:∀ (y1_31:Bool),stk (audit_Order.j1 x1_7 y1_31) (iter (audit_Order.step a0) n)=some r→AK X 12 ((K12 11010011001 1)) (Back X [] (.b r)) ⟨33,[(0,.d (eL74 t0 a0)),(5,.d (eL74 t0 a0)),(6,.i (a0.length:Int)),(7,.i x1_7),(31,.b y1_31)],[]⟩:=by
      intro y1_31 H
      by_cases c8:y1_31=true
      ·replace H:=sT c8 H
       rw [c8]
       refine goK hT 5 (K12 1101001100110 1) ⟨33,[(2,.b false)],[]⟩ ?_
       obtain rfl:=retC H
       exact retK hf hX h0 (.b false) [] (fun _ h=>all_nil h) (.d (.v _))
      ·replace H:=sF c8 H
       rw [boF c8]
       refine goK hT 3 (K12 11010011 1) ⟨33,[(0,.d (eL74 t0 a0)),(5,.d (eL74 t0 a0)),(6,.i (a0.length:Int)),(7,.i x1_7)],[]⟩ ?_
       refine goK hT 5 (K12 11010 0) ⟨33,[(0,.d (eL74 t0 a0)),(5,.d (eL74 t0 a0)),(6,.i (a0.length:Int)),(7,.i (IntKind.wrap .i64 (x1_7+1)))],[]⟩ ?_
       exact ih (IntKind.wrap .i64 (x1_7+1)) H
     by_cases c4:v1=true
     ·replace H:=sT c4 H
      by_cases c5:x1_7 > 0
      ·replace H:=sT c5 H
       obtain ⟨h6,H⟩:=sC H
       obtain ⟨v2,h7,H⟩:=sbC H
       refine drawK (hP▸mixed) 20 [0,3,4,5,6,7] [some (.ptr 0 0 0 0),some (.d (eG48 ((a0.getD x1_7.toNat api_Entry.z).M))),some (.b true),some (.b false),some (.b false),some (.i x1_7),some (.b true),some (.b true),some (.d (eL74 t0 a0)),some (.i x1_7),some (.i (IntKind.wrap .i64 (x1_7 - 1))),some (.d (eP74 t0 a0 ((IntKind.wrap .i64 (x1_7 - 1)).toNat) 0)),some (.d (eG74 (a0.getD ((IntKind.wrap .i64 (x1_7 - 1)).toNat) api_Entry.z))),some (.d (eG95 (audit_stamp (a0.getD ((IntKind.wrap .i64 (x1_7 - 1)).toNat) api_Entry.z)))),some (.d (eG74 (a0.getD x1_7.toNat api_Entry.z))),some (.d (eG95 (audit_stamp (a0.getD x1_7.toNat api_Entry.z)))),some (.i v2),some (.b (decide (v2≥0))),some (.b (decide (v2≥0))),some (.b (decide (v2≥0)))] (opG (opG (opG (opS (opS (opG (opS (opG (opS (opG (opG (opG (opG (opV (opG (opG (opG (opS (opG (opG op0 hT) hT) (fun R rest h=>ak_callD (avs:=[.d (eG48 ((a0.getD x1_7.toNat api_Entry.z).M))]) (dst:=some 14) hP enters_25 (by have q:=mut_Check.says ((a0.getD x1_7.toNat api_Entry.z).M) h3;rw [c4] at q;exact q) (by kernel_rfl) (.cons (pass_d _) .nil) (by kernel_rfl) h)) hT) hT) hT) hT 18 (.b (decide (x1_7 > 0))) (.b true) (by rw [decide_eq_true c5]<;>rfl)) hT) hT) hT) hT) (fun R rest h=>ak_idx0 hT (i:=IntKind.wrap .i64 (x1_7 - 1)) (n:=(a0.length:Int)) h6.1 h6.2 (by kernel_rfl) h)) hT) (fun R rest h=>ak_callD (avs:=[.d (eG74 (a0.getD ((IntKind.wrap .i64 (x1_7 - 1)).toNat) api_Entry.z))]) (dst:=some 25) hP enters_27 (audit_stamp.says (a0.getD ((IntKind.wrap .i64 (x1_7 - 1)).toNat) api_Entry.z)) (by kernel_rfl) (.cons (pass_d _) .nil) (by kernel_rfl) h)) hT) (fun R rest h=>ak_callD (avs:=[.d (eG74 (a0.getD x1_7.toNat api_Entry.z))]) (dst:=some 27) hP enters_27 (audit_stamp.says (a0.getD x1_7.toNat api_Entry.z)) (by kernel_rfl) (.cons (pass_d _) .nil) (by kernel_rfl) h)) (fun R rest h=>ak_callD (avs:=[.d (eG95 (audit_stamp (a0.getD ((IntKind.wrap .i64 (x1_7 - 1)).toNat) api_Entry.z))),.d (eG95 (audit_stamp (a0.getD x1_7.toNat api_Entry.z)))]) (dst:=some 28) hP enters_26 (mut_Compare.says (audit_stamp (a0.getD ((IntKind.wrap .i64 (x1_7 - 1)).toNat) api_Entry.z)) (audit_stamp (a0.getD x1_7.toNat api_Entry.z)) h7) (by kernel_rfl) (.cons (pass_d _) (.cons (pass_d _) .nil)) (by kernel_rfl) h)) hT) hT) hT) ?_
       refine goCut hT 1 (K12 11010011001 1) [] ⟨33,[(0,.d (eL74 t0 a0)),(5,.d (eL74 t0 a0)),(6,.i (a0.length:Int)),(7,.i x1_7),(31,.b (decide (v2≥0)))],[]⟩ h0 ?_
       exact Jj1 (decide (v2≥0)) H
      ·replace H:=sF c5 H
       refine drawK (hP▸mixed) 20 [0,3,4,5,6,7] [some (.ptr 0 0 0 0),some (.d (eG48 ((a0.getD x1_7.toNat api_Entry.z).M))),some (.b true),some (.b false),some (.b false),some (.i x1_7),some (.b false),some (.b false),some (.tup []),some (.tup []),some (.tup []),some (.tup []),some (.tup []),some (.tup []),some (.tup []),some (.tup []),some (.tup []),some (.tup []),some (.b false),some (.b false)] (opG (opG (opG (opG (opG (opG (opG (opG (opG (opG (opG (opG (opG (opV (opG (opG (opG (opS (opG (opG op0 hT) hT) (fun R rest h=>ak_callD (avs:=[.d (eG48 ((a0.getD x1_7.toNat api_Entry.z).M))]) (dst:=some 14) hP enters_25 (by have q:=mut_Check.says ((a0.getD x1_7.toNat api_Entry.z).M) h3;rw [c4] at q;exact q) (by kernel_rfl) (.cons (pass_d _) .nil) (by kernel_rfl) h)) hT) hT) hT) hT 18 (.b (decide (x1_7 > 0))) (.b false) (by rw [decide_eq_false c5]<;>rfl)) hT) hT) hT) hT) hT) hT) hT) hT) hT) hT) hT) hT) hT) ?_
       refine goCut hT 1 (K12 11010011001 1) [] ⟨33,[(0,.d (eL74 t0 a0)),(5,.d (eL74 t0 a0)),(6,.i (a0.length:Int)),(7,.i x1_7),(31,.b false)],[]⟩ h0 ?_
       exact Jj1 false H
     ·replace H:=sF c4 H
      refine drawK (hP▸mixed) 20 [0,3,4,5,6,7] [some (.ptr 0 0 0 0),some (.d (eG48 ((a0.getD x1_7.toNat api_Entry.z).M))),some (.b false),some (.b true),some (.b true),some (.tup []),some (.tup []),some (.tup []),some (.tup []),some (.tup []),some (.tup []),some (.tup []),some (.tup []),some (.tup []),some (.tup []),some (.tup []),some (.tup []),some (.tup []),some (.tup []),some (.b true)] (opG (opG (opG (opG (opG (opG (opG (opG (opG (opG (opG (opG (opG (opG (opG (opG (opG (opS (opG (opG op0 hT) hT) (fun R rest h=>ak_callD (avs:=[.d (eG48 ((a0.getD x1_7.toNat api_Entry.z).M))]) (dst:=some 14) hP enters_25 (by have q:=mut_Check.says ((a0.getD x1_7.toNat api_Entry.z).M) h3;rw [boF c4] at q;exact q) (by kernel_rfl) (.cons (pass_d _) .nil) (by kernel_rfl) h)) hT) hT) hT) hT) hT) hT) hT) hT) hT) hT) hT) hT) hT) hT) hT) hT) hT) ?_
      refine goCut hT 1 (K12 11010011001 1) [] ⟨33,[(0,.d (eL74 t0 a0)),(5,.d (eL74 t0 a0)),(6,.i (a0.length:Int)),(7,.i x1_7),(31,.b true)],[]⟩ h0 ?_
      exact Jj1 true H
    ·replace H:=sF c1 H
     rw [decide_eq_false c1]
     refine goK hT 6 (K12 111 1) ⟨33,[(2,.b true)],[]⟩ ?_
     obtain rfl:=retC H
     exact retK hf hX h0 (.b true) [] (fun _ h=>all_nil h) (.d (.v _))
 obtain ⟨n,H⟩:=loopC H
 exact (L n) 0 H


theorem slices_Equal_api_Pair.says {t0:Bool} {t1:Bool} (a0:List api_Pair) (a1:List api_Pair) {r:Bool} (H:slices_Equal_api_Pair a0 a1=some r):Says Try.prog 68 [] [.d (eL76 t0 a0),.d (eL76 t1 a1)] [] (.b r):=by
 refine says_of Try.func68 rfl (nt:=26) rfl (Nat.le_of_ble_eq_true rfl) fun X hP h0 hX=>?_
 have hT:TabOk X.P T:=hP▸tok
 have hf:X.P.funcs[68]? = some Try.f68:=hP▸Try.func68
 refine goK hT 13 (K68 110 1) ⟨26,[(0,.d (eL76 t0 a0)),(1,.d (eL76 t1 a1)),(10,.b ((a0.length:Int) != (a1.length:Int)))],[]⟩ ?_
 by_cases c1:(a0.length:Int)=(a1.length:Int)
 ·replace H:=iT c1 H
  rw [neF c1]
  refine goK hT 2 (K68 11 1) ⟨26,[(0,.d (eL76 t0 a0)),(1,.d (eL76 t1 a1))],[]⟩ ?_
  refine goK hT 9 (K68 111010 0) ⟨26,[(0,.d (eL76 t0 a0)),(1,.d (eL76 t1 a1)),(12,.i (a0.length:Int)),(13,.i 0)],[]⟩ ?_
  have L:∀ n,(∀ (x1_13:Int),iter (slices_Equal_api_Pair.step a0 a1) n (.l1 x1_13)=some r→AK X 68 ((K68 111010 0)) (Back X [] (.b r)) ⟨26,[(0,.d (eL76 t0 a0)),(1,.d (eL76 t1 a1)),(12,.i (a0.length:Int)),(13,.i x1_13)],[]⟩):=by
   intro n
   induction n with
   | zero=>exact fun _ H=>iter0 H
   | succ n ih=>
    ·intro x1_13 H
     refine goK hT 5 (K68 11101001 0) ⟨26,[(0,.d (eL76 t0 a0)),(1,.d (eL76 t1 a1)),(12,.i (a0.length:Int)),(13,.i x1_13),(14,.b (decide (x1_13 < (a0.length:Int))))],[]⟩ ?_
     by_cases c2:x1_13 < (a0.length:Int)
     ·replace H:=sT c2 H
      rw [decide_eq_true c2]
      refine goK hT 2 (K68 11101001 1) ⟨26,[(0,.d (eL76 t0 a0)),(1,.d (eL76 t1 a1)),(12,.i (a0.length:Int)),(13,.i x1_13)],[]⟩ ?_
      refine goK hT 8 (K68 111010011001 0) ⟨26,[(0,.d (eL76 t0 a0)),(1,.d (eL76 t1 a1)),(5,.i x1_13),(12,.i (a0.length:Int)),(13,.i x1_13)],[]⟩ ?_
      obtain ⟨h3,H⟩:=sC H
      obtain ⟨h4,H⟩:=sC H
      refine drawK (hP▸mixed) 9 [0,1,5,12,13] [some (.d (eL76 t0 a0)),some (.i x1_13),some (.d (eP76 t0 a0 x1_13.toNat 0)),some (.d (eG76 (a0.getD x1_13.toNat api_Pair.z))),some (.d (eL76 t1 a1)),some (.i x1_13),some (.d (eP76 t1 a1 x1_13.toNat 0)),some (.d (eG76 (a1.getD x1_13.toNat api_Pair.z))),some (.b (!((((a0.getD x1_13.toNat api_Pair.z).Key) == ((a1.getD x1_13.toNat api_Pair.z).Key)) && (((a0.getD x1_13.toNat api_Pair.z).Val) == ((a1.getD x1_13.toNat api_Pair.z).Val)))))] (opG (opG (opS (opG (opG (opG (opS (opG (opG op0 hT) hT) (fun R rest h=>ak_idx0 hT (i:=x1_13) (n:=(a0.length:Int)) h3.1 h3.2 (by kernel_rfl) h)) hT) hT) hT) (fun R rest h=>ak_idx0 hT (i:=x1_13) (n:=(a1.length:Int)) h4.1 h4.2 (by kernel_rfl) h)) hT) hT) ?_
      refine goK hT 1 (K68 111010011001 1) ⟨26,[(0,.d (eL76 t0 a0)),(1,.d (eL76 t1 a1)),(12,.i (a0.length:Int)),(13,.i x1_13),(24,.b (!((((a0.getD x1_13.toNat api_Pair.z).Key) == ((a1.getD x1_13.toNat api_Pair.z).Key)) && (((a0.getD x1_13.toNat api_Pair.z).Val) == ((a1.getD x1_13.toNat api_Pair.z).Val)))))],[]⟩ ?_
      by_cases c5:((a0.getD x1_13.toNat api_Pair.z).Key)=((a1.getD x1_13.toNat api_Pair.z).Key)
      ·replace H:=sT c5 H
       rw [eqT c5]
       by_cases c6:((a0.getD x1_13.toNat api_Pair.z).Val)=((a1.getD x1_13.toNat api_Pair.z).Val)
       ·replace H:=sT c6 H
        rw [eqT c6]
        refine goK hT 3 (K68 111010011 1) ⟨26,[(0,.d (eL76 t0 a0)),(1,.d (eL76 t1 a1)),(12,.i (a0.length:Int)),(13,.i x1_13)],[]⟩ ?_
        refine goK hT 5 (K68 111010 0) ⟨26,[(0,.d (eL76 t0 a0)),(1,.d (eL76 t1 a1)),(12,.i (a0.length:Int)),(13,.i (IntKind.wrap .i64 (x1_13+1)))],[]⟩ ?_
        exact ih (IntKind.wrap .i64 (x1_13+1)) H
       ·replace H:=sF c6 H
        rw [eqF c6]
        refine goK hT 5 (K68 11101001100110 1) ⟨26,[(4,.b false)],[]⟩ ?_
        obtain rfl:=retC H
        exact retK hf hX h0 (.b false) [] (fun _ h=>all_nil h) (.d (.v _))
      ·replace H:=sF c5 H
       rw [eqF c5]
       by_cases c7:((a0.getD x1_13.toNat api_Pair.z).Val)=((a1.getD x1_13.toNat api_Pair.z).Val)
       ·replace H:=sT c7 H
        rw [eqT c7]
        refine goK hT 5 (K68 11101001100110 1) ⟨26,[(4,.b false)],[]⟩ ?_
        obtain rfl:=retC H
        exact retK hf hX h0 (.b false) [] (fun _ h=>all_nil h) (.d (.v _))
       ·replace H:=sF c7 H
        rw [eqF c7]
        refine goK hT 5 (K68 11101001100110 1) ⟨26,[(4,.b false)],[]⟩ ?_
        obtain rfl:=retC H
        exact retK hf hX h0 (.b false) [] (fun _ h=>all_nil h) (.d (.v _))
     ·replace H:=sF c2 H
      rw [decide_eq_false c2]
      refine goK hT 6 (K68 1111 1) ⟨26,[(4,.b true)],[]⟩ ?_
      obtain rfl:=retC H
      exact retK hf hX h0 (.b true) [] (fun _ h=>all_nil h) (.d (.v _))
  obtain ⟨n,H⟩:=loopC H
  exact (L n) 0 H
 ·replace H:=iF c1 H
  rw [neT c1]
  refine goK hT 5 (K68 11010 1) ⟨26,[(4,.b false)],[]⟩ ?_
  obtain rfl:=retC H
  exact retK hf hX h0 (.b false) [] (fun _ h=>all_nil h) (.d (.v _))


theorem mut_Same.says (a0:api_Mut) (a1:api_Mut) {r:Bool} (H:mut_Same a0 a1=some r):Says Try.prog 52 [] [.d (eG48 a0),.d (eG48 a1)] [] (.b r):=by
 refine says_of Try.func52 rfl (nt:=45) rfl (Nat.le_of_ble_eq_true rfl) fun X hP h0 hX=>?_
 have hT:TabOk X.P T:=hP▸tok
 have hf:X.P.funcs[52]? = some Try.f52:=hP▸Try.func52
 have Jj1:∀ (y1_4:Bool),(mut_Same.j1 y1_4)=some r→AK X 52 ((K52 11 1)) (Back X [] (.b r)) ⟨45,[(4,.b y1_4)],[]⟩:=by
  intro y1_4 H
  obtain rfl:=retC H
  exact retK hf hX h0 (.b y1_4) [] (fun _ h=>all_nil h) (.d (.v _))
 refine goK hT 14 (K52 110 6) ⟨45,[(2,.ptr 0 0 0 0),(3,.ptr 1 0 0 0),(10,.b (a0.Client == a1.Client))],[.box 48 (eC48 a0),.box 48 (eC48 a1)]⟩ ?_
 by_cases c1:a0.Client=a1.Client
 ·replace H:=iT c1 H
  rw [eqT c1]
  refine goK hT 7 (K52 110 13) ⟨45,[(2,.ptr 0 0 0 0),(3,.ptr 1 0 0 0),(17,.b (a0.Seq == a1.Seq))],[.box 48 (eC48 a0),.box 48 (eC48 a1)]⟩ ?_
  by_cases c2:a0.Seq=a1.Seq
  ·replace H:=iT c2 H
   rw [eqT c2]
   refine goK hT 7 (K52 110 20) ⟨45,[(2,.ptr 0 0 0 0),(3,.ptr 1 0 0 0),(24,.b (a0.Kind == a1.Kind))],[.box 48 (eC48 a0),.box 48 (eC48 a1)]⟩ ?_
   by_cases c3:a0.Kind=a1.Kind
   ·replace H:=iT c3 H
    rw [eqT c3]
    refine goK hT 7 (K52 110 27) ⟨45,[(2,.ptr 0 0 0 0),(3,.ptr 1 0 0 0),(31,.b ((a0.Over.Lo == a1.Over.Lo) && (a0.Over.Hi == a1.Over.Hi)))],[.box 48 (eC48 a0),.box 48 (eC48 a1)]⟩ ?_
    by_cases c4:a0.Over.Lo=a1.Over.Lo
    ·replace H:=iT c4 H
     rw [eqT c4]
     by_cases c5:a0.Over.Hi=a1.Over.Hi
     ·replace H:=iT c5 H
      rw [eqT c5]
      refine goK hT 7 (K52 110 34) ⟨45,[(2,.ptr 0 0 0 0),(3,.ptr 1 0 0 0),(38,.b (a0.Old == a1.Old))],[.box 48 (eC48 a0),.box 48 (eC48 a1)]⟩ ?_
      by_cases c6:a0.Old=a1.Old
      ·replace H:=iT c6 H
       rw [eqT c6]
       refine goK hT 4 (K52 110 38) ⟨45,[(38,.b true),(40,.d (eL76 true a0.Pairs)),(42,.d (eL76 true a1.Pairs))],[.box 48 (eC48 a0),.box 48 (eC48 a1)]⟩ ?_
       obtain ⟨v1,h7,H⟩:=ibC H
       refine ak_callP (avs:=[.d (eL76 true a0.Pairs),.d (eL76 true a1.Pairs)]) (dst:=some 43) (k':=(K52 110 39)) [38,43] [] hP enters_68 (slices_Equal_api_Pair.says (t0:=true) (t1:=true) a0.Pairs a1.Pairs h7) (by kernel_rfl) (hands_none _) (.cons (pass_d _) (.cons (pass_d _) .nil)) (st':=⟨45,[(38,.b true),(43,.b v1)],[.box 48 (eC48 a0),.box 48 (eC48 a1)]⟩) (by kernel_rfl) ?_
       refine goCut hT 3 (K52 11 1) [] ⟨45,[(4,.b v1)],[]⟩ h0 ?_
       exact Jj1 v1 H
      ·replace H:=iF c6 H
       rw [eqF c6]
       refine goCut hT 8 (K52 11 1) [] ⟨45,[(4,.b false)],[]⟩ h0 ?_
       exact Jj1 false H
     ·replace H:=iF c5 H
      rw [eqF c5]
      refine goCut hT 15 (K52 11 1) [] ⟨45,[(4,.b false)],[]⟩ h0 ?_
      exact Jj1 false H
    ·replace H:=iF c4 H
     rw [eqF c4]
     by_cases c8:a0.Over.Hi=a1.Over.Hi
     ·replace H:=iT c8 H
      rw [eqT c8]
      refine goCut hT 15 (K52 11 1) [] ⟨45,[(4,.b false)],[]⟩ h0 ?_
      exact Jj1 false H
     ·replace H:=iF c8 H
      rw [eqF c8]
      refine goCut hT 15 (K52 11 1) [] ⟨45,[(4,.b false)],[]⟩ h0 ?_
      exact Jj1 false H
   ·replace H:=iF c3 H
    rw [eqF c3]
    refine goCut hT 22 (K52 11 1) [] ⟨45,[(4,.b false)],[]⟩ h0 ?_
    exact Jj1 false H
  ·replace H:=iF c2 H
   rw [eqF c2]
   refine goCut hT 29 (K52 11 1) [] ⟨45,[(4,.b false)],[]⟩ h0 ?_
   exact Jj1 false H
 ·replace H:=iF c1 H
  rw [eqF c1]
  refine goCut hT 36 (K52 11 1) [] ⟨45,[(4,.b false)],[]⟩ h0 ?_
  exact Jj1 false H


theorem audit_cell.says (a0:api_Cell):Says Try.prog 53 [] [.d (eG50 a0)] [] (.b (audit_cell a0)):=by
 obtain ⟨r,H⟩:∃ r,audit_cell a0=r:=⟨_,rfl⟩
 rw [H]
 refine says_of Try.func53 rfl (nt:=17) rfl (Nat.le_of_ble_eq_true rfl) fun X hP h0 hX=>?_
 have hT:TabOk X.P T:=hP▸tok
 have hf:X.P.funcs[53]? = some Try.f53:=hP▸Try.func53
 refine goK hT 12 (K53 110 1) ⟨17,[(1,.ptr 0 0 0 0),(5,.b (!a0.Some))],[.box 50 (eC50 a0)]⟩ ?_
 by_cases c1:a0.Some=true
 ·replace H:=iT c1 H
  have Jj1:∀ (y1_2:Bool),(audit_cell.j1 y1_2)=r→AK X 53 ((K53 111 1)) (Back X [] (.b r)) ⟨17,[(2,.b y1_2)],[]⟩:=by
   intro y1_2 H
   obtain rfl:=H
   exact retK hf hX h0 (.b y1_2) [] (fun _ h=>all_nil h) (.d (.v _))
  rw [c1]
  refine goK hT 2 (K53 11 1) ⟨17,[(1,.ptr 0 0 0 0)],[.box 50 (eC50 a0)]⟩ ?_
  refine goK hT 6 (K53 1110 4) ⟨17,[(1,.ptr 0 0 0 0),(12,.b (decide (a0.Val≥(-1099511627776))))],[.box 50 (eC50 a0)]⟩ ?_
  by_cases c2:a0.Val≥(-1099511627776)
  ·replace H:=iT c2 H
   rw [decide_eq_true c2]
   refine goCut hT 6 (K53 111 1) [] ⟨17,[(2,.b (decide (a0.Val≤1099511627776)))],[]⟩ h0 ?_
   exact Jj1 (decide (a0.Val≤1099511627776)) H
  ·replace H:=iF c2 H
   rw [decide_eq_false c2]
   refine goCut hT 6 (K53 111 1) [] ⟨17,[(2,.b false)],[]⟩ h0 ?_
   exact Jj1 false H
 ·replace H:=iF c1 H
  rw [boF c1]
  refine goK hT 8 (K53 11010 1) ⟨17,[(2,.b (a0.Val == 0))],[.box 50 (eC50 a0)]⟩ ?_
  obtain rfl:=H
  exact retK hf hX h0 (.b (a0.Val == 0)) [] (fun _ h=>all_nil h) (.d (.v _))


theorem audit_formed.says (a0:api_Event) {r:Bool} (H:audit_formed a0=some r):Says Try.prog 37 [] [.d (eG52 a0)] [] (.b r):=by
 refine says_of Try.func37 rfl (nt:=70) rfl (Nat.le_of_ble_eq_true rfl) fun X hP h0 hX=>?_
 have hT:TabOk X.P T:=hP▸tok
 have hf:X.P.funcs[37]? = some Try.f37:=hP▸Try.func37
 refine goK hT 17 (K37 11010 1) ⟨70,[(1,.ptr 0 0 0 0),(4,.i a0.Kind),(5,.b (a0.Kind == 1))],[.box 52 (eC52 a0)]⟩ ?_
 by_cases c1:a0.Kind=1
 ·replace H:=iT c1 H
  rw [eqT c1]
  refine goK hT 5 (K37 11010100 2) ⟨70,[(1,.ptr 0 0 0 0),(8,.d (eG48 a0.M))],[.box 52 (eC52 a0)]⟩ ?_
  obtain ⟨v1,h2,H⟩:=ibC H
  have Jj1:∀ (y1_2:Bool),(audit_formed.j1 y1_2)=some r→AK X 37 ((K37 1101010 1)) (Back X [] (.b r)) ⟨70,[(2,.b y1_2)],[]⟩:=by
   intro y1_2 H
   obtain rfl:=retC H
   exact retK hf hX h0 (.b y1_2) [] (fun _ h=>all_nil h) (.d (.v _))
  refine ak_callP (avs:=[.d (eG48 a0.M)]) (dst:=some 9) (k':=(K37 11010100 3)) [1,9] [] hP enters_25 (mut_Check.says a0.M h2) (by kernel_rfl) (hands_none _) (.cons (pass_d _) .nil) (st':=⟨70,[(1,.ptr 0 0 0 0),(9,.b v1)],[.box 52 (eC52 a0)]⟩) (by kernel_rfl) ?_
  refine goK hT 1 (K37 11010100 4) ⟨70,[(1,.ptr 0 0 0 0),(10,.b v1)],[.box 52 (eC52 a0)]⟩ ?_
  by_cases c3:v1=true
  ·replace H:=iT c3 H
   rw [c3]
   refine goK hT 8 (K37 11010100 12) ⟨70,[(1,.ptr 0 0 0 0),(18,.b (a0.M.Client == a0.Client))],[.box 52 (eC52 a0)]⟩ ?_
   by_cases c4:a0.M.Client=a0.Client
   ·replace H:=iT c4 H
    rw [eqT c4]
    refine goK hT 5 (K37 11010100 17) ⟨70,[(1,.ptr 0 0 0 0),(23,.b (a0.Key == 0))],[.box 52 (eC52 a0)]⟩ ?_
    by_cases c5:a0.Key=0
    ·replace H:=iT c5 H
     rw [eqT c5]
     refine goK hT 6 (K37 11010100 23) ⟨70,[(1,.ptr 0 0 0 0),(29,.b ((a0.Cell.Val == 0) && (a0.Cell.Some == false)))],[.box 52 (eC52 a0)]⟩ ?_
     by_cases c6:a0.Cell.Val=0
     ·replace H:=iT c6 H
      rw [eqT c6]
      by_cases c7:a0.Cell.Some=true
      ·replace H:=iT c7 H
       rw [c7]
       refine goCut hT 6 (K37 1101010 1) [] ⟨70,[(2,.b false)],[]⟩ h0 ?_
       exact Jj1 false H
      ·replace H:=iF c7 H
       rw [boF c7]
       refine goCut hT 6 (K37 1101010 1) [] ⟨70,[(2,.b (a0.Mark == 0))],[]⟩ h0 ?_
       exact Jj1 (a0.Mark == 0) H
     ·replace H:=iF c6 H
      rw [eqF c6]
      by_cases c8:a0.Cell.Some=true
      ·replace H:=iT c8 H
       rw [c8]
       refine goCut hT 6 (K37 1101010 1) [] ⟨70,[(2,.b false)],[]⟩ h0 ?_
       exact Jj1 false H
      ·replace H:=iF c8 H
       rw [boF c8]
       refine goCut hT 6 (K37 1101010 1) [] ⟨70,[(2,.b false)],[]⟩ h0 ?_
       exact Jj1 false H
    ·replace H:=iF c5 H
     rw [eqF c5]
     refine goCut hT 12 (K37 1101010 1) [] ⟨70,[(2,.b false)],[]⟩ h0 ?_
     exact Jj1 false H
   ·replace H:=iF c4 H
    rw [eqF c4]
    refine goCut hT 17 (K37 1101010 1) [] ⟨70,[(2,.b false)],[]⟩ h0 ?_
    exact Jj1 false H
  ·replace H:=iF c3 H
   rw [boF c3]
   refine goCut hT 25 (K37 1101010 1) [] ⟨70,[(2,.b false)],[]⟩ h0 ?_
   exact Jj1 false H
 ·replace H:=iF c1 H
  rw [eqF c1]
  refine goK hT 6 (K37 1101011 1) ⟨70,[(1,.ptr 0 0 0 0),(34,.b (a0.Kind == 2))],[.box 52 (eC52 a0)]⟩ ?_
  by_cases c9:a0.Kind=2
  ·replace H:=iT c9 H
   rw [eqT c9]
   refine goK hT 6 (K37 1101011100 3) ⟨70,[(1,.ptr 0 0 0 0),(37,.d (eG48 a0.M)),(38,.d (.agg [.i 0,.i 0,.i 0,.ns,.i 0,.i 0,.i 0]))],[.box 52 (eC52 a0)]⟩ ?_
   obtain ⟨v2,h10,H⟩:=ibC H
   have Jj2:∀ (y2_2:Bool),(audit_formed.j2 y2_2)=some r→AK X 37 ((K37 110101110 1)) (Back X [] (.b r)) ⟨70,[(2,.b y2_2)],[]⟩:=by
    intro y2_2 H
    obtain rfl:=retC H
    exact retK hf hX h0 (.b y2_2) [] (fun _ h=>all_nil h) (.d (.v _))
   refine ak_callP (avs:=[.d (eG48 a0.M),.d (.agg [.i 0,.i 0,.i 0,.ns,.i 0,.i 0,.i 0])]) (dst:=some 39) (k':=(K37 1101011100 4)) [1,39] [] hP enters_52 (mut_Same.says a0.M (⟨0,0,0,[],(⟨0,0⟩:api_Span),0⟩:api_Mut) h10) (by kernel_rfl) (hands_none _) (.cons (pass_d _) (.cons (.aggd (.cons (pass_d _) (.cons (pass_d _) (.cons (pass_d _) (.cons (.nil _ _) (.cons (pass_d _) (.cons (pass_d _) (.cons (pass_d _) .nil)))))))) .nil)) (st':=⟨70,[(1,.ptr 0 0 0 0),(39,.b v2)],[.box 52 (eC52 a0)]⟩) (by kernel_rfl) ?_
   refine goK hT 1 (K37 1101011100 5) ⟨70,[(1,.ptr 0 0 0 0),(40,.b v2)],[.box 52 (eC52 a0)]⟩ ?_
   by_cases c11:v2=true
   ·replace H:=iT c11 H
    rw [c11]
    refine goK hT 5 (K37 1101011100 10) ⟨70,[(1,.ptr 0 0 0 0),(45,.b (decide (a0.Client≥1)))],[.box 52 (eC52 a0)]⟩ ?_
    by_cases c12:a0.Client≥1
    ·replace H:=iT c12 H
     rw [decide_eq_true c12]
     refine goK hT 5 (K37 1101011100 15) ⟨70,[(1,.ptr 0 0 0 0),(50,.b (decide (a0.Client≤1048576)))],[.box 52 (eC52 a0)]⟩ ?_
     by_cases c13:a0.Client≤1048576
     ·replace H:=iT c13 H
      rw [decide_eq_true c13]
      refine goK hT 5 (K37 1101011100 20) ⟨70,[(1,.ptr 0 0 0 0),(55,.b (decide (a0.Key≥0)))],[.box 52 (eC52 a0)]⟩ ?_
      by_cases c14:a0.Key≥0
      ·replace H:=iT c14 H
       rw [decide_eq_true c14]
       refine goK hT 5 (K37 1101011100 25) ⟨70,[(1,.ptr 0 0 0 0),(60,.b (decide (a0.Key < 4096)))],[.box 52 (eC52 a0)]⟩ ?_
       by_cases c15:a0.Key < 4096
       ·replace H:=iT c15 H
        rw [decide_eq_true c15]
        refine goK hT 2 (K37 1101011100 27) ⟨70,[(1,.ptr 0 0 0 0),(60,.b true),(62,.d (eG50 a0.Cell))],[.box 52 (eC52 a0)]⟩ ?_
        refine ak_callP (avs:=[.d (eG50 a0.Cell)]) (dst:=some 63) (k':=(K37 1101011100 28)) [1,60,63] [] hP enters_53 (audit_cell.says a0.Cell) (by kernel_rfl) (hands_none _) (.cons (pass_d _) .nil) (st':=⟨70,[(1,.ptr 0 0 0 0),(60,.b true),(63,.b (audit_cell a0.Cell))],[.box 52 (eC52 a0)]⟩) (by kernel_rfl) ?_
        refine goK hT 2 (K37 1101011100 30) ⟨70,[(1,.ptr 0 0 0 0),(65,.b (audit_cell a0.Cell))],[.box 52 (eC52 a0)]⟩ ?_
        by_cases c16:(audit_cell a0.Cell)=true
        ·replace H:=iT c16 H
         rw [c16]
         refine goCut hT 6 (K37 110101110 1) [] ⟨70,[(2,.b (decide (a0.Mark≥0)))],[]⟩ h0 ?_
         exact Jj2 (decide (a0.Mark≥0)) H
        ·replace H:=iF c16 H
         rw [boF c16]
         refine goCut hT 6 (K37 110101110 1) [] ⟨70,[(2,.b false)],[]⟩ h0 ?_
         exact Jj2 false H
       ·replace H:=iF c15 H
        rw [decide_eq_false c15]
        refine goCut hT 11 (K37 110101110 1) [] ⟨70,[(2,.b false)],[]⟩ h0 ?_
        exact Jj2 false H
      ·replace H:=iF c14 H
       rw [decide_eq_false c14]
       refine goCut hT 16 (K37 110101110 1) [] ⟨70,[(2,.b false)],[]⟩ h0 ?_
       exact Jj2 false H
     ·replace H:=iF c13 H
      rw [decide_eq_false c13]
      refine goCut hT 21 (K37 110101110 1) [] ⟨70,[(2,.b false)],[]⟩ h0 ?_
      exact Jj2 false H
    ·replace H:=iF c12 H
     rw [decide_eq_false c12]
     refine goCut hT 26 (K37 110101110 1) [] ⟨70,[(2,.b false)],[]⟩ h0 ?_
     exact Jj2 false H
   ·replace H:=iF c11 H
    rw [boF c11]
    refine goCut hT 31 (K37 110101110 1) [] ⟨70,[(2,.b false)],[]⟩ h0 ?_
    exact Jj2 false H
  ·replace H:=iF c9 H
   rw [eqF c9]
   refine goK hT 3 (K37 11 1) ⟨70,[],[.box 52 (eC52 a0)]⟩ ?_
   refine goK hT 4 (K37 111 1) ⟨70,[(2,.b false)],[.box 52 (eC52 a0)]⟩ ?_
   obtain rfl:=retC H
   exact retK hf hX h0 (.b false) [] (fun _ h=>all_nil h) (.d (.v _))


theorem slices_IndexFunc_api_Entry.says {t0:Bool} {ff1:FuncId} {cc1:List DV} (a0:List api_Entry) (p1:api_Entry→Option Bool) (he1:Sy.Enters Try.prog ff1) (hp1:∀ (z0:api_Entry) r,p1 z0=some r→Says Try.prog ff1 [] ([.d (eG74 z0)] ++ List.map AV.d cc1) [] (.b r)) {r:Int} (H:slices_IndexFunc_api_Entry a0 p1=some r):Says Try.prog 83 [] [.d (eL74 t0 a0),.d (.fn ff1 cc1)] [] (.i r):=by
 refine says_of Try.func83 rfl (nt:=19) rfl (Nat.le_of_ble_eq_true rfl) fun X hP h0 hX=>?_
 have hT:TabOk X.P T:=hP▸tok
 have hf:X.P.funcs[83]? = some Try.f83:=hP▸Try.func83
 refine goK hT 13 (K83 11010 0) ⟨19,[(0,.d (eL74 t0 a0)),(1,.d (.fn ff1 cc1)),(7,.i (a0.length:Int)),(8,.i 0)],[]⟩ ?_
 have L:∀ n,(∀ (x1_8:Int),iter (slices_IndexFunc_api_Entry.step a0 p1) n (.l1 x1_8)=some r→AK X 83 ((K83 11010 0)) (Back X [] (.i r)) ⟨19,[(0,.d (eL74 t0 a0)),(1,.d (.fn ff1 cc1)),(7,.i (a0.length:Int)),(8,.i x1_8)],[]⟩):=by
  intro n
  induction n with
  | zero=>exact fun _ H=>iter0 H
  | succ n ih=>
   ·intro x1_8 H
    refine goK hT 5 (K83 1101001 0) ⟨19,[(0,.d (eL74 t0 a0)),(1,.d (.fn ff1 cc1)),(7,.i (a0.length:Int)),(8,.i x1_8),(9,.b (decide (x1_8 < (a0.length:Int))))],[]⟩ ?_
    by_cases c1:x1_8 < (a0.length:Int)
    ·replace H:=sT c1 H
     rw [decide_eq_true c1]
     refine goK hT 2 (K83 1101001 1) ⟨19,[(0,.d (eL74 t0 a0)),(1,.d (.fn ff1 cc1)),(7,.i (a0.length:Int)),(8,.i x1_8)],[]⟩ ?_
     refine goK hT 12 (K83 110100110010 3) ⟨19,[(0,.d (eL74 t0 a0)),(1,.d (.fn ff1 cc1)),(5,.i x1_8),(7,.i (a0.length:Int)),(8,.i x1_8),(11,.d (.fn ff1 cc1)),(12,.d (eL74 t0 a0)),(13,.i x1_8)],[]⟩ ?_
     obtain ⟨h2,H⟩:=sC H
     refine ak_idx hT [0,1,5,7,8,11,14] (i:=x1_8) (n:=(a0.length:Int)) h2.1 h2.2 (k':=(K83 110100110010 4)) (st':=⟨19,[(0,.d (eL74 t0 a0)),(1,.d (.fn ff1 cc1)),(5,.i x1_8),(7,.i (a0.length:Int)),(8,.i x1_8),(11,.d (.fn ff1 cc1)),(14,.d (eP74 t0 a0 x1_8.toNat 0))],[]⟩) (by kernel_rfl) ?_
     refine goK hT 1 (K83 110100110010 5) ⟨19,[(0,.d (eL74 t0 a0)),(1,.d (.fn ff1 cc1)),(5,.i x1_8),(7,.i (a0.length:Int)),(8,.i x1_8),(11,.d (.fn ff1 cc1)),(15,.d (eG74 (a0.getD x1_8.toNat api_Entry.z)))],[]⟩ ?_
     obtain ⟨v1,h3,H⟩:=sbC H
     refine ak_callP (avs:=[.d (eG74 (a0.getD x1_8.toNat api_Entry.z))] ++ List.map AV.d cc1) (dst:=some 16) (k':=(K83 110100110010 6)) [0,1,5,7,8,16] [] hP he1 (hp1 (a0.getD x1_8.toNat api_Entry.z) v1 h3) (by kernel_rfl) (hands_none _) (.cons (pass_d _) (passes_d _)) (st':=⟨19,[(0,.d (eL74 t0 a0)),(1,.d (.fn ff1 cc1)),(5,.i x1_8),(7,.i (a0.length:Int)),(8,.i x1_8),(16,.b v1)],[]⟩) (by kernel_rfl) ?_
     refine goK hT 1 (K83 11010011001 1) ⟨19,[(0,.d (eL74 t0 a0)),(1,.d (.fn ff1 cc1)),(5,.i x1_8),(7,.i (a0.length:Int)),(8,.i x1_8),(16,.b v1)],[]⟩ ?_
     by_cases c4:v1=true
     ·replace H:=sT c4 H
      rw [c4]
      refine goK hT 6 (K83 1101001100110 1) ⟨19,[(4,.i x1_8)],[]⟩ ?_
      obtain rfl:=retC H
      exact retK hf hX h0 (.i x1_8) [] (fun _ h=>all_nil h) (.d (.v _))
     ·replace H:=sF c4 H
      rw [boF c4]
      refine goK hT 3 (K83 11010011 1) ⟨19,[(0,.d (eL74 t0 a0)),(1,.d (.fn ff1 cc1)),(7,.i (a0.length:Int)),(8,.i x1_8)],[]⟩ ?_
      refine goK hT 5 (K83 11010 0) ⟨19,[(0,.d (eL74 t0 a0)),(1,.d (.fn ff1 cc1)),(7,.i (a0.length:Int)),(8,.i (IntKind.wrap .i64 (x1_8+1)))],[]⟩ ?_
      exact ih (IntKind.wrap .i64 (x1_8+1)) H
    ·replace H:=sF c1 H
     rw [decide_eq_false c1]
     refine goK hT 6 (K83 111 1) ⟨19,[(4,.i (-1))],[]⟩ ?_
     obtain rfl:=retC H
     exact retK hf hX h0 (.i (-1)) [] (fun _ h=>all_nil h) (.d (.v _))
 obtain ⟨n,H⟩:=loopC H
 exact (L n) 0 H


theorem slices_ContainsFunc_api_Entry.says {t0:Bool} {ff1:FuncId} {cc1:List DV} (a0:List api_Entry) (p1:api_Entry→Option Bool) (he1:Sy.Enters Try.prog ff1) (hp1:∀ (z0:api_Entry) r,p1 z0=some r→Says Try.prog ff1 [] ([.d (eG74 z0)] ++ List.map AV.d cc1) [] (.b r)) {r:Bool} (H:slices_ContainsFunc_api_Entry a0 p1=some r):Says Try.prog 69 [] [.d (eL74 t0 a0),.d (.fn ff1 cc1)] [] (.b r):=by
 refine says_of Try.func69 rfl (nt:=9) rfl (Nat.le_of_ble_eq_true rfl) fun X hP h0 hX=>?_
 have hT:TabOk X.P T:=hP▸tok
 have hf:X.P.funcs[69]? = some Try.f69:=hP▸Try.func69
 refine goK hT 8 (K69 110 2) ⟨9,[(5,.d (eL74 t0 a0)),(6,.d (.fn ff1 cc1))],[]⟩ ?_
 obtain ⟨v1,h1,H⟩:=ibC H
 refine ak_callP (avs:=[.d (eL74 t0 a0),.d (.fn ff1 cc1)]) (dst:=some 7) (k':=(K69 110 3)) [7] [] hP enters_83 (slices_IndexFunc_api_Entry.says (t0:=t0) (ff1:=ff1) (cc1:=cc1) a0 p1 he1 hp1 h1) (by kernel_rfl) (hands_none _) (.cons (pass_d _) (.cons (pass_d _) .nil)) (st':=⟨9,[(7,.i v1)],[]⟩) (by kernel_rfl) ?_
 refine goK hT 3 (K69 11 1) ⟨9,[(4,.b (decide (v1≥0)))],[]⟩ ?_
 obtain rfl:=retC H
 exact retK hf hX h0 (.b (decide (v1≥0))) [] (fun _ h=>all_nil h) (.d (.v _))


theorem audit_committed_1.says (a0:api_Entry) (k0:api_Mut) (k1:Int):Says Try.prog 70 [] [.d (eG74 a0),.d (.rop false 1 (fun _=>[.i k0.Client,.i k0.Seq,.i k0.Kind,eL76 true k0.Pairs,.i k0.Over.Lo,.i k0.Over.Hi,.i k0.Old]) 0 0),.d (.rop false 1 (fun _=>[.i k1]) 0 0)] [] (.b (audit_committed_1 a0 k0 k1)):=by
 obtain ⟨r,H⟩:∃ r,audit_committed_1 a0 k0 k1=r:=⟨_,rfl⟩
 rw [H]
 refine says_of Try.func70 rfl (nt:=25) rfl (Nat.le_of_ble_eq_true rfl) fun X hP h0 hX=>?_
 have hT:TabOk X.P T:=hP▸tok
 have hf:X.P.funcs[70]? = some Try.f70:=hP▸Try.func70
 have Jj1:∀ (y1_4:Bool),(audit_committed_1.j1 y1_4)=r→AK X 70 ((K70 11 1)) (Back X [] (.b r)) ⟨25,[(4,.b y1_4)],[]⟩:=by
  intro y1_4 H
  obtain rfl:=H
  exact retK hf hX h0 (.b y1_4) [] (fun _ h=>all_nil h) (.d (.v _))
 refine goK hT 14 (K70 110 7) ⟨25,[(1,.d (.rop false 1 (fun _=>[.i k0.Client,.i k0.Seq,.i k0.Kind,eL76 true k0.Pairs,.i k0.Over.Lo,.i k0.Over.Hi,.i k0.Old]) 0 0)),(2,.d (.rop false 1 (fun _=>[.i k1]) 0 0)),(3,.ptr 0 0 0 0),(11,.b (a0.M.Client == k0.Client))],[.box 74 (eC74 a0)]⟩ ?_
 by_cases c1:a0.M.Client=k0.Client
 ·replace H:=iT c1 H
  rw [eqT c1]
  refine goK hT 8 (K70 110 15) ⟨25,[(2,.d (.rop false 1 (fun _=>[.i k1]) 0 0)),(3,.ptr 0 0 0 0),(19,.b (a0.M.Seq == k0.Seq))],[.box 74 (eC74 a0)]⟩ ?_
  by_cases c2:a0.M.Seq=k0.Seq
  ·replace H:=iT c2 H
   rw [eqT c2]
   refine goCut hT 7 (K70 11 1) [] ⟨25,[(4,.b (decide (a0.Time≤k1)))],[]⟩ h0 ?_
   exact Jj1 (decide (a0.Time≤k1)) H
  ·replace H:=iF c2 H
   rw [eqF c2]
   refine goCut hT 7 (K70 11 1) [] ⟨25,[(4,.b false)],[]⟩ h0 ?_
   exact Jj1 false H
 ·replace H:=iF c1 H
  rw [eqF c1]
  refine goCut hT 15 (K70 11 1) [] ⟨25,[(4,.b false)],[]⟩ h0 ?_
  exact Jj1 false H


theorem audit_committed.says {t0:Bool} (a0:List api_Entry) (a1:api_Mut) (a2:Int) {r:Bool} (H:audit_committed a0 a1 a2=some r):Says Try.prog 54 [] [.d (eL74 t0 a0),.d (eG48 a1),.i a2] [] (.b r):=by
 refine says_of Try.func54 rfl (nt:=10) rfl (Nat.le_of_ble_eq_true rfl) fun X hP h0 hX=>?_
 have hT:TabOk X.P T:=hP▸tok
 have hf:X.P.funcs[54]? = some Try.f54:=hP▸Try.func54
 refine goK hT 10 (K54 110 2) ⟨10,[(7,.d (eL74 t0 a0)),(8,.fn 70 [.ptr 0 0 0 0,.ptr 1 0 0 0])],[.box 48 (eC48 a1),.box 3 [.i a2]]⟩ ?_
 obtain ⟨v1,h1,H⟩:=ibC H
 refine ak_callP (avs:=[.d (eL74 t0 a0),.fn 70 [.ptr 0 0 0 0,.ptr 1 0 0 0]]) (dst:=some 9) (k':=(K54 110 3)) [9] [] hP enters_69 (slices_ContainsFunc_api_Entry.says (t0:=t0) (ff1:=70) (cc1:=[.rop false 1 (fun _=>[.i a1.Client,.i a1.Seq,.i a1.Kind,eL76 true a1.Pairs,.i a1.Over.Lo,.i a1.Over.Hi,.i a1.Old]) 0 0,.rop false 1 (fun _=>[.i a2]) 0 0]) a0 (fun z0=>some (audit_committed_1 z0 a1 a2)) enters_70 (fun z0 r h=>by obtain rfl:=retC h;exact audit_committed_1.says z0 a1 a2) h1) (by kernel_rfl) (hands_none _) (.cons (pass_d _) (.cons (.fn 70 (.cons (.look (ty:=48) (cs:=[.i a1.Client,.i a1.Seq,.i a1.Kind,eL76 true a1.Pairs,.i a1.Over.Lo,.i a1.Over.Hi,.i a1.Old]) (by kernel_rfl) rfl) (.cons (.look (ty:=3) (cs:=[.i a2]) (by kernel_rfl) rfl) .nil))) .nil)) (st':=⟨10,[(9,.b v1)],[.box 48 (eC48 a1),.box 3 [.i a2]]⟩) (by kernel_rfl) ?_
 refine goK hT 2 (K54 11 1) ⟨10,[(6,.b v1)],[.box 48 (eC48 a1),.box 3 [.i a2]]⟩ ?_
 obtain rfl:=retC H
 exact retK hf hX h0 (.b v1) [] (fun _ h=>all_nil h) (.d (.v _))


theorem audit_all.says:Says Try.prog 57 [] [] [eR46 (audit_all)] (.own 0 2 0 ((audit_all).length)):=by
 obtain ⟨r,H⟩:∃ r,audit_all=r:=⟨_,rfl⟩
 rw [H]
 refine says_of Try.func57 rfl (nt:=3) rfl (Nat.le_of_ble_eq_true rfl) fun X hP h0 hX=>?_
 have hT:TabOk X.P T:=hP▸tok
 have hf:X.P.funcs[57]? = some Try.f57:=hP▸Try.func57
 refine goK hT 10 (K57 11 1) ⟨3,[(0,.own 0 2 0 1)],[.flat false 2 46 1 (fun j=>[[.i 0,.i 4096]].getD j [])]⟩ ?_
 refine ak_row 0 (kk:=2) (fz:=false) (ty:=46) (n:=([(⟨0,4096⟩:api_Span)]:List api_Span).length) (vec api_Span.e api_Span.z ([(⟨0,4096⟩:api_Span)]:List api_Span)) (by kernel_rfl) vec_lit (st':=⟨3,[(0,.own 0 2 0 (([(⟨0,4096⟩:api_Span)]:List api_Span).length))],[eR46 ([(⟨0,4096⟩:api_Span)]:List api_Span)]⟩) (by kernel_rfl) ?_
 obtain rfl:=H
 exact retK hf hX h0 (.own 0 2 0 (([(⟨0,4096⟩:api_Span)]:List api_Span).length)) [0] (fun _ h=>all_cons (nr_vec api_Span.nl) (fun _ h=>all_nil h) h) (.own _ _ _ _)


theorem audit_pendings_l1.says {t0:Bool} (a0:List api_Entry) (a1:audit_done) (a2:Int) {r:List api_Mut} (H:audit_pendings_l1 a0 a1 a2=some r):Says Try.prog 39 [] [.d (eL74 t0 a0),.d (.rop false 1 (fun _=>[eL48 false a1.l,.i a1.mark]) 0 0),.i a2] [eR48 r] (.own 0 7 0 r.length):=by
 refine says_of Try.func39 rfl (nt:=32) rfl (Nat.le_of_ble_eq_true rfl) fun X hP h0 hX=>?_
 have hT:TabOk X.P T:=hP▸tok
 have hf:X.P.funcs[39]? = some Try.f39:=hP▸Try.func39
 refine goK hT 28 (K39 1111010 0) ⟨32,[(0,.d (eL74 t0 a0)),(2,.i a2),(7,.ns),(15,.d (eL48 false a1.l)),(16,.i (a1.l.length:Int)),(17,.i 0)],[]⟩ ?_
 refine ak_nilS [0,2,7,15,16,17] 7 7 48 (vec api_Mut.e api_Mut.z []) (st':=⟨32,[(0,.d (eL74 t0 a0)),(2,.i a2),(7,.own 0 7 0 0),(15,.d (eL48 false a1.l)),(16,.i (a1.l.length:Int)),(17,.i 0)],[eR48 ([]:List api_Mut)]⟩) (by kernel_rfl) (by kernel_rfl) ?_
 have L:∀ n,(∀ (x1_17:Int) (x1_r0:List api_Mut),iter (audit_pendings_l1.step a0 a1 a2) n (.l1 x1_17 x1_r0)=some r→AK X 39 ((K39 1111010 0)) (Back X [eR48 r] (.own 0 7 0 r.length)) ⟨32,[(0,.d (eL74 t0 a0)),(2,.i a2),(7,.own 0 7 0 x1_r0.length),(15,.d (eL48 false a1.l)),(16,.i (a1.l.length:Int)),(17,.i x1_17)],[eR48 x1_r0]⟩):=by
  intro n
  induction n with
  | zero=>exact fun _ _ H=>iter0 H
  | succ n ih=>
   ·intro x1_17 x1_r0 H
    refine goK hT 5 (K39 111101001 0) ⟨32,[(0,.d (eL74 t0 a0)),(2,.i a2),(7,.own 0 7 0 x1_r0.length),(15,.d (eL48 false a1.l)),(16,.i (a1.l.length:Int)),(17,.i x1_17),(18,.b (decide (x1_17 < (a1.l.length:Int))))],[eR48 x1_r0]⟩ ?_
    by_cases c1:x1_17 < (a1.l.length:Int)
    ·replace H:=sT c1 H
     rw [decide_eq_true c1]
     refine goK hT 2 (K39 111101001 1) ⟨32,[(0,.d (eL74 t0 a0)),(2,.i a2),(7,.own 0 7 0 x1_r0.length),(15,.d (eL48 false a1.l)),(16,.i (a1.l.length:Int)),(17,.i x1_17)],[eR48 x1_r0]⟩ ?_
     refine goK hT 4 (K39 1111010011000 0) ⟨32,[(0,.d (eL74 t0 a0)),(2,.i a2),(7,.own 0 7 0 x1_r0.length),(15,.d (eL48 false a1.l)),(16,.i (a1.l.length:Int)),(17,.i x1_17)],[eR48 x1_r0]⟩ ?_
     obtain ⟨h2,H⟩:=sC H
     refine ak_idx hT [0,2,7,15,16,17,19] (i:=x1_17) (n:=(a1.l.length:Int)) h2.1 h2.2 (k':=(K39 1111010011000 1)) (st':=⟨32,[(0,.d (eL74 t0 a0)),(2,.i a2),(7,.own 0 7 0 x1_r0.length),(15,.d (eL48 false a1.l)),(16,.i (a1.l.length:Int)),(17,.i x1_17),(19,.d (eP48 false a1.l x1_17.toNat 0))],[eR48 x1_r0]⟩) (by kernel_rfl) ?_
     refine goK hT 9 (K39 11110100110010 3) ⟨32,[(0,.d (eL74 t0 a0)),(2,.i a2),(7,.own 0 7 0 x1_r0.length),(9,.ptr 1 0 0 0),(15,.d (eL48 false a1.l)),(16,.i (a1.l.length:Int)),(17,.i x1_17),(21,.d (eL74 t0 a0)),(22,.d (eG48 (a1.l.getD x1_17.toNat api_Mut.z))),(23,.i a2)],[eR48 x1_r0,.box 48 (eC48 (a1.l.getD x1_17.toNat api_Mut.z))]⟩ ?_
     obtain ⟨v1,h3,H⟩:=sbC H
     have Jj1:∀ (y1_r0:List api_Mut),stk (audit_pendings_l1.j1 x1_17 y1_r0) (iter (audit_pendings_l1.step a0 a1 a2) n)=some r→AK X 39 ((K39 1111010011 1)) (Back X [eR48 r] (.own 0 7 0 r.length)) ⟨32,[(0,.d (eL74 t0 a0)),(2,.i a2),(7,.own 0 7 0 y1_r0.length),(15,.d (eL48 false a1.l)),(16,.i (a1.l.length:Int)),(17,.i x1_17)],[eR48 y1_r0]⟩:=by
      intro y1_r0 H
      refine goK hT 5 (K39 1111010 0) ⟨32,[(0,.d (eL74 t0 a0)),(2,.i a2),(7,.own 0 7 0 y1_r0.length),(15,.d (eL48 false a1.l)),(16,.i (a1.l.length:Int)),(17,.i (IntKind.wrap .i64 (x1_17+1)))],[eR48 y1_r0]⟩ ?_
      exact ih (IntKind.wrap .i64 (x1_17+1)) y1_r0 H
     refine ak_callP (avs:=[.d (eL74 t0 a0),.d (eG48 (a1.l.getD x1_17.toNat api_Mut.z)),.i a2]) (dst:=some 24) (k':=(K39 11110100110010 4)) [0,2,7,9,15,16,17,24] [] hP enters_54 (audit_committed.says (t0:=t0) a0 (a1.l.getD x1_17.toNat api_Mut.z) a2 h3) (by kernel_rfl) (hands_none _) (.cons (pass_d _) (.cons (pass_d _) (.cons (pass_d _) .nil))) (st':=⟨32,[(0,.d (eL74 t0 a0)),(2,.i a2),(7,.own 0 7 0 x1_r0.length),(9,.ptr 1 0 0 0),(15,.d (eL48 false a1.l)),(16,.i (a1.l.length:Int)),(17,.i x1_17),(24,.b v1)],[eR48 x1_r0,.box 48 (eC48 (a1.l.getD x1_17.toNat api_Mut.z))]⟩) (by kernel_rfl) ?_
     refine goK hT 2 (K39 1111010011001 1) ⟨32,[(0,.d (eL74 t0 a0)),(2,.i a2),(7,.own 0 7 0 x1_r0.length),(9,.ptr 1 0 0 0),(15,.d (eL48 false a1.l)),(16,.i (a1.l.length:Int)),(17,.i x1_17),(25,.b (!v1))],[eR48 x1_r0,.box 48 (eC48 (a1.l.getD x1_17.toNat api_Mut.z))]⟩ ?_
     by_cases c4:v1=true
     ·replace H:=sT c4 H
      rw [c4]
      refine goCut hT 3 (K39 1111010011 1) [0] ⟨32,[(0,.d (eL74 t0 a0)),(2,.i a2),(7,.own 0 7 0 x1_r0.length),(15,.d (eL48 false a1.l)),(16,.i (a1.l.length:Int)),(17,.i x1_17)],[eR48 x1_r0]⟩ h0 ?_
      exact Jj1 x1_r0 H
     ·replace H:=sF c4 H
      rw [boF c4]
      refine goK hT 5 (K39 111101001100110 3) ⟨32,[(0,.d (eL74 t0 a0)),(2,.i a2),(15,.d (eL48 false a1.l)),(16,.i (a1.l.length:Int)),(17,.i x1_17),(26,.own 0 7 0 x1_r0.length),(28,.own 2 7 0 1)],[eR48 x1_r0,.box 48 (eC48 (a1.l.getD x1_17.toNat api_Mut.z)),.flat false 7 48 1 (fun j=>[api_Mut.e (a1.l.getD x1_17.toNat api_Mut.z)].getD j [])]⟩ ?_
      obtain ⟨h5,H⟩:=sC H
      refine ak_append1 (id:=0) (kk:=7) (by':=72) (t:=65) (e:=48) (z:=[.int .i64 0,.int .i64 0,.int .i64 0,.slice none 0 0,.int .i64 0,.int .i64 0,.int .i64 0]) (dst:=some 29) (id2:=2) (e2:=48) (fz:=false) (k':=(K39 111101001100110 4)) hT api_Mut.e api_Mut.z x1_r0 (a1.l.getD x1_17.toNat api_Mut.z) [0,2,15,16,17,29] (by kernel_rfl) (by kernel_rfl) (by kernel_rfl) (by kernel_rfl) (by kernel_rfl) (by kernel_rfl) (by kernel_rfl) h5 (by omega) (st':=⟨32,[(0,.d (eL74 t0 a0)),(2,.i a2),(15,.d (eL48 false a1.l)),(16,.i (a1.l.length:Int)),(17,.i x1_17),(29,.own 3 7 0 ((x1_r0 ++ [(a1.l.getD x1_17.toNat api_Mut.z)]).length))],[.gone,.box 48 (eC48 (a1.l.getD x1_17.toNat api_Mut.z)),.flat false 7 48 1 (fun j=>[api_Mut.e (a1.l.getD x1_17.toNat api_Mut.z)].getD j []),eR48 (x1_r0 ++ [(a1.l.getD x1_17.toNat api_Mut.z)])]⟩) (by kernel_rfl) ?_
      refine goCut hT 3 (K39 1111010011 1) [3] ⟨32,[(0,.d (eL74 t0 a0)),(2,.i a2),(7,.own 0 7 0 (x1_r0 ++ [(a1.l.getD x1_17.toNat api_Mut.z)]).length),(15,.d (eL48 false a1.l)),(16,.i (a1.l.length:Int)),(17,.i x1_17)],[eR48 (x1_r0 ++ [(a1.l.getD x1_17.toNat api_Mut.z)])]⟩ h0 ?_
      exact Jj1 (x1_r0 ++ [(a1.l.getD x1_17.toNat api_Mut.z)]) H
    ·replace H:=sF c1 H
     rw [decide_eq_false c1]
     refine goK hT 7 (K39 11111 1) ⟨32,[(6,.own 0 7 0 x1_r0.length)],[eR48 x1_r0]⟩ ?_
     obtain rfl:=retC H
     exact retK hf hX h0 (.own 0 7 0 x1_r0.length) [0] (fun _ h=>all_cons (nr_vec api_Mut.nl) (fun _ h=>all_nil h) h) (.own _ _ _ _)
 refine cutK [0] ⟨32,[(0,.d (eL74 t0 a0)),(2,.i a2),(7,.own 0 7 0 ([]:List api_Mut).length),(15,.d (eL48 false a1.l)),(16,.i (a1.l.length:Int)),(17,.i 0)],[eR48 ([]:List api_Mut)]⟩ h0 ?_
 obtain ⟨n,H⟩:=loopC H
 exact (L n) 0 ([]:List api_Mut) H


theorem span_Check.says {t0:Bool} (a0:List api_Span) {r:Bool} (H:span_Check a0=some r):Says Try.prog 72 [] [.d (eL46 t0 a0)] [] (.b r):=by
 refine says_of Try.func72 rfl (nt:=34) rfl (Nat.le_of_ble_eq_true rfl) fun X hP h0 hX=>?_
 have hT:TabOk X.P T:=hP▸tok
 have hf:X.P.funcs[72]? = some Try.f72:=hP▸Try.func72
 refine goK hT 13 (K72 11010 0) ⟨34,[(0,.d (eL46 t0 a0)),(5,.d (eL46 t0 a0)),(6,.i (a0.length:Int)),(7,.i 0)],[]⟩ ?_
 have L:∀ n,(∀ (x1_7:Int),iter (span_Check.step a0) n (.l1 x1_7)=some r→AK X 72 ((K72 11010 0)) (Back X [] (.b r)) ⟨34,[(0,.d (eL46 t0 a0)),(5,.d (eL46 t0 a0)),(6,.i (a0.length:Int)),(7,.i x1_7)],[]⟩):=by
  intro n
  induction n with
  | zero=>exact fun _ H=>iter0 H
  | succ n ih=>
   ·intro x1_7 H
    refine goK hT 5 (K72 1101001 0) ⟨34,[(0,.d (eL46 t0 a0)),(5,.d (eL46 t0 a0)),(6,.i (a0.length:Int)),(7,.i x1_7),(8,.b (decide (x1_7 < (a0.length:Int))))],[]⟩ ?_
    by_cases c1:x1_7 < (a0.length:Int)
    ·replace H:=sT c1 H
     rw [decide_eq_true c1]
     refine goK hT 2 (K72 1101001 1) ⟨34,[(0,.d (eL46 t0 a0)),(5,.d (eL46 t0 a0)),(6,.i (a0.length:Int)),(7,.i x1_7)],[]⟩ ?_
     refine goK hT 5 (K72 11010011000 1) ⟨34,[(0,.d (eL46 t0 a0)),(5,.d (eL46 t0 a0)),(6,.i (a0.length:Int)),(7,.i x1_7),(9,.i x1_7)],[]⟩ ?_
     obtain ⟨h2,H⟩:=sC H
     have Jj1:∀ (y1_29:Bool),stk (span_Check.j1 x1_7 y1_29) (iter (span_Check.step a0) n)=some r→AK X 72 ((K72 11010011001 1)) (Back X [] (.b r)) ⟨34,[(0,.d (eL46 t0 a0)),(5,.d (eL46 t0 a0)),(6,.i (a0.length:Int)),(7,.i x1_7),(29,.b y1_29)],[]⟩:=by
      intro y1_29 H
      by_cases c6:y1_29=true
      ·replace H:=sT c6 H
       rw [c6]
       refine goK hT 5 (K72 1101001100110 1) ⟨34,[(2,.b false)],[]⟩ ?_
       obtain rfl:=retC H
       exact retK hf hX h0 (.b false) [] (fun _ h=>all_nil h) (.d (.v _))
      ·replace H:=sF c6 H
       rw [boF c6]
       refine goK hT 3 (K72 11010011 1) ⟨34,[(0,.d (eL46 t0 a0)),(5,.d (eL46 t0 a0)),(6,.i (a0.length:Int)),(7,.i x1_7)],[]⟩ ?_
       refine goK hT 5 (K72 11010 0) ⟨34,[(0,.d (eL46 t0 a0)),(5,.d (eL46 t0 a0)),(6,.i (a0.length:Int)),(7,.i (IntKind.wrap .i64 (x1_7+1)))],[]⟩ ?_
       exact ih (IntKind.wrap .i64 (x1_7+1)) H
     refine ak_idx hT [0,5,6,7,9,10] (i:=x1_7) (n:=(a0.length:Int)) h2.1 h2.2 (k':=(K72 11010011000 2)) (st':=⟨34,[(0,.d (eL46 t0 a0)),(5,.d (eL46 t0 a0)),(6,.i (a0.length:Int)),(7,.i x1_7),(9,.i x1_7),(10,.d (eP46 t0 a0 x1_7.toNat 0))],[]⟩) (by kernel_rfl) ?_
     refine goK hT 6 (K72 11010011001 0) ⟨34,[(0,.d (eL46 t0 a0)),(3,.i x1_7),(4,.ptr 0 0 0 0),(5,.d (eL46 t0 a0)),(6,.i (a0.length:Int)),(7,.i x1_7)],[.box 46 (eC46 (a0.getD x1_7.toNat api_Span.z))]⟩ ?_
     by_cases c3:(span_One (a0.getD x1_7.toNat api_Span.z))=true
     ·replace H:=sT c3 H
      by_cases c4:x1_7 > 0
      ·replace H:=sT c4 H
       obtain ⟨h5,H⟩:=sC H
       refine drawK (hP▸mixed) 18 [0,3,4,5,6,7] [some (.d (eG46 (a0.getD x1_7.toNat api_Span.z))),some (.b true),some (.b false),some (.b false),some (.i x1_7),some (.b true),some (.b true),some (.ptr 0 0 0 0),some (.i ((a0.getD x1_7.toNat api_Span.z).Lo)),some (.d (eL46 t0 a0)),some (.i x1_7),some (.i (IntKind.wrap .i64 (x1_7 - 1))),some (.d (eP46 t0 a0 ((IntKind.wrap .i64 (x1_7 - 1)).toNat) 0)),some (.d (eP46 t0 a0 ((IntKind.wrap .i64 (x1_7 - 1)).toNat) 1)),some (.i ((a0.getD ((IntKind.wrap .i64 (x1_7 - 1)).toNat) api_Span.z).Hi)),some (.b (decide (((a0.getD x1_7.toNat api_Span.z).Lo)≤((a0.getD ((IntKind.wrap .i64 (x1_7 - 1)).toNat) api_Span.z).Hi)))),some (.b (decide (((a0.getD x1_7.toNat api_Span.z).Lo)≤((a0.getD ((IntKind.wrap .i64 (x1_7 - 1)).toNat) api_Span.z).Hi)))),some (.b (decide (((a0.getD x1_7.toNat api_Span.z).Lo)≤((a0.getD ((IntKind.wrap .i64 (x1_7 - 1)).toNat) api_Span.z).Hi))))] (opG (opG (opG (opG (opG (opS (opG (opG (opG (opG (opG (opG (opV (opG (opG (opG (opS (opG op0 hT) (fun R rest h=>ak_callD (avs:=[.d (eG46 (a0.getD x1_7.toNat api_Span.z))]) (dst:=some 13) hP enters_61 (by have q:=span_One.says (a0.getD x1_7.toNat api_Span.z);rw [c3] at q;exact q) (by kernel_rfl) (.cons (pass_d _) .nil) (by kernel_rfl) h)) hT) hT) hT) hT 17 (.b (decide (x1_7 > 0))) (.b true) (by rw [decide_eq_true c4]<;>rfl)) hT) hT) hT) hT) hT) hT) (fun R rest h=>ak_idx0 hT (i:=IntKind.wrap .i64 (x1_7 - 1)) (n:=(a0.length:Int)) h5.1 h5.2 (by kernel_rfl) h)) hT) hT) hT) hT) hT) ?_
       refine goCut hT 1 (K72 11010011001 1) [] ⟨34,[(0,.d (eL46 t0 a0)),(5,.d (eL46 t0 a0)),(6,.i (a0.length:Int)),(7,.i x1_7),(29,.b (decide (((a0.getD x1_7.toNat api_Span.z).Lo)≤((a0.getD ((IntKind.wrap .i64 (x1_7 - 1)).toNat) api_Span.z).Hi))))],[]⟩ h0 ?_
       exact Jj1 (decide (((a0.getD x1_7.toNat api_Span.z).Lo)≤((a0.getD ((IntKind.wrap .i64 (x1_7 - 1)).toNat) api_Span.z).Hi))) H
      ·replace H:=sF c4 H
       refine drawK (hP▸mixed) 18 [0,3,4,5,6,7] [some (.d (eG46 (a0.getD x1_7.toNat api_Span.z))),some (.b true),some (.b false),some (.b false),some (.i x1_7),some (.b false),some (.b false),some (.tup []),some (.tup []),some (.tup []),some (.tup []),some (.tup []),some (.tup []),some (.tup []),some (.tup []),some (.tup []),some (.b false),some (.b false)] (opG (opG (opG (opG (opG (opG (opG (opG (opG (opG (opG (opG (opV (opG (opG (opG (opS (opG op0 hT) (fun R rest h=>ak_callD (avs:=[.d (eG46 (a0.getD x1_7.toNat api_Span.z))]) (dst:=some 13) hP enters_61 (by have q:=span_One.says (a0.getD x1_7.toNat api_Span.z);rw [c3] at q;exact q) (by kernel_rfl) (.cons (pass_d _) .nil) (by kernel_rfl) h)) hT) hT) hT) hT 17 (.b (decide (x1_7 > 0))) (.b false) (by rw [decide_eq_false c4]<;>rfl)) hT) hT) hT) hT) hT) hT) hT) hT) hT) hT) hT) hT) ?_
       refine goCut hT 1 (K72 11010011001 1) [] ⟨34,[(0,.d (eL46 t0 a0)),(5,.d (eL46 t0 a0)),(6,.i (a0.length:Int)),(7,.i x1_7),(29,.b false)],[]⟩ h0 ?_
       exact Jj1 false H
     ·replace H:=sF c3 H
      refine drawK (hP▸mixed) 18 [0,3,4,5,6,7] [some (.d (eG46 (a0.getD x1_7.toNat api_Span.z))),some (.b false),some (.b true),some (.b true),some (.tup []),some (.tup []),some (.tup []),some (.tup []),some (.tup []),some (.tup []),some (.tup []),some (.tup []),some (.tup []),some (.tup []),some (.tup []),some (.tup []),some (.tup []),some (.b true)] (opG (opG (opG (opG (opG (opG (opG (opG (opG (opG (opG (opG (opG (opG (opG (opG (opS (opG op0 hT) (fun R rest h=>ak_callD (avs:=[.d (eG46 (a0.getD x1_7.toNat api_Span.z))]) (dst:=some 13) hP enters_61 (by have q:=span_One.says (a0.getD x1_7.toNat api_Span.z);rw [boF c3] at q;exact q) (by kernel_rfl) (.cons (pass_d _) .nil) (by kernel_rfl) h)) hT) hT) hT) hT) hT) hT) hT) hT) hT) hT) hT) hT) hT) hT) hT) hT) ?_
      refine goCut hT 1 (K72 11010011001 1) [] ⟨34,[(0,.d (eL46 t0 a0)),(5,.d (eL46 t0 a0)),(6,.i (a0.length:Int)),(7,.i x1_7),(29,.b true)],[]⟩ h0 ?_
      exact Jj1 true H
    ·replace H:=sF c1 H
     rw [decide_eq_false c1]
     refine goK hT 9 (K72 111 1) ⟨34,[(2,.b (decide ((a0.length:Int)≤64)))],[]⟩ ?_
     obtain rfl:=retC H
     exact retK hf hX h0 (.b (decide ((a0.length:Int)≤64))) [] (fun _ h=>all_nil h) (.d (.v _))
 obtain ⟨n,H⟩:=loopC H
 exact (L n) 0 H


theorem judge_Fold_1.says (a0:api_Entry) {r:Bool} (H:judge_Fold_1 a0=some r):Says Try.prog 76 [] [.d (eG74 a0)] [] (.b r):=by
 refine says_of Try.func76 rfl (nt:=7) rfl (Nat.le_of_ble_eq_true rfl) fun X hP h0 hX=>?_
 have hT:TabOk X.P T:=hP▸tok
 have hf:X.P.funcs[76]? = some Try.f76:=hP▸Try.func76
 refine goK hT 9 (K76 110 2) ⟨7,[(4,.d (eG48 a0.M))],[.box 74 (eC74 a0)]⟩ ?_
 obtain ⟨v1,h1,H⟩:=ibC H
 refine ak_callP (avs:=[.d (eG48 a0.M)]) (dst:=some 5) (k':=(K76 110 3)) [5] [] hP enters_25 (mut_Check.says a0.M h1) (by kernel_rfl) (hands_none _) (.cons (pass_d _) .nil) (st':=⟨7,[(5,.b v1)],[.box 74 (eC74 a0)]⟩) (by kernel_rfl) ?_
 refine goK hT 3 (K76 11 1) ⟨7,[(2,.b (!v1))],[.box 74 (eC74 a0)]⟩ ?_
 obtain rfl:=retC H
 exact retK hf hX h0 (.b (!v1)) [] (fun _ h=>all_nil h) (.d (.v _))


noncomputable abbrev table_Check.q1 (a0:List api_Pair) (x1_7:Int):=((a0.getD x1_7.toNat api_Pair.z).Key)


theorem table_Check.says {t0:Bool} (a0:List api_Pair) {r:Bool} (H:table_Check a0=some r):Says Try.prog 71 [] [.d (eL76 t0 a0)] [] (.b r):=by
 refine says_of Try.func71 rfl (nt:=46) rfl (Nat.le_of_ble_eq_true rfl) fun X hP h0 hX=>?_
 have hT:TabOk X.P T:=hP▸tok
 have hf:X.P.funcs[71]? = some Try.f71:=hP▸Try.func71
 refine goK hT 13 (K71 11010 0) ⟨46,[(0,.d (eL76 t0 a0)),(5,.d (eL76 t0 a0)),(6,.i (a0.length:Int)),(7,.i 0)],[]⟩ ?_
 have L:∀ n,(∀ (x1_7:Int),iter (table_Check.step a0) n (.l1 x1_7)=some r→AK X 71 ((K71 11010 0)) (Back X [] (.b r)) ⟨46,[(0,.d (eL76 t0 a0)),(5,.d (eL76 t0 a0)),(6,.i (a0.length:Int)),(7,.i x1_7)],[]⟩):=by
  intro n
  induction n with
  | zero=>exact fun _ H=>iter0 H
  | succ n ih=>
   ·intro x1_7 H
    refine goK hT 5 (K71 1101001 0) ⟨46,[(0,.d (eL76 t0 a0)),(5,.d (eL76 t0 a0)),(6,.i (a0.length:Int)),(7,.i x1_7),(8,.b (decide (x1_7 < (a0.length:Int))))],[]⟩ ?_
    by_cases c1:x1_7 < (a0.length:Int)
    ·replace H:=sT c1 H
     rw [decide_eq_true c1]
     refine goK hT 2 (K71 1101001 1) ⟨46,[(0,.d (eL76 t0 a0)),(5,.d (eL76 t0 a0)),(6,.i (a0.length:Int)),(7,.i x1_7)],[]⟩ ?_
     refine goK hT 5 (K71 11010011000 1) ⟨46,[(0,.d (eL76 t0 a0)),(5,.d (eL76 t0 a0)),(6,.i (a0.length:Int)),(7,.i x1_7),(9,.i x1_7)],[]⟩ ?_
     obtain ⟨h2,H⟩:=sC H
     have Jj1:∀ (y1_44:Bool),stk (table_Check.j1 x1_7 y1_44) (iter (table_Check.step a0) n)=some r→AK X 71 ((K71 11010011001 1)) (Back X [] (.b r)) ⟨46,[(0,.d (eL76 t0 a0)),(5,.d (eL76 t0 a0)),(6,.i (a0.length:Int)),(7,.i x1_7),(44,.b y1_44)],[]⟩:=by
      intro y1_44 H
      by_cases c9:y1_44=true
      ·replace H:=sT c9 H
       rw [c9]
       refine goK hT 5 (K71 1101001100110 1) ⟨46,[(2,.b false)],[]⟩ ?_
       obtain rfl:=retC H
       exact retK hf hX h0 (.b false) [] (fun _ h=>all_nil h) (.d (.v _))
      ·replace H:=sF c9 H
       rw [boF c9]
       refine goK hT 3 (K71 11010011 1) ⟨46,[(0,.d (eL76 t0 a0)),(5,.d (eL76 t0 a0)),(6,.i (a0.length:Int)),(7,.i x1_7)],[]⟩ ?_
       refine goK hT 5 (K71 11010 0) ⟨46,[(0,.d (eL76 t0 a0)),(5,.d (eL76 t0 a0)),(6,.i (a0.length:Int)),(7,.i (IntKind.wrap .i64 (x1_7+1)))],[]⟩ ?_
       exact ih (IntKind.wrap .i64 (x1_7+1)) H
     refine ak_idx hT [0,5,6,7,9,10] (i:=x1_7) (n:=(a0.length:Int)) h2.1 h2.2 (k':=(K71 11010011000 2)) (st':=⟨46,[(0,.d (eL76 t0 a0)),(5,.d (eL76 t0 a0)),(6,.i (a0.length:Int)),(7,.i x1_7),(9,.i x1_7),(10,.d (eP76 t0 a0 x1_7.toNat 0))],[]⟩) (by kernel_rfl) ?_
     refine goK hT 6 (K71 11010011001 0) ⟨46,[(0,.d (eL76 t0 a0)),(3,.i x1_7),(4,.ptr 0 0 0 0),(5,.d (eL76 t0 a0)),(6,.i (a0.length:Int)),(7,.i x1_7)],[.box 76 (eC76 (a0.getD x1_7.toNat api_Pair.z))]⟩ ?_
     by_cases c3:(table_Check.q1 a0 x1_7) < 0
     ·replace H:=sT c3 H
      refine drawK (hP▸mixed) 33 [0,3,4,5,6,7] [some (.ptr 0 0 0 0),some (.i (table_Check.q1 a0 x1_7)),some (.b true),some (.b true),some (.tup []),some (.tup []),some (.tup []),some (.b true),some (.b true),some (.tup []),some (.tup []),some (.tup []),some (.b true),some (.b true),some (.tup []),some (.tup []),some (.tup []),some (.b true),some (.b true),some (.tup []),some (.tup []),some (.tup []),some (.tup []),some (.tup []),some (.tup []),some (.tup []),some (.tup []),some (.tup []),some (.tup []),some (.tup []),some (.tup []),some (.tup []),some (.b true)] (opG (opG (opG (opG (opG (opG (opG (opG (opG (opG (opG (opG (opG (opG (opG (opG (opG (opG (opG (opG (opG (opG (opG (opG (opG (opG (opG (opG (opG (opG (opV (opG (opG op0 hT) hT) hT 14 (.b (decide ((table_Check.q1 a0 x1_7) < 0))) (.b true) (by rw [decide_eq_true c3]<;>rfl)) hT) hT) hT) hT) hT) hT) hT) hT) hT) hT) hT) hT) hT) hT) hT) hT) hT) hT) hT) hT) hT) hT) hT) hT) hT) hT) hT) hT) hT) hT) ?_
      refine goCut hT 1 (K71 11010011001 1) [] ⟨46,[(0,.d (eL76 t0 a0)),(5,.d (eL76 t0 a0)),(6,.i (a0.length:Int)),(7,.i x1_7),(44,.b true)],[]⟩ h0 ?_
      exact Jj1 true H
     ·replace H:=sF c3 H
      by_cases c4:(table_Check.q1 a0 x1_7)≥4096
      ·replace H:=sT c4 H
       refine drawK (hP▸mixed) 33 [0,3,4,5,6,7] [some (.ptr 0 0 0 0),some (.i (table_Check.q1 a0 x1_7)),some (.b false),some (.b false),some (.ptr 0 0 0 0),some (.i (table_Check.q1 a0 x1_7)),some (.b true),some (.b true),some (.b true),some (.tup []),some (.tup []),some (.tup []),some (.b true),some (.b true),some (.tup []),some (.tup []),some (.tup []),some (.b true),some (.b true),some (.tup []),some (.tup []),some (.tup []),some (.tup []),some (.tup []),some (.tup []),some (.tup []),some (.tup []),some (.tup []),some (.tup []),some (.tup []),some (.tup []),some (.tup []),some (.b true)] (opG (opG (opG (opG (opG (opG (opG (opG (opG (opG (opG (opG (opG (opG (opG (opG (opG (opG (opG (opG (opG (opG (opG (opG (opG (opG (opV (opG (opG (opG (opV (opG (opG op0 hT) hT) hT 14 (.b (decide ((table_Check.q1 a0 x1_7) < 0))) (.b false) (by rw [decide_eq_false c3]<;>rfl)) hT) hT) hT) hT 18 (.b (decide ((table_Check.q1 a0 x1_7)≥4096))) (.b true) (by rw [decide_eq_true c4]<;>rfl)) hT) hT) hT) hT) hT) hT) hT) hT) hT) hT) hT) hT) hT) hT) hT) hT) hT) hT) hT) hT) hT) hT) hT) hT) hT) hT) ?_
       refine goCut hT 1 (K71 11010011001 1) [] ⟨46,[(0,.d (eL76 t0 a0)),(5,.d (eL76 t0 a0)),(6,.i (a0.length:Int)),(7,.i x1_7),(44,.b true)],[]⟩ h0 ?_
       exact Jj1 true H
      ·replace H:=sF c4 H
       by_cases c5:((a0.getD x1_7.toNat api_Pair.z).Val) < (-1099511627776)
       ·replace H:=sT c5 H
        refine drawK (hP▸mixed) 33 [0,3,4,5,6,7] [some (.ptr 0 0 0 0),some (.i (table_Check.q1 a0 x1_7)),some (.b false),some (.b false),some (.ptr 0 0 0 0),some (.i (table_Check.q1 a0 x1_7)),some (.b false),some (.b false),some (.b false),some (.ptr 0 0 0 1),some (.i ((a0.getD x1_7.toNat api_Pair.z).Val)),some (.b true),some (.b true),some (.b true),some (.tup []),some (.tup []),some (.tup []),some (.b true),some (.b true),some (.tup []),some (.tup []),some (.tup []),some (.tup []),some (.tup []),some (.tup []),some (.tup []),some (.tup []),some (.tup []),some (.tup []),some (.tup []),some (.tup []),some (.tup []),some (.b true)] (opG (opG (opG (opG (opG (opG (opG (opG (opG (opG (opG (opG (opG (opG (opG (opG (opG (opG (opG (opG (opG (opV (opG (opG (opG (opG (opV (opG (opG (opG (opV (opG (opG op0 hT) hT) hT 14 (.b (decide ((table_Check.q1 a0 x1_7) < 0))) (.b false) (by rw [decide_eq_false c3]<;>rfl)) hT) hT) hT) hT 18 (.b (decide ((table_Check.q1 a0 x1_7)≥4096))) (.b false) (by rw [decide_eq_false c4]<;>rfl)) hT) hT) hT) hT) hT 23 (.b (decide (((a0.getD x1_7.toNat api_Pair.z).Val) < (-1099511627776)))) (.b true) (by rw [decide_eq_true c5]<;>rfl)) hT) hT) hT) hT) hT) hT) hT) hT) hT) hT) hT) hT) hT) hT) hT) hT) hT) hT) hT) hT) hT) ?_
        refine goCut hT 1 (K71 11010011001 1) [] ⟨46,[(0,.d (eL76 t0 a0)),(5,.d (eL76 t0 a0)),(6,.i (a0.length:Int)),(7,.i x1_7),(44,.b true)],[]⟩ h0 ?_
        exact Jj1 true H
       ·replace H:=sF c5 H
        by_cases c6:((a0.getD x1_7.toNat api_Pair.z).Val) > 1099511627776
        ·replace H:=sT c6 H
         refine drawK (hP▸mixed) 33 [0,3,4,5,6,7] [some (.ptr 0 0 0 0),some (.i (table_Check.q1 a0 x1_7)),some (.b false),some (.b false),some (.ptr 0 0 0 0),some (.i (table_Check.q1 a0 x1_7)),some (.b false),some (.b false),some (.b false),some (.ptr 0 0 0 1),some (.i ((a0.getD x1_7.toNat api_Pair.z).Val)),some (.b false),some (.b false),some (.b false),some (.ptr 0 0 0 1),some (.i ((a0.getD x1_7.toNat api_Pair.z).Val)),some (.b true),some (.b true),some (.b true),some (.tup []),some (.tup []),some (.tup []),some (.tup []),some (.tup []),some (.tup []),some (.tup []),some (.tup []),some (.tup []),some (.tup []),some (.tup []),some (.tup []),some (.tup []),some (.b true)] (opG (opG (opG (opG (opG (opG (opG (opG (opG (opG (opG (opG (opG (opG (opG (opG (opV (opG (opG (opG (opG (opV (opG (opG (opG (opG (opV (opG (opG (opG (opV (opG (opG op0 hT) hT) hT 14 (.b (decide ((table_Check.q1 a0 x1_7) < 0))) (.b false) (by rw [decide_eq_false c3]<;>rfl)) hT) hT) hT) hT 18 (.b (decide ((table_Check.q1 a0 x1_7)≥4096))) (.b false) (by rw [decide_eq_false c4]<;>rfl)) hT) hT) hT) hT) hT 23 (.b (decide (((a0.getD x1_7.toNat api_Pair.z).Val) < (-1099511627776)))) (.b false) (by rw [decide_eq_false c5]<;>rfl)) hT) hT) hT) hT) hT 28 (.b (decide (((a0.getD x1_7.toNat api_Pair.z).Val) > 1099511627776))) (.b true) (by rw [decide_eq_true c6]<;>rfl)) hT) hT) hT) hT) hT) hT) hT) hT) hT) hT) hT) hT) hT) hT) hT) hT) ?_
         refine goCut hT 1 (K71 11010011001 1) [] ⟨46,[(0,.d (eL76 t0 a0)),(5,.d (eL76 t0 a0)),(6,.i (a0.length:Int)),(7,.i x1_7),(44,.b true)],[]⟩ h0 ?_
         exact Jj1 true H
        ·replace H:=sF c6 H
         by_cases c7:x1_7 > 0
         ·replace H:=sT c7 H
          obtain ⟨h8,H⟩:=sC H
          refine drawK (hP▸mixed) 33 [0,3,4,5,6,7] [some (.ptr 0 0 0 0),some (.i (table_Check.q1 a0 x1_7)),some (.b false),some (.b false),some (.ptr 0 0 0 0),some (.i (table_Check.q1 a0 x1_7)),some (.b false),some (.b false),some (.b false),some (.ptr 0 0 0 1),some (.i ((a0.getD x1_7.toNat api_Pair.z).Val)),some (.b false),some (.b false),some (.b false),some (.ptr 0 0 0 1),some (.i ((a0.getD x1_7.toNat api_Pair.z).Val)),some (.b false),some (.b false),some (.b false),some (.i x1_7),some (.b true),some (.b true),some (.d (eL76 t0 a0)),some (.i x1_7),some (.i (IntKind.wrap .i64 (x1_7 - 1))),some (.d (eP76 t0 a0 ((IntKind.wrap .i64 (x1_7 - 1)).toNat) 0)),some (.d (eP76 t0 a0 ((IntKind.wrap .i64 (x1_7 - 1)).toNat) 0)),some (.i ((a0.getD ((IntKind.wrap .i64 (x1_7 - 1)).toNat) api_Pair.z).Key)),some (.ptr 0 0 0 0),some (.i (table_Check.q1 a0 x1_7)),some (.b (decide (((a0.getD ((IntKind.wrap .i64 (x1_7 - 1)).toNat) api_Pair.z).Key)≥(table_Check.q1 a0 x1_7)))),some (.b (decide (((a0.getD ((IntKind.wrap .i64 (x1_7 - 1)).toNat) api_Pair.z).Key)≥(table_Check.q1 a0 x1_7)))),some (.b (decide (((a0.getD ((IntKind.wrap .i64 (x1_7 - 1)).toNat) api_Pair.z).Key)≥(table_Check.q1 a0 x1_7))))] (opG (opG (opG (opG (opG (opG (opG (opS (opG (opG (opG (opG (opV (opG (opG (opG (opV (opG (opG (opG (opG (opV (opG (opG (opG (opG (opV (opG (opG (opG (opV (opG (opG op0 hT) hT) hT 14 (.b (decide ((table_Check.q1 a0 x1_7) < 0))) (.b false) (by rw [decide_eq_false c3]<;>rfl)) hT) hT) hT) hT 18 (.b (decide ((table_Check.q1 a0 x1_7)≥4096))) (.b false) (by rw [decide_eq_false c4]<;>rfl)) hT) hT) hT) hT) hT 23 (.b (decide (((a0.getD x1_7.toNat api_Pair.z).Val) < (-1099511627776)))) (.b false) (by rw [decide_eq_false c5]<;>rfl)) hT) hT) hT) hT) hT 28 (.b (decide (((a0.getD x1_7.toNat api_Pair.z).Val) > 1099511627776))) (.b false) (by rw [decide_eq_false c6]<;>rfl)) hT) hT) hT) hT 32 (.b (decide (x1_7 > 0))) (.b true) (by rw [decide_eq_true c7]<;>rfl)) hT) hT) hT) hT) (fun R rest h=>ak_idx0 hT (i:=IntKind.wrap .i64 (x1_7 - 1)) (n:=(a0.length:Int)) h8.1 h8.2 (by kernel_rfl) h)) hT) hT) hT) hT) hT) hT) hT) ?_
          refine goCut hT 1 (K71 11010011001 1) [] ⟨46,[(0,.d (eL76 t0 a0)),(5,.d (eL76 t0 a0)),(6,.i (a0.length:Int)),(7,.i x1_7),(44,.b (decide (((a0.getD ((IntKind.wrap .i64 (x1_7 - 1)).toNat) api_Pair.z).Key)≥(table_Check.q1 a0 x1_7))))],[]⟩ h0 ?_
          exact Jj1 (decide (((a0.getD ((IntKind.wrap .i64 (x1_7 - 1)).toNat) api_Pair.z).Key)≥(table_Check.q1 a0 x1_7))) H
         ·replace H:=sF c7 H
          refine drawK (hP▸mixed) 33 [0,3,4,5,6,7] [some (.ptr 0 0 0 0),some (.i (table_Check.q1 a0 x1_7)),some (.b false),some (.b false),some (.ptr 0 0 0 0),some (.i (table_Check.q1 a0 x1_7)),some (.b false),some (.b false),some (.b false),some (.ptr 0 0 0 1),some (.i ((a0.getD x1_7.toNat api_Pair.z).Val)),some (.b false),some (.b false),some (.b false),some (.ptr 0 0 0 1),some (.i ((a0.getD x1_7.toNat api_Pair.z).Val)),some (.b false),some (.b false),some (.b false),some (.i x1_7),some (.b false),some (.b false),some (.tup []),some (.tup []),some (.tup []),some (.tup []),some (.tup []),some (.tup []),some (.tup []),some (.tup []),some (.tup []),some (.b false),some (.b false)] (opG (opG (opG (opG (opG (opG (opG (opG (opG (opG (opG (opG (opV (opG (opG (opG (opV (opG (opG (opG (opG (opV (opG (opG (opG (opG (opV (opG (opG (opG (opV (opG (opG op0 hT) hT) hT 14 (.b (decide ((table_Check.q1 a0 x1_7) < 0))) (.b false) (by rw [decide_eq_false c3]<;>rfl)) hT) hT) hT) hT 18 (.b (decide ((table_Check.q1 a0 x1_7)≥4096))) (.b false) (by rw [decide_eq_false c4]<;>rfl)) hT) hT) hT) hT) hT 23 (.b (decide (((a0.getD x1_7.toNat api_Pair.z).Val) < (-1099511627776)))) (.b false) (by rw [decide_eq_false c5]<;>rfl)) hT) hT) hT) hT) hT 28 (.b (decide (((a0.getD x1_7.toNat api_Pair.z).Val) > 1099511627776))) (.b false) (by rw [decide_eq_false c6]<;>rfl)) hT) hT) hT) hT 32 (.b (decide (x1_7 > 0))) (.b false) (by rw [decide_eq_false c7]<;>rfl)) hT) hT) hT) hT) hT) hT) hT) hT) hT) hT) hT) hT) ?_
          refine goCut hT 1 (K71 11010011001 1) [] ⟨46,[(0,.d (eL76 t0 a0)),(5,.d (eL76 t0 a0)),(6,.i (a0.length:Int)),(7,.i x1_7),(44,.b false)],[]⟩ h0 ?_
          exact Jj1 false H
    ·replace H:=sF c1 H
     rw [decide_eq_false c1]
     refine goK hT 6 (K71 111 1) ⟨46,[(2,.b true)],[]⟩ ?_
     obtain rfl:=retC H
     exact retK hf hX h0 (.b true) [] (fun _ h=>all_nil h) (.d (.v _))
 obtain ⟨n,H⟩:=loopC H
 exact (L n) 0 H


theorem slices_DeleteFunc_api_Pair.says {ff1:FuncId} {cc1:List DV} (a0:List api_Pair) (p1:api_Pair→Option Bool) (he1:Sy.Enters Try.prog ff1) (hp1:∀ (z0:api_Pair) r,p1 z0=some r→Says Try.prog ff1 [] ([.d (eG76 z0)] ++ List.map AV.d cc1) [] (.b r)) {r:List api_Pair} (H:slices_DeleteFunc_api_Pair a0 p1=some r):Says Try.prog 93 [eR76 a0] [.own 0 2 0 a0.length,.d (.fn ff1 cc1)] [.gone,eR76 r] (.own 1 2 0 r.length):=by
 refine says_of Try.func93 rfl (nt:=42) rfl (Nat.le_of_ble_eq_true rfl) fun X hP h0 hX=>?_
 have hT:TabOk X.P T:=hP▸tok
 have hf:X.P.funcs[93]? = some Try.f93:=hP▸Try.func93
 refine ak_dup 0 (r:=eR76 a0) rfl rfl (st':=⟨42,[(0,.own 1 2 0 a0.length),(1,.d (.fn ff1 cc1))],[.gone,eR76 a0]⟩) (by kernel_rfl) (by kernel_rfl) rfl ?_
 refine goK hT 8 (K93 110 2) ⟨42,[(0,.own 1 2 0 a0.length),(1,.d (.fn ff1 cc1)),(8,.own 1 2 0 a0.length),(9,.d (.fn ff1 cc1))],[.gone,eR76 a0]⟩ ?_
 obtain ⟨v1,h1,H⟩:=ibC H
 refine ak_callP (avs:=[.own 1 2 0 a0.length,.d (.fn ff1 cc1)]) (dst:=some 10) (k':=(K93 110 3)) [0,1,10] [] hP enters_92 (slices_IndexFunc_api_Pair.says (t0:=false) (ff1:=ff1) (cc1:=cc1) a0 p1 he1 hp1 h1) (by kernel_rfl) (hands_none _) (.cons (.lend (ty:=76) (by kernel_rfl) rfl) (.cons (pass_d _) .nil)) (st':=⟨42,[(0,.own 1 2 0 a0.length),(1,.d (.fn ff1 cc1)),(10,.i v1)],[.gone,eR76 a0]⟩) (by kernel_rfl) ?_
 refine goK hT 8 (K93 1110 1) ⟨42,[(0,.own 1 2 0 a0.length),(1,.d (.fn ff1 cc1)),(5,.i v1),(12,.b (v1 == (-1)))],[.gone,eR76 a0]⟩ ?_
 by_cases c2:v1=(-1)
 ·replace H:=iT c2 H
  rw [eqT c2]
  refine goK hT 6 (K93 111010 1) ⟨42,[(4,.own 1 2 0 a0.length)],[.gone,eR76 a0]⟩ ?_
  obtain rfl:=retC H
  exact retK hf hX h0 (.own 1 2 0 a0.length) [0,1] (fun _ h=>all_cons .gone (fun _ h=>all_cons (nr_vec api_Pair.nl) (fun _ h=>all_nil h) h) h) (.own _ _ _ _)
 ·replace H:=iF c2 H
  rw [eqF c2]
  refine goK hT 2 (K93 111 1) ⟨42,[(0,.own 1 2 0 a0.length),(1,.d (.fn ff1 cc1)),(5,.i v1)],[.gone,eR76 a0]⟩ ?_
  refine goK hT 9 (K93 1111010 0) ⟨42,[(0,.own 1 2 0 a0.length),(1,.d (.fn ff1 cc1)),(5,.i v1),(6,.i (IntKind.wrap .i64 (v1+1)))],[.gone,eR76 a0]⟩ ?_
  have L:∀ n,(∀ (x1_5:Int) (x1_6:Int) (x1_r1:List api_Pair),iter (slices_DeleteFunc_api_Pair.step p1) n (.l1 x1_5 x1_6 x1_r1)=some r→AK X 93 ((K93 1111010 0)) (Back X [.gone,eR76 r] (.own 1 2 0 r.length)) ⟨42,[(0,.own 1 2 0 x1_r1.length),(1,.d (.fn ff1 cc1)),(5,.i x1_5),(6,.i x1_6)],[.gone,eR76 x1_r1]⟩):=by
   intro n
   induction n with
   | zero=>exact fun _ _ _ H=>iter0 H
   | succ n ih=>
    ·intro x1_5 x1_6 x1_r1 H
     refine goK hT 8 (K93 111101000 1) ⟨42,[(0,.own 1 2 0 x1_r1.length),(1,.d (.fn ff1 cc1)),(5,.i x1_5),(6,.i x1_6),(19,.b (decide (x1_6 < (x1_r1.length:Int))))],[.gone,eR76 x1_r1]⟩ ?_
     by_cases c3:x1_6 < (x1_r1.length:Int)
     ·replace H:=sT c3 H
      rw [decide_eq_true c3]
      refine goK hT 2 (K93 11110100 1) ⟨42,[(0,.own 1 2 0 x1_r1.length),(1,.d (.fn ff1 cc1)),(5,.i x1_5),(6,.i x1_6)],[.gone,eR76 x1_r1]⟩ ?_
      refine goK hT 6 (K93 111101001000 2) ⟨42,[(0,.own 1 2 0 x1_r1.length),(1,.d (.fn ff1 cc1)),(5,.i x1_5),(6,.i x1_6),(22,.own 1 2 0 x1_r1.length),(23,.i x1_6)],[.gone,eR76 x1_r1]⟩ ?_
      obtain ⟨h5,H⟩:=sC H
      refine ak_idx hT [0,1,5,6,24] (i:=x1_6) (n:=(x1_r1.length:Int)) h5.1 h5.2 (k':=(K93 111101001000 3)) (st':=⟨42,[(0,.own 1 2 0 x1_r1.length),(1,.d (.fn ff1 cc1)),(5,.i x1_5),(6,.i x1_6),(24,.ptr 1 2 x1_6.toNat 0)],[.gone,eR76 x1_r1]⟩) (by kernel_rfl) ?_
      refine ak_ld hT [0,1,5,6,25] (i:=x1_6.toNat) (n:=x1_r1.length) (ltN h5.1 h5.2) (k':=(K93 111101001000 4)) (st':=⟨42,[(0,.own 1 2 0 x1_r1.length),(1,.d (.fn ff1 cc1)),(5,.i x1_5),(6,.i x1_6),(25,.d (eG76 (x1_r1.getD x1_6.toNat api_Pair.z)))],[.gone,eR76 x1_r1]⟩) (by kernel_rfl) ?_
      refine goK hT 7 (K93 1111010010010 2) ⟨42,[(0,.own 1 2 0 x1_r1.length),(1,.d (.fn ff1 cc1)),(5,.i x1_5),(6,.i x1_6),(7,.ptr 2 0 0 0),(26,.d (.fn ff1 cc1)),(27,.d (eG76 (x1_r1.getD x1_6.toNat api_Pair.z)))],[.gone,eR76 x1_r1,.box 76 (eC76 (x1_r1.getD x1_6.toNat api_Pair.z))]⟩ ?_
      obtain ⟨v2,h6,H⟩:=sbC H
      have Jj1:∀ (y1_5:Int) (y1_r1:List api_Pair),stk (slices_DeleteFunc_api_Pair.j1 x1_6 y1_5 y1_r1) (iter (slices_DeleteFunc_api_Pair.step p1) n)=some r→AK X 93 ((K93 111101001 1)) (Back X [.gone,eR76 r] (.own 1 2 0 r.length)) ⟨42,[(0,.own 1 2 0 y1_r1.length),(1,.d (.fn ff1 cc1)),(5,.i y1_5),(6,.i x1_6)],[.gone,eR76 y1_r1]⟩:=by
       intro y1_5 y1_r1 H
       refine goK hT 6 (K93 1111010 0) ⟨42,[(0,.own 1 2 0 y1_r1.length),(1,.d (.fn ff1 cc1)),(5,.i y1_5),(6,.i (IntKind.wrap .i64 (x1_6+1)))],[.gone,eR76 y1_r1]⟩ ?_
       exact ih y1_5 (IntKind.wrap .i64 (x1_6+1)) y1_r1 H
      refine ak_callP (avs:=[.d (eG76 (x1_r1.getD x1_6.toNat api_Pair.z))] ++ List.map AV.d cc1) (dst:=some 28) (k':=(K93 1111010010010 3)) [0,1,5,6,7,28] [] hP he1 (hp1 (x1_r1.getD x1_6.toNat api_Pair.z) v2 h6) (by kernel_rfl) (hands_none _) (.cons (pass_d _) (passes_d _)) (st':=⟨42,[(0,.own 1 2 0 x1_r1.length),(1,.d (.fn ff1 cc1)),(5,.i x1_5),(6,.i x1_6),(7,.ptr 2 0 0 0),(28,.b v2)],[.gone,eR76 x1_r1,.box 76 (eC76 (x1_r1.getD x1_6.toNat api_Pair.z))]⟩) (by kernel_rfl) ?_
      refine goK hT 2 (K93 111101001001 1) ⟨42,[(0,.own 1 2 0 x1_r1.length),(1,.d (.fn ff1 cc1)),(5,.i x1_5),(6,.i x1_6),(7,.ptr 2 0 0 0),(29,.b (!v2))],[.gone,eR76 x1_r1,.box 76 (eC76 (x1_r1.getD x1_6.toNat api_Pair.z))]⟩ ?_
      by_cases c7:v2=true
      ·replace H:=sT c7 H
       rw [c7]
       refine goCut hT 3 (K93 111101001 1) [0,1] ⟨42,[(0,.own 1 2 0 x1_r1.length),(1,.d (.fn ff1 cc1)),(5,.i x1_5),(6,.i x1_6)],[.gone,eR76 x1_r1]⟩ h0 ?_
       exact Jj1 x1_5 x1_r1 H
      ·replace H:=sF c7 H
       rw [boF c7]
       refine goK hT 6 (K93 111101001001100 3) ⟨42,[(0,.own 1 2 0 x1_r1.length),(1,.d (.fn ff1 cc1)),(5,.i x1_5),(6,.i x1_6),(30,.own 1 2 0 x1_r1.length),(31,.i x1_5),(32,.d (eG76 (x1_r1.getD x1_6.toNat api_Pair.z)))],[.gone,eR76 x1_r1,.box 76 (eC76 (x1_r1.getD x1_6.toNat api_Pair.z))]⟩ ?_
       obtain ⟨h8,H⟩:=sC H
       refine ak_idx hT [0,1,5,6,32,33] (i:=x1_5) (n:=(x1_r1.length:Int)) h8.1 h8.2 (k':=(K93 111101001001100 4)) (st':=⟨42,[(0,.own 1 2 0 x1_r1.length),(1,.d (.fn ff1 cc1)),(5,.i x1_5),(6,.i x1_6),(32,.d (eG76 (x1_r1.getD x1_6.toNat api_Pair.z))),(33,.ptr 1 2 x1_5.toNat 0)],[.gone,eR76 x1_r1,.box 76 (eC76 (x1_r1.getD x1_6.toNat api_Pair.z))]⟩) (by kernel_rfl) ?_
       refine ak_st (id:=1) (kk:=2) (i:=x1_5.toNat) (off:=0) (s:=2) (n:=x1_r1.length) (ty:=76) (ds:=[.i ((x1_r1.getD x1_6.toNat api_Pair.z).Key),.i ((x1_r1.getD x1_6.toNat api_Pair.z).Val)]) (g:=vec api_Pair.e api_Pair.z x1_r1) (k':=(K93 111101001001100 5)) hT [0,1,5,6] (vec api_Pair.e api_Pair.z (x1_r1.set x1_5.toNat (x1_r1.getD x1_6.toNat api_Pair.z))) (by kernel_rfl) (by kernel_rfl) (ltN h8.1 h8.2) ((vec_set (ltN h8.1 h8.2)).trans (by kernel_rfl)) vec_set_ne (st':=⟨42,[(0,.own 1 2 0 (x1_r1.length)),(1,.d (.fn ff1 cc1)),(5,.i x1_5),(6,.i x1_6)],[.gone,.flat false 2 76 x1_r1.length (vec api_Pair.e api_Pair.z (x1_r1.set x1_5.toNat (x1_r1.getD x1_6.toNat api_Pair.z))),.box 76 (eC76 (x1_r1.getD x1_6.toNat api_Pair.z))]⟩) (by kernel_rfl) ?_
       refine ak_eq (show x1_r1.length=(x1_r1.set x1_5.toNat (x1_r1.getD x1_6.toNat api_Pair.z)).length from (List.length_set ..).symm) (fun nn=>⟨42,[(0,.own 1 2 0 (nn)),(1,.d (.fn ff1 cc1)),(5,.i x1_5),(6,.i x1_6)],[.gone,.flat false 2 76 nn (vec api_Pair.e api_Pair.z (x1_r1.set x1_5.toNat (x1_r1.getD x1_6.toNat api_Pair.z))),.box 76 (eC76 (x1_r1.getD x1_6.toNat api_Pair.z))]⟩) ?_
       refine goCut hT 7 (K93 111101001 1) [0,1] ⟨42,[(0,.own 1 2 0 (x1_r1.set x1_5.toNat (x1_r1.getD x1_6.toNat api_Pair.z)).length),(1,.d (.fn ff1 cc1)),(5,.i (IntKind.wrap .i64 (x1_5+1))),(6,.i x1_6)],[.gone,eR76 (x1_r1.set x1_5.toNat (x1_r1.getD x1_6.toNat api_Pair.z))]⟩ h0 ?_
       exact Jj1 (IntKind.wrap .i64 (x1_5+1)) (x1_r1.set x1_5.toNat (x1_r1.getD x1_6.toNat api_Pair.z)) H
     ·replace H:=sF c3 H
      rw [decide_eq_false c3]
      refine goK hT 6 (K93 111110 2) ⟨42,[(0,.own 1 2 0 x1_r1.length),(5,.i x1_5),(36,.own 1 2 0 x1_r1.length),(37,.i x1_5)],[.gone,eR76 x1_r1]⟩ ?_
      obtain ⟨h4,H⟩:=sC H
      refine ak_clear (id:=1) (s:=2) (off:=0) (n:=x1_r1.length) (N:=x1_r1.length) (kk:=.i64) (l:=x1_5) (d:=38) (ty:=76) (g:=vec api_Pair.e api_Pair.z x1_r1) (k':=(K93 111110 4)) hT [0,5] (by kernel_rfl) (by kernel_rfl) h4.1 h4.2 rfl rfl (by decide) (by decide) (st':=⟨42,[(0,.own 1 2 0 x1_r1.length),(5,.i x1_5)],[.gone,.flat false 2 76 x1_5.toNat (vec api_Pair.e api_Pair.z x1_r1)]⟩) (by kernel_rfl) ?_
      refine ak_trunc 1 (kk:=2) (n:=x1_5.toNat) (m:=(x1_r1.take x1_5.toNat).length) (fz:=false) (ty:=76) (g:=vec api_Pair.e api_Pair.z x1_r1) (vec api_Pair.e api_Pair.z (x1_r1.take x1_5.toNat)) (by kernel_rfl) (by simp only [List.length_take];omega) vec_take (st':=⟨42,[(0,.own 1 2 0 x1_r1.length),(5,.i x1_5)],[.gone,eR76 (x1_r1.take x1_5.toNat)]⟩) (by kernel_rfl) ?_
      refine goK hT 5 (K93 1111110 2) ⟨42,[(39,.own 1 2 0 x1_r1.length),(40,.i x1_5)],[.gone,eR76 (x1_r1.take x1_5.toNat)]⟩ ?_
      refine ak_sliceO (id:=1) (s:=2) (off:=0) (n:=x1_r1.length) (kk:=.i64) (i:=x1_5) (dst:=some 41) (k':=(K93 1111110 3)) hT [41] (by kernel_rfl) h4.1 h4.2 (st':=⟨42,[(41,.own 1 2 0 x1_5.toNat)],[.gone,eR76 (x1_r1.take x1_5.toNat)]⟩) (by kernel_rfl) ?_
      refine ak_eq (show x1_5.toNat=(x1_r1.take x1_5.toNat).length from by simp only [List.length_take];omega) (fun nn=>⟨42,[(41,.own 1 2 0 nn)],[.gone,eR76 (x1_r1.take x1_5.toNat)]⟩) ?_
      refine goK hT 2 (K93 111111 1) ⟨42,[(4,.own 1 2 0 ((x1_r1.take x1_5.toNat).length))],[.gone,eR76 (x1_r1.take x1_5.toNat)]⟩ ?_
      obtain rfl:=retC H
      exact retK hf hX h0 (.own 1 2 0 ((x1_r1.take x1_5.toNat).length)) [0,1] (fun _ h=>all_cons .gone (fun _ h=>all_cons (nr_vec api_Pair.nl) (fun _ h=>all_nil h) h) h) (.own _ _ _ _)
  obtain ⟨n,H⟩:=loopC H
  exact (L n) v1 (IntKind.wrap .i64 (v1+1)) a0 H


theorem slices_IndexFunc_api_Span.says {t0:Bool} {ff1:FuncId} {cc1:List DV} (a0:List api_Span) (p1:api_Span→Option Bool) (he1:Sy.Enters Try.prog ff1) (hp1:∀ (z0:api_Span) r,p1 z0=some r→Says Try.prog ff1 [] ([.d (eG46 z0)] ++ List.map AV.d cc1) [] (.b r)) {r:Int} (H:slices_IndexFunc_api_Span a0 p1=some r):Says Try.prog 100 [] [.d (eL46 t0 a0),.d (.fn ff1 cc1)] [] (.i r):=by
 refine says_of Try.func100 rfl (nt:=19) rfl (Nat.le_of_ble_eq_true rfl) fun X hP h0 hX=>?_
 have hT:TabOk X.P T:=hP▸tok
 have hf:X.P.funcs[100]? = some Try.f100:=hP▸Try.func100
 refine goK hT 13 (K100 11010 0) ⟨19,[(0,.d (eL46 t0 a0)),(1,.d (.fn ff1 cc1)),(7,.i (a0.length:Int)),(8,.i 0)],[]⟩ ?_
 have L:∀ n,(∀ (x1_8:Int),iter (slices_IndexFunc_api_Span.step a0 p1) n (.l1 x1_8)=some r→AK X 100 ((K100 11010 0)) (Back X [] (.i r)) ⟨19,[(0,.d (eL46 t0 a0)),(1,.d (.fn ff1 cc1)),(7,.i (a0.length:Int)),(8,.i x1_8)],[]⟩):=by
  intro n
  induction n with
  | zero=>exact fun _ H=>iter0 H
  | succ n ih=>
   ·intro x1_8 H
    refine goK hT 5 (K100 1101001 0) ⟨19,[(0,.d (eL46 t0 a0)),(1,.d (.fn ff1 cc1)),(7,.i (a0.length:Int)),(8,.i x1_8),(9,.b (decide (x1_8 < (a0.length:Int))))],[]⟩ ?_
    by_cases c1:x1_8 < (a0.length:Int)
    ·replace H:=sT c1 H
     rw [decide_eq_true c1]
     refine goK hT 2 (K100 1101001 1) ⟨19,[(0,.d (eL46 t0 a0)),(1,.d (.fn ff1 cc1)),(7,.i (a0.length:Int)),(8,.i x1_8)],[]⟩ ?_
     refine goK hT 12 (K100 110100110010 3) ⟨19,[(0,.d (eL46 t0 a0)),(1,.d (.fn ff1 cc1)),(5,.i x1_8),(7,.i (a0.length:Int)),(8,.i x1_8),(11,.d (.fn ff1 cc1)),(12,.d (eL46 t0 a0)),(13,.i x1_8)],[]⟩ ?_
     obtain ⟨h2,H⟩:=sC H
     refine ak_idx hT [0,1,5,7,8,11,14] (i:=x1_8) (n:=(a0.length:Int)) h2.1 h2.2 (k':=(K100 110100110010 4)) (st':=⟨19,[(0,.d (eL46 t0 a0)),(1,.d (.fn ff1 cc1)),(5,.i x1_8),(7,.i (a0.length:Int)),(8,.i x1_8),(11,.d (.fn ff1 cc1)),(14,.d (eP46 t0 a0 x1_8.toNat 0))],[]⟩) (by kernel_rfl) ?_
     refine goK hT 1 (K100 110100110010 5) ⟨19,[(0,.d (eL46 t0 a0)),(1,.d (.fn ff1 cc1)),(5,.i x1_8),(7,.i (a0.length:Int)),(8,.i x1_8),(11,.d (.fn ff1 cc1)),(15,.d (eG46 (a0.getD x1_8.toNat api_Span.z)))],[]⟩ ?_
     obtain ⟨v1,h3,H⟩:=sbC H
     refine ak_callP (avs:=[.d (eG46 (a0.getD x1_8.toNat api_Span.z))] ++ List.map AV.d cc1) (dst:=some 16) (k':=(K100 110100110010 6)) [0,1,5,7,8,16] [] hP he1 (hp1 (a0.getD x1_8.toNat api_Span.z) v1 h3) (by kernel_rfl) (hands_none _) (.cons (pass_d _) (passes_d _)) (st':=⟨19,[(0,.d (eL46 t0 a0)),(1,.d (.fn ff1 cc1)),(5,.i x1_8),(7,.i (a0.length:Int)),(8,.i x1_8),(16,.b v1)],[]⟩) (by kernel_rfl) ?_
     refine goK hT 1 (K100 11010011001 1) ⟨19,[(0,.d (eL46 t0 a0)),(1,.d (.fn ff1 cc1)),(5,.i x1_8),(7,.i (a0.length:Int)),(8,.i x1_8),(16,.b v1)],[]⟩ ?_
     by_cases c4:v1=true
     ·replace H:=sT c4 H
      rw [c4]
      refine goK hT 6 (K100 1101001100110 1) ⟨19,[(4,.i x1_8)],[]⟩ ?_
      obtain rfl:=retC H
      exact retK hf hX h0 (.i x1_8) [] (fun _ h=>all_nil h) (.d (.v _))
     ·replace H:=sF c4 H
      rw [boF c4]
      refine goK hT 3 (K100 11010011 1) ⟨19,[(0,.d (eL46 t0 a0)),(1,.d (.fn ff1 cc1)),(7,.i (a0.length:Int)),(8,.i x1_8)],[]⟩ ?_
      refine goK hT 5 (K100 11010 0) ⟨19,[(0,.d (eL46 t0 a0)),(1,.d (.fn ff1 cc1)),(7,.i (a0.length:Int)),(8,.i (IntKind.wrap .i64 (x1_8+1)))],[]⟩ ?_
      exact ih (IntKind.wrap .i64 (x1_8+1)) H
    ·replace H:=sF c1 H
     rw [decide_eq_false c1]
     refine goK hT 6 (K100 111 1) ⟨19,[(4,.i (-1))],[]⟩ ?_
     obtain rfl:=retC H
     exact retK hf hX h0 (.i (-1)) [] (fun _ h=>all_nil h) (.d (.v _))
 obtain ⟨n,H⟩:=loopC H
 exact (L n) 0 H


theorem slices_ContainsFunc_api_Span.says {t0:Bool} {ff1:FuncId} {cc1:List DV} (a0:List api_Span) (p1:api_Span→Option Bool) (he1:Sy.Enters Try.prog ff1) (hp1:∀ (z0:api_Span) r,p1 z0=some r→Says Try.prog ff1 [] ([.d (eG46 z0)] ++ List.map AV.d cc1) [] (.b r)) {r:Bool} (H:slices_ContainsFunc_api_Span a0 p1=some r):Says Try.prog 95 [] [.d (eL46 t0 a0),.d (.fn ff1 cc1)] [] (.b r):=by
 refine says_of Try.func95 rfl (nt:=9) rfl (Nat.le_of_ble_eq_true rfl) fun X hP h0 hX=>?_
 have hT:TabOk X.P T:=hP▸tok
 have hf:X.P.funcs[95]? = some Try.f95:=hP▸Try.func95
 refine goK hT 8 (K95 110 2) ⟨9,[(5,.d (eL46 t0 a0)),(6,.d (.fn ff1 cc1))],[]⟩ ?_
 obtain ⟨v1,h1,H⟩:=ibC H
 refine ak_callP (avs:=[.d (eL46 t0 a0),.d (.fn ff1 cc1)]) (dst:=some 7) (k':=(K95 110 3)) [7] [] hP enters_100 (slices_IndexFunc_api_Span.says (t0:=t0) (ff1:=ff1) (cc1:=cc1) a0 p1 he1 hp1 h1) (by kernel_rfl) (hands_none _) (.cons (pass_d _) (.cons (pass_d _) .nil)) (st':=⟨9,[(7,.i v1)],[]⟩) (by kernel_rfl) ?_
 refine goK hT 3 (K95 11 1) ⟨9,[(4,.b (decide (v1≥0)))],[]⟩ ?_
 obtain rfl:=retC H
 exact retK hf hX h0 (.b (decide (v1≥0))) [] (fun _ h=>all_nil h) (.d (.v _))


theorem span_Has_1.says (a0:api_Span) (k0:Int):Says Try.prog 96 [] [.d (eG46 a0),.d (.rop false 1 (fun _=>[.i k0]) 0 0)] [] (.b (span_Has_1 a0 k0)):=by
 obtain ⟨r,H⟩:∃ r,span_Has_1 a0 k0=r:=⟨_,rfl⟩
 rw [H]
 refine says_of Try.func96 rfl (nt:=18) rfl (Nat.le_of_ble_eq_true rfl) fun X hP h0 hX=>?_
 have hT:TabOk X.P T:=hP▸tok
 have hf:X.P.funcs[96]? = some Try.f96:=hP▸Try.func96
 have Jj1:∀ (y1_3:Bool),(span_Has_1.j1 y1_3)=r→AK X 96 ((K96 11 1)) (Back X [] (.b r)) ⟨18,[(3,.b y1_3)],[]⟩:=by
  intro y1_3 H
  obtain rfl:=H
  exact retK hf hX h0 (.b y1_3) [] (fun _ h=>all_nil h) (.d (.v _))
 refine goK hT 8 (K96 110 1) ⟨18,[(1,.d (.rop false 1 (fun _=>[.i k0]) 0 0)),(2,.ptr 0 0 0 0),(4,.d (eG46 a0))],[.box 46 (eC46 a0)]⟩ ?_
 refine ak_callP (avs:=[.d (eG46 a0)]) (dst:=some 5) (k':=(K96 110 2)) [1,2,5] [] hP enters_61 (span_One.says a0) (by kernel_rfl) (hands_none _) (.cons (pass_d _) .nil) (st':=⟨18,[(1,.d (.rop false 1 (fun _=>[.i k0]) 0 0)),(2,.ptr 0 0 0 0),(5,.b (span_One a0))],[.box 46 (eC46 a0)]⟩) (by kernel_rfl) ?_
 refine goK hT 1 (K96 110 3) ⟨18,[(1,.d (.rop false 1 (fun _=>[.i k0]) 0 0)),(2,.ptr 0 0 0 0),(6,.b (span_One a0))],[.box 46 (eC46 a0)]⟩ ?_
 by_cases c1:(span_One a0)=true
 ·replace H:=iT c1 H
  rw [c1]
  refine goK hT 6 (K96 110 9) ⟨18,[(1,.d (.rop false 1 (fun _=>[.i k0]) 0 0)),(2,.ptr 0 0 0 0),(12,.b (decide (k0≥a0.Lo)))],[.box 46 (eC46 a0)]⟩ ?_
  by_cases c2:k0≥a0.Lo
  ·replace H:=iT c2 H
   rw [decide_eq_true c2]
   refine goCut hT 7 (K96 11 1) [] ⟨18,[(3,.b (decide (k0 < a0.Hi)))],[]⟩ h0 ?_
   exact Jj1 (decide (k0 < a0.Hi)) H
  ·replace H:=iF c2 H
   rw [decide_eq_false c2]
   refine goCut hT 7 (K96 11 1) [] ⟨18,[(3,.b false)],[]⟩ h0 ?_
   exact Jj1 false H
 ·replace H:=iF c1 H
  rw [boF c1]
  refine goCut hT 13 (K96 11 1) [] ⟨18,[(3,.b false)],[]⟩ h0 ?_
  exact Jj1 false H


theorem span_Has.says {t0:Bool} (a0:List api_Span) (a1:Int) {r:Bool} (H:span_Has a0 a1=some r):Says Try.prog 87 [] [.d (eL46 t0 a0),.i a1] [] (.b r):=by
 refine says_of Try.func87 rfl (nt:=8) rfl (Nat.le_of_ble_eq_true rfl) fun X hP h0 hX=>?_
 have hT:TabOk X.P T:=hP▸tok
 have hf:X.P.funcs[87]? = some Try.f87:=hP▸Try.func87
 refine goK hT 9 (K87 110 2) ⟨8,[(5,.d (eL46 t0 a0)),(6,.fn 96 [.ptr 0 0 0 0])],[.box 3 [.i a1]]⟩ ?_
 obtain ⟨v1,h1,H⟩:=ibC H
 refine ak_callP (avs:=[.d (eL46 t0 a0),.fn 96 [.ptr 0 0 0 0]]) (dst:=some 7) (k':=(K87 110 3)) [7] [] hP enters_95 (slices_ContainsFunc_api_Span.says (t0:=t0) (ff1:=96) (cc1:=[.rop false 1 (fun _=>[.i a1]) 0 0]) a0 (fun z0=>some (span_Has_1 z0 a1)) enters_96 (fun z0 r h=>by obtain rfl:=retC h;exact span_Has_1.says z0 a1) h1) (by kernel_rfl) (hands_none _) (.cons (pass_d _) (.cons (.fn 96 (.cons (.look (ty:=3) (cs:=[.i a1]) (by kernel_rfl) rfl) .nil)) .nil)) (st':=⟨8,[(7,.b v1)],[.box 3 [.i a1]]⟩) (by kernel_rfl) ?_
 refine goK hT 2 (K87 11 1) ⟨8,[(4,.b v1)],[.box 3 [.i a1]]⟩ ?_
 obtain rfl:=retC H
 exact retK hf hX h0 (.b v1) [] (fun _ h=>all_nil h) (.d (.v _))


theorem table_cut_1.says (a0:api_Pair) (k0:api_Span) (k1:List api_Span) {r:Bool} (H:table_cut_1 a0 k0 k1=some r):Says Try.prog 94 [] [.d (eG76 a0),.d (.rop false 1 (fun _=>[.i k0.Lo,.i k0.Hi]) 0 0),.d (.rop false 1 (fun _=>[eL46 true k1]) 0 0)] [] (.b r):=by
 refine says_of Try.func94 rfl (nt:=23) rfl (Nat.le_of_ble_eq_true rfl) fun X hP h0 hX=>?_
 have hT:TabOk X.P T:=hP▸tok
 have hf:X.P.funcs[94]? = some Try.f94:=hP▸Try.func94
 have Jj1:∀ (y1_4:Bool),(table_cut_1.j1 y1_4)=some r→AK X 94 ((K94 11 1)) (Back X [] (.b r)) ⟨23,[(4,.b y1_4)],[]⟩:=by
  intro y1_4 H
  obtain rfl:=retC H
  exact retK hf hX h0 (.b y1_4) [] (fun _ h=>all_nil h) (.d (.v _))
 refine goK hT 13 (K94 110 6) ⟨23,[(1,.d (.rop false 1 (fun _=>[.i k0.Lo,.i k0.Hi]) 0 0)),(2,.d (.rop false 1 (fun _=>[eL46 true k1]) 0 0)),(3,.ptr 0 0 0 0),(10,.b (decide (a0.Key≥k0.Lo)))],[.box 76 (eC76 a0)]⟩ ?_
 by_cases c1:a0.Key≥k0.Lo
 ·replace H:=iT c1 H
  rw [decide_eq_true c1]
  refine goK hT 7 (K94 110 13) ⟨23,[(2,.d (.rop false 1 (fun _=>[eL46 true k1]) 0 0)),(3,.ptr 0 0 0 0),(17,.b (decide (a0.Key < k0.Hi)))],[.box 76 (eC76 a0)]⟩ ?_
  by_cases c2:a0.Key < k0.Hi
  ·replace H:=iT c2 H
   rw [decide_eq_true c2]
   refine goK hT 3 (K94 110 16) ⟨23,[(17,.b true),(18,.d (eL46 true k1)),(20,.i a0.Key)],[.box 76 (eC76 a0)]⟩ ?_
   obtain ⟨v1,h3,H⟩:=ibC H
   refine ak_callP (avs:=[.d (eL46 true k1),.i a0.Key]) (dst:=some 21) (k':=(K94 110 17)) [17,21] [] hP enters_87 (span_Has.says (t0:=true) k1 a0.Key h3) (by kernel_rfl) (hands_none _) (.cons (pass_d _) (.cons (pass_d _) .nil)) (st':=⟨23,[(17,.b true),(21,.b v1)],[.box 76 (eC76 a0)]⟩) (by kernel_rfl) ?_
   refine goCut hT 3 (K94 11 1) [] ⟨23,[(4,.b v1)],[]⟩ h0 ?_
   exact Jj1 v1 H
  ·replace H:=iF c2 H
   rw [decide_eq_false c2]
   refine goCut hT 7 (K94 11 1) [] ⟨23,[(4,.b false)],[]⟩ h0 ?_
   exact Jj1 false H
 ·replace H:=iF c1 H
  rw [decide_eq_false c1]
  refine goCut hT 14 (K94 11 1) [] ⟨23,[(4,.b false)],[]⟩ h0 ?_
  exact Jj1 false H


theorem table_cut.says (a0:List api_Pair) (a1:api_Span) (a2:List api_Span) {r:List api_Pair} (H:table_cut a0 a1 a2=some r):Says Try.prog 85 [eR76 a0] [.own 0 2 0 a0.length,.d (eG46 a1),.d (eL46 true a2)] [.gone,eR76 r] (.own 1 2 0 r.length):=by
 refine says_of Try.func85 rfl (nt:=10) rfl (Nat.le_of_ble_eq_true rfl) fun X hP h0 hX=>?_
 have hT:TabOk X.P T:=hP▸tok
 have hf:X.P.funcs[85]? = some Try.f85:=hP▸Try.func85
 refine ak_dup 0 (r:=eR76 a0) rfl rfl (st':=⟨10,[(0,.own 1 2 0 a0.length),(1,.d (eG46 a1)),(2,.d (eL46 true a2))],[.gone,eR76 a0]⟩) (by kernel_rfl) (by kernel_rfl) rfl ?_
 refine goK hT 10 (K85 110 2) ⟨10,[(7,.own 1 2 0 a0.length),(8,.fn 94 [.ptr 2 0 0 0,.ptr 3 0 0 0])],[.gone,eR76 a0,.box 46 (eC46 a1),.box 146 [.d (eL46 true a2)]]⟩ ?_
 obtain ⟨v1,h1,H⟩:=ibC H
 refine ak_callP (avs:=[.own 1 2 0 a0.length,.fn 94 [.ptr 2 0 0 0,.ptr 3 0 0 0]]) (dst:=some 9) (k':=(K85 110 3)) [9] [1] hP enters_93 (slices_DeleteFunc_api_Pair.says (ff1:=94) (cc1:=[.rop false 1 (fun _=>[.i a1.Lo,.i a1.Hi]) 0 0,.rop false 1 (fun _=>[eL46 true a2]) 0 0]) a0 (fun z0=>table_cut_1 z0 a1 a2) enters_94 (fun z0 r h=>table_cut_1.says z0 a1 a2 h) h1) (by kernel_rfl) (hands_one rfl rfl) (.cons (.same (.own 0 2 0 a0.length)) (.cons (.fn 94 (.cons (.look (ty:=46) (cs:=[.i a1.Lo,.i a1.Hi]) (by kernel_rfl) rfl) (.cons (.look (ty:=146) (cs:=[eL46 true a2]) (by kernel_rfl) rfl) .nil))) .nil)) (st':=⟨10,[(9,.own 4 2 0 v1.length)],[.gone,.gone,.box 46 (eC46 a1),.box 146 [.d (eL46 true a2)],eR76 v1]⟩) (by kernel_rfl) ?_
 refine goK hT 2 (K85 11 1) ⟨10,[(6,.own 4 2 0 v1.length)],[.gone,.gone,.box 46 (eC46 a1),.box 146 [.d (eL46 true a2)],eR76 v1]⟩ ?_
 obtain rfl:=retC H
 exact retK hf hX h0 (.own 4 2 0 v1.length) [0,4] (fun _ h=>all_cons .gone (fun _ h=>all_cons (nr_vec api_Pair.nl) (fun _ h=>all_nil h) h) h) (.own _ _ _ _)


theorem mut_Alone.says (a0:api_Mut) {r:Bool} (H:mut_Alone a0=some r):Says Try.prog 86 [] [.d (eG48 a0)] [] (.b r):=by
 refine says_of Try.func86 rfl (nt:=15) rfl (Nat.le_of_ble_eq_true rfl) fun X hP h0 hX=>?_
 have hT:TabOk X.P T:=hP▸tok
 have hf:X.P.funcs[86]? = some Try.f86:=hP▸Try.func86
 refine goK hT 8 (K86 110 1) ⟨15,[(1,.ptr 0 0 0 0),(3,.d (eG48 a0))],[.box 48 (eC48 a0)]⟩ ?_
 obtain ⟨v1,h1,H⟩:=ibC H
 have Jj1:∀ (y1_2:Bool),(mut_Alone.j1 y1_2)=some r→AK X 86 ((K86 11 1)) (Back X [] (.b r)) ⟨15,[(2,.b y1_2)],[]⟩:=by
  intro y1_2 H
  obtain rfl:=retC H
  exact retK hf hX h0 (.b y1_2) [] (fun _ h=>all_nil h) (.d (.v _))
 refine ak_callP (avs:=[.d (eG48 a0)]) (dst:=some 4) (k':=(K86 110 2)) [1,4] [] hP enters_25 (mut_Check.says a0 h1) (by kernel_rfl) (hands_none _) (.cons (pass_d _) .nil) (st':=⟨15,[(1,.ptr 0 0 0 0),(4,.b v1)],[.box 48 (eC48 a0)]⟩) (by kernel_rfl) ?_
 refine goK hT 1 (K86 110 3) ⟨15,[(1,.ptr 0 0 0 0),(5,.b v1)],[.box 48 (eC48 a0)]⟩ ?_
 by_cases c2:v1=true
 ·replace H:=iT c2 H
  rw [c2]
  refine goK hT 4 (K86 110 7) ⟨15,[(1,.ptr 0 0 0 0),(5,.b true),(9,.b (a0.Kind == 3))],[.box 48 (eC48 a0)]⟩ ?_
  by_cases c3:a0.Kind=3
  ·replace H:=iT c3 H
   rw [eqT c3]
   refine goCut hT 7 (K86 11 1) [] ⟨15,[(2,.b true)],[]⟩ h0 ?_
   exact Jj1 true H
  ·replace H:=iF c3 H
   rw [eqF c3]
   refine goCut hT 7 (K86 11 1) [] ⟨15,[(2,.b (a0.Kind == 4))],[]⟩ h0 ?_
   exact Jj1 (a0.Kind == 4) H
 ·replace H:=iF c2 H
  rw [boF c2]
  refine goCut hT 11 (K86 11 1) [] ⟨15,[(2,.b false)],[]⟩ h0 ?_
  exact Jj1 false H


theorem slices_BinarySearchFunc_int.says {t0:Bool} {ff2:FuncId} {cc2:List DV} (a0:List api_Pair) (a1:Int) (p2:api_Pair→Int→Option Int) (he2:Sy.Enters Try.prog ff2) (hp2:∀ (z0:api_Pair) (z1:Int) r,p2 z0 z1=some r→Says Try.prog ff2 [] ([.d (eG76 z0),.i z1] ++ List.map AV.d cc2) [] (.i r)) {r:Int × Bool} (H:slices_BinarySearchFunc_int a0 a1 p2=some r):Says Try.prog 98 [] [.d (eL76 t0 a0),.i a1,.d (.fn ff2 cc2)] [] (.tup [.i r.1,.b r.2]):=by
 refine says_of Try.func98 rfl (nt:=49) rfl (Nat.le_of_ble_eq_true rfl) fun X hP h0 hX=>?_
 have hT:TabOk X.P T:=hP▸tok
 have hf:X.P.funcs[98]? = some Try.f98:=hP▸Try.func98
 refine goK hT 20 (K98 111100 0) ⟨49,[(0,.d (eL76 t0 a0)),(1,.i a1),(2,.d (.fn ff2 cc2)),(8,.i (a0.length:Int)),(9,.i 0),(10,.i (a0.length:Int))],[]⟩ ?_
 have L:∀ n,(∀ (x1_9:Int) (x1_10:Int),iter (slices_BinarySearchFunc_int.step a0 a1 p2) n (.l1 x1_9 x1_10)=some r→AK X 98 ((K98 111100 0)) (Back X [] (.tup [.i r.1,.b r.2])) ⟨49,[(0,.d (eL76 t0 a0)),(1,.i a1),(2,.d (.fn ff2 cc2)),(8,.i (a0.length:Int)),(9,.i x1_9),(10,.i x1_10)],[]⟩):=by
  intro n
  induction n with
  | zero=>exact fun _ _ H=>iter0 H
  | succ n ih=>
   ·intro x1_9 x1_10 H
    refine goK hT 7 (K98 11110000 1) ⟨49,[(0,.d (eL76 t0 a0)),(1,.i a1),(2,.d (.fn ff2 cc2)),(8,.i (a0.length:Int)),(9,.i x1_9),(10,.i x1_10),(17,.b (decide (x1_9 < x1_10)))],[]⟩ ?_
    by_cases c1:x1_9 < x1_10
    ·replace H:=sT c1 H
     rw [decide_eq_true c1]
     refine goK hT 2 (K98 1111000 1) ⟨49,[(0,.d (eL76 t0 a0)),(1,.i a1),(2,.d (.fn ff2 cc2)),(8,.i (a0.length:Int)),(9,.i x1_9),(10,.i x1_10)],[]⟩ ?_
     refine goK hT 10 (K98 1111000100 7) ⟨49,[(0,.d (eL76 t0 a0)),(1,.i a1),(2,.d (.fn ff2 cc2)),(8,.i (a0.length:Int)),(9,.i x1_9),(10,.i x1_10),(11,.i (IntKind.wrap .i64 (Int.fdiv (IntKind.wrap .u64 (IntKind.wrap .i64 (x1_9+x1_10))) 2)))],[]⟩ ?_
     obtain ⟨v2,h5,H⟩:=sdC H
     rw [← h5]
     refine goK hT 6 (K98 11110001010 3) ⟨49,[(0,.d (eL76 t0 a0)),(1,.i a1),(2,.d (.fn ff2 cc2)),(8,.i (a0.length:Int)),(9,.i x1_9),(10,.i x1_10),(11,.i v2),(24,.d (.fn ff2 cc2)),(25,.d (eL76 t0 a0)),(26,.i v2)],[]⟩ ?_
     obtain ⟨h6,H⟩:=sC H
     refine ak_idx hT [0,1,2,8,9,10,11,24,27] (i:=v2) (n:=(a0.length:Int)) h6.1 h6.2 (k':=(K98 11110001010 4)) (st':=⟨49,[(0,.d (eL76 t0 a0)),(1,.i a1),(2,.d (.fn ff2 cc2)),(8,.i (a0.length:Int)),(9,.i x1_9),(10,.i x1_10),(11,.i v2),(24,.d (.fn ff2 cc2)),(27,.d (eP76 t0 a0 v2.toNat 0))],[]⟩) (by kernel_rfl) ?_
     refine goK hT 2 (K98 11110001010 6) ⟨49,[(0,.d (eL76 t0 a0)),(1,.i a1),(2,.d (.fn ff2 cc2)),(8,.i (a0.length:Int)),(9,.i x1_9),(10,.i x1_10),(11,.i v2),(24,.d (.fn ff2 cc2)),(28,.d (eG76 (a0.getD v2.toNat api_Pair.z))),(29,.i a1)],[]⟩ ?_
     obtain ⟨v3,h7,H⟩:=sbC H
     refine ak_callP (avs:=[.d (eG76 (a0.getD v2.toNat api_Pair.z)),.i a1] ++ List.map AV.d cc2) (dst:=some 30) (k':=(K98 11110001010 7)) [0,1,2,8,9,10,11,30] [] hP he2 (hp2 (a0.getD v2.toNat api_Pair.z) a1 v3 h7) (by kernel_rfl) (hands_none _) (.cons (pass_d _) (.cons (pass_d _) (passes_d _))) (st':=⟨49,[(0,.d (eL76 t0 a0)),(1,.i a1),(2,.d (.fn ff2 cc2)),(8,.i (a0.length:Int)),(9,.i x1_9),(10,.i x1_10),(11,.i v2),(30,.i v3)],[]⟩) (by kernel_rfl) ?_
     refine goK hT 2 (K98 1111000101 1) ⟨49,[(0,.d (eL76 t0 a0)),(1,.i a1),(2,.d (.fn ff2 cc2)),(8,.i (a0.length:Int)),(9,.i x1_9),(10,.i x1_10),(11,.i v2),(31,.b (decide (v3 < 0)))],[]⟩ ?_
     by_cases c8:v3 < 0
     ·replace H:=sT c8 H
      rw [decide_eq_true c8]
      refine goK hT 8 (K98 111100 0) ⟨49,[(0,.d (eL76 t0 a0)),(1,.i a1),(2,.d (.fn ff2 cc2)),(8,.i (a0.length:Int)),(9,.i (IntKind.wrap .i64 (v2+1))),(10,.i x1_10)],[]⟩ ?_
      exact ih (IntKind.wrap .i64 (v2+1)) x1_10 H
     ·replace H:=sF c8 H
      rw [decide_eq_false c8]
      refine goK hT 7 (K98 111100 0) ⟨49,[(0,.d (eL76 t0 a0)),(1,.i a1),(2,.d (.fn ff2 cc2)),(8,.i (a0.length:Int)),(9,.i x1_9),(10,.i v2)],[]⟩ ?_
      exact ih x1_9 v2 H
    ·replace H:=sF c1 H
     have Jj1:∀ (y1_7:Bool),stk (slices_BinarySearchFunc_int.j1 x1_9 y1_7) (iter (slices_BinarySearchFunc_int.step a0 a1 p2) n)=some r→AK X 98 ((K98 11111 1)) (Back X [] (.tup [.i r.1,.b r.2])) ⟨49,[(6,.i x1_9),(7,.b y1_7)],[]⟩:=by
      intro y1_7 H
      obtain rfl:=retC H
      exact retK hf hX h0 (.tup [.i x1_9,.b y1_7]) [] (fun _ h=>all_nil h) (.tup (.cons (.d (.v _)) (.cons (.d (.v _)) .nil)))
     rw [decide_eq_false c1]
     refine goK hT 9 (K98 111110 5) ⟨49,[(0,.d (eL76 t0 a0)),(1,.i a1),(2,.d (.fn ff2 cc2)),(9,.i x1_9),(35,.i x1_9),(39,.b (decide (x1_9 < (a0.length:Int))))],[]⟩ ?_
     by_cases c2:x1_9 < (a0.length:Int)
     ·replace H:=sT c2 H
      rw [decide_eq_true c2]
      refine goK hT 3 (K98 111110 8) ⟨49,[(1,.i a1),(35,.i x1_9),(39,.b true),(40,.d (.fn ff2 cc2)),(41,.d (eL76 t0 a0)),(42,.i x1_9)],[]⟩ ?_
      obtain ⟨h3,H⟩:=sC H
      refine ak_idx hT [1,35,39,40,43] (i:=x1_9) (n:=(a0.length:Int)) h3.1 h3.2 (k':=(K98 111110 9)) (st':=⟨49,[(1,.i a1),(35,.i x1_9),(39,.b true),(40,.d (.fn ff2 cc2)),(43,.d (eP76 t0 a0 x1_9.toNat 0))],[]⟩) (by kernel_rfl) ?_
      refine goK hT 2 (K98 111110 11) ⟨49,[(35,.i x1_9),(39,.b true),(40,.d (.fn ff2 cc2)),(44,.d (eG76 (a0.getD x1_9.toNat api_Pair.z))),(45,.i a1)],[]⟩ ?_
      obtain ⟨v1,h4,H⟩:=sbC H
      refine ak_callP (avs:=[.d (eG76 (a0.getD x1_9.toNat api_Pair.z)),.i a1] ++ List.map AV.d cc2) (dst:=some 46) (k':=(K98 111110 12)) [35,39,46] [] hP he2 (hp2 (a0.getD x1_9.toNat api_Pair.z) a1 v1 h4) (by kernel_rfl) (hands_none _) (.cons (pass_d _) (.cons (pass_d _) (passes_d _))) (st':=⟨49,[(35,.i x1_9),(39,.b true),(46,.i v1)],[]⟩) (by kernel_rfl) ?_
      refine goK hT 5 (K98 11111 1) ⟨49,[(6,.i x1_9),(7,.b (v1 == 0))],[]⟩ ?_
      exact Jj1 (v1 == 0) H
     ·replace H:=sF c2 H
      rw [decide_eq_false c2]
      refine goK hT 12 (K98 11111 1) ⟨49,[(6,.i x1_9),(7,.b false)],[]⟩ ?_
      exact Jj1 false H
 obtain ⟨n,H⟩:=loopC H
 exact (L n) 0 (a0.length:Int) H


theorem table_find_1.says (a0:api_Pair) (a1:Int):Says Try.prog 99 [] [.d (eG76 a0),.i a1] [] (.i (table_find_1 a0 a1)):=by
 obtain ⟨r,H⟩:∃ r,table_find_1 a0 a1=r:=⟨_,rfl⟩
 rw [H]
 refine says_of Try.func99 rfl (nt:=9) rfl (Nat.le_of_ble_eq_true rfl) fun X hP h0 hX=>?_
 have hT:TabOk X.P T:=hP▸tok
 have hf:X.P.funcs[99]? = some Try.f99:=hP▸Try.func99
 refine goK hT 10 (K99 110 3) ⟨9,[(6,.i a0.Key),(7,.i a1)],[.box 76 (eC76 a0)]⟩ ?_
 refine ak_callP (avs:=[.i a0.Key,.i a1]) (dst:=some 8) (k':=(K99 110 4)) [8] [] hP enters_47 (cmp_Compare_int.says a0.Key a1) (by kernel_rfl) (hands_none _) (.cons (pass_d _) (.cons (pass_d _) .nil)) (st':=⟨9,[(8,.i (cmp_Compare_int a0.Key a1))],[.box 76 (eC76 a0)]⟩) (by kernel_rfl) ?_
 refine goK hT 2 (K99 11 1) ⟨9,[(4,.i (cmp_Compare_int a0.Key a1))],[.box 76 (eC76 a0)]⟩ ?_
 obtain rfl:=H
 exact retK hf hX h0 (.i (cmp_Compare_int a0.Key a1)) [] (fun _ h=>all_nil h) (.d (.v _))


theorem table_find.says {t0:Bool} (a0:List api_Pair) (a1:Int) {r:Int × Bool} (H:table_find a0 a1=some r):Says Try.prog 91 [] [.d (eL76 t0 a0),.i a1] [] (.tup [.i r.1,.b r.2]):=by
 refine says_of Try.func91 rfl (nt:=11) rfl (Nat.le_of_ble_eq_true rfl) fun X hP h0 hX=>?_
 have hT:TabOk X.P T:=hP▸tok
 have hf:X.P.funcs[91]? = some Try.f91:=hP▸Try.func91
 refine goK hT 9 (K91 110 2) ⟨11,[(6,.d (eL76 t0 a0)),(7,.i a1)],[]⟩ ?_
 obtain ⟨v1,h1,H⟩:=ibC H
 refine ak_callP (avs:=[.d (eL76 t0 a0),.i a1,.d (.fn 99 [])]) (dst:=some 8) (k':=(K91 110 3)) [8] [] hP enters_98 (slices_BinarySearchFunc_int.says (t0:=t0) (ff2:=99) (cc2:=[]) a0 a1 (fun z0 z1=>some (table_find_1 z0 z1)) enters_99 (fun z0 z1 r h=>by obtain rfl:=retC h;exact table_find_1.says z0 z1) h1) (by kernel_rfl) (hands_none _) (.cons (pass_d _) (.cons (pass_d _) (.cons (pass_d _) .nil))) (st':=⟨11,[(8,.tup [.i v1.1,.b v1.2])],[]⟩) (by kernel_rfl) ?_
 refine goK hT 5 (K91 11 1) ⟨11,[(4,.i v1.1),(5,.b v1.2)],[]⟩ ?_
 obtain rfl:=retC H
 exact retK hf hX h0 (.tup [.i v1.1,.b v1.2]) [] (fun _ h=>all_nil h) (.tup (.cons (.d (.v _)) (.cons (.d (.v _)) .nil)))


theorem table_get.says {t0:Bool} (a0:List api_Pair) (a1:Int) {r:Int × Bool} (H:table_get a0 a1=some r):Says Try.prog 77 [] [.d (eL76 t0 a0),.i a1] [] (.tup [.i r.1,.b r.2]):=by
 refine says_of Try.func77 rfl (nt:=20) rfl (Nat.le_of_ble_eq_true rfl) fun X hP h0 hX=>?_
 have hT:TabOk X.P T:=hP▸tok
 have hf:X.P.funcs[77]? = some Try.f77:=hP▸Try.func77
 refine goK hT 10 (K77 1100 2) ⟨20,[(0,.d (eL76 t0 a0)),(9,.d (eL76 t0 a0)),(10,.i a1)],[]⟩ ?_
 obtain ⟨v1,h1,H⟩:=ibC H
 refine ak_callP (avs:=[.d (eL76 t0 a0),.i a1]) (dst:=some 11) (k':=(K77 1100 3)) [0,11] [] hP enters_91 (table_find.says (t0:=t0) a0 a1 h1) (by kernel_rfl) (hands_none _) (.cons (pass_d _) (.cons (pass_d _) .nil)) (st':=⟨20,[(0,.d (eL76 t0 a0)),(11,.tup [.i v1.1,.b v1.2])],[]⟩) (by kernel_rfl) ?_
 refine goK hT 10 (K77 1101 1) ⟨20,[(0,.d (eL76 t0 a0)),(6,.i v1.1),(14,.b v1.2)],[]⟩ ?_
 by_cases c2:v1.2=true
 ·replace H:=iT c2 H
  rw [c2]
  refine goK hT 5 (K77 1101100 2) ⟨20,[(15,.d (eL76 t0 a0)),(16,.i v1.1)],[]⟩ ?_
  obtain ⟨h3,H⟩:=iC H
  refine ak_idx hT [17] (i:=v1.1) (n:=(a0.length:Int)) h3.1 h3.2 (k':=(K77 1101100 3)) (st':=⟨20,[(17,.d (eP76 t0 a0 v1.1.toNat 0))],[]⟩) (by kernel_rfl) ?_
  refine goK hT 5 (K77 110110 1) ⟨20,[(4,.i ((a0.getD v1.1.toNat api_Pair.z).Val)),(5,.b true)],[]⟩ ?_
  obtain rfl:=retC H
  exact retK hf hX h0 (.tup [.i ((a0.getD v1.1.toNat api_Pair.z).Val),.b true]) [] (fun _ h=>all_nil h) (.tup (.cons (.d (.v _)) (.cons (.d (.v _)) .nil)))
 ·replace H:=iF c2 H
  rw [boF c2]
  refine goK hT 2 (K77 11 1) ⟨20,[],[]⟩ ?_
  refine goK hT 5 (K77 111 1) ⟨20,[(4,.i 0),(5,.b false)],[]⟩ ?_
  obtain rfl:=retC H
  exact retK hf hX h0 (.tup [.i 0,.b false]) [] (fun _ h=>all_nil h) (.tup (.cons (.d (.v _)) (.cons (.d (.v _)) .nil)))


theorem table_put.says (a0:List api_Pair) (a1:Int) (a2:Int) {r:List api_Pair} (H:table_put a0 a1 a2=some r):Says Try.prog 89 [eR76 a0] [.own 0 2 0 a0.length,.i a1,.i a2] [.gone,eR76 r] (.own 1 2 0 r.length):=by
 refine says_of Try.func89 rfl (nt:=29) rfl (Nat.le_of_ble_eq_true rfl) fun X hP h0 hX=>?_
 have hT:TabOk X.P T:=hP▸tok
 have hf:X.P.funcs[89]? = some Try.f89:=hP▸Try.func89
 refine ak_dup 0 (r:=eR76 a0) rfl rfl (st':=⟨29,[(0,.own 1 2 0 a0.length),(1,.i a1),(2,.i a2)],[.gone,eR76 a0]⟩) (by kernel_rfl) (by kernel_rfl) rfl ?_
 refine goK hT 8 (K89 110 2) ⟨29,[(0,.own 1 2 0 a0.length),(1,.i a1),(2,.i a2),(10,.own 1 2 0 a0.length),(11,.i a1)],[.gone,eR76 a0]⟩ ?_
 obtain ⟨v1,h1,H⟩:=ibC H
 refine ak_callP (avs:=[.own 1 2 0 a0.length,.i a1]) (dst:=some 12) (k':=(K89 110 3)) [0,1,2,12] [] hP enters_91 (table_find.says (t0:=false) a0 a1 h1) (by kernel_rfl) (hands_none _) (.cons (.lend (ty:=76) (by kernel_rfl) rfl) (.cons (pass_d _) .nil)) (st':=⟨29,[(0,.own 1 2 0 a0.length),(1,.i a1),(2,.i a2),(12,.tup [.i v1.1,.b v1.2])],[.gone,eR76 a0]⟩) (by kernel_rfl) ?_
 refine goK hT 11 (K89 1110 1) ⟨29,[(0,.own 1 2 0 a0.length),(1,.i a1),(2,.i a2),(7,.i v1.1),(15,.b v1.2)],[.gone,eR76 a0]⟩ ?_
 by_cases c2:v1.2=true
 ·replace H:=iT c2 H
  rw [c2]
  refine goK hT 6 (K89 1110100 3) ⟨29,[(0,.own 1 2 0 a0.length),(16,.own 1 2 0 a0.length),(17,.i v1.1),(18,.i a2)],[.gone,eR76 a0]⟩ ?_
  obtain ⟨h3,H⟩:=iC H
  refine ak_idx hT [0,18,19] (i:=v1.1) (n:=(a0.length:Int)) h3.1 h3.2 (k':=(K89 1110100 4)) (st':=⟨29,[(0,.own 1 2 0 a0.length),(18,.i a2),(19,.ptr 1 2 v1.1.toNat 0)],[.gone,eR76 a0]⟩) (by kernel_rfl) ?_
  refine goK hT 1 (K89 1110100 5) ⟨29,[(0,.own 1 2 0 a0.length),(18,.i a2),(20,.ptr 1 2 v1.1.toNat 1)],[.gone,eR76 a0]⟩ ?_
  refine ak_st (id:=1) (kk:=2) (i:=v1.1.toNat) (off:=1) (s:=1) (n:=a0.length) (ty:=76) (ds:=[.i a2]) (g:=vec api_Pair.e api_Pair.z a0) (k':=(K89 1110100 6)) hT [0] (vec api_Pair.e api_Pair.z (a0.set v1.1.toNat (⟨(a0.getD v1.1.toNat api_Pair.z).Key,a2⟩:api_Pair))) (by kernel_rfl) (by kernel_rfl) (ltN h3.1 h3.2) ((vec_set (ltN h3.1 h3.2)).trans (by kernel_rfl)) vec_set_ne (st':=⟨29,[(0,.own 1 2 0 (a0.length))],[.gone,.flat false 2 76 a0.length (vec api_Pair.e api_Pair.z (a0.set v1.1.toNat (⟨(a0.getD v1.1.toNat api_Pair.z).Key,a2⟩:api_Pair)))]⟩) (by kernel_rfl) ?_
  refine ak_eq (show a0.length=(a0.set v1.1.toNat (⟨(a0.getD v1.1.toNat api_Pair.z).Key,a2⟩:api_Pair)).length from (List.length_set ..).symm) (fun nn=>⟨29,[(0,.own 1 2 0 (nn))],[.gone,.flat false 2 76 nn (vec api_Pair.e api_Pair.z (a0.set v1.1.toNat (⟨(a0.getD v1.1.toNat api_Pair.z).Key,a2⟩:api_Pair)))]⟩) ?_
  refine goK hT 6 (K89 1110101 1) ⟨29,[(6,.own 1 2 0 ((a0.set v1.1.toNat (⟨(a0.getD v1.1.toNat api_Pair.z).Key,a2⟩:api_Pair)).length))],[.gone,eR76 (a0.set v1.1.toNat (⟨(a0.getD v1.1.toNat api_Pair.z).Key,a2⟩:api_Pair))]⟩ ?_
  obtain rfl:=retC H
  exact retK hf hX h0 (.own 1 2 0 ((a0.set v1.1.toNat (⟨(a0.getD v1.1.toNat api_Pair.z).Key,a2⟩:api_Pair)).length)) [0,1] (fun _ h=>all_cons .gone (fun _ h=>all_cons (nr_vec api_Pair.nl) (fun _ h=>all_nil h) h) h) (.own _ _ _ _)
 ·replace H:=iF c2 H
  rw [boF c2]
  refine goK hT 2 (K89 111 1) ⟨29,[(0,.own 1 2 0 a0.length),(1,.i a1),(2,.i a2),(7,.i v1.1)],[.gone,eR76 a0]⟩ ?_
  refine goK hT 8 (K89 11110 6) ⟨29,[(22,.own 1 2 0 a0.length),(23,.i v1.1),(27,.own 2 2 0 1)],[.gone,eR76 a0,.flat false 2 76 1 (fun j=>[[.i a1,.i a2]].getD j [])]⟩ ?_
  obtain ⟨h4,H⟩:=iC H
  refine ak_callP (avs:=[.own 1 2 0 a0.length,.i v1.1,.own 2 2 0 1]) (dst:=some 28) (k':=(K89 11110 7)) [28] [1,2] hP enters_97 (insert97 a0 v1.1 (⟨a1,a2⟩:api_Pair) h4) (by kernel_rfl) (hands_two rfl rfl rfl rfl (by decide)) (.cons (.same (.own 0 2 0 a0.length)) (.cons (pass_d _) (.cons (.same (.own 1 2 0 1)) .nil))) (st':=⟨29,[(28,.own 3 2 0 ((a0.take v1.1.toNat ++ (⟨a1,a2⟩:api_Pair) :: a0.drop v1.1.toNat).length))],[.gone,.gone,.gone,eR76 (a0.take v1.1.toNat ++ (⟨a1,a2⟩:api_Pair) :: a0.drop v1.1.toNat)]⟩) (by kernel_rfl) ?_
  refine goK hT 2 (K89 1111 1) ⟨29,[(6,.own 3 2 0 ((a0.take v1.1.toNat ++ (⟨a1,a2⟩:api_Pair) :: a0.drop v1.1.toNat).length))],[.gone,.gone,.gone,eR76 (a0.take v1.1.toNat ++ (⟨a1,a2⟩:api_Pair) :: a0.drop v1.1.toNat)]⟩ ?_
  obtain rfl:=retC H
  exact retK hf hX h0 (.own 3 2 0 ((a0.take v1.1.toNat ++ (⟨a1,a2⟩:api_Pair) :: a0.drop v1.1.toNat).length)) [0,3] (fun _ h=>all_cons .gone (fun _ h=>all_cons (nr_vec api_Pair.nl) (fun _ h=>all_nil h) h) h) (.own _ _ _ _)


noncomputable abbrev table_alone.q1 (a0:List api_Pair) (a1:api_Mut):List Row:=[.gone,eR76 a0,.box 48 (eC48 a1),.box 76 (eC76 (a1.Pairs.getD 0 api_Pair.z))]


theorem table_alone.says (a0:List api_Pair) (a1:api_Mut) {r:(List api_Pair) × Bool} (H:table_alone a0 a1=some r):Says Try.prog 88 [eR76 a0] [.own 0 2 0 a0.length,.d (eG48 a1)] [.gone,eR76 r.1] (.tup [.own 1 2 0 r.1.length,.b r.2]):=by
 refine says_of Try.func88 rfl (nt:=57) rfl (Nat.le_of_ble_eq_true rfl) fun X hP h0 hX=>?_
 have hT:TabOk X.P T:=hP▸tok
 have hf:X.P.funcs[88]? = some Try.f88:=hP▸Try.func88
 refine ak_dup 0 (r:=eR76 a0) rfl rfl (st':=⟨57,[(0,.own 1 2 0 a0.length),(1,.d (eG48 a1))],[.gone,eR76 a0]⟩) (by kernel_rfl) (by kernel_rfl) rfl ?_
 refine goK hT 10 (K88 110 2) ⟨57,[(0,.own 1 2 0 a0.length),(3,.ptr 2 0 0 0),(10,.d (eL76 true a1.Pairs))],[.gone,eR76 a0,.box 48 (eC48 a1)]⟩ ?_
 obtain ⟨h1,H⟩:=iC H
 refine ak_idx hT [0,3,11] (i:=0) (n:=(a1.Pairs.length:Int)) h1.1 h1.2 (k':=(K88 110 3)) (st':=⟨57,[(0,.own 1 2 0 a0.length),(3,.ptr 2 0 0 0),(11,.d (eP76 true a1.Pairs 0 0))],[.gone,eR76 a0,.box 48 (eC48 a1)]⟩) (by kernel_rfl) ?_
 refine goK hT 9 (K88 1110 3) ⟨57,[(0,.own 1 2 0 a0.length),(3,.ptr 2 0 0 0),(6,.ptr 3 0 0 0),(14,.own 1 2 0 a0.length),(16,.i ((a1.Pairs.getD 0 api_Pair.z).Key))],(table_alone.q1 a0 a1)⟩ ?_
 obtain ⟨v1,h2,H⟩:=ibC H
 refine ak_callP (avs:=[.own 1 2 0 a0.length,.i ((a1.Pairs.getD 0 api_Pair.z).Key)]) (dst:=some 17) (k':=(K88 1110 4)) [0,3,6,17] [] hP enters_77 (table_get.says (t0:=false) a0 ((a1.Pairs.getD 0 api_Pair.z).Key) h2) (by kernel_rfl) (hands_none _) (.cons (.lend (ty:=76) (by kernel_rfl) rfl) (.cons (pass_d _) .nil)) (st':=⟨57,[(0,.own 1 2 0 a0.length),(3,.ptr 2 0 0 0),(6,.ptr 3 0 0 0),(17,.tup [.i v1.1,.b v1.2])],(table_alone.q1 a0 a1)⟩) (by kernel_rfl) ?_
 refine goK hT 13 (K88 11110 1) ⟨57,[(0,.own 1 2 0 a0.length),(3,.ptr 2 0 0 0),(6,.ptr 3 0 0 0),(7,.i v1.1),(8,.b v1.2),(22,.b (a1.Kind == 3))],(table_alone.q1 a0 a1)⟩ ?_
 by_cases c3:a1.Kind=3
 ·replace H:=iT c3 H
  have Jj1:∀ (y1_34:Bool),(table_alone.j1 a0 a1 v1 y1_34)=some r→AK X 88 ((K88 11110100 1)) (Back X [.gone,eR76 r.1] (.tup [.own 1 2 0 r.1.length,.b r.2])) ⟨57,[(0,.own 1 2 0 a0.length),(6,.ptr 2 0 0 0),(7,.i v1.1),(34,.b y1_34)],[.gone,eR76 a0,.box 76 (eC76 (a1.Pairs.getD 0 api_Pair.z))]⟩:=by
   intro y1_34 H
   by_cases c5:y1_34=true
   ·replace H:=iT c5 H
    rw [c5]
    refine goK hT 7 (K88 1111010010 1) ⟨57,[(4,.own 1 2 0 a0.length),(5,.b false)],[.gone,eR76 a0,.box 76 (eC76 (a1.Pairs.getD 0 api_Pair.z))]⟩ ?_
    obtain rfl:=retC H
    exact retK hf hX h0 (.tup [.own 1 2 0 a0.length,.b false]) [0,1] (fun _ h=>all_cons .gone (fun _ h=>all_cons (nr_vec api_Pair.nl) (fun _ h=>all_nil h) h) h) (.tup (.cons (.own _ _ _ _) (.cons (.d (.v _)) .nil)))
   ·replace H:=iF c5 H
    rw [boF c5]
    refine goK hT 2 (K88 1111010 1) ⟨57,[(0,.own 1 2 0 a0.length),(6,.ptr 2 0 0 0),(7,.i v1.1)],[.gone,eR76 a0,.box 76 (eC76 (a1.Pairs.getD 0 api_Pair.z))]⟩ ?_
    refine goK hT 9 (K88 111101010 7) ⟨57,[(36,.own 1 2 0 a0.length),(38,.i ((a1.Pairs.getD 0 api_Pair.z).Key)),(42,.i (IntKind.wrap .i64 (v1.1+((a1.Pairs.getD 0 api_Pair.z).Val))))],[.gone,eR76 a0,.box 76 (eC76 (a1.Pairs.getD 0 api_Pair.z))]⟩ ?_
    obtain ⟨v2,h6,H⟩:=ibC H
    refine ak_callP (avs:=[.own 1 2 0 a0.length,.i ((a1.Pairs.getD 0 api_Pair.z).Key),.i (IntKind.wrap .i64 (v1.1+((a1.Pairs.getD 0 api_Pair.z).Val)))]) (dst:=some 43) (k':=(K88 111101010 8)) [43] [1] hP enters_89 (table_put.says a0 ((a1.Pairs.getD 0 api_Pair.z).Key) (IntKind.wrap .i64 (v1.1+((a1.Pairs.getD 0 api_Pair.z).Val))) h6) (by kernel_rfl) (hands_one rfl rfl) (.cons (.same (.own 0 2 0 a0.length)) (.cons (pass_d _) (.cons (pass_d _) .nil))) (st':=⟨57,[(43,.own 3 2 0 v2.length)],[.gone,.gone,.box 76 (eC76 (a1.Pairs.getD 0 api_Pair.z)),eR76 v2]⟩) (by kernel_rfl) ?_
    refine goK hT 3 (K88 11110101 1) ⟨57,[(4,.own 3 2 0 v2.length),(5,.b true)],[.gone,.gone,.box 76 (eC76 (a1.Pairs.getD 0 api_Pair.z)),eR76 v2]⟩ ?_
    obtain rfl:=retC H
    exact retK hf hX h0 (.tup [.own 3 2 0 v2.length,.b true]) [0,3] (fun _ h=>all_cons .gone (fun _ h=>all_cons (nr_vec api_Pair.nl) (fun _ h=>all_nil h) h) h) (.tup (.cons (.own _ _ _ _) (.cons (.d (.v _)) .nil)))
  rw [eqT c3]
  refine goK hT 10 (K88 111101000 6) ⟨57,[(0,.own 1 2 0 a0.length),(6,.ptr 3 0 0 0),(7,.i v1.1),(28,.b (decide ((IntKind.wrap .i64 (v1.1+((a1.Pairs.getD 0 api_Pair.z).Val))) < 0)))],(table_alone.q1 a0 a1)⟩ ?_
  by_cases c4:(IntKind.wrap .i64 (v1.1+((a1.Pairs.getD 0 api_Pair.z).Val))) < 0
  ·replace H:=iT c4 H
   rw [decide_eq_true c4]
   refine goCut hT 7 (K88 11110100 1) [0,1,3] ⟨57,[(0,.own 1 2 0 a0.length),(6,.ptr 2 0 0 0),(7,.i v1.1),(34,.b true)],[.gone,eR76 a0,.box 76 (eC76 (a1.Pairs.getD 0 api_Pair.z))]⟩ h0 ?_
   exact Jj1 true H
  ·replace H:=iF c4 H
   rw [decide_eq_false c4]
   refine goCut hT 7 (K88 11110100 1) [0,1,3] ⟨57,[(0,.own 1 2 0 a0.length),(6,.ptr 2 0 0 0),(7,.i v1.1),(34,.b (decide ((IntKind.wrap .i64 (v1.1+((a1.Pairs.getD 0 api_Pair.z).Val))) > 1099511627776)))],[.gone,eR76 a0,.box 76 (eC76 (a1.Pairs.getD 0 api_Pair.z))]⟩ h0 ?_
   exact Jj1 (decide ((IntKind.wrap .i64 (v1.1+((a1.Pairs.getD 0 api_Pair.z).Val))) > 1099511627776)) H
 ·replace H:=iF c3 H
  have Jj2:∀ (y2_7:Int),(table_alone.j2 a0 a1 y2_7)=some r→AK X 88 ((K88 11111 1)) (Back X [.gone,eR76 r.1] (.tup [.own 1 2 0 r.1.length,.b r.2])) ⟨57,[(0,.own 1 2 0 a0.length),(3,.ptr 2 0 0 0),(6,.ptr 3 0 0 0),(7,.i y2_7)],(table_alone.q1 a0 a1)⟩:=by
   intro y2_7 H
   refine goK hT 8 (K88 1111110 1) ⟨57,[(0,.own 1 2 0 a0.length),(6,.ptr 3 0 0 0),(49,.b (y2_7 != a1.Old))],(table_alone.q1 a0 a1)⟩ ?_
   by_cases c8:y2_7=a1.Old
   ·replace H:=iT c8 H
    rw [neF c8]
    refine goK hT 2 (K88 111111 1) ⟨57,[(0,.own 1 2 0 a0.length),(6,.ptr 3 0 0 0)],(table_alone.q1 a0 a1)⟩ ?_
    refine goK hT 7 (K88 11111110 5) ⟨57,[(51,.own 1 2 0 a0.length),(53,.i ((a1.Pairs.getD 0 api_Pair.z).Key)),(55,.i ((a1.Pairs.getD 0 api_Pair.z).Val))],(table_alone.q1 a0 a1)⟩ ?_
    obtain ⟨v3,h9,H⟩:=ibC H
    refine ak_callP (avs:=[.own 1 2 0 a0.length,.i ((a1.Pairs.getD 0 api_Pair.z).Key),.i ((a1.Pairs.getD 0 api_Pair.z).Val)]) (dst:=some 56) (k':=(K88 11111110 6)) [56] [1] hP enters_89 (table_put.says a0 ((a1.Pairs.getD 0 api_Pair.z).Key) ((a1.Pairs.getD 0 api_Pair.z).Val) h9) (by kernel_rfl) (hands_one rfl rfl) (.cons (.same (.own 0 2 0 a0.length)) (.cons (pass_d _) (.cons (pass_d _) .nil))) (st':=⟨57,[(56,.own 4 2 0 v3.length)],[.gone,.gone,.box 48 (eC48 a1),.box 76 (eC76 (a1.Pairs.getD 0 api_Pair.z)),eR76 v3]⟩) (by kernel_rfl) ?_
    refine goK hT 3 (K88 1111111 1) ⟨57,[(4,.own 4 2 0 v3.length),(5,.b true)],[.gone,.gone,.box 48 (eC48 a1),.box 76 (eC76 (a1.Pairs.getD 0 api_Pair.z)),eR76 v3]⟩ ?_
    obtain rfl:=retC H
    exact retK hf hX h0 (.tup [.own 4 2 0 v3.length,.b true]) [0,4] (fun _ h=>all_cons .gone (fun _ h=>all_cons (nr_vec api_Pair.nl) (fun _ h=>all_nil h) h) h) (.tup (.cons (.own _ _ _ _) (.cons (.d (.v _)) .nil)))
   ·replace H:=iF c8 H
    rw [neT c8]
    refine goK hT 7 (K88 111111010 1) ⟨57,[(4,.own 1 2 0 a0.length),(5,.b false)],(table_alone.q1 a0 a1)⟩ ?_
    obtain rfl:=retC H
    exact retK hf hX h0 (.tup [.own 1 2 0 a0.length,.b false]) [0,1] (fun _ h=>all_cons .gone (fun _ h=>all_cons (nr_vec api_Pair.nl) (fun _ h=>all_nil h) h) h) (.tup (.cons (.own _ _ _ _) (.cons (.d (.v _)) .nil)))
  rw [eqF c3]
  refine goK hT 2 (K88 1111 1) ⟨57,[(0,.own 1 2 0 a0.length),(3,.ptr 2 0 0 0),(6,.ptr 3 0 0 0),(7,.i v1.1),(8,.b v1.2)],(table_alone.q1 a0 a1)⟩ ?_
  refine goK hT 6 (K88 111110 1) ⟨57,[(0,.own 1 2 0 a0.length),(3,.ptr 2 0 0 0),(6,.ptr 3 0 0 0),(7,.i v1.1),(45,.b (!v1.2))],(table_alone.q1 a0 a1)⟩ ?_
  by_cases c7:v1.2=true
  ·replace H:=iT c7 H
   rw [c7]
   refine goK hT 2 (K88 11111 1) ⟨57,[(0,.own 1 2 0 a0.length),(3,.ptr 2 0 0 0),(6,.ptr 3 0 0 0),(7,.i v1.1)],(table_alone.q1 a0 a1)⟩ ?_
   exact Jj2 v1.1 H
  ·replace H:=iF c7 H
   rw [boF c7]
   refine goK hT 4 (K88 11111 1) ⟨57,[(0,.own 1 2 0 a0.length),(3,.ptr 2 0 0 0),(6,.ptr 3 0 0 0),(7,.i 1099511627777)],(table_alone.q1 a0 a1)⟩ ?_
   exact Jj2 1099511627777 H


theorem table_move.says (a0:List api_Pair) (a1:Int) (a2:Int) {r:List api_Pair} (H:table_move a0 a1 a2=some r):Says Try.prog 90 [eR76 a0] [.own 0 2 0 a0.length,.i a1,.i a2] [.gone,eR76 r] (.own 1 2 0 r.length):=by
 refine says_of Try.func90 rfl (nt:=23) rfl (Nat.le_of_ble_eq_true rfl) fun X hP h0 hX=>?_
 have hT:TabOk X.P T:=hP▸tok
 have hf:X.P.funcs[90]? = some Try.f90:=hP▸Try.func90
 refine ak_dup 0 (r:=eR76 a0) rfl rfl (st':=⟨23,[(0,.own 1 2 0 a0.length),(1,.i a1),(2,.i a2)],[.gone,eR76 a0]⟩) (by kernel_rfl) (by kernel_rfl) rfl ?_
 refine goK hT 8 (K90 110 2) ⟨23,[(0,.own 1 2 0 a0.length),(1,.i a1),(2,.i a2),(10,.own 1 2 0 a0.length),(11,.i a1)],[.gone,eR76 a0]⟩ ?_
 obtain ⟨v1,h1,H⟩:=ibC H
 refine ak_callP (avs:=[.own 1 2 0 a0.length,.i a1]) (dst:=some 12) (k':=(K90 110 3)) [0,1,2,12] [] hP enters_77 (table_get.says (t0:=false) a0 a1 h1) (by kernel_rfl) (hands_none _) (.cons (.lend (ty:=76) (by kernel_rfl) rfl) (.cons (pass_d _) .nil)) (st':=⟨23,[(0,.own 1 2 0 a0.length),(1,.i a1),(2,.i a2),(12,.tup [.i v1.1,.b v1.2])],[.gone,eR76 a0]⟩) (by kernel_rfl) ?_
 refine goK hT 15 (K90 1110 7) ⟨23,[(15,.own 1 2 0 a0.length),(16,.i a1),(21,.i (iMin (iMax (IntKind.wrap .i64 (v1.1+a2)) (-1099511627776)) 1099511627776))],[.gone,eR76 a0]⟩ ?_
 obtain ⟨v2,h2,H⟩:=ibC H
 refine ak_callP (avs:=[.own 1 2 0 a0.length,.i a1,.i (iMin (iMax (IntKind.wrap .i64 (v1.1+a2)) (-1099511627776)) 1099511627776)]) (dst:=some 22) (k':=(K90 1110 8)) [22] [1] hP enters_89 (table_put.says a0 a1 (iMin (iMax (IntKind.wrap .i64 (v1.1+a2)) (-1099511627776)) 1099511627776) h2) (by kernel_rfl) (hands_one rfl rfl) (.cons (.same (.own 0 2 0 a0.length)) (.cons (pass_d _) (.cons (pass_d _) .nil))) (st':=⟨23,[(22,.own 2 2 0 v2.length)],[.gone,.gone,eR76 v2]⟩) (by kernel_rfl) ?_
 refine goK hT 2 (K90 111 1) ⟨23,[(6,.own 2 2 0 v2.length)],[.gone,.gone,eR76 v2]⟩ ?_
 obtain rfl:=retC H
 exact retK hf hX h0 (.own 2 2 0 v2.length) [0,2] (fun _ h=>all_cons .gone (fun _ h=>all_cons (nr_vec api_Pair.nl) (fun _ h=>all_nil h) h) h) (.own _ _ _ _)


noncomputable abbrev table_Apply.q1 (a1:api_Mut) (x1_54:Int):=(a1.Pairs.getD x1_54.toNat api_Pair.z)


theorem table_Apply.says {t0:Bool} (a0:List api_Pair) (a1:api_Mut) (a2:List api_Span) {r:(List api_Pair) × Bool} (H:table_Apply a0 a1 a2=some r):Says Try.prog 75 [] [.d (eL76 t0 a0),.d (eG48 a1),.d (eL46 true a2)] [eR76 r.1] (.tup [.own 0 2 0 r.1.length,.b r.2]):=by
 refine says_of Try.func75 rfl (nt:=93) rfl (Nat.le_of_ble_eq_true rfl) fun X hP h0 hX=>?_
 have hT:TabOk X.P T:=hP▸tok
 have hf:X.P.funcs[75]? = some Try.f75:=hP▸Try.func75
 refine goK hT 10 (K75 1100 1) ⟨93,[(0,.d (eL76 t0 a0)),(2,.d (eL46 true a2)),(4,.ptr 0 0 0 0),(10,.d (eL76 t0 a0))],[.box 48 (eC48 a1)]⟩ ?_
 obtain ⟨v1,h1,H⟩:=ibC H
 have Jj1:∀ (y1_22:Bool),(table_Apply.j1 a0 a1 a2 y1_22)=some r→AK X 75 ((K75 110 1)) (Back X [eR76 r.1] (.tup [.own 0 2 0 r.1.length,.b r.2])) ⟨93,[(0,.d (eL76 t0 a0)),(2,.d (eL46 true a2)),(4,.ptr 0 0 0 0),(22,.b y1_22)],[.box 48 (eC48 a1)]⟩:=by
  intro y1_22 H
  by_cases c6:y1_22=true
  ·replace H:=iT c6 H
   rw [c6]
   refine goK hT 6 (K75 11010 1) ⟨93,[(6,.ns),(7,.b false)],[.box 48 (eC48 a1)]⟩ ?_
   refine ak_nilS [6,7] 6 2 76 (vec api_Pair.e api_Pair.z []) (st':=⟨93,[(6,.own 1 2 0 0),(7,.b false)],[.box 48 (eC48 a1),eR76 ([]:List api_Pair)]⟩) (by kernel_rfl) (by kernel_rfl) ?_
   obtain rfl:=retC H
   exact retK hf hX h0 (.tup [.own 1 2 0 0,.b false]) [1] (fun _ h=>all_cons (nr_vec api_Pair.nl) (fun _ h=>all_nil h) h) (.tup (.cons (.own _ _ _ _) (.cons (.d (.v _)) .nil)))
  ·replace H:=iF c6 H
   rw [boF c6]
   refine goK hT 2 (K75 11 1) ⟨93,[(0,.d (eL76 t0 a0)),(2,.d (eL46 true a2)),(4,.ptr 0 0 0 0)],[.box 48 (eC48 a1)]⟩ ?_
   refine goK hT 3 (K75 1110 1) ⟨93,[(2,.d (eL46 true a2)),(4,.ptr 0 0 0 0),(23,.d (eL76 t0 a0))],[.box 48 (eC48 a1)]⟩ ?_
   obtain ⟨h7,H⟩:=iC H
   refine ak_callP (avs:=[.d (eL76 t0 a0)]) (dst:=some 24) (k':=(K75 1110 2)) [2,4,24] [] hP enters_38 (clone38 (tg:=t0) a0 h7) (by kernel_rfl) (hands_none _) (.cons (pass_d _) .nil) (st':=⟨93,[(2,.d (eL46 true a2)),(4,.ptr 0 0 0 0),(24,.own 1 2 0 a0.length)],[.box 48 (eC48 a1),eR76 a0]⟩) (by kernel_rfl) ?_
   refine goK hT 11 (K75 111100 1) ⟨93,[(2,.d (eL46 true a2)),(4,.ptr 0 0 0 0),(6,.own 1 2 0 a0.length),(25,.b (a1.Kind == 2))],[.box 48 (eC48 a1),eR76 a0]⟩ ?_
   by_cases c8:a1.Kind=2
   ·replace H:=iT c8 H
    rw [eqT c8]
    refine goK hT 7 (K75 111100100 4) ⟨93,[(29,.own 1 2 0 a0.length),(31,.d (eG46 a1.Over)),(32,.d (eL46 true a2))],[.box 48 (eC48 a1),eR76 a0]⟩ ?_
    obtain ⟨v4,h9,H⟩:=ibC H
    refine ak_callP (avs:=[.own 1 2 0 a0.length,.d (eG46 a1.Over),.d (eL46 true a2)]) (dst:=some 33) (k':=(K75 111100100 5)) [33] [1] hP enters_85 (table_cut.says a0 a1.Over a2 h9) (by kernel_rfl) (hands_one rfl rfl) (.cons (.same (.own 0 2 0 a0.length)) (.cons (pass_d _) (.cons (pass_d _) .nil))) (st':=⟨93,[(33,.own 2 2 0 v4.length)],[.box 48 (eC48 a1),.gone,eR76 v4]⟩) (by kernel_rfl) ?_
    refine goK hT 3 (K75 11110010 1) ⟨93,[(6,.own 2 2 0 v4.length),(7,.b true)],[.box 48 (eC48 a1),.gone,eR76 v4]⟩ ?_
    obtain rfl:=retC H
    exact retK hf hX h0 (.tup [.own 2 2 0 v4.length,.b true]) [2] (fun _ h=>all_cons (nr_vec api_Pair.nl) (fun _ h=>all_nil h) h) (.tup (.cons (.own _ _ _ _) (.cons (.d (.v _)) .nil)))
   ·replace H:=iF c8 H
    rw [eqF c8]
    refine goK hT 4 (K75 111100110 1) ⟨93,[(2,.d (eL46 true a2)),(4,.ptr 0 0 0 0),(6,.own 1 2 0 a0.length),(35,.d (eG48 a1))],[.box 48 (eC48 a1),eR76 a0]⟩ ?_
    obtain ⟨v5,h10,H⟩:=ibC H
    refine ak_callP (avs:=[.d (eG48 a1)]) (dst:=some 36) (k':=(K75 111100110 2)) [2,4,6,36] [] hP enters_86 (mut_Alone.says a1 h10) (by kernel_rfl) (hands_none _) (.cons (pass_d _) .nil) (st':=⟨93,[(2,.d (eL46 true a2)),(4,.ptr 0 0 0 0),(6,.own 1 2 0 a0.length),(36,.b v5)],[.box 48 (eC48 a1),eR76 a0]⟩) (by kernel_rfl) ?_
    refine goK hT 2 (K75 11110011 1) ⟨93,[(2,.d (eL46 true a2)),(4,.ptr 0 0 0 0),(6,.own 1 2 0 a0.length),(34,.b v5)],[.box 48 (eC48 a1),eR76 a0]⟩ ?_
    by_cases c11:v5=true
    ·replace H:=iT c11 H
     rw [c11]
     refine goK hT 7 (K75 111100111000 3) ⟨93,[(4,.ptr 0 0 0 0),(6,.own 1 2 0 a0.length),(37,.d (eL46 true a2)),(39,.d (eL76 true a1.Pairs))],[.box 48 (eC48 a1),eR76 a0]⟩ ?_
     obtain ⟨h12,H⟩:=iC H
     refine ak_idx hT [4,6,37,40] (i:=0) (n:=(a1.Pairs.length:Int)) h12.1 h12.2 (k':=(K75 111100111000 4)) (st':=⟨93,[(4,.ptr 0 0 0 0),(6,.own 1 2 0 a0.length),(37,.d (eL46 true a2)),(40,.d (eP76 true a1.Pairs 0 0))],[.box 48 (eC48 a1),eR76 a0]⟩) (by kernel_rfl) ?_
     refine goK hT 2 (K75 111100111000 6) ⟨93,[(4,.ptr 0 0 0 0),(6,.own 1 2 0 a0.length),(37,.d (eL46 true a2)),(42,.i ((a1.Pairs.getD 0 api_Pair.z).Key))],[.box 48 (eC48 a1),eR76 a0]⟩ ?_
     obtain ⟨v6,h13,H⟩:=ibC H
     refine ak_callP (avs:=[.d (eL46 true a2),.i ((a1.Pairs.getD 0 api_Pair.z).Key)]) (dst:=some 43) (k':=(K75 111100111000 7)) [4,6,43] [] hP enters_87 (span_Has.says (t0:=true) a2 ((a1.Pairs.getD 0 api_Pair.z).Key) h13) (by kernel_rfl) (hands_none _) (.cons (pass_d _) (.cons (pass_d _) .nil)) (st':=⟨93,[(4,.ptr 0 0 0 0),(6,.own 1 2 0 a0.length),(43,.b v6)],[.box 48 (eC48 a1),eR76 a0]⟩) (by kernel_rfl) ?_
     refine goK hT 2 (K75 11110011100 1) ⟨93,[(4,.ptr 0 0 0 0),(6,.own 1 2 0 a0.length),(44,.b (!v6))],[.box 48 (eC48 a1),eR76 a0]⟩ ?_
     by_cases c14:v6=true
     ·replace H:=iT c14 H
      rw [c14]
      refine goK hT 2 (K75 1111001110 1) ⟨93,[(4,.ptr 0 0 0 0),(6,.own 1 2 0 a0.length)],[.box 48 (eC48 a1),eR76 a0]⟩ ?_
      refine goK hT 4 (K75 111100111010 2) ⟨93,[(46,.own 1 2 0 a0.length),(47,.d (eG48 a1))],[.box 48 (eC48 a1),eR76 a0]⟩ ?_
      obtain ⟨v7,h15,H⟩:=ibC H
      refine ak_callP (avs:=[.own 1 2 0 a0.length,.d (eG48 a1)]) (dst:=some 48) (k':=(K75 111100111010 3)) [48] [1] hP enters_88 (table_alone.says a0 a1 h15) (by kernel_rfl) (hands_one rfl rfl) (.cons (.same (.own 0 2 0 a0.length)) (.cons (pass_d _) .nil)) (st':=⟨93,[(48,.tup [.own 2 2 0 v7.1.length,.b v7.2])],[.box 48 (eC48 a1),.gone,eR76 v7.1]⟩) (by kernel_rfl) ?_
      refine goK hT 5 (K75 11110011101 1) ⟨93,[(6,.own 2 2 0 v7.1.length),(7,.b v7.2)],[.box 48 (eC48 a1),.gone,eR76 v7.1]⟩ ?_
      obtain rfl:=retC H
      exact retK hf hX h0 (.tup [.own 2 2 0 v7.1.length,.b v7.2]) [2] (fun _ h=>all_cons (nr_vec api_Pair.nl) (fun _ h=>all_nil h) h) (.tup (.cons (.own _ _ _ _) (.cons (.d (.v _)) .nil)))
     ·replace H:=iF c14 H
      rw [boF c14]
      refine goK hT 7 (K75 1111001110010 1) ⟨93,[(6,.own 1 2 0 a0.length),(7,.b true)],[.box 48 (eC48 a1),eR76 a0]⟩ ?_
      obtain rfl:=retC H
      exact retK hf hX h0 (.tup [.own 1 2 0 a0.length,.b true]) [1] (fun _ h=>all_cons (nr_vec api_Pair.nl) (fun _ h=>all_nil h) h) (.tup (.cons (.own _ _ _ _) (.cons (.d (.v _)) .nil)))
    ·replace H:=iF c11 H
     rw [boF c11]
     refine goK hT 3 (K75 1111 1) ⟨93,[(2,.d (eL46 true a2)),(4,.ptr 0 0 0 0),(6,.own 1 2 0 a0.length)],[.box 48 (eC48 a1),eR76 a0]⟩ ?_
     refine goK hT 10 (K75 11111010 0) ⟨93,[(2,.d (eL46 true a2)),(4,.ptr 0 0 0 0),(6,.own 1 2 0 a0.length),(52,.d (eL76 true a1.Pairs)),(53,.i (a1.Pairs.length:Int)),(54,.i 0)],[.box 48 (eC48 a1),eR76 a0]⟩ ?_
     have L:∀ n,(∀ (x1_54:Int) (x1_r1:List api_Pair),iter (table_Apply.step a1 a2) n (.l1 x1_54 x1_r1)=some r→AK X 75 ((K75 11111010 0)) (Back X [eR76 r.1] (.tup [.own 0 2 0 r.1.length,.b r.2])) ⟨93,[(2,.d (eL46 true a2)),(4,.ptr 0 0 0 0),(6,.own 1 2 0 x1_r1.length),(52,.d (eL76 true a1.Pairs)),(53,.i (a1.Pairs.length:Int)),(54,.i x1_54)],[.box 48 (eC48 a1),eR76 x1_r1]⟩):=by
      intro n
      induction n with
      | zero=>exact fun _ _ H=>iter0 H
      | succ n ih=>
       ·intro x1_54 x1_r1 H
        refine goK hT 5 (K75 1111101001 0) ⟨93,[(2,.d (eL46 true a2)),(4,.ptr 0 0 0 0),(6,.own 1 2 0 x1_r1.length),(52,.d (eL76 true a1.Pairs)),(53,.i (a1.Pairs.length:Int)),(54,.i x1_54),(55,.b (decide (x1_54 < (a1.Pairs.length:Int))))],[.box 48 (eC48 a1),eR76 x1_r1]⟩ ?_
        by_cases c16:x1_54 < (a1.Pairs.length:Int)
        ·replace H:=sT c16 H
         rw [decide_eq_true c16]
         refine goK hT 2 (K75 1111101001 1) ⟨93,[(2,.d (eL46 true a2)),(4,.ptr 0 0 0 0),(6,.own 1 2 0 x1_r1.length),(52,.d (eL76 true a1.Pairs)),(53,.i (a1.Pairs.length:Int)),(54,.i x1_54)],[.box 48 (eC48 a1),eR76 x1_r1]⟩ ?_
         refine goK hT 5 (K75 11111010011000 1) ⟨93,[(2,.d (eL46 true a2)),(4,.ptr 0 0 0 0),(6,.own 1 2 0 x1_r1.length),(52,.d (eL76 true a1.Pairs)),(53,.i (a1.Pairs.length:Int)),(54,.i x1_54),(56,.i x1_54)],[.box 48 (eC48 a1),eR76 x1_r1]⟩ ?_
         obtain ⟨h17,H⟩:=sC H
         refine ak_idx hT [2,4,6,52,53,54,56,57] (i:=x1_54) (n:=(a1.Pairs.length:Int)) h17.1 h17.2 (k':=(K75 11111010011000 2)) (st':=⟨93,[(2,.d (eL46 true a2)),(4,.ptr 0 0 0 0),(6,.own 1 2 0 x1_r1.length),(52,.d (eL76 true a1.Pairs)),(53,.i (a1.Pairs.length:Int)),(54,.i x1_54),(56,.i x1_54),(57,.d (eP76 true a1.Pairs x1_54.toNat 0))],[.box 48 (eC48 a1),eR76 x1_r1]⟩) (by kernel_rfl) ?_
         refine goK hT 11 (K75 1111101001100100 3) ⟨93,[(2,.d (eL46 true a2)),(4,.ptr 0 0 0 0),(6,.own 1 2 0 x1_r1.length),(8,.i x1_54),(9,.ptr 2 0 0 0),(52,.d (eL76 true a1.Pairs)),(53,.i (a1.Pairs.length:Int)),(54,.i x1_54),(66,.d (eL46 true a2)),(68,.i ((table_Apply.q1 a1 x1_54).Key))],[.box 48 (eC48 a1),eR76 x1_r1,.box 76 (eC76 (table_Apply.q1 a1 x1_54))]⟩ ?_
         obtain ⟨v8,h18,H⟩:=sbC H
         have Jj2:∀ (y2_r1:List api_Pair),stk (table_Apply.j2 x1_54 y2_r1) (iter (table_Apply.step a1 a2) n)=some r→AK X 75 ((K75 11111010011 1)) (Back X [eR76 r.1] (.tup [.own 0 2 0 r.1.length,.b r.2])) ⟨93,[(2,.d (eL46 true a2)),(4,.ptr 0 0 0 0),(6,.own 1 2 0 y2_r1.length),(52,.d (eL76 true a1.Pairs)),(53,.i (a1.Pairs.length:Int)),(54,.i x1_54)],[.box 48 (eC48 a1),eR76 y2_r1]⟩:=by
          intro y2_r1 H
          refine goK hT 5 (K75 11111010 0) ⟨93,[(2,.d (eL46 true a2)),(4,.ptr 0 0 0 0),(6,.own 1 2 0 y2_r1.length),(52,.d (eL76 true a1.Pairs)),(53,.i (a1.Pairs.length:Int)),(54,.i (IntKind.wrap .i64 (x1_54+1)))],[.box 48 (eC48 a1),eR76 y2_r1]⟩ ?_
          exact ih (IntKind.wrap .i64 (x1_54+1)) y2_r1 H
         refine ak_callP (avs:=[.d (eL46 true a2),.i ((table_Apply.q1 a1 x1_54).Key)]) (dst:=some 69) (k':=(K75 1111101001100100 4)) [2,4,6,8,9,52,53,54,69] [] hP enters_87 (span_Has.says (t0:=true) a2 ((table_Apply.q1 a1 x1_54).Key) h18) (by kernel_rfl) (hands_none _) (.cons (pass_d _) (.cons (pass_d _) .nil)) (st':=⟨93,[(2,.d (eL46 true a2)),(4,.ptr 0 0 0 0),(6,.own 1 2 0 x1_r1.length),(8,.i x1_54),(9,.ptr 2 0 0 0),(52,.d (eL76 true a1.Pairs)),(53,.i (a1.Pairs.length:Int)),(54,.i x1_54),(69,.b v8)],[.box 48 (eC48 a1),eR76 x1_r1,.box 76 (eC76 (table_Apply.q1 a1 x1_54))]⟩) (by kernel_rfl) ?_
         refine goK hT 3 (K75 111110100110010 1) ⟨93,[(2,.d (eL46 true a2)),(4,.ptr 0 0 0 0),(6,.own 1 2 0 x1_r1.length),(8,.i x1_54),(9,.ptr 2 0 0 0),(52,.d (eL76 true a1.Pairs)),(53,.i (a1.Pairs.length:Int)),(54,.i x1_54),(65,.b (!v8))],[.box 48 (eC48 a1),eR76 x1_r1,.box 76 (eC76 (table_Apply.q1 a1 x1_54))]⟩ ?_
         by_cases c19:v8=true
         ·replace H:=sT c19 H
          rw [c19]
          refine goK hT 8 (K75 11111010011001011 1) ⟨93,[(2,.d (eL46 true a2)),(4,.ptr 0 0 0 0),(6,.own 1 2 0 x1_r1.length),(8,.i x1_54),(9,.ptr 2 0 0 0),(52,.d (eL76 true a1.Pairs)),(53,.i (a1.Pairs.length:Int)),(54,.i x1_54),(71,.b (a1.Kind == 1))],[.box 48 (eC48 a1),eR76 x1_r1,.box 76 (eC76 (table_Apply.q1 a1 x1_54))]⟩ ?_
          by_cases c20:a1.Kind=1
          ·replace H:=sT c20 H
           rw [eqT c20]
           refine goK hT 7 (K75 1111101001100101110 5) ⟨93,[(2,.d (eL46 true a2)),(4,.ptr 0 0 0 0),(52,.d (eL76 true a1.Pairs)),(53,.i (a1.Pairs.length:Int)),(54,.i x1_54),(75,.own 1 2 0 x1_r1.length),(77,.i ((table_Apply.q1 a1 x1_54).Key)),(79,.i ((table_Apply.q1 a1 x1_54).Val))],[.box 48 (eC48 a1),eR76 x1_r1,.box 76 (eC76 (table_Apply.q1 a1 x1_54))]⟩ ?_
           obtain ⟨v9,h21,H⟩:=sbC H
           refine ak_callP (avs:=[.own 1 2 0 x1_r1.length,.i ((table_Apply.q1 a1 x1_54).Key),.i ((table_Apply.q1 a1 x1_54).Val)]) (dst:=some 80) (k':=(K75 1111101001100101110 6)) [2,4,52,53,54,80] [1] hP enters_89 (table_put.says x1_r1 ((table_Apply.q1 a1 x1_54).Key) ((table_Apply.q1 a1 x1_54).Val) h21) (by kernel_rfl) (hands_one rfl rfl) (.cons (.same (.own 0 2 0 x1_r1.length)) (.cons (pass_d _) (.cons (pass_d _) .nil))) (st':=⟨93,[(2,.d (eL46 true a2)),(4,.ptr 0 0 0 0),(52,.d (eL76 true a1.Pairs)),(53,.i (a1.Pairs.length:Int)),(54,.i x1_54),(80,.own 3 2 0 v9.length)],[.box 48 (eC48 a1),.gone,.box 76 (eC76 (table_Apply.q1 a1 x1_54)),eR76 v9]⟩) (by kernel_rfl) ?_
           refine goCut hT 4 (K75 11111010011 1) [0,3] ⟨93,[(2,.d (eL46 true a2)),(4,.ptr 0 0 0 0),(6,.own 1 2 0 v9.length),(52,.d (eL76 true a1.Pairs)),(53,.i (a1.Pairs.length:Int)),(54,.i x1_54)],[.box 48 (eC48 a1),eR76 v9]⟩ h0 ?_
           exact Jj2 v9 H
          ·replace H:=sF c20 H
           rw [eqF c20]
           refine goK hT 7 (K75 1111101001100101111 1) ⟨93,[(2,.d (eL46 true a2)),(4,.ptr 0 0 0 0),(6,.own 1 2 0 x1_r1.length),(9,.ptr 2 0 0 0),(52,.d (eL76 true a1.Pairs)),(53,.i (a1.Pairs.length:Int)),(54,.i x1_54),(81,.b (x1_54 == 0))],[.box 48 (eC48 a1),eR76 x1_r1,.box 76 (eC76 (table_Apply.q1 a1 x1_54))]⟩ ?_
           by_cases c22:x1_54=0
           ·replace H:=sT c22 H
            rw [eqT c22]
            refine goK hT 8 (K75 111110100110010111110 6) ⟨93,[(2,.d (eL46 true a2)),(4,.ptr 0 0 0 0),(52,.d (eL76 true a1.Pairs)),(53,.i (a1.Pairs.length:Int)),(54,.i x1_54),(84,.own 1 2 0 x1_r1.length),(86,.i ((table_Apply.q1 a1 x1_54).Key)),(89,.i (IntKind.wrap .i64 (0 - ((table_Apply.q1 a1 x1_54).Val))))],[.box 48 (eC48 a1),eR76 x1_r1,.box 76 (eC76 (table_Apply.q1 a1 x1_54))]⟩ ?_
            obtain ⟨v10,h23,H⟩:=sbC H
            refine ak_callP (avs:=[.own 1 2 0 x1_r1.length,.i ((table_Apply.q1 a1 x1_54).Key),.i (IntKind.wrap .i64 (0 - ((table_Apply.q1 a1 x1_54).Val)))]) (dst:=some 90) (k':=(K75 111110100110010111110 7)) [2,4,52,53,54,90] [1] hP enters_90 (table_move.says x1_r1 ((table_Apply.q1 a1 x1_54).Key) (IntKind.wrap .i64 (0 - ((table_Apply.q1 a1 x1_54).Val))) h23) (by kernel_rfl) (hands_one rfl rfl) (.cons (.same (.own 0 2 0 x1_r1.length)) (.cons (pass_d _) (.cons (pass_d _) .nil))) (st':=⟨93,[(2,.d (eL46 true a2)),(4,.ptr 0 0 0 0),(52,.d (eL76 true a1.Pairs)),(53,.i (a1.Pairs.length:Int)),(54,.i x1_54),(90,.own 3 2 0 v10.length)],[.box 48 (eC48 a1),.gone,.box 76 (eC76 (table_Apply.q1 a1 x1_54)),eR76 v10]⟩) (by kernel_rfl) ?_
            refine goCut hT 4 (K75 11111010011 1) [0,3] ⟨93,[(2,.d (eL46 true a2)),(4,.ptr 0 0 0 0),(6,.own 1 2 0 v10.length),(52,.d (eL76 true a1.Pairs)),(53,.i (a1.Pairs.length:Int)),(54,.i x1_54)],[.box 48 (eC48 a1),eR76 v10]⟩ h0 ?_
            exact Jj2 v10 H
           ·replace H:=sF c22 H
            rw [eqF c22]
            refine goK hT 7 (K75 111110100110010111111 5) ⟨93,[(2,.d (eL46 true a2)),(4,.ptr 0 0 0 0),(52,.d (eL76 true a1.Pairs)),(53,.i (a1.Pairs.length:Int)),(54,.i x1_54),(59,.own 1 2 0 x1_r1.length),(61,.i ((table_Apply.q1 a1 x1_54).Key)),(63,.i ((table_Apply.q1 a1 x1_54).Val))],[.box 48 (eC48 a1),eR76 x1_r1,.box 76 (eC76 (table_Apply.q1 a1 x1_54))]⟩ ?_
            obtain ⟨v11,h24,H⟩:=sbC H
            refine ak_callP (avs:=[.own 1 2 0 x1_r1.length,.i ((table_Apply.q1 a1 x1_54).Key),.i ((table_Apply.q1 a1 x1_54).Val)]) (dst:=some 64) (k':=(K75 111110100110010111111 6)) [2,4,52,53,54,64] [1] hP enters_90 (table_move.says x1_r1 ((table_Apply.q1 a1 x1_54).Key) ((table_Apply.q1 a1 x1_54).Val) h24) (by kernel_rfl) (hands_one rfl rfl) (.cons (.same (.own 0 2 0 x1_r1.length)) (.cons (pass_d _) (.cons (pass_d _) .nil))) (st':=⟨93,[(2,.d (eL46 true a2)),(4,.ptr 0 0 0 0),(52,.d (eL76 true a1.Pairs)),(53,.i (a1.Pairs.length:Int)),(54,.i x1_54),(64,.own 3 2 0 v11.length)],[.box 48 (eC48 a1),.gone,.box 76 (eC76 (table_Apply.q1 a1 x1_54)),eR76 v11]⟩) (by kernel_rfl) ?_
            refine goCut hT 4 (K75 11111010011 1) [0,3] ⟨93,[(2,.d (eL46 true a2)),(4,.ptr 0 0 0 0),(6,.own 1 2 0 v11.length),(52,.d (eL76 true a1.Pairs)),(53,.i (a1.Pairs.length:Int)),(54,.i x1_54)],[.box 48 (eC48 a1),eR76 v11]⟩ h0 ?_
            exact Jj2 v11 H
         ·replace H:=sF c19 H
          rw [boF c19]
          refine goCut hT 4 (K75 11111010011 1) [0,1] ⟨93,[(2,.d (eL46 true a2)),(4,.ptr 0 0 0 0),(6,.own 1 2 0 x1_r1.length),(52,.d (eL76 true a1.Pairs)),(53,.i (a1.Pairs.length:Int)),(54,.i x1_54)],[.box 48 (eC48 a1),eR76 x1_r1]⟩ h0 ?_
          exact Jj2 x1_r1 H
        ·replace H:=sF c16 H
         rw [decide_eq_false c16]
         refine goK hT 8 (K75 111111 1) ⟨93,[(6,.own 1 2 0 x1_r1.length),(7,.b true)],[.box 48 (eC48 a1),eR76 x1_r1]⟩ ?_
         obtain rfl:=retC H
         exact retK hf hX h0 (.tup [.own 1 2 0 x1_r1.length,.b true]) [1] (fun _ h=>all_cons (nr_vec api_Pair.nl) (fun _ h=>all_nil h) h) (.tup (.cons (.own _ _ _ _) (.cons (.d (.v _)) .nil)))
     obtain ⟨n,H⟩:=loopC H
     exact (L n) 0 a0 H
 refine ak_callP (avs:=[.d (eL76 t0 a0)]) (dst:=some 11) (k':=(K75 1100 2)) [0,2,4,11] [] hP enters_71 (table_Check.says (t0:=t0) a0 h1) (by kernel_rfl) (hands_none _) (.cons (pass_d _) .nil) (st':=⟨93,[(0,.d (eL76 t0 a0)),(2,.d (eL46 true a2)),(4,.ptr 0 0 0 0),(11,.b v1)],[.box 48 (eC48 a1)]⟩) (by kernel_rfl) ?_
 refine goK hT 2 (K75 1100 4) ⟨93,[(0,.d (eL76 t0 a0)),(2,.d (eL46 true a2)),(4,.ptr 0 0 0 0),(13,.b (!v1))],[.box 48 (eC48 a1)]⟩ ?_
 by_cases c2:v1=true
 ·replace H:=iT c2 H
  rw [c2]
  refine goK hT 1 (K75 1100 5) ⟨93,[(0,.d (eL76 t0 a0)),(2,.d (eL46 true a2)),(4,.ptr 0 0 0 0),(13,.b false),(14,.d (eG48 a1))],[.box 48 (eC48 a1)]⟩ ?_
  obtain ⟨v2,h3,H⟩:=ibC H
  refine ak_callP (avs:=[.d (eG48 a1)]) (dst:=some 15) (k':=(K75 1100 6)) [0,2,4,13,15] [] hP enters_25 (mut_Check.says a1 h3) (by kernel_rfl) (hands_none _) (.cons (pass_d _) .nil) (st':=⟨93,[(0,.d (eL76 t0 a0)),(2,.d (eL46 true a2)),(4,.ptr 0 0 0 0),(13,.b false),(15,.b v2)],[.box 48 (eC48 a1)]⟩) (by kernel_rfl) ?_
  refine goK hT 3 (K75 1100 9) ⟨93,[(0,.d (eL76 t0 a0)),(2,.d (eL46 true a2)),(4,.ptr 0 0 0 0),(18,.b (!v2))],[.box 48 (eC48 a1)]⟩ ?_
  by_cases c4:v2=true
  ·replace H:=iT c4 H
   rw [c4]
   refine goK hT 1 (K75 1100 10) ⟨93,[(0,.d (eL76 t0 a0)),(2,.d (eL46 true a2)),(4,.ptr 0 0 0 0),(18,.b false),(19,.d (eL46 true a2))],[.box 48 (eC48 a1)]⟩ ?_
   obtain ⟨v3,h5,H⟩:=ibC H
   refine ak_callP (avs:=[.d (eL46 true a2)]) (dst:=some 20) (k':=(K75 1100 11)) [0,2,4,18,20] [] hP enters_72 (span_Check.says (t0:=true) a2 h5) (by kernel_rfl) (hands_none _) (.cons (pass_d _) .nil) (st':=⟨93,[(0,.d (eL76 t0 a0)),(2,.d (eL46 true a2)),(4,.ptr 0 0 0 0),(18,.b false),(20,.b v3)],[.box 48 (eC48 a1)]⟩) (by kernel_rfl) ?_
   refine goK hT 3 (K75 110 1) ⟨93,[(0,.d (eL76 t0 a0)),(2,.d (eL46 true a2)),(4,.ptr 0 0 0 0),(22,.b (!v3))],[.box 48 (eC48 a1)]⟩ ?_
   exact Jj1 (!v3) H
  ·replace H:=iF c4 H
   rw [boF c4]
   refine goK hT 5 (K75 110 1) ⟨93,[(0,.d (eL76 t0 a0)),(2,.d (eL46 true a2)),(4,.ptr 0 0 0 0),(22,.b true)],[.box 48 (eC48 a1)]⟩ ?_
   exact Jj1 true H
 ·replace H:=iF c2 H
  rw [boF c2]
  refine goK hT 10 (K75 110 1) ⟨93,[(0,.d (eL76 t0 a0)),(2,.d (eL46 true a2)),(4,.ptr 0 0 0 0),(22,.b true)],[.box 48 (eC48 a1)]⟩ ?_
  exact Jj1 true H


theorem judge_Fold.says {t0:Bool} (a0:List api_Entry) (a1:List api_Span) (a2:Int) {r:List api_Pair} (H:judge_Fold a0 a1 a2=some r):Says Try.prog 56 [] [.d (eL74 t0 a0),.d (eL46 true a1),.i a2] [eR76 r] (.own 0 2 0 r.length):=by
 refine says_of Try.func56 rfl (nt:=41) rfl (Nat.le_of_ble_eq_true rfl) fun X hP h0 hX=>?_
 have hT:TabOk X.P T:=hP▸tok
 have hf:X.P.funcs[56]? = some Try.f56:=hP▸Try.func56
 refine goK hT 8 (K56 1100 1) ⟨41,[(0,.d (eL74 t0 a0)),(1,.d (eL46 true a1)),(2,.i a2),(10,.d (eL46 true a1))],[]⟩ ?_
 obtain ⟨v1,h1,H⟩:=ibC H
 have Jj1:∀ (y1_16:Bool),(judge_Fold.j1 a0 a1 a2 y1_16)=some r→AK X 56 ((K56 110 1)) (Back X [eR76 r] (.own 0 2 0 r.length)) ⟨41,[(0,.d (eL74 t0 a0)),(1,.d (eL46 true a1)),(2,.i a2),(16,.b y1_16)],[]⟩:=by
  intro y1_16 H
  by_cases c4:y1_16=true
  ·replace H:=iT c4 H
   rw [c4]
   refine goK hT 5 (K56 11010 1) ⟨41,[(6,.ns)],[]⟩ ?_
   refine ak_nilS [6] 6 2 76 (vec api_Pair.e api_Pair.z []) (st':=⟨41,[(6,.own 0 2 0 0)],[eR76 ([]:List api_Pair)]⟩) (by kernel_rfl) (by kernel_rfl) ?_
   obtain rfl:=retC H
   exact retK hf hX h0 (.own 0 2 0 0) [0] (fun _ h=>all_cons (nr_vec api_Pair.nl) (fun _ h=>all_nil h) h) (.own _ _ _ _)
  ·replace H:=iF c4 H
   rw [boF c4]
   refine goK hT 2 (K56 11 1) ⟨41,[(0,.d (eL74 t0 a0)),(1,.d (eL46 true a1)),(2,.i a2)],[]⟩ ?_
   refine goK hT 13 (K56 1111010 0) ⟨41,[(1,.d (eL46 true a1)),(2,.i a2),(7,.ns),(17,.d (eL74 t0 a0)),(18,.i (a0.length:Int)),(19,.i 0)],[]⟩ ?_
   refine ak_nilS [1,2,7,17,18,19] 7 2 76 (vec api_Pair.e api_Pair.z []) (st':=⟨41,[(1,.d (eL46 true a1)),(2,.i a2),(7,.own 0 2 0 0),(17,.d (eL74 t0 a0)),(18,.i (a0.length:Int)),(19,.i 0)],[eR76 ([]:List api_Pair)]⟩) (by kernel_rfl) (by kernel_rfl) ?_
   have L:∀ n,(∀ (x1_19:Int) (x1_r0:List api_Pair),iter (judge_Fold.step a0 a1 a2) n (.l1 x1_19 x1_r0)=some r→AK X 56 ((K56 1111010 0)) (Back X [eR76 r] (.own 0 2 0 r.length)) ⟨41,[(1,.d (eL46 true a1)),(2,.i a2),(7,.own 0 2 0 x1_r0.length),(17,.d (eL74 t0 a0)),(18,.i (a0.length:Int)),(19,.i x1_19)],[eR76 x1_r0]⟩):=by
    intro n
    induction n with
    | zero=>exact fun _ _ H=>iter0 H
    | succ n ih=>
     ·intro x1_19 x1_r0 H
      refine goK hT 5 (K56 111101001 0) ⟨41,[(1,.d (eL46 true a1)),(2,.i a2),(7,.own 0 2 0 x1_r0.length),(17,.d (eL74 t0 a0)),(18,.i (a0.length:Int)),(19,.i x1_19),(20,.b (decide (x1_19 < (a0.length:Int))))],[eR76 x1_r0]⟩ ?_
      by_cases c5:x1_19 < (a0.length:Int)
      ·replace H:=sT c5 H
       rw [decide_eq_true c5]
       refine goK hT 2 (K56 111101001 1) ⟨41,[(1,.d (eL46 true a1)),(2,.i a2),(7,.own 0 2 0 x1_r0.length),(17,.d (eL74 t0 a0)),(18,.i (a0.length:Int)),(19,.i x1_19)],[eR76 x1_r0]⟩ ?_
       refine goK hT 4 (K56 1111010011000 0) ⟨41,[(1,.d (eL46 true a1)),(2,.i a2),(7,.own 0 2 0 x1_r0.length),(17,.d (eL74 t0 a0)),(18,.i (a0.length:Int)),(19,.i x1_19)],[eR76 x1_r0]⟩ ?_
       obtain ⟨h6,H⟩:=sC H
       have Jj2:∀ (y2_30:Bool),stk (judge_Fold.j2 a0 a1 x1_19 x1_r0 y2_30) (iter (judge_Fold.step a0 a1 a2) n)=some r→AK X 56 ((K56 1111010011001 1)) (Back X [eR76 r] (.own 0 2 0 r.length)) ⟨41,[(1,.d (eL46 true a1)),(2,.i a2),(7,.own 0 2 0 x1_r0.length),(9,.ptr 1 0 0 0),(17,.d (eL74 t0 a0)),(18,.i (a0.length:Int)),(19,.i x1_19),(30,.b y2_30)],[eR76 x1_r0,.box 74 (eC74 (a0.getD x1_19.toNat api_Entry.z))]⟩:=by
        intro y2_30 H
        have Jj3:∀ (y3_r0:List api_Pair),stk (judge_Fold.j3 x1_19 y3_r0) (iter (judge_Fold.step a0 a1 a2) n)=some r→AK X 56 ((K56 1111010011 1)) (Back X [eR76 r] (.own 0 2 0 r.length)) ⟨41,[(1,.d (eL46 true a1)),(2,.i a2),(7,.own 0 2 0 y3_r0.length),(17,.d (eL74 t0 a0)),(18,.i (a0.length:Int)),(19,.i x1_19)],[eR76 y3_r0]⟩:=by
         intro y3_r0 H
         refine goK hT 5 (K56 1111010 0) ⟨41,[(1,.d (eL46 true a1)),(2,.i a2),(7,.own 0 2 0 y3_r0.length),(17,.d (eL74 t0 a0)),(18,.i (a0.length:Int)),(19,.i (IntKind.wrap .i64 (x1_19+1)))],[eR76 y3_r0]⟩ ?_
         exact ih (IntKind.wrap .i64 (x1_19+1)) y3_r0 H
        by_cases c8:y2_30=true
        ·replace H:=sT c8 H
         rw [c8]
         refine goK hT 6 (K56 111101001100110 4) ⟨41,[(1,.d (eL46 true a1)),(2,.i a2),(17,.d (eL74 t0 a0)),(18,.i (a0.length:Int)),(19,.i x1_19),(32,.own 0 2 0 x1_r0.length),(34,.d (eG48 ((a0.getD x1_19.toNat api_Entry.z).M))),(35,.d (eL46 true a1))],[eR76 x1_r0,.box 74 (eC74 (a0.getD x1_19.toNat api_Entry.z))]⟩ ?_
         obtain ⟨v3,h9,H⟩:=sbC H
         refine ak_callP (avs:=[.own 0 2 0 x1_r0.length,.d (eG48 ((a0.getD x1_19.toNat api_Entry.z).M)),.d (eL46 true a1)]) (dst:=some 36) (k':=(K56 111101001100110 5)) [1,2,17,18,19,36] [] hP enters_75 (table_Apply.says (t0:=false) x1_r0 ((a0.getD x1_19.toNat api_Entry.z).M) a1 h9) (by kernel_rfl) (hands_none _) (.cons (.lend (ty:=76) (by kernel_rfl) rfl) (.cons (pass_d _) (.cons (pass_d _) .nil))) (st':=⟨41,[(1,.d (eL46 true a1)),(2,.i a2),(17,.d (eL74 t0 a0)),(18,.i (a0.length:Int)),(19,.i x1_19),(36,.tup [.own 2 2 0 v3.1.length,.b v3.2])],[eR76 x1_r0,.box 74 (eC74 (a0.getD x1_19.toNat api_Entry.z)),eR76 v3.1]⟩) (by kernel_rfl) ?_
         refine goCut hT 6 (K56 1111010011 1) [2] ⟨41,[(1,.d (eL46 true a1)),(2,.i a2),(7,.own 0 2 0 v3.1.length),(17,.d (eL74 t0 a0)),(18,.i (a0.length:Int)),(19,.i x1_19)],[eR76 v3.1]⟩ h0 ?_
         exact Jj3 v3.1 H
        ·replace H:=sF c8 H
         rw [boF c8]
         refine goCut hT 3 (K56 1111010011 1) [0] ⟨41,[(1,.d (eL46 true a1)),(2,.i a2),(7,.own 0 2 0 x1_r0.length),(17,.d (eL74 t0 a0)),(18,.i (a0.length:Int)),(19,.i x1_19)],[eR76 x1_r0]⟩ h0 ?_
         exact Jj3 x1_r0 H
       refine ak_idx hT [1,2,7,17,18,19,21] (i:=x1_19) (n:=(a0.length:Int)) h6.1 h6.2 (k':=(K56 1111010011000 1)) (st':=⟨41,[(1,.d (eL46 true a1)),(2,.i a2),(7,.own 0 2 0 x1_r0.length),(17,.d (eL74 t0 a0)),(18,.i (a0.length:Int)),(19,.i x1_19),(21,.d (eP74 t0 a0 x1_19.toNat 0))],[eR76 x1_r0]⟩) (by kernel_rfl) ?_
       refine goK hT 9 (K56 11110100110010 3) ⟨41,[(1,.d (eL46 true a1)),(2,.i a2),(7,.own 0 2 0 x1_r0.length),(9,.ptr 1 0 0 0),(17,.d (eL74 t0 a0)),(18,.i (a0.length:Int)),(19,.i x1_19),(25,.b ((a0.getD x1_19.toNat api_Entry.z).Done))],[eR76 x1_r0,.box 74 (eC74 (a0.getD x1_19.toNat api_Entry.z))]⟩ ?_
       by_cases c7:((a0.getD x1_19.toNat api_Entry.z).Done)=true
       ·replace H:=sT c7 H
        rw [c7]
        refine goK hT 6 (K56 1111010011001 1) ⟨41,[(1,.d (eL46 true a1)),(2,.i a2),(7,.own 0 2 0 x1_r0.length),(9,.ptr 1 0 0 0),(17,.d (eL74 t0 a0)),(18,.i (a0.length:Int)),(19,.i x1_19),(30,.b (decide (((a0.getD x1_19.toNat api_Entry.z).Time)≤a2)))],[eR76 x1_r0,.box 74 (eC74 (a0.getD x1_19.toNat api_Entry.z))]⟩ ?_
        exact Jj2 (decide (((a0.getD x1_19.toNat api_Entry.z).Time)≤a2)) H
       ·replace H:=sF c7 H
        rw [boF c7]
        refine goK hT 6 (K56 1111010011001 1) ⟨41,[(1,.d (eL46 true a1)),(2,.i a2),(7,.own 0 2 0 x1_r0.length),(9,.ptr 1 0 0 0),(17,.d (eL74 t0 a0)),(18,.i (a0.length:Int)),(19,.i x1_19),(30,.b false)],[eR76 x1_r0,.box 74 (eC74 (a0.getD x1_19.toNat api_Entry.z))]⟩ ?_
        exact Jj2 false H
      ·replace H:=sF c5 H
       rw [decide_eq_false c5]
       refine goK hT 7 (K56 11111 1) ⟨41,[(6,.own 0 2 0 x1_r0.length)],[eR76 x1_r0]⟩ ?_
       obtain rfl:=retC H
       exact retK hf hX h0 (.own 0 2 0 x1_r0.length) [0] (fun _ h=>all_cons (nr_vec api_Pair.nl) (fun _ h=>all_nil h) h) (.own _ _ _ _)
   refine cutK [0] ⟨41,[(1,.d (eL46 true a1)),(2,.i a2),(7,.own 0 2 0 ([]:List api_Pair).length),(17,.d (eL74 t0 a0)),(18,.i (a0.length:Int)),(19,.i 0)],[eR76 ([]:List api_Pair)]⟩ h0 ?_
   obtain ⟨n,H⟩:=loopC H
   exact (L n) 0 ([]:List api_Pair) H
 refine ak_callP (avs:=[.d (eL46 true a1)]) (dst:=some 11) (k':=(K56 1100 2)) [0,1,2,11] [] hP enters_72 (span_Check.says (t0:=true) a1 h1) (by kernel_rfl) (hands_none _) (.cons (pass_d _) .nil) (st':=⟨41,[(0,.d (eL74 t0 a0)),(1,.d (eL46 true a1)),(2,.i a2),(11,.b v1)],[]⟩) (by kernel_rfl) ?_
 refine goK hT 2 (K56 1100 4) ⟨41,[(0,.d (eL74 t0 a0)),(1,.d (eL46 true a1)),(2,.i a2),(13,.b (!v1))],[]⟩ ?_
 by_cases c2:v1=true
 ·replace H:=iT c2 H
  rw [c2]
  refine goK hT 1 (K56 1100 5) ⟨41,[(0,.d (eL74 t0 a0)),(1,.d (eL46 true a1)),(2,.i a2),(13,.b false),(14,.d (eL74 t0 a0))],[]⟩ ?_
  obtain ⟨v2,h3,H⟩:=ibC H
  refine ak_callP (avs:=[.d (eL74 t0 a0),.d (.fn 76 [])]) (dst:=some 15) (k':=(K56 1100 6)) [0,1,2,13,15] [] hP enters_69 (slices_ContainsFunc_api_Entry.says (t0:=t0) (ff1:=76) (cc1:=[]) a0 (fun z0=>judge_Fold_1 z0) enters_76 (fun z0 r h=>judge_Fold_1.says z0 h) h3) (by kernel_rfl) (hands_none _) (.cons (pass_d _) (.cons (pass_d _) .nil)) (st':=⟨41,[(0,.d (eL74 t0 a0)),(1,.d (eL46 true a1)),(2,.i a2),(13,.b false),(15,.b v2)],[]⟩) (by kernel_rfl) ?_
  refine goK hT 2 (K56 110 1) ⟨41,[(0,.d (eL74 t0 a0)),(1,.d (eL46 true a1)),(2,.i a2),(16,.b v2)],[]⟩ ?_
  exact Jj1 v2 H
 ·replace H:=iF c2 H
  rw [boF c2]
  refine goK hT 4 (K56 110 1) ⟨41,[(0,.d (eL74 t0 a0)),(1,.d (eL46 true a1)),(2,.i a2),(16,.b true)],[]⟩ ?_
  exact Jj1 true H


theorem slices_IndexFunc_api_Mut.says {t0:Bool} {ff1:FuncId} {cc1:List DV} (a0:List api_Mut) (p1:api_Mut→Option Bool) (he1:Sy.Enters Try.prog ff1) (hp1:∀ (z0:api_Mut) r,p1 z0=some r→Says Try.prog ff1 [] ([.d (eG48 z0)] ++ List.map AV.d cc1) [] (.b r)) {r:Int} (H:slices_IndexFunc_api_Mut a0 p1=some r):Says Try.prog 84 [] [.d (eL48 t0 a0),.d (.fn ff1 cc1)] [] (.i r):=by
 refine says_of Try.func84 rfl (nt:=19) rfl (Nat.le_of_ble_eq_true rfl) fun X hP h0 hX=>?_
 have hT:TabOk X.P T:=hP▸tok
 have hf:X.P.funcs[84]? = some Try.f84:=hP▸Try.func84
 refine goK hT 13 (K84 11010 0) ⟨19,[(0,.d (eL48 t0 a0)),(1,.d (.fn ff1 cc1)),(7,.i (a0.length:Int)),(8,.i 0)],[]⟩ ?_
 have L:∀ n,(∀ (x1_8:Int),iter (slices_IndexFunc_api_Mut.step a0 p1) n (.l1 x1_8)=some r→AK X 84 ((K84 11010 0)) (Back X [] (.i r)) ⟨19,[(0,.d (eL48 t0 a0)),(1,.d (.fn ff1 cc1)),(7,.i (a0.length:Int)),(8,.i x1_8)],[]⟩):=by
  intro n
  induction n with
  | zero=>exact fun _ H=>iter0 H
  | succ n ih=>
   ·intro x1_8 H
    refine goK hT 5 (K84 1101001 0) ⟨19,[(0,.d (eL48 t0 a0)),(1,.d (.fn ff1 cc1)),(7,.i (a0.length:Int)),(8,.i x1_8),(9,.b (decide (x1_8 < (a0.length:Int))))],[]⟩ ?_
    by_cases c1:x1_8 < (a0.length:Int)
    ·replace H:=sT c1 H
     rw [decide_eq_true c1]
     refine goK hT 2 (K84 1101001 1) ⟨19,[(0,.d (eL48 t0 a0)),(1,.d (.fn ff1 cc1)),(7,.i (a0.length:Int)),(8,.i x1_8)],[]⟩ ?_
     refine goK hT 12 (K84 110100110010 3) ⟨19,[(0,.d (eL48 t0 a0)),(1,.d (.fn ff1 cc1)),(5,.i x1_8),(7,.i (a0.length:Int)),(8,.i x1_8),(11,.d (.fn ff1 cc1)),(12,.d (eL48 t0 a0)),(13,.i x1_8)],[]⟩ ?_
     obtain ⟨h2,H⟩:=sC H
     refine ak_idx hT [0,1,5,7,8,11,14] (i:=x1_8) (n:=(a0.length:Int)) h2.1 h2.2 (k':=(K84 110100110010 4)) (st':=⟨19,[(0,.d (eL48 t0 a0)),(1,.d (.fn ff1 cc1)),(5,.i x1_8),(7,.i (a0.length:Int)),(8,.i x1_8),(11,.d (.fn ff1 cc1)),(14,.d (eP48 t0 a0 x1_8.toNat 0))],[]⟩) (by kernel_rfl) ?_
     refine goK hT 1 (K84 110100110010 5) ⟨19,[(0,.d (eL48 t0 a0)),(1,.d (.fn ff1 cc1)),(5,.i x1_8),(7,.i (a0.length:Int)),(8,.i x1_8),(11,.d (.fn ff1 cc1)),(15,.d (eG48 (a0.getD x1_8.toNat api_Mut.z)))],[]⟩ ?_
     obtain ⟨v1,h3,H⟩:=sbC H
     refine ak_callP (avs:=[.d (eG48 (a0.getD x1_8.toNat api_Mut.z))] ++ List.map AV.d cc1) (dst:=some 16) (k':=(K84 110100110010 6)) [0,1,5,7,8,16] [] hP he1 (hp1 (a0.getD x1_8.toNat api_Mut.z) v1 h3) (by kernel_rfl) (hands_none _) (.cons (pass_d _) (passes_d _)) (st':=⟨19,[(0,.d (eL48 t0 a0)),(1,.d (.fn ff1 cc1)),(5,.i x1_8),(7,.i (a0.length:Int)),(8,.i x1_8),(16,.b v1)],[]⟩) (by kernel_rfl) ?_
     refine goK hT 1 (K84 11010011001 1) ⟨19,[(0,.d (eL48 t0 a0)),(1,.d (.fn ff1 cc1)),(5,.i x1_8),(7,.i (a0.length:Int)),(8,.i x1_8),(16,.b v1)],[]⟩ ?_
     by_cases c4:v1=true
     ·replace H:=sT c4 H
      rw [c4]
      refine goK hT 6 (K84 1101001100110 1) ⟨19,[(4,.i x1_8)],[]⟩ ?_
      obtain rfl:=retC H
      exact retK hf hX h0 (.i x1_8) [] (fun _ h=>all_nil h) (.d (.v _))
     ·replace H:=sF c4 H
      rw [boF c4]
      refine goK hT 3 (K84 11010011 1) ⟨19,[(0,.d (eL48 t0 a0)),(1,.d (.fn ff1 cc1)),(7,.i (a0.length:Int)),(8,.i x1_8)],[]⟩ ?_
      refine goK hT 5 (K84 11010 0) ⟨19,[(0,.d (eL48 t0 a0)),(1,.d (.fn ff1 cc1)),(7,.i (a0.length:Int)),(8,.i (IntKind.wrap .i64 (x1_8+1)))],[]⟩ ?_
      exact ih (IntKind.wrap .i64 (x1_8+1)) H
    ·replace H:=sF c1 H
     rw [decide_eq_false c1]
     refine goK hT 6 (K84 111 1) ⟨19,[(4,.i (-1))],[]⟩ ?_
     obtain rfl:=retC H
     exact retK hf hX h0 (.i (-1)) [] (fun _ h=>all_nil h) (.d (.v _))
 obtain ⟨n,H⟩:=loopC H
 exact (L n) 0 H


theorem slices_ContainsFunc_api_Mut.says {t0:Bool} {ff1:FuncId} {cc1:List DV} (a0:List api_Mut) (p1:api_Mut→Option Bool) (he1:Sy.Enters Try.prog ff1) (hp1:∀ (z0:api_Mut) r,p1 z0=some r→Says Try.prog ff1 [] ([.d (eG48 z0)] ++ List.map AV.d cc1) [] (.b r)) {r:Bool} (H:slices_ContainsFunc_api_Mut a0 p1=some r):Says Try.prog 73 [] [.d (eL48 t0 a0),.d (.fn ff1 cc1)] [] (.b r):=by
 refine says_of Try.func73 rfl (nt:=9) rfl (Nat.le_of_ble_eq_true rfl) fun X hP h0 hX=>?_
 have hT:TabOk X.P T:=hP▸tok
 have hf:X.P.funcs[73]? = some Try.f73:=hP▸Try.func73
 refine goK hT 8 (K73 110 2) ⟨9,[(5,.d (eL48 t0 a0)),(6,.d (.fn ff1 cc1))],[]⟩ ?_
 obtain ⟨v1,h1,H⟩:=ibC H
 refine ak_callP (avs:=[.d (eL48 t0 a0),.d (.fn ff1 cc1)]) (dst:=some 7) (k':=(K73 110 3)) [7] [] hP enters_84 (slices_IndexFunc_api_Mut.says (t0:=t0) (ff1:=ff1) (cc1:=cc1) a0 p1 he1 hp1 h1) (by kernel_rfl) (hands_none _) (.cons (pass_d _) (.cons (pass_d _) .nil)) (st':=⟨9,[(7,.i v1)],[]⟩) (by kernel_rfl) ?_
 refine goK hT 3 (K73 11 1) ⟨9,[(4,.b (decide (v1≥0)))],[]⟩ ?_
 obtain rfl:=retC H
 exact retK hf hX h0 (.b (decide (v1≥0))) [] (fun _ h=>all_nil h) (.d (.v _))


theorem judge_Onto_1.says (a0:api_Mut) {r:Bool} (H:judge_Onto_1 a0=some r):Says Try.prog 74 [] [.d (eG48 a0)] [] (.b r):=by
 refine says_of Try.func74 rfl (nt:=6) rfl (Nat.le_of_ble_eq_true rfl) fun X hP h0 hX=>?_
 have hT:TabOk X.P T:=hP▸tok
 have hf:X.P.funcs[74]? = some Try.f74:=hP▸Try.func74
 refine goK hT 8 (K74 110 1) ⟨6,[(3,.d (eG48 a0))],[.box 48 (eC48 a0)]⟩ ?_
 obtain ⟨v1,h1,H⟩:=ibC H
 refine ak_callP (avs:=[.d (eG48 a0)]) (dst:=some 4) (k':=(K74 110 2)) [4] [] hP enters_25 (mut_Check.says a0 h1) (by kernel_rfl) (hands_none _) (.cons (pass_d _) .nil) (st':=⟨6,[(4,.b v1)],[.box 48 (eC48 a0)]⟩) (by kernel_rfl) ?_
 refine goK hT 3 (K74 11 1) ⟨6,[(2,.b (!v1))],[.box 48 (eC48 a0)]⟩ ?_
 obtain rfl:=retC H
 exact retK hf hX h0 (.b (!v1)) [] (fun _ h=>all_nil h) (.d (.v _))


theorem judge_Onto.says {t0:Bool} {t1:Bool} (a0:List api_Pair) (a1:List api_Mut) (a2:List api_Span) {r:List api_Pair} (H:judge_Onto a0 a1 a2=some r):Says Try.prog 55 [] [.d (eL76 t0 a0),.d (eL48 t1 a1),.d (eL46 true a2)] [eR76 r] (.own 0 2 0 r.length):=by
 refine says_of Try.func55 rfl (nt:=39) rfl (Nat.le_of_ble_eq_true rfl) fun X hP h0 hX=>?_
 have hT:TabOk X.P T:=hP▸tok
 have hf:X.P.funcs[55]? = some Try.f55:=hP▸Try.func55
 refine goK hT 8 (K55 1100 1) ⟨39,[(0,.d (eL76 t0 a0)),(1,.d (eL48 t1 a1)),(2,.d (eL46 true a2)),(10,.d (eL76 t0 a0))],[]⟩ ?_
 obtain ⟨v1,h1,H⟩:=ibC H
 have Jj1:∀ (y1_21:Bool),(judge_Onto.j1 a0 a1 a2 y1_21)=some r→AK X 55 ((K55 110 1)) (Back X [eR76 r] (.own 0 2 0 r.length)) ⟨39,[(0,.d (eL76 t0 a0)),(1,.d (eL48 t1 a1)),(2,.d (eL46 true a2)),(21,.b y1_21)],[]⟩:=by
  intro y1_21 H
  by_cases c6:y1_21=true
  ·replace H:=iT c6 H
   rw [c6]
   refine goK hT 5 (K55 11010 1) ⟨39,[(6,.ns)],[]⟩ ?_
   refine ak_nilS [6] 6 2 76 (vec api_Pair.e api_Pair.z []) (st':=⟨39,[(6,.own 0 2 0 0)],[eR76 ([]:List api_Pair)]⟩) (by kernel_rfl) (by kernel_rfl) ?_
   obtain rfl:=retC H
   exact retK hf hX h0 (.own 0 2 0 0) [0] (fun _ h=>all_cons (nr_vec api_Pair.nl) (fun _ h=>all_nil h) h) (.own _ _ _ _)
  ·replace H:=iF c6 H
   rw [boF c6]
   refine goK hT 2 (K55 11 1) ⟨39,[(0,.d (eL76 t0 a0)),(1,.d (eL48 t1 a1)),(2,.d (eL46 true a2))],[]⟩ ?_
   refine goK hT 3 (K55 1110 1) ⟨39,[(1,.d (eL48 t1 a1)),(2,.d (eL46 true a2)),(22,.d (eL76 t0 a0))],[]⟩ ?_
   obtain ⟨h7,H⟩:=iC H
   refine ak_callP (avs:=[.d (eL76 t0 a0)]) (dst:=some 23) (k':=(K55 1110 2)) [1,2,23] [] hP enters_38 (clone38 (tg:=t0) a0 h7) (by kernel_rfl) (hands_none _) (.cons (pass_d _) .nil) (st':=⟨39,[(1,.d (eL48 t1 a1)),(2,.d (eL46 true a2)),(23,.own 0 2 0 a0.length)],[eR76 a0]⟩) (by kernel_rfl) ?_
   refine goK hT 11 (K55 1111010 0) ⟨39,[(2,.d (eL46 true a2)),(7,.own 0 2 0 a0.length),(24,.d (eL48 t1 a1)),(25,.i (a1.length:Int)),(26,.i 0)],[eR76 a0]⟩ ?_
   have L:∀ n,(∀ (x1_26:Int) (x1_r0:List api_Pair),iter (judge_Onto.step a1 a2) n (.l1 x1_26 x1_r0)=some r→AK X 55 ((K55 1111010 0)) (Back X [eR76 r] (.own 0 2 0 r.length)) ⟨39,[(2,.d (eL46 true a2)),(7,.own 0 2 0 x1_r0.length),(24,.d (eL48 t1 a1)),(25,.i (a1.length:Int)),(26,.i x1_26)],[eR76 x1_r0]⟩):=by
    intro n
    induction n with
    | zero=>exact fun _ _ H=>iter0 H
    | succ n ih=>
     ·intro x1_26 x1_r0 H
      refine goK hT 5 (K55 111101001 0) ⟨39,[(2,.d (eL46 true a2)),(7,.own 0 2 0 x1_r0.length),(24,.d (eL48 t1 a1)),(25,.i (a1.length:Int)),(26,.i x1_26),(27,.b (decide (x1_26 < (a1.length:Int))))],[eR76 x1_r0]⟩ ?_
      by_cases c8:x1_26 < (a1.length:Int)
      ·replace H:=sT c8 H
       rw [decide_eq_true c8]
       refine goK hT 2 (K55 111101001 1) ⟨39,[(2,.d (eL46 true a2)),(7,.own 0 2 0 x1_r0.length),(24,.d (eL48 t1 a1)),(25,.i (a1.length:Int)),(26,.i x1_26)],[eR76 x1_r0]⟩ ?_
       refine goK hT 4 (K55 1111010011000 0) ⟨39,[(2,.d (eL46 true a2)),(7,.own 0 2 0 x1_r0.length),(24,.d (eL48 t1 a1)),(25,.i (a1.length:Int)),(26,.i x1_26)],[eR76 x1_r0]⟩ ?_
       obtain ⟨h9,H⟩:=sC H
       refine ak_idx hT [2,7,24,25,26,28] (i:=x1_26) (n:=(a1.length:Int)) h9.1 h9.2 (k':=(K55 1111010011000 1)) (st':=⟨39,[(2,.d (eL46 true a2)),(7,.own 0 2 0 x1_r0.length),(24,.d (eL48 t1 a1)),(25,.i (a1.length:Int)),(26,.i x1_26),(28,.d (eP48 t1 a1 x1_26.toNat 0))],[eR76 x1_r0]⟩) (by kernel_rfl) ?_
       refine goK hT 8 (K55 1111010011001 3) ⟨39,[(2,.d (eL46 true a2)),(24,.d (eL48 t1 a1)),(25,.i (a1.length:Int)),(26,.i x1_26),(31,.own 0 2 0 x1_r0.length),(32,.d (eG48 (a1.getD x1_26.toNat api_Mut.z))),(33,.d (eL46 true a2))],[eR76 x1_r0,.box 48 (eC48 (a1.getD x1_26.toNat api_Mut.z))]⟩ ?_
       obtain ⟨v4,h10,H⟩:=sbC H
       refine ak_callP (avs:=[.own 0 2 0 x1_r0.length,.d (eG48 (a1.getD x1_26.toNat api_Mut.z)),.d (eL46 true a2)]) (dst:=some 34) (k':=(K55 1111010011001 4)) [2,24,25,26,34] [] hP enters_75 (table_Apply.says (t0:=false) x1_r0 (a1.getD x1_26.toNat api_Mut.z) a2 h10) (by kernel_rfl) (hands_none _) (.cons (.lend (ty:=76) (by kernel_rfl) rfl) (.cons (pass_d _) (.cons (pass_d _) .nil))) (st':=⟨39,[(2,.d (eL46 true a2)),(24,.d (eL48 t1 a1)),(25,.i (a1.length:Int)),(26,.i x1_26),(34,.tup [.own 2 2 0 v4.1.length,.b v4.2])],[eR76 x1_r0,.box 48 (eC48 (a1.getD x1_26.toNat api_Mut.z)),eR76 v4.1]⟩) (by kernel_rfl) ?_
       refine goCut hT 11 (K55 1111010 0) [2] ⟨39,[(2,.d (eL46 true a2)),(7,.own 0 2 0 v4.1.length),(24,.d (eL48 t1 a1)),(25,.i (a1.length:Int)),(26,.i (IntKind.wrap .i64 (x1_26+1)))],[eR76 v4.1]⟩ h0 ?_
       exact ih (IntKind.wrap .i64 (x1_26+1)) v4.1 H
      ·replace H:=sF c8 H
       rw [decide_eq_false c8]
       refine goK hT 7 (K55 11111 1) ⟨39,[(6,.own 0 2 0 x1_r0.length)],[eR76 x1_r0]⟩ ?_
       obtain rfl:=retC H
       exact retK hf hX h0 (.own 0 2 0 x1_r0.length) [0] (fun _ h=>all_cons (nr_vec api_Pair.nl) (fun _ h=>all_nil h) h) (.own _ _ _ _)
   obtain ⟨n,H⟩:=loopC H
   exact (L n) 0 a0 H
 refine ak_callP (avs:=[.d (eL76 t0 a0)]) (dst:=some 11) (k':=(K55 1100 2)) [0,1,2,11] [] hP enters_71 (table_Check.says (t0:=t0) a0 h1) (by kernel_rfl) (hands_none _) (.cons (pass_d _) .nil) (st':=⟨39,[(0,.d (eL76 t0 a0)),(1,.d (eL48 t1 a1)),(2,.d (eL46 true a2)),(11,.b v1)],[]⟩) (by kernel_rfl) ?_
 refine goK hT 2 (K55 1100 4) ⟨39,[(0,.d (eL76 t0 a0)),(1,.d (eL48 t1 a1)),(2,.d (eL46 true a2)),(13,.b (!v1))],[]⟩ ?_
 by_cases c2:v1=true
 ·replace H:=iT c2 H
  rw [c2]
  refine goK hT 1 (K55 1100 5) ⟨39,[(0,.d (eL76 t0 a0)),(1,.d (eL48 t1 a1)),(2,.d (eL46 true a2)),(13,.b false),(14,.d (eL46 true a2))],[]⟩ ?_
  obtain ⟨v2,h3,H⟩:=ibC H
  refine ak_callP (avs:=[.d (eL46 true a2)]) (dst:=some 15) (k':=(K55 1100 6)) [0,1,2,13,15] [] hP enters_72 (span_Check.says (t0:=true) a2 h3) (by kernel_rfl) (hands_none _) (.cons (pass_d _) .nil) (st':=⟨39,[(0,.d (eL76 t0 a0)),(1,.d (eL48 t1 a1)),(2,.d (eL46 true a2)),(13,.b false),(15,.b v2)],[]⟩) (by kernel_rfl) ?_
  refine goK hT 3 (K55 1100 9) ⟨39,[(0,.d (eL76 t0 a0)),(1,.d (eL48 t1 a1)),(2,.d (eL46 true a2)),(18,.b (!v2))],[]⟩ ?_
  by_cases c4:v2=true
  ·replace H:=iT c4 H
   rw [c4]
   refine goK hT 1 (K55 1100 10) ⟨39,[(0,.d (eL76 t0 a0)),(1,.d (eL48 t1 a1)),(2,.d (eL46 true a2)),(18,.b false),(19,.d (eL48 t1 a1))],[]⟩ ?_
   obtain ⟨v3,h5,H⟩:=ibC H
   refine ak_callP (avs:=[.d (eL48 t1 a1),.d (.fn 74 [])]) (dst:=some 20) (k':=(K55 1100 11)) [0,1,2,18,20] [] hP enters_73 (slices_ContainsFunc_api_Mut.says (t0:=t1) (ff1:=74) (cc1:=[]) a1 (fun z0=>judge_Onto_1 z0) enters_74 (fun z0 r h=>judge_Onto_1.says z0 h) h5) (by kernel_rfl) (hands_none _) (.cons (pass_d _) (.cons (pass_d _) .nil)) (st':=⟨39,[(0,.d (eL76 t0 a0)),(1,.d (eL48 t1 a1)),(2,.d (eL46 true a2)),(18,.b false),(20,.b v3)],[]⟩) (by kernel_rfl) ?_
   refine goK hT 2 (K55 110 1) ⟨39,[(0,.d (eL76 t0 a0)),(1,.d (eL48 t1 a1)),(2,.d (eL46 true a2)),(21,.b v3)],[]⟩ ?_
   exact Jj1 v3 H
  ·replace H:=iF c4 H
   rw [boF c4]
   refine goK hT 4 (K55 110 1) ⟨39,[(0,.d (eL76 t0 a0)),(1,.d (eL48 t1 a1)),(2,.d (eL46 true a2)),(21,.b true)],[]⟩ ?_
   exact Jj1 true H
 ·replace H:=iF c2 H
  rw [boF c2]
  refine goK hT 9 (K55 110 1) ⟨39,[(0,.d (eL76 t0 a0)),(1,.d (eL48 t1 a1)),(2,.d (eL46 true a2)),(21,.b true)],[]⟩ ?_
  exact Jj1 true H


theorem table_Get.says {t0:Bool} (a0:List api_Pair) (a1:Int) {r:Int × Bool} (H:table_Get a0 a1=some r):Says Try.prog 58 [] [.d (eL76 t0 a0),.i a1] [] (.tup [.i r.1,.b r.2]):=by
 refine says_of Try.func58 rfl (nt:=14) rfl (Nat.le_of_ble_eq_true rfl) fun X hP h0 hX=>?_
 have hT:TabOk X.P T:=hP▸tok
 have hf:X.P.funcs[58]? = some Try.f58:=hP▸Try.func58
 refine goK hT 9 (K58 1100 1) ⟨14,[(0,.d (eL76 t0 a0)),(1,.i a1),(6,.d (eL76 t0 a0))],[]⟩ ?_
 obtain ⟨v1,h1,H⟩:=ibC H
 refine ak_callP (avs:=[.d (eL76 t0 a0)]) (dst:=some 7) (k':=(K58 1100 2)) [0,1,7] [] hP enters_71 (table_Check.says (t0:=t0) a0 h1) (by kernel_rfl) (hands_none _) (.cons (pass_d _) .nil) (st':=⟨14,[(0,.d (eL76 t0 a0)),(1,.i a1),(7,.b v1)],[]⟩) (by kernel_rfl) ?_
 refine goK hT 2 (K58 110 1) ⟨14,[(0,.d (eL76 t0 a0)),(1,.i a1),(8,.b (!v1))],[]⟩ ?_
 by_cases c2:v1=true
 ·replace H:=iT c2 H
  rw [c2]
  refine goK hT 2 (K58 11 1) ⟨14,[(0,.d (eL76 t0 a0)),(1,.i a1)],[]⟩ ?_
  refine goK hT 4 (K58 1110 2) ⟨14,[(9,.d (eL76 t0 a0)),(10,.i a1)],[]⟩ ?_
  obtain ⟨v2,h3,H⟩:=ibC H
  refine ak_callP (avs:=[.d (eL76 t0 a0),.i a1]) (dst:=some 11) (k':=(K58 1110 3)) [11] [] hP enters_77 (table_get.says (t0:=t0) a0 a1 h3) (by kernel_rfl) (hands_none _) (.cons (pass_d _) (.cons (pass_d _) .nil)) (st':=⟨14,[(11,.tup [.i v2.1,.b v2.2])],[]⟩) (by kernel_rfl) ?_
  refine goK hT 5 (K58 111 1) ⟨14,[(4,.i v2.1),(5,.b v2.2)],[]⟩ ?_
  obtain rfl:=retC H
  exact retK hf hX h0 (.tup [.i v2.1,.b v2.2]) [] (fun _ h=>all_nil h) (.tup (.cons (.d (.v _)) (.cons (.d (.v _)) .nil)))
 ·replace H:=iF c2 H
  rw [boF c2]
  refine goK hT 6 (K58 11010 1) ⟨14,[(4,.i 0),(5,.b false)],[]⟩ ?_
  obtain rfl:=retC H
  exact retK hf hX h0 (.tup [.i 0,.b false]) [] (fun _ h=>all_nil h) (.tup (.cons (.d (.v _)) (.cons (.d (.v _)) .nil)))


theorem audit_sees_l1.says {t0:Bool} (a0:List api_Entry) (a1:audit_done) (a2:Int) (a3:Int) {r:api_Cell} (H:audit_sees_l1 a0 a1 a2 a3=some r):Says Try.prog 42 [] [.d (eL74 t0 a0),.d (.rop false 1 (fun _=>[eL48 false a1.l,.i a1.mark]) 0 0),.i a2,.i a3] [] (.d (eG50 r)):=by
 refine says_of Try.func42 rfl (nt:=31) rfl (Nat.le_of_ble_eq_true rfl) fun X hP h0 hX=>?_
 have hT:TabOk X.P T:=hP▸tok
 have hf:X.P.funcs[42]? = some Try.f42:=hP▸Try.func42
 refine goK hT 7 (K42 110 1) ⟨31,[(0,.d (eL74 t0 a0)),(1,.d (.rop false 1 (fun _=>[eL48 false a1.l,.i a1.mark]) 0 0)),(2,.i a2),(3,.i a3),(8,.ptr 0 0 0 0),(12,.d (eL74 t0 a0))],[.box 50 [.i 0,.b false]]⟩ ?_
 refine ak_callP (avs:=[]) (dst:=some 13) (k':=(K42 110 2)) [0,1,2,3,8,12,13] [] hP enters_57 (audit_all.says) (by kernel_rfl) (hands_none _) .nil (st':=⟨31,[(0,.d (eL74 t0 a0)),(1,.d (.rop false 1 (fun _=>[eL48 false a1.l,.i a1.mark]) 0 0)),(2,.i a2),(3,.i a3),(8,.ptr 0 0 0 0),(12,.d (eL74 t0 a0)),(13,.own 1 2 0 audit_all.length)],[.box 50 [.i 0,.b false],eR46 audit_all]⟩) (by kernel_rfl) ?_
 obtain ⟨v1,h1,H⟩:=idC H
 rw [← h1]
 refine goK hT 1 (K42 110 3) ⟨31,[(0,.d (eL74 t0 a0)),(1,.d (.rop false 1 (fun _=>[eL48 false a1.l,.i a1.mark]) 0 0)),(2,.i a2),(3,.i a3),(8,.ptr 0 0 0 0),(12,.d (eL74 t0 a0)),(13,.own 1 2 0 v1.length),(14,.i a3)],[.box 50 [.i 0,.b false],eR46 v1]⟩ ?_
 refine ak_freeze 1 (kk:=2) (n:=v1.length) (ty:=46) (g:=vec api_Span.e api_Span.z v1) (by kernel_rfl) (st':=⟨31,[(0,.d (eL74 t0 a0)),(1,.d (.rop false 1 (fun _=>[eL48 false a1.l,.i a1.mark]) 0 0)),(2,.i a2),(3,.i a3),(8,.ptr 0 0 0 0),(12,.d (eL74 t0 a0)),(13,.own 1 2 0 v1.length),(14,.i a3)],[.box 50 [.i 0,.b false],eF46 v1]⟩) (by kernel_rfl) ?_
 obtain ⟨v2,h2,H⟩:=ibC H
 refine ak_callP (avs:=[.d (eL74 t0 a0),.own 1 2 0 v1.length,.i a3]) (dst:=some 15) (k':=(K42 110 4)) [0,1,2,3,8,15] [] hP enters_56 (judge_Fold.says (t0:=t0) a0 v1 a3 h2) (by kernel_rfl) (hands_none _) (.cons (pass_d _) (.cons (.lend (ty:=46) (by kernel_rfl) rfl) (.cons (pass_d _) .nil))) (st':=⟨31,[(0,.d (eL74 t0 a0)),(1,.d (.rop false 1 (fun _=>[eL48 false a1.l,.i a1.mark]) 0 0)),(2,.i a2),(3,.i a3),(8,.ptr 0 0 0 0),(15,.own 2 2 0 v2.length)],[.box 50 [.i 0,.b false],eF46 v1,eR76 v2]⟩) (by kernel_rfl) ?_
 refine goK hT 3 (K42 110 7) ⟨31,[(2,.i a2),(8,.ptr 0 0 0 0),(15,.own 2 2 0 v2.length),(16,.d (eL74 t0 a0)),(17,.d (.rop false 1 (fun _=>[eL48 false a1.l,.i a1.mark]) 0 0)),(18,.i a3)],[.box 50 [.i 0,.b false],eF46 v1,eR76 v2]⟩ ?_
 obtain ⟨v3,h3,H⟩:=ibC H
 refine ak_callP (avs:=[.d (eL74 t0 a0),.d (.rop false 1 (fun _=>[eL48 false a1.l,.i a1.mark]) 0 0),.i a3]) (dst:=some 19) (k':=(K42 110 8)) [2,8,15,19] [] hP enters_39 (audit_pendings_l1.says (t0:=t0) a0 a1 a3 h3) (by kernel_rfl) (hands_none _) (.cons (pass_d _) (.cons (pass_d _) (.cons (pass_d _) .nil))) (st':=⟨31,[(2,.i a2),(8,.ptr 0 0 0 0),(15,.own 2 2 0 v2.length),(19,.own 3 7 0 v3.length)],[.box 50 [.i 0,.b false],eF46 v1,eR76 v2,eR48 v3]⟩) (by kernel_rfl) ?_
 refine ak_callP (avs:=[]) (dst:=some 20) (k':=(K42 110 9)) [2,8,15,19,20] [] hP enters_57 (audit_all.says) (by kernel_rfl) (hands_none _) .nil (st':=⟨31,[(2,.i a2),(8,.ptr 0 0 0 0),(15,.own 2 2 0 v2.length),(19,.own 3 7 0 v3.length),(20,.own 4 2 0 audit_all.length)],[.box 50 [.i 0,.b false],eF46 v1,eR76 v2,eR48 v3,eR46 audit_all]⟩) (by kernel_rfl) ?_
 obtain ⟨v4,h4,H⟩:=idC H
 rw [← h4]
 refine ak_freeze 4 (kk:=2) (n:=v4.length) (ty:=46) (g:=vec api_Span.e api_Span.z v4) (by kernel_rfl) (st':=⟨31,[(2,.i a2),(8,.ptr 0 0 0 0),(15,.own 2 2 0 v2.length),(19,.own 3 7 0 v3.length),(20,.own 4 2 0 v4.length)],[.box 50 [.i 0,.b false],eF46 v1,eR76 v2,eR48 v3,eF46 v4]⟩) (by kernel_rfl) ?_
 obtain ⟨v5,h5,H⟩:=ibC H
 refine ak_callP (avs:=[.own 2 2 0 v2.length,.own 3 7 0 v3.length,.own 4 2 0 v4.length]) (dst:=some 21) (k':=(K42 110 10)) [2,8,21] [] hP enters_55 (judge_Onto.says (t0:=false) (t1:=false) v2 v3 v4 h5) (by kernel_rfl) (hands_none _) (.cons (.lend (ty:=76) (by kernel_rfl) rfl) (.cons (.lend (ty:=48) (by kernel_rfl) rfl) (.cons (.lend (ty:=46) (by kernel_rfl) rfl) .nil))) (st':=⟨31,[(2,.i a2),(8,.ptr 0 0 0 0),(21,.own 5 2 0 v5.length)],[.box 50 [.i 0,.b false],eF46 v1,eR76 v2,eR48 v3,eF46 v4,eR76 v5]⟩) (by kernel_rfl) ?_
 refine goK hT 6 (K42 1110 2) ⟨31,[(8,.ptr 0 0 0 0),(23,.own 5 2 0 v5.length),(24,.i a2)],[.box 50 [.i 0,.b false],eF46 v1,eR76 v2,eR48 v3,eF46 v4,eR76 v5]⟩ ?_
 obtain ⟨v6,h6,H⟩:=ibC H
 refine ak_callP (avs:=[.own 5 2 0 v5.length,.i a2]) (dst:=some 25) (k':=(K42 1110 3)) [8,25] [] hP enters_58 (table_Get.says (t0:=false) v5 a2 h6) (by kernel_rfl) (hands_none _) (.cons (.lend (ty:=76) (by kernel_rfl) rfl) (.cons (pass_d _) .nil)) (st':=⟨31,[(8,.ptr 0 0 0 0),(25,.tup [.i v6.1,.b v6.2])],[.box 50 [.i 0,.b false],eF46 v1,eR76 v2,eR48 v3,eF46 v4,eR76 v5]⟩) (by kernel_rfl) ?_
 refine goK hT 13 (K42 1111 1) ⟨31,[(8,.ptr 0 0 0 0)],[.box 50 [.i v6.1,.b v6.2],eF46 v1,eR76 v2,eR48 v3,eF46 v4,eR76 v5]⟩ ?_
 obtain rfl:=retC H
 exact ak_retM hT hf hX (av:=.d (.agg [.i v6.1,.b v6.2])) (by kernel_rfl) [] (sel_of_eq (by kernel_rfl)) (by decide) (by rw [h0];rfl) (by kernel_rfl) (fun _ h=>all_nil h) (.d (.agg (api_Cell.nl _)))


noncomputable abbrev splicelaw05_Refs.q1 (a0:List api_Pair) (x1_4:Int):=(⟨(a0.getD x1_4.toNat api_Pair.z).Key,(a0.getD x1_4.toNat api_Pair.z).Val⟩:spliceref04_Pair)


theorem splicelaw05_Refs.says {t0:Bool} (a0:List api_Pair) {r:List spliceref04_Pair} (H:splicelaw05_Refs a0=some r):Says Try.prog 44 [] [.d (eL76 t0 a0)] [eR105 r] (.own 0 2 0 r.length):=by
 refine says_of Try.func44 rfl (nt:=19) rfl (Nat.le_of_ble_eq_true rfl) fun X hP h0 hX=>?_
 have hT:TabOk X.P T:=hP▸tok
 have hf:X.P.funcs[44]? = some Try.f44:=hP▸Try.func44
 refine goK hT 15 (K44 111010 0) ⟨19,[(0,.d (eL76 t0 a0)),(3,.ns),(4,.i 0)],[]⟩ ?_
 refine ak_nilS [0,3,4] 3 2 105 (vec spliceref04_Pair.e spliceref04_Pair.z []) (st':=⟨19,[(0,.d (eL76 t0 a0)),(3,.own 0 2 0 0),(4,.i 0)],[eR105 ([]:List spliceref04_Pair)]⟩) (by kernel_rfl) (by kernel_rfl) ?_
 have L:∀ n,(∀ (x1_4:Int) (x1_r0:List spliceref04_Pair),iter (splicelaw05_Refs.step a0) n (.l1 x1_4 x1_r0)=some r→AK X 44 ((K44 111010 0)) (Back X [eR105 r] (.own 0 2 0 r.length)) ⟨19,[(0,.d (eL76 t0 a0)),(3,.own 0 2 0 x1_r0.length),(4,.i x1_4)],[eR105 x1_r0]⟩):=by
  intro n
  induction n with
  | zero=>exact fun _ _ H=>iter0 H
  | succ n ih=>
   ·intro x1_4 x1_r0 H
    refine goK hT 8 (K44 11101000 1) ⟨19,[(0,.d (eL76 t0 a0)),(3,.own 0 2 0 x1_r0.length),(4,.i x1_4),(8,.b (decide (x1_4 < (a0.length:Int))))],[eR105 x1_r0]⟩ ?_
    by_cases c1:x1_4 < (a0.length:Int)
    ·replace H:=sT c1 H
     rw [decide_eq_true c1]
     refine goK hT 2 (K44 1110100 1) ⟨19,[(0,.d (eL76 t0 a0)),(3,.own 0 2 0 x1_r0.length),(4,.i x1_4)],[eR105 x1_r0]⟩ ?_
     refine goK hT 6 (K44 1110100100 3) ⟨19,[(0,.d (eL76 t0 a0)),(4,.i x1_4),(11,.own 0 2 0 x1_r0.length),(12,.d (eL76 t0 a0)),(13,.i x1_4)],[eR105 x1_r0]⟩ ?_
     obtain ⟨h2,H⟩:=sC H
     refine ak_idx hT [0,4,11,14] (i:=x1_4) (n:=(a0.length:Int)) h2.1 h2.2 (k':=(K44 1110100100 4)) (st':=⟨19,[(0,.d (eL76 t0 a0)),(4,.i x1_4),(11,.own 0 2 0 x1_r0.length),(14,.d (eP76 t0 a0 x1_4.toNat 0))],[eR105 x1_r0]⟩) (by kernel_rfl) ?_
     refine goK hT 2 (K44 1110100100 6) ⟨19,[(0,.d (eL76 t0 a0)),(4,.i x1_4),(11,.own 0 2 0 x1_r0.length),(16,.own 1 2 0 1)],[eR105 x1_r0,.flat false 2 105 1 (fun j=>[api_Pair.e (a0.getD x1_4.toNat api_Pair.z)].getD j [])]⟩ ?_
     obtain ⟨h3,H⟩:=sC H
     refine ak_append1 (id:=0) (kk:=2) (by':=16) (t:=54) (e:=105) (z:=[.int .i64 0,.int .i64 0]) (dst:=some 17) (id2:=1) (e2:=105) (fz:=false) (k':=(K44 1110100100 7)) hT spliceref04_Pair.e spliceref04_Pair.z x1_r0 (splicelaw05_Refs.q1 a0 x1_4) [0,4,17] (by kernel_rfl) (by kernel_rfl) (by kernel_rfl) (by kernel_rfl) (by kernel_rfl) (by kernel_rfl) (by kernel_rfl) h3 (by omega) (st':=⟨19,[(0,.d (eL76 t0 a0)),(4,.i x1_4),(17,.own 2 2 0 ((x1_r0 ++ [(splicelaw05_Refs.q1 a0 x1_4)]).length))],[.gone,.flat false 2 105 1 (fun j=>[api_Pair.e (a0.getD x1_4.toNat api_Pair.z)].getD j []),eR105 (x1_r0 ++ [(splicelaw05_Refs.q1 a0 x1_4)])]⟩) (by kernel_rfl) ?_
     refine goCut hT 9 (K44 111010 0) [2] ⟨19,[(0,.d (eL76 t0 a0)),(3,.own 0 2 0 (x1_r0 ++ [(splicelaw05_Refs.q1 a0 x1_4)]).length),(4,.i (IntKind.wrap .i64 (x1_4+1)))],[eR105 (x1_r0 ++ [(splicelaw05_Refs.q1 a0 x1_4)])]⟩ h0 ?_
     exact ih (IntKind.wrap .i64 (x1_4+1)) (x1_r0 ++ [(splicelaw05_Refs.q1 a0 x1_4)]) H
    ·replace H:=sF c1 H
     rw [decide_eq_false c1]
     refine goK hT 7 (K44 1111 1) ⟨19,[(2,.own 0 2 0 x1_r0.length)],[eR105 x1_r0]⟩ ?_
     obtain rfl:=retC H
     exact retK hf hX h0 (.own 0 2 0 x1_r0.length) [0] (fun _ h=>all_cons (nr_vec spliceref04_Pair.nl) (fun _ h=>all_nil h) h) (.own _ _ _ _)
 refine cutK [0] ⟨19,[(0,.d (eL76 t0 a0)),(3,.own 0 2 0 ([]:List spliceref04_Pair).length),(4,.i 0)],[eR105 ([]:List spliceref04_Pair)]⟩ h0 ?_
 obtain ⟨n,H⟩:=loopC H
 exact (L n) 0 ([]:List spliceref04_Pair) H


noncomputable abbrev splicelaw04_Ref.q1 (a0:api_Mut) (x1_r3:List spliceref04_Pair):List AV:=[.i a0.Client,.i a0.Seq,.i a0.Kind,.own 3 2 0 x1_r3.length,.i a0.Over.Lo,.i a0.Over.Hi,.i a0.Old]


noncomputable abbrev splicelaw04_Ref.q2 (a0:api_Mut) (x1_4:Int):=(⟨(a0.Pairs.getD x1_4.toNat api_Pair.z).Key,(a0.Pairs.getD x1_4.toNat api_Pair.z).Val⟩:spliceref04_Pair)


noncomputable abbrev splicelaw04_Ref.q3:List AV:=[.i 0,.i 0,.i 0,.ns,.i 0,.i 0,.i 0]


noncomputable abbrev splicelaw04_Ref.s1 (x1_4:Int) (a0:api_Mut) (x1_r3:List spliceref04_Pair):St:=⟨34,[(1,.ptr 0 0 0 0),(2,.ptr 1 0 0 0),(3,.ptr 2 0 0 0),(4,.i x1_4)],[.box 48 (eC48 a0),.box 57 (splicelaw04_Ref.q3),.box 57 (splicelaw04_Ref.q1 a0 x1_r3),eR105 x1_r3]⟩


theorem splicelaw04_Ref.says (a0:api_Mut) {r:spliceref04_Mut} (H:splicelaw04_Ref a0=some r):Says Try.prog 15 [] [.d (eG48 a0)] [] (.d (eG57 r)):=by
 refine says_of Try.func15 rfl (nt:=34) rfl (Nat.le_of_ble_eq_true rfl) fun X hP h0 hX=>?_
 have hT:TabOk X.P T:=hP▸tok
 have hf:X.P.funcs[15]? = some Try.f15:=hP▸Try.func15
 refine goK hT 28 (K15 111010 0) ⟨34,[(1,.ptr 0 0 0 0),(2,.ptr 1 0 0 0),(3,.ptr 2 0 0 0),(4,.i 0)],[.box 48 (eC48 a0),.box 57 (splicelaw04_Ref.q3),.box 57 [.i a0.Client,.i a0.Seq,.i a0.Kind,.ns,.i a0.Over.Lo,.i a0.Over.Hi,.i a0.Old]]⟩ ?_
 refine ak_nilBox (tb:=57) (cs:=[.i a0.Client,.i a0.Seq,.i a0.Kind,.ns,.i a0.Over.Lo,.i a0.Over.Hi,.i a0.Old]) 2 3 2 105 (vec spliceref04_Pair.e spliceref04_Pair.z []) (st':=⟨34,[(1,.ptr 0 0 0 0),(2,.ptr 1 0 0 0),(3,.ptr 2 0 0 0),(4,.i 0)],[.box 48 (eC48 a0),.box 57 (splicelaw04_Ref.q3),.box 57 [.i a0.Client,.i a0.Seq,.i a0.Kind,.own 3 2 0 0,.i a0.Over.Lo,.i a0.Over.Hi,.i a0.Old],eR105 ([]:List spliceref04_Pair)]⟩) (by kernel_rfl) (by kernel_rfl) ?_
 have L:∀ n,(∀ (x1_4:Int) (x1_r3:List spliceref04_Pair),iter (splicelaw04_Ref.step a0) n (.l1 x1_4 x1_r3)=some r→AK X 15 ((K15 111010 0)) (Back X [] (.d (eG57 r))) ⟨34,[(1,.ptr 0 0 0 0),(2,.ptr 1 0 0 0),(3,.ptr 2 0 0 0),(4,.i x1_4)],[.box 48 (eC48 a0),.box 57 (splicelaw04_Ref.q3),.box 57 (splicelaw04_Ref.q1 a0 x1_r3),eR105 x1_r3]⟩):=by
  intro n
  induction n with
  | zero=>exact fun _ _ H=>iter0 H
  | succ n ih=>
   ·intro x1_4 x1_r3 H
    refine goK hT 9 (K15 11101000 1) ⟨34,[(1,.ptr 0 0 0 0),(2,.ptr 1 0 0 0),(3,.ptr 2 0 0 0),(4,.i x1_4),(20,.b (decide (x1_4 < (a0.Pairs.length:Int))))],[.box 48 (eC48 a0),.box 57 (splicelaw04_Ref.q3),.box 57 (splicelaw04_Ref.q1 a0 x1_r3),eR105 x1_r3]⟩ ?_
    by_cases c1:x1_4 < (a0.Pairs.length:Int)
    ·replace H:=sT c1 H
     rw [decide_eq_true c1]
     refine goK hT 2 (K15 1110100 1) (splicelaw04_Ref.s1 x1_4 a0 x1_r3) ?_
     refine goK hT 2 (K15 111010010 0) (splicelaw04_Ref.s1 x1_4 a0 x1_r3) ?_
     obtain ⟨h2,H⟩:=sC H
     refine ak_drawAtE (nt:=34) (hP▸mixed) 8 [7] [1,2,3,4] [(1,.ptr 0 0 0 0),(2,.ptr 1 0 0 0),(3,.ptr 2 0 0 0),(4,.i x1_4)] [some (.ptr 2 0 0 3),some (.own 3 2 0 x1_r3.length),some (.ptr 0 0 0 3),some (.d (eL76 true a0.Pairs)),some (.i x1_4),some (.d (eP76 true a0.Pairs x1_4.toNat 0)),some (.d (eG76 (a0.Pairs.getD x1_4.toNat api_Pair.z))),some (.own 4 2 0 1)] [[.box 48 (eC48 a0),.box 57 (splicelaw04_Ref.q3),.box 57 (splicelaw04_Ref.q1 a0 x1_r3),eR105 x1_r3],[.box 48 (eC48 a0),.box 57 (splicelaw04_Ref.q3),.box 57 (splicelaw04_Ref.q1 a0 x1_r3),eR105 x1_r3,.flat false 2 105 1 (fun j=>[api_Pair.e (a0.Pairs.getD x1_4.toNat api_Pair.z)].getD j [])]] (by kernel_rfl) (by kernel_rfl) (by kernel_rfl) (by kernel_rfl) ⟨(opXE (opGE (opES (opGE (opGE (opGE (opGE (opGE opE0 hT) hT) hT) hT) hT) (fun R rest h=>ak_idx0 hT (i:=x1_4) (n:=(a0.Pairs.length:Int)) h2.1 h2.2 (by kernel_rfl) h)) hT)),(op_goFK hT),(opXE (opGE (opES (opGE (opGE (opGE (opGE (opGE opE0 hT) hT) hT) hT) hT) (fun R rest h=>ak_idx0 hT (i:=x1_4) (n:=(a0.Pairs.length:Int)) h2.1 h2.2 (by kernel_rfl) h)) hT))⟩ ?_
     refine goK hT 0 (K15 1110100100 8) ⟨34,[(1,.ptr 0 0 0 0),(2,.ptr 1 0 0 0),(3,.ptr 2 0 0 0),(4,.i x1_4),(24,.own 3 2 0 x1_r3.length),(30,.own 4 2 0 1)],[.box 48 (eC48 a0),.box 57 (splicelaw04_Ref.q3),.box 57 (splicelaw04_Ref.q1 a0 x1_r3),eR105 x1_r3,.flat false 2 105 1 (fun j=>[api_Pair.e (a0.Pairs.getD x1_4.toNat api_Pair.z)].getD j [])]⟩ ?_
     obtain ⟨h3,H⟩:=sC H
     refine ak_append1 (id:=3) (kk:=2) (by':=16) (t:=54) (e:=105) (z:=[.int .i64 0,.int .i64 0]) (dst:=some 31) (id2:=4) (e2:=105) (fz:=false) (k':=(K15 1110100100 9)) hT spliceref04_Pair.e spliceref04_Pair.z x1_r3 (splicelaw04_Ref.q2 a0 x1_4) [1,2,3,4,31] (by kernel_rfl) (by kernel_rfl) (by kernel_rfl) (by kernel_rfl) (by kernel_rfl) (by kernel_rfl) (by kernel_rfl) h3 (by omega) (st':=⟨34,[(1,.ptr 0 0 0 0),(2,.ptr 1 0 0 0),(3,.ptr 2 0 0 0),(4,.i x1_4),(31,.own 5 2 0 ((x1_r3 ++ [(splicelaw04_Ref.q2 a0 x1_4)]).length))],[.box 48 (eC48 a0),.box 57 (splicelaw04_Ref.q3),.box 57 (splicelaw04_Ref.q1 a0 x1_r3),.gone,.flat false 2 105 1 (fun j=>[api_Pair.e (a0.Pairs.getD x1_4.toNat api_Pair.z)].getD j []),eR105 (x1_r3 ++ [(splicelaw04_Ref.q2 a0 x1_4)])]⟩) (by kernel_rfl) ?_
     refine goCut hT 10 (K15 111010 0) [0,1,2,5] ⟨34,[(1,.ptr 0 0 0 0),(2,.ptr 1 0 0 0),(3,.ptr 2 0 0 0),(4,.i (IntKind.wrap .i64 (x1_4+1)))],[.box 48 (eC48 a0),.box 57 (splicelaw04_Ref.q3),.box 57 [.i a0.Client,.i a0.Seq,.i a0.Kind,.own 3 2 0 (x1_r3 ++ [(splicelaw04_Ref.q2 a0 x1_4)]).length,.i a0.Over.Lo,.i a0.Over.Hi,.i a0.Old],eR105 (x1_r3 ++ [(splicelaw04_Ref.q2 a0 x1_4)])]⟩ h0 ?_
     exact ih (IntKind.wrap .i64 (x1_4+1)) (x1_r3 ++ [(splicelaw04_Ref.q2 a0 x1_4)]) H
    ·replace H:=sF c1 H
     rw [decide_eq_false c1]
     refine goK hT 5 (K15 11110 1) ⟨34,[(2,.ptr 1 0 0 0),(33,.agg [.i a0.Client,.i a0.Seq,.i a0.Kind,.own 3 2 0 x1_r3.length,.i a0.Over.Lo,.i a0.Over.Hi,.i a0.Old])],[.box 48 (eC48 a0),.box 57 (splicelaw04_Ref.q3),.box 57 (splicelaw04_Ref.q1 a0 x1_r3),eR105 x1_r3]⟩ ?_
     refine ak_freeze 3 (kk:=2) (n:=x1_r3.length) (ty:=105) (g:=vec spliceref04_Pair.e spliceref04_Pair.z x1_r3) (by kernel_rfl) (st':=⟨34,[(2,.ptr 1 0 0 0),(33,.agg [.i a0.Client,.i a0.Seq,.i a0.Kind,.own 3 2 0 x1_r3.length,.i a0.Over.Lo,.i a0.Over.Hi,.i a0.Old])],[.box 48 (eC48 a0),.box 57 (splicelaw04_Ref.q3),.box 57 (splicelaw04_Ref.q1 a0 x1_r3),eF105 x1_r3]⟩) (by kernel_rfl) ?_
     refine ak_sealS (av:=.agg [.i a0.Client,.i a0.Seq,.i a0.Kind,.own 3 2 0 x1_r3.length,.i a0.Over.Lo,.i a0.Over.Hi,.i a0.Old]) (y:=.agg [.i a0.Client,.i a0.Seq,.i a0.Kind,eL105 true x1_r3,.i a0.Over.Lo,.i a0.Over.Hi,.i a0.Old]) [2,33] 33 (st':=⟨34,[(2,.ptr 1 0 0 0),(33,.d (.agg [.i a0.Client,.i a0.Seq,.i a0.Kind,eL105 true x1_r3,.i a0.Over.Lo,.i a0.Over.Hi,.i a0.Old]))],[.box 48 (eC48 a0),.box 57 (splicelaw04_Ref.q3),.box 57 (splicelaw04_Ref.q1 a0 x1_r3),eF105 x1_r3]⟩) (by kernel_rfl) (.agg (.cons (.d _) (.cons (.d _) (.cons (.d _) (.cons (.own (ty:=105) (k:=2) (by kernel_rfl)) (.cons (.d _) (.cons (.d _) (.cons (.d _) .nil)))))))) (by kernel_rfl) ?_
     refine goK hT 2 (K15 1111 1) ⟨34,[(2,.ptr 1 0 0 0)],[.box 48 (eC48 a0),.box 57 [.i a0.Client,.i a0.Seq,.i a0.Kind,.d (eL105 true x1_r3),.i a0.Over.Lo,.i a0.Over.Hi,.i a0.Old],.box 57 (splicelaw04_Ref.q1 a0 x1_r3),eF105 x1_r3]⟩ ?_
     obtain rfl:=retC H
     exact ak_retM hT hf hX (av:=.d (.agg [.i a0.Client,.i a0.Seq,.i a0.Kind,eL105 true x1_r3,.i a0.Over.Lo,.i a0.Over.Hi,.i a0.Old])) (by kernel_rfl) [] (sel_of_eq (by kernel_rfl)) (by decide) (by rw [h0];rfl) (by kernel_rfl) (fun _ h=>all_nil h) (.d (.agg (spliceref04_Mut.nl _)))
 refine cutK [0,1,2,3] ⟨34,[(1,.ptr 0 0 0 0),(2,.ptr 1 0 0 0),(3,.ptr 2 0 0 0),(4,.i 0)],[.box 48 (eC48 a0),.box 57 (splicelaw04_Ref.q3),.box 57 [.i a0.Client,.i a0.Seq,.i a0.Kind,.own 3 2 0 ([]:List spliceref04_Pair).length,.i a0.Over.Lo,.i a0.Over.Hi,.i a0.Old],eR105 ([]:List spliceref04_Pair)]⟩ h0 ?_
 obtain ⟨n,H⟩:=loopC H
 exact (L n) 0 ([]:List spliceref04_Pair) H


noncomputable abbrev splicelaw12_Ref_c8.q1 (a0:List api_Entry) (v1:List spliceref04_Pair) (x2_r3:List spliceref12_Entry):List Row:=[.box 89 [.i 0,.i 0,.i 0,.i 0,.b false,.b false,.ns,.ns,.d (eL74 true a0),.ns],.box 84 [.i 0,.i 0,.i 0,.i 0,.b false,.b false,.ns,.ns,.ns,.ns],.box 84 [.i 0,.i 0,.i 0,.i 0,.b false,.b false,.ns,.d (eL105 true v1),.own 3 9 0 x2_r3.length,.ns],eR98 x2_r3]


noncomputable abbrev splicelaw12_Ref_c8.q2 (a0:List api_Entry):List AV:=[.i 0,.i 0,.i 0,.i 0,.b false,.b false,.ns,.ns,.d (eL74 true a0),.ns]


noncomputable abbrev splicelaw12_Ref_c8.q3:List AV:=[.i 0,.i 0,.i 0,.i 0,.b false,.b false,.ns,.ns,.ns,.ns]


noncomputable abbrev splicelaw12_Ref_c8.q4 (v1:List spliceref04_Pair) (x2_r3:List spliceref12_Entry):List AV:=[.i 0,.i 0,.i 0,.i 0,.b false,.b false,.ns,.d (eL105 true v1),.own 3 9 0 x2_r3.length,.ns]


noncomputable abbrev splicelaw12_Ref_c8.s1 (x2_7:Int) (a0:List api_Entry) (v1:List spliceref04_Pair) (x2_r3:List spliceref12_Entry):St:=⟨131,[(1,.ptr 0 0 0 0),(2,.ptr 1 0 0 0),(3,.ptr 2 0 0 0),(7,.i x2_7)],(splicelaw12_Ref_c8.q1 a0 v1 x2_r3)⟩
end Go.SyP
