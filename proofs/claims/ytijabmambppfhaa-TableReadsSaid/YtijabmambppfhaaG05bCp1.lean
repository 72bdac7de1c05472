/- Certificates, printed by gen.py. -/
import Derived.Test.YtijabmambppfhaaG05bCp0
set_option linter.unusedVariables false
set_option linter.unusedSimpArgs false
namespace Go.SyP
open Go Go.Sy Go.Proofs


theorem table_Text.says {t0 : Bool} (a0 : List api_Pair) {r : ByteArray} (H : table_Text a0 = some r) : Says Try.prog 33 [] [.d (eL47 t0 a0)] [] (.s r) := by
  refine says_of Try.func33 rfl (nt := 29) rfl (Nat.le_of_ble_eq_true rfl) fun X hP h0 hX => ?_
  have hT : TabOk X.P T := hP ▸ tok
  have hf : X.P.funcs[33]? = some Try.f33 := hP ▸ Try.func33
  refine goK hT 8 (K33 1100 1) ⟨29, [(0, .d (eL47 t0 a0)), (6, .d (eL47 t0 a0))], []⟩ ?_
  obtain ⟨v1, h1, H⟩ := ibC H
  refine ak_callP (avs := [.d (eL47 t0 a0)]) (dst := some 7) (k' := (K33 1100 2)) [0, 7] [] hP enters_22 (table_Check.says (t0 := t0) a0 h1) (by kernel_rfl) (hands_none _) (.cons (pass_d _) .nil) (st' := ⟨29, [(0, .d (eL47 t0 a0)), (7, .b v1)], []⟩) (by kernel_rfl) ?_
  refine goK hT 2 (K33 110 1) ⟨29, [(0, .d (eL47 t0 a0)), (8, .b (!v1))], []⟩ ?_
  by_cases c2 : v1 = true
  · replace H := iT c2 H
    rw [c2]
    refine goK hT 2 (K33 11 1) ⟨29, [(0, .d (eL47 t0 a0))], []⟩ ?_
    refine goK hT 8 (K33 11110 2) ⟨29, [(0, .d (eL47 t0 a0)), (3, .ptr 0 0 0 0), (10, .i (a0.length : Int))], [.box 105 [.d .np, .ns]]⟩ ?_
    obtain ⟨v2, h3, H⟩ := ibC H
    refine ak_callP (avs := [.i (a0.length : Int)]) (dst := some 11) (k' := (K33 11110 3)) [0, 3, 11] [] hP enters_67 (vint_Num.says (a0.length : Int) h3) (by kernel_rfl) (hands_none _) (.cons (pass_d _) .nil) (st' := ⟨29, [(0, .d (eL47 t0 a0)), (3, .ptr 0 0 0 0), (11, .s v2)], [.box 105 [.d .np, .ns]]⟩) (by kernel_rfl) ?_
    refine ak_nilBox (tb := 105) (cs := [.d .np, .ns]) 0 1 1 5 (vec (eI .u8) 0 []) (st' := ⟨29, [(0, .d (eL47 t0 a0)), (3, .ptr 0 0 0 0), (11, .s v2)], [.box 105 [.d .np, .own 1 1 0 ((bytesL (⟨#[]⟩ : ByteArray)).length)], eR5 (bytesL (⟨#[]⟩ : ByteArray))]⟩) (by kernel_rfl) (by kernel_rfl) ?_
    obtain ⟨h4, H⟩ := iC H
    refine ak_callP (avs := [.ptr 0 0 0 0, .s v2]) (dst := some 12) (k' := (K33 11110 4)) [0, 3] [0, 1] hP enters_66 (bldWrite66 (.np) (.inl rfl) (⟨#[]⟩ : ByteArray) v2 h4) (by kernel_rfl) (hands_two rfl rfl rfl rfl (by decide)) (.cons (.same (.ptr 0 0 0 0)) (.cons (pass_d _) .nil)) (st' := ⟨29, [(0, .d (eL47 t0 a0)), (3, .ptr 0 0 0 0)], [.box 105 [.ptr 0 0 0 0, .own 2 1 0 ((bytesL ((⟨#[]⟩ : ByteArray) ++ v2)).length)], .gone, eR5 (bytesL ((⟨#[]⟩ : ByteArray) ++ v2))]⟩) (by kernel_rfl) ?_
    refine goK hT 10 (K33 11111010 0) ⟨29, [(3, .ptr 0 0 0 0), (13, .d (eL47 t0 a0)), (14, .i (a0.length : Int)), (15, .i 0)], [.box 105 [.ptr 0 0 0 0, .own 2 1 0 ((bytesL ((⟨#[]⟩ : ByteArray) ++ v2)).length)], .gone, eR5 (bytesL ((⟨#[]⟩ : ByteArray) ++ v2))]⟩ ?_
    have L : ∀ n, (∀ (x1_15 : Int) (x1_r1 : ByteArray), iter (table_Text.step a0) n (.l1 x1_15 x1_r1) = some r → AK X 33 ((K33 11111010 0)) (Back X [] (.s r)) ⟨29, [(3, .ptr 0 0 0 0), (13, .d (eL47 t0 a0)), (14, .i (a0.length : Int)), (15, .i x1_15)], [.box 105 [.ptr 0 0 0 0, .own 1 1 0 ((bytesL x1_r1).length)], eR5 (bytesL x1_r1)]⟩) := by
      intro n
      induction n with
      | zero => exact fun _ _ H => iter0 H
      | succ n ih =>
        · intro x1_15 x1_r1 H
          refine goK hT 5 (K33 1111101001 0) ⟨29, [(3, .ptr 0 0 0 0), (13, .d (eL47 t0 a0)), (14, .i (a0.length : Int)), (15, .i x1_15), (16, .b (decide (x1_15 < (a0.length : Int))))], [.box 105 [.ptr 0 0 0 0, .own 1 1 0 ((bytesL x1_r1).length)], eR5 (bytesL x1_r1)]⟩ ?_
          by_cases c5 : x1_15 < (a0.length : Int)
          · replace H := sT c5 H
            rw [decide_eq_true c5]
            refine goK hT 2 (K33 1111101001 1) ⟨29, [(3, .ptr 0 0 0 0), (13, .d (eL47 t0 a0)), (14, .i (a0.length : Int)), (15, .i x1_15)], [.box 105 [.ptr 0 0 0 0, .own 1 1 0 ((bytesL x1_r1).length)], eR5 (bytesL x1_r1)]⟩ ?_
            refine goK hT 4 (K33 11111010011000 0) ⟨29, [(3, .ptr 0 0 0 0), (13, .d (eL47 t0 a0)), (14, .i (a0.length : Int)), (15, .i x1_15)], [.box 105 [.ptr 0 0 0 0, .own 1 1 0 ((bytesL x1_r1).length)], eR5 (bytesL x1_r1)]⟩ ?_
            obtain ⟨h6, H⟩ := sC H
            refine ak_idx hT [3, 13, 14, 15, 17] (i := x1_15) (n := (a0.length : Int)) h6.1 h6.2 (k' := (K33 11111010011000 1)) (st' := ⟨29, [(3, .ptr 0 0 0 0), (13, .d (eL47 t0 a0)), (14, .i (a0.length : Int)), (15, .i x1_15), (17, .d (eP47 t0 a0 x1_15.toNat 0))], [.box 105 [.ptr 0 0 0 0, .own 1 1 0 ((bytesL x1_r1).length)], eR5 (bytesL x1_r1)]⟩) (by kernel_rfl) ?_
            refine goK hT 4 (K33 1111101001100 1) ⟨29, [(3, .ptr 0 0 0 0), (5, .ptr 2 0 0 0), (13, .d (eL47 t0 a0)), (14, .i (a0.length : Int)), (15, .i x1_15)], [.box 105 [.ptr 0 0 0 0, .own 1 1 0 ((bytesL x1_r1).length)], eR5 (bytesL x1_r1), .box 47 (eC47 (a0.getD x1_15.toNat api_Pair.z))]⟩ ?_
            obtain ⟨v3, h7, H⟩ := sbC H
            refine drawK (hP ▸ mixed) 5 [3, 5, 13, 14, 15] [some (.ptr 2 0 0 0), some (.i ((a0.getD x1_15.toNat api_Pair.z).Key)), some (.s v3), some (.ptr 2 0 0 1), some (.i ((a0.getD x1_15.toNat api_Pair.z).Val))] (opG (opG (opS (opG (opG op0 hT) hT) (fun R rest h => ak_callD (avs := [.i ((a0.getD x1_15.toNat api_Pair.z).Key)]) (dst := some 21) hP enters_67 (vint_Num.says ((a0.getD x1_15.toNat api_Pair.z).Key) h7) (by kernel_rfl) (.cons (pass_d _) .nil) (by kernel_rfl) h)) hT) hT) ?_
            refine goK hT 0 (K33 11111010011001 5) ⟨29, [(3, .ptr 0 0 0 0), (13, .d (eL47 t0 a0)), (14, .i (a0.length : Int)), (15, .i x1_15), (21, .s v3), (23, .i ((a0.getD x1_15.toNat api_Pair.z).Val))], [.box 105 [.ptr 0 0 0 0, .own 1 1 0 ((bytesL x1_r1).length)], eR5 (bytesL x1_r1), .box 47 (eC47 (a0.getD x1_15.toNat api_Pair.z))]⟩ ?_
            obtain ⟨v4, h8, H⟩ := sbC H
            refine ak_callP (avs := [.i ((a0.getD x1_15.toNat api_Pair.z).Val)]) (dst := some 24) (k' := (K33 11111010011001 6)) [3, 13, 14, 15, 21, 24] [] hP enters_68 (vint_Whole.says ((a0.getD x1_15.toNat api_Pair.z).Val) h8) (by kernel_rfl) (hands_none _) (.cons (pass_d _) .nil) (st' := ⟨29, [(3, .ptr 0 0 0 0), (13, .d (eL47 t0 a0)), (14, .i (a0.length : Int)), (15, .i x1_15), (21, .s v3), (24, .s v4)], [.box 105 [.ptr 0 0 0 0, .own 1 1 0 ((bytesL x1_r1).length)], eR5 (bytesL x1_r1), .box 47 (eC47 (a0.getD x1_15.toNat api_Pair.z))]⟩) (by kernel_rfl) ?_
            obtain ⟨h9, H⟩ := sC H
            refine ak_cat v3 v4 (some 25) [3, 13, 14, 15, 25] (k' := (K33 11111010011001 7)) (by kernel_rfl) h9 (st' := ⟨29, [(3, .ptr 0 0 0 0), (13, .d (eL47 t0 a0)), (14, .i (a0.length : Int)), (15, .i x1_15), (25, .s (v3 ++ v4))], [.box 105 [.ptr 0 0 0 0, .own 1 1 0 ((bytesL x1_r1).length)], eR5 (bytesL x1_r1), .box 47 (eC47 (a0.getD x1_15.toNat api_Pair.z))]⟩) (by kernel_rfl) ?_
            obtain ⟨h10, H⟩ := sC H
            refine ak_callP (avs := [.ptr 0 0 0 0, .s (v3 ++ v4)]) (dst := some 26) (k' := (K33 11111010011001 8)) [3, 13, 14, 15] [0, 1] hP enters_66 (bldWrite66 (.ptr 0 0 0 0) (.inr rfl) x1_r1 (v3 ++ v4) h10) (by kernel_rfl) (hands_two rfl rfl rfl rfl (by decide)) (.cons (.same (.ptr 0 0 0 0)) (.cons (pass_d _) .nil)) (st' := ⟨29, [(3, .ptr 0 0 0 0), (13, .d (eL47 t0 a0)), (14, .i (a0.length : Int)), (15, .i x1_15)], [.box 105 [.ptr 0 0 0 0, .own 3 1 0 ((bytesL (x1_r1 ++ (v3 ++ v4))).length)], .gone, .box 47 (eC47 (a0.getD x1_15.toNat api_Pair.z)), eR5 (bytesL (x1_r1 ++ (v3 ++ v4)))]⟩) (by kernel_rfl) ?_
            refine goK hT 7 (K33 11111010 0) ⟨29, [(3, .ptr 0 0 0 0), (13, .d (eL47 t0 a0)), (14, .i (a0.length : Int)), (15, .i (IntKind.wrap .i64 (x1_15 + 1)))], [.box 105 [.ptr 0 0 0 0, .own 3 1 0 ((bytesL (x1_r1 ++ (v3 ++ v4))).length)], .gone, .box 47 (eC47 (a0.getD x1_15.toNat api_Pair.z)), eR5 (bytesL (x1_r1 ++ (v3 ++ v4)))]⟩ ?_
            refine cutK [0, 3] ⟨29, [(3, .ptr 0 0 0 0), (13, .d (eL47 t0 a0)), (14, .i (a0.length : Int)), (15, .i (IntKind.wrap .i64 (x1_15 + 1)))], [.box 105 [.ptr 0 0 0 0, .own 1 1 0 ((bytesL (x1_r1 ++ (v3 ++ v4))).length)], eR5 (bytesL (x1_r1 ++ (v3 ++ v4)))]⟩ h0 ?_
            exact ih (IntKind.wrap .i64 (x1_15 + 1)) (x1_r1 ++ (v3 ++ v4)) H
          · replace H := sF c5 H
            rw [decide_eq_false c5]
            refine goK hT 4 (K33 1111110 0) ⟨29, [(3, .ptr 0 0 0 0)], [.box 105 [.ptr 0 0 0 0, .own 1 1 0 ((bytesL x1_r1).length)], eR5 (bytesL x1_r1)]⟩ ?_
            refine ak_bldStr (dst := some 28) (k' := (K33 1111110 1)) (st' := ⟨29, [(28, .s x1_r1)], [.gone, .gone]⟩) x1_r1 0 1 (.ptr 0 0 0 0) hP bldStr69 enters_69 h0 (by kernel_rfl) (by kernel_rfl) (by kernel_rfl) (by kernel_rfl) ?_
            refine goK hT 2 (K33 111111 1) ⟨29, [(2, .s x1_r1)], [.gone, .gone]⟩ ?_
            obtain rfl := retC H
            exact ak_ret hf hX (av := .s x1_r1) (by kernel_rfl) [] (sel_of_eq (by kernel_rfl)) (by decide) (by rw [h0]; rfl) (by kernel_rfl) (fun _ h => all_nil h) (.d (.v _))
    refine cutK [0, 2] ⟨29, [(3, .ptr 0 0 0 0), (13, .d (eL47 t0 a0)), (14, .i (a0.length : Int)), (15, .i 0)], [.box 105 [.ptr 0 0 0 0, .own 1 1 0 ((bytesL ((⟨#[]⟩ : ByteArray) ++ v2)).length)], eR5 (bytesL ((⟨#[]⟩ : ByteArray) ++ v2))]⟩ h0 ?_
    obtain ⟨n, H⟩ := loopC H
    exact (L n) 0 ((⟨#[]⟩ : ByteArray) ++ v2) H
  · replace H := iF c2 H
    rw [boF c2]
    refine goK hT 5 (K33 11010 1) ⟨29, [(2, .s (⟨#[]⟩ : ByteArray))], []⟩ ?_
    obtain rfl := retC H
    exact ak_ret hf hX (av := .s (⟨#[]⟩ : ByteArray)) (by kernel_rfl) [] (sel_of_eq (by kernel_rfl)) (by decide) (by rw [h0]; rfl) (by kernel_rfl) (fun _ h => all_nil h) (.d (.v _))


theorem splicelaw05_Refs.says {t0 : Bool} (a0 : List api_Pair) {r : List spliceref04_Pair} (H : splicelaw05_Refs a0 = some r) : Says Try.prog 18 [] [.d (eL47 t0 a0)] [eR90 r] (.own 0 2 0 r.length) := by
  refine says_of Try.func18 rfl (nt := 19) rfl (Nat.le_of_ble_eq_true rfl) fun X hP h0 hX => ?_
  have hT : TabOk X.P T := hP ▸ tok
  have hf : X.P.funcs[18]? = some Try.f18 := hP ▸ Try.func18
  refine goK hT 15 (K18 111010 0) ⟨19, [(0, .d (eL47 t0 a0)), (3, .ns), (4, .i 0)], []⟩ ?_
  refine ak_nilS [0, 3, 4] 3 2 90 (vec spliceref04_Pair.e spliceref04_Pair.z []) (st' := ⟨19, [(0, .d (eL47 t0 a0)), (3, .own 0 2 0 0), (4, .i 0)], [eR90 ([] : List spliceref04_Pair)]⟩) (by kernel_rfl) (by kernel_rfl) ?_
  have L : ∀ n, (∀ (x1_4 : Int) (x1_r0 : List spliceref04_Pair), iter (splicelaw05_Refs.step a0) n (.l1 x1_4 x1_r0) = some r → AK X 18 ((K18 111010 0)) (Back X [eR90 r] (.own 0 2 0 r.length)) ⟨19, [(0, .d (eL47 t0 a0)), (3, .own 0 2 0 x1_r0.length), (4, .i x1_4)], [eR90 x1_r0]⟩) := by
    intro n
    induction n with
    | zero => exact fun _ _ H => iter0 H
    | succ n ih =>
      · intro x1_4 x1_r0 H
        refine goK hT 8 (K18 11101000 1) ⟨19, [(0, .d (eL47 t0 a0)), (3, .own 0 2 0 x1_r0.length), (4, .i x1_4), (8, .b (decide (x1_4 < (a0.length : Int))))], [eR90 x1_r0]⟩ ?_
        by_cases c1 : x1_4 < (a0.length : Int)
        · replace H := sT c1 H
          rw [decide_eq_true c1]
          refine goK hT 2 (K18 1110100 1) ⟨19, [(0, .d (eL47 t0 a0)), (3, .own 0 2 0 x1_r0.length), (4, .i x1_4)], [eR90 x1_r0]⟩ ?_
          refine goK hT 6 (K18 1110100100 3) ⟨19, [(0, .d (eL47 t0 a0)), (4, .i x1_4), (11, .own 0 2 0 x1_r0.length), (12, .d (eL47 t0 a0)), (13, .i x1_4)], [eR90 x1_r0]⟩ ?_
          obtain ⟨h2, H⟩ := sC H
          refine ak_idx hT [0, 4, 11, 14] (i := x1_4) (n := (a0.length : Int)) h2.1 h2.2 (k' := (K18 1110100100 4)) (st' := ⟨19, [(0, .d (eL47 t0 a0)), (4, .i x1_4), (11, .own 0 2 0 x1_r0.length), (14, .d (eP47 t0 a0 x1_4.toNat 0))], [eR90 x1_r0]⟩) (by kernel_rfl) ?_
          refine goK hT 2 (K18 1110100100 6) ⟨19, [(0, .d (eL47 t0 a0)), (4, .i x1_4), (11, .own 0 2 0 x1_r0.length), (16, .own 1 2 0 1)], [eR90 x1_r0, .flat false 2 90 1 (fun j => [api_Pair.e (a0.getD x1_4.toNat api_Pair.z)].getD j [])]⟩ ?_
          obtain ⟨h3, H⟩ := sC H
          refine ak_append1 (id := 0) (kk := 2) (by' := 16) (t := 32) (e := 90) (z := [.int .i64 0, .int .i64 0]) (dst := some 17) (id2 := 1) (e2 := 90) (fz := false) (k' := (K18 1110100100 7)) hT spliceref04_Pair.e spliceref04_Pair.z x1_r0 (⟨(a0.getD x1_4.toNat api_Pair.z).Key, (a0.getD x1_4.toNat api_Pair.z).Val⟩ : spliceref04_Pair) [0, 4, 17] (by kernel_rfl) (by kernel_rfl) (by kernel_rfl) (by kernel_rfl) (by kernel_rfl) (by kernel_rfl) (by kernel_rfl) h3 (by omega) (st' := ⟨19, [(0, .d (eL47 t0 a0)), (4, .i x1_4), (17, .own 2 2 0 ((x1_r0 ++ [(⟨(a0.getD x1_4.toNat api_Pair.z).Key, (a0.getD x1_4.toNat api_Pair.z).Val⟩ : spliceref04_Pair)]).length))], [.gone, .flat false 2 90 1 (fun j => [api_Pair.e (a0.getD x1_4.toNat api_Pair.z)].getD j []), eR90 (x1_r0 ++ [(⟨(a0.getD x1_4.toNat api_Pair.z).Key, (a0.getD x1_4.toNat api_Pair.z).Val⟩ : spliceref04_Pair)])]⟩) (by kernel_rfl) ?_
          refine goK hT 9 (K18 111010 0) ⟨19, [(0, .d (eL47 t0 a0)), (3, .own 2 2 0 ((x1_r0 ++ [(⟨(a0.getD x1_4.toNat api_Pair.z).Key, (a0.getD x1_4.toNat api_Pair.z).Val⟩ : spliceref04_Pair)]).length)), (4, .i (IntKind.wrap .i64 (x1_4 + 1)))], [.gone, .flat false 2 90 1 (fun j => [api_Pair.e (a0.getD x1_4.toNat api_Pair.z)].getD j []), eR90 (x1_r0 ++ [(⟨(a0.getD x1_4.toNat api_Pair.z).Key, (a0.getD x1_4.toNat api_Pair.z).Val⟩ : spliceref04_Pair)])]⟩ ?_
          refine cutK [2] ⟨19, [(0, .d (eL47 t0 a0)), (3, .own 0 2 0 (x1_r0 ++ [(⟨(a0.getD x1_4.toNat api_Pair.z).Key, (a0.getD x1_4.toNat api_Pair.z).Val⟩ : spliceref04_Pair)]).length), (4, .i (IntKind.wrap .i64 (x1_4 + 1)))], [eR90 (x1_r0 ++ [(⟨(a0.getD x1_4.toNat api_Pair.z).Key, (a0.getD x1_4.toNat api_Pair.z).Val⟩ : spliceref04_Pair)])]⟩ h0 ?_
          exact ih (IntKind.wrap .i64 (x1_4 + 1)) (x1_r0 ++ [(⟨(a0.getD x1_4.toNat api_Pair.z).Key, (a0.getD x1_4.toNat api_Pair.z).Val⟩ : spliceref04_Pair)]) H
        · replace H := sF c1 H
          rw [decide_eq_false c1]
          refine goK hT 7 (K18 1111 1) ⟨19, [(2, .own 0 2 0 x1_r0.length)], [eR90 x1_r0]⟩ ?_
          obtain rfl := retC H
          exact ak_ret hf hX (av := .own 0 2 0 x1_r0.length) (by kernel_rfl) [0] (sel_of_eq (by kernel_rfl)) (by decide) (by rw [h0]; rfl) (by kernel_rfl) (fun _ h => all_cons (nr_vec spliceref04_Pair.nl) (fun _ h => all_nil h) h) (.own _ _ _ _)
  refine cutK [0] ⟨19, [(0, .d (eL47 t0 a0)), (3, .own 0 2 0 ([] : List spliceref04_Pair).length), (4, .i 0)], [eR90 ([] : List spliceref04_Pair)]⟩ h0 ?_
  obtain ⟨n, H⟩ := loopC H
  exact (L n) 0 ([] : List spliceref04_Pair) H


theorem spliceref01_Num.says (a0 : Int) {r : ByteArray} (H : spliceref01_Num a0 = some r) : Says Try.prog 70 [] [.i a0] [] (.s r) := by
  refine says_of Try.func70 rfl (nt := 24) rfl (Nat.le_of_ble_eq_true rfl) fun X hP h0 hX => ?_
  have hT : TabOk X.P T := hP ▸ tok
  have hf : X.P.funcs[70]? = some Try.f70 := hP ▸ Try.func70
  refine goK hT 10 (K70 110 1) ⟨24, [(0, .i a0), (5, .b (decide (a0 < 0)))], []⟩ ?_
  by_cases c1 : a0 < 0
  · replace H := iT c1 H
    rw [decide_eq_true c1]
    refine goK hT 5 (K70 11010 1) ⟨24, [(2, .s (⟨#[]⟩ : ByteArray))], []⟩ ?_
    obtain rfl := retC H
    exact ak_ret hf hX (av := .s (⟨#[]⟩ : ByteArray)) (by kernel_rfl) [] (sel_of_eq (by kernel_rfl)) (by decide) (by rw [h0]; rfl) (by kernel_rfl) (fun _ h => all_nil h) (.d (.v _))
  · replace H := iF c1 H
    rw [decide_eq_false c1]
    refine goK hT 2 (K70 11 1) ⟨24, [(0, .i a0)], []⟩ ?_
    refine goK hT 7 (K70 111100 0) ⟨24, [(0, .i a0), (3, .ns)], []⟩ ?_
    refine ak_nilS [0, 3] 3 1 5 (vec (eI .u8) 0 []) (st' := ⟨24, [(0, .i a0), (3, .own 0 1 0 0)], [eR5 ([] : List Int)]⟩) (by kernel_rfl) (by kernel_rfl) ?_
    have L : ∀ n, (∀ (x1_0 : Int) (x1_r0 : List Int), iter (spliceref01_Num.step) n (.l1 x1_0 x1_r0) = some r → AK X 70 ((K70 111100 0)) (Back X [] (.s r)) ⟨24, [(0, .i x1_0), (3, .own 0 1 0 x1_r0.length)], [eR5 x1_r0]⟩) := by
      intro n
      induction n with
      | zero => exact fun _ _ H => iter0 H
      | succ n ih =>
        · intro x1_0 x1_r0 H
          refine goK hT 6 (K70 11110000 1) ⟨24, [(0, .i x1_0), (3, .own 0 1 0 x1_r0.length), (7, .b (decide (x1_0 > 127)))], [eR5 x1_r0]⟩ ?_
          by_cases c2 : x1_0 > 127
          · replace H := sT c2 H
            rw [decide_eq_true c2]
            refine goK hT 2 (K70 1111000 1) ⟨24, [(0, .i x1_0), (3, .own 0 1 0 x1_r0.length)], [eR5 x1_r0]⟩ ?_
            refine goK hT 9 (K70 1111000100 6) ⟨24, [(0, .i x1_0), (8, .own 0 1 0 x1_r0.length), (13, .own 1 1 0 1)], [eR5 x1_r0, .flat false 1 5 1 (fun j => [[.n .u8 (IntKind.wrap .u8 (IntKind.wrap .i64 (128 + (Int.tmod x1_0 128))))]].getD j [])]⟩ ?_
            obtain ⟨h4, H⟩ := sC H
            refine ak_append1 (id := 0) (kk := 1) (by' := 1) (t := 103) (e := 5) (z := [.int .u8 0]) (dst := some 14) (id2 := 1) (e2 := 5) (fz := false) (k' := (K70 1111000100 7)) hT (eI .u8) 0 x1_r0 (IntKind.wrap .u8 (IntKind.wrap .i64 (128 + (Int.tmod x1_0 128)))) [0, 14] (by kernel_rfl) (by kernel_rfl) (by kernel_rfl) (by kernel_rfl) (by kernel_rfl) (by kernel_rfl) (by kernel_rfl) h4 (by omega) (st' := ⟨24, [(0, .i x1_0), (14, .own 2 1 0 ((x1_r0 ++ [IntKind.wrap .u8 (IntKind.wrap .i64 (128 + (Int.tmod x1_0 128)))]).length))], [.gone, .flat false 1 5 1 (fun j => [[.n .u8 (IntKind.wrap .u8 (IntKind.wrap .i64 (128 + (Int.tmod x1_0 128))))]].getD j []), eR5 (x1_r0 ++ [IntKind.wrap .u8 (IntKind.wrap .i64 (128 + (Int.tmod x1_0 128)))])]⟩) (by kernel_rfl) ?_
            refine goK hT 9 (K70 111100 0) ⟨24, [(0, .i (IntKind.wrap .i64 (Int.tdiv x1_0 128))), (3, .own 2 1 0 ((x1_r0 ++ [IntKind.wrap .u8 (IntKind.wrap .i64 (128 + (Int.tmod x1_0 128)))]).length))], [.gone, .flat false 1 5 1 (fun j => [[.n .u8 (IntKind.wrap .u8 (IntKind.wrap .i64 (128 + (Int.tmod x1_0 128))))]].getD j []), eR5 (x1_r0 ++ [IntKind.wrap .u8 (IntKind.wrap .i64 (128 + (Int.tmod x1_0 128)))])]⟩ ?_
            refine cutK [2] ⟨24, [(0, .i (IntKind.wrap .i64 (Int.tdiv x1_0 128))), (3, .own 0 1 0 (x1_r0 ++ [IntKind.wrap .u8 (IntKind.wrap .i64 (128 + (Int.tmod x1_0 128)))]).length)], [eR5 (x1_r0 ++ [IntKind.wrap .u8 (IntKind.wrap .i64 (128 + (Int.tmod x1_0 128)))])]⟩ h0 ?_
            exact ih (IntKind.wrap .i64 (Int.tdiv x1_0 128)) (x1_r0 ++ [IntKind.wrap .u8 (IntKind.wrap .i64 (128 + (Int.tmod x1_0 128)))]) H
          · replace H := sF c2 H
            rw [decide_eq_false c2]
            refine goK hT 8 (K70 111110 4) ⟨24, [(17, .own 0 1 0 x1_r0.length), (20, .own 1 1 0 1)], [eR5 x1_r0, .flat false 1 5 1 (fun j => [[.n .u8 (IntKind.wrap .u8 x1_0)]].getD j [])]⟩ ?_
            obtain ⟨h3, H⟩ := sC H
            refine ak_append1 (id := 0) (kk := 1) (by' := 1) (t := 103) (e := 5) (z := [.int .u8 0]) (dst := some 21) (id2 := 1) (e2 := 5) (fz := false) (k' := (K70 111110 5)) hT (eI .u8) 0 x1_r0 (IntKind.wrap .u8 x1_0) [21] (by kernel_rfl) (by kernel_rfl) (by kernel_rfl) (by kernel_rfl) (by kernel_rfl) (by kernel_rfl) (by kernel_rfl) h3 (by omega) (st' := ⟨24, [(21, .own 2 1 0 ((x1_r0 ++ [IntKind.wrap .u8 x1_0]).length))], [.gone, .flat false 1 5 1 (fun j => [[.n .u8 (IntKind.wrap .u8 x1_0)]].getD j []), eR5 (x1_r0 ++ [IntKind.wrap .u8 x1_0])]⟩) (by kernel_rfl) ?_
            refine goK hT 5 (K70 1111110 1) ⟨24, [(22, .own 2 1 0 ((x1_r0 ++ [IntKind.wrap .u8 x1_0]).length))], [.gone, .flat false 1 5 1 (fun j => [[.n .u8 (IntKind.wrap .u8 x1_0)]].getD j []), eR5 (x1_r0 ++ [IntKind.wrap .u8 x1_0])]⟩ ?_
            refine ak_toStr (av := .own 2 1 0 ((x1_r0 ++ [IntKind.wrap .u8 x1_0]).length)) (dst := some 23) (k' := (K70 1111110 2)) hT [23] (x1_r0 ++ [IntKind.wrap .u8 x1_0]) (by kernel_rfl) (.own (fz := false) (e := 5) (by kernel_rfl)) (st' := ⟨24, [(23, .s (strB (x1_r0 ++ [IntKind.wrap .u8 x1_0])))], [.gone, .flat false 1 5 1 (fun j => [[.n .u8 (IntKind.wrap .u8 x1_0)]].getD j []), eR5 (x1_r0 ++ [IntKind.wrap .u8 x1_0])]⟩) (by kernel_rfl) ?_
            refine goK hT 2 (K70 111111 1) ⟨24, [(2, .s (strB (x1_r0 ++ [IntKind.wrap .u8 x1_0])))], [.gone, .flat false 1 5 1 (fun j => [[.n .u8 (IntKind.wrap .u8 x1_0)]].getD j []), eR5 (x1_r0 ++ [IntKind.wrap .u8 x1_0])]⟩ ?_
            obtain rfl := retC H
            exact ak_ret hf hX (av := .s (strB (x1_r0 ++ [IntKind.wrap .u8 x1_0]))) (by kernel_rfl) [] (sel_of_eq (by kernel_rfl)) (by decide) (by rw [h0]; rfl) (by kernel_rfl) (fun _ h => all_nil h) (.d (.v _))
    refine cutK [0] ⟨24, [(0, .i a0), (3, .own 0 1 0 ([] : List Int).length)], [eR5 ([] : List Int)]⟩ h0 ?_
    obtain ⟨n, H⟩ := loopC H
    exact (L n) a0 ([] : List Int) H


theorem spliceref01_May.says (a0 : Int) : Says Try.prog 97 [] [.i a0] [] (.b (spliceref01_May a0)) := by
  obtain ⟨r, H⟩ : ∃ r, spliceref01_May a0 = r := ⟨_, rfl⟩
  rw [H]
  refine says_of Try.func97 rfl (nt := 9) rfl (Nat.le_of_ble_eq_true rfl) fun X hP h0 hX => ?_
  have hT : TabOk X.P T := hP ▸ tok
  have hf : X.P.funcs[97]? = some Try.f97 := hP ▸ Try.func97
  have Jj1 : ∀ (y1_2 : Bool), (spliceref01_May.j1 y1_2) = r → AK X 97 ((K97 11 1)) (Back X [] (.b r)) ⟨9, [(2, .b y1_2)], []⟩ := by
    intro y1_2 H
    obtain rfl := H
    exact ak_ret hf hX (av := .b y1_2) (by kernel_rfl) [] (sel_of_eq (by kernel_rfl)) (by decide) (by rw [h0]; rfl) (by kernel_rfl) (fun _ h => all_nil h) (.d (.v _))
  refine goK hT 9 (K97 110 3) ⟨9, [(0, .i a0), (5, .b (decide (a0 ≥ (-4611686018427387904))))], []⟩ ?_
  by_cases c1 : a0 ≥ (-4611686018427387904)
  · replace H := iT c1 H
    rw [decide_eq_true c1]
    refine goK hT 5 (K97 11 1) ⟨9, [(2, .b (decide (a0 ≤ 4611686018427387903)))], []⟩ ?_
    refine cutK [] ⟨9, [(2, .b (decide (a0 ≤ 4611686018427387903)))], []⟩ h0 ?_
    exact Jj1 (decide (a0 ≤ 4611686018427387903)) H
  · replace H := iF c1 H
    rw [decide_eq_false c1]
    refine goK hT 5 (K97 11 1) ⟨9, [(2, .b false)], []⟩ ?_
    refine cutK [] ⟨9, [(2, .b false)], []⟩ h0 ?_
    exact Jj1 false H


theorem spliceref01_Whole.says (a0 : Int) {r : ByteArray} (H : spliceref01_Whole a0 = some r) : Says Try.prog 71 [] [.i a0] [] (.s r) := by
  refine says_of Try.func71 rfl (nt := 18) rfl (Nat.le_of_ble_eq_true rfl) fun X hP h0 hX => ?_
  have hT : TabOk X.P T := hP ▸ tok
  have hf : X.P.funcs[71]? = some Try.f71 := hP ▸ Try.func71
  refine goK hT 8 (K71 1100 1) ⟨18, [(0, .i a0), (3, .i a0)], []⟩ ?_
  refine ak_callP (avs := [.i a0]) (dst := some 4) (k' := (K71 1100 2)) [0, 4] [] hP enters_97 (spliceref01_May.says a0) (by kernel_rfl) (hands_none _) (.cons (pass_d _) .nil) (st' := ⟨18, [(0, .i a0), (4, .b (spliceref01_May a0))], []⟩) (by kernel_rfl) ?_
  refine goK hT 2 (K71 110 1) ⟨18, [(0, .i a0), (5, .b (!(spliceref01_May a0)))], []⟩ ?_
  by_cases c1 : (spliceref01_May a0) = true
  · replace H := iT c1 H
    rw [c1]
    refine goK hT 2 (K71 11 1) ⟨18, [(0, .i a0)], []⟩ ?_
    refine goK hT 6 (K71 1110 1) ⟨18, [(0, .i a0), (7, .b (decide (a0 ≥ 0)))], []⟩ ?_
    by_cases c2 : a0 ≥ 0
    · replace H := iT c2 H
      rw [decide_eq_true c2]
      refine goK hT 6 (K71 1110100 3) ⟨18, [(10, .i (IntKind.wrap .i64 (a0 + a0)))], []⟩ ?_
      obtain ⟨v1, h3, H⟩ := ibC H
      refine ak_callP (avs := [.i (IntKind.wrap .i64 (a0 + a0))]) (dst := some 11) (k' := (K71 1110100 4)) [11] [] hP enters_70 (spliceref01_Num.says (IntKind.wrap .i64 (a0 + a0)) h3) (by kernel_rfl) (hands_none _) (.cons (pass_d _) .nil) (st' := ⟨18, [(11, .s v1)], []⟩) (by kernel_rfl) ?_
      refine goK hT 2 (K71 111010 1) ⟨18, [(2, .s v1)], []⟩ ?_
      obtain rfl := retC H
      exact ak_ret hf hX (av := .s v1) (by kernel_rfl) [] (sel_of_eq (by kernel_rfl)) (by decide) (by rw [h0]; rfl) (by kernel_rfl) (fun _ h => all_nil h) (.d (.v _))
    · replace H := iF c2 H
      rw [decide_eq_false c2]
      refine goK hT 2 (K71 111 1) ⟨18, [(0, .i a0)], []⟩ ?_
      refine goK hT 7 (K71 11110 5) ⟨18, [(16, .i (IntKind.wrap .i64 ((IntKind.wrap .i64 ((IntKind.wrap .i64 (0 - a0)) - a0)) - 1)))], []⟩ ?_
      obtain ⟨v2, h4, H⟩ := ibC H
      refine ak_callP (avs := [.i (IntKind.wrap .i64 ((IntKind.wrap .i64 ((IntKind.wrap .i64 (0 - a0)) - a0)) - 1))]) (dst := some 17) (k' := (K71 11110 6)) [17] [] hP enters_70 (spliceref01_Num.says (IntKind.wrap .i64 ((IntKind.wrap .i64 ((IntKind.wrap .i64 (0 - a0)) - a0)) - 1)) h4) (by kernel_rfl) (hands_none _) (.cons (pass_d _) .nil) (st' := ⟨18, [(17, .s v2)], []⟩) (by kernel_rfl) ?_
      refine goK hT 2 (K71 1111 1) ⟨18, [(2, .s v2)], []⟩ ?_
      obtain rfl := retC H
      exact ak_ret hf hX (av := .s v2) (by kernel_rfl) [] (sel_of_eq (by kernel_rfl)) (by decide) (by rw [h0]; rfl) (by kernel_rfl) (fun _ h => all_nil h) (.d (.v _))
  · replace H := iF c1 H
    rw [boF c1]
    refine goK hT 5 (K71 11010 1) ⟨18, [(2, .s (⟨#[]⟩ : ByteArray))], []⟩ ?_
    obtain rfl := retC H
    exact ak_ret hf hX (av := .s (⟨#[]⟩ : ByteArray)) (by kernel_rfl) [] (sel_of_eq (by kernel_rfl)) (by decide) (by rw [h0]; rfl) (by kernel_rfl) (fun _ h => all_nil h) (.d (.v _))


theorem spliceref05_Text.says {t0 : Bool} (a0 : List spliceref04_Pair) {r : ByteArray} (H : spliceref05_Text a0 = some r) : Says Try.prog 34 [] [.d (eL90 t0 a0)] [] (.s r) := by
  refine says_of Try.func34 rfl (nt := 33) rfl (Nat.le_of_ble_eq_true rfl) fun X hP h0 hX => ?_
  have hT : TabOk X.P T := hP ▸ tok
  have hf : X.P.funcs[34]? = some Try.f34 := hP ▸ Try.func34
  refine goK hT 8 (K34 1100 1) ⟨33, [(0, .d (eL90 t0 a0)), (5, .d (eL90 t0 a0))], []⟩ ?_
  obtain ⟨v1, h1, H⟩ := ibC H
  refine ak_callP (avs := [.d (eL90 t0 a0)]) (dst := some 6) (k' := (K34 1100 2)) [0, 6] [] hP enters_28 (spliceref05_Check.says (t0 := t0) a0 h1) (by kernel_rfl) (hands_none _) (.cons (pass_d _) .nil) (st' := ⟨33, [(0, .d (eL90 t0 a0)), (6, .b v1)], []⟩) (by kernel_rfl) ?_
  refine goK hT 2 (K34 110 1) ⟨33, [(0, .d (eL90 t0 a0)), (7, .b (!v1))], []⟩ ?_
  by_cases c2 : v1 = true
  · replace H := iT c2 H
    rw [c2]
    refine goK hT 2 (K34 11 1) ⟨33, [(0, .d (eL90 t0 a0))], []⟩ ?_
    refine goK hT 4 (K34 1110 2) ⟨33, [(0, .d (eL90 t0 a0)), (9, .i (a0.length : Int))], []⟩ ?_
    obtain ⟨v2, h3, H⟩ := ibC H
    refine ak_callP (avs := [.i (a0.length : Int)]) (dst := some 10) (k' := (K34 1110 3)) [0, 10] [] hP enters_70 (spliceref01_Num.says (a0.length : Int) h3) (by kernel_rfl) (hands_none _) (.cons (pass_d _) .nil) (st' := ⟨33, [(0, .d (eL90 t0 a0)), (10, .s v2)], []⟩) (by kernel_rfl) ?_
    refine goK hT 9 (K34 1111010 0) ⟨33, [(0, .d (eL90 t0 a0)), (3, .s v2), (4, .i 0)], []⟩ ?_
    have L : ∀ n, (∀ (x1_3 : ByteArray) (x1_4 : Int), iter (spliceref05_Text.step a0) n (.l1 x1_3 x1_4) = some r → AK X 34 ((K34 1111010 0)) (Back X [] (.s r)) ⟨33, [(0, .d (eL90 t0 a0)), (3, .s x1_3), (4, .i x1_4)], []⟩) := by
      intro n
      induction n with
      | zero => exact fun _ _ H => iter0 H
      | succ n ih =>
        · intro x1_3 x1_4 H
          refine goK hT 8 (K34 111101000 1) ⟨33, [(0, .d (eL90 t0 a0)), (3, .s x1_3), (4, .i x1_4), (14, .b (decide (x1_4 < (a0.length : Int))))], []⟩ ?_
          by_cases c4 : x1_4 < (a0.length : Int)
          · replace H := sT c4 H
            rw [decide_eq_true c4]
            refine goK hT 2 (K34 11110100 1) ⟨33, [(0, .d (eL90 t0 a0)), (3, .s x1_3), (4, .i x1_4)], []⟩ ?_
            refine goK hT 2 (K34 1111010010 0) ⟨33, [(0, .d (eL90 t0 a0)), (3, .s x1_3), (4, .i x1_4)], []⟩ ?_
            obtain ⟨h5, H⟩ := sC H
            obtain ⟨v3, h6, H⟩ := sbC H
            obtain ⟨h7, H⟩ := sC H
            obtain ⟨v4, h8, H⟩ := sbC H
            refine drawK (hP ▸ mixed) 14 [0, 3, 4] [some (.s x1_3), some (.d (eL90 t0 a0)), some (.i x1_4), some (.d (eP90 t0 a0 x1_4.toNat 0)), some (.d (eP90 t0 a0 x1_4.toNat 0)), some (.i ((a0.getD x1_4.toNat spliceref04_Pair.z).Key)), some (.s v3), some (.s (x1_3 ++ v3)), some (.d (eL90 t0 a0)), some (.i x1_4), some (.d (eP90 t0 a0 x1_4.toNat 0)), some (.d (eP90 t0 a0 x1_4.toNat 1)), some (.i ((a0.getD x1_4.toNat spliceref04_Pair.z).Val)), some (.s v4)] (opS (opG (opG (opS (opG (opG (opS (opS (opG (opG (opS (opG (opG (opG op0 hT) hT) hT) (fun R rest h => ak_idx0 hT (i := x1_4) (n := (a0.length : Int)) h5.1 h5.2 (by kernel_rfl) h)) hT) hT) (fun R rest h => ak_callD (avs := [.i ((a0.getD x1_4.toNat spliceref04_Pair.z).Key)]) (dst := some 23) hP enters_70 (spliceref01_Num.says ((a0.getD x1_4.toNat spliceref04_Pair.z).Key) h6) (by kernel_rfl) (.cons (pass_d _) .nil) (by kernel_rfl) h)) (fun R rest h => ak_cat0 x1_3 v3 (some 24) (by kernel_rfl) h7 (by kernel_rfl) h)) hT) hT) (fun R rest h => ak_idx0 hT (i := x1_4) (n := (a0.length : Int)) h5.1 h5.2 (by kernel_rfl) h)) hT) hT) (fun R rest h => ak_callD (avs := [.i ((a0.getD x1_4.toNat spliceref04_Pair.z).Val)]) (dst := some 30) hP enters_71 (spliceref01_Whole.says ((a0.getD x1_4.toNat spliceref04_Pair.z).Val) h8) (by kernel_rfl) (.cons (pass_d _) .nil) (by kernel_rfl) h)) ?_
            refine goK hT 0 (K34 11110100100 14) ⟨33, [(0, .d (eL90 t0 a0)), (4, .i x1_4), (24, .s (x1_3 ++ v3)), (30, .s v4)], []⟩ ?_
            obtain ⟨h9, H⟩ := sC H
            refine ak_cat (x1_3 ++ v3) v4 (some 31) [0, 4, 31] (k' := (K34 11110100100 15)) (by kernel_rfl) h9 (st' := ⟨33, [(0, .d (eL90 t0 a0)), (4, .i x1_4), (31, .s ((x1_3 ++ v3) ++ v4))], []⟩) (by kernel_rfl) ?_
            refine goK hT 9 (K34 1111010 0) ⟨33, [(0, .d (eL90 t0 a0)), (3, .s ((x1_3 ++ v3) ++ v4)), (4, .i (IntKind.wrap .i64 (x1_4 + 1)))], []⟩ ?_
            refine cutK [] ⟨33, [(0, .d (eL90 t0 a0)), (3, .s ((x1_3 ++ v3) ++ v4)), (4, .i (IntKind.wrap .i64 (x1_4 + 1)))], []⟩ h0 ?_
            exact ih ((x1_3 ++ v3) ++ v4) (IntKind.wrap .i64 (x1_4 + 1)) H
          · replace H := sF c4 H
            rw [decide_eq_false c4]
            refine goK hT 7 (K34 11111 1) ⟨33, [(2, .s x1_3)], []⟩ ?_
            obtain rfl := retC H
            exact ak_ret hf hX (av := .s x1_3) (by kernel_rfl) [] (sel_of_eq (by kernel_rfl)) (by decide) (by rw [h0]; rfl) (by kernel_rfl) (fun _ h => all_nil h) (.d (.v _))
    refine cutK [] ⟨33, [(0, .d (eL90 t0 a0)), (3, .s v2), (4, .i 0)], []⟩ h0 ?_
    obtain ⟨n, H⟩ := loopC H
    exact (L n) v2 0 H
  · replace H := iF c2 H
    rw [boF c2]
    refine goK hT 5 (K34 11010 1) ⟨33, [(2, .s (⟨#[]⟩ : ByteArray))], []⟩ ?_
    obtain rfl := retC H
    exact ak_ret hf hX (av := .s (⟨#[]⟩ : ByteArray)) (by kernel_rfl) [] (sel_of_eq (by kernel_rfl)) (by decide) (by rw [h0]; rfl) (by kernel_rfl) (fun _ h => all_nil h) (.d (.v _))


theorem spliceref05_Same.says {t0 : Bool} {t1 : Bool} (a0 : List spliceref04_Pair) (a1 : List spliceref04_Pair) {r : Bool} (H : spliceref05_Same a0 a1 = some r) : Says Try.prog 21 [] [.d (eL90 t0 a0), .d (eL90 t1 a1)] [] (.b r) := by
  refine says_of Try.func21 rfl (nt := 26) rfl (Nat.le_of_ble_eq_true rfl) fun X hP h0 hX => ?_
  have hT : TabOk X.P T := hP ▸ tok
  have hf : X.P.funcs[21]? = some Try.f21 := hP ▸ Try.func21
  refine goK hT 13 (K21 110 1) ⟨26, [(0, .d (eL90 t0 a0)), (1, .d (eL90 t1 a1)), (10, .b ((a0.length : Int) != (a1.length : Int)))], []⟩ ?_
  by_cases c1 : (a0.length : Int) = (a1.length : Int)
  · replace H := iT c1 H
    rw [neF c1]
    refine goK hT 2 (K21 11 1) ⟨26, [(0, .d (eL90 t0 a0)), (1, .d (eL90 t1 a1))], []⟩ ?_
    refine goK hT 7 (K21 111010 0) ⟨26, [(0, .d (eL90 t0 a0)), (1, .d (eL90 t1 a1)), (5, .i 0)], []⟩ ?_
    have L : ∀ n, (∀ (x1_5 : Int), iter (spliceref05_Same.step a0 a1) n (.l1 x1_5) = some r → AK X 21 ((K21 111010 0)) (Back X [] (.b r)) ⟨26, [(0, .d (eL90 t0 a0)), (1, .d (eL90 t1 a1)), (5, .i x1_5)], []⟩) := by
      intro n
      induction n with
      | zero => exact fun _ H => iter0 H
      | succ n ih =>
        · intro x1_5 H
          refine goK hT 8 (K21 11101000 1) ⟨26, [(0, .d (eL90 t0 a0)), (1, .d (eL90 t1 a1)), (5, .i x1_5), (14, .b (decide (x1_5 < (a0.length : Int))))], []⟩ ?_
          by_cases c2 : x1_5 < (a0.length : Int)
          · replace H := sT c2 H
            rw [decide_eq_true c2]
            refine goK hT 2 (K21 1110100 1) ⟨26, [(0, .d (eL90 t0 a0)), (1, .d (eL90 t1 a1)), (5, .i x1_5)], []⟩ ?_
            refine goK hT 3 (K21 1110100100 0) ⟨26, [(0, .d (eL90 t0 a0)), (1, .d (eL90 t1 a1)), (5, .i x1_5)], []⟩ ?_
            obtain ⟨h3, H⟩ := sC H
            obtain ⟨h4, H⟩ := sC H
            refine drawK (hP ▸ mixed) 9 [0, 1, 5] [some (.d (eL90 t0 a0)), some (.i x1_5), some (.d (eP90 t0 a0 x1_5.toNat 0)), some (.d (eG90 (a0.getD x1_5.toNat spliceref04_Pair.z))), some (.d (eL90 t1 a1)), some (.i x1_5), some (.d (eP90 t1 a1 x1_5.toNat 0)), some (.d (eG90 (a1.getD x1_5.toNat spliceref04_Pair.z))), some (.b (!((((a0.getD x1_5.toNat spliceref04_Pair.z).Key) == ((a1.getD x1_5.toNat spliceref04_Pair.z).Key)) && (((a0.getD x1_5.toNat spliceref04_Pair.z).Val) == ((a1.getD x1_5.toNat spliceref04_Pair.z).Val)))))] (opG (opG (opS (opG (opG (opG (opS (opG (opG op0 hT) hT) (fun R rest h => ak_idx0 hT (i := x1_5) (n := (a0.length : Int)) h3.1 h3.2 (by kernel_rfl) h)) hT) hT) hT) (fun R rest h => ak_idx0 hT (i := x1_5) (n := (a1.length : Int)) h4.1 h4.2 (by kernel_rfl) h)) hT) hT) ?_
            refine goK hT 1 (K21 1110100100 1) ⟨26, [(0, .d (eL90 t0 a0)), (1, .d (eL90 t1 a1)), (5, .i x1_5), (25, .b (!((((a0.getD x1_5.toNat spliceref04_Pair.z).Key) == ((a1.getD x1_5.toNat spliceref04_Pair.z).Key)) && (((a0.getD x1_5.toNat spliceref04_Pair.z).Val) == ((a1.getD x1_5.toNat spliceref04_Pair.z).Val)))))], []⟩ ?_
            by_cases c5 : ((a0.getD x1_5.toNat spliceref04_Pair.z).Key) = ((a1.getD x1_5.toNat spliceref04_Pair.z).Key)
            · replace H := sT c5 H
              rw [eqT c5]
              by_cases c6 : ((a0.getD x1_5.toNat spliceref04_Pair.z).Val) = ((a1.getD x1_5.toNat spliceref04_Pair.z).Val)
              · replace H := sT c6 H
                rw [eqT c6]
                refine goK hT 3 (K21 11101001 1) ⟨26, [(0, .d (eL90 t0 a0)), (1, .d (eL90 t1 a1)), (5, .i x1_5)], []⟩ ?_
                refine goK hT 6 (K21 111010 0) ⟨26, [(0, .d (eL90 t0 a0)), (1, .d (eL90 t1 a1)), (5, .i (IntKind.wrap .i64 (x1_5 + 1)))], []⟩ ?_
                refine cutK [] ⟨26, [(0, .d (eL90 t0 a0)), (1, .d (eL90 t1 a1)), (5, .i (IntKind.wrap .i64 (x1_5 + 1)))], []⟩ h0 ?_
                exact ih (IntKind.wrap .i64 (x1_5 + 1)) H
              · replace H := sF c6 H
                rw [eqF c6]
                refine goK hT 5 (K21 111010010010 1) ⟨26, [(4, .b false)], []⟩ ?_
                obtain rfl := retC H
                exact ak_ret hf hX (av := .b false) (by kernel_rfl) [] (sel_of_eq (by kernel_rfl)) (by decide) (by rw [h0]; rfl) (by kernel_rfl) (fun _ h => all_nil h) (.d (.v _))
            · replace H := sF c5 H
              rw [eqF c5]
              by_cases c7 : ((a0.getD x1_5.toNat spliceref04_Pair.z).Val) = ((a1.getD x1_5.toNat spliceref04_Pair.z).Val)
              · replace H := sT c7 H
                rw [eqT c7]
                refine goK hT 5 (K21 111010010010 1) ⟨26, [(4, .b false)], []⟩ ?_
                obtain rfl := retC H
                exact ak_ret hf hX (av := .b false) (by kernel_rfl) [] (sel_of_eq (by kernel_rfl)) (by decide) (by rw [h0]; rfl) (by kernel_rfl) (fun _ h => all_nil h) (.d (.v _))
              · replace H := sF c7 H
                rw [eqF c7]
                refine goK hT 5 (K21 111010010010 1) ⟨26, [(4, .b false)], []⟩ ?_
                obtain rfl := retC H
                exact ak_ret hf hX (av := .b false) (by kernel_rfl) [] (sel_of_eq (by kernel_rfl)) (by decide) (by rw [h0]; rfl) (by kernel_rfl) (fun _ h => all_nil h) (.d (.v _))
          · replace H := sF c2 H
            rw [decide_eq_false c2]
            refine goK hT 6 (K21 1111 1) ⟨26, [(4, .b true)], []⟩ ?_
            obtain rfl := retC H
            exact ak_ret hf hX (av := .b true) (by kernel_rfl) [] (sel_of_eq (by kernel_rfl)) (by decide) (by rw [h0]; rfl) (by kernel_rfl) (fun _ h => all_nil h) (.d (.v _))
    refine cutK [] ⟨26, [(0, .d (eL90 t0 a0)), (1, .d (eL90 t1 a1)), (5, .i 0)], []⟩ h0 ?_
    obtain ⟨n, H⟩ := loopC H
    exact (L n) 0 H
  · replace H := iF c1 H
    rw [neT c1]
    refine goK hT 5 (K21 11010 1) ⟨26, [(4, .b false)], []⟩ ?_
    obtain rfl := retC H
    exact ak_ret hf hX (av := .b false) (by kernel_rfl) [] (sel_of_eq (by kernel_rfl)) (by decide) (by rw [h0]; rfl) (by kernel_rfl) (fun _ h => all_nil h) (.d (.v _))


theorem splicelaw05_TableReads.says {t0 : Bool} (a0 : List api_Pair) (a1 : ByteArray) {r : Bool} (H : splicelaw05_TableReads a0 a1 = some r) : Says Try.prog 8 [] [.d (eL47 t0 a0), .s a1] [] (.b r) := by
  refine says_of Try.func8 rfl (nt := 49) rfl (Nat.le_of_ble_eq_true rfl) fun X hP h0 hX => ?_
  have hT : TabOk X.P T := hP ▸ tok
  have hf : X.P.funcs[8]? = some Try.f8 := hP ▸ Try.func8
  refine goK hT 9 (K8 1100 2) ⟨49, [(0, .d (eL47 t0 a0)), (1, .s a1), (9, .d (eL47 t0 a0)), (10, .d (.agg [.i 0, .i 0, .i 0, .ns, .i 0, .i 0, .i 0]))], []⟩ ?_
  refine ak_callP (avs := [.d (eL47 t0 a0), .d (.agg [.i 0, .i 0, .i 0, .ns, .i 0, .i 0, .i 0]), .ns]) (dst := some 11) (k' := (K8 1100 3)) [0, 1, 11] [] hP enters_14 (splicelaw05_few.says (t0 := t0) (t2 := true) a0 (⟨0, 0, 0, [], (⟨0, 0⟩ : api_Span), 0⟩ : api_Mut) ([] : List api_Span)) (by kernel_rfl) (hands_none _) (.cons (pass_d _) (.cons (.aggd (.cons (pass_d _) (.cons (pass_d _) (.cons (pass_d _) (.cons (.nil _ _) (.cons (pass_d _) (.cons (pass_d _) (.cons (pass_d _) .nil)))))))) (.cons (.nil _ _) .nil))) (st' := ⟨49, [(0, .d (eL47 t0 a0)), (1, .s a1), (11, .b (splicelaw05_few a0 (⟨0, 0, 0, [], (⟨0, 0⟩ : api_Span), 0⟩ : api_Mut) ([] : List api_Span)))], []⟩) (by kernel_rfl) ?_
  obtain ⟨v1, h1, H⟩ := idC H
  have Jj1 : ∀ (y1_17 : Bool), (splicelaw05_TableReads.j1 a0 a1 y1_17) = some r → AK X 8 ((K8 110 1)) (Back X [] (.b r)) ⟨49, [(0, .d (eL47 t0 a0)), (1, .s a1), (17, .b y1_17)], []⟩ := by
    intro y1_17 H
    by_cases c3 : y1_17 = true
    · replace H := iT c3 H
      rw [c3]
      refine goK hT 3 (K8 110100 0) ⟨49, [], []⟩ ?_
      obtain ⟨v2, h4, H⟩ := ibC H
      refine ak_callP (avs := []) (dst := some 18) (k' := (K8 110100 1)) [18] [] hP enters_15 (splicelaw05_awake.says h4) (by kernel_rfl) (hands_none _) .nil (st' := ⟨49, [(18, .b v2)], []⟩) (by kernel_rfl) ?_
      refine goK hT 2 (K8 11010 1) ⟨49, [(4, .b v2)], []⟩ ?_
      obtain rfl := retC H
      exact ak_ret hf hX (av := .b v2) (by kernel_rfl) [] (sel_of_eq (by kernel_rfl)) (by decide) (by rw [h0]; rfl) (by kernel_rfl) (fun _ h => all_nil h) (.d (.v _))
    · replace H := iF c3 H
      rw [boF c3]
      refine goK hT 2 (K8 11 1) ⟨49, [(0, .d (eL47 t0 a0)), (1, .s a1)], []⟩ ?_
      refine goK hT 3 (K8 1110 1) ⟨49, [(0, .d (eL47 t0 a0)), (1, .s a1), (20, .s a1)], []⟩ ?_
      obtain ⟨v3, h5, H⟩ := ibC H
      refine ak_callP (avs := [.s a1]) (dst := some 21) (k' := (K8 1110 2)) [0, 1, 21] [] hP enters_31 (table_Read.says a1 h5) (by kernel_rfl) (hands_none _) (.cons (pass_d _) .nil) (st' := ⟨49, [(0, .d (eL47 t0 a0)), (1, .s a1), (21, .tup [.own 0 2 0 v3.1.length, .i v3.2])], [eR47 v3.1]⟩) (by kernel_rfl) ?_
      refine goK hT 9 (K8 11110 1) ⟨49, [(0, .d (eL47 t0 a0)), (5, .own 0 2 0 v3.1.length), (6, .i v3.2), (25, .s a1)], [eR47 v3.1]⟩ ?_
      obtain ⟨v4, h6, H⟩ := ibC H
      refine ak_callP (avs := [.s a1]) (dst := some 26) (k' := (K8 11110 2)) [0, 5, 6, 26] [] hP enters_32 (spliceref05_Read.says a1 h6) (by kernel_rfl) (hands_none _) (.cons (pass_d _) .nil) (st' := ⟨49, [(0, .d (eL47 t0 a0)), (5, .own 0 2 0 v3.1.length), (6, .i v3.2), (26, .tup [.own 1 2 0 v4.1.length, .i v4.2])], [eR47 v3.1, eR90 v4.1]⟩) (by kernel_rfl) ?_
      refine goK hT 8 (K8 111110 0) ⟨49, [(0, .d (eL47 t0 a0)), (5, .own 0 2 0 v3.1.length), (6, .i v3.2), (7, .own 1 2 0 v4.1.length), (8, .i v4.2)], [eR47 v3.1, eR90 v4.1]⟩ ?_
      obtain ⟨v5, h7, H⟩ := ibC H
      have Jj2 : ∀ (y2_4 : Bool), (splicelaw05_TableReads.j2 y2_4) = some r → AK X 8 ((K8 11111 1)) (Back X [] (.b r)) ⟨49, [(4, .b y2_4)], []⟩ := by
        intro y2_4 H
        obtain rfl := retC H
        exact ak_ret hf hX (av := .b y2_4) (by kernel_rfl) [] (sel_of_eq (by kernel_rfl)) (by decide) (by rw [h0]; rfl) (by kernel_rfl) (fun _ h => all_nil h) (.d (.v _))
      refine ak_callP (avs := []) (dst := some 29) (k' := (K8 111110 1)) [0, 5, 6, 7, 8, 29] [] hP enters_15 (splicelaw05_awake.says h7) (by kernel_rfl) (hands_none _) .nil (st' := ⟨49, [(0, .d (eL47 t0 a0)), (5, .own 0 2 0 v3.1.length), (6, .i v3.2), (7, .own 1 2 0 v4.1.length), (8, .i v4.2), (29, .b v5)], [eR47 v3.1, eR90 v4.1]⟩) (by kernel_rfl) ?_
      refine goK hT 1 (K8 111110 2) ⟨49, [(0, .d (eL47 t0 a0)), (5, .own 0 2 0 v3.1.length), (6, .i v3.2), (7, .own 1 2 0 v4.1.length), (8, .i v4.2), (30, .b v5)], [eR47 v3.1, eR90 v4.1]⟩ ?_
      by_cases c8 : v5 = true
      · replace H := iT c8 H
        rw [c8]
        refine goK hT 1 (K8 111110 3) ⟨49, [(0, .d (eL47 t0 a0)), (5, .own 0 2 0 v3.1.length), (6, .i v3.2), (7, .own 1 2 0 v4.1.length), (8, .i v4.2), (30, .b true), (31, .d (eL47 t0 a0))], [eR47 v3.1, eR90 v4.1]⟩ ?_
        obtain ⟨v6, h9, H⟩ := ibC H
        refine ak_callP (avs := [.d (eL47 t0 a0)]) (dst := some 32) (k' := (K8 111110 4)) [0, 5, 6, 7, 8, 30, 32] [] hP enters_33 (table_Text.says (t0 := t0) a0 h9) (by kernel_rfl) (hands_none _) (.cons (pass_d _) .nil) (st' := ⟨49, [(0, .d (eL47 t0 a0)), (5, .own 0 2 0 v3.1.length), (6, .i v3.2), (7, .own 1 2 0 v4.1.length), (8, .i v4.2), (30, .b true), (32, .s v6)], [eR47 v3.1, eR90 v4.1]⟩) (by kernel_rfl) ?_
        refine goK hT 1 (K8 111110 5) ⟨49, [(5, .own 0 2 0 v3.1.length), (6, .i v3.2), (7, .own 1 2 0 v4.1.length), (8, .i v4.2), (30, .b true), (32, .s v6), (33, .d (eL47 t0 a0))], [eR47 v3.1, eR90 v4.1]⟩ ?_
        obtain ⟨v7, h10, H⟩ := ibC H
        refine ak_callP (avs := [.d (eL47 t0 a0)]) (dst := some 34) (k' := (K8 111110 6)) [5, 6, 7, 8, 30, 32, 34] [] hP enters_18 (splicelaw05_Refs.says (t0 := t0) a0 h10) (by kernel_rfl) (hands_none _) (.cons (pass_d _) .nil) (st' := ⟨49, [(5, .own 0 2 0 v3.1.length), (6, .i v3.2), (7, .own 1 2 0 v4.1.length), (8, .i v4.2), (30, .b true), (32, .s v6), (34, .own 2 2 0 v7.length)], [eR47 v3.1, eR90 v4.1, eR90 v7]⟩) (by kernel_rfl) ?_
        obtain ⟨v8, h11, H⟩ := ibC H
        refine ak_callP (avs := [.own 2 2 0 v7.length]) (dst := some 35) (k' := (K8 111110 7)) [5, 6, 7, 8, 30, 32, 35] [] hP enters_34 (spliceref05_Text.says (t0 := false) v7 h11) (by kernel_rfl) (hands_none _) (.cons (.lend (ty := 90) (by kernel_rfl) rfl) .nil) (st' := ⟨49, [(5, .own 0 2 0 v3.1.length), (6, .i v3.2), (7, .own 1 2 0 v4.1.length), (8, .i v4.2), (30, .b true), (32, .s v6), (35, .s v8)], [eR47 v3.1, eR90 v4.1, eR90 v7]⟩) (by kernel_rfl) ?_
        refine goK hT 3 (K8 111110 10) ⟨49, [(5, .own 0 2 0 v3.1.length), (6, .i v3.2), (7, .own 1 2 0 v4.1.length), (8, .i v4.2), (38, .b (v6.toList == v8.toList))], [eR47 v3.1, eR90 v4.1, eR90 v7]⟩ ?_
        by_cases c12 : (v6.toList == v8.toList) = true
        · replace H := iT c12 H
          rw [c12]
          refine goK hT 1 (K8 111110 11) ⟨49, [(6, .i v3.2), (7, .own 1 2 0 v4.1.length), (8, .i v4.2), (38, .b true), (39, .own 0 2 0 v3.1.length)], [eR47 v3.1, eR90 v4.1, eR90 v7]⟩ ?_
          obtain ⟨v9, h13, H⟩ := ibC H
          refine ak_callP (avs := [.own 0 2 0 v3.1.length]) (dst := some 40) (k' := (K8 111110 12)) [6, 7, 8, 38, 40] [] hP enters_18 (splicelaw05_Refs.says (t0 := false) v3.1 h13) (by kernel_rfl) (hands_none _) (.cons (.lend (ty := 47) (by kernel_rfl) rfl) .nil) (st' := ⟨49, [(6, .i v3.2), (7, .own 1 2 0 v4.1.length), (8, .i v4.2), (38, .b true), (40, .own 3 2 0 v9.length)], [eR47 v3.1, eR90 v4.1, eR90 v7, eR90 v9]⟩) (by kernel_rfl) ?_
          refine goK hT 1 (K8 111110 13) ⟨49, [(6, .i v3.2), (8, .i v4.2), (38, .b true), (40, .own 3 2 0 v9.length), (41, .own 1 2 0 v4.1.length)], [eR47 v3.1, eR90 v4.1, eR90 v7, eR90 v9]⟩ ?_
          obtain ⟨v10, h14, H⟩ := ibC H
          refine ak_callP (avs := [.own 3 2 0 v9.length, .own 1 2 0 v4.1.length]) (dst := some 42) (k' := (K8 111110 14)) [6, 8, 38, 42] [] hP enters_21 (spliceref05_Same.says (t0 := false) (t1 := false) v9 v4.1 h14) (by kernel_rfl) (hands_none _) (.cons (.lend (ty := 90) (by kernel_rfl) rfl) (.cons (.lend (ty := 90) (by kernel_rfl) rfl) .nil)) (st' := ⟨49, [(6, .i v3.2), (8, .i v4.2), (38, .b true), (42, .b v10)], [eR47 v3.1, eR90 v4.1, eR90 v7, eR90 v9]⟩) (by kernel_rfl) ?_
          refine goK hT 2 (K8 111110 16) ⟨49, [(6, .i v3.2), (8, .i v4.2), (44, .b v10)], [eR47 v3.1, eR90 v4.1, eR90 v7, eR90 v9]⟩ ?_
          by_cases c15 : v10 = true
          · replace H := iT c15 H
            rw [c15]
            refine goK hT 6 (K8 11111 1) ⟨49, [(4, .b (v3.2 == v4.2))], [eR47 v3.1, eR90 v4.1, eR90 v7, eR90 v9]⟩ ?_
            refine cutK [] ⟨49, [(4, .b (v3.2 == v4.2))], []⟩ h0 ?_
            exact Jj2 (v3.2 == v4.2) H
          · replace H := iF c15 H
            rw [boF c15]
            refine goK hT 6 (K8 11111 1) ⟨49, [(4, .b false)], [eR47 v3.1, eR90 v4.1, eR90 v7, eR90 v9]⟩ ?_
            refine cutK [] ⟨49, [(4, .b false)], []⟩ h0 ?_
            exact Jj2 false H
        · replace H := iF c12 H
          rw [boF c12]
          refine goK hT 12 (K8 11111 1) ⟨49, [(4, .b false)], [eR47 v3.1, eR90 v4.1, eR90 v7]⟩ ?_
          refine cutK [] ⟨49, [(4, .b false)], []⟩ h0 ?_
          exact Jj2 false H
      · replace H := iF c8 H
        rw [boF c8]
        refine goK hT 20 (K8 11111 1) ⟨49, [(4, .b false)], [eR47 v3.1, eR90 v4.1]⟩ ?_
        refine cutK [] ⟨49, [(4, .b false)], []⟩ h0 ?_
        exact Jj2 false H
  rw [← h1]
  refine goK hT 2 (K8 1100 5) ⟨49, [(0, .d (eL47 t0 a0)), (1, .s a1), (13, .b (!v1))], []⟩ ?_
  by_cases c2 : v1 = true
  · replace H := iT c2 H
    rw [c2]
    refine goK hT 5 (K8 110 1) ⟨49, [(0, .d (eL47 t0 a0)), (1, .s a1), (17, .b (decide ((a1.size : Int) > 5000)))], []⟩ ?_
    refine cutK [] ⟨49, [(0, .d (eL47 t0 a0)), (1, .s a1), (17, .b (decide ((a1.size : Int) > 5000)))], []⟩ h0 ?_
    exact Jj1 (decide ((a1.size : Int) > 5000)) H
  · replace H := iF c2 H
    rw [boF c2]
    refine goK hT 5 (K8 110 1) ⟨49, [(0, .d (eL47 t0 a0)), (1, .s a1), (17, .b true)], []⟩ ?_
    refine cutK [] ⟨49, [(0, .d (eL47 t0 a0)), (1, .s a1), (17, .b true)], []⟩ h0 ?_
    exact Jj1 true H
end Go.SyP
