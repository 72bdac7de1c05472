/- Certificates, printed by gen.py. -/
import Derived.Test.YtbhipajnkkjceaaG04Cp0
set_option linter.unusedVariables false
set_option linter.unusedSimpArgs false
namespace Go.SyP
open Go Go.Sy Go.Proofs


theorem spliceref01_Reader_End.says (a0 : spliceref01_Reader) : Says Try.prog 60 [] [.d (eG97 a0)] [] (.i (spliceref01_Reader_End a0)) := by
  obtain ⟨r, H⟩ : ∃ r, spliceref01_Reader_End a0 = r := ⟨_, rfl⟩
  rw [H]
  refine says_of Try.func60 rfl (nt := 13) rfl (Nat.le_of_ble_eq_true rfl) fun X hP h0 hX => ?_
  have hT : TabOk X.P T := hP ▸ tok
  have hf : X.P.funcs[60]? = some Try.f60 := hP ▸ Try.func60
  have Jj1 : ∀ (y1_10 : Bool), (spliceref01_Reader_End.j1 a0 y1_10) = r → AK X 60 ((K60 110 1)) (Back X [] (.i r)) ⟨13, [(1, .ptr 0 0 0 0), (10, .b y1_10)], [.box 97 (eC97 a0)]⟩ := by
    intro y1_10 H
    by_cases c2 : y1_10 = true
    · replace H := iT c2 H
      rw [c2]
      refine goK hT 5 (K60 11010 1) ⟨13, [(2, .i 2)], [.box 97 (eC97 a0)]⟩ ?_
      obtain rfl := H
      exact ak_ret hf hX (av := .i 2) (by kernel_rfl) [] (sel_of_eq (by kernel_rfl)) (by decide) (by rw [h0]; rfl) (by kernel_rfl) (fun _ h => all_nil h) (.d (.v _))
    · replace H := iF c2 H
      rw [boF c2]
      refine goK hT 2 (K60 11 1) ⟨13, [(1, .ptr 0 0 0 0)], [.box 97 (eC97 a0)]⟩ ?_
      refine goK hT 6 (K60 111 1) ⟨13, [(2, .i a0.E)], [.box 97 (eC97 a0)]⟩ ?_
      obtain rfl := H
      exact ak_ret hf hX (av := .i a0.E) (by kernel_rfl) [] (sel_of_eq (by kernel_rfl)) (by decide) (by rw [h0]; rfl) (by kernel_rfl) (fun _ h => all_nil h) (.d (.v _))
  refine goK hT 12 (K60 1100 4) ⟨13, [(1, .ptr 0 0 0 0), (6, .b (a0.E == 0))], [.box 97 (eC97 a0)]⟩ ?_
  by_cases c1 : a0.E = 0
  · replace H := iT c1 H
    rw [eqT c1]
    refine goK hT 5 (K60 110 1) ⟨13, [(1, .ptr 0 0 0 0), (10, .b (!(a0.S.toList == (⟨#[]⟩ : ByteArray).toList)))], [.box 97 (eC97 a0)]⟩ ?_
    refine cutK [0] ⟨13, [(1, .ptr 0 0 0 0), (10, .b (!(a0.S.toList == (⟨#[]⟩ : ByteArray).toList)))], [.box 97 (eC97 a0)]⟩ h0 ?_
    exact Jj1 (!(a0.S.toList == (⟨#[]⟩ : ByteArray).toList)) H
  · replace H := iF c1 H
    rw [eqF c1]
    refine goK hT 5 (K60 110 1) ⟨13, [(1, .ptr 0 0 0 0), (10, .b false)], [.box 97 (eC97 a0)]⟩ ?_
    refine cutK [0] ⟨13, [(1, .ptr 0 0 0 0), (10, .b false)], [.box 97 (eC97 a0)]⟩ h0 ?_
    exact Jj1 false H


theorem spliceref04_Read.says (a0 : ByteArray) {r : spliceref04_Mut × Int} (H : spliceref04_Read a0 = some r) : Says Try.prog 34 [] [.s a0] [] (.tup [.d (eG34 r.1), .i r.2]) := by
  refine says_of Try.func34 rfl (nt := 124) rfl (Nat.le_of_ble_eq_true rfl) fun X hP h0 hX => ?_
  have hT : TabOk X.P T := hP ▸ tok
  have hf : X.P.funcs[34]? = some Try.f34 := hP ▸ Try.func34
  refine goK hT 23 (K34 111110 1) ⟨124, [(2, .ptr 0 0 0 0), (4, .ptr 1 0 0 0), (6, .ptr 2 0 0 0), (25, .d (.agg [.s a0, .i 0]))], [.box 34 [.i 0, .i 0, .i 0, .ns, .i 0, .i 0, .i 0], .box 34 [.i 0, .i 0, .i 0, .ns, .i 0, .i 0, .i 0], .box 97 [.s a0, .i 0]]⟩ ?_
  obtain ⟨v1, h1, H⟩ := ibC H
  refine ak_callP (avs := [.d (.agg [.s a0, .i 0])]) (dst := some 26) (k' := (K34 111110 2)) [2, 4, 6, 26] [] hP enters_58 (spliceref01_Reader_Num.says (⟨a0, 0⟩ : spliceref01_Reader) h1) (by kernel_rfl) (hands_none _) (.cons (pass_d _) .nil) (st' := ⟨124, [(2, .ptr 0 0 0 0), (4, .ptr 1 0 0 0), (6, .ptr 2 0 0 0), (26, .tup [.d (eG97 v1.1), .i v1.2])], [.box 34 [.i 0, .i 0, .i 0, .ns, .i 0, .i 0, .i 0], .box 34 [.i 0, .i 0, .i 0, .ns, .i 0, .i 0, .i 0], .box 97 [.s a0, .i 0]]⟩) (by kernel_rfl) ?_
  refine goK hT 21 (K34 111111110 1) ⟨124, [(2, .ptr 0 0 0 0), (4, .ptr 1 0 0 0), (6, .ptr 2 0 0 0), (33, .d (eG97 v1.1))], [.box 34 [.i 0, .i 0, .i 0, .ns, .i 0, .i 0, .i 0], .box 34 [.i v1.2, .i 0, .i 0, .ns, .i 0, .i 0, .i 0], .box 97 (eC97 v1.1), .box 97 (eC97 v1.1)]⟩ ?_
  obtain ⟨v2, h2, H⟩ := ibC H
  refine ak_callP (avs := [.d (eG97 v1.1)]) (dst := some 34) (k' := (K34 111111110 2)) [2, 4, 6, 34] [] hP enters_58 (spliceref01_Reader_Num.says v1.1 h2) (by kernel_rfl) (hands_none _) (.cons (pass_d _) .nil) (st' := ⟨124, [(2, .ptr 0 0 0 0), (4, .ptr 1 0 0 0), (6, .ptr 2 0 0 0), (34, .tup [.d (eG97 v2.1), .i v2.2])], [.box 34 [.i 0, .i 0, .i 0, .ns, .i 0, .i 0, .i 0], .box 34 [.i v1.2, .i 0, .i 0, .ns, .i 0, .i 0, .i 0], .box 97 (eC97 v1.1), .box 97 (eC97 v1.1)]⟩) (by kernel_rfl) ?_
  refine goK hT 21 (K34 111111111110 1) ⟨124, [(2, .ptr 0 0 0 0), (4, .ptr 1 0 0 0), (6, .ptr 2 0 0 0), (41, .d (eG97 v2.1))], [.box 34 [.i 0, .i 0, .i 0, .ns, .i 0, .i 0, .i 0], .box 34 [.i v1.2, .i v2.2, .i 0, .ns, .i 0, .i 0, .i 0], .box 97 (eC97 v2.1), .box 97 (eC97 v1.1), .box 97 (eC97 v2.1)]⟩ ?_
  obtain ⟨v3, h3, H⟩ := ibC H
  refine ak_callP (avs := [.d (eG97 v2.1)]) (dst := some 42) (k' := (K34 111111111110 2)) [2, 4, 6, 42] [] hP enters_58 (spliceref01_Reader_Num.says v2.1 h3) (by kernel_rfl) (hands_none _) (.cons (pass_d _) .nil) (st' := ⟨124, [(2, .ptr 0 0 0 0), (4, .ptr 1 0 0 0), (6, .ptr 2 0 0 0), (42, .tup [.d (eG97 v3.1), .i v3.2])], [.box 34 [.i 0, .i 0, .i 0, .ns, .i 0, .i 0, .i 0], .box 34 [.i v1.2, .i v2.2, .i 0, .ns, .i 0, .i 0, .i 0], .box 97 (eC97 v2.1), .box 97 (eC97 v1.1), .box 97 (eC97 v2.1)]⟩) (by kernel_rfl) ?_
  refine goK hT 21 (K34 111111111111110 1) ⟨124, [(2, .ptr 0 0 0 0), (4, .ptr 1 0 0 0), (6, .ptr 2 0 0 0), (49, .d (eG97 v3.1))], [.box 34 [.i 0, .i 0, .i 0, .ns, .i 0, .i 0, .i 0], .box 34 [.i v1.2, .i v2.2, .i v3.2, .ns, .i 0, .i 0, .i 0], .box 97 (eC97 v3.1), .box 97 (eC97 v1.1), .box 97 (eC97 v2.1), .box 97 (eC97 v3.1)]⟩ ?_
  obtain ⟨v4, h4, H⟩ := ibC H
  refine ak_callP (avs := [.d (eG97 v3.1)]) (dst := some 50) (k' := (K34 111111111111110 2)) [2, 4, 6, 50] [] hP enters_58 (spliceref01_Reader_Num.says v3.1 h4) (by kernel_rfl) (hands_none _) (.cons (pass_d _) .nil) (st' := ⟨124, [(2, .ptr 0 0 0 0), (4, .ptr 1 0 0 0), (6, .ptr 2 0 0 0), (50, .tup [.d (eG97 v4.1), .i v4.2])], [.box 34 [.i 0, .i 0, .i 0, .ns, .i 0, .i 0, .i 0], .box 34 [.i v1.2, .i v2.2, .i v3.2, .ns, .i 0, .i 0, .i 0], .box 97 (eC97 v3.1), .box 97 (eC97 v1.1), .box 97 (eC97 v2.1), .box 97 (eC97 v3.1)]⟩) (by kernel_rfl) ?_
  refine goK hT 13 (K34 111111111111111010 0) ⟨124, [(2, .ptr 0 0 0 0), (4, .ptr 1 0 0 0), (5, .i v4.2), (6, .ptr 2 0 0 0), (13, .i 0)], [.box 34 [.i 0, .i 0, .i 0, .ns, .i 0, .i 0, .i 0], .box 34 [.i v1.2, .i v2.2, .i v3.2, .ns, .i 0, .i 0, .i 0], .box 97 (eC97 v4.1), .box 97 (eC97 v1.1), .box 97 (eC97 v2.1), .box 97 (eC97 v3.1)]⟩ ?_
  refine ak_nilBox (tb := 34) (cs := [.i v1.2, .i v2.2, .i v3.2, .ns, .i 0, .i 0, .i 0]) 1 3 2 79 (vec spliceref04_Pair.e spliceref04_Pair.z []) (st' := ⟨124, [(2, .ptr 0 0 0 0), (4, .ptr 1 0 0 0), (5, .i v4.2), (6, .ptr 2 0 0 0), (13, .i 0)], [.box 34 [.i 0, .i 0, .i 0, .ns, .i 0, .i 0, .i 0], .box 34 [.i v1.2, .i v2.2, .i v3.2, .own 6 2 0 0, .i 0, .i 0, .i 0], .box 97 (eC97 v4.1), .box 97 (eC97 v1.1), .box 97 (eC97 v2.1), .box 97 (eC97 v3.1), eR79 ([] : List spliceref04_Pair)]⟩) (by kernel_rfl) (by kernel_rfl) ?_
  have L : ∀ n, (∀ (x1_13 : Int) (x1_r2 : List spliceref04_Pair) (x1_b3_0 : ByteArray) (x1_b3_1 : Int), iter (spliceref04_Read.step v1 v2 v3 v4) n (.l1 x1_13 x1_r2 x1_b3_0 x1_b3_1) = some r → AK X 34 ((K34 111111111111111010 0)) (Back X [] (.tup [.d (eG34 r.1), .i r.2])) ⟨124, [(2, .ptr 0 0 0 0), (4, .ptr 1 0 0 0), (5, .i v4.2), (6, .ptr 3 0 0 0), (13, .i x1_13)], [.box 34 [.i 0, .i 0, .i 0, .ns, .i 0, .i 0, .i 0], .box 34 [.i v1.2, .i v2.2, .i v3.2, .own 2 2 0 x1_r2.length, .i 0, .i 0, .i 0], eR79 x1_r2, .box 97 [.s x1_b3_0, .i x1_b3_1]]⟩) := by
    intro n
    induction n with
    | zero => exact fun _ _ _ _ H => iter0 H
    | succ n ih =>
      · intro x1_13 x1_r2 x1_b3_0 x1_b3_1 H
        have Jj1 : ∀ (y1_60 : Bool), stk (spliceref04_Read.j1 v1 v2 v3 x1_13 x1_r2 x1_b3_0 x1_b3_1 y1_60) (iter (spliceref04_Read.step v1 v2 v3 v4) n) = some r → AK X 34 ((K34 11111111111111101000 1)) (Back X [] (.tup [.d (eG34 r.1), .i r.2])) ⟨124, [(2, .ptr 0 0 0 0), (4, .ptr 1 0 0 0), (5, .i v4.2), (6, .ptr 3 0 0 0), (13, .i x1_13), (60, .b y1_60)], [.box 34 [.i 0, .i 0, .i 0, .ns, .i 0, .i 0, .i 0], .box 34 [.i v1.2, .i v2.2, .i v3.2, .own 2 2 0 x1_r2.length, .i 0, .i 0, .i 0], eR79 x1_r2, .box 97 [.s x1_b3_0, .i x1_b3_1]]⟩ := by
          intro y1_60 H
          by_cases c6 : y1_60 = true
          · replace H := sT c6 H
            rw [c6]
            refine goK hT 2 (K34 1111111111111110100 1) ⟨124, [(2, .ptr 0 0 0 0), (4, .ptr 1 0 0 0), (5, .i v4.2), (6, .ptr 3 0 0 0), (13, .i x1_13)], [.box 34 [.i 0, .i 0, .i 0, .ns, .i 0, .i 0, .i 0], .box 34 [.i v1.2, .i v2.2, .i v3.2, .own 2 2 0 x1_r2.length, .i 0, .i 0, .i 0], eR79 x1_r2, .box 97 [.s x1_b3_0, .i x1_b3_1]]⟩ ?_
            refine goK hT 10 (K34 111111111111111010010010 1) ⟨124, [(2, .ptr 0 0 0 0), (4, .ptr 1 0 0 0), (5, .i v4.2), (6, .ptr 3 0 0 0), (13, .i x1_13), (64, .d (.agg [.s x1_b3_0, .i x1_b3_1]))], [.box 34 [.i 0, .i 0, .i 0, .ns, .i 0, .i 0, .i 0], .box 34 [.i v1.2, .i v2.2, .i v3.2, .own 2 2 0 x1_r2.length, .i 0, .i 0, .i 0], eR79 x1_r2, .box 97 [.s x1_b3_0, .i x1_b3_1]]⟩ ?_
            obtain ⟨v10, h16, H⟩ := sbC H
            refine ak_callP (avs := [.d (.agg [.s x1_b3_0, .i x1_b3_1])]) (dst := some 65) (k' := (K34 111111111111111010010010 2)) [2, 4, 5, 6, 13, 65] [] hP enters_58 (spliceref01_Reader_Num.says (⟨x1_b3_0, x1_b3_1⟩ : spliceref01_Reader) h16) (by kernel_rfl) (hands_none _) (.cons (pass_d _) .nil) (st' := ⟨124, [(2, .ptr 0 0 0 0), (4, .ptr 1 0 0 0), (5, .i v4.2), (6, .ptr 3 0 0 0), (13, .i x1_13), (65, .tup [.d (eG97 v10.1), .i v10.2])], [.box 34 [.i 0, .i 0, .i 0, .ns, .i 0, .i 0, .i 0], .box 34 [.i v1.2, .i v2.2, .i v3.2, .own 2 2 0 x1_r2.length, .i 0, .i 0, .i 0], eR79 x1_r2, .box 97 [.s x1_b3_0, .i x1_b3_1]]⟩) (by kernel_rfl) ?_
            refine goK hT 9 (K34 1111111111111110100100110 1) ⟨124, [(2, .ptr 0 0 0 0), (4, .ptr 1 0 0 0), (5, .i v4.2), (6, .ptr 3 0 0 0), (13, .i x1_13), (14, .i v10.2), (69, .d (eG97 v10.1))], [.box 34 [.i 0, .i 0, .i 0, .ns, .i 0, .i 0, .i 0], .box 34 [.i v1.2, .i v2.2, .i v3.2, .own 2 2 0 x1_r2.length, .i 0, .i 0, .i 0], eR79 x1_r2, .box 97 (eC97 v10.1)]⟩ ?_
            obtain ⟨v11, h17, H⟩ := sbC H
            refine ak_callP (avs := [.d (eG97 v10.1)]) (dst := some 70) (k' := (K34 1111111111111110100100110 2)) [2, 4, 5, 6, 13, 14, 70] [] hP enters_59 (spliceref01_Reader_Whole.says v10.1 h17) (by kernel_rfl) (hands_none _) (.cons (pass_d _) .nil) (st' := ⟨124, [(2, .ptr 0 0 0 0), (4, .ptr 1 0 0 0), (5, .i v4.2), (6, .ptr 3 0 0 0), (13, .i x1_13), (14, .i v10.2), (70, .tup [.d (eG97 v11.1), .i v11.2])], [.box 34 [.i 0, .i 0, .i 0, .ns, .i 0, .i 0, .i 0], .box 34 [.i v1.2, .i v2.2, .i v3.2, .own 2 2 0 x1_r2.length, .i 0, .i 0, .i 0], eR79 x1_r2, .box 97 (eC97 v10.1)]⟩) (by kernel_rfl) ?_
            refine goK hT 13 (K34 1111111111111110100100111 6) ⟨124, [(2, .ptr 0 0 0 0), (4, .ptr 1 0 0 0), (5, .i v4.2), (6, .ptr 3 0 0 0), (13, .i x1_13), (74, .own 2 2 0 x1_r2.length), (78, .own 4 2 0 1)], [.box 34 [.i 0, .i 0, .i 0, .ns, .i 0, .i 0, .i 0], .box 34 [.i v1.2, .i v2.2, .i v3.2, .own 2 2 0 x1_r2.length, .i 0, .i 0, .i 0], eR79 x1_r2, .box 97 (eC97 v11.1), .flat false 2 79 1 (fun j => [[.i v10.2, .i v11.2]].getD j [])]⟩ ?_
            obtain ⟨h18, H⟩ := sC H
            refine ak_append1 (id := 2) (kk := 2) (by' := 16) (t := 31) (e := 79) (z := [.int .i64 0, .int .i64 0]) (dst := some 79) (id2 := 4) (e2 := 79) (fz := false) (k' := (K34 1111111111111110100100111 7)) hT spliceref04_Pair.e spliceref04_Pair.z x1_r2 (⟨v10.2, v11.2⟩ : spliceref04_Pair) [2, 4, 5, 6, 13, 79] (by kernel_rfl) (by kernel_rfl) (by kernel_rfl) (by kernel_rfl) (by kernel_rfl) (by kernel_rfl) (by kernel_rfl) h18 (by omega) (st' := ⟨124, [(2, .ptr 0 0 0 0), (4, .ptr 1 0 0 0), (5, .i v4.2), (6, .ptr 3 0 0 0), (13, .i x1_13), (79, .own 5 2 0 ((x1_r2 ++ [(⟨v10.2, v11.2⟩ : spliceref04_Pair)]).length))], [.box 34 [.i 0, .i 0, .i 0, .ns, .i 0, .i 0, .i 0], .box 34 [.i v1.2, .i v2.2, .i v3.2, .own 2 2 0 x1_r2.length, .i 0, .i 0, .i 0], .gone, .box 97 (eC97 v11.1), .flat false 2 79 1 (fun j => [[.i v10.2, .i v11.2]].getD j []), eR79 (x1_r2 ++ [(⟨v10.2, v11.2⟩ : spliceref04_Pair)])]⟩) (by kernel_rfl) ?_
            refine goK hT 10 (K34 111111111111111010 0) ⟨124, [(2, .ptr 0 0 0 0), (4, .ptr 1 0 0 0), (5, .i v4.2), (6, .ptr 3 0 0 0), (13, .i (IntKind.wrap .i64 (x1_13 + 1)))], [.box 34 [.i 0, .i 0, .i 0, .ns, .i 0, .i 0, .i 0], .box 34 [.i v1.2, .i v2.2, .i v3.2, .own 5 2 0 ((x1_r2 ++ [(⟨v10.2, v11.2⟩ : spliceref04_Pair)]).length), .i 0, .i 0, .i 0], .gone, .box 97 (eC97 v11.1), .flat false 2 79 1 (fun j => [[.i v10.2, .i v11.2]].getD j []), eR79 (x1_r2 ++ [(⟨v10.2, v11.2⟩ : spliceref04_Pair)])]⟩ ?_
            refine cutK [0, 1, 5, 3] ⟨124, [(2, .ptr 0 0 0 0), (4, .ptr 1 0 0 0), (5, .i v4.2), (6, .ptr 3 0 0 0), (13, .i (IntKind.wrap .i64 (x1_13 + 1)))], [.box 34 [.i 0, .i 0, .i 0, .ns, .i 0, .i 0, .i 0], .box 34 [.i v1.2, .i v2.2, .i v3.2, .own 2 2 0 (x1_r2 ++ [(⟨v10.2, v11.2⟩ : spliceref04_Pair)]).length, .i 0, .i 0, .i 0], eR79 (x1_r2 ++ [(⟨v10.2, v11.2⟩ : spliceref04_Pair)]), .box 97 [.s v11.1.S, .i v11.1.E]]⟩ h0 ?_
            exact ih (IntKind.wrap .i64 (x1_13 + 1)) (x1_r2 ++ [(⟨v10.2, v11.2⟩ : spliceref04_Pair)]) v11.1.S v11.1.E H
          · replace H := sF c6 H
            have Jj2 : ∀ (y2_b1_4 : Int) (y2_b1_5 : Int) (y2_b3_0 : ByteArray) (y2_b3_1 : Int), stk (spliceref04_Read.j2 v1 v2 v3 x1_r2 y2_b1_4 y2_b1_5 y2_b3_0 y2_b3_1) (iter (spliceref04_Read.step v1 v2 v3 v4) n) = some r → AK X 34 ((K34 1111111111111111 1)) (Back X [] (.tup [.d (eG34 r.1), .i r.2])) ⟨124, [(2, .ptr 0 0 0 0), (4, .ptr 1 0 0 0), (6, .ptr 3 0 0 0)], [.box 34 [.i 0, .i 0, .i 0, .ns, .i 0, .i 0, .i 0], .box 34 [.i v1.2, .i v2.2, .i v3.2, .own 2 2 0 x1_r2.length, .i y2_b1_4, .i y2_b1_5, .i 0], eR79 x1_r2, .box 97 [.s y2_b3_0, .i y2_b3_1]]⟩ := by
              intro y2_b1_4 y2_b1_5 y2_b3_0 y2_b3_1 H
              have Jj3 : ∀ (y3_b1_6 : Int) (y3_b3_0 : ByteArray) (y3_b3_1 : Int), stk (spliceref04_Read.j3 v1 v2 v3 x1_r2 y2_b1_4 y2_b1_5 y3_b1_6 y3_b3_0 y3_b3_1) (iter (spliceref04_Read.step v1 v2 v3 v4) n) = some r → AK X 34 ((K34 11111111111111111 1)) (Back X [] (.tup [.d (eG34 r.1), .i r.2])) ⟨124, [(2, .ptr 0 0 0 0), (4, .ptr 1 0 0 0), (6, .ptr 3 0 0 0)], [.box 34 [.i 0, .i 0, .i 0, .ns, .i 0, .i 0, .i 0], .box 34 [.i v1.2, .i v2.2, .i v3.2, .own 2 2 0 x1_r2.length, .i y2_b1_4, .i y2_b1_5, .i y3_b1_6], eR79 x1_r2, .box 97 [.s y3_b3_0, .i y3_b3_1]]⟩ := by
                intro y3_b1_6 y3_b3_0 y3_b3_1 H
                refine goK hT 4 (K34 11111111111111111100 1) ⟨124, [(2, .ptr 0 0 0 0), (4, .ptr 1 0 0 0), (6, .ptr 3 0 0 0), (113, .d (.agg [.s y3_b3_0, .i y3_b3_1]))], [.box 34 [.i 0, .i 0, .i 0, .ns, .i 0, .i 0, .i 0], .box 34 [.i v1.2, .i v2.2, .i v3.2, .own 2 2 0 x1_r2.length, .i y2_b1_4, .i y2_b1_5, .i y3_b1_6], eR79 x1_r2, .box 97 [.s y3_b3_0, .i y3_b3_1]]⟩ ?_
                refine ak_callP (avs := [.d (.agg [.s y3_b3_0, .i y3_b3_1])]) (dst := some 114) (k' := (K34 11111111111111111100 2)) [2, 4, 6, 114] [] hP enters_60 (spliceref01_Reader_End.says (⟨y3_b3_0, y3_b3_1⟩ : spliceref01_Reader)) (by kernel_rfl) (hands_none _) (.cons (pass_d _) .nil) (st' := ⟨124, [(2, .ptr 0 0 0 0), (4, .ptr 1 0 0 0), (6, .ptr 3 0 0 0), (114, .i (spliceref01_Reader_End (⟨y3_b3_0, y3_b3_1⟩ : spliceref01_Reader)))], [.box 34 [.i 0, .i 0, .i 0, .ns, .i 0, .i 0, .i 0], .box 34 [.i v1.2, .i v2.2, .i v3.2, .own 2 2 0 x1_r2.length, .i y2_b1_4, .i y2_b1_5, .i y3_b1_6], eR79 x1_r2, .box 97 [.s y3_b3_0, .i y3_b3_1]]⟩) (by kernel_rfl) ?_
                refine goK hT 2 (K34 1111111111111111110 1) ⟨124, [(2, .ptr 0 0 0 0), (4, .ptr 1 0 0 0), (6, .ptr 3 0 0 0), (115, .b ((spliceref01_Reader_End (⟨y3_b3_0, y3_b3_1⟩ : spliceref01_Reader)) != 0))], [.box 34 [.i 0, .i 0, .i 0, .ns, .i 0, .i 0, .i 0], .box 34 [.i v1.2, .i v2.2, .i v3.2, .own 2 2 0 x1_r2.length, .i y2_b1_4, .i y2_b1_5, .i y3_b1_6], eR79 x1_r2, .box 97 [.s y3_b3_0, .i y3_b3_1]]⟩ ?_
                by_cases c12 : (spliceref01_Reader_End (⟨y3_b3_0, y3_b3_1⟩ : spliceref01_Reader)) = 0
                · replace H := sT c12 H
                  rw [neF c12]
                  refine goK hT 2 (K34 111111111111111111 1) ⟨124, [(2, .ptr 0 0 0 0), (4, .ptr 1 0 0 0)], [.box 34 [.i 0, .i 0, .i 0, .ns, .i 0, .i 0, .i 0], .box 34 [.i v1.2, .i v2.2, .i v3.2, .own 2 2 0 x1_r2.length, .i y2_b1_4, .i y2_b1_5, .i y3_b1_6], eR79 x1_r2, .box 97 [.s y3_b3_0, .i y3_b3_1]]⟩ ?_
                  refine goK hT 4 (K34 111111111111111111100 1) ⟨124, [(2, .ptr 0 0 0 0), (4, .ptr 1 0 0 0), (119, .agg [.i v1.2, .i v2.2, .i v3.2, .own 2 2 0 x1_r2.length, .i y2_b1_4, .i y2_b1_5, .i y3_b1_6])], [.box 34 [.i 0, .i 0, .i 0, .ns, .i 0, .i 0, .i 0], .box 34 [.i v1.2, .i v2.2, .i v3.2, .own 2 2 0 x1_r2.length, .i y2_b1_4, .i y2_b1_5, .i y3_b1_6], eR79 x1_r2, .box 97 [.s y3_b3_0, .i y3_b3_1]]⟩ ?_
                  refine ak_freeze 2 (kk := 2) (n := x1_r2.length) (ty := 79) (g := vec spliceref04_Pair.e spliceref04_Pair.z x1_r2) (by kernel_rfl) (st' := ⟨124, [(2, .ptr 0 0 0 0), (4, .ptr 1 0 0 0), (119, .agg [.i v1.2, .i v2.2, .i v3.2, .own 2 2 0 x1_r2.length, .i y2_b1_4, .i y2_b1_5, .i y3_b1_6])], [.box 34 [.i 0, .i 0, .i 0, .ns, .i 0, .i 0, .i 0], .box 34 [.i v1.2, .i v2.2, .i v3.2, .own 2 2 0 x1_r2.length, .i y2_b1_4, .i y2_b1_5, .i y3_b1_6], eF79 x1_r2, .box 97 [.s y3_b3_0, .i y3_b3_1]]⟩) (by kernel_rfl) ?_
                  refine ak_sealS (av := .agg [.i v1.2, .i v2.2, .i v3.2, .own 2 2 0 x1_r2.length, .i y2_b1_4, .i y2_b1_5, .i y3_b1_6]) (y := .agg [.i v1.2, .i v2.2, .i v3.2, eL79 true x1_r2, .i y2_b1_4, .i y2_b1_5, .i y3_b1_6]) [2, 4, 119] 119 (st' := ⟨124, [(2, .ptr 0 0 0 0), (4, .ptr 1 0 0 0), (119, .d (.agg [.i v1.2, .i v2.2, .i v3.2, eL79 true x1_r2, .i y2_b1_4, .i y2_b1_5, .i y3_b1_6]))], [.box 34 [.i 0, .i 0, .i 0, .ns, .i 0, .i 0, .i 0], .box 34 [.i v1.2, .i v2.2, .i v3.2, .own 2 2 0 x1_r2.length, .i y2_b1_4, .i y2_b1_5, .i y3_b1_6], eF79 x1_r2, .box 97 [.s y3_b3_0, .i y3_b3_1]]⟩) (by kernel_rfl) (.agg (.cons (.d _) (.cons (.d _) (.cons (.d _) (.cons (.own (ty := 79) (k := 2) (by kernel_rfl)) (.cons (.d _) (.cons (.d _) (.cons (.d _) .nil)))))))) (by kernel_rfl) ?_
                  obtain ⟨v9, h14, H⟩ := sbC H
                  refine ak_callP (avs := [.d (.agg [.i v1.2, .i v2.2, .i v3.2, eL79 true x1_r2, .i y2_b1_4, .i y2_b1_5, .i y3_b1_6])]) (dst := some 120) (k' := (K34 111111111111111111100 2)) [2, 4, 120] [] hP enters_17 (spliceref04_Check.says (⟨v1.2, v2.2, v3.2, x1_r2, (⟨y2_b1_4, y2_b1_5⟩ : spliceref03_Span), y3_b1_6⟩ : spliceref04_Mut) h14) (by kernel_rfl) (hands_none _) (.cons (pass_d _) .nil) (st' := ⟨124, [(2, .ptr 0 0 0 0), (4, .ptr 1 0 0 0), (120, .b v9)], [.box 34 [.i 0, .i 0, .i 0, .ns, .i 0, .i 0, .i 0], .box 34 [.i v1.2, .i v2.2, .i v3.2, .own 2 2 0 x1_r2.length, .i y2_b1_4, .i y2_b1_5, .i y3_b1_6], eF79 x1_r2, .box 97 [.s y3_b3_0, .i y3_b3_1]]⟩) (by kernel_rfl) ?_
                  refine goK hT 2 (K34 11111111111111111110 1) ⟨124, [(2, .ptr 0 0 0 0), (4, .ptr 1 0 0 0), (121, .b (!v9))], [.box 34 [.i 0, .i 0, .i 0, .ns, .i 0, .i 0, .i 0], .box 34 [.i v1.2, .i v2.2, .i v3.2, .own 2 2 0 x1_r2.length, .i y2_b1_4, .i y2_b1_5, .i y3_b1_6], eF79 x1_r2, .box 97 [.s y3_b3_0, .i y3_b3_1]]⟩ ?_
                  by_cases c15 : v9 = true
                  · replace H := sT c15 H
                    rw [c15]
                    refine goK hT 2 (K34 1111111111111111111 1) ⟨124, [(2, .ptr 0 0 0 0), (4, .ptr 1 0 0 0)], [.box 34 [.i 0, .i 0, .i 0, .ns, .i 0, .i 0, .i 0], .box 34 [.i v1.2, .i v2.2, .i v3.2, .own 2 2 0 x1_r2.length, .i y2_b1_4, .i y2_b1_5, .i y3_b1_6], eF79 x1_r2, .box 97 [.s y3_b3_0, .i y3_b3_1]]⟩ ?_
                    refine goK hT 3 (K34 111111111111111111110 1) ⟨124, [(2, .ptr 0 0 0 0), (123, .agg [.i v1.2, .i v2.2, .i v3.2, .own 2 2 0 x1_r2.length, .i y2_b1_4, .i y2_b1_5, .i y3_b1_6])], [.box 34 [.i 0, .i 0, .i 0, .ns, .i 0, .i 0, .i 0], .box 34 [.i v1.2, .i v2.2, .i v3.2, .own 2 2 0 x1_r2.length, .i y2_b1_4, .i y2_b1_5, .i y3_b1_6], eF79 x1_r2, .box 97 [.s y3_b3_0, .i y3_b3_1]]⟩ ?_
                    refine ak_sealS (av := .agg [.i v1.2, .i v2.2, .i v3.2, .own 2 2 0 x1_r2.length, .i y2_b1_4, .i y2_b1_5, .i y3_b1_6]) (y := .agg [.i v1.2, .i v2.2, .i v3.2, eL79 true x1_r2, .i y2_b1_4, .i y2_b1_5, .i y3_b1_6]) [2, 123] 123 (st' := ⟨124, [(2, .ptr 0 0 0 0), (123, .d (.agg [.i v1.2, .i v2.2, .i v3.2, eL79 true x1_r2, .i y2_b1_4, .i y2_b1_5, .i y3_b1_6]))], [.box 34 [.i 0, .i 0, .i 0, .ns, .i 0, .i 0, .i 0], .box 34 [.i v1.2, .i v2.2, .i v3.2, .own 2 2 0 x1_r2.length, .i y2_b1_4, .i y2_b1_5, .i y3_b1_6], eF79 x1_r2, .box 97 [.s y3_b3_0, .i y3_b3_1]]⟩) (by kernel_rfl) (.agg (.cons (.d _) (.cons (.d _) (.cons (.d _) (.cons (.own (ty := 79) (k := 2) (by kernel_rfl)) (.cons (.d _) (.cons (.d _) (.cons (.d _) .nil)))))))) (by kernel_rfl) ?_
                    refine goK hT 3 (K34 11111111111111111111 1) ⟨124, [(2, .ptr 0 0 0 0), (3, .i 0)], [.box 34 [.i v1.2, .i v2.2, .i v3.2, .d (eL79 true x1_r2), .i y2_b1_4, .i y2_b1_5, .i y3_b1_6], .box 34 [.i v1.2, .i v2.2, .i v3.2, .own 2 2 0 x1_r2.length, .i y2_b1_4, .i y2_b1_5, .i y3_b1_6], eF79 x1_r2, .box 97 [.s y3_b3_0, .i y3_b3_1]]⟩ ?_
                    obtain rfl := retC H
                    exact ak_retM hT hf hX (av := .tup [.d (.agg [.i v1.2, .i v2.2, .i v3.2, eL79 true x1_r2, .i y2_b1_4, .i y2_b1_5, .i y3_b1_6]), .i 0]) (by kernel_rfl) [] (sel_of_eq (by kernel_rfl)) (by decide) (by rw [h0]; rfl) (by kernel_rfl) (fun _ h => all_nil h) (.tup (.cons (.d (.agg (spliceref04_Mut.nl _))) (.cons (.d (.v _)) .nil)))
                  · replace H := sF c15 H
                    rw [boF c15]
                    refine goK hT 4 (K34 11111111111111111110100 1) ⟨124, [(2, .ptr 0 0 0 0), (122, .d (.agg [.i 0, .i 0, .i 0, .ns, .i 0, .i 0, .i 0]))], [.box 34 [.i 0, .i 0, .i 0, .ns, .i 0, .i 0, .i 0], .box 34 [.i v1.2, .i v2.2, .i v3.2, .own 2 2 0 x1_r2.length, .i y2_b1_4, .i y2_b1_5, .i y3_b1_6], eF79 x1_r2, .box 97 [.s y3_b3_0, .i y3_b3_1]]⟩ ?_
                    refine ak_sealS (av := .d (.agg [.i 0, .i 0, .i 0, .ns, .i 0, .i 0, .i 0])) (y := .agg [.i 0, .i 0, .i 0, eL79 true ([] : List spliceref04_Pair), .i 0, .i 0, .i 0]) [2, 122] 122 (st' := ⟨124, [(2, .ptr 0 0 0 0), (122, .d (.agg [.i 0, .i 0, .i 0, eL79 true ([] : List spliceref04_Pair), .i 0, .i 0, .i 0]))], [.box 34 [.i 0, .i 0, .i 0, .ns, .i 0, .i 0, .i 0], .box 34 [.i v1.2, .i v2.2, .i v3.2, .own 2 2 0 x1_r2.length, .i y2_b1_4, .i y2_b1_5, .i y3_b1_6], eF79 x1_r2, .box 97 [.s y3_b3_0, .i y3_b3_1]]⟩) (by kernel_rfl) (.aggd (.cons (.d _) (.cons (.d _) (.cons (.d _) (.cons (.nil _) (.cons (.d _) (.cons (.d _) (.cons (.d _) .nil)))))))) (by kernel_rfl) ?_
                    refine goK hT 3 (K34 1111111111111111111010 1) ⟨124, [(2, .ptr 0 0 0 0), (3, .i 3)], [.box 34 [.i 0, .i 0, .i 0, .d (eL79 true ([] : List spliceref04_Pair)), .i 0, .i 0, .i 0], .box 34 [.i v1.2, .i v2.2, .i v3.2, .own 2 2 0 x1_r2.length, .i y2_b1_4, .i y2_b1_5, .i y3_b1_6], eF79 x1_r2, .box 97 [.s y3_b3_0, .i y3_b3_1]]⟩ ?_
                    obtain rfl := retC H
                    exact ak_retM hT hf hX (av := .tup [.d (.agg [.i 0, .i 0, .i 0, eL79 true ([] : List spliceref04_Pair), .i 0, .i 0, .i 0]), .i 3]) (by kernel_rfl) [] (sel_of_eq (by kernel_rfl)) (by decide) (by rw [h0]; rfl) (by kernel_rfl) (fun _ h => all_nil h) (.tup (.cons (.d (.agg (spliceref04_Mut.nl _))) (.cons (.d (.v _)) .nil)))
                · replace H := sF c12 H
                  rw [neT c12]
                  refine goK hT 5 (K34 1111111111111111110100 2) ⟨124, [(2, .ptr 0 0 0 0), (116, .d (.agg [.i 0, .i 0, .i 0, .ns, .i 0, .i 0, .i 0])), (117, .d (.agg [.s y3_b3_0, .i y3_b3_1]))], [.box 34 [.i 0, .i 0, .i 0, .ns, .i 0, .i 0, .i 0], .box 34 [.i v1.2, .i v2.2, .i v3.2, .own 2 2 0 x1_r2.length, .i y2_b1_4, .i y2_b1_5, .i y3_b1_6], eR79 x1_r2, .box 97 [.s y3_b3_0, .i y3_b3_1]]⟩ ?_
                  refine ak_callP (avs := [.d (.agg [.s y3_b3_0, .i y3_b3_1])]) (dst := some 118) (k' := (K34 1111111111111111110100 3)) [2, 116, 118] [] hP enters_60 (spliceref01_Reader_End.says (⟨y3_b3_0, y3_b3_1⟩ : spliceref01_Reader)) (by kernel_rfl) (hands_none _) (.cons (pass_d _) .nil) (st' := ⟨124, [(2, .ptr 0 0 0 0), (116, .d (.agg [.i 0, .i 0, .i 0, .ns, .i 0, .i 0, .i 0])), (118, .i (spliceref01_Reader_End (⟨y3_b3_0, y3_b3_1⟩ : spliceref01_Reader)))], [.box 34 [.i 0, .i 0, .i 0, .ns, .i 0, .i 0, .i 0], .box 34 [.i v1.2, .i v2.2, .i v3.2, .own 2 2 0 x1_r2.length, .i y2_b1_4, .i y2_b1_5, .i y3_b1_6], eR79 x1_r2, .box 97 [.s y3_b3_0, .i y3_b3_1]]⟩) (by kernel_rfl) ?_
                  refine ak_sealS (av := .d (.agg [.i 0, .i 0, .i 0, .ns, .i 0, .i 0, .i 0])) (y := .agg [.i 0, .i 0, .i 0, eL79 true ([] : List spliceref04_Pair), .i 0, .i 0, .i 0]) [2, 116, 118] 116 (st' := ⟨124, [(2, .ptr 0 0 0 0), (116, .d (.agg [.i 0, .i 0, .i 0, eL79 true ([] : List spliceref04_Pair), .i 0, .i 0, .i 0])), (118, .i (spliceref01_Reader_End (⟨y3_b3_0, y3_b3_1⟩ : spliceref01_Reader)))], [.box 34 [.i 0, .i 0, .i 0, .ns, .i 0, .i 0, .i 0], .box 34 [.i v1.2, .i v2.2, .i v3.2, .own 2 2 0 x1_r2.length, .i y2_b1_4, .i y2_b1_5, .i y3_b1_6], eR79 x1_r2, .box 97 [.s y3_b3_0, .i y3_b3_1]]⟩) (by kernel_rfl) (.aggd (.cons (.d _) (.cons (.d _) (.cons (.d _) (.cons (.nil _) (.cons (.d _) (.cons (.d _) (.cons (.d _) .nil)))))))) (by kernel_rfl) ?_
                  refine goK hT 2 (K34 1111111111111111110100 5) ⟨124, [(2, .ptr 0 0 0 0), (3, .i (spliceref01_Reader_End (⟨y3_b3_0, y3_b3_1⟩ : spliceref01_Reader)))], [.box 34 [.i 0, .i 0, .i 0, .d (eL79 true ([] : List spliceref04_Pair)), .i 0, .i 0, .i 0], .box 34 [.i v1.2, .i v2.2, .i v3.2, .own 2 2 0 x1_r2.length, .i y2_b1_4, .i y2_b1_5, .i y3_b1_6], eR79 x1_r2, .box 97 [.s y3_b3_0, .i y3_b3_1]]⟩ ?_
                  obtain ⟨v8, h13, H⟩ := sdC H
                  rw [← h13]
                  refine goK hT 1 (K34 111111111111111111010 1) ⟨124, [(2, .ptr 0 0 0 0), (3, .i v8)], [.box 34 [.i 0, .i 0, .i 0, .d (eL79 true ([] : List spliceref04_Pair)), .i 0, .i 0, .i 0], .box 34 [.i v1.2, .i v2.2, .i v3.2, .own 2 2 0 x1_r2.length, .i y2_b1_4, .i y2_b1_5, .i y3_b1_6], eR79 x1_r2, .box 97 [.s y3_b3_0, .i y3_b3_1]]⟩ ?_
                  obtain rfl := retC H
                  exact ak_retM hT hf hX (av := .tup [.d (.agg [.i 0, .i 0, .i 0, eL79 true ([] : List spliceref04_Pair), .i 0, .i 0, .i 0]), .i v8]) (by kernel_rfl) [] (sel_of_eq (by kernel_rfl)) (by decide) (by rw [h0]; rfl) (by kernel_rfl) (fun _ h => all_nil h) (.tup (.cons (.d (.agg (spliceref04_Mut.nl _))) (.cons (.d (.v _)) .nil)))
              refine goK hT 7 (K34 111111111111111110 1) ⟨124, [(2, .ptr 0 0 0 0), (4, .ptr 1 0 0 0), (6, .ptr 3 0 0 0), (104, .b (v3.2 == 4))], [.box 34 [.i 0, .i 0, .i 0, .ns, .i 0, .i 0, .i 0], .box 34 [.i v1.2, .i v2.2, .i v3.2, .own 2 2 0 x1_r2.length, .i y2_b1_4, .i y2_b1_5, .i 0], eR79 x1_r2, .box 97 [.s y2_b3_0, .i y2_b3_1]]⟩ ?_
              by_cases c10 : v3.2 = 4
              · replace H := sT c10 H
                rw [eqT c10]
                refine goK hT 4 (K34 111111111111111110100 1) ⟨124, [(2, .ptr 0 0 0 0), (4, .ptr 1 0 0 0), (6, .ptr 3 0 0 0), (106, .d (.agg [.s y2_b3_0, .i y2_b3_1]))], [.box 34 [.i 0, .i 0, .i 0, .ns, .i 0, .i 0, .i 0], .box 34 [.i v1.2, .i v2.2, .i v3.2, .own 2 2 0 x1_r2.length, .i y2_b1_4, .i y2_b1_5, .i 0], eR79 x1_r2, .box 97 [.s y2_b3_0, .i y2_b3_1]]⟩ ?_
                obtain ⟨v7, h11, H⟩ := sbC H
                refine ak_callP (avs := [.d (.agg [.s y2_b3_0, .i y2_b3_1])]) (dst := some 107) (k' := (K34 111111111111111110100 2)) [2, 4, 6, 107] [] hP enters_59 (spliceref01_Reader_Whole.says (⟨y2_b3_0, y2_b3_1⟩ : spliceref01_Reader) h11) (by kernel_rfl) (hands_none _) (.cons (pass_d _) .nil) (st' := ⟨124, [(2, .ptr 0 0 0 0), (4, .ptr 1 0 0 0), (6, .ptr 3 0 0 0), (107, .tup [.d (eG97 v7.1), .i v7.2])], [.box 34 [.i 0, .i 0, .i 0, .ns, .i 0, .i 0, .i 0], .box 34 [.i v1.2, .i v2.2, .i v3.2, .own 2 2 0 x1_r2.length, .i y2_b1_4, .i y2_b1_5, .i 0], eR79 x1_r2, .box 97 [.s y2_b3_0, .i y2_b3_1]]⟩) (by kernel_rfl) ?_
                refine goK hT 17 (K34 11111111111111111 1) ⟨124, [(2, .ptr 0 0 0 0), (4, .ptr 1 0 0 0), (6, .ptr 3 0 0 0)], [.box 34 [.i 0, .i 0, .i 0, .ns, .i 0, .i 0, .i 0], .box 34 [.i v1.2, .i v2.2, .i v3.2, .own 2 2 0 x1_r2.length, .i y2_b1_4, .i y2_b1_5, .i v7.2], eR79 x1_r2, .box 97 (eC97 v7.1), .box 97 (eC97 v7.1)]⟩ ?_
                refine cutK [0, 1, 2, 3] ⟨124, [(2, .ptr 0 0 0 0), (4, .ptr 1 0 0 0), (6, .ptr 3 0 0 0)], [.box 34 [.i 0, .i 0, .i 0, .ns, .i 0, .i 0, .i 0], .box 34 [.i v1.2, .i v2.2, .i v3.2, .own 2 2 0 x1_r2.length, .i y2_b1_4, .i y2_b1_5, .i v7.2], eR79 x1_r2, .box 97 [.s v7.1.S, .i v7.1.E]]⟩ h0 ?_
                exact Jj3 v7.2 v7.1.S v7.1.E H
              · replace H := sF c10 H
                rw [eqF c10]
                refine goK hT 2 (K34 11111111111111111 1) ⟨124, [(2, .ptr 0 0 0 0), (4, .ptr 1 0 0 0), (6, .ptr 3 0 0 0)], [.box 34 [.i 0, .i 0, .i 0, .ns, .i 0, .i 0, .i 0], .box 34 [.i v1.2, .i v2.2, .i v3.2, .own 2 2 0 x1_r2.length, .i y2_b1_4, .i y2_b1_5, .i 0], eR79 x1_r2, .box 97 [.s y2_b3_0, .i y2_b3_1]]⟩ ?_
                refine cutK [0, 1, 2, 3] ⟨124, [(2, .ptr 0 0 0 0), (4, .ptr 1 0 0 0), (6, .ptr 3 0 0 0)], [.box 34 [.i 0, .i 0, .i 0, .ns, .i 0, .i 0, .i 0], .box 34 [.i v1.2, .i v2.2, .i v3.2, .own 2 2 0 x1_r2.length, .i y2_b1_4, .i y2_b1_5, .i 0], eR79 x1_r2, .box 97 [.s y2_b3_0, .i y2_b3_1]]⟩ h0 ?_
                exact Jj3 0 y2_b3_0 y2_b3_1 H
            rw [boF c6]
            refine goK hT 9 (K34 11111111111111110 1) ⟨124, [(2, .ptr 0 0 0 0), (4, .ptr 1 0 0 0), (6, .ptr 3 0 0 0), (83, .b (v3.2 == 2))], [.box 34 [.i 0, .i 0, .i 0, .ns, .i 0, .i 0, .i 0], .box 34 [.i v1.2, .i v2.2, .i v3.2, .own 2 2 0 x1_r2.length, .i 0, .i 0, .i 0], eR79 x1_r2, .box 97 [.s x1_b3_0, .i x1_b3_1]]⟩ ?_
            by_cases c7 : v3.2 = 2
            · replace H := sT c7 H
              rw [eqT c7]
              refine goK hT 4 (K34 11111111111111110100 1) ⟨124, [(2, .ptr 0 0 0 0), (4, .ptr 1 0 0 0), (6, .ptr 3 0 0 0), (85, .d (.agg [.s x1_b3_0, .i x1_b3_1]))], [.box 34 [.i 0, .i 0, .i 0, .ns, .i 0, .i 0, .i 0], .box 34 [.i v1.2, .i v2.2, .i v3.2, .own 2 2 0 x1_r2.length, .i 0, .i 0, .i 0], eR79 x1_r2, .box 97 [.s x1_b3_0, .i x1_b3_1]]⟩ ?_
              obtain ⟨v5, h8, H⟩ := sbC H
              refine ak_callP (avs := [.d (.agg [.s x1_b3_0, .i x1_b3_1])]) (dst := some 86) (k' := (K34 11111111111111110100 2)) [2, 4, 6, 86] [] hP enters_58 (spliceref01_Reader_Num.says (⟨x1_b3_0, x1_b3_1⟩ : spliceref01_Reader) h8) (by kernel_rfl) (hands_none _) (.cons (pass_d _) .nil) (st' := ⟨124, [(2, .ptr 0 0 0 0), (4, .ptr 1 0 0 0), (6, .ptr 3 0 0 0), (86, .tup [.d (eG97 v5.1), .i v5.2])], [.box 34 [.i 0, .i 0, .i 0, .ns, .i 0, .i 0, .i 0], .box 34 [.i v1.2, .i v2.2, .i v3.2, .own 2 2 0 x1_r2.length, .i 0, .i 0, .i 0], eR79 x1_r2, .box 97 [.s x1_b3_0, .i x1_b3_1]]⟩) (by kernel_rfl) ?_
              refine goK hT 22 (K34 11111111111111110101110 1) ⟨124, [(2, .ptr 0 0 0 0), (4, .ptr 1 0 0 0), (6, .ptr 3 0 0 0), (94, .d (eG97 v5.1))], [.box 34 [.i 0, .i 0, .i 0, .ns, .i 0, .i 0, .i 0], .box 34 [.i v1.2, .i v2.2, .i v3.2, .own 2 2 0 x1_r2.length, .i v5.2, .i 0, .i 0], eR79 x1_r2, .box 97 (eC97 v5.1), .box 97 (eC97 v5.1)]⟩ ?_
              obtain ⟨v6, h9, H⟩ := sbC H
              refine ak_callP (avs := [.d (eG97 v5.1)]) (dst := some 95) (k' := (K34 11111111111111110101110 2)) [2, 4, 6, 95] [] hP enters_58 (spliceref01_Reader_Num.says v5.1 h9) (by kernel_rfl) (hands_none _) (.cons (pass_d _) .nil) (st' := ⟨124, [(2, .ptr 0 0 0 0), (4, .ptr 1 0 0 0), (6, .ptr 3 0 0 0), (95, .tup [.d (eG97 v6.1), .i v6.2])], [.box 34 [.i 0, .i 0, .i 0, .ns, .i 0, .i 0, .i 0], .box 34 [.i v1.2, .i v2.2, .i v3.2, .own 2 2 0 x1_r2.length, .i v5.2, .i 0, .i 0], eR79 x1_r2, .box 97 (eC97 v5.1), .box 97 (eC97 v5.1)]⟩) (by kernel_rfl) ?_
              refine goK hT 18 (K34 1111111111111111 1) ⟨124, [(2, .ptr 0 0 0 0), (4, .ptr 1 0 0 0), (6, .ptr 3 0 0 0)], [.box 34 [.i 0, .i 0, .i 0, .ns, .i 0, .i 0, .i 0], .box 34 [.i v1.2, .i v2.2, .i v3.2, .own 2 2 0 x1_r2.length, .i v5.2, .i v6.2, .i 0], eR79 x1_r2, .box 97 (eC97 v6.1), .box 97 (eC97 v5.1), .box 97 (eC97 v6.1)]⟩ ?_
              refine cutK [0, 1, 2, 3] ⟨124, [(2, .ptr 0 0 0 0), (4, .ptr 1 0 0 0), (6, .ptr 3 0 0 0)], [.box 34 [.i 0, .i 0, .i 0, .ns, .i 0, .i 0, .i 0], .box 34 [.i v1.2, .i v2.2, .i v3.2, .own 2 2 0 x1_r2.length, .i v5.2, .i v6.2, .i 0], eR79 x1_r2, .box 97 [.s v6.1.S, .i v6.1.E]]⟩ h0 ?_
              exact Jj2 v5.2 v6.2 v6.1.S v6.1.E H
            · replace H := sF c7 H
              rw [eqF c7]
              refine goK hT 2 (K34 1111111111111111 1) ⟨124, [(2, .ptr 0 0 0 0), (4, .ptr 1 0 0 0), (6, .ptr 3 0 0 0)], [.box 34 [.i 0, .i 0, .i 0, .ns, .i 0, .i 0, .i 0], .box 34 [.i v1.2, .i v2.2, .i v3.2, .own 2 2 0 x1_r2.length, .i 0, .i 0, .i 0], eR79 x1_r2, .box 97 [.s x1_b3_0, .i x1_b3_1]]⟩ ?_
              refine cutK [0, 1, 2, 3] ⟨124, [(2, .ptr 0 0 0 0), (4, .ptr 1 0 0 0), (6, .ptr 3 0 0 0)], [.box 34 [.i 0, .i 0, .i 0, .ns, .i 0, .i 0, .i 0], .box 34 [.i v1.2, .i v2.2, .i v3.2, .own 2 2 0 x1_r2.length, .i 0, .i 0, .i 0], eR79 x1_r2, .box 97 [.s x1_b3_0, .i x1_b3_1]]⟩ h0 ?_
              exact Jj2 0 0 x1_b3_0 x1_b3_1 H
        refine goK hT 7 (K34 111111111111111010000 4) ⟨124, [(2, .ptr 0 0 0 0), (4, .ptr 1 0 0 0), (5, .i v4.2), (6, .ptr 3 0 0 0), (13, .i x1_13), (56, .b (decide (x1_13 < v4.2)))], [.box 34 [.i 0, .i 0, .i 0, .ns, .i 0, .i 0, .i 0], .box 34 [.i v1.2, .i v2.2, .i v3.2, .own 2 2 0 x1_r2.length, .i 0, .i 0, .i 0], eR79 x1_r2, .box 97 [.s x1_b3_0, .i x1_b3_1]]⟩ ?_
        by_cases c5 : x1_13 < v4.2
        · replace H := sT c5 H
          rw [decide_eq_true c5]
          refine goK hT 5 (K34 11111111111111101000 1) ⟨124, [(2, .ptr 0 0 0 0), (4, .ptr 1 0 0 0), (5, .i v4.2), (6, .ptr 3 0 0 0), (13, .i x1_13), (60, .b (x1_b3_1 == 0))], [.box 34 [.i 0, .i 0, .i 0, .ns, .i 0, .i 0, .i 0], .box 34 [.i v1.2, .i v2.2, .i v3.2, .own 2 2 0 x1_r2.length, .i 0, .i 0, .i 0], eR79 x1_r2, .box 97 [.s x1_b3_0, .i x1_b3_1]]⟩ ?_
          refine cutK [0, 1, 2, 3] ⟨124, [(2, .ptr 0 0 0 0), (4, .ptr 1 0 0 0), (5, .i v4.2), (6, .ptr 3 0 0 0), (13, .i x1_13), (60, .b (x1_b3_1 == 0))], [.box 34 [.i 0, .i 0, .i 0, .ns, .i 0, .i 0, .i 0], .box 34 [.i v1.2, .i v2.2, .i v3.2, .own 2 2 0 x1_r2.length, .i 0, .i 0, .i 0], eR79 x1_r2, .box 97 [.s x1_b3_0, .i x1_b3_1]]⟩ h0 ?_
          exact Jj1 (x1_b3_1 == 0) H
        · replace H := sF c5 H
          rw [decide_eq_false c5]
          refine goK hT 5 (K34 11111111111111101000 1) ⟨124, [(2, .ptr 0 0 0 0), (4, .ptr 1 0 0 0), (5, .i v4.2), (6, .ptr 3 0 0 0), (13, .i x1_13), (60, .b false)], [.box 34 [.i 0, .i 0, .i 0, .ns, .i 0, .i 0, .i 0], .box 34 [.i v1.2, .i v2.2, .i v3.2, .own 2 2 0 x1_r2.length, .i 0, .i 0, .i 0], eR79 x1_r2, .box 97 [.s x1_b3_0, .i x1_b3_1]]⟩ ?_
          refine cutK [0, 1, 2, 3] ⟨124, [(2, .ptr 0 0 0 0), (4, .ptr 1 0 0 0), (5, .i v4.2), (6, .ptr 3 0 0 0), (13, .i x1_13), (60, .b false)], [.box 34 [.i 0, .i 0, .i 0, .ns, .i 0, .i 0, .i 0], .box 34 [.i v1.2, .i v2.2, .i v3.2, .own 2 2 0 x1_r2.length, .i 0, .i 0, .i 0], eR79 x1_r2, .box 97 [.s x1_b3_0, .i x1_b3_1]]⟩ h0 ?_
          exact Jj1 false H
  refine cutK [0, 1, 6, 2] ⟨124, [(2, .ptr 0 0 0 0), (4, .ptr 1 0 0 0), (5, .i v4.2), (6, .ptr 3 0 0 0), (13, .i 0)], [.box 34 [.i 0, .i 0, .i 0, .ns, .i 0, .i 0, .i 0], .box 34 [.i v1.2, .i v2.2, .i v3.2, .own 2 2 0 ([] : List spliceref04_Pair).length, .i 0, .i 0, .i 0], eR79 ([] : List spliceref04_Pair), .box 97 [.s v4.1.S, .i v4.1.E]]⟩ h0 ?_
  obtain ⟨n, H⟩ := loopC H
  exact (L n) 0 ([] : List spliceref04_Pair) v4.1.S v4.1.E H


theorem splicelaw04_MutReads.says (a0 : ByteArray) {r : Bool} (H : splicelaw04_MutReads a0 = some r) : Says Try.prog 10 [] [.s a0] [] (.b r) := by
  refine says_of Try.func10 rfl (nt := 33) rfl (Nat.le_of_ble_eq_true rfl) fun X hP h0 hX => ?_
  have hT : TabOk X.P T := hP ▸ tok
  have hf : X.P.funcs[10]? = some Try.f10 := hP ▸ Try.func10
  refine goK hT 11 (K10 110 1) ⟨33, [(0, .s a0), (9, .b (decide ((a0.size : Int) > 5000)))], []⟩ ?_
  by_cases c1 : (a0.size : Int) > 5000
  · replace H := iT c1 H
    rw [decide_eq_true c1]
    refine goK hT 3 (K10 110100 0) ⟨33, [], []⟩ ?_
    obtain ⟨v1, h2, H⟩ := ibC H
    refine ak_callP (avs := []) (dst := some 10) (k' := (K10 110100 1)) [10] [] hP enters_13 (splicelaw04_awake.says h2) (by kernel_rfl) (hands_none _) .nil (st' := ⟨33, [(10, .b v1)], []⟩) (by kernel_rfl) ?_
    refine goK hT 2 (K10 11010 1) ⟨33, [(2, .b v1)], []⟩ ?_
    obtain rfl := retC H
    exact ak_ret hf hX (av := .b v1) (by kernel_rfl) [] (sel_of_eq (by kernel_rfl)) (by decide) (by rw [h0]; rfl) (by kernel_rfl) (fun _ h => all_nil h) (.d (.v _))
  · replace H := iF c1 H
    rw [decide_eq_false c1]
    refine goK hT 2 (K10 11 1) ⟨33, [(0, .s a0)], []⟩ ?_
    refine goK hT 3 (K10 1110 1) ⟨33, [(0, .s a0), (12, .s a0)], []⟩ ?_
    obtain ⟨v2, h3, H⟩ := ibC H
    refine ak_callP (avs := [.s a0]) (dst := some 13) (k' := (K10 1110 2)) [0, 13] [] hP enters_33 (mut_Read.says a0 h3) (by kernel_rfl) (hands_none _) (.cons (pass_d _) .nil) (st' := ⟨33, [(0, .s a0), (13, .tup [.d (eG26 v2.1), .i v2.2])], []⟩) (by kernel_rfl) ?_
    refine goK hT 10 (K10 11110 1) ⟨33, [(3, .ptr 0 0 0 0), (4, .i v2.2), (17, .s a0)], [.box 26 (eC26 v2.1)]⟩ ?_
    obtain ⟨v3, h4, H⟩ := ibC H
    refine ak_callP (avs := [.s a0]) (dst := some 18) (k' := (K10 11110 2)) [3, 4, 18] [] hP enters_34 (spliceref04_Read.says a0 h4) (by kernel_rfl) (hands_none _) (.cons (pass_d _) .nil) (st' := ⟨33, [(3, .ptr 0 0 0 0), (4, .i v2.2), (18, .tup [.d (eG34 v3.1), .i v3.2])], [.box 26 (eC26 v2.1)]⟩) (by kernel_rfl) ?_
    refine goK hT 8 (K10 11111 0) ⟨33, [(3, .ptr 0 0 0 0), (4, .i v2.2), (5, .ptr 1 0 0 0), (6, .i v3.2)], [.box 26 (eC26 v2.1), .box 34 (eC34 v3.1)]⟩ ?_
    obtain ⟨v4, h5, H⟩ := ibC H
    have Jj1 : ∀ (y1_2 : Bool), (splicelaw04_MutReads.j1 y1_2) = some r → AK X 10 ((K10 11111 1)) (Back X [] (.b r)) ⟨33, [(2, .b y1_2)], []⟩ := by
      intro y1_2 H
      obtain rfl := retC H
      exact ak_ret hf hX (av := .b y1_2) (by kernel_rfl) [] (sel_of_eq (by kernel_rfl)) (by decide) (by rw [h0]; rfl) (by kernel_rfl) (fun _ h => all_nil h) (.d (.v _))
    by_cases c6 : v4 = true
    · replace H := iT c6 H
      obtain ⟨v5, h7, H⟩ := ibC H
      obtain ⟨v6, h8, H⟩ := ibC H
      by_cases c9 : v6 = true
      · replace H := iT c9 H
        refine drawK (hP ▸ mixed) 10 [3, 4, 5, 6] [some (.b true), some (.b true), some (.d (eG26 v2.1)), some (.d (eG34 v5)), some (.d (eG34 v3.1)), some (.b true), some (.b true), some (.b true), some (.i v2.2), some (.i v3.2)] (opG (opG (opG (opG (opS (opG (opS (opG (opG (opS op0 (fun R rest h => ak_callD (avs := []) (dst := some 21) hP enters_13 (by have q := splicelaw04_awake.says h5; rw [c6] at q; exact q) (by kernel_rfl) .nil (by kernel_rfl) h)) hT) hT) (fun R rest h => ak_callD (avs := [.d (eG26 v2.1)]) (dst := some 24) hP enters_16 (splicelaw04_Ref.says v2.1 h7) (by kernel_rfl) (.cons (pass_d _) .nil) (by kernel_rfl) h)) hT) (fun R rest h => ak_callD (avs := [.d (eG34 v5), .d (eG34 v3.1)]) (dst := some 26) hP enters_21 (by have q := spliceref04_Same.says v5 v3.1 h8; rw [c9] at q; exact q) (by kernel_rfl) (.cons (pass_d _) (.cons (pass_d _) .nil)) (by kernel_rfl) h)) hT) hT) hT) hT) ?_
        refine goK hT 4 (K10 11111 1) ⟨33, [(2, .b (v2.2 == v3.2))], [.box 26 (eC26 v2.1), .box 34 (eC34 v3.1)]⟩ ?_
        refine cutK [] ⟨33, [(2, .b (v2.2 == v3.2))], []⟩ h0 ?_
        exact Jj1 (v2.2 == v3.2) H
      · replace H := iF c9 H
        refine drawK (hP ▸ mixed) 10 [3, 4, 5, 6] [some (.b true), some (.b true), some (.d (eG26 v2.1)), some (.d (eG34 v5)), some (.d (eG34 v3.1)), some (.b false), some (.b false), some (.b false), some (.tup []), some (.tup [])] (opG (opG (opG (opG (opS (opG (opS (opG (opG (opS op0 (fun R rest h => ak_callD (avs := []) (dst := some 21) hP enters_13 (by have q := splicelaw04_awake.says h5; rw [c6] at q; exact q) (by kernel_rfl) .nil (by kernel_rfl) h)) hT) hT) (fun R rest h => ak_callD (avs := [.d (eG26 v2.1)]) (dst := some 24) hP enters_16 (splicelaw04_Ref.says v2.1 h7) (by kernel_rfl) (.cons (pass_d _) .nil) (by kernel_rfl) h)) hT) (fun R rest h => ak_callD (avs := [.d (eG34 v5), .d (eG34 v3.1)]) (dst := some 26) hP enters_21 (by have q := spliceref04_Same.says v5 v3.1 h8; rw [boF c9] at q; exact q) (by kernel_rfl) (.cons (pass_d _) (.cons (pass_d _) .nil)) (by kernel_rfl) h)) hT) hT) hT) hT) ?_
        refine goK hT 4 (K10 11111 1) ⟨33, [(2, .b false)], [.box 26 (eC26 v2.1), .box 34 (eC34 v3.1)]⟩ ?_
        refine cutK [] ⟨33, [(2, .b false)], []⟩ h0 ?_
        exact Jj1 false H
    · replace H := iF c6 H
      refine drawK (hP ▸ mixed) 10 [3, 4, 5, 6] [some (.b false), some (.b false), some (.tup []), some (.tup []), some (.tup []), some (.tup []), some (.b false), some (.b false), some (.tup []), some (.tup [])] (opG (opG (opG (opG (opG (opG (opG (opG (opG (opS op0 (fun R rest h => ak_callD (avs := []) (dst := some 21) hP enters_13 (by have q := splicelaw04_awake.says h5; rw [boF c6] at q; exact q) (by kernel_rfl) .nil (by kernel_rfl) h)) hT) hT) hT) hT) hT) hT) hT) hT) hT) ?_
      refine goK hT 4 (K10 11111 1) ⟨33, [(2, .b false)], [.box 26 (eC26 v2.1), .box 34 (eC34 v3.1)]⟩ ?_
      refine cutK [] ⟨33, [(2, .b false)], []⟩ h0 ?_
      exact Jj1 false H
end Go.SyP
