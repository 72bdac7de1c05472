/- Certificates, printed by gen.py. -/
import Derived.Test.YtboaahlhgekbbaaG06LP
import Derived.Test.YtboaahlhgekbbaaG06B
set_option linter.unusedVariables false
set_option linter.unusedSimpArgs false
namespace Go.SyP
open Go Go.Sy Go.Proofs


theorem splicelaw06_del.says (a0 : Int) (a1 : Int) : Says Try.prog 31 [] [.i a0, .i a1] [] (.d (eG30 (splicelaw06_del a0 a1))) := by
  obtain ⟨r, H⟩ : ∃ r, splicelaw06_del a0 a1 = r := ⟨_, rfl⟩
  rw [H]
  refine says_of Try.func31 rfl (nt := 9) rfl (Nat.le_of_ble_eq_true rfl) fun X hP h0 hX => ?_
  have hT : TabOk X.P T := hP ▸ tok
  have hf : X.P.funcs[31]? = some Try.f31 := hP ▸ Try.func31
  refine goK hT 10 (K31 110 4) ⟨9, [(4, .ptr 0 0 0 0), (8, .d (.agg [.i a0, .i a1, .i 2, .ns, .i 1, .i 2, .i 0]))], [.box 30 [.i 0, .i 0, .i 0, .ns, .i 0, .i 0, .i 0]]⟩ ?_
  refine ak_sealS (av := .d (.agg [.i a0, .i a1, .i 2, .ns, .i 1, .i 2, .i 0])) (y := .agg [.i a0, .i a1, .i 2, eL70 true ([] : List api_Pair), .i 1, .i 2, .i 0]) [4, 8] 8 (st' := ⟨9, [(4, .ptr 0 0 0 0), (8, .d (.agg [.i a0, .i a1, .i 2, eL70 true ([] : List api_Pair), .i 1, .i 2, .i 0]))], [.box 30 [.i 0, .i 0, .i 0, .ns, .i 0, .i 0, .i 0]]⟩) (by kernel_rfl) (.aggd (.cons (.d _) (.cons (.d _) (.cons (.d _) (.cons (.nil _) (.cons (.d _) (.cons (.d _) (.cons (.d _) .nil)))))))) (by kernel_rfl) ?_
  refine goK hT 2 (K31 11 1) ⟨9, [(4, .ptr 0 0 0 0)], [.box 30 [.i a0, .i a1, .i 2, .d (eL70 true ([] : List api_Pair)), .i 1, .i 2, .i 0]]⟩ ?_
  obtain rfl := H
  exact ak_retM hT hf hX (av := .d (.agg [.i a0, .i a1, .i 2, eL70 true ([] : List api_Pair), .i 1, .i 2, .i 0])) (by kernel_rfl) [] (sel_of_eq (by kernel_rfl)) (by decide) (by rw [h0]; rfl) (by kernel_rfl) (fun _ h => all_nil h) (.d (.agg (api_Mut.nl _)))


theorem splicelaw06_awake.says {r : Bool} (H : splicelaw06_awake = some r) : Says Try.prog 11 [] [] [] (.b r) := by
  refine says_of Try.func11 rfl (nt := 87) rfl (Nat.le_of_ble_eq_true rfl) fun X hP h0 hX => ?_
  have hT : TabOk X.P T := hP ▸ tok
  have hf : X.P.funcs[11]? = some Try.f11 := hP ▸ Try.func11
  refine goK hT 6 (K11 110 0) ⟨87, [], []⟩ ?_
  refine ak_callP (avs := []) (dst := some 13) (k' := (K11 110 1)) [13] [] hP enters_10 (qNew_says) (by kernel_rfl) (hands_none _) .nil (st' := ⟨87, [(13, .ptr 0 0 0 0)], [qR qNew]⟩) (by kernel_rfl) ?_
  obtain ⟨v1, h1, H⟩ := idC H
  rw [← h1]
  refine goK hT 5 (K11 1110 1) ⟨87, [(1, .ptr 0 0 0 0), (14, .ptr 0 0 0 0)], [qR v1]⟩ ?_
  refine ak_callP (avs := [.i 1, .i 1]) (dst := some 15) (k' := (K11 1110 2)) [1, 14, 15] [] hP enters_31 (splicelaw06_del.says 1 1) (by kernel_rfl) (hands_none _) (.cons (pass_d _) (.cons (pass_d _) .nil)) (st' := ⟨87, [(1, .ptr 0 0 0 0), (14, .ptr 0 0 0 0), (15, .d (eG30 (splicelaw06_del 1 1)))], [qR v1]⟩) (by kernel_rfl) ?_
  obtain ⟨v2, h2, H⟩ := idC H
  rw [← h2]
  refine goK hT 1 (K11 1110 3) ⟨87, [(1, .ptr 0 0 0 0), (14, .ptr 0 0 0 0), (16, .d (.agg [.i v2.Client, .i v2.Seq, .i v2.Kind, eL70 true v2.Pairs, .i ((v2.Over).Lo), .i ((v2.Over).Hi), .i v2.Old, .i 5, .b false]))], [qR v1]⟩ ?_
  obtain ⟨v3, h3, H⟩ := ibC H
  refine ak_callP (avs := [.ptr 0 0 0 0, .d (.agg [.i v2.Client, .i v2.Seq, .i v2.Kind, eL70 true v2.Pairs, .i ((v2.Over).Lo), .i ((v2.Over).Hi), .i v2.Old, .i 5, .b false])]) (dst := some 17) (k' := (K11 1110 4)) [1, 17] [0] hP enters_12 (qAdd_says v1 (⟨(⟨v2.Client, v2.Seq, v2.Kind, v2.Pairs, (v2.Over), v2.Old⟩ : api_Mut), 5, false⟩ : api_Held) h3) (by kernel_rfl) (hands_one rfl rfl) (.cons (.same (.ptr 0 0 0 0)) (.cons (pass_d _) .nil)) (st' := ⟨87, [(1, .ptr 0 0 0 0), (17, .i v3.1)], [qR v3.2]⟩) (by kernel_rfl) ?_
  refine goK hT 5 (K11 11110 1) ⟨87, [(1, .ptr 0 0 0 0), (2, .i v3.1), (18, .ptr 0 0 0 0)], [qR v3.2]⟩ ?_
  refine ak_callP (avs := [.i 2, .i 1]) (dst := some 19) (k' := (K11 11110 2)) [1, 2, 18, 19] [] hP enters_31 (splicelaw06_del.says 2 1) (by kernel_rfl) (hands_none _) (.cons (pass_d _) (.cons (pass_d _) .nil)) (st' := ⟨87, [(1, .ptr 0 0 0 0), (2, .i v3.1), (18, .ptr 0 0 0 0), (19, .d (eG30 (splicelaw06_del 2 1)))], [qR v3.2]⟩) (by kernel_rfl) ?_
  obtain ⟨v4, h4, H⟩ := idC H
  rw [← h4]
  refine goK hT 1 (K11 11110 3) ⟨87, [(1, .ptr 0 0 0 0), (2, .i v3.1), (18, .ptr 0 0 0 0), (20, .d (.agg [.i v4.Client, .i v4.Seq, .i v4.Kind, eL70 true v4.Pairs, .i ((v4.Over).Lo), .i ((v4.Over).Hi), .i v4.Old, .i 3, .b false]))], [qR v3.2]⟩ ?_
  obtain ⟨v5, h5, H⟩ := ibC H
  refine ak_callP (avs := [.ptr 0 0 0 0, .d (.agg [.i v4.Client, .i v4.Seq, .i v4.Kind, eL70 true v4.Pairs, .i ((v4.Over).Lo), .i ((v4.Over).Hi), .i v4.Old, .i 3, .b false])]) (dst := some 21) (k' := (K11 11110 4)) [1, 2, 21] [0] hP enters_12 (qAdd_says v3.2 (⟨(⟨v4.Client, v4.Seq, v4.Kind, v4.Pairs, (v4.Over), v4.Old⟩ : api_Mut), 3, false⟩ : api_Held) h5) (by kernel_rfl) (hands_one rfl rfl) (.cons (.same (.ptr 0 0 0 0)) (.cons (pass_d _) .nil)) (st' := ⟨87, [(1, .ptr 0 0 0 0), (2, .i v3.1), (21, .i v5.1)], [qR v5.2]⟩) (by kernel_rfl) ?_
  refine goK hT 5 (K11 111110 1) ⟨87, [(1, .ptr 0 0 0 0), (2, .i v3.1), (3, .i v5.1), (23, .ptr 0 0 0 0)], [qR v5.2]⟩ ?_
  refine ak_callP (avs := [.ptr 0 0 0 0]) (dst := some 24) (k' := (K11 111110 2)) [1, 2, 3, 24] [0] hP enters_15 (qPop_says v5.2) (by kernel_rfl) (hands_one rfl rfl) (.cons (.same (.ptr 0 0 0 0)) .nil) (st' := ⟨87, [(1, .ptr 0 0 0 0), (2, .i v3.1), (3, .i v5.1), (24, .tup [.d (eG32 ((qPop v5.2).1)), .b ((qPop v5.2).2.1)])], [qR ((qPop v5.2).2.2)]⟩) (by kernel_rfl) ?_
  obtain ⟨v6, h6, H⟩ := idC H
  rw [← h6]
  refine goK hT 10 (K11 1111110 1) ⟨87, [(1, .ptr 0 0 0 0), (2, .i v3.1), (3, .i v5.1), (5, .b v6.2.1), (27, .ptr 0 0 0 0)], [qR v6.2.2, .box 32 (eC32 (v6.1))]⟩ ?_
  refine ak_callP (avs := [.ptr 0 0 0 0, .i 2, .i 1, .i 7]) (dst := some 28) (k' := (K11 1111110 2)) [1, 2, 3, 5, 28] [0] hP enters_13 (qFinal_says v6.2.2 2 1 7) (by kernel_rfl) (hands_one rfl rfl) (.cons (.same (.ptr 0 0 0 0)) (.cons (pass_d _) (.cons (pass_d _) (.cons (pass_d _) .nil)))) (st' := ⟨87, [(1, .ptr 0 0 0 0), (2, .i v3.1), (3, .i v5.1), (5, .b v6.2.1), (28, .i ((qFinal v6.2.2 2 1 7).1))], [qR ((qFinal v6.2.2 2 1 7).2), .box 32 (eC32 (v6.1))]⟩) (by kernel_rfl) ?_
  obtain ⟨v7, h7, H⟩ := idC H
  rw [← h7]
  refine goK hT 5 (K11 11111110 1) ⟨87, [(1, .ptr 0 0 0 0), (2, .i v3.1), (3, .i v5.1), (5, .b v6.2.1), (6, .i v7.1), (29, .ptr 0 0 0 0)], [qR v7.2, .box 32 (eC32 (v6.1))]⟩ ?_
  refine ak_callP (avs := [.ptr 0 0 0 0, .i 99]) (dst := some 30) (k' := (K11 11111110 2)) [1, 2, 3, 5, 6, 30] [0] hP enters_20 (qFloor_says v7.2 99) (by kernel_rfl) (hands_one rfl rfl) (.cons (.same (.ptr 0 0 0 0)) (.cons (pass_d _) .nil)) (st' := ⟨87, [(1, .ptr 0 0 0 0), (2, .i v3.1), (3, .i v5.1), (5, .b v6.2.1), (6, .i v7.1), (30, .i (qFloor v7.2 99))], [qR v7.2, .box 32 (eC32 (v6.1))]⟩) (by kernel_rfl) ?_
  refine goK hT 5 (K11 111111110 1) ⟨87, [(1, .ptr 0 0 0 0), (2, .i v3.1), (3, .i v5.1), (5, .b v6.2.1), (6, .i v7.1), (7, .i (qFloor v7.2 99)), (31, .ptr 0 0 0 0)], [qR v7.2, .box 32 (eC32 (v6.1))]⟩ ?_
  refine ak_callP (avs := [.ptr 0 0 0 0, .i 1, .i 1, .i 5]) (dst := some 32) (k' := (K11 111111110 2)) [1, 2, 3, 5, 6, 7, 32] [0] hP enters_13 (qFinal_says v7.2 1 1 5) (by kernel_rfl) (hands_one rfl rfl) (.cons (.same (.ptr 0 0 0 0)) (.cons (pass_d _) (.cons (pass_d _) (.cons (pass_d _) .nil)))) (st' := ⟨87, [(1, .ptr 0 0 0 0), (2, .i v3.1), (3, .i v5.1), (5, .b v6.2.1), (6, .i v7.1), (7, .i (qFloor v7.2 99)), (32, .i ((qFinal v7.2 1 1 5).1))], [qR ((qFinal v7.2 1 1 5).2), .box 32 (eC32 (v6.1))]⟩) (by kernel_rfl) ?_
  obtain ⟨v8, h8, H⟩ := idC H
  rw [← h8]
  refine goK hT 5 (K11 1111111110 1) ⟨87, [(1, .ptr 0 0 0 0), (2, .i v3.1), (3, .i v5.1), (5, .b v6.2.1), (6, .i v7.1), (7, .i (qFloor v7.2 99)), (8, .i v8.1), (34, .ptr 0 0 0 0)], [qR v8.2, .box 32 (eC32 (v6.1))]⟩ ?_
  refine ak_callP (avs := [.ptr 0 0 0 0]) (dst := some 35) (k' := (K11 1111111110 2)) [1, 2, 3, 5, 6, 7, 8, 35] [0] hP enters_15 (qPop_says v8.2) (by kernel_rfl) (hands_one rfl rfl) (.cons (.same (.ptr 0 0 0 0)) .nil) (st' := ⟨87, [(1, .ptr 0 0 0 0), (2, .i v3.1), (3, .i v5.1), (5, .b v6.2.1), (6, .i v7.1), (7, .i (qFloor v7.2 99)), (8, .i v8.1), (35, .tup [.d (eG32 ((qPop v8.2).1)), .b ((qPop v8.2).2.1)])], [qR ((qPop v8.2).2.2), .box 32 (eC32 (v6.1))]⟩) (by kernel_rfl) ?_
  obtain ⟨v9, h9, H⟩ := idC H
  rw [← h9]
  refine goK hT 10 (K11 11111111110 1) ⟨87, [(1, .ptr 0 0 0 0), (2, .i v3.1), (3, .i v5.1), (5, .b v6.2.1), (6, .i v7.1), (7, .i (qFloor v7.2 99)), (8, .i v8.1), (9, .ptr 2 0 0 0), (10, .b v9.2.1), (39, .ptr 0 0 0 0)], [qR v9.2.2, .box 32 (eC32 (v6.1)), .box 32 (eC32 (v9.1))]⟩ ?_
  refine ak_callP (avs := [.ptr 0 0 0 0]) (dst := some 40) (k' := (K11 11111111110 2)) [1, 2, 3, 5, 6, 7, 8, 9, 10, 40] [0] hP enters_15 (qPop_says v9.2.2) (by kernel_rfl) (hands_one rfl rfl) (.cons (.same (.ptr 0 0 0 0)) .nil) (st' := ⟨87, [(1, .ptr 0 0 0 0), (2, .i v3.1), (3, .i v5.1), (5, .b v6.2.1), (6, .i v7.1), (7, .i (qFloor v7.2 99)), (8, .i v8.1), (9, .ptr 2 0 0 0), (10, .b v9.2.1), (40, .tup [.d (eG32 ((qPop v9.2.2).1)), .b ((qPop v9.2.2).2.1)])], [qR ((qPop v9.2.2).2.2), .box 32 (eC32 (v6.1)), .box 32 (eC32 (v9.1))]⟩) (by kernel_rfl) ?_
  obtain ⟨v10, h10, H⟩ := idC H
  have Jj1 : ∀ (y1_0 : Bool), (splicelaw06_awake.j1 y1_0) = some r → AK X 11 ((K11 11111111111 1)) (Back X [] (.b r)) ⟨87, [(0, .b y1_0)], []⟩ := by
    intro y1_0 H
    obtain rfl := retC H
    exact ak_ret hf hX (av := .b y1_0) (by kernel_rfl) [] (sel_of_eq (by kernel_rfl)) (by decide) (by rw [h0]; rfl) (by kernel_rfl) (fun _ h => all_nil h) (.d (.v _))
  rw [← h10]
  refine goK hT 12 (K11 111111111110 3) ⟨87, [(1, .ptr 0 0 0 0), (3, .i v5.1), (5, .b v6.2.1), (6, .i v7.1), (7, .i (qFloor v7.2 99)), (8, .i v8.1), (9, .ptr 2 0 0 0), (10, .b v9.2.1), (11, .ptr 3 0 0 0), (12, .b v10.2.1), (45, .b (v3.1 == 0))], [qR v10.2.2, .box 32 (eC32 (v6.1)), .box 32 (eC32 (v9.1)), .box 32 (eC32 (v10.1))]⟩ ?_
  by_cases c11 : v3.1 = 0
  · replace H := iT c11 H
    rw [eqT c11]
    refine goK hT 4 (K11 111111111110 7) ⟨87, [(1, .ptr 0 0 0 0), (5, .b v6.2.1), (6, .i v7.1), (7, .i (qFloor v7.2 99)), (8, .i v8.1), (9, .ptr 2 0 0 0), (10, .b v9.2.1), (11, .ptr 3 0 0 0), (12, .b v10.2.1), (49, .b (v5.1 == 0))], [qR v10.2.2, .box 32 (eC32 (v6.1)), .box 32 (eC32 (v9.1)), .box 32 (eC32 (v10.1))]⟩ ?_
    by_cases c12 : v5.1 = 0
    · replace H := iT c12 H
      rw [eqT c12]
      refine goK hT 4 (K11 111111111110 11) ⟨87, [(1, .ptr 0 0 0 0), (6, .i v7.1), (7, .i (qFloor v7.2 99)), (8, .i v8.1), (9, .ptr 2 0 0 0), (10, .b v9.2.1), (11, .ptr 3 0 0 0), (12, .b v10.2.1), (53, .b (!v6.2.1))], [qR v10.2.2, .box 32 (eC32 (v6.1)), .box 32 (eC32 (v9.1)), .box 32 (eC32 (v10.1))]⟩ ?_
      by_cases c13 : v6.2.1 = true
      · replace H := iT c13 H
        rw [c13]
        refine goK hT 35 (K11 11111111111 1) ⟨87, [(0, .b false)], [qR v10.2.2, .box 32 (eC32 (v6.1)), .box 32 (eC32 (v9.1)), .box 32 (eC32 (v10.1))]⟩ ?_
        refine cutK [] ⟨87, [(0, .b false)], []⟩ h0 ?_
        exact Jj1 false H
      · replace H := iF c13 H
        rw [boF c13]
        refine goK hT 4 (K11 111111111110 15) ⟨87, [(1, .ptr 0 0 0 0), (7, .i (qFloor v7.2 99)), (8, .i v8.1), (9, .ptr 2 0 0 0), (10, .b v9.2.1), (11, .ptr 3 0 0 0), (12, .b v10.2.1), (57, .b (v7.1 == 0))], [qR v10.2.2, .box 32 (eC32 (v6.1)), .box 32 (eC32 (v9.1)), .box 32 (eC32 (v10.1))]⟩ ?_
        by_cases c14 : v7.1 = 0
        · replace H := iT c14 H
          rw [eqT c14]
          refine goK hT 4 (K11 111111111110 19) ⟨87, [(1, .ptr 0 0 0 0), (8, .i v8.1), (9, .ptr 2 0 0 0), (10, .b v9.2.1), (11, .ptr 3 0 0 0), (12, .b v10.2.1), (61, .b ((qFloor v7.2 99) == 4))], [qR v10.2.2, .box 32 (eC32 (v6.1)), .box 32 (eC32 (v9.1)), .box 32 (eC32 (v10.1))]⟩ ?_
          by_cases c15 : (qFloor v7.2 99) = 4
          · replace H := iT c15 H
            rw [eqT c15]
            refine goK hT 4 (K11 111111111110 23) ⟨87, [(1, .ptr 0 0 0 0), (9, .ptr 2 0 0 0), (10, .b v9.2.1), (11, .ptr 3 0 0 0), (12, .b v10.2.1), (65, .b (v8.1 == 0))], [qR v10.2.2, .box 32 (eC32 (v6.1)), .box 32 (eC32 (v9.1)), .box 32 (eC32 (v10.1))]⟩ ?_
            by_cases c16 : v8.1 = 0
            · replace H := iT c16 H
              rw [eqT c16]
              refine goK hT 3 (K11 111111111110 26) ⟨87, [(1, .ptr 0 0 0 0), (9, .ptr 2 0 0 0), (11, .ptr 3 0 0 0), (12, .b v10.2.1), (68, .b v9.2.1)], [qR v10.2.2, .box 32 (eC32 (v6.1)), .box 32 (eC32 (v9.1)), .box 32 (eC32 (v10.1))]⟩ ?_
              by_cases c17 : v9.2.1 = true
              · replace H := iT c17 H
                rw [c17]
                refine goK hT 6 (K11 111111111110 32) ⟨87, [(1, .ptr 0 0 0 0), (11, .ptr 3 0 0 0), (12, .b v10.2.1), (74, .b ((((v9.1).M).Client) == 1))], [qR v10.2.2, .box 32 (eC32 (v6.1)), .box 32 (eC32 (v9.1)), .box 32 (eC32 (v10.1))]⟩ ?_
                by_cases c18 : (((v9.1).M).Client) = 1
                · replace H := iT c18 H
                  rw [eqT c18]
                  refine goK hT 3 (K11 111111111110 35) ⟨87, [(1, .ptr 0 0 0 0), (11, .ptr 3 0 0 0), (77, .b v10.2.1)], [qR v10.2.2, .box 32 (eC32 (v6.1)), .box 32 (eC32 (v9.1)), .box 32 (eC32 (v10.1))]⟩ ?_
                  by_cases c19 : v10.2.1 = true
                  · replace H := iT c19 H
                    rw [c19]
                    refine goK hT 5 (K11 111111111110 40) ⟨87, [(1, .ptr 0 0 0 0), (82, .b (((v10.1).Time) == 7))], [qR v10.2.2, .box 32 (eC32 (v6.1)), .box 32 (eC32 (v9.1)), .box 32 (eC32 (v10.1))]⟩ ?_
                    by_cases c20 : ((v10.1).Time) = 7
                    · replace H := iT c20 H
                      rw [eqT c20]
                      refine goK hT 1 (K11 111111111110 41) ⟨87, [(82, .b true), (83, .ptr 0 0 0 0)], [qR v10.2.2, .box 32 (eC32 (v6.1)), .box 32 (eC32 (v9.1)), .box 32 (eC32 (v10.1))]⟩ ?_
                      refine ak_callP (avs := [.ptr 0 0 0 0]) (dst := some 84) (k' := (K11 111111111110 42)) [82, 84] [0] hP enters_14 (qLen_says v10.2.2) (by kernel_rfl) (hands_one rfl rfl) (.cons (.same (.ptr 0 0 0 0)) .nil) (st' := ⟨87, [(82, .b true), (84, .i (qLen v10.2.2))], [qR v10.2.2, .box 32 (eC32 (v6.1)), .box 32 (eC32 (v9.1)), .box 32 (eC32 (v10.1))]⟩) (by kernel_rfl) ?_
                      refine goK hT 4 (K11 11111111111 1) ⟨87, [(0, .b ((qLen v10.2.2) == 0))], [qR v10.2.2, .box 32 (eC32 (v6.1)), .box 32 (eC32 (v9.1)), .box 32 (eC32 (v10.1))]⟩ ?_
                      refine cutK [] ⟨87, [(0, .b ((qLen v10.2.2) == 0))], []⟩ h0 ?_
                      exact Jj1 ((qLen v10.2.2) == 0) H
                    · replace H := iF c20 H
                      rw [eqF c20]
                      refine goK hT 6 (K11 11111111111 1) ⟨87, [(0, .b false)], [qR v10.2.2, .box 32 (eC32 (v6.1)), .box 32 (eC32 (v9.1)), .box 32 (eC32 (v10.1))]⟩ ?_
                      refine cutK [] ⟨87, [(0, .b false)], []⟩ h0 ?_
                      exact Jj1 false H
                  · replace H := iF c19 H
                    rw [boF c19]
                    refine goK hT 11 (K11 11111111111 1) ⟨87, [(0, .b false)], [qR v10.2.2, .box 32 (eC32 (v6.1)), .box 32 (eC32 (v9.1)), .box 32 (eC32 (v10.1))]⟩ ?_
                    refine cutK [] ⟨87, [(0, .b false)], []⟩ h0 ?_
                    exact Jj1 false H
                · replace H := iF c18 H
                  rw [eqF c18]
                  refine goK hT 14 (K11 11111111111 1) ⟨87, [(0, .b false)], [qR v10.2.2, .box 32 (eC32 (v6.1)), .box 32 (eC32 (v9.1)), .box 32 (eC32 (v10.1))]⟩ ?_
                  refine cutK [] ⟨87, [(0, .b false)], []⟩ h0 ?_
                  exact Jj1 false H
              · replace H := iF c17 H
                rw [boF c17]
                refine goK hT 20 (K11 11111111111 1) ⟨87, [(0, .b false)], [qR v10.2.2, .box 32 (eC32 (v6.1)), .box 32 (eC32 (v9.1)), .box 32 (eC32 (v10.1))]⟩ ?_
                refine cutK [] ⟨87, [(0, .b false)], []⟩ h0 ?_
                exact Jj1 false H
            · replace H := iF c16 H
              rw [eqF c16]
              refine goK hT 23 (K11 11111111111 1) ⟨87, [(0, .b false)], [qR v10.2.2, .box 32 (eC32 (v6.1)), .box 32 (eC32 (v9.1)), .box 32 (eC32 (v10.1))]⟩ ?_
              refine cutK [] ⟨87, [(0, .b false)], []⟩ h0 ?_
              exact Jj1 false H
          · replace H := iF c15 H
            rw [eqF c15]
            refine goK hT 27 (K11 11111111111 1) ⟨87, [(0, .b false)], [qR v10.2.2, .box 32 (eC32 (v6.1)), .box 32 (eC32 (v9.1)), .box 32 (eC32 (v10.1))]⟩ ?_
            refine cutK [] ⟨87, [(0, .b false)], []⟩ h0 ?_
            exact Jj1 false H
        · replace H := iF c14 H
          rw [eqF c14]
          refine goK hT 31 (K11 11111111111 1) ⟨87, [(0, .b false)], [qR v10.2.2, .box 32 (eC32 (v6.1)), .box 32 (eC32 (v9.1)), .box 32 (eC32 (v10.1))]⟩ ?_
          refine cutK [] ⟨87, [(0, .b false)], []⟩ h0 ?_
          exact Jj1 false H
    · replace H := iF c12 H
      rw [eqF c12]
      refine goK hT 39 (K11 11111111111 1) ⟨87, [(0, .b false)], [qR v10.2.2, .box 32 (eC32 (v6.1)), .box 32 (eC32 (v9.1)), .box 32 (eC32 (v10.1))]⟩ ?_
      refine cutK [] ⟨87, [(0, .b false)], []⟩ h0 ?_
      exact Jj1 false H
  · replace H := iF c11 H
    rw [eqF c11]
    refine goK hT 43 (K11 11111111111 1) ⟨87, [(0, .b false)], [qR v10.2.2, .box 32 (eC32 (v6.1)), .box 32 (eC32 (v9.1)), .box 32 (eC32 (v10.1))]⟩ ?_
    refine cutK [] ⟨87, [(0, .b false)], []⟩ h0 ?_
    exact Jj1 false H


theorem splicelaw04_Ref.says (a0 : api_Mut) {r : spliceref04_Mut} (H : splicelaw04_Ref a0 = some r) : Says Try.prog 45 [] [.d (eG30 a0)] [] (.d (eG63 r)) := by
  refine says_of Try.func45 rfl (nt := 34) rfl (Nat.le_of_ble_eq_true rfl) fun X hP h0 hX => ?_
  have hT : TabOk X.P T := hP ▸ tok
  have hf : X.P.funcs[45]? = some Try.f45 := hP ▸ Try.func45
  refine goK hT 28 (K45 111010 0) ⟨34, [(1, .ptr 0 0 0 0), (2, .ptr 1 0 0 0), (3, .ptr 2 0 0 0), (4, .i 0)], [.box 30 (eC30 a0), .box 63 [.i 0, .i 0, .i 0, .ns, .i 0, .i 0, .i 0], .box 63 [.i a0.Client, .i a0.Seq, .i a0.Kind, .ns, .i a0.Over.Lo, .i a0.Over.Hi, .i a0.Old]]⟩ ?_
  refine ak_nilBox (tb := 63) (cs := [.i a0.Client, .i a0.Seq, .i a0.Kind, .ns, .i a0.Over.Lo, .i a0.Over.Hi, .i a0.Old]) 2 3 2 131 (vec spliceref04_Pair.e spliceref04_Pair.z []) (st' := ⟨34, [(1, .ptr 0 0 0 0), (2, .ptr 1 0 0 0), (3, .ptr 2 0 0 0), (4, .i 0)], [.box 30 (eC30 a0), .box 63 [.i 0, .i 0, .i 0, .ns, .i 0, .i 0, .i 0], .box 63 [.i a0.Client, .i a0.Seq, .i a0.Kind, .own 3 2 0 0, .i a0.Over.Lo, .i a0.Over.Hi, .i a0.Old], eR131 ([] : List spliceref04_Pair)]⟩) (by kernel_rfl) (by kernel_rfl) ?_
  have L : ∀ n, (∀ (x1_4 : Int) (x1_r3 : List spliceref04_Pair), iter (splicelaw04_Ref.step a0) n (.l1 x1_4 x1_r3) = some r → AK X 45 ((K45 111010 0)) (Back X [] (.d (eG63 r))) ⟨34, [(1, .ptr 0 0 0 0), (2, .ptr 1 0 0 0), (3, .ptr 2 0 0 0), (4, .i x1_4)], [.box 30 (eC30 a0), .box 63 [.i 0, .i 0, .i 0, .ns, .i 0, .i 0, .i 0], .box 63 [.i a0.Client, .i a0.Seq, .i a0.Kind, .own 3 2 0 x1_r3.length, .i a0.Over.Lo, .i a0.Over.Hi, .i a0.Old], eR131 x1_r3]⟩) := by
    intro n
    induction n with
    | zero => exact fun _ _ H => iter0 H
    | succ n ih =>
      · intro x1_4 x1_r3 H
        refine goK hT 9 (K45 11101000 1) ⟨34, [(1, .ptr 0 0 0 0), (2, .ptr 1 0 0 0), (3, .ptr 2 0 0 0), (4, .i x1_4), (20, .b (decide (x1_4 < (a0.Pairs.length : Int))))], [.box 30 (eC30 a0), .box 63 [.i 0, .i 0, .i 0, .ns, .i 0, .i 0, .i 0], .box 63 [.i a0.Client, .i a0.Seq, .i a0.Kind, .own 3 2 0 x1_r3.length, .i a0.Over.Lo, .i a0.Over.Hi, .i a0.Old], eR131 x1_r3]⟩ ?_
        by_cases c1 : x1_4 < (a0.Pairs.length : Int)
        · replace H := sT c1 H
          rw [decide_eq_true c1]
          refine goK hT 2 (K45 1110100 1) ⟨34, [(1, .ptr 0 0 0 0), (2, .ptr 1 0 0 0), (3, .ptr 2 0 0 0), (4, .i x1_4)], [.box 30 (eC30 a0), .box 63 [.i 0, .i 0, .i 0, .ns, .i 0, .i 0, .i 0], .box 63 [.i a0.Client, .i a0.Seq, .i a0.Kind, .own 3 2 0 x1_r3.length, .i a0.Over.Lo, .i a0.Over.Hi, .i a0.Old], eR131 x1_r3]⟩ ?_
          refine goK hT 2 (K45 111010010 0) ⟨34, [(1, .ptr 0 0 0 0), (2, .ptr 1 0 0 0), (3, .ptr 2 0 0 0), (4, .i x1_4)], [.box 30 (eC30 a0), .box 63 [.i 0, .i 0, .i 0, .ns, .i 0, .i 0, .i 0], .box 63 [.i a0.Client, .i a0.Seq, .i a0.Kind, .own 3 2 0 x1_r3.length, .i a0.Over.Lo, .i a0.Over.Hi, .i a0.Old], eR131 x1_r3]⟩ ?_
          obtain ⟨h2, H⟩ := sC H
          refine ak_drawAtE (nt := 34) (hP ▸ mixed) 8 [7] [1, 2, 3, 4] [(1, .ptr 0 0 0 0), (2, .ptr 1 0 0 0), (3, .ptr 2 0 0 0), (4, .i x1_4)] [some (.ptr 2 0 0 3), some (.own 3 2 0 x1_r3.length), some (.ptr 0 0 0 3), some (.d (eL70 true a0.Pairs)), some (.i x1_4), some (.d (eP70 true a0.Pairs x1_4.toNat 0)), some (.d (eG70 (a0.Pairs.getD x1_4.toNat api_Pair.z))), some (.own 4 2 0 1)] [[.box 30 (eC30 a0), .box 63 [.i 0, .i 0, .i 0, .ns, .i 0, .i 0, .i 0], .box 63 [.i a0.Client, .i a0.Seq, .i a0.Kind, .own 3 2 0 x1_r3.length, .i a0.Over.Lo, .i a0.Over.Hi, .i a0.Old], eR131 x1_r3], [.box 30 (eC30 a0), .box 63 [.i 0, .i 0, .i 0, .ns, .i 0, .i 0, .i 0], .box 63 [.i a0.Client, .i a0.Seq, .i a0.Kind, .own 3 2 0 x1_r3.length, .i a0.Over.Lo, .i a0.Over.Hi, .i a0.Old], eR131 x1_r3, .flat false 2 131 1 (fun j => [api_Pair.e (a0.Pairs.getD x1_4.toNat api_Pair.z)].getD j [])]] (by kernel_rfl) (by kernel_rfl) (by kernel_rfl) (by kernel_rfl) ⟨(opXE (opGE (opES (opGE (opGE (opGE (opGE (opGE opE0 hT) hT) hT) hT) hT) (fun R rest h => ak_idx0 hT (i := x1_4) (n := (a0.Pairs.length : Int)) h2.1 h2.2 (by kernel_rfl) h)) hT)), (op_goFK hT), (opXE (opGE (opES (opGE (opGE (opGE (opGE (opGE opE0 hT) hT) hT) hT) hT) (fun R rest h => ak_idx0 hT (i := x1_4) (n := (a0.Pairs.length : Int)) h2.1 h2.2 (by kernel_rfl) h)) hT))⟩ ?_
          refine goK hT 0 (K45 1110100100 8) ⟨34, [(1, .ptr 0 0 0 0), (2, .ptr 1 0 0 0), (3, .ptr 2 0 0 0), (4, .i x1_4), (24, .own 3 2 0 x1_r3.length), (30, .own 4 2 0 1)], [.box 30 (eC30 a0), .box 63 [.i 0, .i 0, .i 0, .ns, .i 0, .i 0, .i 0], .box 63 [.i a0.Client, .i a0.Seq, .i a0.Kind, .own 3 2 0 x1_r3.length, .i a0.Over.Lo, .i a0.Over.Hi, .i a0.Old], eR131 x1_r3, .flat false 2 131 1 (fun j => [api_Pair.e (a0.Pairs.getD x1_4.toNat api_Pair.z)].getD j [])]⟩ ?_
          obtain ⟨h3, H⟩ := sC H
          refine ak_append1 (id := 3) (kk := 2) (by' := 16) (t := 60) (e := 131) (z := [.int .i64 0, .int .i64 0]) (dst := some 31) (id2 := 4) (e2 := 131) (fz := false) (k' := (K45 1110100100 9)) hT spliceref04_Pair.e spliceref04_Pair.z x1_r3 (⟨(a0.Pairs.getD x1_4.toNat api_Pair.z).Key, (a0.Pairs.getD x1_4.toNat api_Pair.z).Val⟩ : spliceref04_Pair) [1, 2, 3, 4, 31] (by kernel_rfl) (by kernel_rfl) (by kernel_rfl) (by kernel_rfl) (by kernel_rfl) (by kernel_rfl) (by kernel_rfl) h3 (by omega) (st' := ⟨34, [(1, .ptr 0 0 0 0), (2, .ptr 1 0 0 0), (3, .ptr 2 0 0 0), (4, .i x1_4), (31, .own 5 2 0 ((x1_r3 ++ [(⟨(a0.Pairs.getD x1_4.toNat api_Pair.z).Key, (a0.Pairs.getD x1_4.toNat api_Pair.z).Val⟩ : spliceref04_Pair)]).length))], [.box 30 (eC30 a0), .box 63 [.i 0, .i 0, .i 0, .ns, .i 0, .i 0, .i 0], .box 63 [.i a0.Client, .i a0.Seq, .i a0.Kind, .own 3 2 0 x1_r3.length, .i a0.Over.Lo, .i a0.Over.Hi, .i a0.Old], .gone, .flat false 2 131 1 (fun j => [api_Pair.e (a0.Pairs.getD x1_4.toNat api_Pair.z)].getD j []), eR131 (x1_r3 ++ [(⟨(a0.Pairs.getD x1_4.toNat api_Pair.z).Key, (a0.Pairs.getD x1_4.toNat api_Pair.z).Val⟩ : spliceref04_Pair)])]⟩) (by kernel_rfl) ?_
          refine goK hT 10 (K45 111010 0) ⟨34, [(1, .ptr 0 0 0 0), (2, .ptr 1 0 0 0), (3, .ptr 2 0 0 0), (4, .i (IntKind.wrap .i64 (x1_4 + 1)))], [.box 30 (eC30 a0), .box 63 [.i 0, .i 0, .i 0, .ns, .i 0, .i 0, .i 0], .box 63 [.i a0.Client, .i a0.Seq, .i a0.Kind, .own 5 2 0 ((x1_r3 ++ [(⟨(a0.Pairs.getD x1_4.toNat api_Pair.z).Key, (a0.Pairs.getD x1_4.toNat api_Pair.z).Val⟩ : spliceref04_Pair)]).length), .i a0.Over.Lo, .i a0.Over.Hi, .i a0.Old], .gone, .flat false 2 131 1 (fun j => [api_Pair.e (a0.Pairs.getD x1_4.toNat api_Pair.z)].getD j []), eR131 (x1_r3 ++ [(⟨(a0.Pairs.getD x1_4.toNat api_Pair.z).Key, (a0.Pairs.getD x1_4.toNat api_Pair.z).Val⟩ : spliceref04_Pair)])]⟩ ?_
          refine cutK [0, 1, 2, 5] ⟨34, [(1, .ptr 0 0 0 0), (2, .ptr 1 0 0 0), (3, .ptr 2 0 0 0), (4, .i (IntKind.wrap .i64 (x1_4 + 1)))], [.box 30 (eC30 a0), .box 63 [.i 0, .i 0, .i 0, .ns, .i 0, .i 0, .i 0], .box 63 [.i a0.Client, .i a0.Seq, .i a0.Kind, .own 3 2 0 (x1_r3 ++ [(⟨(a0.Pairs.getD x1_4.toNat api_Pair.z).Key, (a0.Pairs.getD x1_4.toNat api_Pair.z).Val⟩ : spliceref04_Pair)]).length, .i a0.Over.Lo, .i a0.Over.Hi, .i a0.Old], eR131 (x1_r3 ++ [(⟨(a0.Pairs.getD x1_4.toNat api_Pair.z).Key, (a0.Pairs.getD x1_4.toNat api_Pair.z).Val⟩ : spliceref04_Pair)])]⟩ h0 ?_
          exact ih (IntKind.wrap .i64 (x1_4 + 1)) (x1_r3 ++ [(⟨(a0.Pairs.getD x1_4.toNat api_Pair.z).Key, (a0.Pairs.getD x1_4.toNat api_Pair.z).Val⟩ : spliceref04_Pair)]) H
        · replace H := sF c1 H
          rw [decide_eq_false c1]
          refine goK hT 5 (K45 11110 1) ⟨34, [(2, .ptr 1 0 0 0), (33, .agg [.i a0.Client, .i a0.Seq, .i a0.Kind, .own 3 2 0 x1_r3.length, .i a0.Over.Lo, .i a0.Over.Hi, .i a0.Old])], [.box 30 (eC30 a0), .box 63 [.i 0, .i 0, .i 0, .ns, .i 0, .i 0, .i 0], .box 63 [.i a0.Client, .i a0.Seq, .i a0.Kind, .own 3 2 0 x1_r3.length, .i a0.Over.Lo, .i a0.Over.Hi, .i a0.Old], eR131 x1_r3]⟩ ?_
          refine ak_freeze 3 (kk := 2) (n := x1_r3.length) (ty := 131) (g := vec spliceref04_Pair.e spliceref04_Pair.z x1_r3) (by kernel_rfl) (st' := ⟨34, [(2, .ptr 1 0 0 0), (33, .agg [.i a0.Client, .i a0.Seq, .i a0.Kind, .own 3 2 0 x1_r3.length, .i a0.Over.Lo, .i a0.Over.Hi, .i a0.Old])], [.box 30 (eC30 a0), .box 63 [.i 0, .i 0, .i 0, .ns, .i 0, .i 0, .i 0], .box 63 [.i a0.Client, .i a0.Seq, .i a0.Kind, .own 3 2 0 x1_r3.length, .i a0.Over.Lo, .i a0.Over.Hi, .i a0.Old], eF131 x1_r3]⟩) (by kernel_rfl) ?_
          refine ak_sealS (av := .agg [.i a0.Client, .i a0.Seq, .i a0.Kind, .own 3 2 0 x1_r3.length, .i a0.Over.Lo, .i a0.Over.Hi, .i a0.Old]) (y := .agg [.i a0.Client, .i a0.Seq, .i a0.Kind, eL131 true x1_r3, .i a0.Over.Lo, .i a0.Over.Hi, .i a0.Old]) [2, 33] 33 (st' := ⟨34, [(2, .ptr 1 0 0 0), (33, .d (.agg [.i a0.Client, .i a0.Seq, .i a0.Kind, eL131 true x1_r3, .i a0.Over.Lo, .i a0.Over.Hi, .i a0.Old]))], [.box 30 (eC30 a0), .box 63 [.i 0, .i 0, .i 0, .ns, .i 0, .i 0, .i 0], .box 63 [.i a0.Client, .i a0.Seq, .i a0.Kind, .own 3 2 0 x1_r3.length, .i a0.Over.Lo, .i a0.Over.Hi, .i a0.Old], eF131 x1_r3]⟩) (by kernel_rfl) (.agg (.cons (.d _) (.cons (.d _) (.cons (.d _) (.cons (.own (ty := 131) (k := 2) (by kernel_rfl)) (.cons (.d _) (.cons (.d _) (.cons (.d _) .nil)))))))) (by kernel_rfl) ?_
          refine goK hT 2 (K45 1111 1) ⟨34, [(2, .ptr 1 0 0 0)], [.box 30 (eC30 a0), .box 63 [.i a0.Client, .i a0.Seq, .i a0.Kind, .d (eL131 true x1_r3), .i a0.Over.Lo, .i a0.Over.Hi, .i a0.Old], .box 63 [.i a0.Client, .i a0.Seq, .i a0.Kind, .own 3 2 0 x1_r3.length, .i a0.Over.Lo, .i a0.Over.Hi, .i a0.Old], eF131 x1_r3]⟩ ?_
          obtain rfl := retC H
          exact ak_retM hT hf hX (av := .d (.agg [.i a0.Client, .i a0.Seq, .i a0.Kind, eL131 true x1_r3, .i a0.Over.Lo, .i a0.Over.Hi, .i a0.Old])) (by kernel_rfl) [] (sel_of_eq (by kernel_rfl)) (by decide) (by rw [h0]; rfl) (by kernel_rfl) (fun _ h => all_nil h) (.d (.agg (spliceref04_Mut.nl _)))
  refine cutK [0, 1, 2, 3] ⟨34, [(1, .ptr 0 0 0 0), (2, .ptr 1 0 0 0), (3, .ptr 2 0 0 0), (4, .i 0)], [.box 30 (eC30 a0), .box 63 [.i 0, .i 0, .i 0, .ns, .i 0, .i 0, .i 0], .box 63 [.i a0.Client, .i a0.Seq, .i a0.Kind, .own 3 2 0 ([] : List spliceref04_Pair).length, .i a0.Over.Lo, .i a0.Over.Hi, .i a0.Old], eR131 ([] : List spliceref04_Pair)]⟩ h0 ?_
  obtain ⟨n, H⟩ := loopC H
  exact (L n) 0 ([] : List spliceref04_Pair) H


theorem splicelaw06_Ref.says (a0 : api_Held) {r : spliceref06_Held} (H : splicelaw06_Ref a0 = some r) : Says Try.prog 24 [] [.d (eG32 a0)] [] (.d (eG65 r)) := by
  refine says_of Try.func24 rfl (nt := 11) rfl (Nat.le_of_ble_eq_true rfl) fun X hP h0 hX => ?_
  have hT : TabOk X.P T := hP ▸ tok
  have hf : X.P.funcs[24]? = some Try.f24 := hP ▸ Try.func24
  refine goK hT 6 (K24 11 0) ⟨11, [(1, .ptr 0 0 0 0), (2, .ptr 1 0 0 0)], [.box 32 (eC32 a0), .box 65 [.i 0, .i 0, .i 0, .ns, .i 0, .i 0, .i 0, .i 0, .b false]]⟩ ?_
  obtain ⟨v1, h1, H⟩ := ibC H
  refine drawK (hP ▸ mixed) 7 [1, 2] [some (.ptr 0 0 0 0), some (.d (eG30 a0.M)), some (.d (eG63 v1)), some (.ptr 0 0 0 7), some (.i a0.Time), some (.ptr 0 0 0 8), some (.b a0.Final)] (opG (opG (opG (opG (opS (opG (opG op0 hT) hT) (fun R rest h => ak_callD (avs := [.d (eG30 a0.M)]) (dst := some 5) hP enters_45 (splicelaw04_Ref.says a0.M h1) (by kernel_rfl) (.cons (pass_d _) .nil) (by kernel_rfl) h)) hT) hT) hT) hT) ?_
  refine goK hT 3 (K24 11 1) ⟨11, [(2, .ptr 1 0 0 0)], [.box 32 (eC32 a0), .box 65 [.i v1.Client, .i v1.Seq, .i v1.Kind, .d (eL131 true v1.Pairs), .i v1.Over.Lo, .i v1.Over.Hi, .i v1.Old, .i a0.Time, .b a0.Final]]⟩ ?_
  obtain rfl := retC H
  exact ak_retM hT hf hX (av := .d (.agg [.i v1.Client, .i v1.Seq, .i v1.Kind, eL131 true v1.Pairs, .i v1.Over.Lo, .i v1.Over.Hi, .i v1.Old, .i a0.Time, .b a0.Final])) (by kernel_rfl) [] (sel_of_eq (by kernel_rfl)) (by decide) (by rw [h0]; rfl) (by kernel_rfl) (fun _ h => all_nil h) (.d (.agg (spliceref06_Held.nl _)))


theorem splicelaw06_Refs.says {t0 : Bool} (a0 : List api_Held) {r : List spliceref06_Held} (H : splicelaw06_Refs a0 = some r) : Says Try.prog 22 [] [.d (eL32 t0 a0)] [eR65 r] (.own 0 9 0 r.length) := by
  refine says_of Try.func22 rfl (nt := 20) rfl (Nat.le_of_ble_eq_true rfl) fun X hP h0 hX => ?_
  have hT : TabOk X.P T := hP ▸ tok
  have hf : X.P.funcs[22]? = some Try.f22 := hP ▸ Try.func22
  refine goK hT 15 (K22 111010 0) ⟨20, [(0, .d (eL32 t0 a0)), (3, .ns), (4, .i 0)], []⟩ ?_
  refine ak_nilS [0, 3, 4] 3 9 65 (vec spliceref06_Held.e spliceref06_Held.z []) (st' := ⟨20, [(0, .d (eL32 t0 a0)), (3, .own 0 9 0 0), (4, .i 0)], [eR65 ([] : List spliceref06_Held)]⟩) (by kernel_rfl) (by kernel_rfl) ?_
  have L : ∀ n, (∀ (x1_4 : Int) (x1_r0 : List spliceref06_Held), iter (splicelaw06_Refs.step a0) n (.l1 x1_4 x1_r0) = some r → AK X 22 ((K22 111010 0)) (Back X [eR65 r] (.own 0 9 0 r.length)) ⟨20, [(0, .d (eL32 t0 a0)), (3, .own 0 9 0 x1_r0.length), (4, .i x1_4)], [eR65 x1_r0]⟩) := by
    intro n
    induction n with
    | zero => exact fun _ _ H => iter0 H
    | succ n ih =>
      · intro x1_4 x1_r0 H
        refine goK hT 8 (K22 11101000 1) ⟨20, [(0, .d (eL32 t0 a0)), (3, .own 0 9 0 x1_r0.length), (4, .i x1_4), (8, .b (decide (x1_4 < (a0.length : Int))))], [eR65 x1_r0]⟩ ?_
        by_cases c1 : x1_4 < (a0.length : Int)
        · replace H := sT c1 H
          rw [decide_eq_true c1]
          refine goK hT 2 (K22 1110100 1) ⟨20, [(0, .d (eL32 t0 a0)), (3, .own 0 9 0 x1_r0.length), (4, .i x1_4)], [eR65 x1_r0]⟩ ?_
          refine goK hT 6 (K22 1110100100 3) ⟨20, [(0, .d (eL32 t0 a0)), (4, .i x1_4), (11, .own 0 9 0 x1_r0.length), (12, .d (eL32 t0 a0)), (13, .i x1_4)], [eR65 x1_r0]⟩ ?_
          obtain ⟨h2, H⟩ := sC H
          refine ak_idx hT [0, 4, 11, 14] (i := x1_4) (n := (a0.length : Int)) h2.1 h2.2 (k' := (K22 1110100100 4)) (st' := ⟨20, [(0, .d (eL32 t0 a0)), (4, .i x1_4), (11, .own 0 9 0 x1_r0.length), (14, .d (eP32 t0 a0 x1_4.toNat 0))], [eR65 x1_r0]⟩) (by kernel_rfl) ?_
          refine goK hT 1 (K22 1110100100 5) ⟨20, [(0, .d (eL32 t0 a0)), (4, .i x1_4), (11, .own 0 9 0 x1_r0.length), (15, .d (eG32 (a0.getD x1_4.toNat api_Held.z)))], [eR65 x1_r0]⟩ ?_
          obtain ⟨v1, h3, H⟩ := sbC H
          refine ak_callP (avs := [.d (eG32 (a0.getD x1_4.toNat api_Held.z))]) (dst := some 16) (k' := (K22 1110100100 6)) [0, 4, 11, 16] [] hP enters_24 (splicelaw06_Ref.says (a0.getD x1_4.toNat api_Held.z) h3) (by kernel_rfl) (hands_none _) (.cons (pass_d _) .nil) (st' := ⟨20, [(0, .d (eL32 t0 a0)), (4, .i x1_4), (11, .own 0 9 0 x1_r0.length), (16, .d (eG65 v1))], [eR65 x1_r0]⟩) (by kernel_rfl) ?_
          refine goK hT 1 (K22 1110100100 7) ⟨20, [(0, .d (eL32 t0 a0)), (4, .i x1_4), (11, .own 0 9 0 x1_r0.length), (17, .own 1 9 0 1)], [eR65 x1_r0, .flat false 9 65 1 (fun j => [spliceref06_Held.e v1].getD j [])]⟩ ?_
          obtain ⟨h4, H⟩ := sC H
          refine ak_append1 (id := 0) (kk := 9) (by' := 88) (t := 57) (e := 65) (z := [.int .i64 0, .int .i64 0, .int .i64 0, .slice none 0 0, .int .i64 0, .int .i64 0, .int .i64 0, .int .i64 0, .bool false]) (dst := some 18) (id2 := 1) (e2 := 65) (fz := false) (k' := (K22 1110100100 8)) hT spliceref06_Held.e spliceref06_Held.z x1_r0 v1 [0, 4, 18] (by kernel_rfl) (by kernel_rfl) (by kernel_rfl) (by kernel_rfl) (by kernel_rfl) (by kernel_rfl) (by kernel_rfl) h4 (by omega) (st' := ⟨20, [(0, .d (eL32 t0 a0)), (4, .i x1_4), (18, .own 2 9 0 ((x1_r0 ++ [v1]).length))], [.gone, .flat false 9 65 1 (fun j => [spliceref06_Held.e v1].getD j []), eR65 (x1_r0 ++ [v1])]⟩) (by kernel_rfl) ?_
          refine goK hT 9 (K22 111010 0) ⟨20, [(0, .d (eL32 t0 a0)), (3, .own 2 9 0 ((x1_r0 ++ [v1]).length)), (4, .i (IntKind.wrap .i64 (x1_4 + 1)))], [.gone, .flat false 9 65 1 (fun j => [spliceref06_Held.e v1].getD j []), eR65 (x1_r0 ++ [v1])]⟩ ?_
          refine cutK [2] ⟨20, [(0, .d (eL32 t0 a0)), (3, .own 0 9 0 (x1_r0 ++ [v1]).length), (4, .i (IntKind.wrap .i64 (x1_4 + 1)))], [eR65 (x1_r0 ++ [v1])]⟩ h0 ?_
          exact ih (IntKind.wrap .i64 (x1_4 + 1)) (x1_r0 ++ [v1]) H
        · replace H := sF c1 H
          rw [decide_eq_false c1]
          refine goK hT 7 (K22 1111 1) ⟨20, [(2, .own 0 9 0 x1_r0.length)], [eR65 x1_r0]⟩ ?_
          obtain rfl := retC H
          exact ak_ret hf hX (av := .own 0 9 0 x1_r0.length) (by kernel_rfl) [0] (sel_of_eq (by kernel_rfl)) (by decide) (by rw [h0]; rfl) (by kernel_rfl) (fun _ h => all_cons (nr_vec spliceref06_Held.nl) (fun _ h => all_nil h) h) (.own _ _ _ _)
  refine cutK [0] ⟨20, [(0, .d (eL32 t0 a0)), (3, .own 0 9 0 ([] : List spliceref06_Held).length), (4, .i 0)], [eR65 ([] : List spliceref06_Held)]⟩ h0 ?_
  obtain ⟨n, H⟩ := loopC H
  exact (L n) 0 ([] : List spliceref06_Held) H


theorem spliceref04_Same.says (a0 : spliceref04_Mut) (a1 : spliceref04_Mut) {r : Bool} (H : spliceref04_Same a0 a1 = some r) : Says Try.prog 47 [] [.d (eG63 a0), .d (eG63 a1)] [] (.b r) := by
  refine says_of Try.func47 rfl (nt := 66) rfl (Nat.le_of_ble_eq_true rfl) fun X hP h0 hX => ?_
  have hT : TabOk X.P T := hP ▸ tok
  have hf : X.P.funcs[47]? = some Try.f47 := hP ▸ Try.func47
  have Jj1 : ∀ (y1_47 : Bool), (spliceref04_Same.j1 a0 a1 y1_47) = some r → AK X 47 ((K47 110 1)) (Back X [] (.b r)) ⟨66, [(2, .ptr 0 0 0 0), (3, .ptr 1 0 0 0), (47, .b y1_47)], [.box 63 (eC63 a0), .box 63 (eC63 a1)]⟩ := by
    intro y1_47 H
    by_cases c8 : y1_47 = true
    · replace H := iT c8 H
      rw [c8]
      refine goK hT 5 (K47 11010 1) ⟨66, [(4, .b false)], [.box 63 (eC63 a0), .box 63 (eC63 a1)]⟩ ?_
      obtain rfl := retC H
      exact ak_ret hf hX (av := .b false) (by kernel_rfl) [] (sel_of_eq (by kernel_rfl)) (by decide) (by rw [h0]; rfl) (by kernel_rfl) (fun _ h => all_nil h) (.d (.v _))
    · replace H := iF c8 H
      rw [boF c8]
      refine goK hT 2 (K47 11 1) ⟨66, [(2, .ptr 0 0 0 0), (3, .ptr 1 0 0 0)], [.box 63 (eC63 a0), .box 63 (eC63 a1)]⟩ ?_
      refine goK hT 7 (K47 111010 0) ⟨66, [(2, .ptr 0 0 0 0), (3, .ptr 1 0 0 0), (5, .i 0)], [.box 63 (eC63 a0), .box 63 (eC63 a1)]⟩ ?_
      have L : ∀ n, (∀ (x1_5 : Int), iter (spliceref04_Same.step a0 a1) n (.l1 x1_5) = some r → AK X 47 ((K47 111010 0)) (Back X [] (.b r)) ⟨66, [(2, .ptr 0 0 0 0), (3, .ptr 1 0 0 0), (5, .i x1_5)], [.box 63 (eC63 a0), .box 63 (eC63 a1)]⟩) := by
        intro n
        induction n with
        | zero => exact fun _ H => iter0 H
        | succ n ih =>
          · intro x1_5 H
            refine goK hT 9 (K47 11101000 1) ⟨66, [(2, .ptr 0 0 0 0), (3, .ptr 1 0 0 0), (5, .i x1_5), (52, .b (decide (x1_5 < (a0.Pairs.length : Int))))], [.box 63 (eC63 a0), .box 63 (eC63 a1)]⟩ ?_
            by_cases c9 : x1_5 < (a0.Pairs.length : Int)
            · replace H := sT c9 H
              rw [decide_eq_true c9]
              refine goK hT 2 (K47 1110100 1) ⟨66, [(2, .ptr 0 0 0 0), (3, .ptr 1 0 0 0), (5, .i x1_5)], [.box 63 (eC63 a0), .box 63 (eC63 a1)]⟩ ?_
              refine goK hT 3 (K47 1110100100 0) ⟨66, [(2, .ptr 0 0 0 0), (3, .ptr 1 0 0 0), (5, .i x1_5)], [.box 63 (eC63 a0), .box 63 (eC63 a1)]⟩ ?_
              obtain ⟨h10, H⟩ := sC H
              obtain ⟨h11, H⟩ := sC H
              refine drawK (hP ▸ mixed) 11 [2, 3, 5] [some (.ptr 0 0 0 3), some (.d (eL131 true a0.Pairs)), some (.i x1_5), some (.d (eP131 true a0.Pairs x1_5.toNat 0)), some (.d (eG131 (a0.Pairs.getD x1_5.toNat spliceref04_Pair.z))), some (.ptr 1 0 0 3), some (.d (eL131 true a1.Pairs)), some (.i x1_5), some (.d (eP131 true a1.Pairs x1_5.toNat 0)), some (.d (eG131 (a1.Pairs.getD x1_5.toNat spliceref04_Pair.z))), some (.b (!((((a0.Pairs.getD x1_5.toNat spliceref04_Pair.z).Key) == ((a1.Pairs.getD x1_5.toNat spliceref04_Pair.z).Key)) && (((a0.Pairs.getD x1_5.toNat spliceref04_Pair.z).Val) == ((a1.Pairs.getD x1_5.toNat spliceref04_Pair.z).Val)))))] (opG (opG (opS (opG (opG (opG (opG (opS (opG (opG (opG op0 hT) hT) hT) (fun R rest h => ak_idx0 hT (i := x1_5) (n := (a0.Pairs.length : Int)) h10.1 h10.2 (by kernel_rfl) h)) hT) hT) hT) hT) (fun R rest h => ak_idx0 hT (i := x1_5) (n := (a1.Pairs.length : Int)) h11.1 h11.2 (by kernel_rfl) h)) hT) hT) ?_
              refine goK hT 1 (K47 1110100100 1) ⟨66, [(2, .ptr 0 0 0 0), (3, .ptr 1 0 0 0), (5, .i x1_5), (65, .b (!((((a0.Pairs.getD x1_5.toNat spliceref04_Pair.z).Key) == ((a1.Pairs.getD x1_5.toNat spliceref04_Pair.z).Key)) && (((a0.Pairs.getD x1_5.toNat spliceref04_Pair.z).Val) == ((a1.Pairs.getD x1_5.toNat spliceref04_Pair.z).Val)))))], [.box 63 (eC63 a0), .box 63 (eC63 a1)]⟩ ?_
              by_cases c12 : ((a0.Pairs.getD x1_5.toNat spliceref04_Pair.z).Key) = ((a1.Pairs.getD x1_5.toNat spliceref04_Pair.z).Key)
              · replace H := sT c12 H
                rw [eqT c12]
                by_cases c13 : ((a0.Pairs.getD x1_5.toNat spliceref04_Pair.z).Val) = ((a1.Pairs.getD x1_5.toNat spliceref04_Pair.z).Val)
                · replace H := sT c13 H
                  rw [eqT c13]
                  refine goK hT 3 (K47 11101001 1) ⟨66, [(2, .ptr 0 0 0 0), (3, .ptr 1 0 0 0), (5, .i x1_5)], [.box 63 (eC63 a0), .box 63 (eC63 a1)]⟩ ?_
                  refine goK hT 6 (K47 111010 0) ⟨66, [(2, .ptr 0 0 0 0), (3, .ptr 1 0 0 0), (5, .i (IntKind.wrap .i64 (x1_5 + 1)))], [.box 63 (eC63 a0), .box 63 (eC63 a1)]⟩ ?_
                  refine cutK [0, 1] ⟨66, [(2, .ptr 0 0 0 0), (3, .ptr 1 0 0 0), (5, .i (IntKind.wrap .i64 (x1_5 + 1)))], [.box 63 (eC63 a0), .box 63 (eC63 a1)]⟩ h0 ?_
                  exact ih (IntKind.wrap .i64 (x1_5 + 1)) H
                · replace H := sF c13 H
                  rw [eqF c13]
                  refine goK hT 5 (K47 111010010010 1) ⟨66, [(4, .b false)], [.box 63 (eC63 a0), .box 63 (eC63 a1)]⟩ ?_
                  obtain rfl := retC H
                  exact ak_ret hf hX (av := .b false) (by kernel_rfl) [] (sel_of_eq (by kernel_rfl)) (by decide) (by rw [h0]; rfl) (by kernel_rfl) (fun _ h => all_nil h) (.d (.v _))
              · replace H := sF c12 H
                rw [eqF c12]
                by_cases c14 : ((a0.Pairs.getD x1_5.toNat spliceref04_Pair.z).Val) = ((a1.Pairs.getD x1_5.toNat spliceref04_Pair.z).Val)
                · replace H := sT c14 H
                  rw [eqT c14]
                  refine goK hT 5 (K47 111010010010 1) ⟨66, [(4, .b false)], [.box 63 (eC63 a0), .box 63 (eC63 a1)]⟩ ?_
                  obtain rfl := retC H
                  exact ak_ret hf hX (av := .b false) (by kernel_rfl) [] (sel_of_eq (by kernel_rfl)) (by decide) (by rw [h0]; rfl) (by kernel_rfl) (fun _ h => all_nil h) (.d (.v _))
                · replace H := sF c14 H
                  rw [eqF c14]
                  refine goK hT 5 (K47 111010010010 1) ⟨66, [(4, .b false)], [.box 63 (eC63 a0), .box 63 (eC63 a1)]⟩ ?_
                  obtain rfl := retC H
                  exact ak_ret hf hX (av := .b false) (by kernel_rfl) [] (sel_of_eq (by kernel_rfl)) (by decide) (by rw [h0]; rfl) (by kernel_rfl) (fun _ h => all_nil h) (.d (.v _))
            · replace H := sF c9 H
              rw [decide_eq_false c9]
              refine goK hT 6 (K47 1111 1) ⟨66, [(4, .b true)], [.box 63 (eC63 a0), .box 63 (eC63 a1)]⟩ ?_
              obtain rfl := retC H
              exact ak_ret hf hX (av := .b true) (by kernel_rfl) [] (sel_of_eq (by kernel_rfl)) (by decide) (by rw [h0]; rfl) (by kernel_rfl) (fun _ h => all_nil h) (.d (.v _))
      refine cutK [0, 1] ⟨66, [(2, .ptr 0 0 0 0), (3, .ptr 1 0 0 0), (5, .i 0)], [.box 63 (eC63 a0), .box 63 (eC63 a1)]⟩ h0 ?_
      obtain ⟨n, H⟩ := loopC H
      exact (L n) 0 H
  refine goK hT 15 (K47 1100 6) ⟨66, [(2, .ptr 0 0 0 0), (3, .ptr 1 0 0 0), (11, .b (a0.Client != a1.Client))], [.box 63 (eC63 a0), .box 63 (eC63 a1)]⟩ ?_
  by_cases c1 : a0.Client = a1.Client
  · replace H := iT c1 H
    rw [neF c1]
    refine goK hT 7 (K47 1100 13) ⟨66, [(2, .ptr 0 0 0 0), (3, .ptr 1 0 0 0), (18, .b (a0.Seq != a1.Seq))], [.box 63 (eC63 a0), .box 63 (eC63 a1)]⟩ ?_
    by_cases c2 : a0.Seq = a1.Seq
    · replace H := iT c2 H
      rw [neF c2]
      refine goK hT 7 (K47 1100 20) ⟨66, [(2, .ptr 0 0 0 0), (3, .ptr 1 0 0 0), (25, .b (a0.Kind != a1.Kind))], [.box 63 (eC63 a0), .box 63 (eC63 a1)]⟩ ?_
      by_cases c3 : a0.Kind = a1.Kind
      · replace H := iT c3 H
        rw [neF c3]
        refine goK hT 7 (K47 1100 27) ⟨66, [(2, .ptr 0 0 0 0), (3, .ptr 1 0 0 0), (32, .b (!((a0.Over.Lo == a1.Over.Lo) && (a0.Over.Hi == a1.Over.Hi))))], [.box 63 (eC63 a0), .box 63 (eC63 a1)]⟩ ?_
        by_cases c4 : a0.Over.Lo = a1.Over.Lo
        · replace H := iT c4 H
          rw [eqT c4]
          by_cases c5 : a0.Over.Hi = a1.Over.Hi
          · replace H := iT c5 H
            rw [eqT c5]
            refine goK hT 7 (K47 1100 34) ⟨66, [(2, .ptr 0 0 0 0), (3, .ptr 1 0 0 0), (39, .b (a0.Old != a1.Old))], [.box 63 (eC63 a0), .box 63 (eC63 a1)]⟩ ?_
            by_cases c6 : a0.Old = a1.Old
            · replace H := iT c6 H
              rw [neF c6]
              refine goK hT 9 (K47 110 1) ⟨66, [(2, .ptr 0 0 0 0), (3, .ptr 1 0 0 0), (47, .b ((a0.Pairs.length : Int) != (a1.Pairs.length : Int)))], [.box 63 (eC63 a0), .box 63 (eC63 a1)]⟩ ?_
              refine cutK [0, 1] ⟨66, [(2, .ptr 0 0 0 0), (3, .ptr 1 0 0 0), (47, .b ((a0.Pairs.length : Int) != (a1.Pairs.length : Int)))], [.box 63 (eC63 a0), .box 63 (eC63 a1)]⟩ h0 ?_
              exact Jj1 ((a0.Pairs.length : Int) != (a1.Pairs.length : Int)) H
            · replace H := iF c6 H
              rw [neT c6]
              refine goK hT 9 (K47 110 1) ⟨66, [(2, .ptr 0 0 0 0), (3, .ptr 1 0 0 0), (47, .b true)], [.box 63 (eC63 a0), .box 63 (eC63 a1)]⟩ ?_
              refine cutK [0, 1] ⟨66, [(2, .ptr 0 0 0 0), (3, .ptr 1 0 0 0), (47, .b true)], [.box 63 (eC63 a0), .box 63 (eC63 a1)]⟩ h0 ?_
              exact Jj1 true H
          · replace H := iF c5 H
            rw [eqF c5]
            refine goK hT 16 (K47 110 1) ⟨66, [(2, .ptr 0 0 0 0), (3, .ptr 1 0 0 0), (47, .b true)], [.box 63 (eC63 a0), .box 63 (eC63 a1)]⟩ ?_
            refine cutK [0, 1] ⟨66, [(2, .ptr 0 0 0 0), (3, .ptr 1 0 0 0), (47, .b true)], [.box 63 (eC63 a0), .box 63 (eC63 a1)]⟩ h0 ?_
            exact Jj1 true H
        · replace H := iF c4 H
          rw [eqF c4]
          by_cases c7 : a0.Over.Hi = a1.Over.Hi
          · replace H := iT c7 H
            rw [eqT c7]
            refine goK hT 16 (K47 110 1) ⟨66, [(2, .ptr 0 0 0 0), (3, .ptr 1 0 0 0), (47, .b true)], [.box 63 (eC63 a0), .box 63 (eC63 a1)]⟩ ?_
            refine cutK [0, 1] ⟨66, [(2, .ptr 0 0 0 0), (3, .ptr 1 0 0 0), (47, .b true)], [.box 63 (eC63 a0), .box 63 (eC63 a1)]⟩ h0 ?_
            exact Jj1 true H
          · replace H := iF c7 H
            rw [eqF c7]
            refine goK hT 16 (K47 110 1) ⟨66, [(2, .ptr 0 0 0 0), (3, .ptr 1 0 0 0), (47, .b true)], [.box 63 (eC63 a0), .box 63 (eC63 a1)]⟩ ?_
            refine cutK [0, 1] ⟨66, [(2, .ptr 0 0 0 0), (3, .ptr 1 0 0 0), (47, .b true)], [.box 63 (eC63 a0), .box 63 (eC63 a1)]⟩ h0 ?_
            exact Jj1 true H
      · replace H := iF c3 H
        rw [neT c3]
        refine goK hT 23 (K47 110 1) ⟨66, [(2, .ptr 0 0 0 0), (3, .ptr 1 0 0 0), (47, .b true)], [.box 63 (eC63 a0), .box 63 (eC63 a1)]⟩ ?_
        refine cutK [0, 1] ⟨66, [(2, .ptr 0 0 0 0), (3, .ptr 1 0 0 0), (47, .b true)], [.box 63 (eC63 a0), .box 63 (eC63 a1)]⟩ h0 ?_
        exact Jj1 true H
    · replace H := iF c2 H
      rw [neT c2]
      refine goK hT 30 (K47 110 1) ⟨66, [(2, .ptr 0 0 0 0), (3, .ptr 1 0 0 0), (47, .b true)], [.box 63 (eC63 a0), .box 63 (eC63 a1)]⟩ ?_
      refine cutK [0, 1] ⟨66, [(2, .ptr 0 0 0 0), (3, .ptr 1 0 0 0), (47, .b true)], [.box 63 (eC63 a0), .box 63 (eC63 a1)]⟩ h0 ?_
      exact Jj1 true H
  · replace H := iF c1 H
    rw [neT c1]
    refine goK hT 37 (K47 110 1) ⟨66, [(2, .ptr 0 0 0 0), (3, .ptr 1 0 0 0), (47, .b true)], [.box 63 (eC63 a0), .box 63 (eC63 a1)]⟩ ?_
    refine cutK [0, 1] ⟨66, [(2, .ptr 0 0 0 0), (3, .ptr 1 0 0 0), (47, .b true)], [.box 63 (eC63 a0), .box 63 (eC63 a1)]⟩ h0 ?_
    exact Jj1 true H


theorem spliceref06_SameOne.says (a0 : spliceref06_Held) (a1 : spliceref06_Held) {r : Bool} (H : spliceref06_SameOne a0 a1 = some r) : Says Try.prog 27 [] [.d (eG65 a0), .d (eG65 a1)] [] (.b r) := by
  refine says_of Try.func27 rfl (nt := 24) rfl (Nat.le_of_ble_eq_true rfl) fun X hP h0 hX => ?_
  have hT : TabOk X.P T := hP ▸ tok
  have hf : X.P.funcs[27]? = some Try.f27 := hP ▸ Try.func27
  refine goK hT 12 (K27 110 4) ⟨24, [(2, .ptr 0 0 0 0), (3, .ptr 1 0 0 0), (6, .d (eG63 a0.M)), (8, .d (eG63 a1.M))], [.box 65 (eC65 a0), .box 65 (eC65 a1)]⟩ ?_
  obtain ⟨v1, h1, H⟩ := ibC H
  have Jj1 : ∀ (y1_4 : Bool), (spliceref06_SameOne.j1 y1_4) = some r → AK X 27 ((K27 11 1)) (Back X [] (.b r)) ⟨24, [(4, .b y1_4)], []⟩ := by
    intro y1_4 H
    obtain rfl := retC H
    exact ak_ret hf hX (av := .b y1_4) (by kernel_rfl) [] (sel_of_eq (by kernel_rfl)) (by decide) (by rw [h0]; rfl) (by kernel_rfl) (fun _ h => all_nil h) (.d (.v _))
  refine ak_callP (avs := [.d (eG63 a0.M), .d (eG63 a1.M)]) (dst := some 9) (k' := (K27 110 5)) [2, 3, 9] [] hP enters_47 (spliceref04_Same.says a0.M a1.M h1) (by kernel_rfl) (hands_none _) (.cons (pass_d _) (.cons (pass_d _) .nil)) (st' := ⟨24, [(2, .ptr 0 0 0 0), (3, .ptr 1 0 0 0), (9, .b v1)], [.box 65 (eC65 a0), .box 65 (eC65 a1)]⟩) (by kernel_rfl) ?_
  refine goK hT 1 (K27 110 6) ⟨24, [(2, .ptr 0 0 0 0), (3, .ptr 1 0 0 0), (10, .b v1)], [.box 65 (eC65 a0), .box 65 (eC65 a1)]⟩ ?_
  by_cases c2 : v1 = true
  · replace H := iT c2 H
    rw [c2]
    refine goK hT 7 (K27 110 13) ⟨24, [(2, .ptr 0 0 0 0), (3, .ptr 1 0 0 0), (17, .b (a0.Time == a1.Time))], [.box 65 (eC65 a0), .box 65 (eC65 a1)]⟩ ?_
    by_cases c3 : a0.Time = a1.Time
    · replace H := iT c3 H
      rw [eqT c3]
      refine goK hT 8 (K27 11 1) ⟨24, [(4, .b (a0.Final == a1.Final))], [.box 65 (eC65 a0), .box 65 (eC65 a1)]⟩ ?_
      refine cutK [] ⟨24, [(4, .b (a0.Final == a1.Final))], []⟩ h0 ?_
      exact Jj1 (a0.Final == a1.Final) H
    · replace H := iF c3 H
      rw [eqF c3]
      refine goK hT 8 (K27 11 1) ⟨24, [(4, .b false)], [.box 65 (eC65 a0), .box 65 (eC65 a1)]⟩ ?_
      refine cutK [] ⟨24, [(4, .b false)], []⟩ h0 ?_
      exact Jj1 false H
  · replace H := iF c2 H
    rw [boF c2]
    refine goK hT 15 (K27 11 1) ⟨24, [(4, .b false)], [.box 65 (eC65 a0), .box 65 (eC65 a1)]⟩ ?_
    refine cutK [] ⟨24, [(4, .b false)], []⟩ h0 ?_
    exact Jj1 false H


theorem spliceref06_Same.says {t0 : Bool} {t1 : Bool} (a0 : List spliceref06_Held) (a1 : List spliceref06_Held) {r : Bool} (H : spliceref06_Same a0 a1 = some r) : Says Try.prog 21 [] [.d (eL65 t0 a0), .d (eL65 t1 a1)] [] (.b r) := by
  refine says_of Try.func21 rfl (nt := 27) rfl (Nat.le_of_ble_eq_true rfl) fun X hP h0 hX => ?_
  have hT : TabOk X.P T := hP ▸ tok
  have hf : X.P.funcs[21]? = some Try.f21 := hP ▸ Try.func21
  refine goK hT 13 (K21 110 1) ⟨27, [(0, .d (eL65 t0 a0)), (1, .d (eL65 t1 a1)), (10, .b ((a0.length : Int) != (a1.length : Int)))], []⟩ ?_
  by_cases c1 : (a0.length : Int) = (a1.length : Int)
  · replace H := iT c1 H
    rw [neF c1]
    refine goK hT 2 (K21 11 1) ⟨27, [(0, .d (eL65 t0 a0)), (1, .d (eL65 t1 a1))], []⟩ ?_
    refine goK hT 7 (K21 111010 0) ⟨27, [(0, .d (eL65 t0 a0)), (1, .d (eL65 t1 a1)), (5, .i 0)], []⟩ ?_
    have L : ∀ n, (∀ (x1_5 : Int), iter (spliceref06_Same.step a0 a1) n (.l1 x1_5) = some r → AK X 21 ((K21 111010 0)) (Back X [] (.b r)) ⟨27, [(0, .d (eL65 t0 a0)), (1, .d (eL65 t1 a1)), (5, .i x1_5)], []⟩) := by
      intro n
      induction n with
      | zero => exact fun _ H => iter0 H
      | succ n ih =>
        · intro x1_5 H
          refine goK hT 8 (K21 11101000 1) ⟨27, [(0, .d (eL65 t0 a0)), (1, .d (eL65 t1 a1)), (5, .i x1_5), (14, .b (decide (x1_5 < (a0.length : Int))))], []⟩ ?_
          by_cases c2 : x1_5 < (a0.length : Int)
          · replace H := sT c2 H
            rw [decide_eq_true c2]
            refine goK hT 2 (K21 1110100 1) ⟨27, [(0, .d (eL65 t0 a0)), (1, .d (eL65 t1 a1)), (5, .i x1_5)], []⟩ ?_
            refine goK hT 3 (K21 1110100100 0) ⟨27, [(0, .d (eL65 t0 a0)), (1, .d (eL65 t1 a1)), (5, .i x1_5)], []⟩ ?_
            obtain ⟨h3, H⟩ := sC H
            obtain ⟨h4, H⟩ := sC H
            obtain ⟨v1, h5, H⟩ := sbC H
            refine drawK (hP ▸ mixed) 10 [0, 1, 5] [some (.d (eL65 t0 a0)), some (.i x1_5), some (.d (eP65 t0 a0 x1_5.toNat 0)), some (.d (eG65 (a0.getD x1_5.toNat spliceref06_Held.z))), some (.d (eL65 t1 a1)), some (.i x1_5), some (.d (eP65 t1 a1 x1_5.toNat 0)), some (.d (eG65 (a1.getD x1_5.toNat spliceref06_Held.z))), some (.b v1), some (.b (!v1))] (opG (opS (opG (opS (opG (opG (opG (opS (opG (opG op0 hT) hT) (fun R rest h => ak_idx0 hT (i := x1_5) (n := (a0.length : Int)) h3.1 h3.2 (by kernel_rfl) h)) hT) hT) hT) (fun R rest h => ak_idx0 hT (i := x1_5) (n := (a1.length : Int)) h4.1 h4.2 (by kernel_rfl) h)) hT) (fun R rest h => ak_callD (avs := [.d (eG65 (a0.getD x1_5.toNat spliceref06_Held.z)), .d (eG65 (a1.getD x1_5.toNat spliceref06_Held.z))]) (dst := some 25) hP enters_27 (spliceref06_SameOne.says (a0.getD x1_5.toNat spliceref06_Held.z) (a1.getD x1_5.toNat spliceref06_Held.z) h5) (by kernel_rfl) (.cons (pass_d _) (.cons (pass_d _) .nil)) (by kernel_rfl) h)) hT) ?_
            refine goK hT 1 (K21 1110100100 1) ⟨27, [(0, .d (eL65 t0 a0)), (1, .d (eL65 t1 a1)), (5, .i x1_5), (26, .b (!v1))], []⟩ ?_
            by_cases c6 : v1 = true
            · replace H := sT c6 H
              rw [c6]
              refine goK hT 3 (K21 11101001 1) ⟨27, [(0, .d (eL65 t0 a0)), (1, .d (eL65 t1 a1)), (5, .i x1_5)], []⟩ ?_
              refine goK hT 6 (K21 111010 0) ⟨27, [(0, .d (eL65 t0 a0)), (1, .d (eL65 t1 a1)), (5, .i (IntKind.wrap .i64 (x1_5 + 1)))], []⟩ ?_
              refine cutK [] ⟨27, [(0, .d (eL65 t0 a0)), (1, .d (eL65 t1 a1)), (5, .i (IntKind.wrap .i64 (x1_5 + 1)))], []⟩ h0 ?_
              exact ih (IntKind.wrap .i64 (x1_5 + 1)) H
            · replace H := sF c6 H
              rw [boF c6]
              refine goK hT 5 (K21 111010010010 1) ⟨27, [(4, .b false)], []⟩ ?_
              obtain rfl := retC H
              exact ak_ret hf hX (av := .b false) (by kernel_rfl) [] (sel_of_eq (by kernel_rfl)) (by decide) (by rw [h0]; rfl) (by kernel_rfl) (fun _ h => all_nil h) (.d (.v _))
          · replace H := sF c2 H
            rw [decide_eq_false c2]
            refine goK hT 6 (K21 1111 1) ⟨27, [(4, .b true)], []⟩ ?_
            obtain rfl := retC H
            exact ak_ret hf hX (av := .b true) (by kernel_rfl) [] (sel_of_eq (by kernel_rfl)) (by decide) (by rw [h0]; rfl) (by kernel_rfl) (fun _ h => all_nil h) (.d (.v _))
    refine cutK [] ⟨27, [(0, .d (eL65 t0 a0)), (1, .d (eL65 t1 a1)), (5, .i 0)], []⟩ h0 ?_
    obtain ⟨n, H⟩ := loopC H
    exact (L n) 0 H
  · replace H := iF c1 H
    rw [neT c1]
    refine goK hT 5 (K21 11010 1) ⟨27, [(4, .b false)], []⟩ ?_
    obtain rfl := retC H
    exact ak_ret hf hX (av := .b false) (by kernel_rfl) [] (sel_of_eq (by kernel_rfl)) (by decide) (by rw [h0]; rfl) (by kernel_rfl) (fun _ h => all_nil h) (.d (.v _))


theorem splicelaw06_HoldOrder.says {t0 : Bool} (a0 : List api_Held) {r : Bool} (H : splicelaw06_HoldOrder a0 = some r) : Says Try.prog 6 [] [.d (eL32 t0 a0)] [] (.b r) := by
  refine says_of Try.func6 rfl (nt := 83) rfl (Nat.le_of_ble_eq_true rfl) fun X hP h0 hX => ?_
  have hT : TabOk X.P T := hP ▸ tok
  have hf : X.P.funcs[6]? = some Try.f6 := hP ▸ Try.func6
  refine goK hT 6 (K6 110 0) ⟨83, [(0, .d (eL32 t0 a0))], []⟩ ?_
  refine ak_callP (avs := []) (dst := some 8) (k' := (K6 110 1)) [0, 8] [] hP enters_10 (qNew_says) (by kernel_rfl) (hands_none _) .nil (st' := ⟨83, [(0, .d (eL32 t0 a0)), (8, .ptr 0 0 0 0)], [qR qNew]⟩) (by kernel_rfl) ?_
  obtain ⟨v1, h1, H⟩ := idC H
  rw [← h1]
  refine ak_callP (avs := []) (dst := some 9) (k' := (K6 110 2)) [0, 8, 9] [] hP enters_10 (qNew_says) (by kernel_rfl) (hands_none _) .nil (st' := ⟨83, [(0, .d (eL32 t0 a0)), (8, .ptr 0 0 0 0), (9, .ptr 1 0 0 0)], [qR v1, qR qNew]⟩) (by kernel_rfl) ?_
  obtain ⟨v2, h2, H⟩ := idC H
  rw [← h2]
  refine goK hT 6 (K6 11100 0) ⟨83, [(0, .d (eL32 t0 a0)), (3, .ptr 0 0 0 0), (4, .ptr 1 0 0 0)], [qR v1, qR v2]⟩ ?_
  obtain ⟨v3, h3, H⟩ := ibC H
  have Jj1 : ∀ (y1_19 : Bool), (splicelaw06_HoldOrder.j1 a0 v1 v2 y1_19) = some r → AK X 6 ((K6 1110 1)) (Back X [] (.b r)) ⟨83, [(0, .d (eL32 t0 a0)), (3, .ptr 0 0 0 0), (4, .ptr 1 0 0 0), (19, .b y1_19)], [qR v1, qR v2]⟩ := by
    intro y1_19 H
    by_cases c5 : y1_19 = true
    · replace H := iT c5 H
      rw [c5]
      refine goK hT 5 (K6 111010 1) ⟨83, [(2, .b false)], [qR v1, qR v2]⟩ ?_
      obtain rfl := retC H
      exact ak_ret hf hX (av := .b false) (by kernel_rfl) [] (sel_of_eq (by kernel_rfl)) (by decide) (by rw [h0]; rfl) (by kernel_rfl) (fun _ h => all_nil h) (.d (.v _))
    · replace H := iF c5 H
      rw [boF c5]
      refine goK hT 2 (K6 111 1) ⟨83, [(0, .d (eL32 t0 a0)), (3, .ptr 0 0 0 0), (4, .ptr 1 0 0 0)], [qR v1, qR v2]⟩ ?_
      refine goK hT 11 (K6 11111010 0) ⟨83, [(0, .d (eL32 t0 a0)), (3, .ptr 0 0 0 0), (4, .ptr 1 0 0 0), (5, .ns), (6, .i 0)], [qR v1, qR v2]⟩ ?_
      refine ak_nilS [0, 3, 4, 5, 6] 5 9 32 (vec api_Held.e api_Held.z []) (st' := ⟨83, [(0, .d (eL32 t0 a0)), (3, .ptr 0 0 0 0), (4, .ptr 1 0 0 0), (5, .own 2 9 0 0), (6, .i 0)], [qR v1, qR v2, eR32 ([] : List api_Held)]⟩) (by kernel_rfl) (by kernel_rfl) ?_
      have L : ∀ n, (∀ (x1_6 : Int) (x1_r0 : QL) (x1_r2 : List api_Held), iter (splicelaw06_HoldOrder.step a0 v2) n (.l1 x1_6 x1_r0 x1_r2) = some r → AK X 6 ((K6 11111010 0)) (Back X [] (.b r)) ⟨83, [(0, .d (eL32 t0 a0)), (3, .ptr 0 0 0 0), (4, .ptr 1 0 0 0), (5, .own 2 9 0 x1_r2.length), (6, .i x1_6)], [qR x1_r0, qR v2, eR32 x1_r2]⟩) ∧ (∀ (x1_r0 : QL) (x1_r2 : List api_Held) (x2_7 : Int) (x2_r1 : QL), iter (splicelaw06_HoldOrder.step a0 v2) n (.l2 x1_r0 x1_r2 x2_7 x2_r1) = some r → AK X 6 ((K6 111111010 0)) (Back X [] (.b r)) ⟨83, [(3, .ptr 0 0 0 0), (4, .ptr 1 0 0 0), (5, .own 2 9 0 x1_r2.length), (7, .i x2_7)], [qR x1_r0, qR x2_r1, eR32 x1_r2]⟩) := by
        intro n
        induction n with
        | zero => exact ⟨fun _ _ _ H => iter0 H, fun _ _ _ _ H => iter0 H⟩
        | succ n ih =>
          refine ⟨?_, ?_⟩
          · intro x1_6 x1_r0 x1_r2 H
            have Jj2 : ∀ (y2_28 : Bool), stk (splicelaw06_HoldOrder.j2 a0 v2 x1_6 x1_r0 x1_r2 y2_28) (iter (splicelaw06_HoldOrder.step a0 v2) n) = some r → AK X 6 ((K6 1111101000 1)) (Back X [] (.b r)) ⟨83, [(0, .d (eL32 t0 a0)), (3, .ptr 0 0 0 0), (4, .ptr 1 0 0 0), (5, .own 2 9 0 x1_r2.length), (6, .i x1_6), (28, .b y2_28)], [qR x1_r0, qR v2, eR32 x1_r2]⟩ := by
              intro y2_28 H
              by_cases c7 : y2_28 = true
              · replace H := sT c7 H
                rw [c7]
                refine goK hT 2 (K6 111110100 1) ⟨83, [(0, .d (eL32 t0 a0)), (3, .ptr 0 0 0 0), (4, .ptr 1 0 0 0), (5, .own 2 9 0 x1_r2.length), (6, .i x1_6)], [qR x1_r0, qR v2, eR32 x1_r2]⟩ ?_
                refine goK hT 6 (K6 1111101001000 2) ⟨83, [(0, .d (eL32 t0 a0)), (3, .ptr 0 0 0 0), (4, .ptr 1 0 0 0), (5, .own 2 9 0 x1_r2.length), (6, .i x1_6), (31, .d (eL32 t0 a0)), (32, .i x1_6)], [qR x1_r0, qR v2, eR32 x1_r2]⟩ ?_
                obtain ⟨h8, H⟩ := sC H
                have Jj3 : ∀ (y3_47 : Bool) (y3_r0 : QL), stk (splicelaw06_HoldOrder.j3 a0 x1_6 x1_r2 y3_47 y3_r0) (iter (splicelaw06_HoldOrder.step a0 v2) n) = some r → AK X 6 ((K6 111110100100 1)) (Back X [] (.b r)) ⟨83, [(0, .d (eL32 t0 a0)), (3, .ptr 0 0 0 0), (4, .ptr 1 0 0 0), (5, .own 2 9 0 x1_r2.length), (6, .i x1_6), (47, .b y3_47)], [qR y3_r0, qR v2, eR32 x1_r2]⟩ := by
                  intro y3_47 y3_r0 H
                  have Jj4 : ∀ (y4_r2 : List api_Held), stk (splicelaw06_HoldOrder.j4 x1_6 y3_r0 y4_r2) (iter (splicelaw06_HoldOrder.step a0 v2) n) = some r → AK X 6 ((K6 1111101001 1)) (Back X [] (.b r)) ⟨83, [(0, .d (eL32 t0 a0)), (3, .ptr 0 0 0 0), (4, .ptr 1 0 0 0), (5, .own 2 9 0 y4_r2.length), (6, .i x1_6)], [qR y3_r0, qR v2, eR32 y4_r2]⟩ := by
                    intro y4_r2 H
                    refine goK hT 6 (K6 11111010 0) ⟨83, [(0, .d (eL32 t0 a0)), (3, .ptr 0 0 0 0), (4, .ptr 1 0 0 0), (5, .own 2 9 0 y4_r2.length), (6, .i (IntKind.wrap .i64 (x1_6 + 1)))], [qR y3_r0, qR v2, eR32 y4_r2]⟩ ?_
                    refine cutK [0, 1, 2] ⟨83, [(0, .d (eL32 t0 a0)), (3, .ptr 0 0 0 0), (4, .ptr 1 0 0 0), (5, .own 2 9 0 y4_r2.length), (6, .i (IntKind.wrap .i64 (x1_6 + 1)))], [qR y3_r0, qR v2, eR32 y4_r2]⟩ h0 ?_
                    exact ih.1 (IntKind.wrap .i64 (x1_6 + 1)) y3_r0 y4_r2 H
                  by_cases c11 : y3_47 = true
                  · replace H := sT c11 H
                    rw [c11]
                    refine goK hT 5 (K6 11111010010010 3) ⟨83, [(0, .d (eL32 t0 a0)), (3, .ptr 0 0 0 0), (4, .ptr 1 0 0 0), (6, .i x1_6), (48, .own 2 9 0 x1_r2.length), (49, .d (eL32 t0 a0)), (50, .i x1_6)], [qR y3_r0, qR v2, eR32 x1_r2]⟩ ?_
                    refine ak_idx hT [0, 3, 4, 6, 48, 51] (i := x1_6) (n := (a0.length : Int)) h8.1 h8.2 (k' := (K6 11111010010010 4)) (st' := ⟨83, [(0, .d (eL32 t0 a0)), (3, .ptr 0 0 0 0), (4, .ptr 1 0 0 0), (6, .i x1_6), (48, .own 2 9 0 x1_r2.length), (51, .d (eP32 t0 a0 x1_6.toNat 0))], [qR y3_r0, qR v2, eR32 x1_r2]⟩) (by kernel_rfl) ?_
                    refine goK hT 2 (K6 11111010010010 6) ⟨83, [(0, .d (eL32 t0 a0)), (3, .ptr 0 0 0 0), (4, .ptr 1 0 0 0), (6, .i x1_6), (48, .own 2 9 0 x1_r2.length), (53, .own 3 9 0 1)], [qR y3_r0, qR v2, eR32 x1_r2, .flat false 9 32 1 (fun j => [api_Held.e (a0.getD x1_6.toNat api_Held.z)].getD j [])]⟩ ?_
                    obtain ⟨h12, H⟩ := sC H
                    refine ak_append1 (id := 2) (kk := 9) (by' := 88) (t := 22) (e := 32) (z := [.int .i64 0, .int .i64 0, .int .i64 0, .slice none 0 0, .int .i64 0, .int .i64 0, .int .i64 0, .int .i64 0, .bool false]) (dst := some 54) (id2 := 3) (e2 := 32) (fz := false) (k' := (K6 11111010010010 7)) hT api_Held.e api_Held.z x1_r2 (a0.getD x1_6.toNat api_Held.z) [0, 3, 4, 6, 54] (by kernel_rfl) (by kernel_rfl) (by kernel_rfl) (by kernel_rfl) (by kernel_rfl) (by kernel_rfl) (by kernel_rfl) h12 (by omega) (st' := ⟨83, [(0, .d (eL32 t0 a0)), (3, .ptr 0 0 0 0), (4, .ptr 1 0 0 0), (6, .i x1_6), (54, .own 4 9 0 ((x1_r2 ++ [a0.getD x1_6.toNat api_Held.z]).length))], [qR y3_r0, qR v2, .gone, .flat false 9 32 1 (fun j => [api_Held.e (a0.getD x1_6.toNat api_Held.z)].getD j []), eR32 (x1_r2 ++ [a0.getD x1_6.toNat api_Held.z])]⟩) (by kernel_rfl) ?_
                    refine goK hT 3 (K6 1111101001 1) ⟨83, [(0, .d (eL32 t0 a0)), (3, .ptr 0 0 0 0), (4, .ptr 1 0 0 0), (5, .own 4 9 0 ((x1_r2 ++ [a0.getD x1_6.toNat api_Held.z]).length)), (6, .i x1_6)], [qR y3_r0, qR v2, .gone, .flat false 9 32 1 (fun j => [api_Held.e (a0.getD x1_6.toNat api_Held.z)].getD j []), eR32 (x1_r2 ++ [a0.getD x1_6.toNat api_Held.z])]⟩ ?_
                    refine cutK [0, 1, 4] ⟨83, [(0, .d (eL32 t0 a0)), (3, .ptr 0 0 0 0), (4, .ptr 1 0 0 0), (5, .own 2 9 0 (x1_r2 ++ [a0.getD x1_6.toNat api_Held.z]).length), (6, .i x1_6)], [qR y3_r0, qR v2, eR32 (x1_r2 ++ [a0.getD x1_6.toNat api_Held.z])]⟩ h0 ?_
                    exact Jj4 (x1_r2 ++ [a0.getD x1_6.toNat api_Held.z]) H
                  · replace H := sF c11 H
                    rw [boF c11]
                    refine goK hT 3 (K6 1111101001 1) ⟨83, [(0, .d (eL32 t0 a0)), (3, .ptr 0 0 0 0), (4, .ptr 1 0 0 0), (5, .own 2 9 0 x1_r2.length), (6, .i x1_6)], [qR y3_r0, qR v2, eR32 x1_r2]⟩ ?_
                    refine cutK [0, 1, 2] ⟨83, [(0, .d (eL32 t0 a0)), (3, .ptr 0 0 0 0), (4, .ptr 1 0 0 0), (5, .own 2 9 0 x1_r2.length), (6, .i x1_6)], [qR y3_r0, qR v2, eR32 x1_r2]⟩ h0 ?_
                    exact Jj4 x1_r2 H
                refine ak_idx hT [0, 3, 4, 5, 6, 33] (i := x1_6) (n := (a0.length : Int)) h8.1 h8.2 (k' := (K6 1111101001000 3)) (st' := ⟨83, [(0, .d (eL32 t0 a0)), (3, .ptr 0 0 0 0), (4, .ptr 1 0 0 0), (5, .own 2 9 0 x1_r2.length), (6, .i x1_6), (33, .d (eP32 t0 a0 x1_6.toNat 0))], [qR x1_r0, qR v2, eR32 x1_r2]⟩) (by kernel_rfl) ?_
                refine goK hT 6 (K6 1111101001000 9) ⟨83, [(0, .d (eL32 t0 a0)), (3, .ptr 0 0 0 0), (4, .ptr 1 0 0 0), (5, .own 2 9 0 x1_r2.length), (6, .i x1_6), (39, .b (decide (((((a0.getD x1_6.toNat api_Held.z).M).Pairs).length : Int) ≤ 20)))], [qR x1_r0, qR v2, eR32 x1_r2]⟩ ?_
                by_cases c9 : ((((a0.getD x1_6.toNat api_Held.z).M).Pairs).length : Int) ≤ 20
                · replace H := sT c9 H
                  rw [decide_eq_true c9]
                  refine goK hT 3 (K6 1111101001000 12) ⟨83, [(0, .d (eL32 t0 a0)), (3, .ptr 0 0 0 0), (4, .ptr 1 0 0 0), (5, .own 2 9 0 x1_r2.length), (6, .i x1_6), (39, .b true), (40, .ptr 0 0 0 0), (41, .d (eL32 t0 a0)), (42, .i x1_6)], [qR x1_r0, qR v2, eR32 x1_r2]⟩ ?_
                  refine ak_idx hT [0, 3, 4, 5, 6, 39, 40, 43] (i := x1_6) (n := (a0.length : Int)) h8.1 h8.2 (k' := (K6 1111101001000 13)) (st' := ⟨83, [(0, .d (eL32 t0 a0)), (3, .ptr 0 0 0 0), (4, .ptr 1 0 0 0), (5, .own 2 9 0 x1_r2.length), (6, .i x1_6), (39, .b true), (40, .ptr 0 0 0 0), (43, .d (eP32 t0 a0 x1_6.toNat 0))], [qR x1_r0, qR v2, eR32 x1_r2]⟩) (by kernel_rfl) ?_
                  refine goK hT 1 (K6 1111101001000 14) ⟨83, [(0, .d (eL32 t0 a0)), (3, .ptr 0 0 0 0), (4, .ptr 1 0 0 0), (5, .own 2 9 0 x1_r2.length), (6, .i x1_6), (39, .b true), (40, .ptr 0 0 0 0), (44, .d (eG32 (a0.getD x1_6.toNat api_Held.z)))], [qR x1_r0, qR v2, eR32 x1_r2]⟩ ?_
                  obtain ⟨v4, h10, H⟩ := sbC H
                  refine ak_callP (avs := [.ptr 0 0 0 0, .d (eG32 (a0.getD x1_6.toNat api_Held.z))]) (dst := some 45) (k' := (K6 1111101001000 15)) [0, 3, 4, 5, 6, 39, 45] [0] hP enters_12 (qAdd_says x1_r0 (a0.getD x1_6.toNat api_Held.z) h10) (by kernel_rfl) (hands_one rfl rfl) (.cons (.same (.ptr 0 0 0 0)) (.cons (pass_d _) .nil)) (st' := ⟨83, [(0, .d (eL32 t0 a0)), (3, .ptr 0 0 0 0), (4, .ptr 1 0 0 0), (5, .own 2 9 0 x1_r2.length), (6, .i x1_6), (39, .b true), (45, .i v4.1)], [qR v4.2, qR v2, eR32 x1_r2]⟩) (by kernel_rfl) ?_
                  refine goK hT 3 (K6 111110100100 1) ⟨83, [(0, .d (eL32 t0 a0)), (3, .ptr 0 0 0 0), (4, .ptr 1 0 0 0), (5, .own 2 9 0 x1_r2.length), (6, .i x1_6), (47, .b (v4.1 == 0))], [qR v4.2, qR v2, eR32 x1_r2]⟩ ?_
                  refine cutK [0, 1, 2] ⟨83, [(0, .d (eL32 t0 a0)), (3, .ptr 0 0 0 0), (4, .ptr 1 0 0 0), (5, .own 2 9 0 x1_r2.length), (6, .i x1_6), (47, .b (v4.1 == 0))], [qR v4.2, qR v2, eR32 x1_r2]⟩ h0 ?_
                  exact Jj3 (v4.1 == 0) v4.2 H
                · replace H := sF c9 H
                  rw [decide_eq_false c9]
                  refine goK hT 9 (K6 111110100100 1) ⟨83, [(0, .d (eL32 t0 a0)), (3, .ptr 0 0 0 0), (4, .ptr 1 0 0 0), (5, .own 2 9 0 x1_r2.length), (6, .i x1_6), (47, .b false)], [qR x1_r0, qR v2, eR32 x1_r2]⟩ ?_
                  refine cutK [0, 1, 2] ⟨83, [(0, .d (eL32 t0 a0)), (3, .ptr 0 0 0 0), (4, .ptr 1 0 0 0), (5, .own 2 9 0 x1_r2.length), (6, .i x1_6), (47, .b false)], [qR x1_r0, qR v2, eR32 x1_r2]⟩ h0 ?_
                  exact Jj3 false x1_r0 H
              · replace H := sF c7 H
                rw [boF c7]
                refine goK hT 12 (K6 111111010 0) ⟨83, [(3, .ptr 0 0 0 0), (4, .ptr 1 0 0 0), (5, .own 2 9 0 x1_r2.length), (7, .i (IntKind.wrap .i64 ((x1_r2.length : Int) - 1)))], [qR x1_r0, qR v2, eR32 x1_r2]⟩ ?_
                refine cutK [0, 1, 2] ⟨83, [(3, .ptr 0 0 0 0), (4, .ptr 1 0 0 0), (5, .own 2 9 0 x1_r2.length), (7, .i (IntKind.wrap .i64 ((x1_r2.length : Int) - 1)))], [qR x1_r0, qR v2, eR32 x1_r2]⟩ h0 ?_
                exact ih.2 x1_r0 x1_r2 (IntKind.wrap .i64 ((x1_r2.length : Int) - 1)) v2 H
            refine goK hT 8 (K6 11111010000 5) ⟨83, [(0, .d (eL32 t0 a0)), (3, .ptr 0 0 0 0), (4, .ptr 1 0 0 0), (5, .own 2 9 0 x1_r2.length), (6, .i x1_6), (24, .b (decide (x1_6 < (a0.length : Int))))], [qR x1_r0, qR v2, eR32 x1_r2]⟩ ?_
            by_cases c6 : x1_6 < (a0.length : Int)
            · replace H := sT c6 H
              rw [decide_eq_true c6]
              refine goK hT 5 (K6 1111101000 1) ⟨83, [(0, .d (eL32 t0 a0)), (3, .ptr 0 0 0 0), (4, .ptr 1 0 0 0), (5, .own 2 9 0 x1_r2.length), (6, .i x1_6), (28, .b (decide ((x1_r2.length : Int) < 60)))], [qR x1_r0, qR v2, eR32 x1_r2]⟩ ?_
              refine cutK [0, 1, 2] ⟨83, [(0, .d (eL32 t0 a0)), (3, .ptr 0 0 0 0), (4, .ptr 1 0 0 0), (5, .own 2 9 0 x1_r2.length), (6, .i x1_6), (28, .b (decide ((x1_r2.length : Int) < 60)))], [qR x1_r0, qR v2, eR32 x1_r2]⟩ h0 ?_
              exact Jj2 (decide ((x1_r2.length : Int) < 60)) H
            · replace H := sF c6 H
              rw [decide_eq_false c6]
              refine goK hT 5 (K6 1111101000 1) ⟨83, [(0, .d (eL32 t0 a0)), (3, .ptr 0 0 0 0), (4, .ptr 1 0 0 0), (5, .own 2 9 0 x1_r2.length), (6, .i x1_6), (28, .b false)], [qR x1_r0, qR v2, eR32 x1_r2]⟩ ?_
              refine cutK [0, 1, 2] ⟨83, [(0, .d (eL32 t0 a0)), (3, .ptr 0 0 0 0), (4, .ptr 1 0 0 0), (5, .own 2 9 0 x1_r2.length), (6, .i x1_6), (28, .b false)], [qR x1_r0, qR v2, eR32 x1_r2]⟩ h0 ?_
              exact Jj2 false H
          · intro x1_r0 x1_r2 x2_7 x2_r1 H
            refine goK hT 6 (K6 11111101000 1) ⟨83, [(3, .ptr 0 0 0 0), (4, .ptr 1 0 0 0), (5, .own 2 9 0 x1_r2.length), (7, .i x2_7), (59, .b (decide (x2_7 ≥ 0)))], [qR x1_r0, qR x2_r1, eR32 x1_r2]⟩ ?_
            by_cases c13 : x2_7 ≥ 0
            · replace H := sT c13 H
              rw [decide_eq_true c13]
              refine goK hT 2 (K6 1111110100 1) ⟨83, [(3, .ptr 0 0 0 0), (4, .ptr 1 0 0 0), (5, .own 2 9 0 x1_r2.length), (7, .i x2_7)], [qR x1_r0, qR x2_r1, eR32 x1_r2]⟩ ?_
              refine goK hT 7 (K6 11111101001000 3) ⟨83, [(3, .ptr 0 0 0 0), (4, .ptr 1 0 0 0), (5, .own 2 9 0 x1_r2.length), (7, .i x2_7), (62, .ptr 1 0 0 0), (63, .own 2 9 0 x1_r2.length), (64, .i x2_7)], [qR x1_r0, qR x2_r1, eR32 x1_r2]⟩ ?_
              obtain ⟨h20, H⟩ := sC H
              refine ak_idx hT [3, 4, 5, 7, 62, 65] (i := x2_7) (n := (x1_r2.length : Int)) h20.1 h20.2 (k' := (K6 11111101001000 4)) (st' := ⟨83, [(3, .ptr 0 0 0 0), (4, .ptr 1 0 0 0), (5, .own 2 9 0 x1_r2.length), (7, .i x2_7), (62, .ptr 1 0 0 0), (65, .ptr 2 9 x2_7.toNat 0)], [qR x1_r0, qR x2_r1, eR32 x1_r2]⟩) (by kernel_rfl) ?_
              refine ak_ld hT [3, 4, 5, 7, 62, 66] (i := x2_7.toNat) (n := x1_r2.length) (ltN h20.1 h20.2) (k' := (K6 11111101001000 5)) (st' := ⟨83, [(3, .ptr 0 0 0 0), (4, .ptr 1 0 0 0), (5, .own 2 9 0 x1_r2.length), (7, .i x2_7), (62, .ptr 1 0 0 0), (66, .d (eG32 (x1_r2.getD x2_7.toNat api_Held.z)))], [qR x1_r0, qR x2_r1, eR32 x1_r2]⟩) (by kernel_rfl) ?_
              obtain ⟨v10, h21, H⟩ := sbC H
              refine ak_callP (avs := [.ptr 1 0 0 0, .d (eG32 (x1_r2.getD x2_7.toNat api_Held.z))]) (dst := some 67) (k' := (K6 11111101001000 6)) [3, 4, 5, 7, 67] [1] hP enters_12 (qAdd_says x2_r1 (x1_r2.getD x2_7.toNat api_Held.z) h21) (by kernel_rfl) (hands_one rfl rfl) (.cons (.same (.ptr 0 0 0 0)) (.cons (pass_d _) .nil)) (st' := ⟨83, [(3, .ptr 0 0 0 0), (4, .ptr 1 0 0 0), (5, .own 2 9 0 x1_r2.length), (7, .i x2_7), (67, .i v10.1)], [qR x1_r0, qR v10.2, eR32 x1_r2]⟩) (by kernel_rfl) ?_
              refine goK hT 2 (K6 1111110100100 1) ⟨83, [(3, .ptr 0 0 0 0), (4, .ptr 1 0 0 0), (5, .own 2 9 0 x1_r2.length), (7, .i x2_7), (68, .b (v10.1 != 0))], [qR x1_r0, qR v10.2, eR32 x1_r2]⟩ ?_
              by_cases c22 : v10.1 = 0
              · replace H := sT c22 H
                rw [neF c22]
                refine goK hT 3 (K6 11111101001 1) ⟨83, [(3, .ptr 0 0 0 0), (4, .ptr 1 0 0 0), (5, .own 2 9 0 x1_r2.length), (7, .i x2_7)], [qR x1_r0, qR v10.2, eR32 x1_r2]⟩ ?_
                refine goK hT 6 (K6 111111010 0) ⟨83, [(3, .ptr 0 0 0 0), (4, .ptr 1 0 0 0), (5, .own 2 9 0 x1_r2.length), (7, .i (IntKind.wrap .i64 (x2_7 - 1)))], [qR x1_r0, qR v10.2, eR32 x1_r2]⟩ ?_
                refine cutK [0, 1, 2] ⟨83, [(3, .ptr 0 0 0 0), (4, .ptr 1 0 0 0), (5, .own 2 9 0 x1_r2.length), (7, .i (IntKind.wrap .i64 (x2_7 - 1)))], [qR x1_r0, qR v10.2, eR32 x1_r2]⟩ h0 ?_
                exact ih.2 x1_r0 x1_r2 (IntKind.wrap .i64 (x2_7 - 1)) v10.2 H
              · replace H := sF c22 H
                rw [neT c22]
                refine goK hT 5 (K6 111111010010010 1) ⟨83, [(2, .b false)], [qR x1_r0, qR v10.2, eR32 x1_r2]⟩ ?_
                obtain rfl := retC H
                exact ak_ret hf hX (av := .b false) (by kernel_rfl) [] (sel_of_eq (by kernel_rfl)) (by decide) (by rw [h0]; rfl) (by kernel_rfl) (fun _ h => all_nil h) (.d (.v _))
            · replace H := sF c13 H
              rw [decide_eq_false c13]
              refine goK hT 5 (K6 11111110 1) ⟨83, [(3, .ptr 0 0 0 0), (4, .ptr 1 0 0 0), (69, .ptr 0 0 0 0)], [qR x1_r0, qR x2_r1, eR32 x1_r2]⟩ ?_
              obtain ⟨v5, h14, H⟩ := sbC H
              refine ak_callP (avs := [.ptr 0 0 0 0]) (dst := some 70) (k' := (K6 11111110 2)) [3, 4, 70] [0] hP enters_23 (qAll_says x1_r0 h14) (by kernel_rfl) (hands_one rfl rfl) (.cons (.same (.ptr 0 0 0 0)) .nil) (st' := ⟨83, [(3, .ptr 0 0 0 0), (4, .ptr 1 0 0 0), (70, .own 3 9 0 v5.length)], [qR x1_r0, qR x2_r1, eR32 x1_r2, eR32 v5]⟩) (by kernel_rfl) ?_
              obtain ⟨v6, h15, H⟩ := sbC H
              refine ak_callP (avs := [.own 3 9 0 v5.length]) (dst := some 71) (k' := (K6 11111110 3)) [3, 4, 71] [] hP enters_22 (splicelaw06_Refs.says (t0 := false) v5 h15) (by kernel_rfl) (hands_none _) (.cons (.lend (ty := 32) (by kernel_rfl) rfl) .nil) (st' := ⟨83, [(3, .ptr 0 0 0 0), (4, .ptr 1 0 0 0), (71, .own 4 9 0 v6.length)], [qR x1_r0, qR x2_r1, eR32 x1_r2, eR32 v5, eR65 v6]⟩) (by kernel_rfl) ?_
              refine goK hT 1 (K6 11111110 4) ⟨83, [(3, .ptr 0 0 0 0), (4, .ptr 1 0 0 0), (71, .own 4 9 0 v6.length), (72, .ptr 1 0 0 0)], [qR x1_r0, qR x2_r1, eR32 x1_r2, eR32 v5, eR65 v6]⟩ ?_
              obtain ⟨v7, h16, H⟩ := sbC H
              refine ak_callP (avs := [.ptr 1 0 0 0]) (dst := some 73) (k' := (K6 11111110 5)) [3, 4, 71, 73] [1] hP enters_23 (qAll_says x2_r1 h16) (by kernel_rfl) (hands_one rfl rfl) (.cons (.same (.ptr 0 0 0 0)) .nil) (st' := ⟨83, [(3, .ptr 0 0 0 0), (4, .ptr 1 0 0 0), (71, .own 4 9 0 v6.length), (73, .own 5 9 0 v7.length)], [qR x1_r0, qR x2_r1, eR32 x1_r2, eR32 v5, eR65 v6, eR32 v7]⟩) (by kernel_rfl) ?_
              obtain ⟨v8, h17, H⟩ := sbC H
              refine ak_callP (avs := [.own 5 9 0 v7.length]) (dst := some 74) (k' := (K6 11111110 6)) [3, 4, 71, 74] [] hP enters_22 (splicelaw06_Refs.says (t0 := false) v7 h17) (by kernel_rfl) (hands_none _) (.cons (.lend (ty := 32) (by kernel_rfl) rfl) .nil) (st' := ⟨83, [(3, .ptr 0 0 0 0), (4, .ptr 1 0 0 0), (71, .own 4 9 0 v6.length), (74, .own 6 9 0 v8.length)], [qR x1_r0, qR x2_r1, eR32 x1_r2, eR32 v5, eR65 v6, eR32 v7, eR65 v8]⟩) (by kernel_rfl) ?_
              obtain ⟨v9, h18, H⟩ := sbC H
              have Jj5 : ∀ (y5_2 : Bool), stk (splicelaw06_HoldOrder.j5 y5_2) (iter (splicelaw06_HoldOrder.step a0 v2) n) = some r → AK X 6 ((K6 1111111 1)) (Back X [] (.b r)) ⟨83, [(2, .b y5_2)], []⟩ := by
                intro y5_2 H
                obtain rfl := retC H
                exact ak_ret hf hX (av := .b y5_2) (by kernel_rfl) [] (sel_of_eq (by kernel_rfl)) (by decide) (by rw [h0]; rfl) (by kernel_rfl) (fun _ h => all_nil h) (.d (.v _))
              refine ak_callP (avs := [.own 4 9 0 v6.length, .own 6 9 0 v8.length]) (dst := some 75) (k' := (K6 11111110 7)) [3, 4, 75] [] hP enters_21 (spliceref06_Same.says (t0 := false) (t1 := false) v6 v8 h18) (by kernel_rfl) (hands_none _) (.cons (.lend (ty := 65) (by kernel_rfl) rfl) (.cons (.lend (ty := 65) (by kernel_rfl) rfl) .nil)) (st' := ⟨83, [(3, .ptr 0 0 0 0), (4, .ptr 1 0 0 0), (75, .b v9)], [qR x1_r0, qR x2_r1, eR32 x1_r2, eR32 v5, eR65 v6, eR32 v7, eR65 v8]⟩) (by kernel_rfl) ?_
              refine goK hT 1 (K6 11111110 8) ⟨83, [(3, .ptr 0 0 0 0), (4, .ptr 1 0 0 0), (76, .b v9)], [qR x1_r0, qR x2_r1, eR32 x1_r2, eR32 v5, eR65 v6, eR32 v7, eR65 v8]⟩ ?_
              by_cases c19 : v9 = true
              · replace H := sT c19 H
                rw [c19]
                refine goK hT 1 (K6 11111110 9) ⟨83, [(4, .ptr 1 0 0 0), (76, .b true), (77, .ptr 0 0 0 0)], [qR x1_r0, qR x2_r1, eR32 x1_r2, eR32 v5, eR65 v6, eR32 v7, eR65 v8]⟩ ?_
                refine ak_callP (avs := [.ptr 0 0 0 0, .i 5]) (dst := some 78) (k' := (K6 11111110 10)) [4, 76, 78] [0] hP enters_20 (qFloor_says x1_r0 5) (by kernel_rfl) (hands_one rfl rfl) (.cons (.same (.ptr 0 0 0 0)) (.cons (pass_d _) .nil)) (st' := ⟨83, [(4, .ptr 1 0 0 0), (76, .b true), (78, .i (qFloor x1_r0 5))], [qR x1_r0, qR x2_r1, eR32 x1_r2, eR32 v5, eR65 v6, eR32 v7, eR65 v8]⟩) (by kernel_rfl) ?_
                refine goK hT 1 (K6 11111110 11) ⟨83, [(76, .b true), (78, .i (qFloor x1_r0 5)), (79, .ptr 1 0 0 0)], [qR x1_r0, qR x2_r1, eR32 x1_r2, eR32 v5, eR65 v6, eR32 v7, eR65 v8]⟩ ?_
                refine ak_callP (avs := [.ptr 1 0 0 0, .i 5]) (dst := some 80) (k' := (K6 11111110 12)) [76, 78, 80] [1] hP enters_20 (qFloor_says x2_r1 5) (by kernel_rfl) (hands_one rfl rfl) (.cons (.same (.ptr 0 0 0 0)) (.cons (pass_d _) .nil)) (st' := ⟨83, [(76, .b true), (78, .i (qFloor x1_r0 5)), (80, .i (qFloor x2_r1 5))], [qR x1_r0, qR x2_r1, eR32 x1_r2, eR32 v5, eR65 v6, eR32 v7, eR65 v8]⟩) (by kernel_rfl) ?_
                refine goK hT 4 (K6 1111111 1) ⟨83, [(2, .b ((qFloor x1_r0 5) == (qFloor x2_r1 5)))], [qR x1_r0, qR x2_r1, eR32 x1_r2, eR32 v5, eR65 v6, eR32 v7, eR65 v8]⟩ ?_
                refine cutK [] ⟨83, [(2, .b ((qFloor x1_r0 5) == (qFloor x2_r1 5)))], []⟩ h0 ?_
                exact Jj5 ((qFloor x1_r0 5) == (qFloor x2_r1 5)) H
              · replace H := sF c19 H
                rw [boF c19]
                refine goK hT 8 (K6 1111111 1) ⟨83, [(2, .b false)], [qR x1_r0, qR x2_r1, eR32 x1_r2, eR32 v5, eR65 v6, eR32 v7, eR65 v8]⟩ ?_
                refine cutK [] ⟨83, [(2, .b false)], []⟩ h0 ?_
                exact Jj5 false H
      refine cutK [0, 1, 2] ⟨83, [(0, .d (eL32 t0 a0)), (3, .ptr 0 0 0 0), (4, .ptr 1 0 0 0), (5, .own 2 9 0 ([] : List api_Held).length), (6, .i 0)], [qR v1, qR v2, eR32 ([] : List api_Held)]⟩ h0 ?_
      obtain ⟨n, H⟩ := loopC H
      exact (L n).1 0 v1 ([] : List api_Held) H
  refine ak_callP (avs := []) (dst := some 10) (k' := (K6 11100 1)) [0, 3, 4, 10] [] hP enters_11 (splicelaw06_awake.says h3) (by kernel_rfl) (hands_none _) .nil (st' := ⟨83, [(0, .d (eL32 t0 a0)), (3, .ptr 0 0 0 0), (4, .ptr 1 0 0 0), (10, .b v3)], [qR v1, qR v2]⟩) (by kernel_rfl) ?_
  refine goK hT 2 (K6 11100 3) ⟨83, [(0, .d (eL32 t0 a0)), (3, .ptr 0 0 0 0), (4, .ptr 1 0 0 0), (12, .b (!v3))], [qR v1, qR v2]⟩ ?_
  by_cases c4 : v3 = true
  · replace H := iT c4 H
    rw [c4]
    refine goK hT 8 (K6 1110 1) ⟨83, [(0, .d (eL32 t0 a0)), (3, .ptr 0 0 0 0), (4, .ptr 1 0 0 0), (19, .b false)], [qR v1, qR v2]⟩ ?_
    refine cutK [0, 1] ⟨83, [(0, .d (eL32 t0 a0)), (3, .ptr 0 0 0 0), (4, .ptr 1 0 0 0), (19, .b false)], [qR v1, qR v2]⟩ h0 ?_
    exact Jj1 false H
  · replace H := iF c4 H
    rw [boF c4]
    refine goK hT 8 (K6 1110 1) ⟨83, [(0, .d (eL32 t0 a0)), (3, .ptr 0 0 0 0), (4, .ptr 1 0 0 0), (19, .b true)], [qR v1, qR v2]⟩ ?_
    refine cutK [0, 1] ⟨83, [(0, .d (eL32 t0 a0)), (3, .ptr 0 0 0 0), (4, .ptr 1 0 0 0), (19, .b true)], [qR v1, qR v2]⟩ h0 ?_
    exact Jj1 true H
end Go.SyP
