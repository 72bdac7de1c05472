/- Certificates, printed by gen.py. -/
import Derived.Test.YtboaahlhgekbbaaG06LP
import Derived.Test.YtboaahlhgekbbaaG06B
set_option linter.unusedVariables false
set_option linter.unusedSimpArgs false
namespace Go.SyP
open Go Go.Sy Go.Proofs


theorem splicelaw06_del.says (a0 : Int) (a1 : Int) : Says Try.prog 31 [] [.i a0, .i a1] [] (.d (eG30 (splicelaw06_del a0 a1))) := by
  obtain ⟨r, H⟩ : ∃ r, splicelaw06_del a0 a1 = r := ⟨_, rfl⟩
  rw [H]
  refine says_of Try.func31 rfl (nt := 9) rfl (Nat.le_of_ble_eq_true rfl) fun X hP h0 hX => ?_
  have hT : TabOk X.P T := hP ▸ tok
  have hf : X.P.funcs[31]? = some Try.f31 := hP ▸ Try.func31
  refine goK hT 10 (K31 110 4) ⟨9, [(4, .ptr 0 0 0 0), (8, .d (.agg [.i a0, .i a1, .i 2, .ns, .i 1, .i 2, .i 0]))], [.box 30 [.i 0, .i 0, .i 0, .ns, .i 0, .i 0, .i 0]]⟩ ?_
  refine ak_sealS (av := .d (.agg [.i a0, .i a1, .i 2, .ns, .i 1, .i 2, .i 0])) (y := .agg [.i a0, .i a1, .i 2, eL70 true ([] : List api_Pair), .i 1, .i 2, .i 0]) [4, 8] 8 (st' := ⟨9, [(4, .ptr 0 0 0 0), (8, .d (.agg [.i a0, .i a1, .i 2, eL70 true ([] : List api_Pair), .i 1, .i 2, .i 0]))], [.box 30 [.i 0, .i 0, .i 0, .ns, .i 0, .i 0, .i 0]]⟩) (by kernel_rfl) (.aggd (.cons (.d _) (.cons (.d _) (.cons (.d _) (.cons (.nil _) (.cons (.d _) (.cons (.d _) (.cons (.d _) .nil)))))))) (by kernel_rfl) ?_
  refine goK hT 2 (K31 11 1) ⟨9, [(4, .ptr 0 0 0 0)], [.box 30 [.i a0, .i a1, .i 2, .d (eL70 true ([] : List api_Pair)), .i 1, .i 2, .i 0]]⟩ ?_
  obtain rfl := H
  exact ak_retM hT hf hX (av := .d (.agg [.i a0, .i a1, .i 2, eL70 true ([] : List api_Pair), .i 1, .i 2, .i 0])) (by kernel_rfl) [] (sel_of_eq (by kernel_rfl)) (by decide) (by rw [h0]; rfl) (by kernel_rfl) (fun _ h => all_nil h) (.d (.agg (api_Mut.nl _)))


theorem splicelaw06_awake.says {r : Bool} (H : splicelaw06_awake = some r) : Says Try.prog 11 [] [] [] (.b r) := by
  refine says_of Try.func11 rfl (nt := 87) rfl (Nat.le_of_ble_eq_true rfl) fun X hP h0 hX => ?_
  have hT : TabOk X.P T := hP ▸ tok
  have hf : X.P.funcs[11]? = some Try.f11 := hP ▸ Try.func11
  refine goK hT 6 (K11 110 0) ⟨87, [], []⟩ ?_
  refine ak_callP (avs := []) (dst := some 13) (k' := (K11 110 1)) [13] [] hP enters_10 (qNew_says) (by kernel_rfl) (hands_none _) .nil (st' := ⟨87, [(13, .ptr 0 0 0 0)], [qR qNew]⟩) (by kernel_rfl) ?_
  obtain ⟨v1, h1, H⟩ := idC H
  rw [← h1]
  refine goK hT 5 (K11 1110 1) ⟨87, [(1, .ptr 0 0 0 0), (14, .ptr 0 0 0 0)], [qR v1]⟩ ?_
  refine ak_callP (avs := [.i 1, .i 1]) (dst := some 15) (k' := (K11 1110 2)) [1, 14, 15] [] hP enters_31 (splicelaw06_del.says 1 1) (by kernel_rfl) (hands_none _) (.cons (pass_d _) (.cons (pass_d _) .nil)) (st' := ⟨87, [(1, .ptr 0 0 0 0), (14, .ptr 0 0 0 0), (15, .d (eG30 (splicelaw06_del 1 1)))], [qR v1]⟩) (by kernel_rfl) ?_
  obtain ⟨v2, h2, H⟩ := idC H
  rw [← h2]
  refine goK hT 1 (K11 1110 3) ⟨87, [(1, .ptr 0 0 0 0), (14, .ptr 0 0 0 0), (16, .d (.agg [.i v2.Client, .i v2.Seq, .i v2.Kind, eL70 true v2.Pairs, .i ((v2.Over).Lo), .i ((v2.Over).Hi), .i v2.Old, .i 5, .b false]))], [qR v1]⟩ ?_
  obtain ⟨v3, h3, H⟩ := ibC H
  refine ak_callP (avs := [.ptr 0 0 0 0, .d (.agg [.i v2.Client, .i v2.Seq, .i v2.Kind, eL70 true v2.Pairs, .i ((v2.Over).Lo), .i ((v2.Over).Hi), .i v2.Old, .i 5, .b false])]) (dst := some 17) (k' := (K11 1110 4)) [1, 17] [0] hP enters_12 (qAdd_says v1 (⟨(⟨v2.Client, v2.Seq, v2.Kind, v2.Pairs, (v2.Over), v2.Old⟩ : api_Mut), 5, false⟩ : api_Held) h3) (by kernel_rfl) (hands_one rfl rfl) (.cons (.same (.ptr 0 0 0 0)) (.cons (pass_d _) .nil)) (st' := ⟨87, [(1, .ptr 0 0 0 0), (17, .i v3.1)], [qR v3.2]⟩) (by kernel_rfl) ?_
  refine goK hT 5 (K11 11110 1) ⟨87, [(1, .ptr 0 0 0 0), (2, .i v3.1), (18, .ptr 0 0 0 0)], [qR v3.2]⟩ ?_
  refine ak_callP (avs := [.i 2, .i 1]) (dst := some 19) (k' := (K11 11110 2)) [1, 2, 18, 19] [] hP enters_31 (splicelaw06_del.says 2 1) (by kernel_rfl) (hands_none _) (.cons (pass_d _) (.cons (pass_d _) .nil)) (st' := ⟨87, [(1, .ptr 0 0 0 0), (2, .i v3.1), (18, .ptr 0 0 0 0), (19, .d (eG30 (splicelaw06_del 2 1)))], [qR v3.2]⟩) (by kernel_rfl) ?_
  obtain ⟨v4, h4, H⟩ := idC H
  rw [← h4]
  refine goK hT 1 (K11 11110 3) ⟨87, [(1, .ptr 0 0 0 0), (2, .i v3.1), (18, .ptr 0 0 0 0), (20, .d (.agg [.i v4.Client, .i v4.Seq, .i v4.Kind, eL70 true v4.Pairs, .i ((v4.Over).Lo), .i ((v4.Over).Hi), .i v4.Old, .i 3, .b false]))], [qR v3.2]⟩ ?_
  obtain ⟨v5, h5, H⟩ := ibC H
  refine ak_callP (avs := [.ptr 0 0 0 0, .d (.agg [.i v4.Client, .i v4.Seq, .i v4.Kind, eL70 true v4.Pairs, .i ((v4.Over).Lo), .i ((v4.Over).Hi), .i v4.Old, .i 3, .b false])]) (dst := some 21) (k' := (K11 11110 4)) [1, 2, 21] [0] hP enters_12 (qAdd_says v3.2 (⟨(⟨v4.Client, v4.Seq, v4.Kind, v4.Pairs, (v4.Over), v4.Old⟩ : api_Mut), 3, false⟩ : api_Held) h5) (by kernel_rfl) (hands_one rfl rfl) (.cons (.same (.ptr 0 0 0 0)) (.cons (pass_d _) .nil)) (st' := ⟨87, [(1, .ptr 0 0 0 0), (2, .i v3.1), (21, .i v5.1)], [qR v5.2]⟩) (by kernel_rfl) ?_
  refine goK hT 5 (K11 111110 1) ⟨87, [(1, .ptr 0 0 0 0), (2, .i v3.1), (3, .i v5.1), (23, .ptr 0 0 0 0)], [qR v5.2]⟩ ?_
  refine ak_callP (avs := [.ptr 0 0 0 0]) (dst := some 24) (k' := (K11 111110 2)) [1, 2, 3, 24] [0] hP enters_15 (qPop_says v5.2) (by kernel_rfl) (hands_one rfl rfl) (.cons (.same (.ptr 0 0 0 0)) .nil) (st' := ⟨87, [(1, .ptr 0 0 0 0), (2, .i v3.1), (3, .i v5.1), (24, .tup [.d (eG32 ((qPop v5.2).1)), .b ((qPop v5.2).2.1)])], [qR ((qPop v5.2).2.2)]⟩) (by kernel_rfl) ?_
  obtain ⟨v6, h6, H⟩ := idC H
  rw [← h6]
  refine goK hT 10 (K11 1111110 1) ⟨87, [(1, .ptr 0 0 0 0), (2, .i v3.1), (3, .i v5.1), (5, .b v6.2.1), (27, .ptr 0 0 0 0)], [qR v6.2.2, .box 32 (eC32 (v6.1))]⟩ ?_
  refine ak_callP (avs := [.ptr 0 0 0 0, .i 2, .i 1, .i 7]) (dst := some 28) (k' := (K11 1111110 2)) [1, 2, 3, 5, 28] [0] hP enters_13 (qFinal_says v6.2.2 2 1 7) (by kernel_rfl) (hands_one rfl rfl) (.cons (.same (.ptr 0 0 0 0)) (.cons (pass_d _) (.cons (pass_d _) (.cons (pass_d _) .nil)))) (st' := ⟨87, [(1, .ptr 0 0 0 0), (2, .i v3.1), (3, .i v5.1), (5, .b v6.2.1), (28, .i ((qFinal v6.2.2 2 1 7).1))], [qR ((qFinal v6.2.2 2 1 7).2), .box 32 (eC32 (v6.1))]⟩) (by kernel_rfl) ?_
  obtain ⟨v7, h7, H⟩ := idC H
  rw [← h7]
  refine goK hT 5 (K11 11111110 1) ⟨87, [(1, .ptr 0 0 0 0), (2, .i v3.1), (3, .i v5.1), (5, .b v6.2.1), (6, .i v7.1), (29, .ptr 0 0 0 0)], [qR v7.2, .box 32 (eC32 (v6.1))]⟩ ?_
  refine ak_callP (avs := [.ptr 0 0 0 0, .i 99]) (dst := some 30) (k' := (K11 11111110 2)) [1, 2, 3, 5, 6, 30] [0] hP enters_20 (qFloor_says v7.2 99) (by kernel_rfl) (hands_one rfl rfl) (.cons (.same (.ptr 0 0 0 0)) (.cons (pass_d _) .nil)) (st' := ⟨87, [(1, .ptr 0 0 0 0), (2, .i v3.1), (3, .i v5.1), (5, .b v6.2.1), (6, .i v7.1), (30, .i (qFloor v7.2 99))], [qR v7.2, .box 32 (eC32 (v6.1))]⟩) (by kernel_rfl) ?_
  refine goK hT 5 (K11 111111110 1) ⟨87, [(1, .ptr 0 0 0 0), (2, .i v3.1), (3, .i v5.1), (5, .b v6.2.1), (6, .i v7.1), (7, .i (qFloor v7.2 99)), (31, .ptr 0 0 0 0)], [qR v7.2, .box 32 (eC32 (v6.1))]⟩ ?_
  refine ak_callP (avs := [.ptr 0 0 0 0, .i 1, .i 1, .i 5]) (dst := some 32) (k' := (K11 111111110 2)) [1, 2, 3, 5, 6, 7, 32] [0] hP enters_13 (qFinal_says v7.2 1 1 5) (by kernel_rfl) (hands_one rfl rfl) (.cons (.same (.ptr 0 0 0 0)) (.cons (pass_d _) (.cons (pass_d _) (.cons (pass_d _) .nil)))) (st' := ⟨87, [(1, .ptr 0 0 0 0), (2, .i v3.1), (3, .i v5.1), (5, .b v6.2.1), (6, .i v7.1), (7, .i (qFloor v7.2 99)), (32, .i ((qFinal v7.2 1 1 5).1))], [qR ((qFinal v7.2 1 1 5).2), .box 32 (eC32 (v6.1))]⟩) (by kernel_rfl) ?_
  obtain ⟨v8, h8, H⟩ := idC H
  rw [← h8]
  refine goK hT 5 (K11 1111111110 1) ⟨87, [(1, .ptr 0 0 0 0), (2, .i v3.1), (3, .i v5.1), (5, .b v6.2.1), (6, .i v7.1), (7, .i (qFloor v7.2 99)), (8, .i v8.1), (34, .ptr 0 0 0 0)], [qR v8.2, .box 32 (eC32 (v6.1))]⟩ ?_
  refine ak_callP (avs := [.ptr 0 0 0 0]) (dst := some 35) (k' := (K11 1111111110 2)) [1, 2, 3, 5, 6, 7, 8, 35] [0] hP enters_15 (qPop_says v8.2) (by kernel_rfl) (hands_one rfl rfl) (.cons (.same (.ptr 0 0 0 0)) .nil) (st' := ⟨87, [(1, .ptr 0 0 0 0), (2, .i v3.1), (3, .i v5.1), (5, .b v6.2.1), (6, .i v7.1), (7, .i (qFloor v7.2 99)), (8, .i v8.1), (35, .tup [.d (eG32 ((qPop v8.2).1)), .b ((qPop v8.2).2.1)])], [qR ((qPop v8.2).2.2), .box 32 (eC32 (v6.1))]⟩) (by kernel_rfl) ?_
  obtain ⟨v9, h9, H⟩ := idC H
  rw [← h9]
  refine goK hT 10 (K11 11111111110 1) ⟨87, [(1, .ptr 0 0 0 0), (2, .i v3.1), (3, .i v5.1), (5, .b v6.2.1), (6, .i v7.1), (7, .i (qFloor v7.2 99)), (8, .i v8.1), (9, .ptr 2 0 0 0), (10, .b v9.2.1), (39, .ptr 0 0 0 0)], [qR v9.2.2, .box 32 (eC32 (v6.1)), .box 32 (eC32 (v9.1))]⟩ ?_
  refine ak_callP (avs := [.ptr 0 0 0 0]) (dst := some 40) (k' := (K11 11111111110 2)) [1, 2, 3, 5, 6, 7, 8, 9, 10, 40] [0] hP enters_15 (qPop_says v9.2.2) (by kernel_rfl) (hands_one rfl rfl) (.cons (.same (.ptr 0 0 0 0)) .nil) (st' := ⟨87, [(1, .ptr 0 0 0 0), (2, .i v3.1), (3, .i v5.1), (5, .b v6.2.1), (6, .i v7.1), (7, .i (qFloor v7.2 99)), (8, .i v8.1), (9, .ptr 2 0 0 0), (10, .b v9.2.1), (40, .tup [.d (eG32 ((qPop v9.2.2).1)), .b ((qPop v9.2.2).2.1)])], [qR ((qPop v9.2.2).2.2), .box 32 (eC32 (v6.1)), .box 32 (eC32 (v9.1))]⟩) (by kernel_rfl) ?_
  obtain ⟨v10, h10, H⟩ := idC H
  have Jj1 : ∀ (y1_0 : Bool), (splicelaw06_awake.j1 y1_0) = some r → AK X 11 ((K11 11111111111 1)) (Back X [] (.b r)) ⟨87, [(0, .b y1_0)], []⟩ := by
    intro y1_0 H
    obtain rfl := retC H
    exact ak_ret hf hX (av := .b y1_0) (by kernel_rfl) [] (sel_of_eq (by kernel_rfl)) (by decide) (by rw [h0]; rfl) (by kernel_rfl) (fun _ h => all_nil h) (.d (.v _))
  rw [← h10]
  refine goK hT 12 (K11 111111111110 3) ⟨87, [(1, .ptr 0 0 0 0), (3, .i v5.1), (5, .b v6.2.1), (6, .i v7.1), (7, .i (qFloor v7.2 99)), (8, .i v8.1), (9, .ptr 2 0 0 0), (10, .b v9.2.1), (11, .ptr 3 0 0 0), (12, .b v10.2.1), (45, .b (v3.1 == 0))], [qR v10.2.2, .box 32 (eC32 (v6.1)), .box 32 (eC32 (v9.1)), .box 32 (eC32 (v10.1))]⟩ ?_
  by_cases c11 : v3.1 = 0
  · replace H := iT c11 H
    rw [eqT c11]
    refine goK hT 4 (K11 111111111110 7) ⟨87, [(1, .ptr 0 0 0 0), (5, .b v6.2.1), (6, .i v7.1), (7, .i (qFloor v7.2 99)), (8, .i v8.1), (9, .ptr 2 0 0 0), (10, .b v9.2.1), (11, .ptr 3 0 0 0), (12, .b v10.2.1), (49, .b (v5.1 == 0))], [qR v10.2.2, .box 32 (eC32 (v6.1)), .box 32 (eC32 (v9.1)), .box 32 (eC32 (v10.1))]⟩ ?_
    by_cases c12 : v5.1 = 0
    · replace H := iT c12 H
      rw [eqT c12]
      refine goK hT 4 (K11 111111111110 11) ⟨87, [(1, .ptr 0 0 0 0), (6, .i v7.1), (7, .i (qFloor v7.2 99)), (8, .i v8.1), (9, .ptr 2 0 0 0), (10, .b v9.2.1), (11, .ptr 3 0 0 0), (12, .b v10.2.1), (53, .b (!v6.2.1))], [qR v10.2.2, .box 32 (eC32 (v6.1)), .box 32 (eC32 (v9.1)), .box 32 (eC32 (v10.1))]⟩ ?_
      by_cases c13 : v6.2.1 = true
      · replace H := iT c13 H
        rw [c13]
        refine goK hT 35 (K11 11111111111 1) ⟨87, [(0, .b false)], [qR v10.2.2, .box 32 (eC32 (v6.1)), .box 32 (eC32 (v9.1)), .box 32 (eC32 (v10.1))]⟩ ?_
        refine cutK [] ⟨87, [(0, .b false)], []⟩ h0 ?_
        exact Jj1 false H
      · replace H := iF c13 H
        rw [boF c13]
        refine goK hT 4 (K11 111111111110 15) ⟨87, [(1, .ptr 0 0 0 0), (7, .i (qFloor v7.2 99)), (8, .i v8.1), (9, .ptr 2 0 0 0), (10, .b v9.2.1), (11, .ptr 3 0 0 0), (12, .b v10.2.1), (57, .b (v7.1 == 0))], [qR v10.2.2, .box 32 (eC32 (v6.1)), .box 32 (eC32 (v9.1)), .box 32 (eC32 (v10.1))]⟩ ?_
        by_cases c14 : v7.1 = 0
        · replace H := iT c14 H
          rw [eqT c14]
          refine goK hT 4 (K11 111111111110 19) ⟨87, [(1, .ptr 0 0 0 0), (8, .i v8.1), (9, .ptr 2 0 0 0), (10, .b v9.2.1), (11, .ptr 3 0 0 0), (12, .b v10.2.1), (61, .b ((qFloor v7.2 99) == 4))], [qR v10.2.2, .box 32 (eC32 (v6.1)), .box 32 (eC32 (v9.1)), .box 32 (eC32 (v10.1))]⟩ ?_
          by_cases c15 : (qFloor v7.2 99) = 4
          · replace H := iT c15 H
            rw [eqT c15]
            refine goK hT 4 (K11 111111111110 23) ⟨87, [(1, .ptr 0 0 0 0), (9, .ptr 2 0 0 0), (10, .b v9.2.1), (11, .ptr 3 0 0 0), (12, .b v10.2.1), (65, .b (v8.1 == 0))], [qR v10.2.2, .box 32 (eC32 (v6.1)), .box 32 (eC32 (v9.1)), .box 32 (eC32 (v10.1))]⟩ ?_
            by_cases c16 : v8.1 = 0
            · replace H := iT c16 H
              rw [eqT c16]
              refine goK hT 3 (K11 111111111110 26) ⟨87, [(1, .ptr 0 0 0 0), (9, .ptr 2 0 0 0), (11, .ptr 3 0 0 0), (12, .b v10.2.1), (68, .b v9.2.1)], [qR v10.2.2, .box 32 (eC32 (v6.1)), .box 32 (eC32 (v9.1)), .box 32 (eC32 (v10.1))]⟩ ?_
              by_cases c17 : v9.2.1 = true
              · replace H := iT c17 H
                rw [c17]
                refine goK hT 6 (K11 111111111110 32) ⟨87, [(1, .ptr 0 0 0 0), (11, .ptr 3 0 0 0), (12, .b v10.2.1), (74, .b ((((v9.1).M).Client) == 1))], [qR v10.2.2, .box 32 (eC32 (v6.1)), .box 32 (eC32 (v9.1)), .box 32 (eC32 (v10.1))]⟩ ?_
                by_cases c18 : (((v9.1).M).Client) = 1
                · replace H := iT c18 H
                  rw [eqT c18]
                  refine goK hT 3 (K11 111111111110 35) ⟨87, [(1, .ptr 0 0 0 0), (11, .ptr 3 0 0 0), (77, .b v10.2.1)], [qR v10.2.2, .box 32 (eC32 (v6.1)), .box 32 (eC32 (v9.1)), .box 32 (eC32 (v10.1))]⟩ ?_
                  by_cases c19 : v10.2.1 = true
                  · replace H := iT c19 H
                    rw [c19]
                    refine goK hT 5 (K11 111111111110 40) ⟨87, [(1, .ptr 0 0 0 0), (82, .b (((v10.1).Time) == 7))], [qR v10.2.2, .box 32 (eC32 (v6.1)), .box 32 (eC32 (v9.1)), .box 32 (eC32 (v10.1))]⟩ ?_
                    by_cases c20 : ((v10.1).Time) = 7
                    · replace H := iT c20 H
                      rw [eqT c20]
                      refine goK hT 1 (K11 111111111110 41) ⟨87, [(82, .b true), (83, .ptr 0 0 0 0)], [qR v10.2.2, .box 32 (eC32 (v6.1)), .box 32 (eC32 (v9.1)), .box 32 (eC32 (v10.1))]⟩ ?_
                      refine ak_callP (avs := [.ptr 0 0 0 0]) (dst := some 84) (k' := (K11 111111111110 42)) [82, 84] [0] hP enters_14 (qLen_says v10.2.2) (by kernel_rfl) (hands_one rfl rfl) (.cons (.same (.ptr 0 0 0 0)) .nil) (st' := ⟨87, [(82, .b true), (84, .i (qLen v10.2.2))], [qR v10.2.2, .box 32 (eC32 (v6.1)), .box 32 (eC32 (v9.1)), .box 32 (eC32 (v10.1))]⟩) (by kernel_rfl) ?_
                      refine goK hT 4 (K11 11111111111 1) ⟨87, [(0, .b ((qLen v10.2.2) == 0))], [qR v10.2.2, .box 32 (eC32 (v6.1)), .box 32 (eC32 (v9.1)), .box 32 (eC32 (v10.1))]⟩ ?_
                      refine cutK [] ⟨87, [(0, .b ((qLen v10.2.2) == 0))], []⟩ h0 ?_
                      exact Jj1 ((qLen v10.2.2) == 0) H
                    · replace H := iF c20 H
                      rw [eqF c20]
                      refine goK hT 6 (K11 11111111111 1) ⟨87, [(0, .b false)], [qR v10.2.2, .box 32 (eC32 (v6.1)), .box 32 (eC32 (v9.1)), .box 32 (eC32 (v10.1))]⟩ ?_
                      refine cutK [] ⟨87, [(0, .b false)], []⟩ h0 ?_
                      exact Jj1 false H
                  · replace H := iF c19 H
                    rw [boF c19]
                    refine goK hT 11 (K11 11111111111 1) ⟨87, [(0, .b false)], [qR v10.2.2, .box 32 (eC32 (v6.1)), .box 32 (eC32 (v9.1)), .box 32 (eC32 (v10.1))]⟩ ?_
                    refine cutK [] ⟨87, [(0, .b false)], []⟩ h0 ?_
                    exact Jj1 false H
                · replace H := iF c18 H
                  rw [eqF c18]
                  refine goK hT 14 (K11 11111111111 1) ⟨87, [(0, .b false)], [qR v10.2.2, .box 32 (eC32 (v6.1)), .box 32 (eC32 (v9.1)), .box 32 (eC32 (v10.1))]⟩ ?_
                  refine cutK [] ⟨87, [(0, .b false)], []⟩ h0 ?_
                  exact Jj1 false H
              · replace H := iF c17 H
                rw [boF c17]
                refine goK hT 20 (K11 11111111111 1) ⟨87, [(0, .b false)], [qR v10.2.2, .box 32 (eC32 (v6.1)), .box 32 (eC32 (v9.1)), .box 32 (eC32 (v10.1))]⟩ ?_
                refine cutK [] ⟨87, [(0, .b false)], []⟩ h0 ?_
                exact Jj1 false H
            · replace H := iF c16 H
              rw [eqF c16]
              refine goK hT 23 (K11 11111111111 1) ⟨87, [(0, .b false)], [qR v10.2.2, .box 32 (eC32 (v6.1)), .box 32 (eC32 (v9.1)), .box 32 (eC32 (v10.1))]⟩ ?_
              refine cutK [] ⟨87, [(0, .b false)], []⟩ h0 ?_
              exact Jj1 false H
          · replace H := iF c15 H
            rw [eqF c15]
            refine goK hT 27 (K11 11111111111 1) ⟨87, [(0, .b false)], [qR v10.2.2, .box 32 (eC32 (v6.1)), .box 32 (eC32 (v9.1)), .box 32 (eC32 (v10.1))]⟩ ?_
            refine cutK [] ⟨87, [(0, .b false)], []⟩ h0 ?_
            exact Jj1 false H
        · replace H := iF c14 H
          rw [eqF c14]
          refine goK hT 31 (K11 11111111111 1) ⟨87, [(0, .b false)], [qR v10.2.2, .box 32 (eC32 (v6.1)), .box 32 (eC32 (v9.1)), .box 32 (eC32 (v10.1))]⟩ ?_
          refine cutK [] ⟨87, [(0, .b false)], []⟩ h0 ?_
          exact Jj1 false H
    · replace H := iF c12 H
      rw [eqF c12]
      refine goK hT 39 (K11 11111111111 1) ⟨87, [(0, .b false)], [qR v10.2.2, .box 32 (eC32 (v6.1)), .box 32 (eC32 (v9.1)), .box 32 (eC32 (v10.1))]⟩ ?_
      refine cutK [] ⟨87, [(0, .b false)], []⟩ h0 ?_
      exact Jj1 false H
  · replace H := iF c11 H
    rw [eqF c11]
    refine goK hT 43 (K11 11111111111 1) ⟨87, [(0, .b false)], [qR v10.2.2, .box 32 (eC32 (v6.1)), .box 32 (eC32 (v9.1)), .box 32 (eC32 (v10.1))]⟩ ?_
    refine cutK [] ⟨87, [(0, .b false)], []⟩ h0 ?_
    exact Jj1 false H


theorem splicelaw04_Ref.says (a0 : api_Mut) {r : spliceref04_Mut} (H : splicelaw04_Ref a0 = some r) : Says Try.prog 45 [] [.d (eG30 a0)] [] (.d (eG63 r)) := by
  refine says_of Try.func45 rfl (nt := 34) rfl (Nat.le_of_ble_eq_true rfl) fun X hP h0 hX => ?_
  have hT : TabOk X.P T := hP ▸ tok
  have hf : X.P.funcs[45]? = some Try.f45 := hP ▸ Try.func45
  refine goK hT 28 (K45 111010 0) ⟨34, [(1, .ptr 0 0 0 0), (2, .ptr 1 0 0 0), (3, .ptr 2 0 0 0), (4, .i 0)], [.box 30 (eC30 a0), .box 63 [.i 0, .i 0, .i 0, .ns, .i 0, .i 0, .i 0], .box 63 [.i a0.Client, .i a0.Seq, .i a0.Kind, .ns, .i a0.Over.Lo, .i a0.Over.Hi, .i a0.Old]]⟩ ?_
  refine ak_nilBox (tb := 63) (cs := [.i a0.Client, .i a0.Seq, .i a0.Kind, .ns, .i a0.Over.Lo, .i a0.Over.Hi, .i a0.Old]) 2 3 2 131 (vec spliceref04_Pair.e spliceref04_Pair.z []) (st' := ⟨34, [(1, .ptr 0 0 0 0), (2, .ptr 1 0 0 0), (3, .ptr 2 0 0 0), (4, .i 0)], [.box 30 (eC30 a0), .box 63 [.i 0, .i 0, .i 0, .ns, .i 0, .i 0, .i 0], .box 63 [.i a0.Client, .i a0.Seq, .i a0.Kind, .own 3 2 0 0, .i a0.Over.Lo, .i a0.Over.Hi, .i a0.Old], eR131 ([] : List spliceref04_Pair)]⟩) (by kernel_rfl) (by kernel_rfl) ?_
  have L : ∀ n, (∀ (x1_4 : Int) (x1_r3 : List spliceref04_Pair), iter (splicelaw04_Ref.step a0) n (.l1 x1_4 x1_r3) = some r → AK X 45 ((K45 111010 0)) (Back X [] (.d (eG63 r))) ⟨34, [(1, .ptr 0 0 0 0), (2, .ptr 1 0 0 0), (3, .ptr 2 0 0 0), (4, .i x1_4)], [.box 30 (eC30 a0), .box 63 [.i 0, .i 0, .i 0, .ns, .i 0, .i 0, .i 0], .box 63 [.i a0.Client, .i a0.Seq, .i a0.Kind, .own 3 2 0 x1_r3.length, .i a0.Over.Lo, .i a0.Over.Hi, .i a0.Old], eR131 x1_r3]⟩) := by
    intro n
    induction n with
    | zero => exact fun _ _ H => iter0 H
    | succ n ih =>
      · intro x1_4 x1_r3 H
        refine goK hT 9 (K45 11101000 1) ⟨34, [(1, .ptr 0 0 0 0), (2, .ptr 1 0 0 0), (3, .ptr 2 0 0 0), (4, .i x1_4), (20, .b (decide (x1_4 < (a0.Pairs.length : Int))))], [.box 30 (eC30 a0), .box 63 [.i 0, .i 0, .i 0, .ns, .i 0, .i 0, .i 0], .box 63 [.i a0.Client, .i a0.Seq, .i a0.Kind, .own 3 2 0 x1_r3.length, .i a0.Over.Lo, .i a0.Over.Hi, .i a0.Old], eR131 x1_r3]⟩ ?_
        by_cases c1 : x1_4 < (a0.Pairs.length : Int)
        · replace H := sT c1 H
          rw [decide_eq_true c1]
          refine goK hT 2 (K45 1110100 1) ⟨34, [(1, .ptr 0 0 0 0), (2, .ptr 1 0 0 0), (3, .ptr 2 0 0 0), (4, .i x1_4)], [.box 30 (eC30 a0), .box 63 [.i 0, .i 0, .i 0, .ns, .i 0, .i 0, .i 0], .box 63 [.i a0.Client, .i a0.Seq, .i a0.Kind, .own 3 2 0 x1_r3.length, .i a0.Over.Lo, .i a0.Over.Hi, .i a0.Old], eR131 x1_r3]⟩ ?_
          refine goK hT 2 (K45 111010010 0) ⟨34, [(1, .ptr 0 0 0 0), (2, .ptr 1 0 0 0), (3, .ptr 2 0 0 0), (4, .i x1_4)], [.box 30 (eC30 a0), .box 63 [.i 0, .i 0, .i 0, .ns, .i 0, .i 0, .i 0], .box 63 [.i a0.Client, .i a0.Seq, .i a0.Kind, .own 3 2 0 x1_r3.length, .i a0.Over.Lo, .i a0.Over.Hi, .i a0.Old], eR131 x1_r3]⟩ ?_
          obtain ⟨h2, H⟩ := sC H
          refine ak_drawAtE (nt := 34) (hP ▸ mixed) 8 [7] [1, 2, 3, 4] [(1, .ptr 0 0 0 0), (2, .ptr 1 0 0 0), (3, .ptr 2 0 0 0), (4, .i x1_4)] [some (.ptr 2 0 0 3), some (.own 3 2 0 x1_r3.length), some (.ptr 0 0 0 3), some (.d (eL70 true a0.Pairs)), some (.i x1_4), some (.d (eP70 true a0.Pairs x1_4.toNat 0)), some (.d (eG70 (a0.Pairs.getD x1_4.toNat api_Pair.z))), some (.own 4 2 0 1)] [[.box 30 (eC30 a0), .box 63 [.i 0, .i 0, .i 0, .ns, .i 0, .i 0, .i 0], .box 63 [.i a0.Client, .i a0.Seq, .i a0.Kind, .own 3 2 0 x1_r3.length, .i a0.Over.Lo, .i a0.Over.Hi, .i a0.Old], eR131 x1_r3], [.box 30 (eC30 a0), .box 63 [.i 0, .i 0, .i 0, .ns, .i 0, .i 0, .i 0], .box 63 [.i a0.Client, .i a0.Seq, .i a0.Kind, .own 3 2 0 x1_r3.length, .i a0.Over.Lo, .i a0.Over.Hi, .i a0.Old], eR131 x1_r3, .flat false 2 131 1 (fun j => [api_Pair.e (a0.Pairs.getD x1_4.toNat api_Pair.z)].getD j [])]] (by kernel_rfl) (by kernel_rfl) (by kernel_rfl) (by kernel_rfl) ⟨(opXE (opGE (opES (opGE (opGE (opGE (opGE (opGE opE0 hT) hT) hT) hT) hT) (fun R rest h => ak_idx0 hT (i := x1_4) (n := (a0.Pairs.length : Int)) h2.1 h2.2 (by kernel_rfl) h)) hT)), (op_goFK hT), (opXE (opGE (opES (opGE (opGE (opGE (opGE (opGE opE0 hT) hT) hT) hT) hT) (fun R rest h => ak_idx0 hT (i := x1_4) (n := (a0.Pairs.length : Int)) h2.1 h2.2 (by kernel_rfl) h)) hT))⟩ ?_
          refine goK hT 0 (K45 1110100100 8) ⟨34, [(1, .ptr 0 0 0 0), (2, .ptr 1 0 0 0), (3, .ptr 2 0 0 0), (4, .i x1_4), (24, .own 3 2 0 x1_r3.length), (30, .own 4 2 0 1)], [.box 30 (eC30 a0), .box 63 [.i 0, .i 0, .i 0, .ns, .i 0, .i 0, .i 0], .box 63 [.i a0.Client, .i a0.Seq, .i a0.Kind, .own 3 2 0 x1_r3.length, .i a0.Over.Lo, .i a0.Over.Hi, .i a0.Old], eR131 x1_r3, .flat false 2 131 1 (fun j => [api_Pair.e (a0.Pairs.getD x1_4.toNat api_Pair.z)].getD j [])]⟩ ?_
          obtain ⟨h3, H⟩ := sC H
          refine ak_append1 (id := 3) (kk := 2) (by' := 16) (t := 60) (e := 131) (z := [.int .i64 0, .int .i64 0]) (dst := some 31) (id2 := 4) (e2 := 131) (fz := false) (k' := (K45 1110100100 9)) hT spliceref04_Pair.e spliceref04_Pair.z x1_r3 (⟨(a0.Pairs.getD x1_4.toNat api_Pair.z).Key, (a0.Pairs.getD x1_4.toNat api_Pair.z).Val⟩ : spliceref04_Pair) [1, 2, 3, 4, 31] (by kernel_rfl) (by kernel_rfl) (by kernel_rfl) (by kernel_rfl) (by kernel_rfl) (by kernel_rfl) (by kernel_rfl) h3 (by omega) (st' := ⟨34, [(1, .ptr 0 0 0 0), (2, .ptr 1 0 0 0), (3, .ptr 2 0 0 0), (4, .i x1_4), (31, .own 5 2 0 ((x1_r3 ++ [(⟨(a0.Pairs.getD x1_4.toNat api_Pair.z).Key, (a0.Pairs.getD x1_4.toNat api_Pair.z).Val⟩ : spliceref04_Pair)]).length))], [.box 30 (eC30 a0), .box 63 [.i 0, .i 0, .i 0, .ns, .i 0, .i 0, .i 0], .box 63 [.i a0.Client, .i a0.Seq, .i a0.Kind, .own 3 2 0 x1_r3.length, .i a0.Over.Lo, .i a0.Over.Hi, .i a0.Old], .gone, .flat false 2 131 1 (fun j => [api_Pair.e (a0.Pairs.getD x1_4.toNat api_Pair.z)].getD j []), eR131 (x1_r3 ++ [(⟨(a0.Pairs.getD x1_4.toNat api_Pair.z).Key, (a0.Pairs.getD x1_4.toNat api_Pair.z).Val⟩ : spliceref04_Pair)])]⟩) (by kernel_rfl) ?_
          refine goK hT 10 (K45 111010 0) ⟨34, [(1, .ptr 0 0 0 0), (2, .ptr 1 0 0 0), (3, .ptr 2 0 0 0), (4, .i (IntKind.wrap .i64 (x1_4 + 1)))], [.box 30 (eC30 a0), .box 63 [.i 0, .i 0, .i 0, .ns, .i 0, .i 0, .i 0], .box 63 [.i a0.Client, .i a0.Seq, .i a0.Kind, .own 5 2 0 ((x1_r3 ++ [(⟨(a0.Pairs.getD x1_4.toNat api_Pair.z).Key, (a0.Pairs.getD x1_4.toNat api_Pair.z).Val⟩ : spliceref04_Pair)]).length), .i a0.Over.Lo, .i a0.Over.Hi, .i a0.Old], .gone, .flat false 2 131 1 (fun j => [api_Pair.e (a0.Pairs.getD x1_4.toNat api_Pair.z)].getD j []), eR131 (x1_r3 ++ [(⟨(a0.Pairs.getD x1_4.toNat api_Pair.z).Key, (a0.Pairs.getD x1_4.toNat api_Pair.z).Val⟩ : spliceref04_Pair)])]⟩ ?_
          refine cutK [0, 1, 2, 5] ⟨34, [(1, .ptr 0 0 0 0), (2, .ptr 1 0 0 0), (3, .ptr 2 0 0 0), (4, .i (IntKind.wrap .i64 (x1_4 + 1)))], [.box 30 (eC30 a0), .box 63 [.i 0, .i 0, .i 0, .ns, .i 0, .i 0, .i 0], .box 63 [.i a0.Client, .i a0.Seq, .i a0.Kind, .own 3 2 0 (x1_r3 ++ [(⟨(a0.Pairs.getD x1_4.toNat api_Pair.z).Key, (a0.Pairs.getD x1_4.toNat api_Pair.z).Val⟩ : spliceref04_Pair)]).length, .i a0.Over.Lo, .i a0.Over.Hi, .i a0.Old], eR131 (x1_r3 ++ [(⟨(a0.Pairs.getD x1_4.toNat api_Pair.z).Key, (a0.Pairs.getD x1_4.toNat api_Pair.z).Val⟩ : spliceref04_Pair)])]⟩ h0 ?_
          exact ih (IntKind.wrap .i64 (x1_4 + 1)) (x1_r3 ++ [(⟨(a0.Pairs.getD x1_4.toNat api_Pair.z).Key, (a0.Pairs.getD x1_4.toNat api_Pair.z).Val⟩ : spliceref04_Pair)]) H
        · replace H := sF c1 H
          rw [decide_eq_false c1]
          refine goK hT 5 (K45 11110 1) ⟨34, [(2, .ptr 1 0 0 0), (33, .agg [.i a0.Client, .i a0.Seq, .i a0.Kind, .own 3 2 0 x1_r3.length, .i a0.Over.Lo, .i a0.Over.Hi, .i a0.Old])], [.box 30 (eC30 a0), .box 63 [.i 0, .i 0, .i 0, .ns, .i 0, .i 0, .i 0], .box 63 [.i a0.Client, .i a0.Seq, .i a0.Kind, .own 3 2 0 x1_r3.length, .i a0.Over.Lo, .i a0.Over.Hi, .i a0.Old], eR131 x1_r3]⟩ ?_
          refine ak_freeze 3 (kk := 2) (n := x1_r3.length) (ty := 131) (g := vec spliceref04_Pair.e spliceref04_Pair.z x1_r3) (by kernel_rfl) (st' := ⟨34, [(2, .ptr 1 0 0 0), (33, .agg [.i a0.Client, .i a0.Seq, .i a0.Kind, .own 3 2 0 x1_r3.length, .i a0.Over.Lo, .i a0.Over.Hi, .i a0.Old])], [.box 30 (eC30 a0), .box 63 [.i 0, .i 0, .i 0, .ns, .i 0, .i 0, .i 0], .box 63 [.i a0.Client, .i a0.Seq, .i a0.Kind, .own 3 2 0 x1_r3.length, .i a0.Over.Lo, .i a0.Over.Hi, .i a0.Old], eF131 x1_r3]⟩) (by kernel_rfl) ?_
          refine ak_sealS (av := .agg [.i a0.Client, .i a0.Seq, .i a0.Kind, .own 3 2 0 x1_r3.length, .i a0.Over.Lo, .i a0.Over.Hi, .i a0.Old]) (y := .agg [.i a0.Client, .i a0.Seq, .i a0.Kind, eL131 true x1_r3, .i a0.Over.Lo, .i a0.Over.Hi, .i a0.Old]) [2, 33] 33 (st' := ⟨34, [(2, .ptr 1 0 0 0), (33, .d (.agg [.i a0.Client, .i a0.Seq, .i a0.Kind, eL131 true x1_r3, .i a0.Over.Lo, .i a0.Over.Hi, .i a0.Old]))], [.box 30 (eC30 a0), .box 63 [.i 0, .i 0, .i 0, .ns, .i 0, .i 0, .i 0], .box 63 [.i a0.Client, .i a0.Seq, .i a0.Kind, .own 3 2 0 x1_r3.length, .i a0.Over.Lo, .i a0.Over.Hi, .i a0.Old], eF131 x1_r3]⟩) (by kernel_rfl) (.agg (.cons (.d _) (.cons (.d _) (.cons (.d _) (.cons (.own (ty := 131) (k := 2) (by kernel_rfl)) (.cons (.d _) (.cons (.d _) (.cons (.d _) .nil)))))))) (by kernel_rfl) ?_
          refine goK hT 2 (K45 1111 1) ⟨34, [(2, .ptr 1 0 0 0)], [.box 30 (eC30 a0), .box 63 [.i a0.Client, .i a0.Seq, .i a0.Kind, .d (eL131 true x1_r3), .i a0.Over.Lo, .i a0.Over.Hi, .i a0.Old], .box 63 [.i a0.Client, .i a0.Seq, .i a0.Kind, .own 3 2 0 x1_r3.length, .i a0.Over.Lo, .i a0.Over.Hi, .i a0.Old], eF131 x1_r3]⟩ ?_
          obtain rfl := retC H
          exact ak_retM hT hf hX (av := .d (.agg [.i a0.Client, .i a0.Seq, .i a0.Kind, eL131 true x1_r3, .i a0.Over.Lo, .i a0.Over.Hi, .i a0.Old])) (by kernel_rfl) [] (sel_of_eq (by kernel_rfl)) (by decide) (by rw [h0]; rfl) (by kernel_rfl) (fun _ h => all_nil h) (.d (.agg (spliceref04_Mut.nl _)))
  refine cutK [0, 1, 2, 3] ⟨34, [(1, .ptr 0 0 0 0), (2, .ptr 1 0 0 0), (3, .ptr 2 0 0 0), (4, .i 0)], [.box 30 (eC30 a0), .box 63 [.i 0, .i 0, .i 0, .ns, .i 0, .i 0, .i 0], .box 63 [.i a0.Client, .i a0.Seq, .i a0.Kind, .own 3 2 0 ([] : List spliceref04_Pair).length, .i a0.Over.Lo, .i a0.Over.Hi, .i a0.Old], eR131 ([] : List spliceref04_Pair)]⟩ h0 ?_
  obtain ⟨n, H⟩ := loopC H
  exact (L n) 0 ([] : List spliceref04_Pair) H


theorem splicelaw06_Ref.says (a0 : api_Held) {r : spliceref06_Held} (H : splicelaw06_Ref a0 = some r) : Says Try.prog 24 [] [.d (eG32 a0)] [] (.d (eG65 r)) := by
  refine says_of Try.func24 rfl (nt := 11) rfl (Nat.le_of_ble_eq_true rfl) fun X hP h0 hX => ?_
  have hT : TabOk X.P T := hP ▸ tok
  have hf : X.P.funcs[24]? = some Try.f24 := hP ▸ Try.func24
  refine goK hT 6 (K24 11 0) ⟨11, [(1, .ptr 0 0 0 0), (2, .ptr 1 0 0 0)], [.box 32 (eC32 a0), .box 65 [.i 0, .i 0, .i 0, .ns, .i 0, .i 0, .i 0, .i 0, .b false]]⟩ ?_
  obtain ⟨v1, h1, H⟩ := ibC H
  refine drawK (hP ▸ mixed) 7 [1, 2] [some (.ptr 0 0 0 0), some (.d (eG30 a0.M)), some (.d (eG63 v1)), some (.ptr 0 0 0 7), some (.i a0.Time), some (.ptr 0 0 0 8), some (.b a0.Final)] (opG (opG (opG (opG (opS (opG (opG op0 hT) hT) (fun R rest h => ak_callD (avs := [.d (eG30 a0.M)]) (dst := some 5) hP enters_45 (splicelaw04_Ref.says a0.M h1) (by kernel_rfl) (.cons (pass_d _) .nil) (by kernel_rfl) h)) hT) hT) hT) hT) ?_
  refine goK hT 3 (K24 11 1) ⟨11, [(2, .ptr 1 0 0 0)], [.box 32 (eC32 a0), .box 65 [.i v1.Client, .i v1.Seq, .i v1.Kind, .d (eL131 true v1.Pairs), .i v1.Over.Lo, .i v1.Over.Hi, .i v1.Old, .i a0.Time, .b a0.Final]]⟩ ?_
  obtain rfl := retC H
  exact ak_retM hT hf hX (av := .d (.agg [.i v1.Client, .i v1.Seq, .i v1.Kind, eL131 true v1.Pairs, .i v1.Over.Lo, .i v1.Over.Hi, .i v1.Old, .i a0.Time, .b a0.Final])) (by kernel_rfl) [] (sel_of_eq (by kernel_rfl)) (by decide) (by rw [h0]; rfl) (by kernel_rfl) (fun _ h => all_nil h) (.d (.agg (spliceref06_Held.nl _)))


theorem spliceref04_Same.says (a0 : spliceref04_Mut) (a1 : spliceref04_Mut) {r : Bool} (H : spliceref04_Same a0 a1 = some r) : Says Try.prog 47 [] [.d (eG63 a0), .d (eG63 a1)] [] (.b r) := by
  refine says_of Try.func47 rfl (nt := 66) rfl (Nat.le_of_ble_eq_true rfl) fun X hP h0 hX => ?_
  have hT : TabOk X.P T := hP ▸ tok
  have hf : X.P.funcs[47]? = some Try.f47 := hP ▸ Try.func47
  have Jj1 : ∀ (y1_47 : Bool), (spliceref04_Same.j1 a0 a1 y1_47) = some r → AK X 47 ((K47 110 1)) (Back X [] (.b r)) ⟨66, [(2, .ptr 0 0 0 0), (3, .ptr 1 0 0 0), (47, .b y1_47)], [.box 63 (eC63 a0), .box 63 (eC63 a1)]⟩ := by
    intro y1_47 H
    by_cases c8 : y1_47 = true
    · replace H := iT c8 H
      rw [c8]
      refine goK hT 5 (K47 11010 1) ⟨66, [(4, .b false)], [.box 63 (eC63 a0), .box 63 (eC63 a1)]⟩ ?_
      obtain rfl := retC H
      exact ak_ret hf hX (av := .b false) (by kernel_rfl) [] (sel_of_eq (by kernel_rfl)) (by decide) (by rw [h0]; rfl) (by kernel_rfl) (fun _ h => all_nil h) (.d (.v _))
    · replace H := iF c8 H
      rw [boF c8]
      refine goK hT 2 (K47 11 1) ⟨66, [(2, .ptr 0 0 0 0), (3, .ptr 1 0 0 0)], [.box 63 (eC63 a0), .box 63 (eC63 a1)]⟩ ?_
      refine goK hT 7 (K47 111010 0) ⟨66, [(2, .ptr 0 0 0 0), (3, .ptr 1 0 0 0), (5, .i 0)], [.box 63 (eC63 a0), .box 63 (eC63 a1)]⟩ ?_
      have L : ∀ n, (∀ (x1_5 : Int), iter (spliceref04_Same.step a0 a1) n (.l1 x1_5) = some r → AK X 47 ((K47 111010 0)) (Back X [] (.b r)) ⟨66, [(2, .ptr 0 0 0 0), (3, .ptr 1 0 0 0), (5, .i x1_5)], [.box 63 (eC63 a0), .box 63 (eC63 a1)]⟩) := by
        intro n
        induction n with
        | zero => exact fun _ H => iter0 H
        | succ n ih =>
          · intro x1_5 H
            refine goK hT 9 (K47 11101000 1) ⟨66, [(2, .ptr 0 0 0 0), (3, .ptr 1 0 0 0), (5, .i x1_5), (52, .b (decide (x1_5 < (a0.Pairs.length : Int))))], [.box 63 (eC63 a0), .box 63 (eC63 a1)]⟩ ?_
            by_cases c9 : x1_5 < (a0.Pairs.length : Int)
            · replace H := sT c9 H
              rw [decide_eq_true c9]
              refine goK hT 2 (K47 1110100 1) ⟨66, [(2, .ptr 0 0 0 0), (3, .ptr 1 0 0 0), (5, .i x1_5)], [.box 63 (eC63 a0), .box 63 (eC63 a1)]⟩ ?_
              refine goK hT 3 (K47 1110100100 0) ⟨66, [(2, .ptr 0 0 0 0), (3, .ptr 1 0 0 0), (5, .i x1_5)], [.box 63 (eC63 a0), .box 63 (eC63 a1)]⟩ ?_
              obtain ⟨h10, H⟩ := sC H
              obtain ⟨h11, H⟩ := sC H
              refine drawK (hP ▸ mixed) 11 [2, 3, 5] [some (.ptr 0 0 0 3), some (.d (eL131 true a0.Pairs)), some (.i x1_5), some (.d (eP131 true a0.Pairs x1_5.toNat 0)), some (.d (eG131 (a0.Pairs.getD x1_5.toNat spliceref04_Pair.z))), some (.ptr 1 0 0 3), some (.d (eL131 true a1.Pairs)), some (.i x1_5), some (.d (eP131 true a1.Pairs x1_5.toNat 0)), some (.d (eG131 (a1.Pairs.getD x1_5.toNat spliceref04_Pair.z))), some (.b (!((((a0.Pairs.getD x1_5.toNat spliceref04_Pair.z).Key) == ((a1.Pairs.getD x1_5.toNat spliceref04_Pair.z).Key)) && (((a0.Pairs.getD x1_5.toNat spliceref04_Pair.z).Val) == ((a1.Pairs.getD x1_5.toNat spliceref04_Pair.z).Val)))))] (opG (opG (opS (opG (opG (opG (opG (opS (opG (opG (opG op0 hT) hT) hT) (fun R rest h => ak_idx0 hT (i := x1_5) (n := (a0.Pairs.length : Int)) h10.1 h10.2 (by kernel_rfl) h)) hT) hT) hT) hT) (fun R rest h => ak_idx0 hT (i := x1_5) (n := (a1.Pairs.length : Int)) h11.1 h11.2 (by kernel_rfl) h)) hT) hT) ?_
              refine goK hT 1 (K47 1110100100 1) ⟨66, [(2, .ptr 0 0 0 0), (3, .ptr 1 0 0 0), (5, .i x1_5), (65, .b (!((((a0.Pairs.getD x1_5.toNat spliceref04_Pair.z).Key) == ((a1.Pairs.getD x1_5.toNat spliceref04_Pair.z).Key)) && (((a0.Pairs.getD x1_5.toNat spliceref04_Pair.z).Val) == ((a1.Pairs.getD x1_5.toNat spliceref04_Pair.z).Val)))))], [.box 63 (eC63 a0), .box 63 (eC63 a1)]⟩ ?_
              by_cases c12 : ((a0.Pairs.getD x1_5.toNat spliceref04_Pair.z).Key) = ((a1.Pairs.getD x1_5.toNat spliceref04_Pair.z).Key)
              · replace H := sT c12 H
                rw [eqT c12]
                by_cases c13 : ((a0.Pairs.getD x1_5.toNat spliceref04_Pair.z).Val) = ((a1.Pairs.getD x1_5.toNat spliceref04_Pair.z).Val)
                · replace H := sT c13 H
                  rw [eqT c13]
                  refine goK hT 3 (K47 11101001 1) ⟨66, [(2, .ptr 0 0 0 0), (3, .ptr 1 0 0 0), (5, .i x1_5)], [.box 63 (eC63 a0), .box 63 (eC63 a1)]⟩ ?_
                  refine goK hT 6 (K47 111010 0) ⟨66, [(2, .ptr 0 0 0 0), (3, .ptr 1 0 0 0), (5, .i (IntKind.wrap .i64 (x1_5 + 1)))], [.box 63 (eC63 a0), .box 63 (eC63 a1)]⟩ ?_
                  refine cutK [0, 1] ⟨66, [(2, .ptr 0 0 0 0), (3, .ptr 1 0 0 0), (5, .i (IntKind.wrap .i64 (x1_5 + 1)))], [.box 63 (eC63 a0), .box 63 (eC63 a1)]⟩ h0 ?_
                  exact ih (IntKind.wrap .i64 (x1_5 + 1)) H
                · replace H := sF c13 H
                  rw [eqF c13]
                  refine goK hT 5 (K47 111010010010 1) ⟨66, [(4, .b false)], [.box 63 (eC63 a0), .box 63 (eC63 a1)]⟩ ?_
                  obtain rfl := retC H
                  exact ak_ret hf hX (av := .b false) (by kernel_rfl) [] (sel_of_eq (by kernel_rfl)) (by decide) (by rw [h0]; rfl) (by kernel_rfl) (fun _ h => all_nil h) (.d (.v _))
              · replace H := sF c12 H
                rw [eqF c12]
                by_cases c14 : ((a0.Pairs.getD x1_5.toNat spliceref04_Pair.z).Val) = ((a1.Pairs.getD x1_5.toNat spliceref04_Pair.z).Val)
                · replace H := sT c14 H
                  rw [eqT c14]
                  refine goK hT 5 (K47 111010010010 1) ⟨66, [(4, .b false)], [.box 63 (eC63 a0), .box 63 (eC63 a1)]⟩ ?_
                  obtain rfl := retC H
                  exact ak_ret hf hX (av := .b false) (by kernel_rfl) [] (sel_of_eq (by kernel_rfl)) (by decide) (by rw [h0]; rfl) (by kernel_rfl) (fun _ h => all_nil h) (.d (.v _))
                · replace H := sF c14 H
                  rw [eqF c14]
                  refine goK hT 5 (K47 111010010010 1) ⟨66, [(4, .b false)], [.box 63 (eC63 a0), .box 63 (eC63 a1)]⟩ ?_
                  obtain rfl := retC H
                  exact ak_ret hf hX (av := .b false) (by kernel_rfl) [] (sel_of_eq (by kernel_rfl)) (by decide) (by rw [h0]; rfl) (by kernel_rfl) (fun _ h => all_nil h) (.d (.v _))
            · replace H := sF c9 H
              rw [decide_eq_false c9]
              refine goK hT 6 (K47 1111 1) ⟨66, [(4, .b true)], [.box 63 (eC63 a0), .box 63 (eC63 a1)]⟩ ?_
              obtain rfl := retC H
              exact ak_ret hf hX (av := .b true) (by kernel_rfl) [] (sel_of_eq (by kernel_rfl)) (by decide) (by rw [h0]; rfl) (by kernel_rfl) (fun _ h => all_nil h) (.d (.v _))
      refine cutK [0, 1] ⟨66, [(2, .ptr 0 0 0 0), (3, .ptr 1 0 0 0), (5, .i 0)], [.box 63 (eC63 a0), .box 63 (eC63 a1)]⟩ h0 ?_
      obtain ⟨n, H⟩ := loopC H
      exact (L n) 0 H
  refine goK hT 15 (K47 1100 6) ⟨66, [(2, .ptr 0 0 0 0), (3, .ptr 1 0 0 0), (11, .b (a0.Client != a1.Client))], [.box 63 (eC63 a0), .box 63 (eC63 a1)]⟩ ?_
  by_cases c1 : a0.Client = a1.Client
  · replace H := iT c1 H
    rw [neF c1]
    refine goK hT 7 (K47 1100 13) ⟨66, [(2, .ptr 0 0 0 0), (3, .ptr 1 0 0 0), (18, .b (a0.Seq != a1.Seq))], [.box 63 (eC63 a0), .box 63 (eC63 a1)]⟩ ?_
    by_cases c2 : a0.Seq = a1.Seq
    · replace H := iT c2 H
      rw [neF c2]
      refine goK hT 7 (K47 1100 20) ⟨66, [(2, .ptr 0 0 0 0), (3, .ptr 1 0 0 0), (25, .b (a0.Kind != a1.Kind))], [.box 63 (eC63 a0), .box 63 (eC63 a1)]⟩ ?_
      by_cases c3 : a0.Kind = a1.Kind
      · replace H := iT c3 H
        rw [neF c3]
        refine goK hT 7 (K47 1100 27) ⟨66, [(2, .ptr 0 0 0 0), (3, .ptr 1 0 0 0), (32, .b (!((a0.Over.Lo == a1.Over.Lo) && (a0.Over.Hi == a1.Over.Hi))))], [.box 63 (eC63 a0), .box 63 (eC63 a1)]⟩ ?_
        by_cases c4 : a0.Over.Lo = a1.Over.Lo
        · replace H := iT c4 H
          rw [eqT c4]
          by_cases c5 : a0.Over.Hi = a1.Over.Hi
          · replace H := iT c5 H
            rw [eqT c5]
            refine goK hT 7 (K47 1100 34) ⟨66, [(2, .ptr 0 0 0 0), (3, .ptr 1 0 0 0), (39, .b (a0.Old != a1.Old))], [.box 63 (eC63 a0), .box 63 (eC63 a1)]⟩ ?_
            by_cases c6 : a0.Old = a1.Old
            · replace H := iT c6 H
              rw [neF c6]
              refine goK hT 9 (K47 110 1) ⟨66, [(2, .ptr 0 0 0 0), (3, .ptr 1 0 0 0), (47, .b ((a0.Pairs.length : Int) != (a1.Pairs.length : Int)))], [.box 63 (eC63 a0), .box 63 (eC63 a1)]⟩ ?_
              refine cutK [0, 1] ⟨66, [(2, .ptr 0 0 0 0), (3, .ptr 1 0 0 0), (47, .b ((a0.Pairs.length : Int) != (a1.Pairs.length : Int)))], [.box 63 (eC63 a0), .box 63 (eC63 a1)]⟩ h0 ?_
              exact Jj1 ((a0.Pairs.length : Int) != (a1.Pairs.length : Int)) H
            · replace H := iF c6 H
              rw [neT c6]
              refine goK hT 9 (K47 110 1) ⟨66, [(2, .ptr 0 0 0 0), (3, .ptr 1 0 0 0), (47, .b true)], [.box 63 (eC63 a0), .box 63 (eC63 a1)]⟩ ?_
              refine cutK [0, 1] ⟨66, [(2, .ptr 0 0 0 0), (3, .ptr 1 0 0 0), (47, .b true)], [.box 63 (eC63 a0), .box 63 (eC63 a1)]⟩ h0 ?_
              exact Jj1 true H
          · replace H := iF c5 H
            rw [eqF c5]
            refine goK hT 16 (K47 110 1) ⟨66, [(2, .ptr 0 0 0 0), (3, .ptr 1 0 0 0), (47, .b true)], [.box 63 (eC63 a0), .box 63 (eC63 a1)]⟩ ?_
            refine cutK [0, 1] ⟨66, [(2, .ptr 0 0 0 0), (3, .ptr 1 0 0 0), (47, .b true)], [.box 63 (eC63 a0), .box 63 (eC63 a1)]⟩ h0 ?_
            exact Jj1 true H
        · replace H := iF c4 H
          rw [eqF c4]
          by_cases c7 : a0.Over.Hi = a1.Over.Hi
          · replace H := iT c7 H
            rw [eqT c7]
            refine goK hT 16 (K47 110 1) ⟨66, [(2, .ptr 0 0 0 0), (3, .ptr 1 0 0 0), (47, .b true)], [.box 63 (eC63 a0), .box 63 (eC63 a1)]⟩ ?_
            refine cutK [0, 1] ⟨66, [(2, .ptr 0 0 0 0), (3, .ptr 1 0 0 0), (47, .b true)], [.box 63 (eC63 a0), .box 63 (eC63 a1)]⟩ h0 ?_
            exact Jj1 true H
          · replace H := iF c7 H
            rw [eqF c7]
            refine goK hT 16 (K47 110 1) ⟨66, [(2, .ptr 0 0 0 0), (3, .ptr 1 0 0 0), (47, .b true)], [.box 63 (eC63 a0), .box 63 (eC63 a1)]⟩ ?_
            refine cutK [0, 1] ⟨66, [(2, .ptr 0 0 0 0), (3, .ptr 1 0 0 0), (47, .b true)], [.box 63 (eC63 a0), .box 63 (eC63 a1)]⟩ h0 ?_
            exact Jj1 true H
      · replace H := iF c3 H
        rw [neT c3]
        refine goK hT 23 (K47 110 1) ⟨66, [(2, .ptr 0 0 0 0), (3, .ptr 1 0 0 0), (47, .b true)], [.box 63 (eC63 a0), .box 63 (eC63 a1)]⟩ ?_
        refine cutK [0, 1] ⟨66, [(2, .ptr 0 0 0 0), (3, .ptr 1 0 0 0), (47, .b true)], [.box 63 (eC63 a0), .box 63 (eC63 a1)]⟩ h0 ?_
        exact Jj1 true H
    · replace H := iF c2 H
      rw [neT c2]
      refine goK hT 30 (K47 110 1) ⟨66, [(2, .ptr 0 0 0 0), (3, .ptr 1 0 0 0), (47, .b true)], [.box 63 (eC63 a0), .box 63 (eC63 a1)]⟩ ?_
      refine cutK [0, 1] ⟨66, [(2, .ptr 0 0 0 0), (3, .ptr 1 0 0 0), (47, .b true)], [.box 63 (eC63 a0), .box 63 (eC63 a1)]⟩ h0 ?_
      exact Jj1 true H
  · replace H := iF c1 H
    rw [neT c1]
    refine goK hT 37 (K47 110 1) ⟨66, [(2, .ptr 0 0 0 0), (3, .ptr 1 0 0 0), (47, .b true)], [.box 63 (eC63 a0), .box 63 (eC63 a1)]⟩ ?_
    refine cutK [0, 1] ⟨66, [(2, .ptr 0 0 0 0), (3, .ptr 1 0 0 0), (47, .b true)], [.box 63 (eC63 a0), .box 63 (eC63 a1)]⟩ h0 ?_
    exact Jj1 true H


theorem spliceref06_SameOne.says (a0 : spliceref06_Held) (a1 : spliceref06_Held) {r : Bool} (H : spliceref06_SameOne a0 a1 = some r) : Says Try.prog 27 [] [.d (eG65 a0), .d (eG65 a1)] [] (.b r) := by
  refine says_of Try.func27 rfl (nt := 24) rfl (Nat.le_of_ble_eq_true rfl) fun X hP h0 hX => ?_
  have hT : TabOk X.P T := hP ▸ tok
  have hf : X.P.funcs[27]? = some Try.f27 := hP ▸ Try.func27
  refine goK hT 12 (K27 110 4) ⟨24, [(2, .ptr 0 0 0 0), (3, .ptr 1 0 0 0), (6, .d (eG63 a0.M)), (8, .d (eG63 a1.M))], [.box 65 (eC65 a0), .box 65 (eC65 a1)]⟩ ?_
  obtain ⟨v1, h1, H⟩ := ibC H
  have Jj1 : ∀ (y1_4 : Bool), (spliceref06_SameOne.j1 y1_4) = some r → AK X 27 ((K27 11 1)) (Back X [] (.b r)) ⟨24, [(4, .b y1_4)], []⟩ := by
    intro y1_4 H
    obtain rfl := retC H
    exact ak_ret hf hX (av := .b y1_4) (by kernel_rfl) [] (sel_of_eq (by kernel_rfl)) (by decide) (by rw [h0]; rfl) (by kernel_rfl) (fun _ h => all_nil h) (.d (.v _))
  refine ak_callP (avs := [.d (eG63 a0.M), .d (eG63 a1.M)]) (dst := some 9) (k' := (K27 110 5)) [2, 3, 9] [] hP enters_47 (spliceref04_Same.says a0.M a1.M h1) (by kernel_rfl) (hands_none _) (.cons (pass_d _) (.cons (pass_d _) .nil)) (st' := ⟨24, [(2, .ptr 0 0 0 0), (3, .ptr 1 0 0 0), (9, .b v1)], [.box 65 (eC65 a0), .box 65 (eC65 a1)]⟩) (by kernel_rfl) ?_
  refine goK hT 1 (K27 110 6) ⟨24, [(2, .ptr 0 0 0 0), (3, .ptr 1 0 0 0), (10, .b v1)], [.box 65 (eC65 a0), .box 65 (eC65 a1)]⟩ ?_
  by_cases c2 : v1 = true
  · replace H := iT c2 H
    rw [c2]
    refine goK hT 7 (K27 110 13) ⟨24, [(2, .ptr 0 0 0 0), (3, .ptr 1 0 0 0), (17, .b (a0.Time == a1.Time))], [.box 65 (eC65 a0), .box 65 (eC65 a1)]⟩ ?_
    by_cases c3 : a0.Time = a1.Time
    · replace H := iT c3 H
      rw [eqT c3]
      refine goK hT 8 (K27 11 1) ⟨24, [(4, .b (a0.Final == a1.Final))], [.box 65 (eC65 a0), .box 65 (eC65 a1)]⟩ ?_
      refine cutK [] ⟨24, [(4, .b (a0.Final == a1.Final))], []⟩ h0 ?_
      exact Jj1 (a0.Final == a1.Final) H
    · replace H := iF c3 H
      rw [eqF c3]
      refine goK hT 8 (K27 11 1) ⟨24, [(4, .b false)], [.box 65 (eC65 a0), .box 65 (eC65 a1)]⟩ ?_
      refine cutK [] ⟨24, [(4, .b false)], []⟩ h0 ?_
      exact Jj1 false H
  · replace H := iF c2 H
    rw [boF c2]
    refine goK hT 15 (K27 11 1) ⟨24, [(4, .b false)], [.box 65 (eC65 a0), .box 65 (eC65 a1)]⟩ ?_
    refine cutK [] ⟨24, [(4, .b false)], []⟩ h0 ?_
    exact Jj1 false H
end Go.SyP
