/- Certificates, printed by gen.py. -/
import Derived.Test.YtboaahlhgekbbaaG06LP
import Derived.Test.YtboaahlhgekbbaaG06B
set_option linter.unusedVariables false
set_option linter.unusedSimpArgs false
namespace Go.SyP
open Go Go.Sy Go.Proofs


theorem splicelaw06_del.says (a0 : Int) (a1 : Int) : Says Try.prog 31 [] [.i a0, .i a1] [] (.d (eG30 (splicelaw06_del a0 a1))) := by
  obtain ⟨r, H⟩ : ∃ r, splicelaw06_del a0 a1 = r := ⟨_, rfl⟩
  rw [H]
  refine says_of Try.func31 rfl (nt := 9) rfl (Nat.le_of_ble_eq_true rfl) fun X hP h0 hX => ?_
  have hT : TabOk X.P T := hP ▸ tok
  have hf : X.P.funcs[31]? = some Try.f31 := hP ▸ Try.func31
  refine goK hT 10 (K31 110 4) ⟨9, [(4, .ptr 0 0 0 0), (8, .d (.agg [.i a0, .i a1, .i 2, .ns, .i 1, .i 2, .i 0]))], [.box 30 [.i 0, .i 0, .i 0, .ns, .i 0, .i 0, .i 0]]⟩ ?_
  refine ak_sealS (av := .d (.agg [.i a0, .i a1, .i 2, .ns, .i 1, .i 2, .i 0])) (y := .agg [.i a0, .i a1, .i 2, eL70 true ([] : List api_Pair), .i 1, .i 2, .i 0]) [4, 8] 8 (st' := ⟨9, [(4, .ptr 0 0 0 0), (8, .d (.agg [.i a0, .i a1, .i 2, eL70 true ([] : List api_Pair), .i 1, .i 2, .i 0]))], [.box 30 [.i 0, .i 0, .i 0, .ns, .i 0, .i 0, .i 0]]⟩) (by kernel_rfl) (.aggd (.cons (.d _) (.cons (.d _) (.cons (.d _) (.cons (.nil _) (.cons (.d _) (.cons (.d _) (.cons (.d _) .nil)))))))) (by kernel_rfl) ?_
  refine goK hT 2 (K31 11 1) ⟨9, [(4, .ptr 0 0 0 0)], [.box 30 [.i a0, .i a1, .i 2, .d (eL70 true ([] : List api_Pair)), .i 1, .i 2, .i 0]]⟩ ?_
  obtain rfl := H
  exact ak_retM hT hf hX (av := .d (.agg [.i a0, .i a1, .i 2, eL70 true ([] : List api_Pair), .i 1, .i 2, .i 0])) (by kernel_rfl) [] (sel_of_eq (by kernel_rfl)) (by decide) (by rw [h0]; rfl) (by kernel_rfl) (fun _ h => all_nil h) (.d (.agg (api_Mut.nl _)))


theorem splicelaw06_awake.says {r : Bool} (H : splicelaw06_awake = some r) : Says Try.prog 11 [] [] [] (.b r) := by
  refine says_of Try.func11 rfl (nt := 87) rfl (Nat.le_of_ble_eq_true rfl) fun X hP h0 hX => ?_
  have hT : TabOk X.P T := hP ▸ tok
  have hf : X.P.funcs[11]? = some Try.f11 := hP ▸ Try.func11
  refine goK hT 6 (K11 110 0) ⟨87, [], []⟩ ?_
  refine ak_callP (avs := []) (dst := some 13) (k' := (K11 110 1)) [13] [] hP enters_10 (qNew_says) (by kernel_rfl) (hands_none _) .nil (st' := ⟨87, [(13, .ptr 0 0 0 0)], [qR qNew]⟩) (by kernel_rfl) ?_
  obtain ⟨v1, h1, H⟩ := idC H
  rw [← h1]
  refine goK hT 5 (K11 1110 1) ⟨87, [(1, .ptr 0 0 0 0), (14, .ptr 0 0 0 0)], [qR v1]⟩ ?_
  refine ak_callP (avs := [.i 1, .i 1]) (dst := some 15) (k' := (K11 1110 2)) [1, 14, 15] [] hP enters_31 (splicelaw06_del.says 1 1) (by kernel_rfl) (hands_none _) (.cons (pass_d _) (.cons (pass_d _) .nil)) (st' := ⟨87, [(1, .ptr 0 0 0 0), (14, .ptr 0 0 0 0), (15, .d (eG30 (splicelaw06_del 1 1)))], [qR v1]⟩) (by kernel_rfl) ?_
  obtain ⟨v2, h2, H⟩ := idC H
  rw [← h2]
  refine goK hT 1 (K11 1110 3) ⟨87, [(1, .ptr 0 0 0 0), (14, .ptr 0 0 0 0), (16, .d (.agg [.i v2.Client, .i v2.Seq, .i v2.Kind, eL70 true v2.Pairs, .i ((v2.Over).Lo), .i ((v2.Over).Hi), .i v2.Old, .i 5, .b false]))], [qR v1]⟩ ?_
  obtain ⟨v3, h3, H⟩ := ibC H
  refine ak_callP (avs := [.ptr 0 0 0 0, .d (.agg [.i v2.Client, .i v2.Seq, .i v2.Kind, eL70 true v2.Pairs, .i ((v2.Over).Lo), .i ((v2.Over).Hi), .i v2.Old, .i 5, .b false])]) (dst := some 17) (k' := (K11 1110 4)) [1, 17] [0] hP enters_12 (qAdd_says v1 (⟨(⟨v2.Client, v2.Seq, v2.Kind, v2.Pairs, (v2.Over), v2.Old⟩ : api_Mut), 5, false⟩ : api_Held) h3) (by kernel_rfl) (hands_one rfl rfl) (.cons (.same (.ptr 0 0 0 0)) (.cons (pass_d _) .nil)) (st' := ⟨87, [(1, .ptr 0 0 0 0), (17, .i v3.1)], [qR v3.2]⟩) (by kernel_rfl) ?_
  refine goK hT 5 (K11 11110 1) ⟨87, [(1, .ptr 0 0 0 0), (2, .i v3.1), (18, .ptr 0 0 0 0)], [qR v3.2]⟩ ?_
  refine ak_callP (avs := [.i 2, .i 1]) (dst := some 19) (k' := (K11 11110 2)) [1, 2, 18, 19] [] hP enters_31 (splicelaw06_del.says 2 1) (by kernel_rfl) (hands_none _) (.cons (pass_d _) (.cons (pass_d _) .nil)) (st' := ⟨87, [(1, .ptr 0 0 0 0), (2, .i v3.1), (18, .ptr 0 0 0 0), (19, .d (eG30 (splicelaw06_del 2 1)))], [qR v3.2]⟩) (by kernel_rfl) ?_
  obtain ⟨v4, h4, H⟩ := idC H
  rw [← h4]
  refine goK hT 1 (K11 11110 3) ⟨87, [(1, .ptr 0 0 0 0), (2, .i v3.1), (18, .ptr 0 0 0 0), (20, .d (.agg [.i v4.Client, .i v4.Seq, .i v4.Kind, eL70 true v4.Pairs, .i ((v4.Over).Lo), .i ((v4.Over).Hi), .i v4.Old, .i 3, .b false]))], [qR v3.2]⟩ ?_
  obtain ⟨v5, h5, H⟩ := ibC H
  refine ak_callP (avs := [.ptr 0 0 0 0, .d (.agg [.i v4.Client, .i v4.Seq, .i v4.Kind, eL70 true v4.Pairs, .i ((v4.Over).Lo), .i ((v4.Over).Hi), .i v4.Old, .i 3, .b false])]) (dst := some 21) (k' := (K11 11110 4)) [1, 2, 21] [0] hP enters_12 (qAdd_says v3.2 (⟨(⟨v4.Client, v4.Seq, v4.Kind, v4.Pairs, (v4.Over), v4.Old⟩ : api_Mut), 3, false⟩ : api_Held) h5) (by kernel_rfl) (hands_one rfl rfl) (.cons (.same (.ptr 0 0 0 0)) (.cons (pass_d _) .nil)) (st' := ⟨87, [(1, .ptr 0 0 0 0), (2, .i v3.1), (21, .i v5.1)], [qR v5.2]⟩) (by kernel_rfl) ?_
  refine goK hT 5 (K11 111110 1) ⟨87, [(1, .ptr 0 0 0 0), (2, .i v3.1), (3, .i v5.1), (23, .ptr 0 0 0 0)], [qR v5.2]⟩ ?_
  refine ak_callP (avs := [.ptr 0 0 0 0]) (dst := some 24) (k' := (K11 111110 2)) [1, 2, 3, 24] [0] hP enters_15 (qPop_says v5.2) (by kernel_rfl) (hands_one rfl rfl) (.cons (.same (.ptr 0 0 0 0)) .nil) (st' := ⟨87, [(1, .ptr 0 0 0 0), (2, .i v3.1), (3, .i v5.1), (24, .tup [.d (eG32 ((qPop v5.2).1)), .b ((qPop v5.2).2.1)])], [qR ((qPop v5.2).2.2)]⟩) (by kernel_rfl) ?_
  obtain ⟨v6, h6, H⟩ := idC H
  rw [← h6]
  refine goK hT 10 (K11 1111110 1) ⟨87, [(1, .ptr 0 0 0 0), (2, .i v3.1), (3, .i v5.1), (5, .b v6.2.1), (27, .ptr 0 0 0 0)], [qR v6.2.2, .box 32 (eC32 (v6.1))]⟩ ?_
  refine ak_callP (avs := [.ptr 0 0 0 0, .i 2, .i 1, .i 7]) (dst := some 28) (k' := (K11 1111110 2)) [1, 2, 3, 5, 28] [0] hP enters_13 (qFinal_says v6.2.2 2 1 7) (by kernel_rfl) (hands_one rfl rfl) (.cons (.same (.ptr 0 0 0 0)) (.cons (pass_d _) (.cons (pass_d _) (.cons (pass_d _) .nil)))) (st' := ⟨87, [(1, .ptr 0 0 0 0), (2, .i v3.1), (3, .i v5.1), (5, .b v6.2.1), (28, .i ((qFinal v6.2.2 2 1 7).1))], [qR ((qFinal v6.2.2 2 1 7).2), .box 32 (eC32 (v6.1))]⟩) (by kernel_rfl) ?_
  obtain ⟨v7, h7, H⟩ := idC H
  rw [← h7]
  refine goK hT 5 (K11 11111110 1) ⟨87, [(1, .ptr 0 0 0 0), (2, .i v3.1), (3, .i v5.1), (5, .b v6.2.1), (6, .i v7.1), (29, .ptr 0 0 0 0)], [qR v7.2, .box 32 (eC32 (v6.1))]⟩ ?_
  refine ak_callP (avs := [.ptr 0 0 0 0, .i 99]) (dst := some 30) (k' := (K11 11111110 2)) [1, 2, 3, 5, 6, 30] [0] hP enters_20 (qFloor_says v7.2 99) (by kernel_rfl) (hands_one rfl rfl) (.cons (.same (.ptr 0 0 0 0)) (.cons (pass_d _) .nil)) (st' := ⟨87, [(1, .ptr 0 0 0 0), (2, .i v3.1), (3, .i v5.1), (5, .b v6.2.1), (6, .i v7.1), (30, .i (qFloor v7.2 99))], [qR v7.2, .box 32 (eC32 (v6.1))]⟩) (by kernel_rfl) ?_
  refine goK hT 5 (K11 111111110 1) ⟨87, [(1, .ptr 0 0 0 0), (2, .i v3.1), (3, .i v5.1), (5, .b v6.2.1), (6, .i v7.1), (7, .i (qFloor v7.2 99)), (31, .ptr 0 0 0 0)], [qR v7.2, .box 32 (eC32 (v6.1))]⟩ ?_
  refine ak_callP (avs := [.ptr 0 0 0 0, .i 1, .i 1, .i 5]) (dst := some 32) (k' := (K11 111111110 2)) [1, 2, 3, 5, 6, 7, 32] [0] hP enters_13 (qFinal_says v7.2 1 1 5) (by kernel_rfl) (hands_one rfl rfl) (.cons (.same (.ptr 0 0 0 0)) (.cons (pass_d _) (.cons (pass_d _) (.cons (pass_d _) .nil)))) (st' := ⟨87, [(1, .ptr 0 0 0 0), (2, .i v3.1), (3, .i v5.1), (5, .b v6.2.1), (6, .i v7.1), (7, .i (qFloor v7.2 99)), (32, .i ((qFinal v7.2 1 1 5).1))], [qR ((qFinal v7.2 1 1 5).2), .box 32 (eC32 (v6.1))]⟩) (by kernel_rfl) ?_
  obtain ⟨v8, h8, H⟩ := idC H
  rw [← h8]
  refine goK hT 5 (K11 1111111110 1) ⟨87, [(1, .ptr 0 0 0 0), (2, .i v3.1), (3, .i v5.1), (5, .b v6.2.1), (6, .i v7.1), (7, .i (qFloor v7.2 99)), (8, .i v8.1), (34, .ptr 0 0 0 0)], [qR v8.2, .box 32 (eC32 (v6.1))]⟩ ?_
  refine ak_callP (avs := [.ptr 0 0 0 0]) (dst := some 35) (k' := (K11 1111111110 2)) [1, 2, 3, 5, 6, 7, 8, 35] [0] hP enters_15 (qPop_says v8.2) (by kernel_rfl) (hands_one rfl rfl) (.cons (.same (.ptr 0 0 0 0)) .nil) (st' := ⟨87, [(1, .ptr 0 0 0 0), (2, .i v3.1), (3, .i v5.1), (5, .b v6.2.1), (6, .i v7.1), (7, .i (qFloor v7.2 99)), (8, .i v8.1), (35, .tup [.d (eG32 ((qPop v8.2).1)), .b ((qPop v8.2).2.1)])], [qR ((qPop v8.2).2.2), .box 32 (eC32 (v6.1))]⟩) (by kernel_rfl) ?_
  obtain ⟨v9, h9, H⟩ := idC H
  rw [← h9]
  refine goK hT 10 (K11 11111111110 1) ⟨87, [(1, .ptr 0 0 0 0), (2, .i v3.1), (3, .i v5.1), (5, .b v6.2.1), (6, .i v7.1), (7, .i (qFloor v7.2 99)), (8, .i v8.1), (9, .ptr 2 0 0 0), (10, .b v9.2.1), (39, .ptr 0 0 0 0)], [qR v9.2.2, .box 32 (eC32 (v6.1)), .box 32 (eC32 (v9.1))]⟩ ?_
  refine ak_callP (avs := [.ptr 0 0 0 0]) (dst := some 40) (k' := (K11 11111111110 2)) [1, 2, 3, 5, 6, 7, 8, 9, 10, 40] [0] hP enters_15 (qPop_says v9.2.2) (by kernel_rfl) (hands_one rfl rfl) (.cons (.same (.ptr 0 0 0 0)) .nil) (st' := ⟨87, [(1, .ptr 0 0 0 0), (2, .i v3.1), (3, .i v5.1), (5, .b v6.2.1), (6, .i v7.1), (7, .i (qFloor v7.2 99)), (8, .i v8.1), (9, .ptr 2 0 0 0), (10, .b v9.2.1), (40, .tup [.d (eG32 ((qPop v9.2.2).1)), .b ((qPop v9.2.2).2.1)])], [qR ((qPop v9.2.2).2.2), .box 32 (eC32 (v6.1)), .box 32 (eC32 (v9.1))]⟩) (by kernel_rfl) ?_
  obtain ⟨v10, h10, H⟩ := idC H
  have Jj1 : ∀ (y1_0 : Bool), (splicelaw06_awake.j1 y1_0) = some r → AK X 11 ((K11 11111111111 1)) (Back X [] (.b r)) ⟨87, [(0, .b y1_0)], []⟩ := by
    intro y1_0 H
    obtain rfl := retC H
    exact ak_ret hf hX (av := .b y1_0) (by kernel_rfl) [] (sel_of_eq (by kernel_rfl)) (by decide) (by rw [h0]; rfl) (by kernel_rfl) (fun _ h => all_nil h) (.d (.v _))
  rw [← h10]
  refine goK hT 12 (K11 111111111110 3) ⟨87, [(1, .ptr 0 0 0 0), (3, .i v5.1), (5, .b v6.2.1), (6, .i v7.1), (7, .i (qFloor v7.2 99)), (8, .i v8.1), (9, .ptr 2 0 0 0), (10, .b v9.2.1), (11, .ptr 3 0 0 0), (12, .b v10.2.1), (45, .b (v3.1 == 0))], [qR v10.2.2, .box 32 (eC32 (v6.1)), .box 32 (eC32 (v9.1)), .box 32 (eC32 (v10.1))]⟩ ?_
  by_cases c11 : v3.1 = 0
  · replace H := iT c11 H
    rw [eqT c11]
    refine goK hT 4 (K11 111111111110 7) ⟨87, [(1, .ptr 0 0 0 0), (5, .b v6.2.1), (6, .i v7.1), (7, .i (qFloor v7.2 99)), (8, .i v8.1), (9, .ptr 2 0 0 0), (10, .b v9.2.1), (11, .ptr 3 0 0 0), (12, .b v10.2.1), (49, .b (v5.1 == 0))], [qR v10.2.2, .box 32 (eC32 (v6.1)), .box 32 (eC32 (v9.1)), .box 32 (eC32 (v10.1))]⟩ ?_
    by_cases c12 : v5.1 = 0
    · replace H := iT c12 H
      rw [eqT c12]
      refine goK hT 4 (K11 111111111110 11) ⟨87, [(1, .ptr 0 0 0 0), (6, .i v7.1), (7, .i (qFloor v7.2 99)), (8, .i v8.1), (9, .ptr 2 0 0 0), (10, .b v9.2.1), (11, .ptr 3 0 0 0), (12, .b v10.2.1), (53, .b (!v6.2.1))], [qR v10.2.2, .box 32 (eC32 (v6.1)), .box 32 (eC32 (v9.1)), .box 32 (eC32 (v10.1))]⟩ ?_
      by_cases c13 : v6.2.1 = true
      · replace H := iT c13 H
        rw [c13]
        refine goK hT 35 (K11 11111111111 1) ⟨87, [(0, .b false)], [qR v10.2.2, .box 32 (eC32 (v6.1)), .box 32 (eC32 (v9.1)), .box 32 (eC32 (v10.1))]⟩ ?_
        refine cutK [] ⟨87, [(0, .b false)], []⟩ h0 ?_
        exact Jj1 false H
      · replace H := iF c13 H
        rw [boF c13]
        refine goK hT 4 (K11 111111111110 15) ⟨87, [(1, .ptr 0 0 0 0), (7, .i (qFloor v7.2 99)), (8, .i v8.1), (9, .ptr 2 0 0 0), (10, .b v9.2.1), (11, .ptr 3 0 0 0), (12, .b v10.2.1), (57, .b (v7.1 == 0))], [qR v10.2.2, .box 32 (eC32 (v6.1)), .box 32 (eC32 (v9.1)), .box 32 (eC32 (v10.1))]⟩ ?_
        by_cases c14 : v7.1 = 0
        · replace H := iT c14 H
          rw [eqT c14]
          refine goK hT 4 (K11 111111111110 19) ⟨87, [(1, .ptr 0 0 0 0), (8, .i v8.1), (9, .ptr 2 0 0 0), (10, .b v9.2.1), (11, .ptr 3 0 0 0), (12, .b v10.2.1), (61, .b ((qFloor v7.2 99) == 4))], [qR v10.2.2, .box 32 (eC32 (v6.1)), .box 32 (eC32 (v9.1)), .box 32 (eC32 (v10.1))]⟩ ?_
          by_cases c15 : (qFloor v7.2 99) = 4
          · replace H := iT c15 H
            rw [eqT c15]
            refine goK hT 4 (K11 111111111110 23) ⟨87, [(1, .ptr 0 0 0 0), (9, .ptr 2 0 0 0), (10, .b v9.2.1), (11, .ptr 3 0 0 0), (12, .b v10.2.1), (65, .b (v8.1 == 0))], [qR v10.2.2, .box 32 (eC32 (v6.1)), .box 32 (eC32 (v9.1)), .box 32 (eC32 (v10.1))]⟩ ?_
            by_cases c16 : v8.1 = 0
            · replace H := iT c16 H
              rw [eqT c16]
              refine goK hT 3 (K11 111111111110 26) ⟨87, [(1, .ptr 0 0 0 0), (9, .ptr 2 0 0 0), (11, .ptr 3 0 0 0), (12, .b v10.2.1), (68, .b v9.2.1)], [qR v10.2.2, .box 32 (eC32 (v6.1)), .box 32 (eC32 (v9.1)), .box 32 (eC32 (v10.1))]⟩ ?_
              by_cases c17 : v9.2.1 = true
              · replace H := iT c17 H
                rw [c17]
                refine goK hT 6 (K11 111111111110 32) ⟨87, [(1, .ptr 0 0 0 0), (11, .ptr 3 0 0 0), (12, .b v10.2.1), (74, .b ((((v9.1).M).Client) == 1))], [qR v10.2.2, .box 32 (eC32 (v6.1)), .box 32 (eC32 (v9.1)), .box 32 (eC32 (v10.1))]⟩ ?_
                by_cases c18 : (((v9.1).M).Client) = 1
                · replace H := iT c18 H
                  rw [eqT c18]
                  refine goK hT 3 (K11 111111111110 35) ⟨87, [(1, .ptr 0 0 0 0), (11, .ptr 3 0 0 0), (77, .b v10.2.1)], [qR v10.2.2, .box 32 (eC32 (v6.1)), .box 32 (eC32 (v9.1)), .box 32 (eC32 (v10.1))]⟩ ?_
                  by_cases c19 : v10.2.1 = true
                  · replace H := iT c19 H
                    rw [c19]
                    refine goK hT 5 (K11 111111111110 40) ⟨87, [(1, .ptr 0 0 0 0), (82, .b (((v10.1).Time) == 7))], [qR v10.2.2, .box 32 (eC32 (v6.1)), .box 32 (eC32 (v9.1)), .box 32 (eC32 (v10.1))]⟩ ?_
                    by_cases c20 : ((v10.1).Time) = 7
                    · replace H := iT c20 H
                      rw [eqT c20]
                      refine goK hT 1 (K11 111111111110 41) ⟨87, [(82, .b true), (83, .ptr 0 0 0 0)], [qR v10.2.2, .box 32 (eC32 (v6.1)), .box 32 (eC32 (v9.1)), .box 32 (eC32 (v10.1))]⟩ ?_
                      refine ak_callP (avs := [.ptr 0 0 0 0]) (dst := some 84) (k' := (K11 111111111110 42)) [82, 84] [0] hP enters_14 (qLen_says v10.2.2) (by kernel_rfl) (hands_one rfl rfl) (.cons (.same (.ptr 0 0 0 0)) .nil) (st' := ⟨87, [(82, .b true), (84, .i (qLen v10.2.2))], [qR v10.2.2, .box 32 (eC32 (v6.1)), .box 32 (eC32 (v9.1)), .box 32 (eC32 (v10.1))]⟩) (by kernel_rfl) ?_
                      refine goK hT 4 (K11 11111111111 1) ⟨87, [(0, .b ((qLen v10.2.2) == 0))], [qR v10.2.2, .box 32 (eC32 (v6.1)), .box 32 (eC32 (v9.1)), .box 32 (eC32 (v10.1))]⟩ ?_
                      refine cutK [] ⟨87, [(0, .b ((qLen v10.2.2) == 0))], []⟩ h0 ?_
                      exact Jj1 ((qLen v10.2.2) == 0) H
                    · replace H := iF c20 H
                      rw [eqF c20]
                      refine goK hT 6 (K11 11111111111 1) ⟨87, [(0, .b false)], [qR v10.2.2, .box 32 (eC32 (v6.1)), .box 32 (eC32 (v9.1)), .box 32 (eC32 (v10.1))]⟩ ?_
                      refine cutK [] ⟨87, [(0, .b false)], []⟩ h0 ?_
                      exact Jj1 false H
                  · replace H := iF c19 H
                    rw [boF c19]
                    refine goK hT 11 (K11 11111111111 1) ⟨87, [(0, .b false)], [qR v10.2.2, .box 32 (eC32 (v6.1)), .box 32 (eC32 (v9.1)), .box 32 (eC32 (v10.1))]⟩ ?_
                    refine cutK [] ⟨87, [(0, .b false)], []⟩ h0 ?_
                    exact Jj1 false H
                · replace H := iF c18 H
                  rw [eqF c18]
                  refine goK hT 14 (K11 11111111111 1) ⟨87, [(0, .b false)], [qR v10.2.2, .box 32 (eC32 (v6.1)), .box 32 (eC32 (v9.1)), .box 32 (eC32 (v10.1))]⟩ ?_
                  refine cutK [] ⟨87, [(0, .b false)], []⟩ h0 ?_
                  exact Jj1 false H
              · replace H := iF c17 H
                rw [boF c17]
                refine goK hT 20 (K11 11111111111 1) ⟨87, [(0, .b false)], [qR v10.2.2, .box 32 (eC32 (v6.1)), .box 32 (eC32 (v9.1)), .box 32 (eC32 (v10.1))]⟩ ?_
                refine cutK [] ⟨87, [(0, .b false)], []⟩ h0 ?_
                exact Jj1 false H
            · replace H := iF c16 H
              rw [eqF c16]
              refine goK hT 23 (K11 11111111111 1) ⟨87, [(0, .b false)], [qR v10.2.2, .box 32 (eC32 (v6.1)), .box 32 (eC32 (v9.1)), .box 32 (eC32 (v10.1))]⟩ ?_
              refine cutK [] ⟨87, [(0, .b false)], []⟩ h0 ?_
              exact Jj1 false H
          · replace H := iF c15 H
            rw [eqF c15]
            refine goK hT 27 (K11 11111111111 1) ⟨87, [(0, .b false)], [qR v10.2.2, .box 32 (eC32 (v6.1)), .box 32 (eC32 (v9.1)), .box 32 (eC32 (v10.1))]⟩ ?_
            refine cutK [] ⟨87, [(0, .b false)], []⟩ h0 ?_
            exact Jj1 false H
        · replace H := iF c14 H
          rw [eqF c14]
          refine goK hT 31 (K11 11111111111 1) ⟨87, [(0, .b false)], [qR v10.2.2, .box 32 (eC32 (v6.1)), .box 32 (eC32 (v9.1)), .box 32 (eC32 (v10.1))]⟩ ?_
          refine cutK [] ⟨87, [(0, .b false)], []⟩ h0 ?_
          exact Jj1 false H
    · replace H := iF c12 H
      rw [eqF c12]
      refine goK hT 39 (K11 11111111111 1) ⟨87, [(0, .b false)], [qR v10.2.2, .box 32 (eC32 (v6.1)), .box 32 (eC32 (v9.1)), .box 32 (eC32 (v10.1))]⟩ ?_
      refine cutK [] ⟨87, [(0, .b false)], []⟩ h0 ?_
      exact Jj1 false H
  · replace H := iF c11 H
    rw [eqF c11]
    refine goK hT 43 (K11 11111111111 1) ⟨87, [(0, .b false)], [qR v10.2.2, .box 32 (eC32 (v6.1)), .box 32 (eC32 (v9.1)), .box 32 (eC32 (v10.1))]⟩ ?_
    refine cutK [] ⟨87, [(0, .b false)], []⟩ h0 ?_
    exact Jj1 false H


theorem splicelaw04_Ref.says (a0 : api_Mut) {r : spliceref04_Mut} (H : splicelaw04_Ref a0 = some r) : Says Try.prog 45 [] [.d (eG30 a0)] [] (.d (eG63 r)) := by
  refine says_of Try.func45 rfl (nt := 34) rfl (Nat.le_of_ble_eq_true rfl) fun X hP h0 hX => ?_
  have hT : TabOk X.P T := hP ▸ tok
  have hf : X.P.funcs[45]? = some Try.f45 := hP ▸ Try.func45
  refine goK hT 28 (K45 111010 0) ⟨34, [(1, .ptr 0 0 0 0), (2, .ptr 1 0 0 0), (3, .ptr 2 0 0 0), (4, .i 0)], [.box 30 (eC30 a0), .box 63 [.i 0, .i 0, .i 0, .ns, .i 0, .i 0, .i 0], .box 63 [.i a0.Client, .i a0.Seq, .i a0.Kind, .ns, .i a0.Over.Lo, .i a0.Over.Hi, .i a0.Old]]⟩ ?_
  refine ak_nilBox (tb := 63) (cs := [.i a0.Client, .i a0.Seq, .i a0.Kind, .ns, .i a0.Over.Lo, .i a0.Over.Hi, .i a0.Old]) 2 3 2 131 (vec spliceref04_Pair.e spliceref04_Pair.z []) (st' := ⟨34, [(1, .ptr 0 0 0 0), (2, .ptr 1 0 0 0), (3, .ptr 2 0 0 0), (4, .i 0)], [.box 30 (eC30 a0), .box 63 [.i 0, .i 0, .i 0, .ns, .i 0, .i 0, .i 0], .box 63 [.i a0.Client, .i a0.Seq, .i a0.Kind, .own 3 2 0 0, .i a0.Over.Lo, .i a0.Over.Hi, .i a0.Old], eR131 ([] : List spliceref04_Pair)]⟩) (by kernel_rfl) (by kernel_rfl) ?_
  have L : ∀ n, (∀ (x1_4 : Int) (x1_r3 : List spliceref04_Pair), iter (splicelaw04_Ref.step a0) n (.l1 x1_4 x1_r3) = some r → AK X 45 ((K45 111010 0)) (Back X [] (.d (eG63 r))) ⟨34, [(1, .ptr 0 0 0 0), (2, .ptr 1 0 0 0), (3, .ptr 2 0 0 0), (4, .i x1_4)], [.box 30 (eC30 a0), .box 63 [.i 0, .i 0, .i 0, .ns, .i 0, .i 0, .i 0], .box 63 [.i a0.Client, .i a0.Seq, .i a0.Kind, .own 3 2 0 x1_r3.length, .i a0.Over.Lo, .i a0.Over.Hi, .i a0.Old], eR131 x1_r3]⟩) := by
    intro n
    induction n with
    | zero => exact fun _ _ H => iter0 H
    | succ n ih =>
      · intro x1_4 x1_r3 H
        refine goK hT 9 (K45 11101000 1) ⟨34, [(1, .ptr 0 0 0 0), (2, .ptr 1 0 0 0), (3, .ptr 2 0 0 0), (4, .i x1_4), (20, .b (decide (x1_4 < (a0.Pairs.length : Int))))], [.box 30 (eC30 a0), .box 63 [.i 0, .i 0, .i 0, .ns, .i 0, .i 0, .i 0], .box 63 [.i a0.Client, .i a0.Seq, .i a0.Kind, .own 3 2 0 x1_r3.length, .i a0.Over.Lo, .i a0.Over.Hi, .i a0.Old], eR131 x1_r3]⟩ ?_
        by_cases c1 : x1_4 < (a0.Pairs.length : Int)
        · replace H := sT c1 H
          rw [decide_eq_true c1]
          refine goK hT 2 (K45 1110100 1) ⟨34, [(1, .ptr 0 0 0 0), (2, .ptr 1 0 0 0), (3, .ptr 2 0 0 0), (4, .i x1_4)], [.box 30 (eC30 a0), .box 63 [.i 0, .i 0, .i 0, .ns, .i 0, .i 0, .i 0], .box 63 [.i a0.Client, .i a0.Seq, .i a0.Kind, .own 3 2 0 x1_r3.length, .i a0.Over.Lo, .i a0.Over.Hi, .i a0.Old], eR131 x1_r3]⟩ ?_
          refine goK hT 2 (K45 111010010 0) ⟨34, [(1, .ptr 0 0 0 0), (2, .ptr 1 0 0 0), (3, .ptr 2 0 0 0), (4, .i x1_4)], [.box 30 (eC30 a0), .box 63 [.i 0, .i 0, .i 0, .ns, .i 0, .i 0, .i 0], .box 63 [.i a0.Client, .i a0.Seq, .i a0.Kind, .own 3 2 0 x1_r3.length, .i a0.Over.Lo, .i a0.Over.Hi, .i a0.Old], eR131 x1_r3]⟩ ?_
          obtain ⟨h2, H⟩ := sC H
          refine ak_drawAtE (nt := 34) (hP ▸ mixed) 8 [7] [1, 2, 3, 4] [(1, .ptr 0 0 0 0), (2, .ptr 1 0 0 0), (3, .ptr 2 0 0 0), (4, .i x1_4)] [some (.ptr 2 0 0 3), some (.own 3 2 0 x1_r3.length), some (.ptr 0 0 0 3), some (.d (eL70 true a0.Pairs)), some (.i x1_4), some (.d (eP70 true a0.Pairs x1_4.toNat 0)), some (.d (eG70 (a0.Pairs.getD x1_4.toNat api_Pair.z))), some (.own 4 2 0 1)] [[.box 30 (eC30 a0), .box 63 [.i 0, .i 0, .i 0, .ns, .i 0, .i 0, .i 0], .box 63 [.i a0.Client, .i a0.Seq, .i a0.Kind, .own 3 2 0 x1_r3.length, .i a0.Over.Lo, .i a0.Over.Hi, .i a0.Old], eR131 x1_r3], [.box 30 (eC30 a0), .box 63 [.i 0, .i 0, .i 0, .ns, .i 0, .i 0, .i 0], .box 63 [.i a0.Client, .i a0.Seq, .i a0.Kind, .own 3 2 0 x1_r3.length, .i a0.Over.Lo, .i a0.Over.Hi, .i a0.Old], eR131 x1_r3, .flat false 2 131 1 (fun j => [api_Pair.e (a0.Pairs.getD x1_4.toNat api_Pair.z)].getD j [])]] (by kernel_rfl) (by kernel_rfl) (by kernel_rfl) (by kernel_rfl) ⟨(opXE (opGE (opES (opGE (opGE (opGE (opGE (opGE opE0 hT) hT) hT) hT) hT) (fun R rest h => ak_idx0 hT (i := x1_4) (n := (a0.Pairs.length : Int)) h2.1 h2.2 (by kernel_rfl) h)) hT)), (op_goFK hT), (opXE (opGE (opES (opGE (opGE (opGE (opGE (opGE opE0 hT) hT) hT) hT) hT) (fun R rest h => ak_idx0 hT (i := x1_4) (n := (a0.Pairs.length : Int)) h2.1 h2.2 (by kernel_rfl) h)) hT))⟩ ?_
          refine goK hT 0 (K45 1110100100 8) ⟨34, [(1, .ptr 0 0 0 0), (2, .ptr 1 0 0 0), (3, .ptr 2 0 0 0), (4, .i x1_4), (24, .own 3 2 0 x1_r3.length), (30, .own 4 2 0 1)], [.box 30 (eC30 a0), .box 63 [.i 0, .i 0, .i 0, .ns, .i 0, .i 0, .i 0], .box 63 [.i a0.Client, .i a0.Seq, .i a0.Kind, .own 3 2 0 x1_r3.length, .i a0.Over.Lo, .i a0.Over.Hi, .i a0.Old], eR131 x1_r3, .flat false 2 131 1 (fun j => [api_Pair.e (a0.Pairs.getD x1_4.toNat api_Pair.z)].getD j [])]⟩ ?_
          obtain ⟨h3, H⟩ := sC H
          refine ak_append1 (id := 3) (kk := 2) (by' := 16) (t := 60) (e := 131) (z := [.int .i64 0, .int .i64 0]) (dst := some 31) (id2 := 4) (e2 := 131) (fz := false) (k' := (K45 1110100100 9)) hT spliceref04_Pair.e spliceref04_Pair.z x1_r3 (⟨(a0.Pairs.getD x1_4.toNat api_Pair.z).Key, (a0.Pairs.getD x1_4.toNat api_Pair.z).Val⟩ : spliceref04_Pair) [1, 2, 3, 4, 31] (by kernel_rfl) (by kernel_rfl) (by kernel_rfl) (by kernel_rfl) (by kernel_rfl) (by kernel_rfl) (by kernel_rfl) h3 (by omega) (st' := ⟨34, [(1, .ptr 0 0 0 0), (2, .ptr 1 0 0 0), (3, .ptr 2 0 0 0), (4, .i x1_4), (31, .own 5 2 0 ((x1_r3 ++ [(⟨(a0.Pairs.getD x1_4.toNat api_Pair.z).Key, (a0.Pairs.getD x1_4.toNat api_Pair.z).Val⟩ : spliceref04_Pair)]).length))], [.box 30 (eC30 a0), .box 63 [.i 0, .i 0, .i 0, .ns, .i 0, .i 0, .i 0], .box 63 [.i a0.Client, .i a0.Seq, .i a0.Kind, .own 3 2 0 x1_r3.length, .i a0.Over.Lo, .i a0.Over.Hi, .i a0.Old], .gone, .flat false 2 131 1 (fun j => [api_Pair.e (a0.Pairs.getD x1_4.toNat api_Pair.z)].getD j []), eR131 (x1_r3 ++ [(⟨(a0.Pairs.getD x1_4.toNat api_Pair.z).Key, (a0.Pairs.getD x1_4.toNat api_Pair.z).Val⟩ : spliceref04_Pair)])]⟩) (by kernel_rfl) ?_
          refine goK hT 10 (K45 111010 0) ⟨34, [(1, .ptr 0 0 0 0), (2, .ptr 1 0 0 0), (3, .ptr 2 0 0 0), (4, .i (IntKind.wrap .i64 (x1_4 + 1)))], [.box 30 (eC30 a0), .box 63 [.i 0, .i 0, .i 0, .ns, .i 0, .i 0, .i 0], .box 63 [.i a0.Client, .i a0.Seq, .i a0.Kind, .own 5 2 0 ((x1_r3 ++ [(⟨(a0.Pairs.getD x1_4.toNat api_Pair.z).Key, (a0.Pairs.getD x1_4.toNat api_Pair.z).Val⟩ : spliceref04_Pair)]).length), .i a0.Over.Lo, .i a0.Over.Hi, .i a0.Old], .gone, .flat false 2 131 1 (fun j => [api_Pair.e (a0.Pairs.getD x1_4.toNat api_Pair.z)].getD j []), eR131 (x1_r3 ++ [(⟨(a0.Pairs.getD x1_4.toNat api_Pair.z).Key, (a0.Pairs.getD x1_4.toNat api_Pair.z).Val⟩ : spliceref04_Pair)])]⟩ ?_
          refine cutK [0, 1, 2, 5] ⟨34, [(1, .ptr 0 0 0 0), (2, .ptr 1 0 0 0), (3, .ptr 2 0 0 0), (4, .i (IntKind.wrap .i64 (x1_4 + 1)))], [.box 30 (eC30 a0), .box 63 [.i 0, .i 0, .i 0, .ns, .i 0, .i 0, .i 0], .box 63 [.i a0.Client, .i a0.Seq, .i a0.Kind, .own 3 2 0 (x1_r3 ++ [(⟨(a0.Pairs.getD x1_4.toNat api_Pair.z).Key, (a0.Pairs.getD x1_4.toNat api_Pair.z).Val⟩ : spliceref04_Pair)]).length, .i a0.Over.Lo, .i a0.Over.Hi, .i a0.Old], eR131 (x1_r3 ++ [(⟨(a0.Pairs.getD x1_4.toNat api_Pair.z).Key, (a0.Pairs.getD x1_4.toNat api_Pair.z).Val⟩ : spliceref04_Pair)])]⟩ h0 ?_
          exact ih (IntKind.wrap .i64 (x1_4 + 1)) (x1_r3 ++ [(⟨(a0.Pairs.getD x1_4.toNat api_Pair.z).Key, (a0.Pairs.getD x1_4.toNat api_Pair.z).Val⟩ : spliceref04_Pair)]) H
        · replace H := sF c1 H
          rw [decide_eq_false c1]
          refine goK hT 5 (K45 11110 1) ⟨34, [(2, .ptr 1 0 0 0), (33, .agg [.i a0.Client, .i a0.Seq, .i a0.Kind, .own 3 2 0 x1_r3.length, .i a0.Over.Lo, .i a0.Over.Hi, .i a0.Old])], [.box 30 (eC30 a0), .box 63 [.i 0, .i 0, .i 0, .ns, .i 0, .i 0, .i 0], .box 63 [.i a0.Client, .i a0.Seq, .i a0.Kind, .own 3 2 0 x1_r3.length, .i a0.Over.Lo, .i a0.Over.Hi, .i a0.Old], eR131 x1_r3]⟩ ?_
          refine ak_freeze 3 (kk := 2) (n := x1_r3.length) (ty := 131) (g := vec spliceref04_Pair.e spliceref04_Pair.z x1_r3) (by kernel_rfl) (st' := ⟨34, [(2, .ptr 1 0 0 0), (33, .agg [.i a0.Client, .i a0.Seq, .i a0.Kind, .own 3 2 0 x1_r3.length, .i a0.Over.Lo, .i a0.Over.Hi, .i a0.Old])], [.box 30 (eC30 a0), .box 63 [.i 0, .i 0, .i 0, .ns, .i 0, .i 0, .i 0], .box 63 [.i a0.Client, .i a0.Seq, .i a0.Kind, .own 3 2 0 x1_r3.length, .i a0.Over.Lo, .i a0.Over.Hi, .i a0.Old], eF131 x1_r3]⟩) (by kernel_rfl) ?_
          refine ak_sealS (av := .agg [.i a0.Client, .i a0.Seq, .i a0.Kind, .own 3 2 0 x1_r3.length, .i a0.Over.Lo, .i a0.Over.Hi, .i a0.Old]) (y := .agg [.i a0.Client, .i a0.Seq, .i a0.Kind, eL131 true x1_r3, .i a0.Over.Lo, .i a0.Over.Hi, .i a0.Old]) [2, 33] 33 (st' := ⟨34, [(2, .ptr 1 0 0 0), (33, .d (.agg [.i a0.Client, .i a0.Seq, .i a0.Kind, eL131 true x1_r3, .i a0.Over.Lo, .i a0.Over.Hi, .i a0.Old]))], [.box 30 (eC30 a0), .box 63 [.i 0, .i 0, .i 0, .ns, .i 0, .i 0, .i 0], .box 63 [.i a0.Client, .i a0.Seq, .i a0.Kind, .own 3 2 0 x1_r3.length, .i a0.Over.Lo, .i a0.Over.Hi, .i a0.Old], eF131 x1_r3]⟩) (by kernel_rfl) (.agg (.cons (.d _) (.cons (.d _) (.cons (.d _) (.cons (.own (ty := 131) (k := 2) (by kernel_rfl)) (.cons (.d _) (.cons (.d _) (.cons (.d _) .nil)))))))) (by kernel_rfl) ?_
          refine goK hT 2 (K45 1111 1) ⟨34, [(2, .ptr 1 0 0 0)], [.box 30 (eC30 a0), .box 63 [.i a0.Client, .i a0.Seq, .i a0.Kind, .d (eL131 true x1_r3), .i a0.Over.Lo, .i a0.Over.Hi, .i a0.Old], .box 63 [.i a0.Client, .i a0.Seq, .i a0.Kind, .own 3 2 0 x1_r3.length, .i a0.Over.Lo, .i a0.Over.Hi, .i a0.Old], eF131 x1_r3]⟩ ?_
          obtain rfl := retC H
          exact ak_retM hT hf hX (av := .d (.agg [.i a0.Client, .i a0.Seq, .i a0.Kind, eL131 true x1_r3, .i a0.Over.Lo, .i a0.Over.Hi, .i a0.Old])) (by kernel_rfl) [] (sel_of_eq (by kernel_rfl)) (by decide) (by rw [h0]; rfl) (by kernel_rfl) (fun _ h => all_nil h) (.d (.agg (spliceref04_Mut.nl _)))
  refine cutK [0, 1, 2, 3] ⟨34, [(1, .ptr 0 0 0 0), (2, .ptr 1 0 0 0), (3, .ptr 2 0 0 0), (4, .i 0)], [.box 30 (eC30 a0), .box 63 [.i 0, .i 0, .i 0, .ns, .i 0, .i 0, .i 0], .box 63 [.i a0.Client, .i a0.Seq, .i a0.Kind, .own 3 2 0 ([] : List spliceref04_Pair).length, .i a0.Over.Lo, .i a0.Over.Hi, .i a0.Old], eR131 ([] : List spliceref04_Pair)]⟩ h0 ?_
  obtain ⟨n, H⟩ := loopC H
  exact (L n) 0 ([] : List spliceref04_Pair) H


theorem splicelaw06_Ref.says (a0 : api_Held) {r : spliceref06_Held} (H : splicelaw06_Ref a0 = some r) : Says Try.prog 24 [] [.d (eG32 a0)] [] (.d (eG65 r)) := by
  refine says_of Try.func24 rfl (nt := 11) rfl (Nat.le_of_ble_eq_true rfl) fun X hP h0 hX => ?_
  have hT : TabOk X.P T := hP ▸ tok
  have hf : X.P.funcs[24]? = some Try.f24 := hP ▸ Try.func24
  refine goK hT 6 (K24 11 0) ⟨11, [(1, .ptr 0 0 0 0), (2, .ptr 1 0 0 0)], [.box 32 (eC32 a0), .box 65 [.i 0, .i 0, .i 0, .ns, .i 0, .i 0, .i 0, .i 0, .b false]]⟩ ?_
  obtain ⟨v1, h1, H⟩ := ibC H
  refine drawK (hP ▸ mixed) 7 [1, 2] [some (.ptr 0 0 0 0), some (.d (eG30 a0.M)), some (.d (eG63 v1)), some (.ptr 0 0 0 7), some (.i a0.Time), some (.ptr 0 0 0 8), some (.b a0.Final)] (opG (opG (opG (opG (opS (opG (opG op0 hT) hT) (fun R rest h => ak_callD (avs := [.d (eG30 a0.M)]) (dst := some 5) hP enters_45 (splicelaw04_Ref.says a0.M h1) (by kernel_rfl) (.cons (pass_d _) .nil) (by kernel_rfl) h)) hT) hT) hT) hT) ?_
  refine goK hT 3 (K24 11 1) ⟨11, [(2, .ptr 1 0 0 0)], [.box 32 (eC32 a0), .box 65 [.i v1.Client, .i v1.Seq, .i v1.Kind, .d (eL131 true v1.Pairs), .i v1.Over.Lo, .i v1.Over.Hi, .i v1.Old, .i a0.Time, .b a0.Final]]⟩ ?_
  obtain rfl := retC H
  exact ak_retM hT hf hX (av := .d (.agg [.i v1.Client, .i v1.Seq, .i v1.Kind, eL131 true v1.Pairs, .i v1.Over.Lo, .i v1.Over.Hi, .i v1.Old, .i a0.Time, .b a0.Final])) (by kernel_rfl) [] (sel_of_eq (by kernel_rfl)) (by decide) (by rw [h0]; rfl) (by kernel_rfl) (fun _ h => all_nil h) (.d (.agg (spliceref06_Held.nl _)))


theorem splicelaw06_Refs.says {t0 : Bool} (a0 : List api_Held) {r : List spliceref06_Held} (H : splicelaw06_Refs a0 = some r) : Says Try.prog 22 [] [.d (eL32 t0 a0)] [eR65 r] (.own 0 9 0 r.length) := by
  refine says_of Try.func22 rfl (nt := 20) rfl (Nat.le_of_ble_eq_true rfl) fun X hP h0 hX => ?_
  have hT : TabOk X.P T := hP ▸ tok
  have hf : X.P.funcs[22]? = some Try.f22 := hP ▸ Try.func22
  refine goK hT 15 (K22 111010 0) ⟨20, [(0, .d (eL32 t0 a0)), (3, .ns), (4, .i 0)], []⟩ ?_
  refine ak_nilS [0, 3, 4] 3 9 65 (vec spliceref06_Held.e spliceref06_Held.z []) (st' := ⟨20, [(0, .d (eL32 t0 a0)), (3, .own 0 9 0 0), (4, .i 0)], [eR65 ([] : List spliceref06_Held)]⟩) (by kernel_rfl) (by kernel_rfl) ?_
  have L : ∀ n, (∀ (x1_4 : Int) (x1_r0 : List spliceref06_Held), iter (splicelaw06_Refs.step a0) n (.l1 x1_4 x1_r0) = some r → AK X 22 ((K22 111010 0)) (Back X [eR65 r] (.own 0 9 0 r.length)) ⟨20, [(0, .d (eL32 t0 a0)), (3, .own 0 9 0 x1_r0.length), (4, .i x1_4)], [eR65 x1_r0]⟩) := by
    intro n
    induction n with
    | zero => exact fun _ _ H => iter0 H
    | succ n ih =>
      · intro x1_4 x1_r0 H
        refine goK hT 8 (K22 11101000 1) ⟨20, [(0, .d (eL32 t0 a0)), (3, .own 0 9 0 x1_r0.length), (4, .i x1_4), (8, .b (decide (x1_4 < (a0.length : Int))))], [eR65 x1_r0]⟩ ?_
        by_cases c1 : x1_4 < (a0.length : Int)
        · replace H := sT c1 H
          rw [decide_eq_true c1]
          refine goK hT 2 (K22 1110100 1) ⟨20, [(0, .d (eL32 t0 a0)), (3, .own 0 9 0 x1_r0.length), (4, .i x1_4)], [eR65 x1_r0]⟩ ?_
          refine goK hT 6 (K22 1110100100 3) ⟨20, [(0, .d (eL32 t0 a0)), (4, .i x1_4), (11, .own 0 9 0 x1_r0.length), (12, .d (eL32 t0 a0)), (13, .i x1_4)], [eR65 x1_r0]⟩ ?_
          obtain ⟨h2, H⟩ := sC H
          refine ak_idx hT [0, 4, 11, 14] (i := x1_4) (n := (a0.length : Int)) h2.1 h2.2 (k' := (K22 1110100100 4)) (st' := ⟨20, [(0, .d (eL32 t0 a0)), (4, .i x1_4), (11, .own 0 9 0 x1_r0.length), (14, .d (eP32 t0 a0 x1_4.toNat 0))], [eR65 x1_r0]⟩) (by kernel_rfl) ?_
          refine goK hT 1 (K22 1110100100 5) ⟨20, [(0, .d (eL32 t0 a0)), (4, .i x1_4), (11, .own 0 9 0 x1_r0.length), (15, .d (eG32 (a0.getD x1_4.toNat api_Held.z)))], [eR65 x1_r0]⟩ ?_
          obtain ⟨v1, h3, H⟩ := sbC H
          refine ak_callP (avs := [.d (eG32 (a0.getD x1_4.toNat api_Held.z))]) (dst := some 16) (k' := (K22 1110100100 6)) [0, 4, 11, 16] [] hP enters_24 (splicelaw06_Ref.says (a0.getD x1_4.toNat api_Held.z) h3) (by kernel_rfl) (hands_none _) (.cons (pass_d _) .nil) (st' := ⟨20, [(0, .d (eL32 t0 a0)), (4, .i x1_4), (11, .own 0 9 0 x1_r0.length), (16, .d (eG65 v1))], [eR65 x1_r0]⟩) (by kernel_rfl) ?_
          refine goK hT 1 (K22 1110100100 7) ⟨20, [(0, .d (eL32 t0 a0)), (4, .i x1_4), (11, .own 0 9 0 x1_r0.length), (17, .own 1 9 0 1)], [eR65 x1_r0, .flat false 9 65 1 (fun j => [spliceref06_Held.e v1].getD j [])]⟩ ?_
          obtain ⟨h4, H⟩ := sC H
          refine ak_append1 (id := 0) (kk := 9) (by' := 88) (t := 57) (e := 65) (z := [.int .i64 0, .int .i64 0, .int .i64 0, .slice none 0 0, .int .i64 0, .int .i64 0, .int .i64 0, .int .i64 0, .bool false]) (dst := some 18) (id2 := 1) (e2 := 65) (fz := false) (k' := (K22 1110100100 8)) hT spliceref06_Held.e spliceref06_Held.z x1_r0 v1 [0, 4, 18] (by kernel_rfl) (by kernel_rfl) (by kernel_rfl) (by kernel_rfl) (by kernel_rfl) (by kernel_rfl) (by kernel_rfl) h4 (by omega) (st' := ⟨20, [(0, .d (eL32 t0 a0)), (4, .i x1_4), (18, .own 2 9 0 ((x1_r0 ++ [v1]).length))], [.gone, .flat false 9 65 1 (fun j => [spliceref06_Held.e v1].getD j []), eR65 (x1_r0 ++ [v1])]⟩) (by kernel_rfl) ?_
          refine goK hT 9 (K22 111010 0) ⟨20, [(0, .d (eL32 t0 a0)), (3, .own 2 9 0 ((x1_r0 ++ [v1]).length)), (4, .i (IntKind.wrap .i64 (x1_4 + 1)))], [.gone, .flat false 9 65 1 (fun j => [spliceref06_Held.e v1].getD j []), eR65 (x1_r0 ++ [v1])]⟩ ?_
          refine cutK [2] ⟨20, [(0, .d (eL32 t0 a0)), (3, .own 0 9 0 (x1_r0 ++ [v1]).length), (4, .i (IntKind.wrap .i64 (x1_4 + 1)))], [eR65 (x1_r0 ++ [v1])]⟩ h0 ?_
          exact ih (IntKind.wrap .i64 (x1_4 + 1)) (x1_r0 ++ [v1]) H
        · replace H := sF c1 H
          rw [decide_eq_false c1]
          refine goK hT 7 (K22 1111 1) ⟨20, [(2, .own 0 9 0 x1_r0.length)], [eR65 x1_r0]⟩ ?_
          obtain rfl := retC H
          exact ak_ret hf hX (av := .own 0 9 0 x1_r0.length) (by kernel_rfl) [0] (sel_of_eq (by kernel_rfl)) (by decide) (by rw [h0]; rfl) (by kernel_rfl) (fun _ h => all_cons (nr_vec spliceref06_Held.nl) (fun _ h => all_nil h) h) (.own _ _ _ _)
  refine cutK [0] ⟨20, [(0, .d (eL32 t0 a0)), (3, .own 0 9 0 ([] : List spliceref06_Held).length), (4, .i 0)], [eR65 ([] : List spliceref06_Held)]⟩ h0 ?_
  obtain ⟨n, H⟩ := loopC H
  exact (L n) 0 ([] : List spliceref06_Held) H


theorem spliceref04_Same.says (a0 : spliceref04_Mut) (a1 : spliceref04_Mut) {r : Bool} (H : spliceref04_Same a0 a1 = some r) : Says Try.prog 47 [] [.d (eG63 a0), .d (eG63 a1)] [] (.b r) := by
  refine says_of Try.func47 rfl (nt := 66) rfl (Nat.le_of_ble_eq_true rfl) fun X hP h0 hX => ?_
  have hT : TabOk X.P T := hP ▸ tok
  have hf : X.P.funcs[47]? = some Try.f47 := hP ▸ Try.func47
  have Jj1 : ∀ (y1_47 : Bool), (spliceref04_Same.j1 a0 a1 y1_47) = some r → AK X 47 ((K47 110 1)) (Back X [] (.b r)) ⟨66, [(2, .ptr 0 0 0 0), (3, .ptr 1 0 0 0), (47, .b y1_47)], [.box 63 (eC63 a0), .box 63 (eC63 a1)]⟩ := by
    intro y1_47 H
    by_cases c8 : y1_47 = true
    · replace H := iT c8 H
      rw [c8]
      refine goK hT 5 (K47 11010 1) ⟨66, [(4, .b false)], [.box 63 (eC63 a0), .box 63 (eC63 a1)]⟩ ?_
      obtain rfl := retC H
      exact ak_ret hf hX (av := .b false) (by kernel_rfl) [] (sel_of_eq (by kernel_rfl)) (by decide) (by rw [h0]; rfl) (by kernel_rfl) (fun _ h => all_nil h) (.d (.v _))
    · replace H := iF c8 H
      rw [boF c8]
      refine goK hT 2 (K47 11 1) ⟨66, [(2, .ptr 0 0 0 0), (3, .ptr 1 0 0 0)], [.box 63 (eC63 a0), .box 63 (eC63 a1)]⟩ ?_
      refine goK hT 7 (K47 111010 0) ⟨66, [(2, .ptr 0 0 0 0), (3, .ptr 1 0 0 0), (5, .i 0)], [.box 63 (eC63 a0), .box 63 (eC63 a1)]⟩ ?_
      have L : ∀ n, (∀ (x1_5 : Int), iter (spliceref04_Same.step a0 a1) n (.l1 x1_5) = some r → AK X 47 ((K47 111010 0)) (Back X [] (.b r)) ⟨66, [(2, .ptr 0 0 0 0), (3, .ptr 1 0 0 0), (5, .i x1_5)], [.box 63 (eC63 a0), .box 63 (eC63 a1)]⟩) := by
        intro n
        induction n with
        | zero => exact fun _ H => iter0 H
        | succ n ih =>
          · intro x1_5 H
            refine goK hT 9 (K47 11101000 1) ⟨66, [(2, .ptr 0 0 0 0), (3, .ptr 1 0 0 0), (5, .i x1_5), (52, .b (decide (x1_5 < (a0.Pairs.length : Int))))], [.box 63 (eC63 a0), .box 63 (eC63 a1)]⟩ ?_
            by_cases c9 : x1_5 < (a0.Pairs.length : Int)
            · replace H := sT c9 H
              rw [decide_eq_true c9]
              refine goK hT 2 (K47 1110100 1) ⟨66, [(2, .ptr 0 0 0 0), (3, .ptr 1 0 0 0), (5, .i x1_5)], [.box 63 (eC63 a0), .box 63 (eC63 a1)]⟩ ?_
              refine goK hT 3 (K47 1110100100 0) ⟨66, [(2, .ptr 0 0 0 0), (3, .ptr 1 0 0 0), (5, .i x1_5)], [.box 63 (eC63 a0), .box 63 (eC63 a1)]⟩ ?_
              obtain ⟨h10, H⟩ := sC H
              obtain ⟨h11, H⟩ := sC H
              refine drawK (hP ▸ mixed) 11 [2, 3, 5] [some (.ptr 0 0 0 3), some (.d (eL131 true a0.Pairs)), some (.i x1_5), some (.d (eP131 true a0.Pairs x1_5.toNat 0)), some (.d (eG131 (a0.Pairs.getD x1_5.toNat spliceref04_Pair.z))), some (.ptr 1 0 0 3), some (.d (eL131 true a1.Pairs)), some (.i x1_5), some (.d (eP131 true a1.Pairs x1_5.toNat 0)), some (.d (eG131 (a1.Pairs.getD x1_5.toNat spliceref04_Pair.z))), some (.b (!((((a0.Pairs.getD x1_5.toNat spliceref04_Pair.z).Key) == ((a1.Pairs.getD x1_5.toNat spliceref04_Pair.z).Key)) && (((a0.Pairs.getD x1_5.toNat spliceref04_Pair.z).Val) == ((a1.Pairs.getD x1_5.toNat spliceref04_Pair.z).Val)))))] (opG (opG (opS (opG (opG (opG (opG (opS (opG (opG (opG op0 hT) hT) hT) (fun R rest h => ak_idx0 hT (i := x1_5) (n := (a0.Pairs.length : Int)) h10.1 h10.2 (by kernel_rfl) h)) hT) hT) hT) hT) (fun R rest h => ak_idx0 hT (i := x1_5) (n := (a1.Pairs.length : Int)) h11.1 h11.2 (by kernel_rfl) h)) hT) hT) ?_
              refine goK hT 1 (K47 1110100100 1) ⟨66, [(2, .ptr 0 0 0 0), (3, .ptr 1 0 0 0), (5, .i x1_5), (65, .b (!((((a0.Pairs.getD x1_5.toNat spliceref04_Pair.z).Key) == ((a1.Pairs.getD x1_5.toNat spliceref04_Pair.z).Key)) && (((a0.Pairs.getD x1_5.toNat spliceref04_Pair.z).Val) == ((a1.Pairs.getD x1_5.toNat spliceref04_Pair.z).Val)))))], [.box 63 (eC63 a0), .box 63 (eC63 a1)]⟩ ?_
              by_cases c12 : ((a0.Pairs.getD x1_5.toNat spliceref04_Pair.z).Key) = ((a1.Pairs.getD x1_5.toNat spliceref04_Pair.z).Key)
              · replace H := sT c12 H
                rw [eqT c12]
                by_cases c13 : ((a0.Pairs.getD x1_5.toNat spliceref04_Pair.z).Val) = ((a1.Pairs.getD x1_5.toNat spliceref04_Pair.z).Val)
                · replace H := sT c13 H
                  rw [eqT c13]
                  refine goK hT 3 (K47 11101001 1) ⟨66, [(2, .ptr 0 0 0 0), (3, .ptr 1 0 0 0), (5, .i x1_5)], [.box 63 (eC63 a0), .box 63 (eC63 a1)]⟩ ?_
                  refine goK hT 6 (K47 111010 0) ⟨66, [(2, .ptr 0 0 0 0), (3, .ptr 1 0 0 0), (5, .i (IntKind.wrap .i64 (x1_5 + 1)))], [.box 63 (eC63 a0), .box 63 (eC63 a1)]⟩ ?_
                  refine cutK [0, 1] ⟨66, [(2, .ptr 0 0 0 0), (3, .ptr 1 0 0 0), (5, .i (IntKind.wrap .i64 (x1_5 + 1)))], [.box 63 (eC63 a0), .box 63 (eC63 a1)]⟩ h0 ?_
                  exact ih (IntKind.wrap .i64 (x1_5 + 1)) H
                · replace H := sF c13 H
                  rw [eqF c13]
                  refine goK hT 5 (K47 111010010010 1) ⟨66, [(4, .b false)], [.box 63 (eC63 a0), .box 63 (eC63 a1)]⟩ ?_
                  obtain rfl := retC H
                  exact ak_ret hf hX (av := .b false) (by kernel_rfl) [] (sel_of_eq (by kernel_rfl)) (by decide) (by rw [h0]; rfl) (by kernel_rfl) (fun _ h => all_nil h) (.d (.v _))
              · replace H := sF c12 H
                rw [eqF c12]
                by_cases c14 : ((a0.Pairs.getD x1_5.toNat spliceref04_Pair.z).Val) = ((a1.Pairs.getD x1_5.toNat spliceref04_Pair.z).Val)
                · replace H := sT c14 H
                  rw [eqT c14]
                  refine goK hT 5 (K47 111010010010 1) ⟨66, [(4, .b false)], [.box 63 (eC63 a0), .box 63 (eC63 a1)]⟩ ?_
                  obtain rfl := retC H
                  exact ak_ret hf hX (av := .b false) (by kernel_rfl) [] (sel_of_eq (by kernel_rfl)) (by decide) (by rw [h0]; rfl) (by kernel_rfl) (fun _ h => all_nil h) (.d (.v _))
                · replace H := sF c14 H
                  rw [eqF c14]
                  refine goK hT 5 (K47 111010010010 1) ⟨66, [(4, .b false)], [.box 63 (eC63 a0), .box 63 (eC63 a1)]⟩ ?_
                  obtain rfl := retC H
                  exact ak_ret hf hX (av := .b false) (by kernel_rfl) [] (sel_of_eq (by kernel_rfl)) (by decide) (by rw [h0]; rfl) (by kernel_rfl) (fun _ h => all_nil h) (.d (.v _))
            · replace H := sF c9 H
              rw [decide_eq_false c9]
              refine goK hT 6 (K47 1111 1) ⟨66, [(4, .b true)], [.box 63 (eC63 a0), .box 63 (eC63 a1)]⟩ ?_
              obtain rfl := retC H
              exact ak_ret hf hX (av := .b true) (by kernel_rfl) [] (sel_of_eq (by kernel_rfl)) (by decide) (by rw [h0]; rfl) (by kernel_rfl) (fun _ h => all_nil h) (.d (.v _))
      refine cutK [0, 1] ⟨66, [(2, .ptr 0 0 0 0), (3, .ptr 1 0 0 0), (5, .i 0)], [.box 63 (eC63 a0), .box 63 (eC63 a1)]⟩ h0 ?_
      obtain ⟨n, H⟩ := loopC H
      exact (L n) 0 H
  refine goK hT 15 (K47 1100 6) ⟨66, [(2, .ptr 0 0 0 0), (3, .ptr 1 0 0 0), (11, .b (a0.Client != a1.Client))], [.box 63 (eC63 a0), .box 63 (eC63 a1)]⟩ ?_
  by_cases c1 : a0.Client = a1.Client
  · replace H := iT c1 H
    rw [neF c1]
    refine goK hT 7 (K47 1100 13) ⟨66, [(2, .ptr 0 0 0 0), (3, .ptr 1 0 0 0), (18, .b (a0.Seq != a1.Seq))], [.box 63 (eC63 a0), .box 63 (eC63 a1)]⟩ ?_
    by_cases c2 : a0.Seq = a1.Seq
    · replace H := iT c2 H
      rw [neF c2]
      refine goK hT 7 (K47 1100 20) ⟨66, [(2, .ptr 0 0 0 0), (3, .ptr 1 0 0 0), (25, .b (a0.Kind != a1.Kind))], [.box 63 (eC63 a0), .box 63 (eC63 a1)]⟩ ?_
      by_cases c3 : a0.Kind = a1.Kind
      · replace H := iT c3 H
        rw [neF c3]
        refine goK hT 7 (K47 1100 27) ⟨66, [(2, .ptr 0 0 0 0), (3, .ptr 1 0 0 0), (32, .b (!((a0.Over.Lo == a1.Over.Lo) && (a0.Over.Hi == a1.Over.Hi))))], [.box 63 (eC63 a0), .box 63 (eC63 a1)]⟩ ?_
        by_cases c4 : a0.Over.Lo = a1.Over.Lo
        · replace H := iT c4 H
          rw [eqT c4]
          by_cases c5 : a0.Over.Hi = a1.Over.Hi
          · replace H := iT c5 H
            rw [eqT c5]
            refine goK hT 7 (K47 1100 34) ⟨66, [(2, .ptr 0 0 0 0), (3, .ptr 1 0 0 0), (39, .b (a0.Old != a1.Old))], [.box 63 (eC63 a0), .box 63 (eC63 a1)]⟩ ?_
            by_cases c6 : a0.Old = a1.Old
            · replace H := iT c6 H
              rw [neF c6]
              refine goK hT 9 (K47 110 1) ⟨66, [(2, .ptr 0 0 0 0), (3, .ptr 1 0 0 0), (47, .b ((a0.Pairs.length : Int) != (a1.Pairs.length : Int)))], [.box 63 (eC63 a0), .box 63 (eC63 a1)]⟩ ?_
              refine cutK [0, 1] ⟨66, [(2, .ptr 0 0 0 0), (3, .ptr 1 0 0 0), (47, .b ((a0.Pairs.length : Int) != (a1.Pairs.length : Int)))], [.box 63 (eC63 a0), .box 63 (eC63 a1)]⟩ h0 ?_
              exact Jj1 ((a0.Pairs.length : Int) != (a1.Pairs.length : Int)) H
            · replace H := iF c6 H
              rw [neT c6]
              refine goK hT 9 (K47 110 1) ⟨66, [(2, .ptr 0 0 0 0), (3, .ptr 1 0 0 0), (47, .b true)], [.box 63 (eC63 a0), .box 63 (eC63 a1)]⟩ ?_
              refine cutK [0, 1] ⟨66, [(2, .ptr 0 0 0 0), (3, .ptr 1 0 0 0), (47, .b true)], [.box 63 (eC63 a0), .box 63 (eC63 a1)]⟩ h0 ?_
              exact Jj1 true H
          · replace H := iF c5 H
            rw [eqF c5]
            refine goK hT 16 (K47 110 1) ⟨66, [(2, .ptr 0 0 0 0), (3, .ptr 1 0 0 0), (47, .b true)], [.box 63 (eC63 a0), .box 63 (eC63 a1)]⟩ ?_
            refine cutK [0, 1] ⟨66, [(2, .ptr 0 0 0 0), (3, .ptr 1 0 0 0), (47, .b true)], [.box 63 (eC63 a0), .box 63 (eC63 a1)]⟩ h0 ?_
            exact Jj1 true H
        · replace H := iF c4 H
          rw [eqF c4]
          by_cases c7 : a0.Over.Hi = a1.Over.Hi
          · replace H := iT c7 H
            rw [eqT c7]
            refine goK hT 16 (K47 110 1) ⟨66, [(2, .ptr 0 0 0 0), (3, .ptr 1 0 0 0), (47, .b true)], [.box 63 (eC63 a0), .box 63 (eC63 a1)]⟩ ?_
            refine cutK [0, 1] ⟨66, [(2, .ptr 0 0 0 0), (3, .ptr 1 0 0 0), (47, .b true)], [.box 63 (eC63 a0), .box 63 (eC63 a1)]⟩ h0 ?_
            exact Jj1 true H
          · replace H := iF c7 H
            rw [eqF c7]
            refine goK hT 16 (K47 110 1) ⟨66, [(2, .ptr 0 0 0 0), (3, .ptr 1 0 0 0), (47, .b true)], [.box 63 (eC63 a0), .box 63 (eC63 a1)]⟩ ?_
            refine cutK [0, 1] ⟨66, [(2, .ptr 0 0 0 0), (3, .ptr 1 0 0 0), (47, .b true)], [.box 63 (eC63 a0), .box 63 (eC63 a1)]⟩ h0 ?_
            exact Jj1 true H
      · replace H := iF c3 H
        rw [neT c3]
        refine goK hT 23 (K47 110 1) ⟨66, [(2, .ptr 0 0 0 0), (3, .ptr 1 0 0 0), (47, .b true)], [.box 63 (eC63 a0), .box 63 (eC63 a1)]⟩ ?_
        refine cutK [0, 1] ⟨66, [(2, .ptr 0 0 0 0), (3, .ptr 1 0 0 0), (47, .b true)], [.box 63 (eC63 a0), .box 63 (eC63 a1)]⟩ h0 ?_
        exact Jj1 true H
    · replace H := iF c2 H
      rw [neT c2]
      refine goK hT 30 (K47 110 1) ⟨66, [(2, .ptr 0 0 0 0), (3, .ptr 1 0 0 0), (47, .b true)], [.box 63 (eC63 a0), .box 63 (eC63 a1)]⟩ ?_
      refine cutK [0, 1] ⟨66, [(2, .ptr 0 0 0 0), (3, .ptr 1 0 0 0), (47, .b true)], [.box 63 (eC63 a0), .box 63 (eC63 a1)]⟩ h0 ?_
      exact Jj1 true H
  · replace H := iF c1 H
    rw [neT c1]
    refine goK hT 37 (K47 110 1) ⟨66, [(2, .ptr 0 0 0 0), (3, .ptr 1 0 0 0), (47, .b true)], [.box 63 (eC63 a0), .box 63 (eC63 a1)]⟩ ?_
    refine cutK [0, 1] ⟨66, [(2, .ptr 0 0 0 0), (3, .ptr 1 0 0 0), (47, .b true)], [.box 63 (eC63 a0), .box 63 (eC63 a1)]⟩ h0 ?_
    exact Jj1 true H


theorem spliceref06_SameOne.says (a0 : spliceref06_Held) (a1 : spliceref06_Held) {r : Bool} (H : spliceref06_SameOne a0 a1 = some r) : Says Try.prog 27 [] [.d (eG65 a0), .d (eG65 a1)] [] (.b r) := by
  refine says_of Try.func27 rfl (nt := 24) rfl (Nat.le_of_ble_eq_true rfl) fun X hP h0 hX => ?_
  have hT : TabOk X.P T := hP ▸ tok
  have hf : X.P.funcs[27]? = some Try.f27 := hP ▸ Try.func27
  refine goK hT 12 (K27 110 4) ⟨24, [(2, .ptr 0 0 0 0), (3, .ptr 1 0 0 0), (6, .d (eG63 a0.M)), (8, .d (eG63 a1.M))], [.box 65 (eC65 a0), .box 65 (eC65 a1)]⟩ ?_
  obtain ⟨v1, h1, H⟩ := ibC H
  have Jj1 : ∀ (y1_4 : Bool), (spliceref06_SameOne.j1 y1_4) = some r → AK X 27 ((K27 11 1)) (Back X [] (.b r)) ⟨24, [(4, .b y1_4)], []⟩ := by
    intro y1_4 H
    obtain rfl := retC H
    exact ak_ret hf hX (av := .b y1_4) (by kernel_rfl) [] (sel_of_eq (by kernel_rfl)) (by decide) (by rw [h0]; rfl) (by kernel_rfl) (fun _ h => all_nil h) (.d (.v _))
  refine ak_callP (avs := [.d (eG63 a0.M), .d (eG63 a1.M)]) (dst := some 9) (k' := (K27 110 5)) [2, 3, 9] [] hP enters_47 (spliceref04_Same.says a0.M a1.M h1) (by kernel_rfl) (hands_none _) (.cons (pass_d _) (.cons (pass_d _) .nil)) (st' := ⟨24, [(2, .ptr 0 0 0 0), (3, .ptr 1 0 0 0), (9, .b v1)], [.box 65 (eC65 a0), .box 65 (eC65 a1)]⟩) (by kernel_rfl) ?_
  refine goK hT 1 (K27 110 6) ⟨24, [(2, .ptr 0 0 0 0), (3, .ptr 1 0 0 0), (10, .b v1)], [.box 65 (eC65 a0), .box 65 (eC65 a1)]⟩ ?_
  by_cases c2 : v1 = true
  · replace H := iT c2 H
    rw [c2]
    refine goK hT 7 (K27 110 13) ⟨24, [(2, .ptr 0 0 0 0), (3, .ptr 1 0 0 0), (17, .b (a0.Time == a1.Time))], [.box 65 (eC65 a0), .box 65 (eC65 a1)]⟩ ?_
    by_cases c3 : a0.Time = a1.Time
    · replace H := iT c3 H
      rw [eqT c3]
      refine goK hT 8 (K27 11 1) ⟨24, [(4, .b (a0.Final == a1.Final))], [.box 65 (eC65 a0), .box 65 (eC65 a1)]⟩ ?_
      refine cutK [] ⟨24, [(4, .b (a0.Final == a1.Final))], []⟩ h0 ?_
      exact Jj1 (a0.Final == a1.Final) H
    · replace H := iF c3 H
      rw [eqF c3]
      refine goK hT 8 (K27 11 1) ⟨24, [(4, .b false)], [.box 65 (eC65 a0), .box 65 (eC65 a1)]⟩ ?_
      refine cutK [] ⟨24, [(4, .b false)], []⟩ h0 ?_
      exact Jj1 false H
  · replace H := iF c2 H
    rw [boF c2]
    refine goK hT 15 (K27 11 1) ⟨24, [(4, .b false)], [.box 65 (eC65 a0), .box 65 (eC65 a1)]⟩ ?_
    refine cutK [] ⟨24, [(4, .b false)], []⟩ h0 ?_
    exact Jj1 false H


theorem spliceref06_Same.says {t0 : Bool} {t1 : Bool} (a0 : List spliceref06_Held) (a1 : List spliceref06_Held) {r : Bool} (H : spliceref06_Same a0 a1 = some r) : Says Try.prog 21 [] [.d (eL65 t0 a0), .d (eL65 t1 a1)] [] (.b r) := by
  refine says_of Try.func21 rfl (nt := 27) rfl (Nat.le_of_ble_eq_true rfl) fun X hP h0 hX => ?_
  have hT : TabOk X.P T := hP ▸ tok
  have hf : X.P.funcs[21]? = some Try.f21 := hP ▸ Try.func21
  refine goK hT 13 (K21 110 1) ⟨27, [(0, .d (eL65 t0 a0)), (1, .d (eL65 t1 a1)), (10, .b ((a0.length : Int) != (a1.length : Int)))], []⟩ ?_
  by_cases c1 : (a0.length : Int) = (a1.length : Int)
  · replace H := iT c1 H
    rw [neF c1]
    refine goK hT 2 (K21 11 1) ⟨27, [(0, .d (eL65 t0 a0)), (1, .d (eL65 t1 a1))], []⟩ ?_
    refine goK hT 7 (K21 111010 0) ⟨27, [(0, .d (eL65 t0 a0)), (1, .d (eL65 t1 a1)), (5, .i 0)], []⟩ ?_
    have L : ∀ n, (∀ (x1_5 : Int), iter (spliceref06_Same.step a0 a1) n (.l1 x1_5) = some r → AK X 21 ((K21 111010 0)) (Back X [] (.b r)) ⟨27, [(0, .d (eL65 t0 a0)), (1, .d (eL65 t1 a1)), (5, .i x1_5)], []⟩) := by
      intro n
      induction n with
      | zero => exact fun _ H => iter0 H
      | succ n ih =>
        · intro x1_5 H
          refine goK hT 8 (K21 11101000 1) ⟨27, [(0, .d (eL65 t0 a0)), (1, .d (eL65 t1 a1)), (5, .i x1_5), (14, .b (decide (x1_5 < (a0.length : Int))))], []⟩ ?_
          by_cases c2 : x1_5 < (a0.length : Int)
          · replace H := sT c2 H
            rw [decide_eq_true c2]
            refine goK hT 2 (K21 1110100 1) ⟨27, [(0, .d (eL65 t0 a0)), (1, .d (eL65 t1 a1)), (5, .i x1_5)], []⟩ ?_
            refine goK hT 3 (K21 1110100100 0) ⟨27, [(0, .d (eL65 t0 a0)), (1, .d (eL65 t1 a1)), (5, .i x1_5)], []⟩ ?_
            obtain ⟨h3, H⟩ := sC H
            obtain ⟨h4, H⟩ := sC H
            obtain ⟨v1, h5, H⟩ := sbC H
            refine drawK (hP ▸ mixed) 10 [0, 1, 5] [some (.d (eL65 t0 a0)), some (.i x1_5), some (.d (eP65 t0 a0 x1_5.toNat 0)), some (.d (eG65 (a0.getD x1_5.toNat spliceref06_Held.z))), some (.d (eL65 t1 a1)), some (.i x1_5), some (.d (eP65 t1 a1 x1_5.toNat 0)), some (.d (eG65 (a1.getD x1_5.toNat spliceref06_Held.z))), some (.b v1), some (.b (!v1))] (opG (opS (opG (opS (opG (opG (opG (opS (opG (opG op0 hT) hT) (fun R rest h => ak_idx0 hT (i := x1_5) (n := (a0.length : Int)) h3.1 h3.2 (by kernel_rfl) h)) hT) hT) hT) (fun R rest h => ak_idx0 hT (i := x1_5) (n := (a1.length : Int)) h4.1 h4.2 (by kernel_rfl) h)) hT) (fun R rest h => ak_callD (avs := [.d (eG65 (a0.getD x1_5.toNat spliceref06_Held.z)), .d (eG65 (a1.getD x1_5.toNat spliceref06_Held.z))]) (dst := some 25) hP enters_27 (spliceref06_SameOne.says (a0.getD x1_5.toNat spliceref06_Held.z) (a1.getD x1_5.toNat spliceref06_Held.z) h5) (by kernel_rfl) (.cons (pass_d _) (.cons (pass_d _) .nil)) (by kernel_rfl) h)) hT) ?_
            refine goK hT 1 (K21 1110100100 1) ⟨27, [(0, .d (eL65 t0 a0)), (1, .d (eL65 t1 a1)), (5, .i x1_5), (26, .b (!v1))], []⟩ ?_
            by_cases c6 : v1 = true
            · replace H := sT c6 H
              rw [c6]
              refine goK hT 3 (K21 11101001 1) ⟨27, [(0, .d (eL65 t0 a0)), (1, .d (eL65 t1 a1)), (5, .i x1_5)], []⟩ ?_
              refine goK hT 6 (K21 111010 0) ⟨27, [(0, .d (eL65 t0 a0)), (1, .d (eL65 t1 a1)), (5, .i (IntKind.wrap .i64 (x1_5 + 1)))], []⟩ ?_
              refine cutK [] ⟨27, [(0, .d (eL65 t0 a0)), (1, .d (eL65 t1 a1)), (5, .i (IntKind.wrap .i64 (x1_5 + 1)))], []⟩ h0 ?_
              exact ih (IntKind.wrap .i64 (x1_5 + 1)) H
            · replace H := sF c6 H
              rw [boF c6]
              refine goK hT 5 (K21 111010010010 1) ⟨27, [(4, .b false)], []⟩ ?_
              obtain rfl := retC H
              exact ak_ret hf hX (av := .b false) (by kernel_rfl) [] (sel_of_eq (by kernel_rfl)) (by decide) (by rw [h0]; rfl) (by kernel_rfl) (fun _ h => all_nil h) (.d (.v _))
          · replace H := sF c2 H
            rw [decide_eq_false c2]
            refine goK hT 6 (K21 1111 1) ⟨27, [(4, .b true)], []⟩ ?_
            obtain rfl := retC H
            exact ak_ret hf hX (av := .b true) (by kernel_rfl) [] (sel_of_eq (by kernel_rfl)) (by decide) (by rw [h0]; rfl) (by kernel_rfl) (fun _ h => all_nil h) (.d (.v _))
    refine cutK [] ⟨27, [(0, .d (eL65 t0 a0)), (1, .d (eL65 t1 a1)), (5, .i 0)], []⟩ h0 ?_
    obtain ⟨n, H⟩ := loopC H
    exact (L n) 0 H
  · replace H := iF c1 H
    rw [neT c1]
    refine goK hT 5 (K21 11010 1) ⟨27, [(4, .b false)], []⟩ ?_
    obtain rfl := retC H
    exact ak_ret hf hX (av := .b false) (by kernel_rfl) [] (sel_of_eq (by kernel_rfl)) (by decide) (by rw [h0]; rfl) (by kernel_rfl) (fun _ h => all_nil h) (.d (.v _))


theorem splicelaw06_light.says (a0 : splicelaw06_Act) : Says Try.prog 28 [] [.d (eG76 a0)] [] (.b (splicelaw06_light a0)) := by
  obtain ⟨r, H⟩ : ∃ r, splicelaw06_light a0 = r := ⟨_, rfl⟩
  rw [H]
  refine says_of Try.func28 rfl (nt := 9) rfl (Nat.le_of_ble_eq_true rfl) fun X hP h0 hX => ?_
  have hT : TabOk X.P T := hP ▸ tok
  have hf : X.P.funcs[28]? = some Try.f28 := hP ▸ Try.func28
  refine goK hT 15 (K28 11 1) ⟨9, [(2, .b (decide ((a0.H.M.Pairs.length : Int) ≤ 20)))], [.box 76 (eC76 a0)]⟩ ?_
  obtain rfl := H
  exact ak_ret hf hX (av := .b (decide ((a0.H.M.Pairs.length : Int) ≤ 20))) (by kernel_rfl) [] (sel_of_eq (by kernel_rfl)) (by decide) (by rw [h0]; rfl) (by kernel_rfl) (fun _ h => all_nil h) (.d (.v _))


theorem spliceref03_One.says (a0 : spliceref03_Span) : Says Try.prog 75 [] [.d (eG61 a0)] [] (.b (spliceref03_One a0)) := by
  obtain ⟨r, H⟩ : ∃ r, spliceref03_One a0 = r := ⟨_, rfl⟩
  rw [H]
  refine says_of Try.func75 rfl (nt := 18) rfl (Nat.le_of_ble_eq_true rfl) fun X hP h0 hX => ?_
  have hT : TabOk X.P T := hP ▸ tok
  have hf : X.P.funcs[75]? = some Try.f75 := hP ▸ Try.func75
  have Jj1 : ∀ (y1_2 : Bool), (spliceref03_One.j1 y1_2) = r → AK X 75 ((K75 11 1)) (Back X [] (.b r)) ⟨18, [(2, .b y1_2)], []⟩ := by
    intro y1_2 H
    obtain rfl := H
    exact ak_ret hf hX (av := .b y1_2) (by kernel_rfl) [] (sel_of_eq (by kernel_rfl)) (by decide) (by rw [h0]; rfl) (by kernel_rfl) (fun _ h => all_nil h) (.d (.v _))
  refine goK hT 11 (K75 110 4) ⟨18, [(1, .ptr 0 0 0 0), (6, .b (decide (a0.Lo ≥ 0)))], [.box 61 (eC61 a0)]⟩ ?_
  by_cases c1 : a0.Lo ≥ 0
  · replace H := iT c1 H
    rw [decide_eq_true c1]
    refine goK hT 7 (K75 110 11) ⟨18, [(1, .ptr 0 0 0 0), (13, .b (decide (a0.Lo < a0.Hi)))], [.box 61 (eC61 a0)]⟩ ?_
    by_cases c2 : a0.Lo < a0.Hi
    · replace H := iT c2 H
      rw [decide_eq_true c2]
      refine goK hT 6 (K75 11 1) ⟨18, [(2, .b (decide (a0.Hi ≤ 4096)))], [.box 61 (eC61 a0)]⟩ ?_
      refine cutK [] ⟨18, [(2, .b (decide (a0.Hi ≤ 4096)))], []⟩ h0 ?_
      exact Jj1 (decide (a0.Hi ≤ 4096)) H
    · replace H := iF c2 H
      rw [decide_eq_false c2]
      refine goK hT 6 (K75 11 1) ⟨18, [(2, .b false)], [.box 61 (eC61 a0)]⟩ ?_
      refine cutK [] ⟨18, [(2, .b false)], []⟩ h0 ?_
      exact Jj1 false H
  · replace H := iF c1 H
    rw [decide_eq_false c1]
    refine goK hT 13 (K75 11 1) ⟨18, [(2, .b false)], [.box 61 (eC61 a0)]⟩ ?_
    refine cutK [] ⟨18, [(2, .b false)], []⟩ h0 ?_
    exact Jj1 false H


theorem spliceref04_value.says (a0 : Int) : Says Try.prog 77 [] [.i a0] [] (.b (spliceref04_value a0)) := by
  obtain ⟨r, H⟩ : ∃ r, spliceref04_value a0 = r := ⟨_, rfl⟩
  rw [H]
  refine says_of Try.func77 rfl (nt := 9) rfl (Nat.le_of_ble_eq_true rfl) fun X hP h0 hX => ?_
  have hT : TabOk X.P T := hP ▸ tok
  have hf : X.P.funcs[77]? = some Try.f77 := hP ▸ Try.func77
  have Jj1 : ∀ (y1_2 : Bool), (spliceref04_value.j1 y1_2) = r → AK X 77 ((K77 11 1)) (Back X [] (.b r)) ⟨9, [(2, .b y1_2)], []⟩ := by
    intro y1_2 H
    obtain rfl := H
    exact ak_ret hf hX (av := .b y1_2) (by kernel_rfl) [] (sel_of_eq (by kernel_rfl)) (by decide) (by rw [h0]; rfl) (by kernel_rfl) (fun _ h => all_nil h) (.d (.v _))
  refine goK hT 9 (K77 110 3) ⟨9, [(0, .i a0), (5, .b (decide (a0 ≥ (-1099511627776))))], []⟩ ?_
  by_cases c1 : a0 ≥ (-1099511627776)
  · replace H := iT c1 H
    rw [decide_eq_true c1]
    refine goK hT 5 (K77 11 1) ⟨9, [(2, .b (decide (a0 ≤ 1099511627776)))], []⟩ ?_
    refine cutK [] ⟨9, [(2, .b (decide (a0 ≤ 1099511627776)))], []⟩ h0 ?_
    exact Jj1 (decide (a0 ≤ 1099511627776)) H
  · replace H := iF c1 H
    rw [decide_eq_false c1]
    refine goK hT 5 (K77 11 1) ⟨9, [(2, .b false)], []⟩ ?_
    refine cutK [] ⟨9, [(2, .b false)], []⟩ h0 ?_
    exact Jj1 false H


theorem spliceref04_pairs.says {t0 : Bool} (a0 : List spliceref04_Pair) (a1 : Int) (a2 : Int) {r : Bool} (H : spliceref04_pairs a0 a1 a2 = some r) : Says Try.prog 76 [] [.d (eL131 t0 a0), .i a1, .i a2] [] (.b r) := by
  refine says_of Try.func76 rfl (nt := 47) rfl (Nat.le_of_ble_eq_true rfl) fun X hP h0 hX => ?_
  have hT : TabOk X.P T := hP ▸ tok
  have hf : X.P.funcs[76]? = some Try.f76 := hP ▸ Try.func76
  have Jj1 : ∀ (y1_17 : Bool), (spliceref04_pairs.j1 a0 y1_17) = some r → AK X 76 ((K76 110 1)) (Back X [] (.b r)) ⟨47, [(0, .d (eL131 t0 a0)), (17, .b y1_17)], []⟩ := by
    intro y1_17 H
    by_cases c2 : y1_17 = true
    · replace H := iT c2 H
      rw [c2]
      refine goK hT 5 (K76 11010 1) ⟨47, [(6, .b false)], []⟩ ?_
      obtain rfl := retC H
      exact ak_ret hf hX (av := .b false) (by kernel_rfl) [] (sel_of_eq (by kernel_rfl)) (by decide) (by rw [h0]; rfl) (by kernel_rfl) (fun _ h => all_nil h) (.d (.v _))
    · replace H := iF c2 H
      rw [boF c2]
      refine goK hT 2 (K76 11 1) ⟨47, [(0, .d (eL131 t0 a0))], []⟩ ?_
      refine goK hT 7 (K76 111010 0) ⟨47, [(0, .d (eL131 t0 a0)), (7, .i 0)], []⟩ ?_
      have L : ∀ n, (∀ (x1_7 : Int), iter (spliceref04_pairs.step a0) n (.l1 x1_7) = some r → AK X 76 ((K76 111010 0)) (Back X [] (.b r)) ⟨47, [(0, .d (eL131 t0 a0)), (7, .i x1_7)], []⟩) := by
        intro n
        induction n with
        | zero => exact fun _ H => iter0 H
        | succ n ih =>
          · intro x1_7 H
            refine goK hT 8 (K76 11101000 1) ⟨47, [(0, .d (eL131 t0 a0)), (7, .i x1_7), (21, .b (decide (x1_7 < (a0.length : Int))))], []⟩ ?_
            by_cases c3 : x1_7 < (a0.length : Int)
            · replace H := sT c3 H
              rw [decide_eq_true c3]
              refine goK hT 2 (K76 1110100 1) ⟨47, [(0, .d (eL131 t0 a0)), (7, .i x1_7)], []⟩ ?_
              refine goK hT 6 (K76 11101001000 2) ⟨47, [(0, .d (eL131 t0 a0)), (7, .i x1_7), (24, .d (eL131 t0 a0)), (25, .i x1_7)], []⟩ ?_
              obtain ⟨h4, H⟩ := sC H
              have Jj2 : ∀ (y2_46 : Bool), stk (spliceref04_pairs.j2 x1_7 y2_46) (iter (spliceref04_pairs.step a0) n) = some r → AK X 76 ((K76 1110100100 1)) (Back X [] (.b r)) ⟨47, [(0, .d (eL131 t0 a0)), (7, .i x1_7), (46, .b y2_46)], []⟩ := by
                intro y2_46 H
                by_cases c7 : y2_46 = true
                · replace H := sT c7 H
                  rw [c7]
                  refine goK hT 5 (K76 111010010010 1) ⟨47, [(6, .b false)], []⟩ ?_
                  obtain rfl := retC H
                  exact ak_ret hf hX (av := .b false) (by kernel_rfl) [] (sel_of_eq (by kernel_rfl)) (by decide) (by rw [h0]; rfl) (by kernel_rfl) (fun _ h => all_nil h) (.d (.v _))
                · replace H := sF c7 H
                  rw [boF c7]
                  refine goK hT 3 (K76 11101001 1) ⟨47, [(0, .d (eL131 t0 a0)), (7, .i x1_7)], []⟩ ?_
                  refine goK hT 6 (K76 111010 0) ⟨47, [(0, .d (eL131 t0 a0)), (7, .i (IntKind.wrap .i64 (x1_7 + 1)))], []⟩ ?_
                  refine cutK [] ⟨47, [(0, .d (eL131 t0 a0)), (7, .i (IntKind.wrap .i64 (x1_7 + 1)))], []⟩ h0 ?_
                  exact ih (IntKind.wrap .i64 (x1_7 + 1)) H
              refine ak_idx hT [0, 7, 26] (i := x1_7) (n := (a0.length : Int)) h4.1 h4.2 (k' := (K76 11101001000 3)) (st' := ⟨47, [(0, .d (eL131 t0 a0)), (7, .i x1_7), (26, .d (eP131 t0 a0 x1_7.toNat 0))], []⟩) (by kernel_rfl) ?_
              refine goK hT 4 (K76 11101001000 7) ⟨47, [(0, .d (eL131 t0 a0)), (7, .i x1_7), (30, .b (decide (((a0.getD x1_7.toNat spliceref04_Pair.z).Key) < 0)))], []⟩ ?_
              by_cases c5 : ((a0.getD x1_7.toNat spliceref04_Pair.z).Key) < 0
              · replace H := sT c5 H
                rw [decide_eq_true c5]
                refine goK hT 17 (K76 1110100100 1) ⟨47, [(0, .d (eL131 t0 a0)), (7, .i x1_7), (46, .b true)], []⟩ ?_
                refine cutK [] ⟨47, [(0, .d (eL131 t0 a0)), (7, .i x1_7), (46, .b true)], []⟩ h0 ?_
                exact Jj2 true H
              · replace H := sF c5 H
                rw [decide_eq_false c5]
                refine goK hT 2 (K76 11101001000 9) ⟨47, [(0, .d (eL131 t0 a0)), (7, .i x1_7), (30, .b false), (31, .d (eL131 t0 a0)), (32, .i x1_7)], []⟩ ?_
                refine ak_idx hT [0, 7, 30, 33] (i := x1_7) (n := (a0.length : Int)) h4.1 h4.2 (k' := (K76 11101001000 10)) (st' := ⟨47, [(0, .d (eL131 t0 a0)), (7, .i x1_7), (30, .b false), (33, .d (eP131 t0 a0 x1_7.toNat 0))], []⟩) (by kernel_rfl) ?_
                refine goK hT 5 (K76 11101001000 15) ⟨47, [(0, .d (eL131 t0 a0)), (7, .i x1_7), (38, .b (decide (((a0.getD x1_7.toNat spliceref04_Pair.z).Key) > 4095)))], []⟩ ?_
                by_cases c6 : ((a0.getD x1_7.toNat spliceref04_Pair.z).Key) > 4095
                · replace H := sT c6 H
                  rw [decide_eq_true c6]
                  refine goK hT 9 (K76 1110100100 1) ⟨47, [(0, .d (eL131 t0 a0)), (7, .i x1_7), (46, .b true)], []⟩ ?_
                  refine cutK [] ⟨47, [(0, .d (eL131 t0 a0)), (7, .i x1_7), (46, .b true)], []⟩ h0 ?_
                  exact Jj2 true H
                · replace H := sF c6 H
                  rw [decide_eq_false c6]
                  refine goK hT 2 (K76 11101001000 17) ⟨47, [(0, .d (eL131 t0 a0)), (7, .i x1_7), (38, .b false), (39, .d (eL131 t0 a0)), (40, .i x1_7)], []⟩ ?_
                  refine ak_idx hT [0, 7, 38, 41] (i := x1_7) (n := (a0.length : Int)) h4.1 h4.2 (k' := (K76 11101001000 18)) (st' := ⟨47, [(0, .d (eL131 t0 a0)), (7, .i x1_7), (38, .b false), (41, .d (eP131 t0 a0 x1_7.toNat 0))], []⟩) (by kernel_rfl) ?_
                  refine goK hT 2 (K76 11101001000 20) ⟨47, [(0, .d (eL131 t0 a0)), (7, .i x1_7), (38, .b false), (43, .i ((a0.getD x1_7.toNat spliceref04_Pair.z).Val))], []⟩ ?_
                  refine ak_callP (avs := [.i ((a0.getD x1_7.toNat spliceref04_Pair.z).Val)]) (dst := some 44) (k' := (K76 11101001000 21)) [0, 7, 38, 44] [] hP enters_77 (spliceref04_value.says ((a0.getD x1_7.toNat spliceref04_Pair.z).Val)) (by kernel_rfl) (hands_none _) (.cons (pass_d _) .nil) (st' := ⟨47, [(0, .d (eL131 t0 a0)), (7, .i x1_7), (38, .b false), (44, .b (spliceref04_value ((a0.getD x1_7.toNat spliceref04_Pair.z).Val)))], []⟩) (by kernel_rfl) ?_
                  refine goK hT 3 (K76 1110100100 1) ⟨47, [(0, .d (eL131 t0 a0)), (7, .i x1_7), (46, .b (!(spliceref04_value ((a0.getD x1_7.toNat spliceref04_Pair.z).Val))))], []⟩ ?_
                  refine cutK [] ⟨47, [(0, .d (eL131 t0 a0)), (7, .i x1_7), (46, .b (!(spliceref04_value ((a0.getD x1_7.toNat spliceref04_Pair.z).Val))))], []⟩ h0 ?_
                  exact Jj2 (!(spliceref04_value ((a0.getD x1_7.toNat spliceref04_Pair.z).Val))) H
            · replace H := sF c3 H
              rw [decide_eq_false c3]
              refine goK hT 6 (K76 1111 1) ⟨47, [(6, .b true)], []⟩ ?_
              obtain rfl := retC H
              exact ak_ret hf hX (av := .b true) (by kernel_rfl) [] (sel_of_eq (by kernel_rfl)) (by decide) (by rw [h0]; rfl) (by kernel_rfl) (fun _ h => all_nil h) (.d (.v _))
      refine cutK [] ⟨47, [(0, .d (eL131 t0 a0)), (7, .i 0)], []⟩ h0 ?_
      obtain ⟨n, H⟩ := loopC H
      exact (L n) 0 H
  refine goK hT 12 (K76 1100 5) ⟨47, [(0, .d (eL131 t0 a0)), (2, .i a2), (12, .b (decide ((a0.length : Int) < a1)))], []⟩ ?_
  by_cases c1 : (a0.length : Int) < a1
  · replace H := iT c1 H
    rw [decide_eq_true c1]
    refine goK hT 6 (K76 110 1) ⟨47, [(0, .d (eL131 t0 a0)), (17, .b true)], []⟩ ?_
    refine cutK [] ⟨47, [(0, .d (eL131 t0 a0)), (17, .b true)], []⟩ h0 ?_
    exact Jj1 true H
  · replace H := iF c1 H
    rw [decide_eq_false c1]
    refine goK hT 6 (K76 110 1) ⟨47, [(0, .d (eL131 t0 a0)), (17, .b (decide ((a0.length : Int) > a2)))], []⟩ ?_
    refine cutK [] ⟨47, [(0, .d (eL131 t0 a0)), (17, .b (decide ((a0.length : Int) > a2)))], []⟩ h0 ?_
    exact Jj1 (decide ((a0.length : Int) > a2)) H


theorem spliceref04_Check.says (a0 : spliceref04_Mut) {r : Bool} (H : spliceref04_Check a0 = some r) : Says Try.prog 65 [] [.d (eG63 a0)] [] (.b r) := by
  refine says_of Try.func65 rfl (nt := 143) rfl (Nat.le_of_ble_eq_true rfl) fun X hP h0 hX => ?_
  have hT : TabOk X.P T := hP ▸ tok
  have hf : X.P.funcs[65]? = some Try.f65 := hP ▸ Try.func65
  have Jj1 : ∀ (y1_21 : Bool), (spliceref04_Check.j1 a0 y1_21) = some r → AK X 65 ((K65 110 1)) (Back X [] (.b r)) ⟨143, [(1, .ptr 0 0 0 0), (21, .b y1_21)], [.box 63 (eC63 a0)]⟩ := by
    intro y1_21 H
    by_cases c4 : y1_21 = true
    · replace H := iT c4 H
      rw [c4]
      refine goK hT 5 (K65 11010 1) ⟨143, [(2, .b false)], [.box 63 (eC63 a0)]⟩ ?_
      obtain rfl := retC H
      exact ak_ret hf hX (av := .b false) (by kernel_rfl) [] (sel_of_eq (by kernel_rfl)) (by decide) (by rw [h0]; rfl) (by kernel_rfl) (fun _ h => all_nil h) (.d (.v _))
    · replace H := iF c4 H
      rw [boF c4]
      refine goK hT 2 (K65 11 1) ⟨143, [(1, .ptr 0 0 0 0)], [.box 63 (eC63 a0)]⟩ ?_
      refine goK hT 7 (K65 1110 1) ⟨143, [(1, .ptr 0 0 0 0), (24, .b (a0.Kind == 2))], [.box 63 (eC63 a0)]⟩ ?_
      by_cases c5 : a0.Kind = 2
      · replace H := iT c5 H
        have Jj2 : ∀ (y2_2 : Bool), (spliceref04_Check.j2 y2_2) = some r → AK X 65 ((K65 111010 1)) (Back X [] (.b r)) ⟨143, [(2, .b y2_2)], []⟩ := by
          intro y2_2 H
          obtain rfl := retC H
          exact ak_ret hf hX (av := .b y2_2) (by kernel_rfl) [] (sel_of_eq (by kernel_rfl)) (by decide) (by rw [h0]; rfl) (by kernel_rfl) (fun _ h => all_nil h) (.d (.v _))
        rw [eqT c5]
        refine goK hT 8 (K65 1110100 5) ⟨143, [(1, .ptr 0 0 0 0), (29, .b ((a0.Pairs.length : Int) == 0))], [.box 63 (eC63 a0)]⟩ ?_
        by_cases c6 : (a0.Pairs.length : Int) = 0
        · replace H := iT c6 H
          rw [eqT c6]
          refine goK hT 5 (K65 1110100 10) ⟨143, [(1, .ptr 0 0 0 0), (34, .b (a0.Old == 0))], [.box 63 (eC63 a0)]⟩ ?_
          by_cases c7 : a0.Old = 0
          · replace H := iT c7 H
            rw [eqT c7]
            refine goK hT 2 (K65 1110100 12) ⟨143, [(34, .b true), (36, .d (eG61 a0.Over))], [.box 63 (eC63 a0)]⟩ ?_
            refine ak_callP (avs := [.d (eG61 a0.Over)]) (dst := some 37) (k' := (K65 1110100 13)) [34, 37] [] hP enters_75 (spliceref03_One.says a0.Over) (by kernel_rfl) (hands_none _) (.cons (pass_d _) .nil) (st' := ⟨143, [(34, .b true), (37, .b (spliceref03_One a0.Over))], [.box 63 (eC63 a0)]⟩) (by kernel_rfl) ?_
            refine goK hT 3 (K65 111010 1) ⟨143, [(2, .b (spliceref03_One a0.Over))], [.box 63 (eC63 a0)]⟩ ?_
            refine cutK [] ⟨143, [(2, .b (spliceref03_One a0.Over))], []⟩ h0 ?_
            exact Jj2 (spliceref03_One a0.Over) H
          · replace H := iF c7 H
            rw [eqF c7]
            refine goK hT 6 (K65 111010 1) ⟨143, [(2, .b false)], [.box 63 (eC63 a0)]⟩ ?_
            refine cutK [] ⟨143, [(2, .b false)], []⟩ h0 ?_
            exact Jj2 false H
        · replace H := iF c6 H
          rw [eqF c6]
          refine goK hT 11 (K65 111010 1) ⟨143, [(2, .b false)], [.box 63 (eC63 a0)]⟩ ?_
          refine cutK [] ⟨143, [(2, .b false)], []⟩ h0 ?_
          exact Jj2 false H
      · replace H := iF c5 H
        have Jj3 : ∀ (y3_48 : Bool), (spliceref04_Check.j3 a0 y3_48) = some r → AK X 65 ((K65 11110 1)) (Back X [] (.b r)) ⟨143, [(1, .ptr 0 0 0 0), (48, .b y3_48)], [.box 63 (eC63 a0)]⟩ := by
          intro y3_48 H
          by_cases c9 : y3_48 = true
          · replace H := iT c9 H
            rw [c9]
            refine goK hT 5 (K65 1111010 1) ⟨143, [(2, .b false)], [.box 63 (eC63 a0)]⟩ ?_
            obtain rfl := retC H
            exact ak_ret hf hX (av := .b false) (by kernel_rfl) [] (sel_of_eq (by kernel_rfl)) (by decide) (by rw [h0]; rfl) (by kernel_rfl) (fun _ h => all_nil h) (.d (.v _))
          · replace H := iF c9 H
            rw [boF c9]
            refine goK hT 2 (K65 1111 1) ⟨143, [(1, .ptr 0 0 0 0)], [.box 63 (eC63 a0)]⟩ ?_
            refine goK hT 7 (K65 111110 1) ⟨143, [(1, .ptr 0 0 0 0), (51, .b (a0.Kind == 4))], [.box 63 (eC63 a0)]⟩ ?_
            by_cases c10 : a0.Kind = 4
            · replace H := iT c10 H
              rw [eqT c10]
              refine goK hT 5 (K65 111110100 2) ⟨143, [(1, .ptr 0 0 0 0), (53, .d (eL131 true a0.Pairs))], [.box 63 (eC63 a0)]⟩ ?_
              obtain ⟨v1, h11, H⟩ := ibC H
              have Jj4 : ∀ (y4_2 : Bool), (spliceref04_Check.j4 y4_2) = some r → AK X 65 ((K65 11111010 1)) (Back X [] (.b r)) ⟨143, [(2, .b y4_2)], []⟩ := by
                intro y4_2 H
                obtain rfl := retC H
                exact ak_ret hf hX (av := .b y4_2) (by kernel_rfl) [] (sel_of_eq (by kernel_rfl)) (by decide) (by rw [h0]; rfl) (by kernel_rfl) (fun _ h => all_nil h) (.d (.v _))
              refine ak_callP (avs := [.d (eL131 true a0.Pairs), .i 1, .i 1]) (dst := some 54) (k' := (K65 111110100 3)) [1, 54] [] hP enters_76 (spliceref04_pairs.says (t0 := true) a0.Pairs 1 1 h11) (by kernel_rfl) (hands_none _) (.cons (pass_d _) (.cons (pass_d _) (.cons (pass_d _) .nil))) (st' := ⟨143, [(1, .ptr 0 0 0 0), (54, .b v1)], [.box 63 (eC63 a0)]⟩) (by kernel_rfl) ?_
              refine goK hT 1 (K65 111110100 4) ⟨143, [(1, .ptr 0 0 0 0), (55, .b v1)], [.box 63 (eC63 a0)]⟩ ?_
              by_cases c12 : v1 = true
              · replace H := iT c12 H
                rw [c12]
                refine goK hT 2 (K65 111110100 6) ⟨143, [(1, .ptr 0 0 0 0), (55, .b true), (57, .i a0.Old)], [.box 63 (eC63 a0)]⟩ ?_
                refine ak_callP (avs := [.i a0.Old]) (dst := some 58) (k' := (K65 111110100 7)) [1, 55, 58] [] hP enters_77 (spliceref04_value.says a0.Old) (by kernel_rfl) (hands_none _) (.cons (pass_d _) .nil) (st' := ⟨143, [(1, .ptr 0 0 0 0), (55, .b true), (58, .b (spliceref04_value a0.Old))], [.box 63 (eC63 a0)]⟩) (by kernel_rfl) ?_
                refine goK hT 1 (K65 111110100 8) ⟨143, [(1, .ptr 0 0 0 0), (55, .b true), (59, .b (spliceref04_value a0.Old))], [.box 63 (eC63 a0)]⟩ ?_
                by_cases c13 : (spliceref04_value a0.Old) = true
                · replace H := iT c13 H
                  rw [c13]
                  refine goK hT 7 (K65 11111010 1) ⟨143, [(2, .b true)], [.box 63 (eC63 a0)]⟩ ?_
                  refine cutK [] ⟨143, [(2, .b true)], []⟩ h0 ?_
                  exact Jj4 true H
                · replace H := iF c13 H
                  rw [boF c13]
                  refine goK hT 7 (K65 11111010 1) ⟨143, [(2, .b (a0.Old == 1099511627777))], [.box 63 (eC63 a0)]⟩ ?_
                  refine cutK [] ⟨143, [(2, .b (a0.Old == 1099511627777))], []⟩ h0 ?_
                  exact Jj4 (a0.Old == 1099511627777) H
              · replace H := iF c12 H
                rw [boF c12]
                refine goK hT 11 (K65 11111010 1) ⟨143, [(2, .b false)], [.box 63 (eC63 a0)]⟩ ?_
                refine cutK [] ⟨143, [(2, .b false)], []⟩ h0 ?_
                exact Jj4 false H
            · replace H := iF c10 H
              rw [eqF c10]
              refine goK hT 2 (K65 11111 1) ⟨143, [(1, .ptr 0 0 0 0)], [.box 63 (eC63 a0)]⟩ ?_
              refine goK hT 7 (K65 1111110 1) ⟨143, [(1, .ptr 0 0 0 0), (67, .b (a0.Old != 0))], [.box 63 (eC63 a0)]⟩ ?_
              by_cases c14 : a0.Old = 0
              · replace H := iT c14 H
                rw [neF c14]
                refine goK hT 2 (K65 111111 1) ⟨143, [(1, .ptr 0 0 0 0)], [.box 63 (eC63 a0)]⟩ ?_
                refine goK hT 7 (K65 11111110 1) ⟨143, [(1, .ptr 0 0 0 0), (70, .b (a0.Kind == 1))], [.box 63 (eC63 a0)]⟩ ?_
                by_cases c15 : a0.Kind = 1
                · replace H := iT c15 H
                  rw [eqT c15]
                  refine goK hT 8 (K65 1111111010010 0) ⟨143, [(1, .ptr 0 0 0 0), (3, .i 1)], [.box 63 (eC63 a0)]⟩ ?_
                  have L : ∀ n, (∀ (x1_3 : Int), iter (spliceref04_Check.step a0) n (.l1 x1_3) = some r → AK X 65 ((K65 1111111010010 0)) (Back X [] (.b r)) ⟨143, [(1, .ptr 0 0 0 0), (3, .i x1_3)], [.box 63 (eC63 a0)]⟩) := by
                    intro n
                    induction n with
                    | zero => exact fun _ H => iter0 H
                    | succ n ih =>
                      · intro x1_3 H
                        refine goK hT 9 (K65 111111101001000 1) ⟨143, [(1, .ptr 0 0 0 0), (3, .i x1_3), (75, .b (decide (x1_3 < (a0.Pairs.length : Int))))], [.box 63 (eC63 a0)]⟩ ?_
                        by_cases c16 : x1_3 < (a0.Pairs.length : Int)
                        · replace H := sT c16 H
                          rw [decide_eq_true c16]
                          refine goK hT 2 (K65 11111110100100 1) ⟨143, [(1, .ptr 0 0 0 0), (3, .i x1_3)], [.box 63 (eC63 a0)]⟩ ?_
                          refine goK hT 3 (K65 11111110100100100 0) ⟨143, [(1, .ptr 0 0 0 0), (3, .i x1_3)], [.box 63 (eC63 a0)]⟩ ?_
                          obtain ⟨h18, H⟩ := sC H
                          obtain ⟨h19, H⟩ := sC H
                          refine drawK (hP ▸ mixed) 14 [1, 3] [some (.ptr 0 0 0 3), some (.d (eL131 true a0.Pairs)), some (.i x1_3), some (.i (IntKind.wrap .i64 (x1_3 - 1))), some (.d (eP131 true a0.Pairs ((IntKind.wrap .i64 (x1_3 - 1)).toNat) 0)), some (.d (eP131 true a0.Pairs ((IntKind.wrap .i64 (x1_3 - 1)).toNat) 0)), some (.i ((a0.Pairs.getD ((IntKind.wrap .i64 (x1_3 - 1)).toNat) spliceref04_Pair.z).Key)), some (.ptr 0 0 0 3), some (.d (eL131 true a0.Pairs)), some (.i x1_3), some (.d (eP131 true a0.Pairs x1_3.toNat 0)), some (.d (eP131 true a0.Pairs x1_3.toNat 0)), some (.i ((a0.Pairs.getD x1_3.toNat spliceref04_Pair.z).Key)), some (.b (decide (((a0.Pairs.getD ((IntKind.wrap .i64 (x1_3 - 1)).toNat) spliceref04_Pair.z).Key) ≥ ((a0.Pairs.getD x1_3.toNat spliceref04_Pair.z).Key))))] (opG (opG (opG (opS (opG (opG (opG (opG (opG (opS (opG (opG (opG (opG op0 hT) hT) hT) hT) (fun R rest h => ak_idx0 hT (i := IntKind.wrap .i64 (x1_3 - 1)) (n := (a0.Pairs.length : Int)) h18.1 h18.2 (by kernel_rfl) h)) hT) hT) hT) hT) hT) (fun R rest h => ak_idx0 hT (i := x1_3) (n := (a0.Pairs.length : Int)) h19.1 h19.2 (by kernel_rfl) h)) hT) hT) hT) ?_
                          refine goK hT 1 (K65 11111110100100100 1) ⟨143, [(1, .ptr 0 0 0 0), (3, .i x1_3), (91, .b (decide (((a0.Pairs.getD ((IntKind.wrap .i64 (x1_3 - 1)).toNat) spliceref04_Pair.z).Key) ≥ ((a0.Pairs.getD x1_3.toNat spliceref04_Pair.z).Key))))], [.box 63 (eC63 a0)]⟩ ?_
                          by_cases c20 : ((a0.Pairs.getD ((IntKind.wrap .i64 (x1_3 - 1)).toNat) spliceref04_Pair.z).Key) ≥ ((a0.Pairs.getD x1_3.toNat spliceref04_Pair.z).Key)
                          · replace H := sT c20 H
                            rw [decide_eq_true c20]
                            refine goK hT 5 (K65 1111111010010010010 1) ⟨143, [(2, .b false)], [.box 63 (eC63 a0)]⟩ ?_
                            obtain rfl := retC H
                            exact ak_ret hf hX (av := .b false) (by kernel_rfl) [] (sel_of_eq (by kernel_rfl)) (by decide) (by rw [h0]; rfl) (by kernel_rfl) (fun _ h => all_nil h) (.d (.v _))
                          · replace H := sF c20 H
                            rw [decide_eq_false c20]
                            refine goK hT 3 (K65 111111101001001 1) ⟨143, [(1, .ptr 0 0 0 0), (3, .i x1_3)], [.box 63 (eC63 a0)]⟩ ?_
                            refine goK hT 6 (K65 1111111010010 0) ⟨143, [(1, .ptr 0 0 0 0), (3, .i (IntKind.wrap .i64 (x1_3 + 1)))], [.box 63 (eC63 a0)]⟩ ?_
                            refine cutK [0] ⟨143, [(1, .ptr 0 0 0 0), (3, .i (IntKind.wrap .i64 (x1_3 + 1)))], [.box 63 (eC63 a0)]⟩ h0 ?_
                            exact ih (IntKind.wrap .i64 (x1_3 + 1)) H
                        · replace H := sF c16 H
                          rw [decide_eq_false c16]
                          refine goK hT 6 (K65 111111101010 2) ⟨143, [(93, .d (eL131 true a0.Pairs))], [.box 63 (eC63 a0)]⟩ ?_
                          obtain ⟨v2, h17, H⟩ := sbC H
                          refine ak_callP (avs := [.d (eL131 true a0.Pairs), .i 1, .i 8]) (dst := some 94) (k' := (K65 111111101010 3)) [94] [] hP enters_76 (spliceref04_pairs.says (t0 := true) a0.Pairs 1 8 h17) (by kernel_rfl) (hands_none _) (.cons (pass_d _) (.cons (pass_d _) (.cons (pass_d _) .nil))) (st' := ⟨143, [(94, .b v2)], [.box 63 (eC63 a0)]⟩) (by kernel_rfl) ?_
                          refine goK hT 2 (K65 11111110101 1) ⟨143, [(2, .b v2)], [.box 63 (eC63 a0)]⟩ ?_
                          obtain rfl := retC H
                          exact ak_ret hf hX (av := .b v2) (by kernel_rfl) [] (sel_of_eq (by kernel_rfl)) (by decide) (by rw [h0]; rfl) (by kernel_rfl) (fun _ h => all_nil h) (.d (.v _))
                  refine cutK [0] ⟨143, [(1, .ptr 0 0 0 0), (3, .i 1)], [.box 63 (eC63 a0)]⟩ h0 ?_
                  obtain ⟨n, H⟩ := loopC H
                  exact (L n) 1 H
                · replace H := iF c15 H
                  rw [eqF c15]
                  refine goK hT 2 (K65 1111111 1) ⟨143, [(1, .ptr 0 0 0 0)], [.box 63 (eC63 a0)]⟩ ?_
                  refine goK hT 7 (K65 111111110 1) ⟨143, [(1, .ptr 0 0 0 0), (97, .b (a0.Kind == 3))], [.box 63 (eC63 a0)]⟩ ?_
                  by_cases c21 : a0.Kind = 3
                  · replace H := iT c21 H
                    rw [eqT c21]
                    refine goK hT 5 (K65 111111110100 2) ⟨143, [(99, .d (eL131 true a0.Pairs))], [.box 63 (eC63 a0)]⟩ ?_
                    obtain ⟨v3, h22, H⟩ := ibC H
                    refine ak_callP (avs := [.d (eL131 true a0.Pairs), .i 1, .i 1]) (dst := some 100) (k' := (K65 111111110100 3)) [100] [] hP enters_76 (spliceref04_pairs.says (t0 := true) a0.Pairs 1 1 h22) (by kernel_rfl) (hands_none _) (.cons (pass_d _) (.cons (pass_d _) (.cons (pass_d _) .nil))) (st' := ⟨143, [(100, .b v3)], [.box 63 (eC63 a0)]⟩) (by kernel_rfl) ?_
                    refine goK hT 2 (K65 11111111010 1) ⟨143, [(2, .b v3)], [.box 63 (eC63 a0)]⟩ ?_
                    obtain rfl := retC H
                    exact ak_ret hf hX (av := .b v3) (by kernel_rfl) [] (sel_of_eq (by kernel_rfl)) (by decide) (by rw [h0]; rfl) (by kernel_rfl) (fun _ h => all_nil h) (.d (.v _))
                  · replace H := iF c21 H
                    have Jj5 : ∀ (y5_2 : Bool), (spliceref04_Check.j5 y5_2) = some r → AK X 65 ((K65 111111111 1)) (Back X [] (.b r)) ⟨143, [(2, .b y5_2)], []⟩ := by
                      intro y5_2 H
                      obtain rfl := retC H
                      exact ak_ret hf hX (av := .b y5_2) (by kernel_rfl) [] (sel_of_eq (by kernel_rfl)) (by decide) (by rw [h0]; rfl) (by kernel_rfl) (fun _ h => all_nil h) (.d (.v _))
                    rw [eqF c21]
                    refine goK hT 2 (K65 11111111 1) ⟨143, [(1, .ptr 0 0 0 0)], [.box 63 (eC63 a0)]⟩ ?_
                    refine goK hT 1 (K65 111111111 0) ⟨143, [(1, .ptr 0 0 0 0)], [.box 63 (eC63 a0)]⟩ ?_
                    by_cases c23 : a0.Kind = 5
                    · replace H := iT c23 H
                      obtain ⟨v4, h24, H⟩ := ibC H
                      by_cases c25 : v4 = true
                      · replace H := iT c25 H
                        obtain ⟨h26, H⟩ := iC H
                        obtain ⟨h27, H⟩ := iC H
                        by_cases c28 : ((a0.Pairs.getD 0 spliceref04_Pair.z).Key) = ((a0.Pairs.getD 1 spliceref04_Pair.z).Key)
                        · replace H := iT c28 H
                          refine drawK (hP ▸ mixed) 32 [1] [some (.ptr 0 0 0 2), some (.i a0.Kind), some (.b true), some (.b true), some (.ptr 0 0 0 3), some (.d (eL131 true a0.Pairs)), some (.b true), some (.b true), some (.b true), some (.ptr 0 0 0 3), some (.d (eL131 true a0.Pairs)), some (.d (eP131 true a0.Pairs 0 0)), some (.d (eP131 true a0.Pairs 0 0)), some (.i ((a0.Pairs.getD 0 spliceref04_Pair.z).Key)), some (.ptr 0 0 0 3), some (.d (eL131 true a0.Pairs)), some (.d (eP131 true a0.Pairs 1 0)), some (.d (eP131 true a0.Pairs 1 0)), some (.i ((a0.Pairs.getD 1 spliceref04_Pair.z).Key)), some (.b false), some (.b false), some (.b false), some (.tup []), some (.tup []), some (.tup []), some (.tup []), some (.tup []), some (.tup []), some (.tup []), some (.tup []), some (.tup []), some (.tup [])] (opG (opG (opG (opG (opG (opG (opG (opG (opG (opG (opG (opG (opV (opG (opG (opS (opG (opG (opG (opG (opS (opG (opG (opG (opG (opS (opG (opG (opG (opV (opG (opG op0 hT) hT) hT 103 (.b (a0.Kind == 5)) (.b true) (by rw [eqT c23] <;> rfl)) hT) hT) hT) (fun R rest h => ak_callD (avs := [.d (eL131 true a0.Pairs), .i 2, .i 2]) (dst := some 107) hP enters_76 (by have q := spliceref04_pairs.says (t0 := true) a0.Pairs 2 2 h24; rw [c25] at q; exact q) (by kernel_rfl) (.cons (pass_d _) (.cons (pass_d _) (.cons (pass_d _) .nil))) (by kernel_rfl) h)) hT) hT) hT) hT) (fun R rest h => ak_idx0 hT (i := 0) (n := (a0.Pairs.length : Int)) h26.1 h26.2 (by kernel_rfl) h)) hT) hT) hT) hT) (fun R rest h => ak_idx0 hT (i := 1) (n := (a0.Pairs.length : Int)) h27.1 h27.2 (by kernel_rfl) h)) hT) hT) hT 120 (.b (((a0.Pairs.getD 0 spliceref04_Pair.z).Key) != ((a0.Pairs.getD 1 spliceref04_Pair.z).Key))) (.b false) (by rw [neF c28] <;> rfl)) hT) hT) hT) hT) hT) hT) hT) hT) hT) hT) hT) hT) ?_
                          refine goK hT 12 (K65 111111111 1) ⟨143, [(2, .b false)], [.box 63 (eC63 a0)]⟩ ?_
                          refine cutK [] ⟨143, [(2, .b false)], []⟩ h0 ?_
                          exact Jj5 false H
                        · replace H := iF c28 H
                          refine drawK (hP ▸ mixed) 32 [1] [some (.ptr 0 0 0 2), some (.i a0.Kind), some (.b true), some (.b true), some (.ptr 0 0 0 3), some (.d (eL131 true a0.Pairs)), some (.b true), some (.b true), some (.b true), some (.ptr 0 0 0 3), some (.d (eL131 true a0.Pairs)), some (.d (eP131 true a0.Pairs 0 0)), some (.d (eP131 true a0.Pairs 0 0)), some (.i ((a0.Pairs.getD 0 spliceref04_Pair.z).Key)), some (.ptr 0 0 0 3), some (.d (eL131 true a0.Pairs)), some (.d (eP131 true a0.Pairs 1 0)), some (.d (eP131 true a0.Pairs 1 0)), some (.i ((a0.Pairs.getD 1 spliceref04_Pair.z).Key)), some (.b true), some (.b true), some (.b true), some (.ptr 0 0 0 3), some (.d (eL131 true a0.Pairs)), some (.d (eP131 true a0.Pairs 0 0)), some (.d (eP131 true a0.Pairs 0 1)), some (.i ((a0.Pairs.getD 0 spliceref04_Pair.z).Val)), some (.ptr 0 0 0 3), some (.d (eL131 true a0.Pairs)), some (.d (eP131 true a0.Pairs 1 0)), some (.d (eP131 true a0.Pairs 1 1)), some (.i ((a0.Pairs.getD 1 spliceref04_Pair.z).Val))] (opG (opG (opS (opG (opG (opG (opG (opS (opG (opG (opG (opG (opV (opG (opG (opS (opG (opG (opG (opG (opS (opG (opG (opG (opG (opS (opG (opG (opG (opV (opG (opG op0 hT) hT) hT 103 (.b (a0.Kind == 5)) (.b true) (by rw [eqT c23] <;> rfl)) hT) hT) hT) (fun R rest h => ak_callD (avs := [.d (eL131 true a0.Pairs), .i 2, .i 2]) (dst := some 107) hP enters_76 (by have q := spliceref04_pairs.says (t0 := true) a0.Pairs 2 2 h24; rw [c25] at q; exact q) (by kernel_rfl) (.cons (pass_d _) (.cons (pass_d _) (.cons (pass_d _) .nil))) (by kernel_rfl) h)) hT) hT) hT) hT) (fun R rest h => ak_idx0 hT (i := 0) (n := (a0.Pairs.length : Int)) h26.1 h26.2 (by kernel_rfl) h)) hT) hT) hT) hT) (fun R rest h => ak_idx0 hT (i := 1) (n := (a0.Pairs.length : Int)) h27.1 h27.2 (by kernel_rfl) h)) hT) hT) hT 120 (.b (((a0.Pairs.getD 0 spliceref04_Pair.z).Key) != ((a0.Pairs.getD 1 spliceref04_Pair.z).Key))) (.b true) (by rw [neT c28] <;> rfl)) hT) hT) hT) hT) (fun R rest h => ak_idx0 hT (i := 0) (n := (a0.Pairs.length : Int)) h26.1 h26.2 (by kernel_rfl) h)) hT) hT) hT) hT) (fun R rest h => ak_idx0 hT (i := 1) (n := (a0.Pairs.length : Int)) h27.1 h27.2 (by kernel_rfl) h)) hT) hT) ?_
                          refine goK hT 3 (K65 1111111110 35) ⟨143, [(1, .ptr 0 0 0 0), (135, .b (((a0.Pairs.getD 0 spliceref04_Pair.z).Val) == ((a0.Pairs.getD 1 spliceref04_Pair.z).Val)))], [.box 63 (eC63 a0)]⟩ ?_
                          by_cases c29 : ((a0.Pairs.getD 0 spliceref04_Pair.z).Val) = ((a0.Pairs.getD 1 spliceref04_Pair.z).Val)
                          · replace H := iT c29 H
                            rw [eqT c29]
                            refine goK hT 2 (K65 1111111110 37) ⟨143, [(135, .b true), (137, .d (eL131 true a0.Pairs))], [.box 63 (eC63 a0)]⟩ ?_
                            refine ak_idx hT [135, 138] (i := 0) (n := (a0.Pairs.length : Int)) h26.1 h26.2 (k' := (K65 1111111110 38)) (st' := ⟨143, [(135, .b true), (138, .d (eP131 true a0.Pairs 0 0))], [.box 63 (eC63 a0)]⟩) (by kernel_rfl) ?_
                            refine goK hT 6 (K65 111111111 1) ⟨143, [(2, .b (decide (((a0.Pairs.getD 0 spliceref04_Pair.z).Val) ≥ 0)))], [.box 63 (eC63 a0)]⟩ ?_
                            refine cutK [] ⟨143, [(2, .b (decide (((a0.Pairs.getD 0 spliceref04_Pair.z).Val) ≥ 0)))], []⟩ h0 ?_
                            exact Jj5 (decide (((a0.Pairs.getD 0 spliceref04_Pair.z).Val) ≥ 0)) H
                          · replace H := iF c29 H
                            rw [eqF c29]
                            refine goK hT 9 (K65 111111111 1) ⟨143, [(2, .b false)], [.box 63 (eC63 a0)]⟩ ?_
                            refine cutK [] ⟨143, [(2, .b false)], []⟩ h0 ?_
                            exact Jj5 false H
                      · replace H := iF c25 H
                        refine drawK (hP ▸ mixed) 32 [1] [some (.ptr 0 0 0 2), some (.i a0.Kind), some (.b true), some (.b true), some (.ptr 0 0 0 3), some (.d (eL131 true a0.Pairs)), some (.b false), some (.b false), some (.b false), some (.tup []), some (.tup []), some (.tup []), some (.tup []), some (.tup []), some (.tup []), some (.tup []), some (.tup []), some (.tup []), some (.tup []), some (.tup []), some (.b false), some (.b false), some (.tup []), some (.tup []), some (.tup []), some (.tup []), some (.tup []), some (.tup []), some (.tup []), some (.tup []), some (.tup []), some (.tup [])] (opG (opG (opG (opG (opG (opG (opG (opG (opG (opG (opG (opG (opG (opG (opG (opG (opG (opG (opG (opG (opG (opG (opG (opG (opG (opS (opG (opG (opG (opV (opG (opG op0 hT) hT) hT 103 (.b (a0.Kind == 5)) (.b true) (by rw [eqT c23] <;> rfl)) hT) hT) hT) (fun R rest h => ak_callD (avs := [.d (eL131 true a0.Pairs), .i 2, .i 2]) (dst := some 107) hP enters_76 (by have q := spliceref04_pairs.says (t0 := true) a0.Pairs 2 2 h24; rw [boF c25] at q; exact q) (by kernel_rfl) (.cons (pass_d _) (.cons (pass_d _) (.cons (pass_d _) .nil))) (by kernel_rfl) h)) hT) hT) hT) hT) hT) hT) hT) hT) hT) hT) hT) hT) hT) hT) hT) hT) hT) hT) hT) hT) hT) hT) hT) hT) hT) ?_
                        refine goK hT 12 (K65 111111111 1) ⟨143, [(2, .b false)], [.box 63 (eC63 a0)]⟩ ?_
                        refine cutK [] ⟨143, [(2, .b false)], []⟩ h0 ?_
                        exact Jj5 false H
                    · replace H := iF c23 H
                      refine drawK (hP ▸ mixed) 32 [1] [some (.ptr 0 0 0 2), some (.i a0.Kind), some (.b false), some (.b false), some (.tup []), some (.tup []), some (.tup []), some (.b false), some (.b false), some (.tup []), some (.tup []), some (.tup []), some (.tup []), some (.tup []), some (.tup []), some (.tup []), some (.tup []), some (.tup []), some (.tup []), some (.tup []), some (.b false), some (.b false), some (.tup []), some (.tup []), some (.tup []), some (.tup []), some (.tup []), some (.tup []), some (.tup []), some (.tup []), some (.tup []), some (.tup [])] (opG (opG (opG (opG (opG (opG (opG (opG (opG (opG (opG (opG (opG (opG (opG (opG (opG (opG (opG (opG (opG (opG (opG (opG (opG (opG (opG (opG (opG (opV (opG (opG op0 hT) hT) hT 103 (.b (a0.Kind == 5)) (.b false) (by rw [eqF c23] <;> rfl)) hT) hT) hT) hT) hT) hT) hT) hT) hT) hT) hT) hT) hT) hT) hT) hT) hT) hT) hT) hT) hT) hT) hT) hT) hT) hT) hT) hT) hT) ?_
                      refine goK hT 12 (K65 111111111 1) ⟨143, [(2, .b false)], [.box 63 (eC63 a0)]⟩ ?_
                      refine cutK [] ⟨143, [(2, .b false)], []⟩ h0 ?_
                      exact Jj5 false H
              · replace H := iF c14 H
                rw [neT c14]
                refine goK hT 5 (K65 111111010 1) ⟨143, [(2, .b false)], [.box 63 (eC63 a0)]⟩ ?_
                obtain rfl := retC H
                exact ak_ret hf hX (av := .b false) (by kernel_rfl) [] (sel_of_eq (by kernel_rfl)) (by decide) (by rw [h0]; rfl) (by kernel_rfl) (fun _ h => all_nil h) (.d (.v _))
        rw [eqF c5]
        refine goK hT 2 (K65 111 1) ⟨143, [(1, .ptr 0 0 0 0)], [.box 63 (eC63 a0)]⟩ ?_
        refine goK hT 8 (K65 111100 5) ⟨143, [(1, .ptr 0 0 0 0), (43, .b (a0.Over.Lo != 0))], [.box 63 (eC63 a0)]⟩ ?_
        by_cases c8 : a0.Over.Lo = 0
        · replace H := iT c8 H
          rw [neF c8]
          refine goK hT 6 (K65 11110 1) ⟨143, [(1, .ptr 0 0 0 0), (48, .b (a0.Over.Hi != 0))], [.box 63 (eC63 a0)]⟩ ?_
          refine cutK [0] ⟨143, [(1, .ptr 0 0 0 0), (48, .b (a0.Over.Hi != 0))], [.box 63 (eC63 a0)]⟩ h0 ?_
          exact Jj3 (a0.Over.Hi != 0) H
        · replace H := iF c8 H
          rw [neT c8]
          refine goK hT 6 (K65 11110 1) ⟨143, [(1, .ptr 0 0 0 0), (48, .b true)], [.box 63 (eC63 a0)]⟩ ?_
          refine cutK [0] ⟨143, [(1, .ptr 0 0 0 0), (48, .b true)], [.box 63 (eC63 a0)]⟩ h0 ?_
          exact Jj3 true H
  refine goK hT 12 (K65 1100 4) ⟨143, [(1, .ptr 0 0 0 0), (7, .b (decide (a0.Client < 1)))], [.box 63 (eC63 a0)]⟩ ?_
  by_cases c1 : a0.Client < 1
  · replace H := iT c1 H
    rw [decide_eq_true c1]
    refine goK hT 15 (K65 110 1) ⟨143, [(1, .ptr 0 0 0 0), (21, .b true)], [.box 63 (eC63 a0)]⟩ ?_
    refine cutK [0] ⟨143, [(1, .ptr 0 0 0 0), (21, .b true)], [.box 63 (eC63 a0)]⟩ h0 ?_
    exact Jj1 true H
  · replace H := iF c1 H
    rw [decide_eq_false c1]
    refine goK hT 5 (K65 1100 9) ⟨143, [(1, .ptr 0 0 0 0), (12, .b (decide (a0.Client > 1048576)))], [.box 63 (eC63 a0)]⟩ ?_
    by_cases c2 : a0.Client > 1048576
    · replace H := iT c2 H
      rw [decide_eq_true c2]
      refine goK hT 10 (K65 110 1) ⟨143, [(1, .ptr 0 0 0 0), (21, .b true)], [.box 63 (eC63 a0)]⟩ ?_
      refine cutK [0] ⟨143, [(1, .ptr 0 0 0 0), (21, .b true)], [.box 63 (eC63 a0)]⟩ h0 ?_
      exact Jj1 true H
    · replace H := iF c2 H
      rw [decide_eq_false c2]
      refine goK hT 5 (K65 1100 14) ⟨143, [(1, .ptr 0 0 0 0), (17, .b (decide (a0.Seq < 1)))], [.box 63 (eC63 a0)]⟩ ?_
      by_cases c3 : a0.Seq < 1
      · replace H := iT c3 H
        rw [decide_eq_true c3]
        refine goK hT 5 (K65 110 1) ⟨143, [(1, .ptr 0 0 0 0), (21, .b true)], [.box 63 (eC63 a0)]⟩ ?_
        refine cutK [0] ⟨143, [(1, .ptr 0 0 0 0), (21, .b true)], [.box 63 (eC63 a0)]⟩ h0 ?_
        exact Jj1 true H
      · replace H := iF c3 H
        rw [decide_eq_false c3]
        refine goK hT 5 (K65 110 1) ⟨143, [(1, .ptr 0 0 0 0), (21, .b (decide (a0.Seq > 1073741824)))], [.box 63 (eC63 a0)]⟩ ?_
        refine cutK [0] ⟨143, [(1, .ptr 0 0 0 0), (21, .b (decide (a0.Seq > 1073741824)))], [.box 63 (eC63 a0)]⟩ h0 ?_
        exact Jj1 (decide (a0.Seq > 1073741824)) H


theorem spliceref06_find.says {t0 : Bool} (a0 : List spliceref06_Held) (a1 : Int) (a2 : Int) {r : Int} (H : spliceref06_find a0 a1 a2 = some r) : Says Try.prog 66 [] [.d (eL65 t0 a0), .i a1, .i a2] [] (.i r) := by
  refine says_of Try.func66 rfl (nt := 33) rfl (Nat.le_of_ble_eq_true rfl) fun X hP h0 hX => ?_
  have hT : TabOk X.P T := hP ▸ tok
  have hf : X.P.funcs[66]? = some Try.f66 := hP ▸ Try.func66
  refine goK hT 11 (K66 11010 0) ⟨33, [(0, .d (eL65 t0 a0)), (1, .i a1), (2, .i a2), (7, .i 0)], []⟩ ?_
  have L : ∀ n, (∀ (x1_7 : Int), iter (spliceref06_find.step a0 a1 a2) n (.l1 x1_7) = some r → AK X 66 ((K66 11010 0)) (Back X [] (.i r)) ⟨33, [(0, .d (eL65 t0 a0)), (1, .i a1), (2, .i a2), (7, .i x1_7)], []⟩) := by
    intro n
    induction n with
    | zero => exact fun _ H => iter0 H
    | succ n ih =>
      · intro x1_7 H
        refine goK hT 8 (K66 1101000 1) ⟨33, [(0, .d (eL65 t0 a0)), (1, .i a1), (2, .i a2), (7, .i x1_7), (11, .b (decide (x1_7 < (a0.length : Int))))], []⟩ ?_
        by_cases c1 : x1_7 < (a0.length : Int)
        · replace H := sT c1 H
          rw [decide_eq_true c1]
          refine goK hT 2 (K66 110100 1) ⟨33, [(0, .d (eL65 t0 a0)), (1, .i a1), (2, .i a2), (7, .i x1_7)], []⟩ ?_
          refine goK hT 6 (K66 1101001000 2) ⟨33, [(0, .d (eL65 t0 a0)), (1, .i a1), (2, .i a2), (7, .i x1_7), (14, .d (eL65 t0 a0)), (15, .i x1_7)], []⟩ ?_
          obtain ⟨h2, H⟩ := sC H
          have Jj1 : ∀ (y1_31 : Bool), stk (spliceref06_find.j1 x1_7 y1_31) (iter (spliceref06_find.step a0 a1 a2) n) = some r → AK X 66 ((K66 110100100 1)) (Back X [] (.i r)) ⟨33, [(0, .d (eL65 t0 a0)), (1, .i a1), (2, .i a2), (7, .i x1_7), (31, .b y1_31)], []⟩ := by
            intro y1_31 H
            by_cases c4 : y1_31 = true
            · replace H := sT c4 H
              rw [c4]
              refine goK hT 6 (K66 11010010010 1) ⟨33, [(6, .i x1_7)], []⟩ ?_
              obtain rfl := retC H
              exact ak_ret hf hX (av := .i x1_7) (by kernel_rfl) [] (sel_of_eq (by kernel_rfl)) (by decide) (by rw [h0]; rfl) (by kernel_rfl) (fun _ h => all_nil h) (.d (.v _))
            · replace H := sF c4 H
              rw [boF c4]
              refine goK hT 3 (K66 1101001 1) ⟨33, [(0, .d (eL65 t0 a0)), (1, .i a1), (2, .i a2), (7, .i x1_7)], []⟩ ?_
              refine goK hT 6 (K66 11010 0) ⟨33, [(0, .d (eL65 t0 a0)), (1, .i a1), (2, .i a2), (7, .i (IntKind.wrap .i64 (x1_7 + 1)))], []⟩ ?_
              refine cutK [] ⟨33, [(0, .d (eL65 t0 a0)), (1, .i a1), (2, .i a2), (7, .i (IntKind.wrap .i64 (x1_7 + 1)))], []⟩ h0 ?_
              exact ih (IntKind.wrap .i64 (x1_7 + 1)) H
          refine ak_idx hT [0, 1, 2, 7, 16] (i := x1_7) (n := (a0.length : Int)) h2.1 h2.2 (k' := (K66 1101001000 3)) (st' := ⟨33, [(0, .d (eL65 t0 a0)), (1, .i a1), (2, .i a2), (7, .i x1_7), (16, .d (eP65 t0 a0 x1_7.toNat 0))], []⟩) (by kernel_rfl) ?_
          refine goK hT 6 (K66 1101001000 9) ⟨33, [(0, .d (eL65 t0 a0)), (1, .i a1), (2, .i a2), (7, .i x1_7), (22, .b ((((a0.getD x1_7.toNat spliceref06_Held.z).M).Client) == a1))], []⟩ ?_
          by_cases c3 : (((a0.getD x1_7.toNat spliceref06_Held.z).M).Client) = a1
          · replace H := sT c3 H
            rw [eqT c3]
            refine goK hT 2 (K66 1101001000 11) ⟨33, [(0, .d (eL65 t0 a0)), (1, .i a1), (2, .i a2), (7, .i x1_7), (22, .b true), (23, .d (eL65 t0 a0)), (24, .i x1_7)], []⟩ ?_
            refine ak_idx hT [0, 1, 2, 7, 22, 25] (i := x1_7) (n := (a0.length : Int)) h2.1 h2.2 (k' := (K66 1101001000 12)) (st' := ⟨33, [(0, .d (eL65 t0 a0)), (1, .i a1), (2, .i a2), (7, .i x1_7), (22, .b true), (25, .d (eP65 t0 a0 x1_7.toNat 0))], []⟩) (by kernel_rfl) ?_
            refine goK hT 7 (K66 110100100 1) ⟨33, [(0, .d (eL65 t0 a0)), (1, .i a1), (2, .i a2), (7, .i x1_7), (31, .b ((((a0.getD x1_7.toNat spliceref06_Held.z).M).Seq) == a2))], []⟩ ?_
            refine cutK [] ⟨33, [(0, .d (eL65 t0 a0)), (1, .i a1), (2, .i a2), (7, .i x1_7), (31, .b ((((a0.getD x1_7.toNat spliceref06_Held.z).M).Seq) == a2))], []⟩ h0 ?_
            exact Jj1 ((((a0.getD x1_7.toNat spliceref06_Held.z).M).Seq) == a2) H
          · replace H := sF c3 H
            rw [eqF c3]
            refine goK hT 10 (K66 110100100 1) ⟨33, [(0, .d (eL65 t0 a0)), (1, .i a1), (2, .i a2), (7, .i x1_7), (31, .b false)], []⟩ ?_
            refine cutK [] ⟨33, [(0, .d (eL65 t0 a0)), (1, .i a1), (2, .i a2), (7, .i x1_7), (31, .b false)], []⟩ h0 ?_
            exact Jj1 false H
        · replace H := sF c1 H
          rw [decide_eq_false c1]
          refine goK hT 6 (K66 111 1) ⟨33, [(6, .i (-1))], []⟩ ?_
          obtain rfl := retC H
          exact ak_ret hf hX (av := .i (-1)) (by kernel_rfl) [] (sel_of_eq (by kernel_rfl)) (by decide) (by rw [h0]; rfl) (by kernel_rfl) (fun _ h => all_nil h) (.d (.v _))
  refine cutK [] ⟨33, [(0, .d (eL65 t0 a0)), (1, .i a1), (2, .i a2), (7, .i 0)], []⟩ h0 ?_
  obtain ⟨n, H⟩ := loopC H
  exact (L n) 0 H


theorem spliceref06_stamp.says (a0 : spliceref06_Held) : Says Try.prog 79 [] [.d (eG65 a0)] [] (.d (eG149 (spliceref06_stamp a0))) := by
  obtain ⟨r, H⟩ : ∃ r, spliceref06_stamp a0 = r := ⟨_, rfl⟩
  rw [H]
  refine says_of Try.func79 rfl (nt := 12) rfl (Nat.le_of_ble_eq_true rfl) fun X hP h0 hX => ?_
  have hT : TabOk X.P T := hP ▸ tok
  have hf : X.P.funcs[79]? = some Try.f79 := hP ▸ Try.func79
  refine goK hT 18 (K79 11 1) ⟨12, [(2, .ptr 1 0 0 0)], [.box 65 (eC65 a0), .box 149 [.i a0.Time, .i a0.M.Client, .i a0.M.Seq]]⟩ ?_
  obtain rfl := H
  exact ak_retM hT hf hX (av := .d (.agg [.i a0.Time, .i a0.M.Client, .i a0.M.Seq])) (by kernel_rfl) [] (sel_of_eq (by kernel_rfl)) (by decide) (by rw [h0]; rfl) (by kernel_rfl) (fun _ h => all_nil h) (.d (.agg (spliceref04_Stamp.nl _)))


theorem spliceref04_Ahead.says (a0 : spliceref04_Stamp) (a1 : spliceref04_Stamp) : Says Try.prog 78 [] [.d (eG149 a0), .d (eG149 a1)] [] (.b (spliceref04_Ahead a0 a1)) := by
  obtain ⟨r, H⟩ : ∃ r, spliceref04_Ahead a0 a1 = r := ⟨_, rfl⟩
  rw [H]
  refine says_of Try.func78 rfl (nt := 30) rfl (Nat.le_of_ble_eq_true rfl) fun X hP h0 hX => ?_
  have hT : TabOk X.P T := hP ▸ tok
  have hf : X.P.funcs[78]? = some Try.f78 := hP ▸ Try.func78
  refine goK hT 15 (K78 110 1) ⟨30, [(2, .ptr 0 0 0 0), (3, .ptr 1 0 0 0), (9, .b (a0.Time != a1.Time))], [.box 149 (eC149 a0), .box 149 (eC149 a1)]⟩ ?_
  by_cases c1 : a0.Time = a1.Time
  · replace H := iT c1 H
    rw [neF c1]
    refine goK hT 2 (K78 11 1) ⟨30, [(2, .ptr 0 0 0 0), (3, .ptr 1 0 0 0)], [.box 149 (eC149 a0), .box 149 (eC149 a1)]⟩ ?_
    refine goK hT 9 (K78 1110 1) ⟨30, [(2, .ptr 0 0 0 0), (3, .ptr 1 0 0 0), (19, .b (a0.Client != a1.Client))], [.box 149 (eC149 a0), .box 149 (eC149 a1)]⟩ ?_
    by_cases c2 : a0.Client = a1.Client
    · replace H := iT c2 H
      rw [neF c2]
      refine goK hT 2 (K78 111 1) ⟨30, [(2, .ptr 0 0 0 0), (3, .ptr 1 0 0 0)], [.box 149 (eC149 a0), .box 149 (eC149 a1)]⟩ ?_
      refine goK hT 9 (K78 1111 1) ⟨30, [(4, .b (decide (a0.Seq < a1.Seq)))], [.box 149 (eC149 a0), .box 149 (eC149 a1)]⟩ ?_
      obtain rfl := H
      exact ak_ret hf hX (av := .b (decide (a0.Seq < a1.Seq))) (by kernel_rfl) [] (sel_of_eq (by kernel_rfl)) (by decide) (by rw [h0]; rfl) (by kernel_rfl) (fun _ h => all_nil h) (.d (.v _))
    · replace H := iF c2 H
      rw [neT c2]
      refine goK hT 10 (K78 111010 1) ⟨30, [(4, .b (decide (a0.Client < a1.Client)))], [.box 149 (eC149 a0), .box 149 (eC149 a1)]⟩ ?_
      obtain rfl := H
      exact ak_ret hf hX (av := .b (decide (a0.Client < a1.Client))) (by kernel_rfl) [] (sel_of_eq (by kernel_rfl)) (by decide) (by rw [h0]; rfl) (by kernel_rfl) (fun _ h => all_nil h) (.d (.v _))
  · replace H := iF c1 H
    rw [neT c1]
    refine goK hT 10 (K78 11010 1) ⟨30, [(4, .b (decide (a0.Time < a1.Time)))], [.box 149 (eC149 a0), .box 149 (eC149 a1)]⟩ ?_
    obtain rfl := H
    exact ak_ret hf hX (av := .b (decide (a0.Time < a1.Time))) (by kernel_rfl) [] (sel_of_eq (by kernel_rfl)) (by decide) (by rw [h0]; rfl) (by kernel_rfl) (fun _ h => all_nil h) (.d (.v _))


theorem spliceref06_with.says {t0 : Bool} (a0 : List spliceref06_Held) (a1 : spliceref06_Held) {r : List spliceref06_Held} (H : spliceref06_with a0 a1 = some r) : Says Try.prog 67 [] [.d (eL65 t0 a0), .d (eG65 a1)] [eR65 r] (.own 0 9 0 r.length) := by
  refine says_of Try.func67 rfl (nt := 44) rfl (Nat.le_of_ble_eq_true rfl) fun X hP h0 hX => ?_
  have hT : TabOk X.P T := hP ▸ tok
  have hf : X.P.funcs[67]? = some Try.f67 := hP ▸ Try.func67
  refine goK hT 20 (K67 1111010 0) ⟨44, [(0, .d (eL65 t0 a0)), (3, .ptr 0 0 0 0), (5, .ns), (6, .b false), (7, .i 0)], [.box 65 (eC65 a1)]⟩ ?_
  refine ak_nilS [0, 3, 5, 6, 7] 5 9 65 (vec spliceref06_Held.e spliceref06_Held.z []) (st' := ⟨44, [(0, .d (eL65 t0 a0)), (3, .ptr 0 0 0 0), (5, .own 1 9 0 0), (6, .b false), (7, .i 0)], [.box 65 (eC65 a1), eR65 ([] : List spliceref06_Held)]⟩) (by kernel_rfl) (by kernel_rfl) ?_
  have L : ∀ n, (∀ (x1_6 : Bool) (x1_7 : Int) (x1_r1 : List spliceref06_Held), iter (spliceref06_with.step a0 a1) n (.l1 x1_6 x1_7 x1_r1) = some r → AK X 67 ((K67 1111010 0)) (Back X [eR65 r] (.own 0 9 0 r.length)) ⟨44, [(0, .d (eL65 t0 a0)), (3, .ptr 0 0 0 0), (5, .own 1 9 0 x1_r1.length), (6, .b x1_6), (7, .i x1_7)], [.box 65 (eC65 a1), eR65 x1_r1]⟩) := by
    intro n
    induction n with
    | zero => exact fun _ _ _ H => iter0 H
    | succ n ih =>
      · intro x1_6 x1_7 x1_r1 H
        refine goK hT 8 (K67 111101000 1) ⟨44, [(0, .d (eL65 t0 a0)), (3, .ptr 0 0 0 0), (5, .own 1 9 0 x1_r1.length), (6, .b x1_6), (7, .i x1_7), (11, .b (decide (x1_7 < (a0.length : Int))))], [.box 65 (eC65 a1), eR65 x1_r1]⟩ ?_
        by_cases c1 : x1_7 < (a0.length : Int)
        · replace H := sT c1 H
          have Jj2 : ∀ (y2_25 : Bool), stk (spliceref06_with.j2 a0 a1 x1_6 x1_7 x1_r1 y2_25) (iter (spliceref06_with.step a0 a1) n) = some r → AK X 67 ((K67 111101001000 1)) (Back X [eR65 r] (.own 0 9 0 r.length)) ⟨44, [(0, .d (eL65 t0 a0)), (3, .ptr 0 0 0 0), (5, .own 1 9 0 x1_r1.length), (6, .b x1_6), (7, .i x1_7), (25, .b y2_25)], [.box 65 (eC65 a1), eR65 x1_r1]⟩ := by
            intro y2_25 H
            have Jj3 : ∀ (y3_6 : Bool) (y3_r1 : List spliceref06_Held), stk (spliceref06_with.j3 a0 x1_7 y3_6 y3_r1) (iter (spliceref06_with.step a0 a1) n) = some r → AK X 67 ((K67 11110100100 1)) (Back X [eR65 r] (.own 0 9 0 r.length)) ⟨44, [(0, .d (eL65 t0 a0)), (3, .ptr 0 0 0 0), (5, .own 1 9 0 y3_r1.length), (6, .b y3_6), (7, .i x1_7)], [.box 65 (eC65 a1), eR65 y3_r1]⟩ := by
              intro y3_6 y3_r1 H
              refine goK hT 4 (K67 111101001001 3) ⟨44, [(0, .d (eL65 t0 a0)), (3, .ptr 0 0 0 0), (6, .b y3_6), (7, .i x1_7), (30, .own 1 9 0 y3_r1.length), (31, .d (eL65 t0 a0)), (32, .i x1_7)], [.box 65 (eC65 a1), eR65 y3_r1]⟩ ?_
              obtain ⟨h8, H⟩ := sC H
              refine ak_idx hT [0, 3, 6, 7, 30, 33] (i := x1_7) (n := (a0.length : Int)) h8.1 h8.2 (k' := (K67 111101001001 4)) (st' := ⟨44, [(0, .d (eL65 t0 a0)), (3, .ptr 0 0 0 0), (6, .b y3_6), (7, .i x1_7), (30, .own 1 9 0 y3_r1.length), (33, .d (eP65 t0 a0 x1_7.toNat 0))], [.box 65 (eC65 a1), eR65 y3_r1]⟩) (by kernel_rfl) ?_
              refine goK hT 2 (K67 111101001001 6) ⟨44, [(0, .d (eL65 t0 a0)), (3, .ptr 0 0 0 0), (6, .b y3_6), (7, .i x1_7), (30, .own 1 9 0 y3_r1.length), (35, .own 2 9 0 1)], [.box 65 (eC65 a1), eR65 y3_r1, .flat false 9 65 1 (fun j => [spliceref06_Held.e (a0.getD x1_7.toNat spliceref06_Held.z)].getD j [])]⟩ ?_
              obtain ⟨h9, H⟩ := sC H
              refine ak_append1 (id := 1) (kk := 9) (by' := 88) (t := 57) (e := 65) (z := [.int .i64 0, .int .i64 0, .int .i64 0, .slice none 0 0, .int .i64 0, .int .i64 0, .int .i64 0, .int .i64 0, .bool false]) (dst := some 36) (id2 := 2) (e2 := 65) (fz := false) (k' := (K67 111101001001 7)) hT spliceref06_Held.e spliceref06_Held.z y3_r1 (a0.getD x1_7.toNat spliceref06_Held.z) [0, 3, 6, 7, 36] (by kernel_rfl) (by kernel_rfl) (by kernel_rfl) (by kernel_rfl) (by kernel_rfl) (by kernel_rfl) (by kernel_rfl) h9 (by omega) (st' := ⟨44, [(0, .d (eL65 t0 a0)), (3, .ptr 0 0 0 0), (6, .b y3_6), (7, .i x1_7), (36, .own 3 9 0 ((y3_r1 ++ [a0.getD x1_7.toNat spliceref06_Held.z]).length))], [.box 65 (eC65 a1), .gone, .flat false 9 65 1 (fun j => [spliceref06_Held.e (a0.getD x1_7.toNat spliceref06_Held.z)].getD j []), eR65 (y3_r1 ++ [a0.getD x1_7.toNat spliceref06_Held.z])]⟩) (by kernel_rfl) ?_
              refine goK hT 9 (K67 1111010 0) ⟨44, [(0, .d (eL65 t0 a0)), (3, .ptr 0 0 0 0), (5, .own 3 9 0 ((y3_r1 ++ [a0.getD x1_7.toNat spliceref06_Held.z]).length)), (6, .b y3_6), (7, .i (IntKind.wrap .i64 (x1_7 + 1)))], [.box 65 (eC65 a1), .gone, .flat false 9 65 1 (fun j => [spliceref06_Held.e (a0.getD x1_7.toNat spliceref06_Held.z)].getD j []), eR65 (y3_r1 ++ [a0.getD x1_7.toNat spliceref06_Held.z])]⟩ ?_
              refine cutK [0, 3] ⟨44, [(0, .d (eL65 t0 a0)), (3, .ptr 0 0 0 0), (5, .own 1 9 0 (y3_r1 ++ [a0.getD x1_7.toNat spliceref06_Held.z]).length), (6, .b y3_6), (7, .i (IntKind.wrap .i64 (x1_7 + 1)))], [.box 65 (eC65 a1), eR65 (y3_r1 ++ [a0.getD x1_7.toNat spliceref06_Held.z])]⟩ h0 ?_
              exact ih y3_6 (IntKind.wrap .i64 (x1_7 + 1)) (y3_r1 ++ [a0.getD x1_7.toNat spliceref06_Held.z]) H
            by_cases c6 : y2_25 = true
            · replace H := sT c6 H
              rw [c6]
              refine goK hT 6 (K67 111101001000100 3) ⟨44, [(0, .d (eL65 t0 a0)), (3, .ptr 0 0 0 0), (7, .i x1_7), (26, .own 1 9 0 x1_r1.length), (28, .own 2 9 0 1)], [.box 65 (eC65 a1), eR65 x1_r1, .flat false 9 65 1 (fun j => [spliceref06_Held.e a1].getD j [])]⟩ ?_
              obtain ⟨h7, H⟩ := sC H
              refine ak_append1 (id := 1) (kk := 9) (by' := 88) (t := 57) (e := 65) (z := [.int .i64 0, .int .i64 0, .int .i64 0, .slice none 0 0, .int .i64 0, .int .i64 0, .int .i64 0, .int .i64 0, .bool false]) (dst := some 29) (id2 := 2) (e2 := 65) (fz := false) (k' := (K67 111101001000100 4)) hT spliceref06_Held.e spliceref06_Held.z x1_r1 a1 [0, 3, 7, 29] (by kernel_rfl) (by kernel_rfl) (by kernel_rfl) (by kernel_rfl) (by kernel_rfl) (by kernel_rfl) (by kernel_rfl) h7 (by omega) (st' := ⟨44, [(0, .d (eL65 t0 a0)), (3, .ptr 0 0 0 0), (7, .i x1_7), (29, .own 3 9 0 ((x1_r1 ++ [a1]).length))], [.box 65 (eC65 a1), .gone, .flat false 9 65 1 (fun j => [spliceref06_Held.e a1].getD j []), eR65 (x1_r1 ++ [a1])]⟩) (by kernel_rfl) ?_
              refine goK hT 5 (K67 11110100100 1) ⟨44, [(0, .d (eL65 t0 a0)), (3, .ptr 0 0 0 0), (5, .own 3 9 0 ((x1_r1 ++ [a1]).length)), (6, .b true), (7, .i x1_7)], [.box 65 (eC65 a1), .gone, .flat false 9 65 1 (fun j => [spliceref06_Held.e a1].getD j []), eR65 (x1_r1 ++ [a1])]⟩ ?_
              refine cutK [0, 3] ⟨44, [(0, .d (eL65 t0 a0)), (3, .ptr 0 0 0 0), (5, .own 1 9 0 (x1_r1 ++ [a1]).length), (6, .b true), (7, .i x1_7)], [.box 65 (eC65 a1), eR65 (x1_r1 ++ [a1])]⟩ h0 ?_
              exact Jj3 true (x1_r1 ++ [a1]) H
            · replace H := sF c6 H
              rw [boF c6]
              refine goK hT 2 (K67 11110100100 1) ⟨44, [(0, .d (eL65 t0 a0)), (3, .ptr 0 0 0 0), (5, .own 1 9 0 x1_r1.length), (6, .b x1_6), (7, .i x1_7)], [.box 65 (eC65 a1), eR65 x1_r1]⟩ ?_
              refine cutK [0, 1] ⟨44, [(0, .d (eL65 t0 a0)), (3, .ptr 0 0 0 0), (5, .own 1 9 0 x1_r1.length), (6, .b x1_6), (7, .i x1_7)], [.box 65 (eC65 a1), eR65 x1_r1]⟩ h0 ?_
              exact Jj3 x1_6 x1_r1 H
          rw [decide_eq_true c1]
          refine goK hT 2 (K67 11110100 1) ⟨44, [(0, .d (eL65 t0 a0)), (3, .ptr 0 0 0 0), (5, .own 1 9 0 x1_r1.length), (6, .b x1_6), (7, .i x1_7)], [.box 65 (eC65 a1), eR65 x1_r1]⟩ ?_
          refine goK hT 4 (K67 111101001000 0) ⟨44, [(0, .d (eL65 t0 a0)), (3, .ptr 0 0 0 0), (5, .own 1 9 0 x1_r1.length), (6, .b x1_6), (7, .i x1_7)], [.box 65 (eC65 a1), eR65 x1_r1]⟩ ?_
          by_cases c4 : x1_6 = true
          · replace H := sT c4 H
            refine drawK (hP ▸ mixed) 12 [0, 3, 5, 6, 7] [some (.b true), some (.b false), some (.b false), some (.tup []), some (.tup []), some (.tup []), some (.tup []), some (.tup []), some (.tup []), some (.tup []), some (.tup []), some (.b false)] (opG (opG (opG (opG (opG (opG (opG (opG (opG (opG (opG (opV op0 hT 14 (.b x1_6) (.b true) (by rw [c4] <;> rfl)) hT) hT) hT) hT) hT) hT) hT) hT) hT) hT) hT) ?_
            refine goK hT 1 (K67 111101001000 1) ⟨44, [(0, .d (eL65 t0 a0)), (3, .ptr 0 0 0 0), (5, .own 1 9 0 x1_r1.length), (6, .b x1_6), (7, .i x1_7), (25, .b false)], [.box 65 (eC65 a1), eR65 x1_r1]⟩ ?_
            refine cutK [0, 1] ⟨44, [(0, .d (eL65 t0 a0)), (3, .ptr 0 0 0 0), (5, .own 1 9 0 x1_r1.length), (6, .b x1_6), (7, .i x1_7), (25, .b false)], [.box 65 (eC65 a1), eR65 x1_r1]⟩ h0 ?_
            exact Jj2 false H
          · replace H := sF c4 H
            obtain ⟨h5, H⟩ := sC H
            refine drawK (hP ▸ mixed) 12 [0, 3, 5, 6, 7] [some (.b false), some (.b true), some (.b true), some (.d (eG65 a1)), some (.d (eG149 (spliceref06_stamp a1))), some (.d (eL65 t0 a0)), some (.i x1_7), some (.d (eP65 t0 a0 x1_7.toNat 0)), some (.d (eG65 (a0.getD x1_7.toNat spliceref06_Held.z))), some (.d (eG149 (spliceref06_stamp (a0.getD x1_7.toNat spliceref06_Held.z)))), some (.b (spliceref04_Ahead (spliceref06_stamp a1) (spliceref06_stamp (a0.getD x1_7.toNat spliceref06_Held.z)))), some (.b (spliceref04_Ahead (spliceref06_stamp a1) (spliceref06_stamp (a0.getD x1_7.toNat spliceref06_Held.z))))] (opG (opS (opS (opG (opS (opG (opG (opS (opG (opG (opG (opV op0 hT 14 (.b x1_6) (.b false) (by rw [boF c4] <;> rfl)) hT) hT) hT) (fun R rest h => ak_callD (avs := [.d (eG65 a1)]) (dst := some 18) hP enters_79 (spliceref06_stamp.says a1) (by kernel_rfl) (.cons (pass_d _) .nil) (by kernel_rfl) h)) hT) hT) (fun R rest h => ak_idx0 hT (i := x1_7) (n := (a0.length : Int)) h5.1 h5.2 (by kernel_rfl) h)) hT) (fun R rest h => ak_callD (avs := [.d (eG65 (a0.getD x1_7.toNat spliceref06_Held.z))]) (dst := some 23) hP enters_79 (spliceref06_stamp.says (a0.getD x1_7.toNat spliceref06_Held.z)) (by kernel_rfl) (.cons (pass_d _) .nil) (by kernel_rfl) h)) (fun R rest h => ak_callD (avs := [.d (eG149 (spliceref06_stamp a1)), .d (eG149 (spliceref06_stamp (a0.getD x1_7.toNat spliceref06_Held.z)))]) (dst := some 24) hP enters_78 (spliceref04_Ahead.says (spliceref06_stamp a1) (spliceref06_stamp (a0.getD x1_7.toNat spliceref06_Held.z))) (by kernel_rfl) (.cons (pass_d _) (.cons (pass_d _) .nil)) (by kernel_rfl) h)) hT) ?_
            refine goK hT 1 (K67 111101001000 1) ⟨44, [(0, .d (eL65 t0 a0)), (3, .ptr 0 0 0 0), (5, .own 1 9 0 x1_r1.length), (6, .b x1_6), (7, .i x1_7), (25, .b (spliceref04_Ahead (spliceref06_stamp a1) (spliceref06_stamp (a0.getD x1_7.toNat spliceref06_Held.z))))], [.box 65 (eC65 a1), eR65 x1_r1]⟩ ?_
            refine cutK [0, 1] ⟨44, [(0, .d (eL65 t0 a0)), (3, .ptr 0 0 0 0), (5, .own 1 9 0 x1_r1.length), (6, .b x1_6), (7, .i x1_7), (25, .b (spliceref04_Ahead (spliceref06_stamp a1) (spliceref06_stamp (a0.getD x1_7.toNat spliceref06_Held.z))))], [.box 65 (eC65 a1), eR65 x1_r1]⟩ h0 ?_
            exact Jj2 (spliceref04_Ahead (spliceref06_stamp a1) (spliceref06_stamp (a0.getD x1_7.toNat spliceref06_Held.z))) H
        · replace H := sF c1 H
          have Jj1 : ∀ (y1_r0 : List spliceref06_Held), stk (spliceref06_with.j1 y1_r0) (iter (spliceref06_with.step a0 a1) n) = some r → AK X 67 ((K67 11111 1)) (Back X [eR65 r] (.own 0 9 0 r.length)) ⟨44, [(5, .own 0 9 0 y1_r0.length)], [eR65 y1_r0]⟩ := by
            intro y1_r0 H
            refine goK hT 5 (K67 111111 1) ⟨44, [(4, .own 0 9 0 y1_r0.length)], [eR65 y1_r0]⟩ ?_
            obtain rfl := retC H
            exact ak_ret hf hX (av := .own 0 9 0 y1_r0.length) (by kernel_rfl) [0] (sel_of_eq (by kernel_rfl)) (by decide) (by rw [h0]; rfl) (by kernel_rfl) (fun _ h => all_cons (nr_vec spliceref06_Held.nl) (fun _ h => all_nil h) h) (.own _ _ _ _)
          rw [decide_eq_false c1]
          refine goK hT 8 (K67 111110 1) ⟨44, [(3, .ptr 0 0 0 0), (5, .own 1 9 0 x1_r1.length), (38, .b (!x1_6))], [.box 65 (eC65 a1), eR65 x1_r1]⟩ ?_
          by_cases c2 : x1_6 = true
          · replace H := sT c2 H
            rw [c2]
            refine goK hT 2 (K67 11111 1) ⟨44, [(5, .own 1 9 0 x1_r1.length)], [.box 65 (eC65 a1), eR65 x1_r1]⟩ ?_
            refine cutK [1] ⟨44, [(5, .own 0 9 0 x1_r1.length)], [eR65 x1_r1]⟩ h0 ?_
            exact Jj1 x1_r1 H
          · replace H := sF c2 H
            rw [boF c2]
            refine goK hT 5 (K67 11111010 3) ⟨44, [(39, .own 1 9 0 x1_r1.length), (41, .own 2 9 0 1)], [.box 65 (eC65 a1), eR65 x1_r1, .flat false 9 65 1 (fun j => [spliceref06_Held.e a1].getD j [])]⟩ ?_
            obtain ⟨h3, H⟩ := sC H
            refine ak_append1 (id := 1) (kk := 9) (by' := 88) (t := 57) (e := 65) (z := [.int .i64 0, .int .i64 0, .int .i64 0, .slice none 0 0, .int .i64 0, .int .i64 0, .int .i64 0, .int .i64 0, .bool false]) (dst := some 42) (id2 := 2) (e2 := 65) (fz := false) (k' := (K67 11111010 4)) hT spliceref06_Held.e spliceref06_Held.z x1_r1 a1 [42] (by kernel_rfl) (by kernel_rfl) (by kernel_rfl) (by kernel_rfl) (by kernel_rfl) (by kernel_rfl) (by kernel_rfl) h3 (by omega) (st' := ⟨44, [(42, .own 3 9 0 ((x1_r1 ++ [a1]).length))], [.box 65 (eC65 a1), .gone, .flat false 9 65 1 (fun j => [spliceref06_Held.e a1].getD j []), eR65 (x1_r1 ++ [a1])]⟩) (by kernel_rfl) ?_
            refine goK hT 2 (K67 11111 1) ⟨44, [(5, .own 3 9 0 ((x1_r1 ++ [a1]).length))], [.box 65 (eC65 a1), .gone, .flat false 9 65 1 (fun j => [spliceref06_Held.e a1].getD j []), eR65 (x1_r1 ++ [a1])]⟩ ?_
            refine cutK [3] ⟨44, [(5, .own 0 9 0 (x1_r1 ++ [a1]).length)], [eR65 (x1_r1 ++ [a1])]⟩ h0 ?_
            exact Jj1 (x1_r1 ++ [a1]) H
  refine cutK [0, 1] ⟨44, [(0, .d (eL65 t0 a0)), (3, .ptr 0 0 0 0), (5, .own 1 9 0 ([] : List spliceref06_Held).length), (6, .b false), (7, .i 0)], [.box 65 (eC65 a1), eR65 ([] : List spliceref06_Held)]⟩ h0 ?_
  obtain ⟨n, H⟩ := loopC H
  exact (L n) false 0 ([] : List spliceref06_Held) H


theorem spliceref06_Add.says (a0 : List spliceref06_Held) (a1 : spliceref06_Held) {r : (List spliceref06_Held) × Int} (H : spliceref06_Add a0 a1 = some r) : Says Try.prog 48 [] [.d (eL65 true a0), .d (eG65 a1)] [] (.tup [.d (eL65 true r.1), .i r.2]) := by
  refine says_of Try.func48 rfl (nt := 34) rfl (Nat.le_of_ble_eq_true rfl) fun X hP h0 hX => ?_
  have hT : TabOk X.P T := hP ▸ tok
  have hf : X.P.funcs[48]? = some Try.f48 := hP ▸ Try.func48
  refine goK hT 11 (K48 1100 2) ⟨34, [(0, .d (eL65 true a0)), (3, .ptr 0 0 0 0), (7, .d (eG63 a1.M))], [.box 65 (eC65 a1)]⟩ ?_
  obtain ⟨v1, h1, H⟩ := ibC H
  have Jj1 : ∀ (y1_19 : Bool), (spliceref06_Add.j1 a0 a1 y1_19) = some r → AK X 48 ((K48 110 1)) (Back X [] (.tup [.d (eL65 true r.1), .i r.2])) ⟨34, [(0, .d (eL65 true a0)), (3, .ptr 0 0 0 0), (19, .b y1_19)], [.box 65 (eC65 a1)]⟩ := by
    intro y1_19 H
    by_cases c4 : y1_19 = true
    · replace H := iT c4 H
      rw [c4]
      refine goK hT 7 (K48 11010 1) ⟨34, [(4, .d (eL65 true a0)), (5, .i 1)], [.box 65 (eC65 a1)]⟩ ?_
      obtain rfl := retC H
      exact ak_ret hf hX (av := .tup [.d (eL65 true a0), .i 1]) (by kernel_rfl) [] (sel_of_eq (by kernel_rfl)) (by decide) (by rw [h0]; rfl) (by kernel_rfl) (fun _ h => all_nil h) (.tup (.cons (.d (.sl fun _ _ => spliceref06_Held.nl _)) (.cons (.d (.v _)) .nil)))
    · replace H := iF c4 H
      rw [boF c4]
      refine goK hT 2 (K48 11 1) ⟨34, [(0, .d (eL65 true a0)), (3, .ptr 0 0 0 0)], [.box 65 (eC65 a1)]⟩ ?_
      refine goK hT 10 (K48 11100 7) ⟨34, [(0, .d (eL65 true a0)), (3, .ptr 0 0 0 0), (21, .d (eL65 true a0)), (24, .i a1.M.Client), (27, .i a1.M.Seq)], [.box 65 (eC65 a1)]⟩ ?_
      obtain ⟨v2, h5, H⟩ := ibC H
      refine ak_callP (avs := [.d (eL65 true a0), .i a1.M.Client, .i a1.M.Seq]) (dst := some 28) (k' := (K48 11100 8)) [0, 3, 28] [] hP enters_66 (spliceref06_find.says (t0 := true) a0 a1.M.Client a1.M.Seq h5) (by kernel_rfl) (hands_none _) (.cons (pass_d _) (.cons (pass_d _) (.cons (pass_d _) .nil))) (st' := ⟨34, [(0, .d (eL65 true a0)), (3, .ptr 0 0 0 0), (28, .i v2)], [.box 65 (eC65 a1)]⟩) (by kernel_rfl) ?_
      refine goK hT 2 (K48 1110 1) ⟨34, [(0, .d (eL65 true a0)), (3, .ptr 0 0 0 0), (29, .b (decide (v2 ≥ 0)))], [.box 65 (eC65 a1)]⟩ ?_
      by_cases c6 : v2 ≥ 0
      · replace H := iT c6 H
        rw [decide_eq_true c6]
        refine goK hT 7 (K48 111010 1) ⟨34, [(4, .d (eL65 true a0)), (5, .i 7)], [.box 65 (eC65 a1)]⟩ ?_
        obtain rfl := retC H
        exact ak_ret hf hX (av := .tup [.d (eL65 true a0), .i 7]) (by kernel_rfl) [] (sel_of_eq (by kernel_rfl)) (by decide) (by rw [h0]; rfl) (by kernel_rfl) (fun _ h => all_nil h) (.tup (.cons (.d (.sl fun _ _ => spliceref06_Held.nl _)) (.cons (.d (.v _)) .nil)))
      · replace H := iF c6 H
        rw [decide_eq_false c6]
        refine goK hT 2 (K48 111 1) ⟨34, [(0, .d (eL65 true a0)), (3, .ptr 0 0 0 0)], [.box 65 (eC65 a1)]⟩ ?_
        refine goK hT 4 (K48 11110 2) ⟨34, [(31, .d (eL65 true a0)), (32, .d (eG65 a1))], [.box 65 (eC65 a1)]⟩ ?_
        obtain ⟨v3, h7, H⟩ := ibC H
        refine ak_callP (avs := [.d (eL65 true a0), .d (eG65 a1)]) (dst := some 33) (k' := (K48 11110 3)) [33] [] hP enters_67 (spliceref06_with.says (t0 := true) a0 a1 h7) (by kernel_rfl) (hands_none _) (.cons (pass_d _) (.cons (pass_d _) .nil)) (st' := ⟨34, [(33, .own 1 9 0 v3.length)], [.box 65 (eC65 a1), eR65 v3]⟩) (by kernel_rfl) ?_
        refine goK hT 3 (K48 1111 1) ⟨34, [(4, .own 1 9 0 v3.length), (5, .i 0)], [.box 65 (eC65 a1), eR65 v3]⟩ ?_
        refine ak_freeze 1 (kk := 9) (n := v3.length) (ty := 65) (g := vec spliceref06_Held.e spliceref06_Held.z v3) (by kernel_rfl) (st' := ⟨34, [(4, .own 1 9 0 v3.length), (5, .i 0)], [.box 65 (eC65 a1), eF65 v3]⟩) (by kernel_rfl) ?_
        refine ak_sealS (av := .own 1 9 0 v3.length) (y := eL65 true v3) [4, 5] 4 (st' := ⟨34, [(4, .d (eL65 true v3)), (5, .i 0)], [.box 65 (eC65 a1), eF65 v3]⟩) (by kernel_rfl) (.own (ty := 65) (k := 9) (by kernel_rfl)) (by kernel_rfl) ?_
        obtain rfl := retC H
        exact ak_ret hf hX (av := .tup [.d (eL65 true v3), .i 0]) (by kernel_rfl) [] (sel_of_eq (by kernel_rfl)) (by decide) (by rw [h0]; rfl) (by kernel_rfl) (fun _ h => all_nil h) (.tup (.cons (.d (.sl fun _ _ => spliceref06_Held.nl _)) (.cons (.d (.v _)) .nil)))
  refine ak_callP (avs := [.d (eG63 a1.M)]) (dst := some 8) (k' := (K48 1100 3)) [0, 3, 8] [] hP enters_65 (spliceref04_Check.says a1.M h1) (by kernel_rfl) (hands_none _) (.cons (pass_d _) .nil) (st' := ⟨34, [(0, .d (eL65 true a0)), (3, .ptr 0 0 0 0), (8, .b v1)], [.box 65 (eC65 a1)]⟩) (by kernel_rfl) ?_
  refine goK hT 2 (K48 1100 5) ⟨34, [(0, .d (eL65 true a0)), (3, .ptr 0 0 0 0), (10, .b (!v1))], [.box 65 (eC65 a1)]⟩ ?_
  by_cases c2 : v1 = true
  · replace H := iT c2 H
    rw [c2]
    refine goK hT 5 (K48 1100 10) ⟨34, [(0, .d (eL65 true a0)), (3, .ptr 0 0 0 0), (15, .b (decide (a1.Time < 0)))], [.box 65 (eC65 a1)]⟩ ?_
    by_cases c3 : a1.Time < 0
    · replace H := iT c3 H
      rw [decide_eq_true c3]
      refine goK hT 5 (K48 110 1) ⟨34, [(0, .d (eL65 true a0)), (3, .ptr 0 0 0 0), (19, .b true)], [.box 65 (eC65 a1)]⟩ ?_
      refine cutK [0] ⟨34, [(0, .d (eL65 true a0)), (3, .ptr 0 0 0 0), (19, .b true)], [.box 65 (eC65 a1)]⟩ h0 ?_
      exact Jj1 true H
    · replace H := iF c3 H
      rw [decide_eq_false c3]
      refine goK hT 5 (K48 110 1) ⟨34, [(0, .d (eL65 true a0)), (3, .ptr 0 0 0 0), (19, .b (decide (a1.Time > 1099511627775)))], [.box 65 (eC65 a1)]⟩ ?_
      refine cutK [0] ⟨34, [(0, .d (eL65 true a0)), (3, .ptr 0 0 0 0), (19, .b (decide (a1.Time > 1099511627775)))], [.box 65 (eC65 a1)]⟩ h0 ?_
      exact Jj1 (decide (a1.Time > 1099511627775)) H
  · replace H := iF c2 H
    rw [boF c2]
    refine goK hT 10 (K48 110 1) ⟨34, [(0, .d (eL65 true a0)), (3, .ptr 0 0 0 0), (19, .b true)], [.box 65 (eC65 a1)]⟩ ?_
    refine cutK [0] ⟨34, [(0, .d (eL65 true a0)), (3, .ptr 0 0 0 0), (19, .b true)], [.box 65 (eC65 a1)]⟩ h0 ?_
    exact Jj1 true H


theorem spliceref06_without.says {t0 : Bool} (a0 : List spliceref06_Held) (a1 : Int) {r : List spliceref06_Held} (H : spliceref06_without a0 a1 = some r) : Says Try.prog 68 [] [.d (eL65 t0 a0), .i a1] [eR65 r] (.own 0 9 0 r.length) := by
  refine says_of Try.func68 rfl (nt := 24) rfl (Nat.le_of_ble_eq_true rfl) fun X hP h0 hX => ?_
  have hT : TabOk X.P T := hP ▸ tok
  have hf : X.P.funcs[68]? = some Try.f68 := hP ▸ Try.func68
  refine goK hT 15 (K68 111010 0) ⟨24, [(0, .d (eL65 t0 a0)), (1, .i a1), (5, .ns), (6, .i 0)], []⟩ ?_
  refine ak_nilS [0, 1, 5, 6] 5 9 65 (vec spliceref06_Held.e spliceref06_Held.z []) (st' := ⟨24, [(0, .d (eL65 t0 a0)), (1, .i a1), (5, .own 0 9 0 0), (6, .i 0)], [eR65 ([] : List spliceref06_Held)]⟩) (by kernel_rfl) (by kernel_rfl) ?_
  have L : ∀ n, (∀ (x1_6 : Int) (x1_r0 : List spliceref06_Held), iter (spliceref06_without.step a0 a1) n (.l1 x1_6 x1_r0) = some r → AK X 68 ((K68 111010 0)) (Back X [eR65 r] (.own 0 9 0 r.length)) ⟨24, [(0, .d (eL65 t0 a0)), (1, .i a1), (5, .own 0 9 0 x1_r0.length), (6, .i x1_6)], [eR65 x1_r0]⟩) := by
    intro n
    induction n with
    | zero => exact fun _ _ H => iter0 H
    | succ n ih =>
      · intro x1_6 x1_r0 H
        refine goK hT 8 (K68 11101000 1) ⟨24, [(0, .d (eL65 t0 a0)), (1, .i a1), (5, .own 0 9 0 x1_r0.length), (6, .i x1_6), (10, .b (decide (x1_6 < (a0.length : Int))))], [eR65 x1_r0]⟩ ?_
        by_cases c1 : x1_6 < (a0.length : Int)
        · replace H := sT c1 H
          have Jj1 : ∀ (y1_r0 : List spliceref06_Held), stk (spliceref06_without.j1 x1_6 y1_r0) (iter (spliceref06_without.step a0 a1) n) = some r → AK X 68 ((K68 11101001 1)) (Back X [eR65 r] (.own 0 9 0 r.length)) ⟨24, [(0, .d (eL65 t0 a0)), (1, .i a1), (5, .own 0 9 0 y1_r0.length), (6, .i x1_6)], [eR65 y1_r0]⟩ := by
            intro y1_r0 H
            refine goK hT 6 (K68 111010 0) ⟨24, [(0, .d (eL65 t0 a0)), (1, .i a1), (5, .own 0 9 0 y1_r0.length), (6, .i (IntKind.wrap .i64 (x1_6 + 1)))], [eR65 y1_r0]⟩ ?_
            refine cutK [0] ⟨24, [(0, .d (eL65 t0 a0)), (1, .i a1), (5, .own 0 9 0 y1_r0.length), (6, .i (IntKind.wrap .i64 (x1_6 + 1)))], [eR65 y1_r0]⟩ h0 ?_
            exact ih (IntKind.wrap .i64 (x1_6 + 1)) y1_r0 H
          rw [decide_eq_true c1]
          refine goK hT 2 (K68 1110100 1) ⟨24, [(0, .d (eL65 t0 a0)), (1, .i a1), (5, .own 0 9 0 x1_r0.length), (6, .i x1_6)], [eR65 x1_r0]⟩ ?_
          refine goK hT 8 (K68 1110100100 1) ⟨24, [(0, .d (eL65 t0 a0)), (1, .i a1), (5, .own 0 9 0 x1_r0.length), (6, .i x1_6), (15, .b (x1_6 != a1))], [eR65 x1_r0]⟩ ?_
          by_cases c2 : x1_6 = a1
          · replace H := sT c2 H
            rw [neF c2]
            refine goK hT 3 (K68 11101001 1) ⟨24, [(0, .d (eL65 t0 a0)), (1, .i a1), (5, .own 0 9 0 x1_r0.length), (6, .i x1_6)], [eR65 x1_r0]⟩ ?_
            refine cutK [0] ⟨24, [(0, .d (eL65 t0 a0)), (1, .i a1), (5, .own 0 9 0 x1_r0.length), (6, .i x1_6)], [eR65 x1_r0]⟩ h0 ?_
            exact Jj1 x1_r0 H
          · replace H := sF c2 H
            rw [neT c2]
            refine goK hT 5 (K68 111010010010 3) ⟨24, [(0, .d (eL65 t0 a0)), (1, .i a1), (6, .i x1_6), (16, .own 0 9 0 x1_r0.length), (17, .d (eL65 t0 a0)), (18, .i x1_6)], [eR65 x1_r0]⟩ ?_
            obtain ⟨h3, H⟩ := sC H
            refine ak_idx hT [0, 1, 6, 16, 19] (i := x1_6) (n := (a0.length : Int)) h3.1 h3.2 (k' := (K68 111010010010 4)) (st' := ⟨24, [(0, .d (eL65 t0 a0)), (1, .i a1), (6, .i x1_6), (16, .own 0 9 0 x1_r0.length), (19, .d (eP65 t0 a0 x1_6.toNat 0))], [eR65 x1_r0]⟩) (by kernel_rfl) ?_
            refine goK hT 2 (K68 111010010010 6) ⟨24, [(0, .d (eL65 t0 a0)), (1, .i a1), (6, .i x1_6), (16, .own 0 9 0 x1_r0.length), (21, .own 1 9 0 1)], [eR65 x1_r0, .flat false 9 65 1 (fun j => [spliceref06_Held.e (a0.getD x1_6.toNat spliceref06_Held.z)].getD j [])]⟩ ?_
            obtain ⟨h4, H⟩ := sC H
            refine ak_append1 (id := 0) (kk := 9) (by' := 88) (t := 57) (e := 65) (z := [.int .i64 0, .int .i64 0, .int .i64 0, .slice none 0 0, .int .i64 0, .int .i64 0, .int .i64 0, .int .i64 0, .bool false]) (dst := some 22) (id2 := 1) (e2 := 65) (fz := false) (k' := (K68 111010010010 7)) hT spliceref06_Held.e spliceref06_Held.z x1_r0 (a0.getD x1_6.toNat spliceref06_Held.z) [0, 1, 6, 22] (by kernel_rfl) (by kernel_rfl) (by kernel_rfl) (by kernel_rfl) (by kernel_rfl) (by kernel_rfl) (by kernel_rfl) h4 (by omega) (st' := ⟨24, [(0, .d (eL65 t0 a0)), (1, .i a1), (6, .i x1_6), (22, .own 2 9 0 ((x1_r0 ++ [a0.getD x1_6.toNat spliceref06_Held.z]).length))], [.gone, .flat false 9 65 1 (fun j => [spliceref06_Held.e (a0.getD x1_6.toNat spliceref06_Held.z)].getD j []), eR65 (x1_r0 ++ [a0.getD x1_6.toNat spliceref06_Held.z])]⟩) (by kernel_rfl) ?_
            refine goK hT 3 (K68 11101001 1) ⟨24, [(0, .d (eL65 t0 a0)), (1, .i a1), (5, .own 2 9 0 ((x1_r0 ++ [a0.getD x1_6.toNat spliceref06_Held.z]).length)), (6, .i x1_6)], [.gone, .flat false 9 65 1 (fun j => [spliceref06_Held.e (a0.getD x1_6.toNat spliceref06_Held.z)].getD j []), eR65 (x1_r0 ++ [a0.getD x1_6.toNat spliceref06_Held.z])]⟩ ?_
            refine cutK [2] ⟨24, [(0, .d (eL65 t0 a0)), (1, .i a1), (5, .own 0 9 0 (x1_r0 ++ [a0.getD x1_6.toNat spliceref06_Held.z]).length), (6, .i x1_6)], [eR65 (x1_r0 ++ [a0.getD x1_6.toNat spliceref06_Held.z])]⟩ h0 ?_
            exact Jj1 (x1_r0 ++ [a0.getD x1_6.toNat spliceref06_Held.z]) H
        · replace H := sF c1 H
          rw [decide_eq_false c1]
          refine goK hT 7 (K68 1111 1) ⟨24, [(4, .own 0 9 0 x1_r0.length)], [eR65 x1_r0]⟩ ?_
          obtain rfl := retC H
          exact ak_ret hf hX (av := .own 0 9 0 x1_r0.length) (by kernel_rfl) [0] (sel_of_eq (by kernel_rfl)) (by decide) (by rw [h0]; rfl) (by kernel_rfl) (fun _ h => all_cons (nr_vec spliceref06_Held.nl) (fun _ h => all_nil h) h) (.own _ _ _ _)
  refine cutK [0] ⟨24, [(0, .d (eL65 t0 a0)), (1, .i a1), (5, .own 0 9 0 ([] : List spliceref06_Held).length), (6, .i 0)], [eR65 ([] : List spliceref06_Held)]⟩ h0 ?_
  obtain ⟨n, H⟩ := loopC H
  exact (L n) 0 ([] : List spliceref06_Held) H


theorem spliceref06_Final.says (a0 : List spliceref06_Held) (a1 : Int) (a2 : Int) (a3 : Int) {r : (List spliceref06_Held) × Int} (H : spliceref06_Final a0 a1 a2 a3 = some r) : Says Try.prog 49 [] [.d (eL65 true a0), .i a1, .i a2, .i a3] [] (.tup [.d (eL65 true r.1), .i r.2]) := by
  refine says_of Try.func49 rfl (nt := 43) rfl (Nat.le_of_ble_eq_true rfl) fun X hP h0 hX => ?_
  have hT : TabOk X.P T := hP ▸ tok
  have hf : X.P.funcs[49]? = some Try.f49 := hP ▸ Try.func49
  refine goK hT 10 (K49 110 3) ⟨43, [(0, .d (eL65 true a0)), (3, .i a3), (12, .d (eL65 true a0)), (13, .i a1), (14, .i a2)], []⟩ ?_
  obtain ⟨v1, h1, H⟩ := ibC H
  refine ak_callP (avs := [.d (eL65 true a0), .i a1, .i a2]) (dst := some 15) (k' := (K49 110 4)) [0, 3, 15] [] hP enters_66 (spliceref06_find.says (t0 := true) a0 a1 a2 h1) (by kernel_rfl) (hands_none _) (.cons (pass_d _) (.cons (pass_d _) (.cons (pass_d _) .nil))) (st' := ⟨43, [(0, .d (eL65 true a0)), (3, .i a3), (15, .i v1)], []⟩) (by kernel_rfl) ?_
  refine goK hT 8 (K49 1110 1) ⟨43, [(0, .d (eL65 true a0)), (3, .i a3), (10, .i v1), (17, .b (decide (v1 < 0)))], []⟩ ?_
  by_cases c2 : v1 < 0
  · replace H := iT c2 H
    rw [decide_eq_true c2]
    refine goK hT 7 (K49 111010 1) ⟨43, [(8, .d (eL65 true a0)), (9, .i 4)], []⟩ ?_
    obtain rfl := retC H
    exact ak_ret hf hX (av := .tup [.d (eL65 true a0), .i 4]) (by kernel_rfl) [] (sel_of_eq (by kernel_rfl)) (by decide) (by rw [h0]; rfl) (by kernel_rfl) (fun _ h => all_nil h) (.tup (.cons (.d (.sl fun _ _ => spliceref06_Held.nl _)) (.cons (.d (.v _)) .nil)))
  · replace H := iF c2 H
    rw [decide_eq_false c2]
    refine goK hT 2 (K49 111 1) ⟨43, [(0, .d (eL65 true a0)), (3, .i a3), (10, .i v1)], []⟩ ?_
    refine goK hT 4 (K49 11110 2) ⟨43, [(0, .d (eL65 true a0)), (3, .i a3), (10, .i v1), (19, .d (eL65 true a0)), (20, .i v1)], []⟩ ?_
    obtain ⟨h3, H⟩ := iC H
    refine ak_idx hT [0, 3, 10, 21] (i := v1) (n := (a0.length : Int)) h3.1 h3.2 (k' := (K49 11110 3)) (st' := ⟨43, [(0, .d (eL65 true a0)), (3, .i a3), (10, .i v1), (21, .d (eP65 true a0 v1.toNat 0))], []⟩) (by kernel_rfl) ?_
    refine goK hT 10 (K49 111110 1) ⟨43, [(0, .d (eL65 true a0)), (3, .i a3), (10, .i v1), (11, .ptr 0 0 0 0), (24, .b ((a0.getD v1.toNat spliceref06_Held.z).Final))], [.box 65 (eC65 (a0.getD v1.toNat spliceref06_Held.z))]⟩ ?_
    by_cases c4 : ((a0.getD v1.toNat spliceref06_Held.z).Final) = true
    · replace H := iT c4 H
      rw [c4]
      refine goK hT 7 (K49 11111010 1) ⟨43, [(8, .d (eL65 true a0)), (9, .i 7)], [.box 65 (eC65 (a0.getD v1.toNat spliceref06_Held.z))]⟩ ?_
      obtain rfl := retC H
      exact ak_ret hf hX (av := .tup [.d (eL65 true a0), .i 7]) (by kernel_rfl) [] (sel_of_eq (by kernel_rfl)) (by decide) (by rw [h0]; rfl) (by kernel_rfl) (fun _ h => all_nil h) (.tup (.cons (.d (.sl fun _ _ => spliceref06_Held.nl _)) (.cons (.d (.v _)) .nil)))
    · replace H := iF c4 H
      have Jj1 : ∀ (y1_33 : Bool), (spliceref06_Final.j1 a0 a3 v1 y1_33) = some r → AK X 49 ((K49 1111110 1)) (Back X [] (.tup [.d (eL65 true r.1), .i r.2])) ⟨43, [(0, .d (eL65 true a0)), (3, .i a3), (10, .i v1), (11, .ptr 0 0 0 0), (33, .b y1_33)], [.box 65 (eC65 (a0.getD v1.toNat spliceref06_Held.z))]⟩ := by
        intro y1_33 H
        by_cases c6 : y1_33 = true
        · replace H := iT c6 H
          rw [c6]
          refine goK hT 7 (K49 111111010 1) ⟨43, [(8, .d (eL65 true a0)), (9, .i 1)], [.box 65 (eC65 (a0.getD v1.toNat spliceref06_Held.z))]⟩ ?_
          obtain rfl := retC H
          exact ak_ret hf hX (av := .tup [.d (eL65 true a0), .i 1]) (by kernel_rfl) [] (sel_of_eq (by kernel_rfl)) (by decide) (by rw [h0]; rfl) (by kernel_rfl) (fun _ h => all_nil h) (.tup (.cons (.d (.sl fun _ _ => spliceref06_Held.nl _)) (.cons (.d (.v _)) .nil)))
        · replace H := iF c6 H
          rw [boF c6]
          refine goK hT 2 (K49 111111 1) ⟨43, [(0, .d (eL65 true a0)), (3, .i a3), (10, .i v1), (11, .ptr 0 0 0 0)], [.box 65 (eC65 (a0.getD v1.toNat spliceref06_Held.z))]⟩ ?_
          refine goK hT 12 (K49 111111111 0) ⟨43, [(0, .d (eL65 true a0)), (10, .i v1), (11, .ptr 0 0 0 0)], [.box 65 [.i (((a0.getD v1.toNat spliceref06_Held.z).M).Client), .i (((a0.getD v1.toNat spliceref06_Held.z).M).Seq), .i (((a0.getD v1.toNat spliceref06_Held.z).M).Kind), .d (eL131 true (((a0.getD v1.toNat spliceref06_Held.z).M).Pairs)), .i ((((a0.getD v1.toNat spliceref06_Held.z).M).Over).Lo), .i ((((a0.getD v1.toNat spliceref06_Held.z).M).Over).Hi), .i (((a0.getD v1.toNat spliceref06_Held.z).M).Old), .i a3, .b true]]⟩ ?_
          obtain ⟨v2, h7, H⟩ := ibC H
          refine ak_drawAtE (nt := 43) (hP ▸ mixed) 4 [2] [0, 10, 11] [(0, .d (eL65 true a0)), (10, .i v1), (11, .ptr 0 0 0 0)] [some (.d (eL65 true a0)), some (.i v1), some (.own 1 9 0 v2.length), some (.d (.agg [.i (((a0.getD v1.toNat spliceref06_Held.z).M).Client), .i (((a0.getD v1.toNat spliceref06_Held.z).M).Seq), .i (((a0.getD v1.toNat spliceref06_Held.z).M).Kind), eL131 true (((a0.getD v1.toNat spliceref06_Held.z).M).Pairs), .i ((((a0.getD v1.toNat spliceref06_Held.z).M).Over).Lo), .i ((((a0.getD v1.toNat spliceref06_Held.z).M).Over).Hi), .i (((a0.getD v1.toNat spliceref06_Held.z).M).Old), .i a3, .b true]))] [[.box 65 [.i (((a0.getD v1.toNat spliceref06_Held.z).M).Client), .i (((a0.getD v1.toNat spliceref06_Held.z).M).Seq), .i (((a0.getD v1.toNat spliceref06_Held.z).M).Kind), .d (eL131 true (((a0.getD v1.toNat spliceref06_Held.z).M).Pairs)), .i ((((a0.getD v1.toNat spliceref06_Held.z).M).Over).Lo), .i ((((a0.getD v1.toNat spliceref06_Held.z).M).Over).Hi), .i (((a0.getD v1.toNat spliceref06_Held.z).M).Old), .i a3, .b true]], [.box 65 [.i (((a0.getD v1.toNat spliceref06_Held.z).M).Client), .i (((a0.getD v1.toNat spliceref06_Held.z).M).Seq), .i (((a0.getD v1.toNat spliceref06_Held.z).M).Kind), .d (eL131 true (((a0.getD v1.toNat spliceref06_Held.z).M).Pairs)), .i ((((a0.getD v1.toNat spliceref06_Held.z).M).Over).Lo), .i ((((a0.getD v1.toNat spliceref06_Held.z).M).Over).Hi), .i (((a0.getD v1.toNat spliceref06_Held.z).M).Old), .i a3, .b true], eR65 v2]] (by kernel_rfl) (by kernel_rfl) (by kernel_rfl) (by kernel_rfl) ⟨(opGE (opXE (opGE (opGE opE0 hT) hT)) hT), (fun R rest h => ak_callDE (avs := [.d (eL65 true a0), .i v1]) (dst := some 40) hP enters_68 (spliceref06_without.says (t0 := true) a0 v1 h7) (by kernel_rfl) (.cons (pass_d _) (.cons (pass_d _) .nil)) (by kernel_rfl) h), (opGE (opXE (opGE (opGE opE0 hT) hT)) hT)⟩ ?_
          refine goK hT 0 (K49 1111111110 4) ⟨43, [(40, .own 1 9 0 v2.length), (41, .d (.agg [.i (((a0.getD v1.toNat spliceref06_Held.z).M).Client), .i (((a0.getD v1.toNat spliceref06_Held.z).M).Seq), .i (((a0.getD v1.toNat spliceref06_Held.z).M).Kind), eL131 true (((a0.getD v1.toNat spliceref06_Held.z).M).Pairs), .i ((((a0.getD v1.toNat spliceref06_Held.z).M).Over).Lo), .i ((((a0.getD v1.toNat spliceref06_Held.z).M).Over).Hi), .i (((a0.getD v1.toNat spliceref06_Held.z).M).Old), .i a3, .b true]))], [.box 65 [.i (((a0.getD v1.toNat spliceref06_Held.z).M).Client), .i (((a0.getD v1.toNat spliceref06_Held.z).M).Seq), .i (((a0.getD v1.toNat spliceref06_Held.z).M).Kind), .d (eL131 true (((a0.getD v1.toNat spliceref06_Held.z).M).Pairs)), .i ((((a0.getD v1.toNat spliceref06_Held.z).M).Over).Lo), .i ((((a0.getD v1.toNat spliceref06_Held.z).M).Over).Hi), .i (((a0.getD v1.toNat spliceref06_Held.z).M).Old), .i a3, .b true], eR65 v2]⟩ ?_
          obtain ⟨v3, h8, H⟩ := ibC H
          refine ak_callP (avs := [.own 1 9 0 v2.length, .d (.agg [.i (((a0.getD v1.toNat spliceref06_Held.z).M).Client), .i (((a0.getD v1.toNat spliceref06_Held.z).M).Seq), .i (((a0.getD v1.toNat spliceref06_Held.z).M).Kind), eL131 true (((a0.getD v1.toNat spliceref06_Held.z).M).Pairs), .i ((((a0.getD v1.toNat spliceref06_Held.z).M).Over).Lo), .i ((((a0.getD v1.toNat spliceref06_Held.z).M).Over).Hi), .i (((a0.getD v1.toNat spliceref06_Held.z).M).Old), .i a3, .b true])]) (dst := some 42) (k' := (K49 1111111110 5)) [42] [] hP enters_67 (spliceref06_with.says (t0 := false) v2 (⟨((a0.getD v1.toNat spliceref06_Held.z).M), a3, true⟩ : spliceref06_Held) h8) (by kernel_rfl) (hands_none _) (.cons (.lend (ty := 65) (by kernel_rfl) rfl) (.cons (pass_d _) .nil)) (st' := ⟨43, [(42, .own 2 9 0 v3.length)], [.box 65 [.i (((a0.getD v1.toNat spliceref06_Held.z).M).Client), .i (((a0.getD v1.toNat spliceref06_Held.z).M).Seq), .i (((a0.getD v1.toNat spliceref06_Held.z).M).Kind), .d (eL131 true (((a0.getD v1.toNat spliceref06_Held.z).M).Pairs)), .i ((((a0.getD v1.toNat spliceref06_Held.z).M).Over).Lo), .i ((((a0.getD v1.toNat spliceref06_Held.z).M).Over).Hi), .i (((a0.getD v1.toNat spliceref06_Held.z).M).Old), .i a3, .b true], eR65 v2, eR65 v3]⟩) (by kernel_rfl) ?_
          refine goK hT 3 (K49 111111111 1) ⟨43, [(8, .own 2 9 0 v3.length), (9, .i 0)], [.box 65 [.i (((a0.getD v1.toNat spliceref06_Held.z).M).Client), .i (((a0.getD v1.toNat spliceref06_Held.z).M).Seq), .i (((a0.getD v1.toNat spliceref06_Held.z).M).Kind), .d (eL131 true (((a0.getD v1.toNat spliceref06_Held.z).M).Pairs)), .i ((((a0.getD v1.toNat spliceref06_Held.z).M).Over).Lo), .i ((((a0.getD v1.toNat spliceref06_Held.z).M).Over).Hi), .i (((a0.getD v1.toNat spliceref06_Held.z).M).Old), .i a3, .b true], eR65 v2, eR65 v3]⟩ ?_
          refine ak_freeze 2 (kk := 9) (n := v3.length) (ty := 65) (g := vec spliceref06_Held.e spliceref06_Held.z v3) (by kernel_rfl) (st' := ⟨43, [(8, .own 2 9 0 v3.length), (9, .i 0)], [.box 65 [.i (((a0.getD v1.toNat spliceref06_Held.z).M).Client), .i (((a0.getD v1.toNat spliceref06_Held.z).M).Seq), .i (((a0.getD v1.toNat spliceref06_Held.z).M).Kind), .d (eL131 true (((a0.getD v1.toNat spliceref06_Held.z).M).Pairs)), .i ((((a0.getD v1.toNat spliceref06_Held.z).M).Over).Lo), .i ((((a0.getD v1.toNat spliceref06_Held.z).M).Over).Hi), .i (((a0.getD v1.toNat spliceref06_Held.z).M).Old), .i a3, .b true], eR65 v2, eF65 v3]⟩) (by kernel_rfl) ?_
          refine ak_sealS (av := .own 2 9 0 v3.length) (y := eL65 true v3) [8, 9] 8 (st' := ⟨43, [(8, .d (eL65 true v3)), (9, .i 0)], [.box 65 [.i (((a0.getD v1.toNat spliceref06_Held.z).M).Client), .i (((a0.getD v1.toNat spliceref06_Held.z).M).Seq), .i (((a0.getD v1.toNat spliceref06_Held.z).M).Kind), .d (eL131 true (((a0.getD v1.toNat spliceref06_Held.z).M).Pairs)), .i ((((a0.getD v1.toNat spliceref06_Held.z).M).Over).Lo), .i ((((a0.getD v1.toNat spliceref06_Held.z).M).Over).Hi), .i (((a0.getD v1.toNat spliceref06_Held.z).M).Old), .i a3, .b true], eR65 v2, eF65 v3]⟩) (by kernel_rfl) (.own (ty := 65) (k := 9) (by kernel_rfl)) (by kernel_rfl) ?_
          obtain rfl := retC H
          exact ak_ret hf hX (av := .tup [.d (eL65 true v3), .i 0]) (by kernel_rfl) [] (sel_of_eq (by kernel_rfl)) (by decide) (by rw [h0]; rfl) (by kernel_rfl) (fun _ h => all_nil h) (.tup (.cons (.d (.sl fun _ _ => spliceref06_Held.nl _)) (.cons (.d (.v _)) .nil)))
      rw [boF c4]
      refine goK hT 2 (K49 11111 1) ⟨43, [(0, .d (eL65 true a0)), (3, .i a3), (10, .i v1), (11, .ptr 0 0 0 0)], [.box 65 (eC65 (a0.getD v1.toNat spliceref06_Held.z))]⟩ ?_
      refine goK hT 8 (K49 11111100 5) ⟨43, [(0, .d (eL65 true a0)), (3, .i a3), (10, .i v1), (11, .ptr 0 0 0 0), (30, .b (decide (a3 < ((a0.getD v1.toNat spliceref06_Held.z).Time))))], [.box 65 (eC65 (a0.getD v1.toNat spliceref06_Held.z))]⟩ ?_
      by_cases c5 : a3 < ((a0.getD v1.toNat spliceref06_Held.z).Time)
      · replace H := iT c5 H
        rw [decide_eq_true c5]
        refine goK hT 4 (K49 1111110 1) ⟨43, [(0, .d (eL65 true a0)), (3, .i a3), (10, .i v1), (11, .ptr 0 0 0 0), (33, .b true)], [.box 65 (eC65 (a0.getD v1.toNat spliceref06_Held.z))]⟩ ?_
        refine cutK [0] ⟨43, [(0, .d (eL65 true a0)), (3, .i a3), (10, .i v1), (11, .ptr 0 0 0 0), (33, .b true)], [.box 65 (eC65 (a0.getD v1.toNat spliceref06_Held.z))]⟩ h0 ?_
        exact Jj1 true H
      · replace H := iF c5 H
        rw [decide_eq_false c5]
        refine goK hT 4 (K49 1111110 1) ⟨43, [(0, .d (eL65 true a0)), (3, .i a3), (10, .i v1), (11, .ptr 0 0 0 0), (33, .b (decide (a3 > 1099511627775)))], [.box 65 (eC65 (a0.getD v1.toNat spliceref06_Held.z))]⟩ ?_
        refine cutK [0] ⟨43, [(0, .d (eL65 true a0)), (3, .i a3), (10, .i v1), (11, .ptr 0 0 0 0), (33, .b (decide (a3 > 1099511627775)))], [.box 65 (eC65 (a0.getD v1.toNat spliceref06_Held.z))]⟩ h0 ?_
        exact Jj1 (decide (a3 > 1099511627775)) H


theorem spliceref06_Drop.says (a0 : List spliceref06_Held) (a1 : Int) (a2 : Int) {r : (List spliceref06_Held) × Int} (H : spliceref06_Drop a0 a1 a2 = some r) : Says Try.prog 50 [] [.d (eL65 true a0), .i a1, .i a2] [] (.tup [.d (eL65 true r.1), .i r.2]) := by
  refine says_of Try.func50 rfl (nt := 19) rfl (Nat.le_of_ble_eq_true rfl) fun X hP h0 hX => ?_
  have hT : TabOk X.P T := hP ▸ tok
  have hf : X.P.funcs[50]? = some Try.f50 := hP ▸ Try.func50
  refine goK hT 10 (K50 110 3) ⟨19, [(0, .d (eL65 true a0)), (9, .d (eL65 true a0)), (10, .i a1), (11, .i a2)], []⟩ ?_
  obtain ⟨v1, h1, H⟩ := ibC H
  refine ak_callP (avs := [.d (eL65 true a0), .i a1, .i a2]) (dst := some 12) (k' := (K50 110 4)) [0, 12] [] hP enters_66 (spliceref06_find.says (t0 := true) a0 a1 a2 h1) (by kernel_rfl) (hands_none _) (.cons (pass_d _) (.cons (pass_d _) (.cons (pass_d _) .nil))) (st' := ⟨19, [(0, .d (eL65 true a0)), (12, .i v1)], []⟩) (by kernel_rfl) ?_
  refine goK hT 8 (K50 1110 1) ⟨19, [(0, .d (eL65 true a0)), (8, .i v1), (14, .b (decide (v1 < 0)))], []⟩ ?_
  by_cases c2 : v1 < 0
  · replace H := iT c2 H
    rw [decide_eq_true c2]
    refine goK hT 7 (K50 111010 1) ⟨19, [(6, .d (eL65 true a0)), (7, .i 4)], []⟩ ?_
    obtain rfl := retC H
    exact ak_ret hf hX (av := .tup [.d (eL65 true a0), .i 4]) (by kernel_rfl) [] (sel_of_eq (by kernel_rfl)) (by decide) (by rw [h0]; rfl) (by kernel_rfl) (fun _ h => all_nil h) (.tup (.cons (.d (.sl fun _ _ => spliceref06_Held.nl _)) (.cons (.d (.v _)) .nil)))
  · replace H := iF c2 H
    rw [decide_eq_false c2]
    refine goK hT 2 (K50 111 1) ⟨19, [(0, .d (eL65 true a0)), (8, .i v1)], []⟩ ?_
    refine goK hT 4 (K50 11110 2) ⟨19, [(16, .d (eL65 true a0)), (17, .i v1)], []⟩ ?_
    obtain ⟨v2, h3, H⟩ := ibC H
    refine ak_callP (avs := [.d (eL65 true a0), .i v1]) (dst := some 18) (k' := (K50 11110 3)) [18] [] hP enters_68 (spliceref06_without.says (t0 := true) a0 v1 h3) (by kernel_rfl) (hands_none _) (.cons (pass_d _) (.cons (pass_d _) .nil)) (st' := ⟨19, [(18, .own 0 9 0 v2.length)], [eR65 v2]⟩) (by kernel_rfl) ?_
    refine goK hT 3 (K50 1111 1) ⟨19, [(6, .own 0 9 0 v2.length), (7, .i 0)], [eR65 v2]⟩ ?_
    refine ak_freeze 0 (kk := 9) (n := v2.length) (ty := 65) (g := vec spliceref06_Held.e spliceref06_Held.z v2) (by kernel_rfl) (st' := ⟨19, [(6, .own 0 9 0 v2.length), (7, .i 0)], [eF65 v2]⟩) (by kernel_rfl) ?_
    refine ak_sealS (av := .own 0 9 0 v2.length) (y := eL65 true v2) [6, 7] 6 (st' := ⟨19, [(6, .d (eL65 true v2)), (7, .i 0)], [eF65 v2]⟩) (by kernel_rfl) (.own (ty := 65) (k := 9) (by kernel_rfl)) (by kernel_rfl) ?_
    obtain rfl := retC H
    exact ak_ret hf hX (av := .tup [.d (eL65 true v2), .i 0]) (by kernel_rfl) [] (sel_of_eq (by kernel_rfl)) (by decide) (by rw [h0]; rfl) (by kernel_rfl) (fun _ h => all_nil h) (.tup (.cons (.d (.sl fun _ _ => spliceref06_Held.nl _)) (.cons (.d (.v _)) .nil)))


theorem spliceref06_Pop.says (a0 : List spliceref06_Held) {r : (List spliceref06_Held) × spliceref06_Held × Bool} (H : spliceref06_Pop a0 = some r) : Says Try.prog 51 [] [.d (eL65 true a0)] [] (.tup [.d (eL65 true r.1), .d (eG65 r.2.1), .b r.2.2]) := by
  refine says_of Try.func51 rfl (nt := 22) rfl (Nat.le_of_ble_eq_true rfl) fun X hP h0 hX => ?_
  have hT : TabOk X.P T := hP ▸ tok
  have hf : X.P.funcs[51]? = some Try.f51 := hP ▸ Try.func51
  have Jj1 : ∀ (y1_14 : Bool), (spliceref06_Pop.j1 a0 y1_14) = some r → AK X 51 ((K51 110 1)) (Back X [] (.tup [.d (eL65 true r.1), .d (eG65 r.2.1), .b r.2.2])) ⟨22, [(0, .d (eL65 true a0)), (3, .ptr 0 0 0 0), (14, .b y1_14)], [.box 65 [.i 0, .i 0, .i 0, .ns, .i 0, .i 0, .i 0, .i 0, .b false]]⟩ := by
    intro y1_14 H
    by_cases c3 : y1_14 = true
    · replace H := iT c3 H
      rw [c3]
      refine goK hT 6 (K51 110100 3) ⟨22, [(2, .d (eL65 true a0)), (3, .ptr 0 0 0 0), (16, .d (.agg [.i 0, .i 0, .i 0, .ns, .i 0, .i 0, .i 0, .i 0, .b false]))], [.box 65 [.i 0, .i 0, .i 0, .ns, .i 0, .i 0, .i 0, .i 0, .b false]]⟩ ?_
      refine ak_sealS (av := .d (.agg [.i 0, .i 0, .i 0, .ns, .i 0, .i 0, .i 0, .i 0, .b false])) (y := .agg [.i 0, .i 0, .i 0, eL131 true ([] : List spliceref04_Pair), .i 0, .i 0, .i 0, .i 0, .b false]) [2, 3, 16] 16 (st' := ⟨22, [(2, .d (eL65 true a0)), (3, .ptr 0 0 0 0), (16, .d (.agg [.i 0, .i 0, .i 0, eL131 true ([] : List spliceref04_Pair), .i 0, .i 0, .i 0, .i 0, .b false]))], [.box 65 [.i 0, .i 0, .i 0, .ns, .i 0, .i 0, .i 0, .i 0, .b false]]⟩) (by kernel_rfl) (.aggd (.cons (.d _) (.cons (.d _) (.cons (.d _) (.cons (.nil _) (.cons (.d _) (.cons (.d _) (.cons (.d _) (.cons (.d _) (.cons (.d _) .nil)))))))))) (by kernel_rfl) ?_
      refine goK hT 3 (K51 11010 1) ⟨22, [(2, .d (eL65 true a0)), (3, .ptr 0 0 0 0), (4, .b false)], [.box 65 [.i 0, .i 0, .i 0, .d (eL131 true ([] : List spliceref04_Pair)), .i 0, .i 0, .i 0, .i 0, .b false]]⟩ ?_
      obtain rfl := retC H
      exact ak_retM hT hf hX (av := .tup [.d (eL65 true a0), .d (.agg [.i 0, .i 0, .i 0, eL131 true ([] : List spliceref04_Pair), .i 0, .i 0, .i 0, .i 0, .b false]), .b false]) (by kernel_rfl) [] (sel_of_eq (by kernel_rfl)) (by decide) (by rw [h0]; rfl) (by kernel_rfl) (fun _ h => all_nil h) (.tup (.cons (.d (.sl fun _ _ => spliceref06_Held.nl _)) (.cons (.d (.agg (spliceref06_Held.nl _))) (.cons (.d (.v _)) .nil))))
    · replace H := iF c3 H
      rw [boF c3]
      refine goK hT 2 (K51 11 1) ⟨22, [(0, .d (eL65 true a0)), (3, .ptr 0 0 0 0)], [.box 65 [.i 0, .i 0, .i 0, .ns, .i 0, .i 0, .i 0, .i 0, .b false]]⟩ ?_
      refine goK hT 1 (K51 111 0) ⟨22, [(0, .d (eL65 true a0)), (3, .ptr 0 0 0 0)], [.box 65 [.i 0, .i 0, .i 0, .ns, .i 0, .i 0, .i 0, .i 0, .b false]]⟩ ?_
      obtain ⟨v1, h4, H⟩ := ibC H
      obtain ⟨h5, H⟩ := iC H
      refine ak_drawAtE (nt := 22) (hP ▸ mixed) 6 [1] [0, 3] [(0, .d (eL65 true a0)), (3, .ptr 0 0 0 0)] [some (.d (eL65 true a0)), some (.own 1 9 0 v1.length), some (.d (eL65 true a0)), some (.d (eP65 true a0 0 0)), some (.d (eG65 (a0.getD 0 spliceref06_Held.z))), some (.own 1 9 0 v1.length)] [[.box 65 [.i 0, .i 0, .i 0, .ns, .i 0, .i 0, .i 0, .i 0, .b false]], [.box 65 [.i 0, .i 0, .i 0, .ns, .i 0, .i 0, .i 0, .i 0, .b false], eR65 v1]] (by kernel_rfl) (by kernel_rfl) (by kernel_rfl) (by kernel_rfl) ⟨(opGE (opGE (opES (opGE (opXE (opGE opE0 hT)) hT) (fun R rest h => ak_idx0 hT (i := 0) (n := (a0.length : Int)) h5.1 h5.2 (by kernel_rfl) h)) hT) hT), (fun R rest h => ak_callDE (avs := [.d (eL65 true a0), .i 0]) (dst := some 18) hP enters_68 (spliceref06_without.says (t0 := true) a0 0 h4) (by kernel_rfl) (.cons (pass_d _) (.cons (pass_d _) .nil)) (by kernel_rfl) h), (opGE (opGE (opES (opGE (opXE (opGE opE0 hT)) hT) (fun R rest h => ak_idx0 hT (i := 0) (n := (a0.length : Int)) h5.1 h5.2 (by kernel_rfl) h)) hT) hT)⟩ ?_
      refine goK hT 3 (K51 111 1) ⟨22, [(2, .own 1 9 0 v1.length), (3, .ptr 0 0 0 0), (4, .b true)], [.box 65 (eC65 (a0.getD 0 spliceref06_Held.z)), eR65 v1]⟩ ?_
      refine ak_freeze 1 (kk := 9) (n := v1.length) (ty := 65) (g := vec spliceref06_Held.e spliceref06_Held.z v1) (by kernel_rfl) (st' := ⟨22, [(2, .own 1 9 0 v1.length), (3, .ptr 0 0 0 0), (4, .b true)], [.box 65 (eC65 (a0.getD 0 spliceref06_Held.z)), eF65 v1]⟩) (by kernel_rfl) ?_
      refine ak_sealS (av := .own 1 9 0 v1.length) (y := eL65 true v1) [2, 3, 4] 2 (st' := ⟨22, [(2, .d (eL65 true v1)), (3, .ptr 0 0 0 0), (4, .b true)], [.box 65 (eC65 (a0.getD 0 spliceref06_Held.z)), eF65 v1]⟩) (by kernel_rfl) (.own (ty := 65) (k := 9) (by kernel_rfl)) (by kernel_rfl) ?_
      obtain rfl := retC H
      exact ak_retM hT hf hX (av := .tup [.d (eL65 true v1), .d (eG65 (a0.getD 0 spliceref06_Held.z)), .b true]) (by kernel_rfl) [] (sel_of_eq (by kernel_rfl)) (by decide) (by rw [h0]; rfl) (by kernel_rfl) (fun _ h => all_nil h) (.tup (.cons (.d (.sl fun _ _ => spliceref06_Held.nl _)) (.cons (.d (.agg (spliceref06_Held.nl _))) (.cons (.d (.v _)) .nil))))
  refine goK hT 13 (K51 1100 4) ⟨22, [(0, .d (eL65 true a0)), (3, .ptr 0 0 0 0), (8, .b ((a0.length : Int) == 0))], [.box 65 [.i 0, .i 0, .i 0, .ns, .i 0, .i 0, .i 0, .i 0, .b false]]⟩ ?_
  by_cases c1 : (a0.length : Int) = 0
  · replace H := iT c1 H
    rw [eqT c1]
    refine goK hT 7 (K51 110 1) ⟨22, [(0, .d (eL65 true a0)), (3, .ptr 0 0 0 0), (14, .b true)], [.box 65 [.i 0, .i 0, .i 0, .ns, .i 0, .i 0, .i 0, .i 0, .b false]]⟩ ?_
    refine cutK [0] ⟨22, [(0, .d (eL65 true a0)), (3, .ptr 0 0 0 0), (14, .b true)], [.box 65 [.i 0, .i 0, .i 0, .ns, .i 0, .i 0, .i 0, .i 0, .b false]]⟩ h0 ?_
    exact Jj1 true H
  · replace H := iF c1 H
    rw [eqF c1]
    refine goK hT 1 (K51 1100 5) ⟨22, [(0, .d (eL65 true a0)), (3, .ptr 0 0 0 0), (8, .b false), (9, .d (eL65 true a0))], [.box 65 [.i 0, .i 0, .i 0, .ns, .i 0, .i 0, .i 0, .i 0, .b false]]⟩ ?_
    obtain ⟨h2, H⟩ := iC H
    refine ak_idx hT [0, 3, 8, 10] (i := 0) (n := (a0.length : Int)) h2.1 h2.2 (k' := (K51 1100 6)) (st' := ⟨22, [(0, .d (eL65 true a0)), (3, .ptr 0 0 0 0), (8, .b false), (10, .d (eP65 true a0 0 0))], [.box 65 [.i 0, .i 0, .i 0, .ns, .i 0, .i 0, .i 0, .i 0, .b false]]⟩) (by kernel_rfl) ?_
    refine goK hT 5 (K51 110 1) ⟨22, [(0, .d (eL65 true a0)), (3, .ptr 0 0 0 0), (14, .b (!((a0.getD 0 spliceref06_Held.z).Final)))], [.box 65 [.i 0, .i 0, .i 0, .ns, .i 0, .i 0, .i 0, .i 0, .b false]]⟩ ?_
    refine cutK [0] ⟨22, [(0, .d (eL65 true a0)), (3, .ptr 0 0 0 0), (14, .b (!((a0.getD 0 spliceref06_Held.z).Final)))], [.box 65 [.i 0, .i 0, .i 0, .ns, .i 0, .i 0, .i 0, .i 0, .b false]]⟩ h0 ?_
    exact Jj1 (!((a0.getD 0 spliceref06_Held.z).Final)) H


theorem spliceref06_Find.says {t0 : Bool} (a0 : List spliceref06_Held) (a1 : Int) (a2 : Int) {r : spliceref06_Held × Bool} (H : spliceref06_Find a0 a1 a2 = some r) : Says Try.prog 52 [] [.d (eL65 t0 a0), .i a1, .i a2] [] (.tup [.d (eG65 r.1), .b r.2]) := by
  refine says_of Try.func52 rfl (nt := 20) rfl (Nat.le_of_ble_eq_true rfl) fun X hP h0 hX => ?_
  have hT : TabOk X.P T := hP ▸ tok
  have hf : X.P.funcs[52]? = some Try.f52 := hP ▸ Try.func52
  refine goK hT 10 (K52 110 3) ⟨20, [(0, .d (eL65 t0 a0)), (6, .ptr 0 0 0 0), (9, .d (eL65 t0 a0)), (10, .i a1), (11, .i a2)], [.box 65 [.i 0, .i 0, .i 0, .ns, .i 0, .i 0, .i 0, .i 0, .b false]]⟩ ?_
  obtain ⟨v1, h1, H⟩ := ibC H
  refine ak_callP (avs := [.d (eL65 t0 a0), .i a1, .i a2]) (dst := some 12) (k' := (K52 110 4)) [0, 6, 12] [] hP enters_66 (spliceref06_find.says (t0 := t0) a0 a1 a2 h1) (by kernel_rfl) (hands_none _) (.cons (pass_d _) (.cons (pass_d _) (.cons (pass_d _) .nil))) (st' := ⟨20, [(0, .d (eL65 t0 a0)), (6, .ptr 0 0 0 0), (12, .i v1)], [.box 65 [.i 0, .i 0, .i 0, .ns, .i 0, .i 0, .i 0, .i 0, .b false]]⟩) (by kernel_rfl) ?_
  refine goK hT 8 (K52 1110 1) ⟨20, [(0, .d (eL65 t0 a0)), (6, .ptr 0 0 0 0), (8, .i v1), (14, .b (decide (v1 < 0)))], [.box 65 [.i 0, .i 0, .i 0, .ns, .i 0, .i 0, .i 0, .i 0, .b false]]⟩ ?_
  by_cases c2 : v1 < 0
  · replace H := iT c2 H
    rw [decide_eq_true c2]
    refine goK hT 4 (K52 1110100 1) ⟨20, [(6, .ptr 0 0 0 0), (15, .d (.agg [.i 0, .i 0, .i 0, .ns, .i 0, .i 0, .i 0, .i 0, .b false]))], [.box 65 [.i 0, .i 0, .i 0, .ns, .i 0, .i 0, .i 0, .i 0, .b false]]⟩ ?_
    refine ak_sealS (av := .d (.agg [.i 0, .i 0, .i 0, .ns, .i 0, .i 0, .i 0, .i 0, .b false])) (y := .agg [.i 0, .i 0, .i 0, eL131 true ([] : List spliceref04_Pair), .i 0, .i 0, .i 0, .i 0, .b false]) [6, 15] 15 (st' := ⟨20, [(6, .ptr 0 0 0 0), (15, .d (.agg [.i 0, .i 0, .i 0, eL131 true ([] : List spliceref04_Pair), .i 0, .i 0, .i 0, .i 0, .b false]))], [.box 65 [.i 0, .i 0, .i 0, .ns, .i 0, .i 0, .i 0, .i 0, .b false]]⟩) (by kernel_rfl) (.aggd (.cons (.d _) (.cons (.d _) (.cons (.d _) (.cons (.nil _) (.cons (.d _) (.cons (.d _) (.cons (.d _) (.cons (.d _) (.cons (.d _) .nil)))))))))) (by kernel_rfl) ?_
    refine goK hT 3 (K52 111010 1) ⟨20, [(6, .ptr 0 0 0 0), (7, .b false)], [.box 65 [.i 0, .i 0, .i 0, .d (eL131 true ([] : List spliceref04_Pair)), .i 0, .i 0, .i 0, .i 0, .b false]]⟩ ?_
    obtain rfl := retC H
    exact ak_retM hT hf hX (av := .tup [.d (.agg [.i 0, .i 0, .i 0, eL131 true ([] : List spliceref04_Pair), .i 0, .i 0, .i 0, .i 0, .b false]), .b false]) (by kernel_rfl) [] (sel_of_eq (by kernel_rfl)) (by decide) (by rw [h0]; rfl) (by kernel_rfl) (fun _ h => all_nil h) (.tup (.cons (.d (.agg (spliceref06_Held.nl _))) (.cons (.d (.v _)) .nil)))
  · replace H := iF c2 H
    rw [decide_eq_false c2]
    refine goK hT 2 (K52 111 1) ⟨20, [(0, .d (eL65 t0 a0)), (6, .ptr 0 0 0 0), (8, .i v1)], [.box 65 [.i 0, .i 0, .i 0, .ns, .i 0, .i 0, .i 0, .i 0, .b false]]⟩ ?_
    refine goK hT 4 (K52 11110 2) ⟨20, [(6, .ptr 0 0 0 0), (16, .d (eL65 t0 a0)), (17, .i v1)], [.box 65 [.i 0, .i 0, .i 0, .ns, .i 0, .i 0, .i 0, .i 0, .b false]]⟩ ?_
    obtain ⟨h3, H⟩ := iC H
    refine ak_idx hT [6, 18] (i := v1) (n := (a0.length : Int)) h3.1 h3.2 (k' := (K52 11110 3)) (st' := ⟨20, [(6, .ptr 0 0 0 0), (18, .d (eP65 t0 a0 v1.toNat 0))], [.box 65 [.i 0, .i 0, .i 0, .ns, .i 0, .i 0, .i 0, .i 0, .b false]]⟩) (by kernel_rfl) ?_
    refine goK hT 4 (K52 1111 1) ⟨20, [(6, .ptr 0 0 0 0), (7, .b true)], [.box 65 (eC65 (a0.getD v1.toNat spliceref06_Held.z))]⟩ ?_
    obtain rfl := retC H
    exact ak_retM hT hf hX (av := .tup [.d (eG65 (a0.getD v1.toNat spliceref06_Held.z)), .b true]) (by kernel_rfl) [] (sel_of_eq (by kernel_rfl)) (by decide) (by rw [h0]; rfl) (by kernel_rfl) (fun _ h => all_nil h) (.tup (.cons (.d (.agg (spliceref06_Held.nl _))) (.cons (.d (.v _)) .nil)))


theorem splicelaw06_does.says (a0 : QL) (a1 : List spliceref06_Held) (a2 : splicelaw06_Act) {r : (List spliceref06_Held) × Bool × QL} (H : splicelaw06_does a0 a1 a2 = some r) : Says Try.prog 29 [qR a0] [.ptr 0 0 0 0, .d (eL65 true a1), .d (eG76 a2)] [qR r.2.2] (.tup [.d (eL65 true r.1), .b r.2.1]) := by
  refine says_of Try.func29 rfl (nt := 140) rfl (Nat.le_of_ble_eq_true rfl) fun X hP h0 hX => ?_
  have hT : TabOk X.P T := hP ▸ tok
  have hf : X.P.funcs[29]? = some Try.f29 := hP ▸ Try.func29
  refine goK hT 7 (K29 11 0) ⟨140, [(0, .ptr 0 0 0 0), (1, .d (eL65 true a1)), (5, .ptr 1 0 0 0)], [qR a0, .box 76 (eC76 a2)]⟩ ?_
  refine drawK (hP ▸ mixed) 9 [0, 1, 5] [some (.ptr 1 0 0 1), some (.ptr 1 0 0 1), some (.ptr 1 0 0 1), some (.i a2.H.M.Client), some (.ptr 1 0 0 1), some (.ptr 1 0 0 1), some (.ptr 1 0 0 2), some (.i a2.H.M.Seq), some (.i a2.H.M.Client)] (opG (opG (opG (opG (opG (opG (opG (opG (opG op0 hT) hT) hT) hT) hT) hT) hT) hT) hT) ?_
  refine goK hT 14 (K29 111010 1) ⟨140, [(0, .ptr 0 0 0 0), (1, .d (eL65 true a1)), (5, .ptr 1 0 0 0), (8, .i a2.H.M.Client), (9, .i a2.H.M.Seq), (34, .i a2.Kind), (35, .b (a2.Kind == 0))], [qR a0, .box 76 (eC76 a2)]⟩ ?_
  by_cases c1 : a2.Kind = 0
  · replace H := iT c1 H
    rw [eqT c1]
    refine goK hT 6 (K29 111010100 3) ⟨140, [(0, .ptr 0 0 0 0), (5, .ptr 1 0 0 0), (38, .d (eL65 true a1)), (40, .d (eG32 a2.H))], [qR a0, .box 76 (eC76 a2)]⟩ ?_
    obtain ⟨v1, h2, H⟩ := ibC H
    refine ak_callP (avs := [.d (eG32 a2.H)]) (dst := some 41) (k' := (K29 111010100 4)) [0, 5, 38, 41] [] hP enters_24 (splicelaw06_Ref.says a2.H h2) (by kernel_rfl) (hands_none _) (.cons (pass_d _) .nil) (st' := ⟨140, [(0, .ptr 0 0 0 0), (5, .ptr 1 0 0 0), (38, .d (eL65 true a1)), (41, .d (eG65 v1))], [qR a0, .box 76 (eC76 a2)]⟩) (by kernel_rfl) ?_
    obtain ⟨v2, h3, H⟩ := ibC H
    refine ak_callP (avs := [.d (eL65 true a1), .d (eG65 v1)]) (dst := some 42) (k' := (K29 111010100 5)) [0, 5, 42] [] hP enters_48 (spliceref06_Add.says a1 v1 h3) (by kernel_rfl) (hands_none _) (.cons (pass_d _) (.cons (pass_d _) .nil)) (st' := ⟨140, [(0, .ptr 0 0 0 0), (5, .ptr 1 0 0 0), (42, .tup [.d (eL65 true v2.1), .i v2.2])], [qR a0, .box 76 (eC76 a2)]⟩) (by kernel_rfl) ?_
    refine goK hT 12 (K29 1110101010 4) ⟨140, [(11, .i v2.2), (45, .d (eL65 true v2.1)), (46, .ptr 0 0 0 0), (48, .d (eG32 a2.H))], [qR a0, .box 76 (eC76 a2)]⟩ ?_
    obtain ⟨v3, h4, H⟩ := ibC H
    refine ak_callP (avs := [.ptr 0 0 0 0, .d (eG32 a2.H)]) (dst := some 49) (k' := (K29 1110101010 5)) [11, 45, 49] [0] hP enters_12 (qAdd_says a0 a2.H h4) (by kernel_rfl) (hands_one rfl rfl) (.cons (.same (.ptr 0 0 0 0)) (.cons (pass_d _) .nil)) (st' := ⟨140, [(11, .i v2.2), (45, .d (eL65 true v2.1)), (49, .i v3.1)], [qR v3.2, .box 76 (eC76 a2)]⟩) (by kernel_rfl) ?_
    refine goK hT 5 (K29 111010101 1) ⟨140, [(6, .d (eL65 true v2.1)), (7, .b (v3.1 == v2.2))], [qR v3.2, .box 76 (eC76 a2)]⟩ ?_
    obtain rfl := retC H
    exact ak_ret hf hX (av := .tup [.d (eL65 true v2.1), .b (v3.1 == v2.2)]) (by kernel_rfl) [0] (sel_of_eq (by kernel_rfl)) (by decide) (by rw [h0]; rfl) (by kernel_rfl) (fun _ h => all_cons (.obj _) (fun _ h => all_nil h) h) (.tup (.cons (.d (.sl fun _ _ => spliceref06_Held.nl _)) (.cons (.d (.v _)) .nil)))
  · replace H := iF c1 H
    rw [eqF c1]
    refine goK hT 6 (K29 11101011 1) ⟨140, [(0, .ptr 0 0 0 0), (1, .d (eL65 true a1)), (5, .ptr 1 0 0 0), (8, .i a2.H.M.Client), (9, .i a2.H.M.Seq), (34, .i a2.Kind), (52, .b (a2.Kind == 1))], [qR a0, .box 76 (eC76 a2)]⟩ ?_
    by_cases c5 : a2.Kind = 1
    · replace H := iT c5 H
      rw [eqT c5]
      refine goK hT 9 (K29 11101011100 6) ⟨140, [(0, .ptr 0 0 0 0), (5, .ptr 1 0 0 0), (8, .i a2.H.M.Client), (9, .i a2.H.M.Seq), (55, .d (eL65 true a1)), (56, .i a2.H.M.Client), (57, .i a2.H.M.Seq), (60, .i a2.H.Time)], [qR a0, .box 76 (eC76 a2)]⟩ ?_
      obtain ⟨v4, h6, H⟩ := ibC H
      refine ak_callP (avs := [.d (eL65 true a1), .i a2.H.M.Client, .i a2.H.M.Seq, .i a2.H.Time]) (dst := some 61) (k' := (K29 11101011100 7)) [0, 5, 8, 9, 61] [] hP enters_49 (spliceref06_Final.says a1 a2.H.M.Client a2.H.M.Seq a2.H.Time h6) (by kernel_rfl) (hands_none _) (.cons (pass_d _) (.cons (pass_d _) (.cons (pass_d _) (.cons (pass_d _) .nil)))) (st' := ⟨140, [(0, .ptr 0 0 0 0), (5, .ptr 1 0 0 0), (8, .i a2.H.M.Client), (9, .i a2.H.M.Seq), (61, .tup [.d (eL65 true v4.1), .i v4.2])], [qR a0, .box 76 (eC76 a2)]⟩) (by kernel_rfl) ?_
      refine goK hT 15 (K29 111010111010 7) ⟨140, [(13, .i v4.2), (64, .d (eL65 true v4.1)), (65, .ptr 0 0 0 0), (66, .i a2.H.M.Client), (67, .i a2.H.M.Seq), (70, .i a2.H.Time)], [qR a0, .box 76 (eC76 a2)]⟩ ?_
      refine ak_callP (avs := [.ptr 0 0 0 0, .i a2.H.M.Client, .i a2.H.M.Seq, .i a2.H.Time]) (dst := some 71) (k' := (K29 111010111010 8)) [13, 64, 71] [0] hP enters_13 (qFinal_says a0 a2.H.M.Client a2.H.M.Seq a2.H.Time) (by kernel_rfl) (hands_one rfl rfl) (.cons (.same (.ptr 0 0 0 0)) (.cons (pass_d _) (.cons (pass_d _) (.cons (pass_d _) .nil)))) (st' := ⟨140, [(13, .i v4.2), (64, .d (eL65 true v4.1)), (71, .i ((qFinal a0 a2.H.M.Client a2.H.M.Seq a2.H.Time).1))], [qR ((qFinal a0 a2.H.M.Client a2.H.M.Seq a2.H.Time).2), .box 76 (eC76 a2)]⟩) (by kernel_rfl) ?_
      obtain ⟨v5, h7, H⟩ := idC H
      rw [← h7]
      refine goK hT 5 (K29 11101011101 1) ⟨140, [(6, .d (eL65 true v4.1)), (7, .b (v5.1 == v4.2))], [qR v5.2, .box 76 (eC76 a2)]⟩ ?_
      obtain rfl := retC H
      exact ak_ret hf hX (av := .tup [.d (eL65 true v4.1), .b (v5.1 == v4.2)]) (by kernel_rfl) [0] (sel_of_eq (by kernel_rfl)) (by decide) (by rw [h0]; rfl) (by kernel_rfl) (fun _ h => all_cons (.obj _) (fun _ h => all_nil h) h) (.tup (.cons (.d (.sl fun _ _ => spliceref06_Held.nl _)) (.cons (.d (.v _)) .nil)))
    · replace H := iF c5 H
      rw [eqF c5]
      refine goK hT 6 (K29 1110101111 1) ⟨140, [(0, .ptr 0 0 0 0), (1, .d (eL65 true a1)), (8, .i a2.H.M.Client), (9, .i a2.H.M.Seq), (34, .i a2.Kind), (74, .b (a2.Kind == 2))], [qR a0, .box 76 (eC76 a2)]⟩ ?_
      by_cases c8 : a2.Kind = 2
      · replace H := iT c8 H
        rw [eqT c8]
        refine goK hT 6 (K29 1110101111100 3) ⟨140, [(0, .ptr 0 0 0 0), (8, .i a2.H.M.Client), (9, .i a2.H.M.Seq), (77, .d (eL65 true a1)), (78, .i a2.H.M.Client), (79, .i a2.H.M.Seq)], [qR a0, .box 76 (eC76 a2)]⟩ ?_
        obtain ⟨v6, h9, H⟩ := ibC H
        refine ak_callP (avs := [.d (eL65 true a1), .i a2.H.M.Client, .i a2.H.M.Seq]) (dst := some 80) (k' := (K29 1110101111100 4)) [0, 8, 9, 80] [] hP enters_50 (spliceref06_Drop.says a1 a2.H.M.Client a2.H.M.Seq h9) (by kernel_rfl) (hands_none _) (.cons (pass_d _) (.cons (pass_d _) (.cons (pass_d _) .nil))) (st' := ⟨140, [(0, .ptr 0 0 0 0), (8, .i a2.H.M.Client), (9, .i a2.H.M.Seq), (80, .tup [.d (eL65 true v6.1), .i v6.2])], [qR a0, .box 76 (eC76 a2)]⟩) (by kernel_rfl) ?_
        refine goK hT 12 (K29 11101011111010 4) ⟨140, [(15, .i v6.2), (83, .d (eL65 true v6.1)), (84, .ptr 0 0 0 0), (85, .i a2.H.M.Client), (86, .i a2.H.M.Seq)], [qR a0, .box 76 (eC76 a2)]⟩ ?_
        refine ak_callP (avs := [.ptr 0 0 0 0, .i a2.H.M.Client, .i a2.H.M.Seq]) (dst := some 87) (k' := (K29 11101011111010 5)) [15, 83, 87] [0] hP enters_19 (qDrop_says a0 a2.H.M.Client a2.H.M.Seq) (by kernel_rfl) (hands_one rfl rfl) (.cons (.same (.ptr 0 0 0 0)) (.cons (pass_d _) (.cons (pass_d _) .nil))) (st' := ⟨140, [(15, .i v6.2), (83, .d (eL65 true v6.1)), (87, .i ((qDrop a0 a2.H.M.Client a2.H.M.Seq).1))], [qR ((qDrop a0 a2.H.M.Client a2.H.M.Seq).2), .box 76 (eC76 a2)]⟩) (by kernel_rfl) ?_
        obtain ⟨v7, h10, H⟩ := idC H
        rw [← h10]
        refine goK hT 5 (K29 1110101111101 1) ⟨140, [(6, .d (eL65 true v6.1)), (7, .b (v7.1 == v6.2))], [qR v7.2, .box 76 (eC76 a2)]⟩ ?_
        obtain rfl := retC H
        exact ak_ret hf hX (av := .tup [.d (eL65 true v6.1), .b (v7.1 == v6.2)]) (by kernel_rfl) [0] (sel_of_eq (by kernel_rfl)) (by decide) (by rw [h0]; rfl) (by kernel_rfl) (fun _ h => all_cons (.obj _) (fun _ h => all_nil h) h) (.tup (.cons (.d (.sl fun _ _ => spliceref06_Held.nl _)) (.cons (.d (.v _)) .nil)))
      · replace H := iF c8 H
        rw [eqF c8]
        refine goK hT 6 (K29 111010111111 1) ⟨140, [(0, .ptr 0 0 0 0), (1, .d (eL65 true a1)), (8, .i a2.H.M.Client), (9, .i a2.H.M.Seq), (34, .i a2.Kind), (90, .b (a2.Kind == 3))], [qR a0, .box 76 (eC76 a2)]⟩ ?_
        by_cases c11 : a2.Kind = 3
        · replace H := iT c11 H
          rw [eqT c11]
          refine goK hT 4 (K29 111010111111100 1) ⟨140, [(0, .ptr 0 0 0 0), (93, .d (eL65 true a1))], [qR a0, .box 76 (eC76 a2)]⟩ ?_
          obtain ⟨v8, h12, H⟩ := ibC H
          refine ak_callP (avs := [.d (eL65 true a1)]) (dst := some 94) (k' := (K29 111010111111100 2)) [0, 94] [] hP enters_51 (spliceref06_Pop.says a1 h12) (by kernel_rfl) (hands_none _) (.cons (pass_d _) .nil) (st' := ⟨140, [(0, .ptr 0 0 0 0), (94, .tup [.d (eL65 true v8.1), .d (eG65 v8.2.1), .b v8.2.2])], [qR a0, .box 76 (eC76 a2)]⟩) (by kernel_rfl) ?_
          refine goK hT 12 (K29 1110101111111010 1) ⟨140, [(16, .d (eL65 true v8.1)), (17, .ptr 2 0 0 0), (18, .b v8.2.2), (99, .ptr 0 0 0 0)], [qR a0, .box 76 (eC76 a2), .box 65 (eC65 v8.2.1)]⟩ ?_
          refine ak_callP (avs := [.ptr 0 0 0 0]) (dst := some 100) (k' := (K29 1110101111111010 2)) [16, 17, 18, 100] [0] hP enters_15 (qPop_says a0) (by kernel_rfl) (hands_one rfl rfl) (.cons (.same (.ptr 0 0 0 0)) .nil) (st' := ⟨140, [(16, .d (eL65 true v8.1)), (17, .ptr 2 0 0 0), (18, .b v8.2.2), (100, .tup [.d (eG32 ((qPop a0).1)), .b ((qPop a0).2.1)])], [qR ((qPop a0).2.2), .box 76 (eC76 a2), .box 65 (eC65 v8.2.1)]⟩) (by kernel_rfl) ?_
          obtain ⟨v9, h13, H⟩ := idC H
          rw [← h13]
          refine goK hT 8 (K29 1110101111111011 0) ⟨140, [(16, .d (eL65 true v8.1)), (17, .ptr 2 0 0 0), (18, .b v8.2.2), (19, .ptr 3 0 0 0), (20, .b v9.2.1)], [qR v9.2.2, .box 76 (eC76 a2), .box 65 (eC65 v8.2.1), .box 32 (eC32 (v9.1))]⟩ ?_
          obtain ⟨v10, h14, H⟩ := ibC H
          obtain ⟨v11, h15, H⟩ := ibC H
          have Jj1 : ∀ (y1_7 : Bool), (splicelaw06_does.j1 v8 v9 y1_7) = some r → AK X 29 ((K29 1110101111111011 1)) (Back X [qR r.2.2] (.tup [.d (eL65 true r.1), .b r.2.1])) ⟨140, [(6, .d (eL65 true v8.1)), (7, .b y1_7)], [qR v9.2.2]⟩ := by
            intro y1_7 H
            obtain rfl := retC H
            exact ak_ret hf hX (av := .tup [.d (eL65 true v8.1), .b y1_7]) (by kernel_rfl) [0] (sel_of_eq (by kernel_rfl)) (by decide) (by rw [h0]; rfl) (by kernel_rfl) (fun _ h => all_cons (.obj _) (fun _ h => all_nil h) h) (.tup (.cons (.d (.sl fun _ _ => spliceref06_Held.nl _)) (.cons (.d (.v _)) .nil)))
          by_cases c16 : v11 = true
          · replace H := iT c16 H
            refine drawK (hP ▸ mixed) 11 [16, 17, 18, 19, 20] [some (.d (eL65 true v8.1)), some (.d (eG32 (v9.1))), some (.d (eG65 v10)), some (.d (eG65 v8.2.1)), some (.b true), some (.b true), some (.b v9.2.1), some (.b v8.2.2), some (.b (v9.2.1 == v8.2.2)), some (.b (v9.2.1 == v8.2.2)), some (.d (eL65 true v8.1))] (opG (opG (opG (opG (opG (opG (opS (opG (opS (opG (opG op0 hT) hT) (fun R rest h => ak_callD (avs := [.d (eG32 (v9.1))]) (dst := some 105) hP enters_24 (splicelaw06_Ref.says (v9.1) h14) (by kernel_rfl) (.cons (pass_d _) .nil) (by kernel_rfl) h)) hT) (fun R rest h => ak_callD (avs := [.d (eG65 v10), .d (eG65 v8.2.1)]) (dst := some 107) hP enters_27 (by have q := spliceref06_SameOne.says v10 v8.2.1 h15; rw [c16] at q; exact q) (by kernel_rfl) (.cons (pass_d _) (.cons (pass_d _) .nil)) (by kernel_rfl) h)) hT) hT) hT) hT) hT) hT) ?_
            refine goK hT 2 (K29 1110101111111011 1) ⟨140, [(6, .d (eL65 true v8.1)), (7, .b (v9.2.1 == v8.2.2))], [qR v9.2.2, .box 76 (eC76 a2), .box 65 (eC65 v8.2.1), .box 32 (eC32 (v9.1))]⟩ ?_
            refine cutK [0] ⟨140, [(6, .d (eL65 true v8.1)), (7, .b (v9.2.1 == v8.2.2))], [qR v9.2.2]⟩ h0 ?_
            exact Jj1 (v9.2.1 == v8.2.2) H
          · replace H := iF c16 H
            refine drawK (hP ▸ mixed) 11 [16, 17, 18, 19, 20] [some (.d (eL65 true v8.1)), some (.d (eG32 (v9.1))), some (.d (eG65 v10)), some (.d (eG65 v8.2.1)), some (.b false), some (.b false), some (.tup []), some (.tup []), some (.tup []), some (.b false), some (.d (eL65 true v8.1))] (opG (opG (opG (opG (opG (opG (opS (opG (opS (opG (opG op0 hT) hT) (fun R rest h => ak_callD (avs := [.d (eG32 (v9.1))]) (dst := some 105) hP enters_24 (splicelaw06_Ref.says (v9.1) h14) (by kernel_rfl) (.cons (pass_d _) .nil) (by kernel_rfl) h)) hT) (fun R rest h => ak_callD (avs := [.d (eG65 v10), .d (eG65 v8.2.1)]) (dst := some 107) hP enters_27 (by have q := spliceref06_SameOne.says v10 v8.2.1 h15; rw [boF c16] at q; exact q) (by kernel_rfl) (.cons (pass_d _) (.cons (pass_d _) .nil)) (by kernel_rfl) h)) hT) hT) hT) hT) hT) hT) ?_
            refine goK hT 2 (K29 1110101111111011 1) ⟨140, [(6, .d (eL65 true v8.1)), (7, .b false)], [qR v9.2.2, .box 76 (eC76 a2), .box 65 (eC65 v8.2.1), .box 32 (eC32 (v9.1))]⟩ ?_
            refine cutK [0] ⟨140, [(6, .d (eL65 true v8.1)), (7, .b false)], [qR v9.2.2]⟩ h0 ?_
            exact Jj1 false H
        · replace H := iF c11 H
          rw [eqF c11]
          refine goK hT 6 (K29 11101011111111 1) ⟨140, [(0, .ptr 0 0 0 0), (1, .d (eL65 true a1)), (8, .i a2.H.M.Client), (9, .i a2.H.M.Seq), (113, .b (a2.Kind == 4))], [qR a0, .box 76 (eC76 a2)]⟩ ?_
          by_cases c17 : a2.Kind = 4
          · replace H := iT c17 H
            rw [eqT c17]
            refine goK hT 6 (K29 11101011111111100 3) ⟨140, [(0, .ptr 0 0 0 0), (1, .d (eL65 true a1)), (8, .i a2.H.M.Client), (9, .i a2.H.M.Seq), (116, .d (eL65 true a1)), (117, .i a2.H.M.Client), (118, .i a2.H.M.Seq)], [qR a0, .box 76 (eC76 a2)]⟩ ?_
            obtain ⟨v12, h18, H⟩ := ibC H
            refine ak_callP (avs := [.d (eL65 true a1), .i a2.H.M.Client, .i a2.H.M.Seq]) (dst := some 119) (k' := (K29 11101011111111100 4)) [0, 1, 8, 9, 119] [] hP enters_52 (spliceref06_Find.says (t0 := true) a1 a2.H.M.Client a2.H.M.Seq h18) (by kernel_rfl) (hands_none _) (.cons (pass_d _) (.cons (pass_d _) (.cons (pass_d _) .nil))) (st' := ⟨140, [(0, .ptr 0 0 0 0), (1, .d (eL65 true a1)), (8, .i a2.H.M.Client), (9, .i a2.H.M.Seq), (119, .tup [.d (eG65 v12.1), .b v12.2])], [qR a0, .box 76 (eC76 a2)]⟩) (by kernel_rfl) ?_
            refine goK hT 12 (K29 111010111111111010 3) ⟨140, [(1, .d (eL65 true a1)), (21, .ptr 2 0 0 0), (22, .b v12.2), (123, .ptr 0 0 0 0), (124, .i a2.H.M.Client), (125, .i a2.H.M.Seq)], [qR a0, .box 76 (eC76 a2), .box 65 (eC65 v12.1)]⟩ ?_
            refine ak_callP (avs := [.ptr 0 0 0 0, .i a2.H.M.Client, .i a2.H.M.Seq]) (dst := some 126) (k' := (K29 111010111111111010 4)) [1, 21, 22, 126] [0] hP enters_26 (qFind_says a0 a2.H.M.Client a2.H.M.Seq) (by kernel_rfl) (hands_one rfl rfl) (.cons (.same (.ptr 0 0 0 0)) (.cons (pass_d _) (.cons (pass_d _) .nil))) (st' := ⟨140, [(1, .d (eL65 true a1)), (21, .ptr 2 0 0 0), (22, .b v12.2), (126, .tup [.d (eG32 ((qFind a0 a2.H.M.Client a2.H.M.Seq).1)), .b ((qFind a0 a2.H.M.Client a2.H.M.Seq).2)])], [qR a0, .box 76 (eC76 a2), .box 65 (eC65 v12.1)]⟩) (by kernel_rfl) ?_
            obtain ⟨v13, h19, H⟩ := idC H
            rw [← h19]
            refine goK hT 8 (K29 111010111111111011 0) ⟨140, [(1, .d (eL65 true a1)), (21, .ptr 2 0 0 0), (22, .b v12.2), (23, .ptr 3 0 0 0), (24, .b v13.2)], [qR a0, .box 76 (eC76 a2), .box 65 (eC65 v12.1), .box 32 (eC32 (v13.1))]⟩ ?_
            obtain ⟨v14, h20, H⟩ := ibC H
            obtain ⟨v15, h21, H⟩ := ibC H
            have Jj2 : ∀ (y2_7 : Bool), (splicelaw06_does.j2 a0 a1 y2_7) = some r → AK X 29 ((K29 111010111111111011 1)) (Back X [qR r.2.2] (.tup [.d (eL65 true r.1), .b r.2.1])) ⟨140, [(6, .d (eL65 true a1)), (7, .b y2_7)], [qR a0]⟩ := by
              intro y2_7 H
              obtain rfl := retC H
              exact ak_ret hf hX (av := .tup [.d (eL65 true a1), .b y2_7]) (by kernel_rfl) [0] (sel_of_eq (by kernel_rfl)) (by decide) (by rw [h0]; rfl) (by kernel_rfl) (fun _ h => all_cons (.obj _) (fun _ h => all_nil h) h) (.tup (.cons (.d (.sl fun _ _ => spliceref06_Held.nl _)) (.cons (.d (.v _)) .nil)))
            by_cases c22 : v15 = true
            · replace H := iT c22 H
              refine drawK (hP ▸ mixed) 11 [1, 21, 22, 23, 24] [some (.d (eL65 true a1)), some (.d (eG32 (v13.1))), some (.d (eG65 v14)), some (.d (eG65 v12.1)), some (.b true), some (.b true), some (.b v13.2), some (.b v12.2), some (.b (v13.2 == v12.2)), some (.b (v13.2 == v12.2)), some (.d (eL65 true a1))] (opG (opG (opG (opG (opG (opG (opS (opG (opS (opG (opG op0 hT) hT) (fun R rest h => ak_callD (avs := [.d (eG32 (v13.1))]) (dst := some 131) hP enters_24 (splicelaw06_Ref.says (v13.1) h20) (by kernel_rfl) (.cons (pass_d _) .nil) (by kernel_rfl) h)) hT) (fun R rest h => ak_callD (avs := [.d (eG65 v14), .d (eG65 v12.1)]) (dst := some 133) hP enters_27 (by have q := spliceref06_SameOne.says v14 v12.1 h21; rw [c22] at q; exact q) (by kernel_rfl) (.cons (pass_d _) (.cons (pass_d _) .nil)) (by kernel_rfl) h)) hT) hT) hT) hT) hT) hT) ?_
              refine goK hT 2 (K29 111010111111111011 1) ⟨140, [(6, .d (eL65 true a1)), (7, .b (v13.2 == v12.2))], [qR a0, .box 76 (eC76 a2), .box 65 (eC65 v12.1), .box 32 (eC32 (v13.1))]⟩ ?_
              refine cutK [0] ⟨140, [(6, .d (eL65 true a1)), (7, .b (v13.2 == v12.2))], [qR a0]⟩ h0 ?_
              exact Jj2 (v13.2 == v12.2) H
            · replace H := iF c22 H
              refine drawK (hP ▸ mixed) 11 [1, 21, 22, 23, 24] [some (.d (eL65 true a1)), some (.d (eG32 (v13.1))), some (.d (eG65 v14)), some (.d (eG65 v12.1)), some (.b false), some (.b false), some (.tup []), some (.tup []), some (.tup []), some (.b false), some (.d (eL65 true a1))] (opG (opG (opG (opG (opG (opG (opS (opG (opS (opG (opG op0 hT) hT) (fun R rest h => ak_callD (avs := [.d (eG32 (v13.1))]) (dst := some 131) hP enters_24 (splicelaw06_Ref.says (v13.1) h20) (by kernel_rfl) (.cons (pass_d _) .nil) (by kernel_rfl) h)) hT) (fun R rest h => ak_callD (avs := [.d (eG65 v14), .d (eG65 v12.1)]) (dst := some 133) hP enters_27 (by have q := spliceref06_SameOne.says v14 v12.1 h21; rw [boF c22] at q; exact q) (by kernel_rfl) (.cons (pass_d _) (.cons (pass_d _) .nil)) (by kernel_rfl) h)) hT) hT) hT) hT) hT) hT) ?_
              refine goK hT 2 (K29 111010111111111011 1) ⟨140, [(6, .d (eL65 true a1)), (7, .b false)], [qR a0, .box 76 (eC76 a2), .box 65 (eC65 v12.1), .box 32 (eC32 (v13.1))]⟩ ?_
              refine cutK [0] ⟨140, [(6, .d (eL65 true a1)), (7, .b false)], [qR a0]⟩ h0 ?_
              exact Jj2 false H
          · replace H := iF c17 H
            rw [eqF c17]
            refine goK hT 3 (K29 111 1) ⟨140, [(1, .d (eL65 true a1))], [qR a0, .box 76 (eC76 a2)]⟩ ?_
            refine goK hT 6 (K29 1111 1) ⟨140, [(6, .d (eL65 true a1)), (7, .b true)], [qR a0, .box 76 (eC76 a2)]⟩ ?_
            obtain rfl := retC H
            exact ak_ret hf hX (av := .tup [.d (eL65 true a1), .b true]) (by kernel_rfl) [0] (sel_of_eq (by kernel_rfl)) (by decide) (by rw [h0]; rfl) (by kernel_rfl) (fun _ h => all_cons (.obj _) (fun _ h => all_nil h) h) (.tup (.cons (.d (.sl fun _ _ => spliceref06_Held.nl _)) (.cons (.d (.v _)) .nil)))


theorem spliceref06_Floor.says {t0 : Bool} (a0 : List spliceref06_Held) (a1 : Int) {r : Int} (H : spliceref06_Floor a0 a1 = some r) : Says Try.prog 30 [] [.d (eL65 t0 a0), .i a1] [] (.i r) := by
  refine says_of Try.func30 rfl (nt := 14) rfl (Nat.le_of_ble_eq_true rfl) fun X hP h0 hX => ?_
  have hT : TabOk X.P T := hP ▸ tok
  have hf : X.P.funcs[30]? = some Try.f30 := hP ▸ Try.func30
  refine goK hT 11 (K30 110 1) ⟨14, [(0, .d (eL65 t0 a0)), (1, .i a1), (7, .b ((a0.length : Int) == 0))], []⟩ ?_
  by_cases c1 : (a0.length : Int) = 0
  · replace H := iT c1 H
    rw [eqT c1]
    refine goK hT 6 (K30 11010 1) ⟨14, [(4, .i a1)], []⟩ ?_
    obtain rfl := retC H
    exact ak_ret hf hX (av := .i a1) (by kernel_rfl) [] (sel_of_eq (by kernel_rfl)) (by decide) (by rw [h0]; rfl) (by kernel_rfl) (fun _ h => all_nil h) (.d (.v _))
  · replace H := iF c1 H
    rw [eqF c1]
    refine goK hT 2 (K30 11 1) ⟨14, [(0, .d (eL65 t0 a0))], []⟩ ?_
    refine goK hT 3 (K30 1110 1) ⟨14, [(9, .d (eL65 t0 a0))], []⟩ ?_
    obtain ⟨h2, H⟩ := iC H
    refine ak_idx hT [10] (i := 0) (n := (a0.length : Int)) h2.1 h2.2 (k' := (K30 1110 2)) (st' := ⟨14, [(10, .d (eP65 t0 a0 0 0))], []⟩) (by kernel_rfl) ?_
    refine goK hT 4 (K30 1110 6) ⟨14, [(4, .i (IntKind.wrap .i64 (((a0.getD 0 spliceref06_Held.z).Time) - 1)))], []⟩ ?_
    obtain ⟨v1, h3, H⟩ := idC H
    rw [← h3]
    refine goK hT 1 (K30 111 1) ⟨14, [(4, .i v1)], []⟩ ?_
    obtain rfl := retC H
    exact ak_ret hf hX (av := .i v1) (by kernel_rfl) [] (sel_of_eq (by kernel_rfl)) (by decide) (by rw [h0]; rfl) (by kernel_rfl) (fun _ h => all_nil h) (.d (.v _))


theorem splicelaw06_HoldPlays.says {t0 : Bool} (a0 : List splicelaw06_Act) (a1 : Int) {r : Bool} (H : splicelaw06_HoldPlays a0 a1 = some r) : Says Try.prog 8 [] [.d (eL76 t0 a0), .i a1] [] (.b r) := by
  refine says_of Try.func8 rfl (nt := 70) rfl (Nat.le_of_ble_eq_true rfl) fun X hP h0 hX => ?_
  have hT : TabOk X.P T := hP ▸ tok
  have hf : X.P.funcs[8]? = some Try.f8 := hP ▸ Try.func8
  refine goK hT 6 (K8 110 0) ⟨70, [(0, .d (eL76 t0 a0)), (1, .i a1)], []⟩ ?_
  refine ak_callP (avs := []) (dst := some 10) (k' := (K8 110 1)) [0, 1, 10] [] hP enters_10 (qNew_says) (by kernel_rfl) (hands_none _) .nil (st' := ⟨70, [(0, .d (eL76 t0 a0)), (1, .i a1), (10, .ptr 0 0 0 0)], [qR qNew]⟩) (by kernel_rfl) ?_
  obtain ⟨v1, h1, H⟩ := idC H
  rw [← h1]
  refine goK hT 9 (K8 111100 0) ⟨70, [(0, .d (eL76 t0 a0)), (1, .i a1), (5, .ptr 0 0 0 0), (6, .ns)], [qR v1]⟩ ?_
  obtain ⟨v2, h2, H⟩ := ibC H
  have Jj1 : ∀ (y1_16 : Bool), (splicelaw06_HoldPlays.j1 a0 a1 v1 y1_16) = some r → AK X 8 ((K8 11110 1)) (Back X [] (.b r)) ⟨70, [(0, .d (eL76 t0 a0)), (1, .i a1), (5, .ptr 0 0 0 0), (6, .ns), (16, .b y1_16)], [qR v1]⟩ := by
    intro y1_16 H
    by_cases c4 : y1_16 = true
    · replace H := iT c4 H
      rw [c4]
      refine goK hT 5 (K8 1111010 1) ⟨70, [(4, .b false)], [qR v1]⟩ ?_
      obtain rfl := retC H
      exact ak_ret hf hX (av := .b false) (by kernel_rfl) [] (sel_of_eq (by kernel_rfl)) (by decide) (by rw [h0]; rfl) (by kernel_rfl) (fun _ h => all_nil h) (.d (.v _))
    · replace H := iF c4 H
      rw [boF c4]
      refine goK hT 2 (K8 1111 1) ⟨70, [(0, .d (eL76 t0 a0)), (1, .i a1), (5, .ptr 0 0 0 0), (6, .ns)], [qR v1]⟩ ?_
      refine goK hT 7 (K8 11111010 0) ⟨70, [(0, .d (eL76 t0 a0)), (1, .i a1), (5, .ptr 0 0 0 0), (6, .ns), (7, .i 0)], [qR v1]⟩ ?_
      refine ak_sealS (av := .d (.v (.slice none 0 0))) (y := eL65 true ([] : List spliceref06_Held)) [0, 1, 5, 6, 7] 6 (st' := ⟨70, [(0, .d (eL76 t0 a0)), (1, .i a1), (5, .ptr 0 0 0 0), (6, .d (eL65 true ([] : List spliceref06_Held))), (7, .i 0)], [qR v1]⟩) (by kernel_rfl) (.nil _) (by kernel_rfl) ?_
      have L : ∀ n, (∀ (x1_6 : List spliceref06_Held) (x1_7 : Int) (x1_r0 : QL), iter (splicelaw06_HoldPlays.step a0 a1) n (.l1 x1_6 x1_7 x1_r0) = some r → AK X 8 ((K8 11111010 0)) (Back X [] (.b r)) ⟨70, [(0, .d (eL76 t0 a0)), (1, .i a1), (5, .ptr 0 0 0 0), (6, .d (eL65 true x1_6)), (7, .i x1_7)], [qR x1_r0]⟩) := by
        intro n
        induction n with
        | zero => exact fun _ _ _ H => iter0 H
        | succ n ih =>
          · intro x1_6 x1_7 x1_r0 H
            have Jj2 : ∀ (y2_24 : Bool), stk (splicelaw06_HoldPlays.j2 a0 a1 x1_6 x1_7 x1_r0 y2_24) (iter (splicelaw06_HoldPlays.step a0 a1) n) = some r → AK X 8 ((K8 1111101000 1)) (Back X [] (.b r)) ⟨70, [(0, .d (eL76 t0 a0)), (1, .i a1), (5, .ptr 0 0 0 0), (6, .d (eL65 true x1_6)), (7, .i x1_7), (24, .b y2_24)], [qR x1_r0]⟩ := by
              intro y2_24 H
              by_cases c6 : y2_24 = true
              · replace H := sT c6 H
                rw [c6]
                refine goK hT 2 (K8 111110100 1) ⟨70, [(0, .d (eL76 t0 a0)), (1, .i a1), (5, .ptr 0 0 0 0), (6, .d (eL65 true x1_6)), (7, .i x1_7)], [qR x1_r0]⟩ ?_
                refine goK hT 7 (K8 11111010010000 2) ⟨70, [(0, .d (eL76 t0 a0)), (1, .i a1), (5, .ptr 0 0 0 0), (6, .d (eL65 true x1_6)), (7, .i x1_7), (27, .d (eL76 t0 a0)), (28, .i x1_7)], [qR x1_r0]⟩ ?_
                obtain ⟨h7, H⟩ := sC H
                refine ak_idx hT [0, 1, 5, 6, 7, 29] (i := x1_7) (n := (a0.length : Int)) h7.1 h7.2 (k' := (K8 11111010010000 3)) (st' := ⟨70, [(0, .d (eL76 t0 a0)), (1, .i a1), (5, .ptr 0 0 0 0), (6, .d (eL65 true x1_6)), (7, .i x1_7), (29, .d (eP76 t0 a0 x1_7.toNat 0))], [qR x1_r0]⟩) (by kernel_rfl) ?_
                refine goK hT 1 (K8 11111010010000 4) ⟨70, [(0, .d (eL76 t0 a0)), (1, .i a1), (5, .ptr 0 0 0 0), (6, .d (eL65 true x1_6)), (7, .i x1_7), (30, .d (eG76 (a0.getD x1_7.toNat splicelaw06_Act.z)))], [qR x1_r0]⟩ ?_
                refine ak_callP (avs := [.d (eG76 (a0.getD x1_7.toNat splicelaw06_Act.z))]) (dst := some 31) (k' := (K8 11111010010000 5)) [0, 1, 5, 6, 7, 31] [] hP enters_28 (splicelaw06_light.says (a0.getD x1_7.toNat splicelaw06_Act.z)) (by kernel_rfl) (hands_none _) (.cons (pass_d _) .nil) (st' := ⟨70, [(0, .d (eL76 t0 a0)), (1, .i a1), (5, .ptr 0 0 0 0), (6, .d (eL65 true x1_6)), (7, .i x1_7), (31, .b (splicelaw06_light (a0.getD x1_7.toNat splicelaw06_Act.z)))], [qR x1_r0]⟩) (by kernel_rfl) ?_
                refine goK hT 2 (K8 1111101001000 1) ⟨70, [(0, .d (eL76 t0 a0)), (1, .i a1), (5, .ptr 0 0 0 0), (6, .d (eL65 true x1_6)), (7, .i x1_7), (32, .b (!(splicelaw06_light (a0.getD x1_7.toNat splicelaw06_Act.z))))], [qR x1_r0]⟩ ?_
                by_cases c8 : (splicelaw06_light (a0.getD x1_7.toNat splicelaw06_Act.z)) = true
                · replace H := sT c8 H
                  rw [c8]
                  refine goK hT 2 (K8 111110100100 1) ⟨70, [(0, .d (eL76 t0 a0)), (1, .i a1), (5, .ptr 0 0 0 0), (6, .d (eL65 true x1_6)), (7, .i x1_7)], [qR x1_r0]⟩ ?_
                  refine goK hT 6 (K8 11111010010010 4) ⟨70, [(0, .d (eL76 t0 a0)), (1, .i a1), (5, .ptr 0 0 0 0), (7, .i x1_7), (34, .ptr 0 0 0 0), (35, .d (eL65 true x1_6)), (36, .d (eL76 t0 a0)), (37, .i x1_7)], [qR x1_r0]⟩ ?_
                  refine ak_idx hT [0, 1, 5, 7, 34, 35, 38] (i := x1_7) (n := (a0.length : Int)) h7.1 h7.2 (k' := (K8 11111010010010 5)) (st' := ⟨70, [(0, .d (eL76 t0 a0)), (1, .i a1), (5, .ptr 0 0 0 0), (7, .i x1_7), (34, .ptr 0 0 0 0), (35, .d (eL65 true x1_6)), (38, .d (eP76 t0 a0 x1_7.toNat 0))], [qR x1_r0]⟩) (by kernel_rfl) ?_
                  refine goK hT 1 (K8 11111010010010 6) ⟨70, [(0, .d (eL76 t0 a0)), (1, .i a1), (5, .ptr 0 0 0 0), (7, .i x1_7), (34, .ptr 0 0 0 0), (35, .d (eL65 true x1_6)), (39, .d (eG76 (a0.getD x1_7.toNat splicelaw06_Act.z)))], [qR x1_r0]⟩ ?_
                  obtain ⟨v3, h9, H⟩ := sbC H
                  have Jj3 : ∀ (y3_69 : Bool), stk (splicelaw06_HoldPlays.j3 x1_7 v3 y3_69) (iter (splicelaw06_HoldPlays.step a0 a1) n) = some r → AK X 8 ((K8 111110100100111 1)) (Back X [] (.b r)) ⟨70, [(0, .d (eL76 t0 a0)), (1, .i a1), (5, .ptr 0 0 0 0), (6, .d (eL65 true v3.1)), (7, .i x1_7), (69, .b y3_69)], [qR v3.2.2]⟩ := by
                    intro y3_69 H
                    by_cases c17 : y3_69 = true
                    · replace H := sT c17 H
                      rw [c17]
                      refine goK hT 5 (K8 11111010010011110 1) ⟨70, [(4, .b false)], [qR v3.2.2]⟩ ?_
                      obtain rfl := retC H
                      exact ak_ret hf hX (av := .b false) (by kernel_rfl) [] (sel_of_eq (by kernel_rfl)) (by decide) (by rw [h0]; rfl) (by kernel_rfl) (fun _ h => all_nil h) (.d (.v _))
                    · replace H := sF c17 H
                      rw [boF c17]
                      refine goK hT 3 (K8 1111101001 1) ⟨70, [(0, .d (eL76 t0 a0)), (1, .i a1), (5, .ptr 0 0 0 0), (6, .d (eL65 true v3.1)), (7, .i x1_7)], [qR v3.2.2]⟩ ?_
                      refine goK hT 6 (K8 11111010 0) ⟨70, [(0, .d (eL76 t0 a0)), (1, .i a1), (5, .ptr 0 0 0 0), (6, .d (eL65 true v3.1)), (7, .i (IntKind.wrap .i64 (x1_7 + 1)))], [qR v3.2.2]⟩ ?_
                      refine cutK [0] ⟨70, [(0, .d (eL76 t0 a0)), (1, .i a1), (5, .ptr 0 0 0 0), (6, .d (eL65 true v3.1)), (7, .i (IntKind.wrap .i64 (x1_7 + 1)))], [qR v3.2.2]⟩ h0 ?_
                      exact ih v3.1 (IntKind.wrap .i64 (x1_7 + 1)) v3.2.2 H
                  refine ak_callP (avs := [.ptr 0 0 0 0, .d (eL65 true x1_6), .d (eG76 (a0.getD x1_7.toNat splicelaw06_Act.z))]) (dst := some 40) (k' := (K8 11111010010010 7)) [0, 1, 5, 7, 40] [0] hP enters_29 (splicelaw06_does.says x1_r0 x1_6 (a0.getD x1_7.toNat splicelaw06_Act.z) h9) (by kernel_rfl) (hands_one rfl rfl) (.cons (.same (.ptr 0 0 0 0)) (.cons (pass_d _) (.cons (pass_d _) .nil))) (st' := ⟨70, [(0, .d (eL76 t0 a0)), (1, .i a1), (5, .ptr 0 0 0 0), (7, .i x1_7), (40, .tup [.d (eL65 true v3.1), .b v3.2.1])], [qR v3.2.2]⟩) (by kernel_rfl) ?_
                  refine goK hT 16 (K8 1111101001001110 3) ⟨70, [(0, .d (eL76 t0 a0)), (1, .i a1), (5, .ptr 0 0 0 0), (6, .d (eL65 true v3.1)), (7, .i x1_7), (46, .b (!v3.2.1))], [qR v3.2.2]⟩ ?_
                  by_cases c10 : v3.2.1 = true
                  · replace H := sT c10 H
                    rw [c10]
                    refine goK hT 1 (K8 1111101001001110 4) ⟨70, [(0, .d (eL76 t0 a0)), (1, .i a1), (5, .ptr 0 0 0 0), (6, .d (eL65 true v3.1)), (7, .i x1_7), (46, .b false), (47, .ptr 0 0 0 0)], [qR v3.2.2]⟩ ?_
                    refine ak_callP (avs := [.ptr 0 0 0 0]) (dst := some 48) (k' := (K8 1111101001001110 5)) [0, 1, 5, 6, 7, 46, 48] [0] hP enters_14 (qLen_says v3.2.2) (by kernel_rfl) (hands_one rfl rfl) (.cons (.same (.ptr 0 0 0 0)) .nil) (st' := ⟨70, [(0, .d (eL76 t0 a0)), (1, .i a1), (5, .ptr 0 0 0 0), (6, .d (eL65 true v3.1)), (7, .i x1_7), (46, .b false), (48, .i (qLen v3.2.2))], [qR v3.2.2]⟩) (by kernel_rfl) ?_
                    refine goK hT 5 (K8 1111101001001110 10) ⟨70, [(0, .d (eL76 t0 a0)), (1, .i a1), (5, .ptr 0 0 0 0), (6, .d (eL65 true v3.1)), (7, .i x1_7), (53, .b ((qLen v3.2.2) != (v3.1.length : Int)))], [qR v3.2.2]⟩ ?_
                    by_cases c11 : (qLen v3.2.2) = (v3.1.length : Int)
                    · replace H := sT c11 H
                      rw [neF c11]
                      refine goK hT 2 (K8 1111101001001110 12) ⟨70, [(0, .d (eL76 t0 a0)), (1, .i a1), (5, .ptr 0 0 0 0), (6, .d (eL65 true v3.1)), (7, .i x1_7), (53, .b false), (54, .ptr 0 0 0 0), (55, .i a1)], [qR v3.2.2]⟩ ?_
                      refine ak_callP (avs := [.ptr 0 0 0 0, .i a1]) (dst := some 56) (k' := (K8 1111101001001110 13)) [0, 1, 5, 6, 7, 53, 56] [0] hP enters_20 (qFloor_says v3.2.2 a1) (by kernel_rfl) (hands_one rfl rfl) (.cons (.same (.ptr 0 0 0 0)) (.cons (pass_d _) .nil)) (st' := ⟨70, [(0, .d (eL76 t0 a0)), (1, .i a1), (5, .ptr 0 0 0 0), (6, .d (eL65 true v3.1)), (7, .i x1_7), (53, .b false), (56, .i (qFloor v3.2.2 a1))], [qR v3.2.2]⟩) (by kernel_rfl) ?_
                      refine goK hT 2 (K8 1111101001001110 15) ⟨70, [(0, .d (eL76 t0 a0)), (1, .i a1), (5, .ptr 0 0 0 0), (6, .d (eL65 true v3.1)), (7, .i x1_7), (53, .b false), (56, .i (qFloor v3.2.2 a1)), (57, .d (eL65 true v3.1)), (58, .i a1)], [qR v3.2.2]⟩ ?_
                      obtain ⟨v4, h12, H⟩ := sbC H
                      refine ak_callP (avs := [.d (eL65 true v3.1), .i a1]) (dst := some 59) (k' := (K8 1111101001001110 16)) [0, 1, 5, 6, 7, 53, 56, 59] [] hP enters_30 (spliceref06_Floor.says (t0 := true) v3.1 a1 h12) (by kernel_rfl) (hands_none _) (.cons (pass_d _) (.cons (pass_d _) .nil)) (st' := ⟨70, [(0, .d (eL76 t0 a0)), (1, .i a1), (5, .ptr 0 0 0 0), (6, .d (eL65 true v3.1)), (7, .i x1_7), (53, .b false), (56, .i (qFloor v3.2.2 a1)), (59, .i v4)], [qR v3.2.2]⟩) (by kernel_rfl) ?_
                      refine goK hT 3 (K8 1111101001001110 19) ⟨70, [(0, .d (eL76 t0 a0)), (1, .i a1), (5, .ptr 0 0 0 0), (6, .d (eL65 true v3.1)), (7, .i x1_7), (62, .b ((qFloor v3.2.2 a1) != v4))], [qR v3.2.2]⟩ ?_
                      by_cases c13 : (qFloor v3.2.2 a1) = v4
                      · replace H := sT c13 H
                        rw [neF c13]
                        refine goK hT 1 (K8 1111101001001110 20) ⟨70, [(0, .d (eL76 t0 a0)), (1, .i a1), (5, .ptr 0 0 0 0), (6, .d (eL65 true v3.1)), (7, .i x1_7), (62, .b false), (63, .ptr 0 0 0 0)], [qR v3.2.2]⟩ ?_
                        obtain ⟨v5, h14, H⟩ := sbC H
                        refine ak_callP (avs := [.ptr 0 0 0 0]) (dst := some 64) (k' := (K8 1111101001001110 21)) [0, 1, 5, 6, 7, 62, 64] [0] hP enters_23 (qAll_says v3.2.2 h14) (by kernel_rfl) (hands_one rfl rfl) (.cons (.same (.ptr 0 0 0 0)) .nil) (st' := ⟨70, [(0, .d (eL76 t0 a0)), (1, .i a1), (5, .ptr 0 0 0 0), (6, .d (eL65 true v3.1)), (7, .i x1_7), (62, .b false), (64, .own 1 9 0 v5.length)], [qR v3.2.2, eR32 v5]⟩) (by kernel_rfl) ?_
                        obtain ⟨v6, h15, H⟩ := sbC H
                        refine ak_callP (avs := [.own 1 9 0 v5.length]) (dst := some 65) (k' := (K8 1111101001001110 22)) [0, 1, 5, 6, 7, 62, 65] [] hP enters_22 (splicelaw06_Refs.says (t0 := false) v5 h15) (by kernel_rfl) (hands_none _) (.cons (.lend (ty := 32) (by kernel_rfl) rfl) .nil) (st' := ⟨70, [(0, .d (eL76 t0 a0)), (1, .i a1), (5, .ptr 0 0 0 0), (6, .d (eL65 true v3.1)), (7, .i x1_7), (62, .b false), (65, .own 2 9 0 v6.length)], [qR v3.2.2, eR32 v5, eR65 v6]⟩) (by kernel_rfl) ?_
                        refine goK hT 1 (K8 1111101001001110 23) ⟨70, [(0, .d (eL76 t0 a0)), (1, .i a1), (5, .ptr 0 0 0 0), (6, .d (eL65 true v3.1)), (7, .i x1_7), (62, .b false), (65, .own 2 9 0 v6.length), (66, .d (eL65 true v3.1))], [qR v3.2.2, eR32 v5, eR65 v6]⟩ ?_
                        obtain ⟨v7, h16, H⟩ := sbC H
                        refine ak_callP (avs := [.own 2 9 0 v6.length, .d (eL65 true v3.1)]) (dst := some 67) (k' := (K8 1111101001001110 24)) [0, 1, 5, 6, 7, 62, 67] [] hP enters_21 (spliceref06_Same.says (t0 := false) (t1 := true) v6 v3.1 h16) (by kernel_rfl) (hands_none _) (.cons (.lend (ty := 65) (by kernel_rfl) rfl) (.cons (pass_d _) .nil)) (st' := ⟨70, [(0, .d (eL76 t0 a0)), (1, .i a1), (5, .ptr 0 0 0 0), (6, .d (eL65 true v3.1)), (7, .i x1_7), (62, .b false), (67, .b v7)], [qR v3.2.2, eR32 v5, eR65 v6]⟩) (by kernel_rfl) ?_
                        refine goK hT 3 (K8 111110100100111 1) ⟨70, [(0, .d (eL76 t0 a0)), (1, .i a1), (5, .ptr 0 0 0 0), (6, .d (eL65 true v3.1)), (7, .i x1_7), (69, .b (!v7))], [qR v3.2.2, eR32 v5, eR65 v6]⟩ ?_
                        refine cutK [0] ⟨70, [(0, .d (eL76 t0 a0)), (1, .i a1), (5, .ptr 0 0 0 0), (6, .d (eL65 true v3.1)), (7, .i x1_7), (69, .b (!v7))], [qR v3.2.2]⟩ h0 ?_
                        exact Jj3 (!v7) H
                      · replace H := sF c13 H
                        rw [neT c13]
                        refine goK hT 8 (K8 111110100100111 1) ⟨70, [(0, .d (eL76 t0 a0)), (1, .i a1), (5, .ptr 0 0 0 0), (6, .d (eL65 true v3.1)), (7, .i x1_7), (69, .b true)], [qR v3.2.2]⟩ ?_
                        refine cutK [0] ⟨70, [(0, .d (eL76 t0 a0)), (1, .i a1), (5, .ptr 0 0 0 0), (6, .d (eL65 true v3.1)), (7, .i x1_7), (69, .b true)], [qR v3.2.2]⟩ h0 ?_
                        exact Jj3 true H
                    · replace H := sF c11 H
                      rw [neT c11]
                      refine goK hT 17 (K8 111110100100111 1) ⟨70, [(0, .d (eL76 t0 a0)), (1, .i a1), (5, .ptr 0 0 0 0), (6, .d (eL65 true v3.1)), (7, .i x1_7), (69, .b true)], [qR v3.2.2]⟩ ?_
                      refine cutK [0] ⟨70, [(0, .d (eL76 t0 a0)), (1, .i a1), (5, .ptr 0 0 0 0), (6, .d (eL65 true v3.1)), (7, .i x1_7), (69, .b true)], [qR v3.2.2]⟩ h0 ?_
                      exact Jj3 true H
                  · replace H := sF c10 H
                    rw [boF c10]
                    refine goK hT 24 (K8 111110100100111 1) ⟨70, [(0, .d (eL76 t0 a0)), (1, .i a1), (5, .ptr 0 0 0 0), (6, .d (eL65 true v3.1)), (7, .i x1_7), (69, .b true)], [qR v3.2.2]⟩ ?_
                    refine cutK [0] ⟨70, [(0, .d (eL76 t0 a0)), (1, .i a1), (5, .ptr 0 0 0 0), (6, .d (eL65 true v3.1)), (7, .i x1_7), (69, .b true)], [qR v3.2.2]⟩ h0 ?_
                    exact Jj3 true H
                · replace H := sF c8 H
                  rw [boF c8]
                  refine goK hT 8 (K8 11111010 0) ⟨70, [(0, .d (eL76 t0 a0)), (1, .i a1), (5, .ptr 0 0 0 0), (6, .d (eL65 true x1_6)), (7, .i (IntKind.wrap .i64 (x1_7 + 1)))], [qR x1_r0]⟩ ?_
                  refine cutK [0] ⟨70, [(0, .d (eL76 t0 a0)), (1, .i a1), (5, .ptr 0 0 0 0), (6, .d (eL65 true x1_6)), (7, .i (IntKind.wrap .i64 (x1_7 + 1)))], [qR x1_r0]⟩ h0 ?_
                  exact ih x1_6 (IntKind.wrap .i64 (x1_7 + 1)) x1_r0 H
              · replace H := sF c6 H
                rw [boF c6]
                refine goK hT 6 (K8 111111 1) ⟨70, [(4, .b true)], [qR x1_r0]⟩ ?_
                obtain rfl := retC H
                exact ak_ret hf hX (av := .b true) (by kernel_rfl) [] (sel_of_eq (by kernel_rfl)) (by decide) (by rw [h0]; rfl) (by kernel_rfl) (fun _ h => all_nil h) (.d (.v _))
            refine goK hT 8 (K8 11111010000 5) ⟨70, [(0, .d (eL76 t0 a0)), (1, .i a1), (5, .ptr 0 0 0 0), (6, .d (eL65 true x1_6)), (7, .i x1_7), (21, .b (decide (x1_7 < (a0.length : Int))))], [qR x1_r0]⟩ ?_
            by_cases c5 : x1_7 < (a0.length : Int)
            · replace H := sT c5 H
              rw [decide_eq_true c5]
              refine goK hT 4 (K8 1111101000 1) ⟨70, [(0, .d (eL76 t0 a0)), (1, .i a1), (5, .ptr 0 0 0 0), (6, .d (eL65 true x1_6)), (7, .i x1_7), (24, .b (decide (x1_7 < 100)))], [qR x1_r0]⟩ ?_
              refine cutK [0] ⟨70, [(0, .d (eL76 t0 a0)), (1, .i a1), (5, .ptr 0 0 0 0), (6, .d (eL65 true x1_6)), (7, .i x1_7), (24, .b (decide (x1_7 < 100)))], [qR x1_r0]⟩ h0 ?_
              exact Jj2 (decide (x1_7 < 100)) H
            · replace H := sF c5 H
              rw [decide_eq_false c5]
              refine goK hT 4 (K8 1111101000 1) ⟨70, [(0, .d (eL76 t0 a0)), (1, .i a1), (5, .ptr 0 0 0 0), (6, .d (eL65 true x1_6)), (7, .i x1_7), (24, .b false)], [qR x1_r0]⟩ ?_
              refine cutK [0] ⟨70, [(0, .d (eL76 t0 a0)), (1, .i a1), (5, .ptr 0 0 0 0), (6, .d (eL65 true x1_6)), (7, .i x1_7), (24, .b false)], [qR x1_r0]⟩ h0 ?_
              exact Jj2 false H
      refine cutK [0] ⟨70, [(0, .d (eL76 t0 a0)), (1, .i a1), (5, .ptr 0 0 0 0), (6, .d (eL65 true ([] : List spliceref06_Held))), (7, .i 0)], [qR v1]⟩ h0 ?_
      obtain ⟨n, H⟩ := loopC H
      exact (L n) ([] : List spliceref06_Held) 0 v1 H
  refine ak_callP (avs := []) (dst := some 11) (k' := (K8 111100 1)) [0, 1, 5, 6, 11] [] hP enters_11 (splicelaw06_awake.says h2) (by kernel_rfl) (hands_none _) .nil (st' := ⟨70, [(0, .d (eL76 t0 a0)), (1, .i a1), (5, .ptr 0 0 0 0), (6, .ns), (11, .b v2)], [qR v1]⟩) (by kernel_rfl) ?_
  refine goK hT 2 (K8 111100 3) ⟨70, [(0, .d (eL76 t0 a0)), (1, .i a1), (5, .ptr 0 0 0 0), (6, .ns), (13, .b (!v2))], [qR v1]⟩ ?_
  by_cases c3 : v2 = true
  · replace H := iT c3 H
    rw [c3]
    refine goK hT 4 (K8 11110 1) ⟨70, [(0, .d (eL76 t0 a0)), (1, .i a1), (5, .ptr 0 0 0 0), (6, .ns), (16, .b false)], [qR v1]⟩ ?_
    refine cutK [0] ⟨70, [(0, .d (eL76 t0 a0)), (1, .i a1), (5, .ptr 0 0 0 0), (6, .ns), (16, .b false)], [qR v1]⟩ h0 ?_
    exact Jj1 false H
  · replace H := iF c3 H
    rw [boF c3]
    refine goK hT 4 (K8 11110 1) ⟨70, [(0, .d (eL76 t0 a0)), (1, .i a1), (5, .ptr 0 0 0 0), (6, .ns), (16, .b true)], [qR v1]⟩ ?_
    refine cutK [0] ⟨70, [(0, .d (eL76 t0 a0)), (1, .i a1), (5, .ptr 0 0 0 0), (6, .ns), (16, .b true)], [qR v1]⟩ h0 ?_
    exact Jj1 true H
end Go.SyP
