/- Certificates, printed by gen.py. -/
import Derived.Test.YtboaahlhgekbbaaG06LP
import Derived.Test.YtboaahlhgekbbaaG06A
set_option linter.unusedVariables false
set_option linter.unusedSimpArgs false
namespace Go.SyP
open Go Go.Sy Go.Proofs


theorem splicelaw06_del.says (a0 : Int) (a1 : Int) : Says Try.prog 31 [] [.i a0, .i a1] [] (.d (eG30 (splicelaw06_del a0 a1))) := by
  obtain ⟨r, H⟩ : ∃ r, splicelaw06_del a0 a1 = r := ⟨_, rfl⟩
  rw [H]
  refine says_of Try.func31 rfl (nt := 9) rfl (Nat.le_of_ble_eq_true rfl) fun X hP h0 hX => ?_
  have hT : TabOk X.P T := hP ▸ tok
  have hf : X.P.funcs[31]? = some Try.f31 := hP ▸ Try.func31
  refine goK hT 10 (K31 110 4) ⟨9, [(4, .ptr 0 0 0 0), (8, .d (.agg [.i a0, .i a1, .i 2, .ns, .i 1, .i 2, .i 0]))], [.box 30 [.i 0, .i 0, .i 0, .ns, .i 0, .i 0, .i 0]]⟩ ?_
  refine ak_sealS (av := .d (.agg [.i a0, .i a1, .i 2, .ns, .i 1, .i 2, .i 0])) (y := .agg [.i a0, .i a1, .i 2, eL70 true ([] : List api_Pair), .i 1, .i 2, .i 0]) [4, 8] 8 (st' := ⟨9, [(4, .ptr 0 0 0 0), (8, .d (.agg [.i a0, .i a1, .i 2, eL70 true ([] : List api_Pair), .i 1, .i 2, .i 0]))], [.box 30 [.i 0, .i 0, .i 0, .ns, .i 0, .i 0, .i 0]]⟩) (by kernel_rfl) (.aggd (.cons (.d _) (.cons (.d _) (.cons (.d _) (.cons (.nil _) (.cons (.d _) (.cons (.d _) (.cons (.d _) .nil)))))))) (by kernel_rfl) ?_
  refine goK hT 2 (K31 11 1) ⟨9, [(4, .ptr 0 0 0 0)], [.box 30 [.i a0, .i a1, .i 2, .d (eL70 true ([] : List api_Pair)), .i 1, .i 2, .i 0]]⟩ ?_
  obtain rfl := H
  exact ak_retM hT hf hX (av := .d (.agg [.i a0, .i a1, .i 2, eL70 true ([] : List api_Pair), .i 1, .i 2, .i 0])) (by kernel_rfl) [] (sel_of_eq (by kernel_rfl)) (by decide) (by rw [h0]; rfl) (by kernel_rfl) (fun _ h => all_nil h) (.d (.agg (api_Mut.nl _)))


theorem splicelaw06_awake.says {r : Bool} (H : splicelaw06_awake = some r) : Says Try.prog 11 [] [] [] (.b r) := by
  refine says_of Try.func11 rfl (nt := 87) rfl (Nat.le_of_ble_eq_true rfl) fun X hP h0 hX => ?_
  have hT : TabOk X.P T := hP ▸ tok
  have hf : X.P.funcs[11]? = some Try.f11 := hP ▸ Try.func11
  refine goK hT 6 (K11 110 0) ⟨87, [], []⟩ ?_
  refine ak_callP (avs := []) (dst := some 13) (k' := (K11 110 1)) [13] [] hP enters_10 (qNew_says) (by kernel_rfl) (hands_none _) .nil (st' := ⟨87, [(13, .ptr 0 0 0 0)], [qR qNew]⟩) (by kernel_rfl) ?_
  obtain ⟨v1, h1, H⟩ := idC H
  rw [← h1]
  refine goK hT 5 (K11 1110 1) ⟨87, [(1, .ptr 0 0 0 0), (14, .ptr 0 0 0 0)], [qR v1]⟩ ?_
  refine ak_callP (avs := [.i 1, .i 1]) (dst := some 15) (k' := (K11 1110 2)) [1, 14, 15] [] hP enters_31 (splicelaw06_del.says 1 1) (by kernel_rfl) (hands_none _) (.cons (pass_d _) (.cons (pass_d _) .nil)) (st' := ⟨87, [(1, .ptr 0 0 0 0), (14, .ptr 0 0 0 0), (15, .d (eG30 (splicelaw06_del 1 1)))], [qR v1]⟩) (by kernel_rfl) ?_
  obtain ⟨v2, h2, H⟩ := idC H
  rw [← h2]
  refine goK hT 1 (K11 1110 3) ⟨87, [(1, .ptr 0 0 0 0), (14, .ptr 0 0 0 0), (16, .d (.agg [.i v2.Client, .i v2.Seq, .i v2.Kind, eL70 true v2.Pairs, .i ((v2.Over).Lo), .i ((v2.Over).Hi), .i v2.Old, .i 5, .b false]))], [qR v1]⟩ ?_
  obtain ⟨v3, h3, H⟩ := ibC H
  refine ak_callP (avs := [.ptr 0 0 0 0, .d (.agg [.i v2.Client, .i v2.Seq, .i v2.Kind, eL70 true v2.Pairs, .i ((v2.Over).Lo), .i ((v2.Over).Hi), .i v2.Old, .i 5, .b false])]) (dst := some 17) (k' := (K11 1110 4)) [1, 17] [0] hP enters_12 (qAdd_says v1 (⟨(⟨v2.Client, v2.Seq, v2.Kind, v2.Pairs, (v2.Over), v2.Old⟩ : api_Mut), 5, false⟩ : api_Held) h3) (by kernel_rfl) (hands_one rfl rfl) (.cons (.same (.ptr 0 0 0 0)) (.cons (pass_d _) .nil)) (st' := ⟨87, [(1, .ptr 0 0 0 0), (17, .i v3.1)], [qR v3.2]⟩) (by kernel_rfl) ?_
  refine goK hT 5 (K11 11110 1) ⟨87, [(1, .ptr 0 0 0 0), (2, .i v3.1), (18, .ptr 0 0 0 0)], [qR v3.2]⟩ ?_
  refine ak_callP (avs := [.i 2, .i 1]) (dst := some 19) (k' := (K11 11110 2)) [1, 2, 18, 19] [] hP enters_31 (splicelaw06_del.says 2 1) (by kernel_rfl) (hands_none _) (.cons (pass_d _) (.cons (pass_d _) .nil)) (st' := ⟨87, [(1, .ptr 0 0 0 0), (2, .i v3.1), (18, .ptr 0 0 0 0), (19, .d (eG30 (splicelaw06_del 2 1)))], [qR v3.2]⟩) (by kernel_rfl) ?_
  obtain ⟨v4, h4, H⟩ := idC H
  rw [← h4]
  refine goK hT 1 (K11 11110 3) ⟨87, [(1, .ptr 0 0 0 0), (2, .i v3.1), (18, .ptr 0 0 0 0), (20, .d (.agg [.i v4.Client, .i v4.Seq, .i v4.Kind, eL70 true v4.Pairs, .i ((v4.Over).Lo), .i ((v4.Over).Hi), .i v4.Old, .i 3, .b false]))], [qR v3.2]⟩ ?_
  obtain ⟨v5, h5, H⟩ := ibC H
  refine ak_callP (avs := [.ptr 0 0 0 0, .d (.agg [.i v4.Client, .i v4.Seq, .i v4.Kind, eL70 true v4.Pairs, .i ((v4.Over).Lo), .i ((v4.Over).Hi), .i v4.Old, .i 3, .b false])]) (dst := some 21) (k' := (K11 11110 4)) [1, 2, 21] [0] hP enters_12 (qAdd_says v3.2 (⟨(⟨v4.Client, v4.Seq, v4.Kind, v4.Pairs, (v4.Over), v4.Old⟩ : api_Mut), 3, false⟩ : api_Held) h5) (by kernel_rfl) (hands_one rfl rfl) (.cons (.same (.ptr 0 0 0 0)) (.cons (pass_d _) .nil)) (st' := ⟨87, [(1, .ptr 0 0 0 0), (2, .i v3.1), (21, .i v5.1)], [qR v5.2]⟩) (by kernel_rfl) ?_
  refine goK hT 5 (K11 111110 1) ⟨87, [(1, .ptr 0 0 0 0), (2, .i v3.1), (3, .i v5.1), (23, .ptr 0 0 0 0)], [qR v5.2]⟩ ?_
  refine ak_callP (avs := [.ptr 0 0 0 0]) (dst := some 24) (k' := (K11 111110 2)) [1, 2, 3, 24] [0] hP enters_15 (qPop_says v5.2) (by kernel_rfl) (hands_one rfl rfl) (.cons (.same (.ptr 0 0 0 0)) .nil) (st' := ⟨87, [(1, .ptr 0 0 0 0), (2, .i v3.1), (3, .i v5.1), (24, .tup [.d (eG32 ((qPop v5.2).1)), .b ((qPop v5.2).2.1)])], [qR ((qPop v5.2).2.2)]⟩) (by kernel_rfl) ?_
  obtain ⟨v6, h6, H⟩ := idC H
  rw [← h6]
  refine goK hT 10 (K11 1111110 1) ⟨87, [(1, .ptr 0 0 0 0), (2, .i v3.1), (3, .i v5.1), (5, .b v6.2.1), (27, .ptr 0 0 0 0)], [qR v6.2.2, .box 32 (eC32 (v6.1))]⟩ ?_
  refine ak_callP (avs := [.ptr 0 0 0 0, .i 2, .i 1, .i 7]) (dst := some 28) (k' := (K11 1111110 2)) [1, 2, 3, 5, 28] [0] hP enters_13 (qFinal_says v6.2.2 2 1 7) (by kernel_rfl) (hands_one rfl rfl) (.cons (.same (.ptr 0 0 0 0)) (.cons (pass_d _) (.cons (pass_d _) (.cons (pass_d _) .nil)))) (st' := ⟨87, [(1, .ptr 0 0 0 0), (2, .i v3.1), (3, .i v5.1), (5, .b v6.2.1), (28, .i ((qFinal v6.2.2 2 1 7).1))], [qR ((qFinal v6.2.2 2 1 7).2), .box 32 (eC32 (v6.1))]⟩) (by kernel_rfl) ?_
  obtain ⟨v7, h7, H⟩ := idC H
  rw [← h7]
  refine goK hT 5 (K11 11111110 1) ⟨87, [(1, .ptr 0 0 0 0), (2, .i v3.1), (3, .i v5.1), (5, .b v6.2.1), (6, .i v7.1), (29, .ptr 0 0 0 0)], [qR v7.2, .box 32 (eC32 (v6.1))]⟩ ?_
  refine ak_callP (avs := [.ptr 0 0 0 0, .i 99]) (dst := some 30) (k' := (K11 11111110 2)) [1, 2, 3, 5, 6, 30] [0] hP enters_20 (qFloor_says v7.2 99) (by kernel_rfl) (hands_one rfl rfl) (.cons (.same (.ptr 0 0 0 0)) (.cons (pass_d _) .nil)) (st' := ⟨87, [(1, .ptr 0 0 0 0), (2, .i v3.1), (3, .i v5.1), (5, .b v6.2.1), (6, .i v7.1), (30, .i (qFloor v7.2 99))], [qR v7.2, .box 32 (eC32 (v6.1))]⟩) (by kernel_rfl) ?_
  refine goK hT 5 (K11 111111110 1) ⟨87, [(1, .ptr 0 0 0 0), (2, .i v3.1), (3, .i v5.1), (5, .b v6.2.1), (6, .i v7.1), (7, .i (qFloor v7.2 99)), (31, .ptr 0 0 0 0)], [qR v7.2, .box 32 (eC32 (v6.1))]⟩ ?_
  refine ak_callP (avs := [.ptr 0 0 0 0, .i 1, .i 1, .i 5]) (dst := some 32) (k' := (K11 111111110 2)) [1, 2, 3, 5, 6, 7, 32] [0] hP enters_13 (qFinal_says v7.2 1 1 5) (by kernel_rfl) (hands_one rfl rfl) (.cons (.same (.ptr 0 0 0 0)) (.cons (pass_d _) (.cons (pass_d _) (.cons (pass_d _) .nil)))) (st' := ⟨87, [(1, .ptr 0 0 0 0), (2, .i v3.1), (3, .i v5.1), (5, .b v6.2.1), (6, .i v7.1), (7, .i (qFloor v7.2 99)), (32, .i ((qFinal v7.2 1 1 5).1))], [qR ((qFinal v7.2 1 1 5).2), .box 32 (eC32 (v6.1))]⟩) (by kernel_rfl) ?_
  obtain ⟨v8, h8, H⟩ := idC H
  rw [← h8]
  refine goK hT 5 (K11 1111111110 1) ⟨87, [(1, .ptr 0 0 0 0), (2, .i v3.1), (3, .i v5.1), (5, .b v6.2.1), (6, .i v7.1), (7, .i (qFloor v7.2 99)), (8, .i v8.1), (34, .ptr 0 0 0 0)], [qR v8.2, .box 32 (eC32 (v6.1))]⟩ ?_
  refine ak_callP (avs := [.ptr 0 0 0 0]) (dst := some 35) (k' := (K11 1111111110 2)) [1, 2, 3, 5, 6, 7, 8, 35] [0] hP enters_15 (qPop_says v8.2) (by kernel_rfl) (hands_one rfl rfl) (.cons (.same (.ptr 0 0 0 0)) .nil) (st' := ⟨87, [(1, .ptr 0 0 0 0), (2, .i v3.1), (3, .i v5.1), (5, .b v6.2.1), (6, .i v7.1), (7, .i (qFloor v7.2 99)), (8, .i v8.1), (35, .tup [.d (eG32 ((qPop v8.2).1)), .b ((qPop v8.2).2.1)])], [qR ((qPop v8.2).2.2), .box 32 (eC32 (v6.1))]⟩) (by kernel_rfl) ?_
  obtain ⟨v9, h9, H⟩ := idC H
  rw [← h9]
  refine goK hT 10 (K11 11111111110 1) ⟨87, [(1, .ptr 0 0 0 0), (2, .i v3.1), (3, .i v5.1), (5, .b v6.2.1), (6, .i v7.1), (7, .i (qFloor v7.2 99)), (8, .i v8.1), (9, .ptr 2 0 0 0), (10, .b v9.2.1), (39, .ptr 0 0 0 0)], [qR v9.2.2, .box 32 (eC32 (v6.1)), .box 32 (eC32 (v9.1))]⟩ ?_
  refine ak_callP (avs := [.ptr 0 0 0 0]) (dst := some 40) (k' := (K11 11111111110 2)) [1, 2, 3, 5, 6, 7, 8, 9, 10, 40] [0] hP enters_15 (qPop_says v9.2.2) (by kernel_rfl) (hands_one rfl rfl) (.cons (.same (.ptr 0 0 0 0)) .nil) (st' := ⟨87, [(1, .ptr 0 0 0 0), (2, .i v3.1), (3, .i v5.1), (5, .b v6.2.1), (6, .i v7.1), (7, .i (qFloor v7.2 99)), (8, .i v8.1), (9, .ptr 2 0 0 0), (10, .b v9.2.1), (40, .tup [.d (eG32 ((qPop v9.2.2).1)), .b ((qPop v9.2.2).2.1)])], [qR ((qPop v9.2.2).2.2), .box 32 (eC32 (v6.1)), .box 32 (eC32 (v9.1))]⟩) (by kernel_rfl) ?_
  obtain ⟨v10, h10, H⟩ := idC H
  have Jj1 : ∀ (y1_0 : Bool), (splicelaw06_awake.j1 y1_0) = some r → AK X 11 ((K11 11111111111 1)) (Back X [] (.b r)) ⟨87, [(0, .b y1_0)], []⟩ := by
    intro y1_0 H
    obtain rfl := retC H
    exact ak_ret hf hX (av := .b y1_0) (by kernel_rfl) [] (sel_of_eq (by kernel_rfl)) (by decide) (by rw [h0]; rfl) (by kernel_rfl) (fun _ h => all_nil h) (.d (.v _))
  rw [← h10]
  refine goK hT 12 (K11 111111111110 3) ⟨87, [(1, .ptr 0 0 0 0), (3, .i v5.1), (5, .b v6.2.1), (6, .i v7.1), (7, .i (qFloor v7.2 99)), (8, .i v8.1), (9, .ptr 2 0 0 0), (10, .b v9.2.1), (11, .ptr 3 0 0 0), (12, .b v10.2.1), (45, .b (v3.1 == 0))], [qR v10.2.2, .box 32 (eC32 (v6.1)), .box 32 (eC32 (v9.1)), .box 32 (eC32 (v10.1))]⟩ ?_
  by_cases c11 : v3.1 = 0
  · replace H := iT c11 H
    rw [eqT c11]
    refine goK hT 4 (K11 111111111110 7) ⟨87, [(1, .ptr 0 0 0 0), (5, .b v6.2.1), (6, .i v7.1), (7, .i (qFloor v7.2 99)), (8, .i v8.1), (9, .ptr 2 0 0 0), (10, .b v9.2.1), (11, .ptr 3 0 0 0), (12, .b v10.2.1), (49, .b (v5.1 == 0))], [qR v10.2.2, .box 32 (eC32 (v6.1)), .box 32 (eC32 (v9.1)), .box 32 (eC32 (v10.1))]⟩ ?_
    by_cases c12 : v5.1 = 0
    · replace H := iT c12 H
      rw [eqT c12]
      refine goK hT 4 (K11 111111111110 11) ⟨87, [(1, .ptr 0 0 0 0), (6, .i v7.1), (7, .i (qFloor v7.2 99)), (8, .i v8.1), (9, .ptr 2 0 0 0), (10, .b v9.2.1), (11, .ptr 3 0 0 0), (12, .b v10.2.1), (53, .b (!v6.2.1))], [qR v10.2.2, .box 32 (eC32 (v6.1)), .box 32 (eC32 (v9.1)), .box 32 (eC32 (v10.1))]⟩ ?_
      by_cases c13 : v6.2.1 = true
      · replace H := iT c13 H
        rw [c13]
        refine goK hT 35 (K11 11111111111 1) ⟨87, [(0, .b false)], [qR v10.2.2, .box 32 (eC32 (v6.1)), .box 32 (eC32 (v9.1)), .box 32 (eC32 (v10.1))]⟩ ?_
        refine cutK [] ⟨87, [(0, .b false)], []⟩ h0 ?_
        exact Jj1 false H
      · replace H := iF c13 H
        rw [boF c13]
        refine goK hT 4 (K11 111111111110 15) ⟨87, [(1, .ptr 0 0 0 0), (7, .i (qFloor v7.2 99)), (8, .i v8.1), (9, .ptr 2 0 0 0), (10, .b v9.2.1), (11, .ptr 3 0 0 0), (12, .b v10.2.1), (57, .b (v7.1 == 0))], [qR v10.2.2, .box 32 (eC32 (v6.1)), .box 32 (eC32 (v9.1)), .box 32 (eC32 (v10.1))]⟩ ?_
        by_cases c14 : v7.1 = 0
        · replace H := iT c14 H
          rw [eqT c14]
          refine goK hT 4 (K11 111111111110 19) ⟨87, [(1, .ptr 0 0 0 0), (8, .i v8.1), (9, .ptr 2 0 0 0), (10, .b v9.2.1), (11, .ptr 3 0 0 0), (12, .b v10.2.1), (61, .b ((qFloor v7.2 99) == 4))], [qR v10.2.2, .box 32 (eC32 (v6.1)), .box 32 (eC32 (v9.1)), .box 32 (eC32 (v10.1))]⟩ ?_
          by_cases c15 : (qFloor v7.2 99) = 4
          · replace H := iT c15 H
            rw [eqT c15]
            refine goK hT 4 (K11 111111111110 23) ⟨87, [(1, .ptr 0 0 0 0), (9, .ptr 2 0 0 0), (10, .b v9.2.1), (11, .ptr 3 0 0 0), (12, .b v10.2.1), (65, .b (v8.1 == 0))], [qR v10.2.2, .box 32 (eC32 (v6.1)), .box 32 (eC32 (v9.1)), .box 32 (eC32 (v10.1))]⟩ ?_
            by_cases c16 : v8.1 = 0
            · replace H := iT c16 H
              rw [eqT c16]
              refine goK hT 3 (K11 111111111110 26) ⟨87, [(1, .ptr 0 0 0 0), (9, .ptr 2 0 0 0), (11, .ptr 3 0 0 0), (12, .b v10.2.1), (68, .b v9.2.1)], [qR v10.2.2, .box 32 (eC32 (v6.1)), .box 32 (eC32 (v9.1)), .box 32 (eC32 (v10.1))]⟩ ?_
              by_cases c17 : v9.2.1 = true
              · replace H := iT c17 H
                rw [c17]
                refine goK hT 6 (K11 111111111110 32) ⟨87, [(1, .ptr 0 0 0 0), (11, .ptr 3 0 0 0), (12, .b v10.2.1), (74, .b ((((v9.1).M).Client) == 1))], [qR v10.2.2, .box 32 (eC32 (v6.1)), .box 32 (eC32 (v9.1)), .box 32 (eC32 (v10.1))]⟩ ?_
                by_cases c18 : (((v9.1).M).Client) = 1
                · replace H := iT c18 H
                  rw [eqT c18]
                  refine goK hT 3 (K11 111111111110 35) ⟨87, [(1, .ptr 0 0 0 0), (11, .ptr 3 0 0 0), (77, .b v10.2.1)], [qR v10.2.2, .box 32 (eC32 (v6.1)), .box 32 (eC32 (v9.1)), .box 32 (eC32 (v10.1))]⟩ ?_
                  by_cases c19 : v10.2.1 = true
                  · replace H := iT c19 H
                    rw [c19]
                    refine goK hT 5 (K11 111111111110 40) ⟨87, [(1, .ptr 0 0 0 0), (82, .b (((v10.1).Time) == 7))], [qR v10.2.2, .box 32 (eC32 (v6.1)), .box 32 (eC32 (v9.1)), .box 32 (eC32 (v10.1))]⟩ ?_
                    by_cases c20 : ((v10.1).Time) = 7
                    · replace H := iT c20 H
                      rw [eqT c20]
                      refine goK hT 1 (K11 111111111110 41) ⟨87, [(82, .b true), (83, .ptr 0 0 0 0)], [qR v10.2.2, .box 32 (eC32 (v6.1)), .box 32 (eC32 (v9.1)), .box 32 (eC32 (v10.1))]⟩ ?_
                      refine ak_callP (avs := [.ptr 0 0 0 0]) (dst := some 84) (k' := (K11 111111111110 42)) [82, 84] [0] hP enters_14 (qLen_says v10.2.2) (by kernel_rfl) (hands_one rfl rfl) (.cons (.same (.ptr 0 0 0 0)) .nil) (st' := ⟨87, [(82, .b true), (84, .i (qLen v10.2.2))], [qR v10.2.2, .box 32 (eC32 (v6.1)), .box 32 (eC32 (v9.1)), .box 32 (eC32 (v10.1))]⟩) (by kernel_rfl) ?_
                      refine goK hT 4 (K11 11111111111 1) ⟨87, [(0, .b ((qLen v10.2.2) == 0))], [qR v10.2.2, .box 32 (eC32 (v6.1)), .box 32 (eC32 (v9.1)), .box 32 (eC32 (v10.1))]⟩ ?_
                      refine cutK [] ⟨87, [(0, .b ((qLen v10.2.2) == 0))], []⟩ h0 ?_
                      exact Jj1 ((qLen v10.2.2) == 0) H
                    · replace H := iF c20 H
                      rw [eqF c20]
                      refine goK hT 6 (K11 11111111111 1) ⟨87, [(0, .b false)], [qR v10.2.2, .box 32 (eC32 (v6.1)), .box 32 (eC32 (v9.1)), .box 32 (eC32 (v10.1))]⟩ ?_
                      refine cutK [] ⟨87, [(0, .b false)], []⟩ h0 ?_
                      exact Jj1 false H
                  · replace H := iF c19 H
                    rw [boF c19]
                    refine goK hT 11 (K11 11111111111 1) ⟨87, [(0, .b false)], [qR v10.2.2, .box 32 (eC32 (v6.1)), .box 32 (eC32 (v9.1)), .box 32 (eC32 (v10.1))]⟩ ?_
                    refine cutK [] ⟨87, [(0, .b false)], []⟩ h0 ?_
                    exact Jj1 false H
                · replace H := iF c18 H
                  rw [eqF c18]
                  refine goK hT 14 (K11 11111111111 1) ⟨87, [(0, .b false)], [qR v10.2.2, .box 32 (eC32 (v6.1)), .box 32 (eC32 (v9.1)), .box 32 (eC32 (v10.1))]⟩ ?_
                  refine cutK [] ⟨87, [(0, .b false)], []⟩ h0 ?_
                  exact Jj1 false H
              · replace H := iF c17 H
                rw [boF c17]
                refine goK hT 20 (K11 11111111111 1) ⟨87, [(0, .b false)], [qR v10.2.2, .box 32 (eC32 (v6.1)), .box 32 (eC32 (v9.1)), .box 32 (eC32 (v10.1))]⟩ ?_
                refine cutK [] ⟨87, [(0, .b false)], []⟩ h0 ?_
                exact Jj1 false H
            · replace H := iF c16 H
              rw [eqF c16]
              refine goK hT 23 (K11 11111111111 1) ⟨87, [(0, .b false)], [qR v10.2.2, .box 32 (eC32 (v6.1)), .box 32 (eC32 (v9.1)), .box 32 (eC32 (v10.1))]⟩ ?_
              refine cutK [] ⟨87, [(0, .b false)], []⟩ h0 ?_
              exact Jj1 false H
          · replace H := iF c15 H
            rw [eqF c15]
            refine goK hT 27 (K11 11111111111 1) ⟨87, [(0, .b false)], [qR v10.2.2, .box 32 (eC32 (v6.1)), .box 32 (eC32 (v9.1)), .box 32 (eC32 (v10.1))]⟩ ?_
            refine cutK [] ⟨87, [(0, .b false)], []⟩ h0 ?_
            exact Jj1 false H
        · replace H := iF c14 H
          rw [eqF c14]
          refine goK hT 31 (K11 11111111111 1) ⟨87, [(0, .b false)], [qR v10.2.2, .box 32 (eC32 (v6.1)), .box 32 (eC32 (v9.1)), .box 32 (eC32 (v10.1))]⟩ ?_
          refine cutK [] ⟨87, [(0, .b false)], []⟩ h0 ?_
          exact Jj1 false H
    · replace H := iF c12 H
      rw [eqF c12]
      refine goK hT 39 (K11 11111111111 1) ⟨87, [(0, .b false)], [qR v10.2.2, .box 32 (eC32 (v6.1)), .box 32 (eC32 (v9.1)), .box 32 (eC32 (v10.1))]⟩ ?_
      refine cutK [] ⟨87, [(0, .b false)], []⟩ h0 ?_
      exact Jj1 false H
  · replace H := iF c11 H
    rw [eqF c11]
    refine goK hT 43 (K11 11111111111 1) ⟨87, [(0, .b false)], [qR v10.2.2, .box 32 (eC32 (v6.1)), .box 32 (eC32 (v9.1)), .box 32 (eC32 (v10.1))]⟩ ?_
    refine cutK [] ⟨87, [(0, .b false)], []⟩ h0 ?_
    exact Jj1 false H


theorem splicelaw06_HoldAll.says {t0 : Bool} (a0 : List api_Held) {r : Bool} (H : splicelaw06_HoldAll a0 = some r) : Says Try.prog 3 [] [.d (eL32 t0 a0)] [] (.b r) := by
  refine says_of Try.func3 rfl (nt := 130) rfl (Nat.le_of_ble_eq_true rfl) fun X hP h0 hX => ?_
  have hT : TabOk X.P T := hP ▸ tok
  have hf : X.P.funcs[3]? = some Try.f3 := hP ▸ Try.func3
  refine goK hT 6 (K3 110 0) ⟨130, [(0, .d (eL32 t0 a0))], []⟩ ?_
  refine ak_callP (avs := []) (dst := some 16) (k' := (K3 110 1)) [0, 16] [] hP enters_10 (qNew_says) (by kernel_rfl) (hands_none _) .nil (st' := ⟨130, [(0, .d (eL32 t0 a0)), (16, .ptr 0 0 0 0)], [qR qNew]⟩) (by kernel_rfl) ?_
  obtain ⟨v1, h1, H⟩ := idC H
  rw [← h1]
  refine goK hT 5 (K3 11100 0) ⟨130, [(0, .d (eL32 t0 a0)), (3, .ptr 0 0 0 0)], [qR v1]⟩ ?_
  obtain ⟨v2, h2, H⟩ := ibC H
  have Jj1 : ∀ (y1_22 : Bool), (splicelaw06_HoldAll.j1 a0 v1 y1_22) = some r → AK X 3 ((K3 1110 1)) (Back X [] (.b r)) ⟨130, [(0, .d (eL32 t0 a0)), (3, .ptr 0 0 0 0), (22, .b y1_22)], [qR v1]⟩ := by
    intro y1_22 H
    by_cases c4 : y1_22 = true
    · replace H := iT c4 H
      rw [c4]
      refine goK hT 5 (K3 111010 1) ⟨130, [(2, .b false)], [qR v1]⟩ ?_
      obtain rfl := retC H
      exact ak_ret hf hX (av := .b false) (by kernel_rfl) [] (sel_of_eq (by kernel_rfl)) (by decide) (by rw [h0]; rfl) (by kernel_rfl) (fun _ h => all_nil h) (.d (.v _))
    · replace H := iF c4 H
      rw [boF c4]
      refine goK hT 2 (K3 111 1) ⟨130, [(0, .d (eL32 t0 a0)), (3, .ptr 0 0 0 0)], [qR v1]⟩ ?_
      refine goK hT 11 (K3 11111010 0) ⟨130, [(0, .d (eL32 t0 a0)), (3, .ptr 0 0 0 0), (4, .ns), (5, .i 0)], [qR v1]⟩ ?_
      refine ak_nilS [0, 3, 4, 5] 4 9 32 (vec api_Held.e api_Held.z []) (st' := ⟨130, [(0, .d (eL32 t0 a0)), (3, .ptr 0 0 0 0), (4, .own 1 9 0 0), (5, .i 0)], [qR v1, eR32 ([] : List api_Held)]⟩) (by kernel_rfl) (by kernel_rfl) ?_
      have L : ∀ n, (∀ (x1_5 : Int) (x1_r0 : QL) (x1_r1 : List api_Held), iter (splicelaw06_HoldAll.step a0) n (.l1 x1_5 x1_r0 x1_r1) = some r → AK X 3 ((K3 11111010 0)) (Back X [] (.b r)) ⟨130, [(0, .d (eL32 t0 a0)), (3, .ptr 0 0 0 0), (4, .own 1 9 0 x1_r1.length), (5, .i x1_5)], [qR x1_r0, eR32 x1_r1]⟩) ∧ (∀ (x1_r1 : List api_Held) (x2_6 : Int) (x2_r0 : QL), iter (splicelaw06_HoldAll.step a0) n (.l2 x1_r1 x2_6 x2_r0) = some r → AK X 3 ((K3 111111010 0)) (Back X [] (.b r)) ⟨130, [(3, .ptr 0 0 0 0), (4, .own 1 9 0 x1_r1.length), (6, .i x2_6)], [qR x2_r0, eR32 x1_r1]⟩) ∧ (∀ (x3_9 : Int) (x3_r0 : QL) (x3_r1 : List api_Held) (x3_b2_0 : Int) (x3_b2_1 : Int) (x3_b2_2 : Int), iter (splicelaw06_HoldAll.step a0) n (.l3 x3_9 x3_r0 x3_r1 x3_b2_0 x3_b2_1 x3_b2_2) = some r → AK X 3 ((K3 11111111100 0)) (Back X [] (.b r)) ⟨130, [(3, .ptr 0 0 0 0), (4, .own 1 9 0 x3_r1.length), (9, .i x3_9), (10, .ptr 2 0 0 0)], [qR x3_r0, eR32 x3_r1, .box 37 [.i x3_b2_0, .i x3_b2_1, .i x3_b2_2]]⟩) := by
        intro n
        induction n with
        | zero => exact ⟨fun _ _ _ H => iter0 H, fun _ _ _ H => iter0 H, fun _ _ _ _ _ _ H => iter0 H⟩
        | succ n ih =>
          refine ⟨?_, ?_, ?_⟩
          · intro x1_5 x1_r0 x1_r1 H
            have Jj2 : ∀ (y2_31 : Bool), stk (splicelaw06_HoldAll.j2 a0 x1_5 x1_r0 x1_r1 y2_31) (iter (splicelaw06_HoldAll.step a0) n) = some r → AK X 3 ((K3 1111101000 1)) (Back X [] (.b r)) ⟨130, [(0, .d (eL32 t0 a0)), (3, .ptr 0 0 0 0), (4, .own 1 9 0 x1_r1.length), (5, .i x1_5), (31, .b y2_31)], [qR x1_r0, eR32 x1_r1]⟩ := by
              intro y2_31 H
              by_cases c6 : y2_31 = true
              · replace H := sT c6 H
                rw [c6]
                refine goK hT 2 (K3 111110100 1) ⟨130, [(0, .d (eL32 t0 a0)), (3, .ptr 0 0 0 0), (4, .own 1 9 0 x1_r1.length), (5, .i x1_5)], [qR x1_r0, eR32 x1_r1]⟩ ?_
                refine goK hT 6 (K3 1111101001000 2) ⟨130, [(0, .d (eL32 t0 a0)), (3, .ptr 0 0 0 0), (4, .own 1 9 0 x1_r1.length), (5, .i x1_5), (34, .d (eL32 t0 a0)), (35, .i x1_5)], [qR x1_r0, eR32 x1_r1]⟩ ?_
                obtain ⟨h7, H⟩ := sC H
                have Jj3 : ∀ (y3_50 : Bool) (y3_r0 : QL), stk (splicelaw06_HoldAll.j3 a0 x1_5 x1_r1 y3_50 y3_r0) (iter (splicelaw06_HoldAll.step a0) n) = some r → AK X 3 ((K3 111110100100 1)) (Back X [] (.b r)) ⟨130, [(0, .d (eL32 t0 a0)), (3, .ptr 0 0 0 0), (4, .own 1 9 0 x1_r1.length), (5, .i x1_5), (50, .b y3_50)], [qR y3_r0, eR32 x1_r1]⟩ := by
                  intro y3_50 y3_r0 H
                  have Jj4 : ∀ (y4_r1 : List api_Held), stk (splicelaw06_HoldAll.j4 x1_5 y3_r0 y4_r1) (iter (splicelaw06_HoldAll.step a0) n) = some r → AK X 3 ((K3 1111101001 1)) (Back X [] (.b r)) ⟨130, [(0, .d (eL32 t0 a0)), (3, .ptr 0 0 0 0), (4, .own 1 9 0 y4_r1.length), (5, .i x1_5)], [qR y3_r0, eR32 y4_r1]⟩ := by
                    intro y4_r1 H
                    refine goK hT 6 (K3 11111010 0) ⟨130, [(0, .d (eL32 t0 a0)), (3, .ptr 0 0 0 0), (4, .own 1 9 0 y4_r1.length), (5, .i (IntKind.wrap .i64 (x1_5 + 1)))], [qR y3_r0, eR32 y4_r1]⟩ ?_
                    refine cutK [0, 1] ⟨130, [(0, .d (eL32 t0 a0)), (3, .ptr 0 0 0 0), (4, .own 1 9 0 y4_r1.length), (5, .i (IntKind.wrap .i64 (x1_5 + 1)))], [qR y3_r0, eR32 y4_r1]⟩ h0 ?_
                    exact ih.1 (IntKind.wrap .i64 (x1_5 + 1)) y3_r0 y4_r1 H
                  by_cases c10 : y3_50 = true
                  · replace H := sT c10 H
                    rw [c10]
                    refine goK hT 5 (K3 11111010010010 3) ⟨130, [(0, .d (eL32 t0 a0)), (3, .ptr 0 0 0 0), (5, .i x1_5), (51, .own 1 9 0 x1_r1.length), (52, .d (eL32 t0 a0)), (53, .i x1_5)], [qR y3_r0, eR32 x1_r1]⟩ ?_
                    refine ak_idx hT [0, 3, 5, 51, 54] (i := x1_5) (n := (a0.length : Int)) h7.1 h7.2 (k' := (K3 11111010010010 4)) (st' := ⟨130, [(0, .d (eL32 t0 a0)), (3, .ptr 0 0 0 0), (5, .i x1_5), (51, .own 1 9 0 x1_r1.length), (54, .d (eP32 t0 a0 x1_5.toNat 0))], [qR y3_r0, eR32 x1_r1]⟩) (by kernel_rfl) ?_
                    refine goK hT 2 (K3 11111010010010 6) ⟨130, [(0, .d (eL32 t0 a0)), (3, .ptr 0 0 0 0), (5, .i x1_5), (51, .own 1 9 0 x1_r1.length), (56, .own 2 9 0 1)], [qR y3_r0, eR32 x1_r1, .flat false 9 32 1 (fun j => [api_Held.e (a0.getD x1_5.toNat api_Held.z)].getD j [])]⟩ ?_
                    obtain ⟨h11, H⟩ := sC H
                    refine ak_append1 (id := 1) (kk := 9) (by' := 88) (t := 22) (e := 32) (z := [.int .i64 0, .int .i64 0, .int .i64 0, .slice none 0 0, .int .i64 0, .int .i64 0, .int .i64 0, .int .i64 0, .bool false]) (dst := some 57) (id2 := 2) (e2 := 32) (fz := false) (k' := (K3 11111010010010 7)) hT api_Held.e api_Held.z x1_r1 (a0.getD x1_5.toNat api_Held.z) [0, 3, 5, 57] (by kernel_rfl) (by kernel_rfl) (by kernel_rfl) (by kernel_rfl) (by kernel_rfl) (by kernel_rfl) (by kernel_rfl) h11 (by omega) (st' := ⟨130, [(0, .d (eL32 t0 a0)), (3, .ptr 0 0 0 0), (5, .i x1_5), (57, .own 3 9 0 ((x1_r1 ++ [a0.getD x1_5.toNat api_Held.z]).length))], [qR y3_r0, .gone, .flat false 9 32 1 (fun j => [api_Held.e (a0.getD x1_5.toNat api_Held.z)].getD j []), eR32 (x1_r1 ++ [a0.getD x1_5.toNat api_Held.z])]⟩) (by kernel_rfl) ?_
                    refine goK hT 3 (K3 1111101001 1) ⟨130, [(0, .d (eL32 t0 a0)), (3, .ptr 0 0 0 0), (4, .own 3 9 0 ((x1_r1 ++ [a0.getD x1_5.toNat api_Held.z]).length)), (5, .i x1_5)], [qR y3_r0, .gone, .flat false 9 32 1 (fun j => [api_Held.e (a0.getD x1_5.toNat api_Held.z)].getD j []), eR32 (x1_r1 ++ [a0.getD x1_5.toNat api_Held.z])]⟩ ?_
                    refine cutK [0, 3] ⟨130, [(0, .d (eL32 t0 a0)), (3, .ptr 0 0 0 0), (4, .own 1 9 0 (x1_r1 ++ [a0.getD x1_5.toNat api_Held.z]).length), (5, .i x1_5)], [qR y3_r0, eR32 (x1_r1 ++ [a0.getD x1_5.toNat api_Held.z])]⟩ h0 ?_
                    exact Jj4 (x1_r1 ++ [a0.getD x1_5.toNat api_Held.z]) H
                  · replace H := sF c10 H
                    rw [boF c10]
                    refine goK hT 3 (K3 1111101001 1) ⟨130, [(0, .d (eL32 t0 a0)), (3, .ptr 0 0 0 0), (4, .own 1 9 0 x1_r1.length), (5, .i x1_5)], [qR y3_r0, eR32 x1_r1]⟩ ?_
                    refine cutK [0, 1] ⟨130, [(0, .d (eL32 t0 a0)), (3, .ptr 0 0 0 0), (4, .own 1 9 0 x1_r1.length), (5, .i x1_5)], [qR y3_r0, eR32 x1_r1]⟩ h0 ?_
                    exact Jj4 x1_r1 H
                refine ak_idx hT [0, 3, 4, 5, 36] (i := x1_5) (n := (a0.length : Int)) h7.1 h7.2 (k' := (K3 1111101001000 3)) (st' := ⟨130, [(0, .d (eL32 t0 a0)), (3, .ptr 0 0 0 0), (4, .own 1 9 0 x1_r1.length), (5, .i x1_5), (36, .d (eP32 t0 a0 x1_5.toNat 0))], [qR x1_r0, eR32 x1_r1]⟩) (by kernel_rfl) ?_
                refine goK hT 6 (K3 1111101001000 9) ⟨130, [(0, .d (eL32 t0 a0)), (3, .ptr 0 0 0 0), (4, .own 1 9 0 x1_r1.length), (5, .i x1_5), (42, .b (decide (((((a0.getD x1_5.toNat api_Held.z).M).Pairs).length : Int) ≤ 20)))], [qR x1_r0, eR32 x1_r1]⟩ ?_
                by_cases c8 : ((((a0.getD x1_5.toNat api_Held.z).M).Pairs).length : Int) ≤ 20
                · replace H := sT c8 H
                  rw [decide_eq_true c8]
                  refine goK hT 3 (K3 1111101001000 12) ⟨130, [(0, .d (eL32 t0 a0)), (3, .ptr 0 0 0 0), (4, .own 1 9 0 x1_r1.length), (5, .i x1_5), (42, .b true), (43, .ptr 0 0 0 0), (44, .d (eL32 t0 a0)), (45, .i x1_5)], [qR x1_r0, eR32 x1_r1]⟩ ?_
                  refine ak_idx hT [0, 3, 4, 5, 42, 43, 46] (i := x1_5) (n := (a0.length : Int)) h7.1 h7.2 (k' := (K3 1111101001000 13)) (st' := ⟨130, [(0, .d (eL32 t0 a0)), (3, .ptr 0 0 0 0), (4, .own 1 9 0 x1_r1.length), (5, .i x1_5), (42, .b true), (43, .ptr 0 0 0 0), (46, .d (eP32 t0 a0 x1_5.toNat 0))], [qR x1_r0, eR32 x1_r1]⟩) (by kernel_rfl) ?_
                  refine goK hT 1 (K3 1111101001000 14) ⟨130, [(0, .d (eL32 t0 a0)), (3, .ptr 0 0 0 0), (4, .own 1 9 0 x1_r1.length), (5, .i x1_5), (42, .b true), (43, .ptr 0 0 0 0), (47, .d (eG32 (a0.getD x1_5.toNat api_Held.z)))], [qR x1_r0, eR32 x1_r1]⟩ ?_
                  obtain ⟨v3, h9, H⟩ := sbC H
                  refine ak_callP (avs := [.ptr 0 0 0 0, .d (eG32 (a0.getD x1_5.toNat api_Held.z))]) (dst := some 48) (k' := (K3 1111101001000 15)) [0, 3, 4, 5, 42, 48] [0] hP enters_12 (qAdd_says x1_r0 (a0.getD x1_5.toNat api_Held.z) h9) (by kernel_rfl) (hands_one rfl rfl) (.cons (.same (.ptr 0 0 0 0)) (.cons (pass_d _) .nil)) (st' := ⟨130, [(0, .d (eL32 t0 a0)), (3, .ptr 0 0 0 0), (4, .own 1 9 0 x1_r1.length), (5, .i x1_5), (42, .b true), (48, .i v3.1)], [qR v3.2, eR32 x1_r1]⟩) (by kernel_rfl) ?_
                  refine goK hT 3 (K3 111110100100 1) ⟨130, [(0, .d (eL32 t0 a0)), (3, .ptr 0 0 0 0), (4, .own 1 9 0 x1_r1.length), (5, .i x1_5), (50, .b (v3.1 == 0))], [qR v3.2, eR32 x1_r1]⟩ ?_
                  refine cutK [0, 1] ⟨130, [(0, .d (eL32 t0 a0)), (3, .ptr 0 0 0 0), (4, .own 1 9 0 x1_r1.length), (5, .i x1_5), (50, .b (v3.1 == 0))], [qR v3.2, eR32 x1_r1]⟩ h0 ?_
                  exact Jj3 (v3.1 == 0) v3.2 H
                · replace H := sF c8 H
                  rw [decide_eq_false c8]
                  refine goK hT 9 (K3 111110100100 1) ⟨130, [(0, .d (eL32 t0 a0)), (3, .ptr 0 0 0 0), (4, .own 1 9 0 x1_r1.length), (5, .i x1_5), (50, .b false)], [qR x1_r0, eR32 x1_r1]⟩ ?_
                  refine cutK [0, 1] ⟨130, [(0, .d (eL32 t0 a0)), (3, .ptr 0 0 0 0), (4, .own 1 9 0 x1_r1.length), (5, .i x1_5), (50, .b false)], [qR x1_r0, eR32 x1_r1]⟩ h0 ?_
                  exact Jj3 false x1_r0 H
              · replace H := sF c6 H
                rw [boF c6]
                refine goK hT 9 (K3 111111010 0) ⟨130, [(3, .ptr 0 0 0 0), (4, .own 1 9 0 x1_r1.length), (6, .i 0)], [qR x1_r0, eR32 x1_r1]⟩ ?_
                refine cutK [0, 1] ⟨130, [(3, .ptr 0 0 0 0), (4, .own 1 9 0 x1_r1.length), (6, .i 0)], [qR x1_r0, eR32 x1_r1]⟩ h0 ?_
                exact ih.2.1 x1_r1 0 x1_r0 H
            refine goK hT 8 (K3 11111010000 5) ⟨130, [(0, .d (eL32 t0 a0)), (3, .ptr 0 0 0 0), (4, .own 1 9 0 x1_r1.length), (5, .i x1_5), (27, .b (decide (x1_5 < (a0.length : Int))))], [qR x1_r0, eR32 x1_r1]⟩ ?_
            by_cases c5 : x1_5 < (a0.length : Int)
            · replace H := sT c5 H
              rw [decide_eq_true c5]
              refine goK hT 5 (K3 1111101000 1) ⟨130, [(0, .d (eL32 t0 a0)), (3, .ptr 0 0 0 0), (4, .own 1 9 0 x1_r1.length), (5, .i x1_5), (31, .b (decide ((x1_r1.length : Int) < 60)))], [qR x1_r0, eR32 x1_r1]⟩ ?_
              refine cutK [0, 1] ⟨130, [(0, .d (eL32 t0 a0)), (3, .ptr 0 0 0 0), (4, .own 1 9 0 x1_r1.length), (5, .i x1_5), (31, .b (decide ((x1_r1.length : Int) < 60)))], [qR x1_r0, eR32 x1_r1]⟩ h0 ?_
              exact Jj2 (decide ((x1_r1.length : Int) < 60)) H
            · replace H := sF c5 H
              rw [decide_eq_false c5]
              refine goK hT 5 (K3 1111101000 1) ⟨130, [(0, .d (eL32 t0 a0)), (3, .ptr 0 0 0 0), (4, .own 1 9 0 x1_r1.length), (5, .i x1_5), (31, .b false)], [qR x1_r0, eR32 x1_r1]⟩ ?_
              refine cutK [0, 1] ⟨130, [(0, .d (eL32 t0 a0)), (3, .ptr 0 0 0 0), (4, .own 1 9 0 x1_r1.length), (5, .i x1_5), (31, .b false)], [qR x1_r0, eR32 x1_r1]⟩ h0 ?_
              exact Jj2 false H
          · intro x1_r1 x2_6 x2_r0 H
            refine goK hT 8 (K3 11111101000 1) ⟨130, [(3, .ptr 0 0 0 0), (4, .own 1 9 0 x1_r1.length), (6, .i x2_6), (61, .b (decide (x2_6 < (x1_r1.length : Int))))], [qR x2_r0, eR32 x1_r1]⟩ ?_
            by_cases c12 : x2_6 < (x1_r1.length : Int)
            · replace H := sT c12 H
              rw [decide_eq_true c12]
              refine goK hT 2 (K3 1111110100 1) ⟨130, [(3, .ptr 0 0 0 0), (4, .own 1 9 0 x1_r1.length), (6, .i x2_6)], [qR x2_r0, eR32 x1_r1]⟩ ?_
              refine goK hT 6 (K3 11111101001000 2) ⟨130, [(3, .ptr 0 0 0 0), (4, .own 1 9 0 x1_r1.length), (6, .i x2_6), (64, .own 1 9 0 x1_r1.length), (65, .i x2_6)], [qR x2_r0, eR32 x1_r1]⟩ ?_
              obtain ⟨h13, H⟩ := sC H
              refine ak_idx hT [3, 4, 6, 66] (i := x2_6) (n := (x1_r1.length : Int)) h13.1 h13.2 (k' := (K3 11111101001000 3)) (st' := ⟨130, [(3, .ptr 0 0 0 0), (4, .own 1 9 0 x1_r1.length), (6, .i x2_6), (66, .ptr 1 9 x2_6.toNat 0)], [qR x2_r0, eR32 x1_r1]⟩) (by kernel_rfl) ?_
              refine ak_ld hT [3, 4, 6, 67] (i := x2_6.toNat) (n := x1_r1.length) (ltN h13.1 h13.2) (k' := (K3 11111101001000 4)) (st' := ⟨130, [(3, .ptr 0 0 0 0), (4, .own 1 9 0 x1_r1.length), (6, .i x2_6), (67, .d (eG32 (x1_r1.getD x2_6.toNat api_Held.z)))], [qR x2_r0, eR32 x1_r1]⟩) (by kernel_rfl) ?_
              refine goK hT 14 (K3 111111010010010 9) ⟨130, [(3, .ptr 0 0 0 0), (4, .own 1 9 0 x1_r1.length), (6, .i x2_6), (7, .ptr 2 0 0 0), (68, .ptr 0 0 0 0), (71, .i (((x1_r1.getD x2_6.toNat api_Held.z).M).Client)), (74, .i (((x1_r1.getD x2_6.toNat api_Held.z).M).Seq)), (76, .i ((x1_r1.getD x2_6.toNat api_Held.z).Time))], [qR x2_r0, eR32 x1_r1, .box 32 (eC32 (x1_r1.getD x2_6.toNat api_Held.z))]⟩ ?_
              refine ak_callP (avs := [.ptr 0 0 0 0, .i (((x1_r1.getD x2_6.toNat api_Held.z).M).Client), .i (((x1_r1.getD x2_6.toNat api_Held.z).M).Seq), .i ((x1_r1.getD x2_6.toNat api_Held.z).Time)]) (dst := some 77) (k' := (K3 111111010010010 10)) [3, 4, 6, 7, 77] [0] hP enters_13 (qFinal_says x2_r0 (((x1_r1.getD x2_6.toNat api_Held.z).M).Client) (((x1_r1.getD x2_6.toNat api_Held.z).M).Seq) ((x1_r1.getD x2_6.toNat api_Held.z).Time)) (by kernel_rfl) (hands_one rfl rfl) (.cons (.same (.ptr 0 0 0 0)) (.cons (pass_d _) (.cons (pass_d _) (.cons (pass_d _) .nil)))) (st' := ⟨130, [(3, .ptr 0 0 0 0), (4, .own 1 9 0 x1_r1.length), (6, .i x2_6), (7, .ptr 2 0 0 0), (77, .i ((qFinal x2_r0 (((x1_r1.getD x2_6.toNat api_Held.z).M).Client) (((x1_r1.getD x2_6.toNat api_Held.z).M).Seq) ((x1_r1.getD x2_6.toNat api_Held.z).Time)).1))], [qR ((qFinal x2_r0 (((x1_r1.getD x2_6.toNat api_Held.z).M).Client) (((x1_r1.getD x2_6.toNat api_Held.z).M).Seq) ((x1_r1.getD x2_6.toNat api_Held.z).Time)).2), eR32 x1_r1, .box 32 (eC32 (x1_r1.getD x2_6.toNat api_Held.z))]⟩) (by kernel_rfl) ?_
              obtain ⟨v4, h14, H⟩ := sdC H
              have Jj5 : ∀ (y5_91 : Bool), stk (splicelaw06_HoldAll.j5 x1_r1 x2_6 v4 y5_91) (iter (splicelaw06_HoldAll.step a0) n) = some r → AK X 3 ((K3 111111010010011 1)) (Back X [] (.b r)) ⟨130, [(3, .ptr 0 0 0 0), (4, .own 1 9 0 x1_r1.length), (6, .i x2_6), (91, .b y5_91)], [qR v4.2, eR32 x1_r1]⟩ := by
                intro y5_91 H
                by_cases c18 : y5_91 = true
                · replace H := sT c18 H
                  rw [c18]
                  refine goK hT 5 (K3 11111101001001110 1) ⟨130, [(2, .b false)], [qR v4.2, eR32 x1_r1]⟩ ?_
                  obtain rfl := retC H
                  exact ak_ret hf hX (av := .b false) (by kernel_rfl) [] (sel_of_eq (by kernel_rfl)) (by decide) (by rw [h0]; rfl) (by kernel_rfl) (fun _ h => all_nil h) (.d (.v _))
                · replace H := sF c18 H
                  rw [boF c18]
                  refine goK hT 3 (K3 11111101001 1) ⟨130, [(3, .ptr 0 0 0 0), (4, .own 1 9 0 x1_r1.length), (6, .i x2_6)], [qR v4.2, eR32 x1_r1]⟩ ?_
                  refine goK hT 6 (K3 111111010 0) ⟨130, [(3, .ptr 0 0 0 0), (4, .own 1 9 0 x1_r1.length), (6, .i (IntKind.wrap .i64 (x2_6 + 1)))], [qR v4.2, eR32 x1_r1]⟩ ?_
                  refine cutK [0, 1] ⟨130, [(3, .ptr 0 0 0 0), (4, .own 1 9 0 x1_r1.length), (6, .i (IntKind.wrap .i64 (x2_6 + 1)))], [qR v4.2, eR32 x1_r1]⟩ h0 ?_
                  exact ih.2.1 x1_r1 (IntKind.wrap .i64 (x2_6 + 1)) v4.2 H
              rw [← h14]
              refine goK hT 10 (K3 1111110100100110 6) ⟨130, [(3, .ptr 0 0 0 0), (4, .own 1 9 0 x1_r1.length), (6, .i x2_6), (7, .ptr 2 0 0 0), (8, .i v4.1), (83, .b (!(((x1_r1.getD x2_6.toNat api_Held.z).Final) == (v4.1 == 7))))], [qR v4.2, eR32 x1_r1, .box 32 (eC32 (x1_r1.getD x2_6.toNat api_Held.z))]⟩ ?_
              by_cases c15 : ((x1_r1.getD x2_6.toNat api_Held.z).Final) = true
              · replace H := sT c15 H
                rw [c15]
                by_cases c16 : v4.1 = 7
                · replace H := sT c16 H
                  rw [eqT c16]
                  refine goK hT 4 (K3 1111110100100110 10) ⟨130, [(3, .ptr 0 0 0 0), (4, .own 1 9 0 x1_r1.length), (6, .i x2_6), (8, .i v4.1), (83, .b false), (87, .b (!((x1_r1.getD x2_6.toNat api_Held.z).Final)))], [qR v4.2, eR32 x1_r1, .box 32 (eC32 (x1_r1.getD x2_6.toNat api_Held.z))]⟩ ?_
                  rw [c15]
                  refine goK hT 5 (K3 111111010010011 1) ⟨130, [(3, .ptr 0 0 0 0), (4, .own 1 9 0 x1_r1.length), (6, .i x2_6), (91, .b false)], [qR v4.2, eR32 x1_r1, .box 32 (eC32 (x1_r1.getD x2_6.toNat api_Held.z))]⟩ ?_
                  refine cutK [0, 1] ⟨130, [(3, .ptr 0 0 0 0), (4, .own 1 9 0 x1_r1.length), (6, .i x2_6), (91, .b false)], [qR v4.2, eR32 x1_r1]⟩ h0 ?_
                  exact Jj5 false H
                · replace H := sF c16 H
                  rw [eqF c16]
                  refine goK hT 9 (K3 111111010010011 1) ⟨130, [(3, .ptr 0 0 0 0), (4, .own 1 9 0 x1_r1.length), (6, .i x2_6), (91, .b true)], [qR v4.2, eR32 x1_r1, .box 32 (eC32 (x1_r1.getD x2_6.toNat api_Held.z))]⟩ ?_
                  refine cutK [0, 1] ⟨130, [(3, .ptr 0 0 0 0), (4, .own 1 9 0 x1_r1.length), (6, .i x2_6), (91, .b true)], [qR v4.2, eR32 x1_r1]⟩ h0 ?_
                  exact Jj5 true H
              · replace H := sF c15 H
                rw [boF c15]
                by_cases c17 : v4.1 = 7
                · replace H := sT c17 H
                  rw [eqT c17]
                  refine goK hT 9 (K3 111111010010011 1) ⟨130, [(3, .ptr 0 0 0 0), (4, .own 1 9 0 x1_r1.length), (6, .i x2_6), (91, .b true)], [qR v4.2, eR32 x1_r1, .box 32 (eC32 (x1_r1.getD x2_6.toNat api_Held.z))]⟩ ?_
                  refine cutK [0, 1] ⟨130, [(3, .ptr 0 0 0 0), (4, .own 1 9 0 x1_r1.length), (6, .i x2_6), (91, .b true)], [qR v4.2, eR32 x1_r1]⟩ h0 ?_
                  exact Jj5 true H
                · replace H := sF c17 H
                  rw [eqF c17]
                  refine goK hT 4 (K3 1111110100100110 10) ⟨130, [(3, .ptr 0 0 0 0), (4, .own 1 9 0 x1_r1.length), (6, .i x2_6), (8, .i v4.1), (83, .b false), (87, .b (!((x1_r1.getD x2_6.toNat api_Held.z).Final)))], [qR v4.2, eR32 x1_r1, .box 32 (eC32 (x1_r1.getD x2_6.toNat api_Held.z))]⟩ ?_
                  rw [boF c15]
                  refine goK hT 5 (K3 111111010010011 1) ⟨130, [(3, .ptr 0 0 0 0), (4, .own 1 9 0 x1_r1.length), (6, .i x2_6), (91, .b (v4.1 != 0))], [qR v4.2, eR32 x1_r1, .box 32 (eC32 (x1_r1.getD x2_6.toNat api_Held.z))]⟩ ?_
                  refine cutK [0, 1] ⟨130, [(3, .ptr 0 0 0 0), (4, .own 1 9 0 x1_r1.length), (6, .i x2_6), (91, .b (v4.1 != 0))], [qR v4.2, eR32 x1_r1]⟩ h0 ?_
                  exact Jj5 (v4.1 != 0) H
            · replace H := sF c12 H
              rw [decide_eq_false c12]
              refine goK hT 15 (K3 11111111100 0) ⟨130, [(3, .ptr 0 0 0 0), (4, .own 1 9 0 x1_r1.length), (9, .i 0), (10, .ptr 2 0 0 0)], [qR x2_r0, eR32 x1_r1, .box 37 [.i (-1), .i 0, .i 0]]⟩ ?_
              refine cutK [0, 1, 2] ⟨130, [(3, .ptr 0 0 0 0), (4, .own 1 9 0 x1_r1.length), (9, .i 0), (10, .ptr 2 0 0 0)], [qR x2_r0, eR32 x1_r1, .box 37 [.i (-1), .i 0, .i 0]]⟩ h0 ?_
              exact ih.2.2 0 x2_r0 x1_r1 (-1) 0 0 H
          · intro x3_9 x3_r0 x3_r1 x3_b2_0 x3_b2_1 x3_b2_2 H
            refine goK hT 4 (K3 11111111100000 1) ⟨130, [(3, .ptr 0 0 0 0), (4, .own 1 9 0 x3_r1.length), (9, .i x3_9), (10, .ptr 2 0 0 0), (93, .ptr 0 0 0 0)], [qR x3_r0, eR32 x3_r1, .box 37 [.i x3_b2_0, .i x3_b2_1, .i x3_b2_2]]⟩ ?_
            refine ak_callP (avs := [.ptr 0 0 0 0]) (dst := some 94) (k' := (K3 11111111100000 2)) [3, 4, 9, 10, 94] [0] hP enters_14 (qLen_says x3_r0) (by kernel_rfl) (hands_one rfl rfl) (.cons (.same (.ptr 0 0 0 0)) .nil) (st' := ⟨130, [(3, .ptr 0 0 0 0), (4, .own 1 9 0 x3_r1.length), (9, .i x3_9), (10, .ptr 2 0 0 0), (94, .i (qLen x3_r0))], [qR x3_r0, eR32 x3_r1, .box 37 [.i x3_b2_0, .i x3_b2_1, .i x3_b2_2]]⟩) (by kernel_rfl) ?_
            refine goK hT 2 (K3 1111111110000 1) ⟨130, [(3, .ptr 0 0 0 0), (4, .own 1 9 0 x3_r1.length), (9, .i x3_9), (10, .ptr 2 0 0 0), (95, .b (decide ((qLen x3_r0) > 0)))], [qR x3_r0, eR32 x3_r1, .box 37 [.i x3_b2_0, .i x3_b2_1, .i x3_b2_2]]⟩ ?_
            by_cases c19 : (qLen x3_r0) > 0
            · replace H := sT c19 H
              rw [decide_eq_true c19]
              refine goK hT 2 (K3 111111111000 1) ⟨130, [(3, .ptr 0 0 0 0), (4, .own 1 9 0 x3_r1.length), (9, .i x3_9), (10, .ptr 2 0 0 0)], [qR x3_r0, eR32 x3_r1, .box 37 [.i x3_b2_0, .i x3_b2_1, .i x3_b2_2]]⟩ ?_
              refine goK hT 4 (K3 111111111000100 1) ⟨130, [(3, .ptr 0 0 0 0), (4, .own 1 9 0 x3_r1.length), (9, .i x3_9), (10, .ptr 2 0 0 0), (97, .ptr 0 0 0 0)], [qR x3_r0, eR32 x3_r1, .box 37 [.i x3_b2_0, .i x3_b2_1, .i x3_b2_2]]⟩ ?_
              refine ak_callP (avs := [.ptr 0 0 0 0]) (dst := some 98) (k' := (K3 111111111000100 2)) [3, 4, 9, 10, 98] [0] hP enters_15 (qPop_says x3_r0) (by kernel_rfl) (hands_one rfl rfl) (.cons (.same (.ptr 0 0 0 0)) .nil) (st' := ⟨130, [(3, .ptr 0 0 0 0), (4, .own 1 9 0 x3_r1.length), (9, .i x3_9), (10, .ptr 2 0 0 0), (98, .tup [.d (eG32 ((qPop x3_r0).1)), .b ((qPop x3_r0).2.1)])], [qR ((qPop x3_r0).2.2), eR32 x3_r1, .box 37 [.i x3_b2_0, .i x3_b2_1, .i x3_b2_2]]⟩) (by kernel_rfl) ?_
              obtain ⟨v6, h22, H⟩ := sdC H
              rw [← h22]
              refine goK hT 13 (K3 1111111110001010 4) ⟨130, [(3, .ptr 0 0 0 0), (4, .own 1 9 0 x3_r1.length), (9, .i x3_9), (10, .ptr 2 0 0 0), (12, .b v6.2.1), (102, .i ((v6.1).Time)), (104, .d (eG30 ((v6.1).M)))], [qR v6.2.2, eR32 x3_r1, .box 37 [.i x3_b2_0, .i x3_b2_1, .i x3_b2_2], .box 32 (eC32 (v6.1))]⟩ ?_
              refine ak_callP (avs := [.i ((v6.1).Time), .d (eG30 ((v6.1).M))]) (dst := some 105) (k' := (K3 1111111110001010 5)) [3, 4, 9, 10, 12, 105] [] hP enters_16 (mut_Stamp.says ((v6.1).Time) ((v6.1).M)) (by kernel_rfl) (hands_none _) (.cons (pass_d _) (.cons (pass_d _) .nil)) (st' := ⟨130, [(3, .ptr 0 0 0 0), (4, .own 1 9 0 x3_r1.length), (9, .i x3_9), (10, .ptr 2 0 0 0), (12, .b v6.2.1), (105, .d (eG37 (mut_Stamp ((v6.1).Time) ((v6.1).M))))], [qR v6.2.2, eR32 x3_r1, .box 37 [.i x3_b2_0, .i x3_b2_1, .i x3_b2_2], .box 32 (eC32 (v6.1))]⟩) (by kernel_rfl) ?_
              obtain ⟨v7, h23, H⟩ := sdC H
              have Jj7 : ∀ (y7_113 : Bool), stk (splicelaw06_HoldAll.j7 x3_9 x3_r1 v6 v7 y7_113) (iter (splicelaw06_HoldAll.step a0) n) = some r → AK X 3 ((K3 11111111100010110 1)) (Back X [] (.b r)) ⟨130, [(3, .ptr 0 0 0 0), (4, .own 1 9 0 x3_r1.length), (9, .i x3_9), (10, .ptr 2 0 0 0), (13, .ptr 3 0 0 0), (113, .b y7_113)], [qR v6.2.2, eR32 x3_r1, .box 37 [.i x3_b2_0, .i x3_b2_1, .i x3_b2_2], .box 37 (eC37 v7)]⟩ := by
                intro y7_113 H
                by_cases c26 : y7_113 = true
                · replace H := sT c26 H
                  rw [c26]
                  refine goK hT 5 (K3 1111111110001011010 1) ⟨130, [(2, .b false)], [qR v6.2.2, eR32 x3_r1, .box 37 [.i x3_b2_0, .i x3_b2_1, .i x3_b2_2], .box 37 (eC37 v7)]⟩ ?_
                  obtain rfl := retC H
                  exact ak_ret hf hX (av := .b false) (by kernel_rfl) [] (sel_of_eq (by kernel_rfl)) (by decide) (by rw [h0]; rfl) (by kernel_rfl) (fun _ h => all_nil h) (.d (.v _))
                · replace H := sF c26 H
                  rw [boF c26]
                  refine goK hT 2 (K3 1111111110001011 1) ⟨130, [(3, .ptr 0 0 0 0), (4, .own 1 9 0 x3_r1.length), (9, .i x3_9), (10, .ptr 2 0 0 0), (13, .ptr 3 0 0 0)], [qR v6.2.2, eR32 x3_r1, .box 37 [.i x3_b2_0, .i x3_b2_1, .i x3_b2_2], .box 37 (eC37 v7)]⟩ ?_
                  refine goK hT 12 (K3 11111111100 0) ⟨130, [(3, .ptr 0 0 0 0), (4, .own 1 9 0 x3_r1.length), (9, .i (IntKind.wrap .i64 (x3_9 + 1))), (10, .ptr 2 0 0 0)], [qR v6.2.2, eR32 x3_r1, .box 37 (eC37 v7), .box 37 (eC37 v7)]⟩ ?_
                  refine cutK [0, 1, 2] ⟨130, [(3, .ptr 0 0 0 0), (4, .own 1 9 0 x3_r1.length), (9, .i (IntKind.wrap .i64 (x3_9 + 1))), (10, .ptr 2 0 0 0)], [qR v6.2.2, eR32 x3_r1, .box 37 [.i v7.Time, .i v7.Client, .i v7.Seq]]⟩ h0 ?_
                  exact ih.2.2 (IntKind.wrap .i64 (x3_9 + 1)) v6.2.2 x3_r1 v7.Time v7.Client v7.Seq H
              rw [← h23]
              refine goK hT 9 (K3 111111111000101100 3) ⟨130, [(3, .ptr 0 0 0 0), (4, .own 1 9 0 x3_r1.length), (9, .i x3_9), (10, .ptr 2 0 0 0), (13, .ptr 4 0 0 0), (108, .b (!v6.2.1))], [qR v6.2.2, eR32 x3_r1, .box 37 [.i x3_b2_0, .i x3_b2_1, .i x3_b2_2], .box 32 (eC32 (v6.1)), .box 37 (eC37 v7)]⟩ ?_
              by_cases c24 : v6.2.1 = true
              · replace H := sT c24 H
                rw [c24]
                refine goK hT 2 (K3 111111111000101100 5) ⟨130, [(3, .ptr 0 0 0 0), (4, .own 1 9 0 x3_r1.length), (9, .i x3_9), (10, .ptr 2 0 0 0), (13, .ptr 4 0 0 0), (108, .b false), (109, .d (.agg [.i x3_b2_0, .i x3_b2_1, .i x3_b2_2])), (110, .d (eG37 v7))], [qR v6.2.2, eR32 x3_r1, .box 37 [.i x3_b2_0, .i x3_b2_1, .i x3_b2_2], .box 32 (eC32 (v6.1)), .box 37 (eC37 v7)]⟩ ?_
                obtain ⟨v8, h25, H⟩ := sbC H
                refine ak_callP (avs := [.d (.agg [.i x3_b2_0, .i x3_b2_1, .i x3_b2_2]), .d (eG37 v7)]) (dst := some 111) (k' := (K3 111111111000101100 6)) [3, 4, 9, 10, 13, 108, 111] [] hP enters_17 (mut_Compare.says (⟨x3_b2_0, x3_b2_1, x3_b2_2⟩ : api_Stamp) v7 h25) (by kernel_rfl) (hands_none _) (.cons (pass_d _) (.cons (pass_d _) .nil)) (st' := ⟨130, [(3, .ptr 0 0 0 0), (4, .own 1 9 0 x3_r1.length), (9, .i x3_9), (10, .ptr 2 0 0 0), (13, .ptr 4 0 0 0), (108, .b false), (111, .i v8)], [qR v6.2.2, eR32 x3_r1, .box 37 [.i x3_b2_0, .i x3_b2_1, .i x3_b2_2], .box 32 (eC32 (v6.1)), .box 37 (eC37 v7)]⟩) (by kernel_rfl) ?_
                refine goK hT 3 (K3 11111111100010110 1) ⟨130, [(3, .ptr 0 0 0 0), (4, .own 1 9 0 x3_r1.length), (9, .i x3_9), (10, .ptr 2 0 0 0), (13, .ptr 4 0 0 0), (113, .b (decide (v8 ≥ 0)))], [qR v6.2.2, eR32 x3_r1, .box 37 [.i x3_b2_0, .i x3_b2_1, .i x3_b2_2], .box 32 (eC32 (v6.1)), .box 37 (eC37 v7)]⟩ ?_
                refine cutK [0, 1, 2, 4] ⟨130, [(3, .ptr 0 0 0 0), (4, .own 1 9 0 x3_r1.length), (9, .i x3_9), (10, .ptr 2 0 0 0), (13, .ptr 3 0 0 0), (113, .b (decide (v8 ≥ 0)))], [qR v6.2.2, eR32 x3_r1, .box 37 [.i x3_b2_0, .i x3_b2_1, .i x3_b2_2], .box 37 (eC37 v7)]⟩ h0 ?_
                exact Jj7 (decide (v8 ≥ 0)) H
              · replace H := sF c24 H
                rw [boF c24]
                refine goK hT 6 (K3 11111111100010110 1) ⟨130, [(3, .ptr 0 0 0 0), (4, .own 1 9 0 x3_r1.length), (9, .i x3_9), (10, .ptr 2 0 0 0), (13, .ptr 4 0 0 0), (113, .b true)], [qR v6.2.2, eR32 x3_r1, .box 37 [.i x3_b2_0, .i x3_b2_1, .i x3_b2_2], .box 32 (eC32 (v6.1)), .box 37 (eC37 v7)]⟩ ?_
                refine cutK [0, 1, 2, 4] ⟨130, [(3, .ptr 0 0 0 0), (4, .own 1 9 0 x3_r1.length), (9, .i x3_9), (10, .ptr 2 0 0 0), (13, .ptr 3 0 0 0), (113, .b true)], [qR v6.2.2, eR32 x3_r1, .box 37 [.i x3_b2_0, .i x3_b2_1, .i x3_b2_2], .box 37 (eC37 v7)]⟩ h0 ?_
                exact Jj7 true H
            · replace H := sF c19 H
              rw [decide_eq_false c19]
              refine goK hT 5 (K3 11111111110 1) ⟨130, [(4, .own 1 9 0 x3_r1.length), (9, .i x3_9), (118, .ptr 0 0 0 0)], [qR x3_r0, eR32 x3_r1, .box 37 [.i x3_b2_0, .i x3_b2_1, .i x3_b2_2]]⟩ ?_
              refine ak_callP (avs := [.ptr 0 0 0 0]) (dst := some 119) (k' := (K3 11111111110 2)) [4, 9, 119] [0] hP enters_15 (qPop_says x3_r0) (by kernel_rfl) (hands_one rfl rfl) (.cons (.same (.ptr 0 0 0 0)) .nil) (st' := ⟨130, [(4, .own 1 9 0 x3_r1.length), (9, .i x3_9), (119, .tup [.d (eG32 ((qPop x3_r0).1)), .b ((qPop x3_r0).2.1)])], [qR ((qPop x3_r0).2.2), eR32 x3_r1, .box 37 [.i x3_b2_0, .i x3_b2_1, .i x3_b2_2]]⟩) (by kernel_rfl) ?_
              obtain ⟨v5, h20, H⟩ := sdC H
              have Jj6 : ∀ (y6_2 : Bool), stk (splicelaw06_HoldAll.j6 y6_2) (iter (splicelaw06_HoldAll.step a0) n) = some r → AK X 3 ((K3 11111111111 1)) (Back X [] (.b r)) ⟨130, [(2, .b y6_2)], []⟩ := by
                intro y6_2 H
                obtain rfl := retC H
                exact ak_ret hf hX (av := .b y6_2) (by kernel_rfl) [] (sel_of_eq (by kernel_rfl)) (by decide) (by rw [h0]; rfl) (by kernel_rfl) (fun _ h => all_nil h) (.d (.v _))
              rw [← h20]
              refine goK hT 14 (K3 111111111110 5) ⟨130, [(15, .b v5.2.1), (126, .b (x3_9 == (x3_r1.length : Int)))], [qR v5.2.2, eR32 x3_r1, .box 37 [.i x3_b2_0, .i x3_b2_1, .i x3_b2_2], .box 32 (eC32 (v5.1))]⟩ ?_
              by_cases c21 : x3_9 = (x3_r1.length : Int)
              · replace H := sT c21 H
                rw [eqT c21]
                refine goK hT 5 (K3 11111111111 1) ⟨130, [(2, .b (!v5.2.1))], [qR v5.2.2, eR32 x3_r1, .box 37 [.i x3_b2_0, .i x3_b2_1, .i x3_b2_2], .box 32 (eC32 (v5.1))]⟩ ?_
                refine cutK [] ⟨130, [(2, .b (!v5.2.1))], []⟩ h0 ?_
                exact Jj6 (!v5.2.1) H
              · replace H := sF c21 H
                rw [eqF c21]
                refine goK hT 5 (K3 11111111111 1) ⟨130, [(2, .b false)], [qR v5.2.2, eR32 x3_r1, .box 37 [.i x3_b2_0, .i x3_b2_1, .i x3_b2_2], .box 32 (eC32 (v5.1))]⟩ ?_
                refine cutK [] ⟨130, [(2, .b false)], []⟩ h0 ?_
                exact Jj6 false H
      refine cutK [0, 1] ⟨130, [(0, .d (eL32 t0 a0)), (3, .ptr 0 0 0 0), (4, .own 1 9 0 ([] : List api_Held).length), (5, .i 0)], [qR v1, eR32 ([] : List api_Held)]⟩ h0 ?_
      obtain ⟨n, H⟩ := loopC H
      exact (L n).1 0 v1 ([] : List api_Held) H
  refine ak_callP (avs := []) (dst := some 17) (k' := (K3 11100 1)) [0, 3, 17] [] hP enters_11 (splicelaw06_awake.says h2) (by kernel_rfl) (hands_none _) .nil (st' := ⟨130, [(0, .d (eL32 t0 a0)), (3, .ptr 0 0 0 0), (17, .b v2)], [qR v1]⟩) (by kernel_rfl) ?_
  refine goK hT 2 (K3 11100 3) ⟨130, [(0, .d (eL32 t0 a0)), (3, .ptr 0 0 0 0), (19, .b (!v2))], [qR v1]⟩ ?_
  by_cases c3 : v2 = true
  · replace H := iT c3 H
    rw [c3]
    refine goK hT 4 (K3 1110 1) ⟨130, [(0, .d (eL32 t0 a0)), (3, .ptr 0 0 0 0), (22, .b false)], [qR v1]⟩ ?_
    refine cutK [0] ⟨130, [(0, .d (eL32 t0 a0)), (3, .ptr 0 0 0 0), (22, .b false)], [qR v1]⟩ h0 ?_
    exact Jj1 false H
  · replace H := iF c3 H
    rw [boF c3]
    refine goK hT 4 (K3 1110 1) ⟨130, [(0, .d (eL32 t0 a0)), (3, .ptr 0 0 0 0), (22, .b true)], [qR v1]⟩ ?_
    refine cutK [0] ⟨130, [(0, .d (eL32 t0 a0)), (3, .ptr 0 0 0 0), (22, .b true)], [qR v1]⟩ h0 ?_
    exact Jj1 true H
end Go.SyP
