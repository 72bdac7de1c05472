/- Certificates, printed by gen.py. -/
import Derived.Test.YtboaahlhgekbbaaG06LP
import Derived.Test.YtboaahlhgekbbaaG06A
set_option linter.unusedVariables false
set_option linter.unusedSimpArgs false
namespace Go.SyP
open Go Go.Sy Go.Proofs


theorem splicelaw06_del.says (a0 : Int) (a1 : Int) : Says Try.prog 31 [] [.i a0, .i a1] [] (.d (eG30 (splicelaw06_del a0 a1))) := by
  obtain ⟨r, H⟩ : ∃ r, splicelaw06_del a0 a1 = r := ⟨_, rfl⟩
  rw [H]
  refine says_of Try.func31 rfl (nt := 9) rfl (Nat.le_of_ble_eq_true rfl) fun X hP h0 hX => ?_
  have hT : TabOk X.P T := hP ▸ tok
  have hf : X.P.funcs[31]? = some Try.f31 := hP ▸ Try.func31
  refine goK hT 10 (K31 110 4) ⟨9, [(4, .ptr 0 0 0 0), (8, .d (.agg [.i a0, .i a1, .i 2, .ns, .i 1, .i 2, .i 0]))], [.box 30 [.i 0, .i 0, .i 0, .ns, .i 0, .i 0, .i 0]]⟩ ?_
  refine ak_sealS (av := .d (.agg [.i a0, .i a1, .i 2, .ns, .i 1, .i 2, .i 0])) (y := .agg [.i a0, .i a1, .i 2, eL70 true ([] : List api_Pair), .i 1, .i 2, .i 0]) [4, 8] 8 (st' := ⟨9, [(4, .ptr 0 0 0 0), (8, .d (.agg [.i a0, .i a1, .i 2, eL70 true ([] : List api_Pair), .i 1, .i 2, .i 0]))], [.box 30 [.i 0, .i 0, .i 0, .ns, .i 0, .i 0, .i 0]]⟩) (by kernel_rfl) (.aggd (.cons (.d _) (.cons (.d _) (.cons (.d _) (.cons (.nil _) (.cons (.d _) (.cons (.d _) (.cons (.d _) .nil)))))))) (by kernel_rfl) ?_
  refine goK hT 2 (K31 11 1) ⟨9, [(4, .ptr 0 0 0 0)], [.box 30 [.i a0, .i a1, .i 2, .d (eL70 true ([] : List api_Pair)), .i 1, .i 2, .i 0]]⟩ ?_
  obtain rfl := H
  exact ak_retM hT hf hX (av := .d (.agg [.i a0, .i a1, .i 2, eL70 true ([] : List api_Pair), .i 1, .i 2, .i 0])) (by kernel_rfl) [] (sel_of_eq (by kernel_rfl)) (by decide) (by rw [h0]; rfl) (by kernel_rfl) (fun _ h => all_nil h) (.d (.agg (api_Mut.nl _)))


theorem splicelaw06_awake.says {r : Bool} (H : splicelaw06_awake = some r) : Says Try.prog 11 [] [] [] (.b r) := by
  refine says_of Try.func11 rfl (nt := 87) rfl (Nat.le_of_ble_eq_true rfl) fun X hP h0 hX => ?_
  have hT : TabOk X.P T := hP ▸ tok
  have hf : X.P.funcs[11]? = some Try.f11 := hP ▸ Try.func11
  refine goK hT 6 (K11 110 0) ⟨87, [], []⟩ ?_
  refine ak_callP (avs := []) (dst := some 13) (k' := (K11 110 1)) [13] [] hP enters_10 (qNew_says) (by kernel_rfl) (hands_none _) .nil (st' := ⟨87, [(13, .ptr 0 0 0 0)], [qR qNew]⟩) (by kernel_rfl) ?_
  obtain ⟨v1, h1, H⟩ := idC H
  rw [← h1]
  refine goK hT 5 (K11 1110 1) ⟨87, [(1, .ptr 0 0 0 0), (14, .ptr 0 0 0 0)], [qR v1]⟩ ?_
  refine ak_callP (avs := [.i 1, .i 1]) (dst := some 15) (k' := (K11 1110 2)) [1, 14, 15] [] hP enters_31 (splicelaw06_del.says 1 1) (by kernel_rfl) (hands_none _) (.cons (pass_d _) (.cons (pass_d _) .nil)) (st' := ⟨87, [(1, .ptr 0 0 0 0), (14, .ptr 0 0 0 0), (15, .d (eG30 (splicelaw06_del 1 1)))], [qR v1]⟩) (by kernel_rfl) ?_
  obtain ⟨v2, h2, H⟩ := idC H
  rw [← h2]
  refine goK hT 1 (K11 1110 3) ⟨87, [(1, .ptr 0 0 0 0), (14, .ptr 0 0 0 0), (16, .d (.agg [.i v2.Client, .i v2.Seq, .i v2.Kind, eL70 true v2.Pairs, .i ((v2.Over).Lo), .i ((v2.Over).Hi), .i v2.Old, .i 5, .b false]))], [qR v1]⟩ ?_
  obtain ⟨v3, h3, H⟩ := ibC H
  refine ak_callP (avs := [.ptr 0 0 0 0, .d (.agg [.i v2.Client, .i v2.Seq, .i v2.Kind, eL70 true v2.Pairs, .i ((v2.Over).Lo), .i ((v2.Over).Hi), .i v2.Old, .i 5, .b false])]) (dst := some 17) (k' := (K11 1110 4)) [1, 17] [0] hP enters_12 (qAdd_says v1 (⟨(⟨v2.Client, v2.Seq, v2.Kind, v2.Pairs, (v2.Over), v2.Old⟩ : api_Mut), 5, false⟩ : api_Held) h3) (by kernel_rfl) (hands_one rfl rfl) (.cons (.same (.ptr 0 0 0 0)) (.cons (pass_d _) .nil)) (st' := ⟨87, [(1, .ptr 0 0 0 0), (17, .i v3.1)], [qR v3.2]⟩) (by kernel_rfl) ?_
  refine goK hT 5 (K11 11110 1) ⟨87, [(1, .ptr 0 0 0 0), (2, .i v3.1), (18, .ptr 0 0 0 0)], [qR v3.2]⟩ ?_
  refine ak_callP (avs := [.i 2, .i 1]) (dst := some 19) (k' := (K11 11110 2)) [1, 2, 18, 19] [] hP enters_31 (splicelaw06_del.says 2 1) (by kernel_rfl) (hands_none _) (.cons (pass_d _) (.cons (pass_d _) .nil)) (st' := ⟨87, [(1, .ptr 0 0 0 0), (2, .i v3.1), (18, .ptr 0 0 0 0), (19, .d (eG30 (splicelaw06_del 2 1)))], [qR v3.2]⟩) (by kernel_rfl) ?_
  obtain ⟨v4, h4, H⟩ := idC H
  rw [← h4]
  refine goK hT 1 (K11 11110 3) ⟨87, [(1, .ptr 0 0 0 0), (2, .i v3.1), (18, .ptr 0 0 0 0), (20, .d (.agg [.i v4.Client, .i v4.Seq, .i v4.Kind, eL70 true v4.Pairs, .i ((v4.Over).Lo), .i ((v4.Over).Hi), .i v4.Old, .i 3, .b false]))], [qR v3.2]⟩ ?_
  obtain ⟨v5, h5, H⟩ := ibC H
  refine ak_callP (avs := [.ptr 0 0 0 0, .d (.agg [.i v4.Client, .i v4.Seq, .i v4.Kind, eL70 true v4.Pairs, .i ((v4.Over).Lo), .i ((v4.Over).Hi), .i v4.Old, .i 3, .b false])]) (dst := some 21) (k' := (K11 11110 4)) [1, 2, 21] [0] hP enters_12 (qAdd_says v3.2 (⟨(⟨v4.Client, v4.Seq, v4.Kind, v4.Pairs, (v4.Over), v4.Old⟩ : api_Mut), 3, false⟩ : api_Held) h5) (by kernel_rfl) (hands_one rfl rfl) (.cons (.same (.ptr 0 0 0 0)) (.cons (pass_d _) .nil)) (st' := ⟨87, [(1, .ptr 0 0 0 0), (2, .i v3.1), (21, .i v5.1)], [qR v5.2]⟩) (by kernel_rfl) ?_
  refine goK hT 5 (K11 111110 1) ⟨87, [(1, .ptr 0 0 0 0), (2, .i v3.1), (3, .i v5.1), (23, .ptr 0 0 0 0)], [qR v5.2]⟩ ?_
  refine ak_callP (avs := [.ptr 0 0 0 0]) (dst := some 24) (k' := (K11 111110 2)) [1, 2, 3, 24] [0] hP enters_15 (qPop_says v5.2) (by kernel_rfl) (hands_one rfl rfl) (.cons (.same (.ptr 0 0 0 0)) .nil) (st' := ⟨87, [(1, .ptr 0 0 0 0), (2, .i v3.1), (3, .i v5.1), (24, .tup [.d (eG32 ((qPop v5.2).1)), .b ((qPop v5.2).2.1)])], [qR ((qPop v5.2).2.2)]⟩) (by kernel_rfl) ?_
  obtain ⟨v6, h6, H⟩ := idC H
  rw [← h6]
  refine goK hT 10 (K11 1111110 1) ⟨87, [(1, .ptr 0 0 0 0), (2, .i v3.1), (3, .i v5.1), (5, .b v6.2.1), (27, .ptr 0 0 0 0)], [qR v6.2.2, .box 32 (eC32 (v6.1))]⟩ ?_
  refine ak_callP (avs := [.ptr 0 0 0 0, .i 2, .i 1, .i 7]) (dst := some 28) (k' := (K11 1111110 2)) [1, 2, 3, 5, 28] [0] hP enters_13 (qFinal_says v6.2.2 2 1 7) (by kernel_rfl) (hands_one rfl rfl) (.cons (.same (.ptr 0 0 0 0)) (.cons (pass_d _) (.cons (pass_d _) (.cons (pass_d _) .nil)))) (st' := ⟨87, [(1, .ptr 0 0 0 0), (2, .i v3.1), (3, .i v5.1), (5, .b v6.2.1), (28, .i ((qFinal v6.2.2 2 1 7).1))], [qR ((qFinal v6.2.2 2 1 7).2), .box 32 (eC32 (v6.1))]⟩) (by kernel_rfl) ?_
  obtain ⟨v7, h7, H⟩ := idC H
  rw [← h7]
  refine goK hT 5 (K11 11111110 1) ⟨87, [(1, .ptr 0 0 0 0), (2, .i v3.1), (3, .i v5.1), (5, .b v6.2.1), (6, .i v7.1), (29, .ptr 0 0 0 0)], [qR v7.2, .box 32 (eC32 (v6.1))]⟩ ?_
  refine ak_callP (avs := [.ptr 0 0 0 0, .i 99]) (dst := some 30) (k' := (K11 11111110 2)) [1, 2, 3, 5, 6, 30] [0] hP enters_20 (qFloor_says v7.2 99) (by kernel_rfl) (hands_one rfl rfl) (.cons (.same (.ptr 0 0 0 0)) (.cons (pass_d _) .nil)) (st' := ⟨87, [(1, .ptr 0 0 0 0), (2, .i v3.1), (3, .i v5.1), (5, .b v6.2.1), (6, .i v7.1), (30, .i (qFloor v7.2 99))], [qR v7.2, .box 32 (eC32 (v6.1))]⟩) (by kernel_rfl) ?_
  refine goK hT 5 (K11 111111110 1) ⟨87, [(1, .ptr 0 0 0 0), (2, .i v3.1), (3, .i v5.1), (5, .b v6.2.1), (6, .i v7.1), (7, .i (qFloor v7.2 99)), (31, .ptr 0 0 0 0)], [qR v7.2, .box 32 (eC32 (v6.1))]⟩ ?_
  refine ak_callP (avs := [.ptr 0 0 0 0, .i 1, .i 1, .i 5]) (dst := some 32) (k' := (K11 111111110 2)) [1, 2, 3, 5, 6, 7, 32] [0] hP enters_13 (qFinal_says v7.2 1 1 5) (by kernel_rfl) (hands_one rfl rfl) (.cons (.same (.ptr 0 0 0 0)) (.cons (pass_d _) (.cons (pass_d _) (.cons (pass_d _) .nil)))) (st' := ⟨87, [(1, .ptr 0 0 0 0), (2, .i v3.1), (3, .i v5.1), (5, .b v6.2.1), (6, .i v7.1), (7, .i (qFloor v7.2 99)), (32, .i ((qFinal v7.2 1 1 5).1))], [qR ((qFinal v7.2 1 1 5).2), .box 32 (eC32 (v6.1))]⟩) (by kernel_rfl) ?_
  obtain ⟨v8, h8, H⟩ := idC H
  rw [← h8]
  refine goK hT 5 (K11 1111111110 1) ⟨87, [(1, .ptr 0 0 0 0), (2, .i v3.1), (3, .i v5.1), (5, .b v6.2.1), (6, .i v7.1), (7, .i (qFloor v7.2 99)), (8, .i v8.1), (34, .ptr 0 0 0 0)], [qR v8.2, .box 32 (eC32 (v6.1))]⟩ ?_
  refine ak_callP (avs := [.ptr 0 0 0 0]) (dst := some 35) (k' := (K11 1111111110 2)) [1, 2, 3, 5, 6, 7, 8, 35] [0] hP enters_15 (qPop_says v8.2) (by kernel_rfl) (hands_one rfl rfl) (.cons (.same (.ptr 0 0 0 0)) .nil) (st' := ⟨87, [(1, .ptr 0 0 0 0), (2, .i v3.1), (3, .i v5.1), (5, .b v6.2.1), (6, .i v7.1), (7, .i (qFloor v7.2 99)), (8, .i v8.1), (35, .tup [.d (eG32 ((qPop v8.2).1)), .b ((qPop v8.2).2.1)])], [qR ((qPop v8.2).2.2), .box 32 (eC32 (v6.1))]⟩) (by kernel_rfl) ?_
  obtain ⟨v9, h9, H⟩ := idC H
  rw [← h9]
  refine goK hT 10 (K11 11111111110 1) ⟨87, [(1, .ptr 0 0 0 0), (2, .i v3.1), (3, .i v5.1), (5, .b v6.2.1), (6, .i v7.1), (7, .i (qFloor v7.2 99)), (8, .i v8.1), (9, .ptr 2 0 0 0), (10, .b v9.2.1), (39, .ptr 0 0 0 0)], [qR v9.2.2, .box 32 (eC32 (v6.1)), .box 32 (eC32 (v9.1))]⟩ ?_
  refine ak_callP (avs := [.ptr 0 0 0 0]) (dst := some 40) (k' := (K11 11111111110 2)) [1, 2, 3, 5, 6, 7, 8, 9, 10, 40] [0] hP enters_15 (qPop_says v9.2.2) (by kernel_rfl) (hands_one rfl rfl) (.cons (.same (.ptr 0 0 0 0)) .nil) (st' := ⟨87, [(1, .ptr 0 0 0 0), (2, .i v3.1), (3, .i v5.1), (5, .b v6.2.1), (6, .i v7.1), (7, .i (qFloor v7.2 99)), (8, .i v8.1), (9, .ptr 2 0 0 0), (10, .b v9.2.1), (40, .tup [.d (eG32 ((qPop v9.2.2).1)), .b ((qPop v9.2.2).2.1)])], [qR ((qPop v9.2.2).2.2), .box 32 (eC32 (v6.1)), .box 32 (eC32 (v9.1))]⟩) (by kernel_rfl) ?_
  obtain ⟨v10, h10, H⟩ := idC H
  have Jj1 : ∀ (y1_0 : Bool), (splicelaw06_awake.j1 y1_0) = some r → AK X 11 ((K11 11111111111 1)) (Back X [] (.b r)) ⟨87, [(0, .b y1_0)], []⟩ := by
    intro y1_0 H
    obtain rfl := retC H
    exact ak_ret hf hX (av := .b y1_0) (by kernel_rfl) [] (sel_of_eq (by kernel_rfl)) (by decide) (by rw [h0]; rfl) (by kernel_rfl) (fun _ h => all_nil h) (.d (.v _))
  rw [← h10]
  refine goK hT 12 (K11 111111111110 3) ⟨87, [(1, .ptr 0 0 0 0), (3, .i v5.1), (5, .b v6.2.1), (6, .i v7.1), (7, .i (qFloor v7.2 99)), (8, .i v8.1), (9, .ptr 2 0 0 0), (10, .b v9.2.1), (11, .ptr 3 0 0 0), (12, .b v10.2.1), (45, .b (v3.1 == 0))], [qR v10.2.2, .box 32 (eC32 (v6.1)), .box 32 (eC32 (v9.1)), .box 32 (eC32 (v10.1))]⟩ ?_
  by_cases c11 : v3.1 = 0
  · replace H := iT c11 H
    rw [eqT c11]
    refine goK hT 4 (K11 111111111110 7) ⟨87, [(1, .ptr 0 0 0 0), (5, .b v6.2.1), (6, .i v7.1), (7, .i (qFloor v7.2 99)), (8, .i v8.1), (9, .ptr 2 0 0 0), (10, .b v9.2.1), (11, .ptr 3 0 0 0), (12, .b v10.2.1), (49, .b (v5.1 == 0))], [qR v10.2.2, .box 32 (eC32 (v6.1)), .box 32 (eC32 (v9.1)), .box 32 (eC32 (v10.1))]⟩ ?_
    by_cases c12 : v5.1 = 0
    · replace H := iT c12 H
      rw [eqT c12]
      refine goK hT 4 (K11 111111111110 11) ⟨87, [(1, .ptr 0 0 0 0), (6, .i v7.1), (7, .i (qFloor v7.2 99)), (8, .i v8.1), (9, .ptr 2 0 0 0), (10, .b v9.2.1), (11, .ptr 3 0 0 0), (12, .b v10.2.1), (53, .b (!v6.2.1))], [qR v10.2.2, .box 32 (eC32 (v6.1)), .box 32 (eC32 (v9.1)), .box 32 (eC32 (v10.1))]⟩ ?_
      by_cases c13 : v6.2.1 = true
      · replace H := iT c13 H
        rw [c13]
        refine goK hT 35 (K11 11111111111 1) ⟨87, [(0, .b false)], [qR v10.2.2, .box 32 (eC32 (v6.1)), .box 32 (eC32 (v9.1)), .box 32 (eC32 (v10.1))]⟩ ?_
        refine cutK [] ⟨87, [(0, .b false)], []⟩ h0 ?_
        exact Jj1 false H
      · replace H := iF c13 H
        rw [boF c13]
        refine goK hT 4 (K11 111111111110 15) ⟨87, [(1, .ptr 0 0 0 0), (7, .i (qFloor v7.2 99)), (8, .i v8.1), (9, .ptr 2 0 0 0), (10, .b v9.2.1), (11, .ptr 3 0 0 0), (12, .b v10.2.1), (57, .b (v7.1 == 0))], [qR v10.2.2, .box 32 (eC32 (v6.1)), .box 32 (eC32 (v9.1)), .box 32 (eC32 (v10.1))]⟩ ?_
        by_cases c14 : v7.1 = 0
        · replace H := iT c14 H
          rw [eqT c14]
          refine goK hT 4 (K11 111111111110 19) ⟨87, [(1, .ptr 0 0 0 0), (8, .i v8.1), (9, .ptr 2 0 0 0), (10, .b v9.2.1), (11, .ptr 3 0 0 0), (12, .b v10.2.1), (61, .b ((qFloor v7.2 99) == 4))], [qR v10.2.2, .box 32 (eC32 (v6.1)), .box 32 (eC32 (v9.1)), .box 32 (eC32 (v10.1))]⟩ ?_
          by_cases c15 : (qFloor v7.2 99) = 4
          · replace H := iT c15 H
            rw [eqT c15]
            refine goK hT 4 (K11 111111111110 23) ⟨87, [(1, .ptr 0 0 0 0), (9, .ptr 2 0 0 0), (10, .b v9.2.1), (11, .ptr 3 0 0 0), (12, .b v10.2.1), (65, .b (v8.1 == 0))], [qR v10.2.2, .box 32 (eC32 (v6.1)), .box 32 (eC32 (v9.1)), .box 32 (eC32 (v10.1))]⟩ ?_
            by_cases c16 : v8.1 = 0
            · replace H := iT c16 H
              rw [eqT c16]
              refine goK hT 3 (K11 111111111110 26) ⟨87, [(1, .ptr 0 0 0 0), (9, .ptr 2 0 0 0), (11, .ptr 3 0 0 0), (12, .b v10.2.1), (68, .b v9.2.1)], [qR v10.2.2, .box 32 (eC32 (v6.1)), .box 32 (eC32 (v9.1)), .box 32 (eC32 (v10.1))]⟩ ?_
              by_cases c17 : v9.2.1 = true
              · replace H := iT c17 H
                rw [c17]
                refine goK hT 6 (K11 111111111110 32) ⟨87, [(1, .ptr 0 0 0 0), (11, .ptr 3 0 0 0), (12, .b v10.2.1), (74, .b ((((v9.1).M).Client) == 1))], [qR v10.2.2, .box 32 (eC32 (v6.1)), .box 32 (eC32 (v9.1)), .box 32 (eC32 (v10.1))]⟩ ?_
                by_cases c18 : (((v9.1).M).Client) = 1
                · replace H := iT c18 H
                  rw [eqT c18]
                  refine goK hT 3 (K11 111111111110 35) ⟨87, [(1, .ptr 0 0 0 0), (11, .ptr 3 0 0 0), (77, .b v10.2.1)], [qR v10.2.2, .box 32 (eC32 (v6.1)), .box 32 (eC32 (v9.1)), .box 32 (eC32 (v10.1))]⟩ ?_
                  by_cases c19 : v10.2.1 = true
                  · replace H := iT c19 H
                    rw [c19]
                    refine goK hT 5 (K11 111111111110 40) ⟨87, [(1, .ptr 0 0 0 0), (82, .b (((v10.1).Time) == 7))], [qR v10.2.2, .box 32 (eC32 (v6.1)), .box 32 (eC32 (v9.1)), .box 32 (eC32 (v10.1))]⟩ ?_
                    by_cases c20 : ((v10.1).Time) = 7
                    · replace H := iT c20 H
                      rw [eqT c20]
                      refine goK hT 1 (K11 111111111110 41) ⟨87, [(82, .b true), (83, .ptr 0 0 0 0)], [qR v10.2.2, .box 32 (eC32 (v6.1)), .box 32 (eC32 (v9.1)), .box 32 (eC32 (v10.1))]⟩ ?_
                      refine ak_callP (avs := [.ptr 0 0 0 0]) (dst := some 84) (k' := (K11 111111111110 42)) [82, 84] [0] hP enters_14 (qLen_says v10.2.2) (by kernel_rfl) (hands_one rfl rfl) (.cons (.same (.ptr 0 0 0 0)) .nil) (st' := ⟨87, [(82, .b true), (84, .i (qLen v10.2.2))], [qR v10.2.2, .box 32 (eC32 (v6.1)), .box 32 (eC32 (v9.1)), .box 32 (eC32 (v10.1))]⟩) (by kernel_rfl) ?_
                      refine goK hT 4 (K11 11111111111 1) ⟨87, [(0, .b ((qLen v10.2.2) == 0))], [qR v10.2.2, .box 32 (eC32 (v6.1)), .box 32 (eC32 (v9.1)), .box 32 (eC32 (v10.1))]⟩ ?_
                      refine cutK [] ⟨87, [(0, .b ((qLen v10.2.2) == 0))], []⟩ h0 ?_
                      exact Jj1 ((qLen v10.2.2) == 0) H
                    · replace H := iF c20 H
                      rw [eqF c20]
                      refine goK hT 6 (K11 11111111111 1) ⟨87, [(0, .b false)], [qR v10.2.2, .box 32 (eC32 (v6.1)), .box 32 (eC32 (v9.1)), .box 32 (eC32 (v10.1))]⟩ ?_
                      refine cutK [] ⟨87, [(0, .b false)], []⟩ h0 ?_
                      exact Jj1 false H
                  · replace H := iF c19 H
                    rw [boF c19]
                    refine goK hT 11 (K11 11111111111 1) ⟨87, [(0, .b false)], [qR v10.2.2, .box 32 (eC32 (v6.1)), .box 32 (eC32 (v9.1)), .box 32 (eC32 (v10.1))]⟩ ?_
                    refine cutK [] ⟨87, [(0, .b false)], []⟩ h0 ?_
                    exact Jj1 false H
                · replace H := iF c18 H
                  rw [eqF c18]
                  refine goK hT 14 (K11 11111111111 1) ⟨87, [(0, .b false)], [qR v10.2.2, .box 32 (eC32 (v6.1)), .box 32 (eC32 (v9.1)), .box 32 (eC32 (v10.1))]⟩ ?_
                  refine cutK [] ⟨87, [(0, .b false)], []⟩ h0 ?_
                  exact Jj1 false H
              · replace H := iF c17 H
                rw [boF c17]
                refine goK hT 20 (K11 11111111111 1) ⟨87, [(0, .b false)], [qR v10.2.2, .box 32 (eC32 (v6.1)), .box 32 (eC32 (v9.1)), .box 32 (eC32 (v10.1))]⟩ ?_
                refine cutK [] ⟨87, [(0, .b false)], []⟩ h0 ?_
                exact Jj1 false H
            · replace H := iF c16 H
              rw [eqF c16]
              refine goK hT 23 (K11 11111111111 1) ⟨87, [(0, .b false)], [qR v10.2.2, .box 32 (eC32 (v6.1)), .box 32 (eC32 (v9.1)), .box 32 (eC32 (v10.1))]⟩ ?_
              refine cutK [] ⟨87, [(0, .b false)], []⟩ h0 ?_
              exact Jj1 false H
          · replace H := iF c15 H
            rw [eqF c15]
            refine goK hT 27 (K11 11111111111 1) ⟨87, [(0, .b false)], [qR v10.2.2, .box 32 (eC32 (v6.1)), .box 32 (eC32 (v9.1)), .box 32 (eC32 (v10.1))]⟩ ?_
            refine cutK [] ⟨87, [(0, .b false)], []⟩ h0 ?_
            exact Jj1 false H
        · replace H := iF c14 H
          rw [eqF c14]
          refine goK hT 31 (K11 11111111111 1) ⟨87, [(0, .b false)], [qR v10.2.2, .box 32 (eC32 (v6.1)), .box 32 (eC32 (v9.1)), .box 32 (eC32 (v10.1))]⟩ ?_
          refine cutK [] ⟨87, [(0, .b false)], []⟩ h0 ?_
          exact Jj1 false H
    · replace H := iF c12 H
      rw [eqF c12]
      refine goK hT 39 (K11 11111111111 1) ⟨87, [(0, .b false)], [qR v10.2.2, .box 32 (eC32 (v6.1)), .box 32 (eC32 (v9.1)), .box 32 (eC32 (v10.1))]⟩ ?_
      refine cutK [] ⟨87, [(0, .b false)], []⟩ h0 ?_
      exact Jj1 false H
  · replace H := iF c11 H
    rw [eqF c11]
    refine goK hT 43 (K11 11111111111 1) ⟨87, [(0, .b false)], [qR v10.2.2, .box 32 (eC32 (v6.1)), .box 32 (eC32 (v9.1)), .box 32 (eC32 (v10.1))]⟩ ?_
    refine cutK [] ⟨87, [(0, .b false)], []⟩ h0 ?_
    exact Jj1 false H


theorem hold_Queue_Len_n0.says : Says Try.prog 14 [] [.d .np] [] (.i (hold_Queue_Len_n0)) := by
  obtain ⟨r, H⟩ : ∃ r, hold_Queue_Len_n0 = r := ⟨_, rfl⟩
  rw [H]
  refine says_of Try.func14 rfl (nt := 11) rfl (Nat.le_of_ble_eq_true rfl) fun X hP h0 hX => ?_
  have hT : TabOk X.P T := hP ▸ tok
  have hf : X.P.funcs[14]? = some Try.f14 := hP ▸ Try.func14
  refine goK hT 15 (K14 11010 1) ⟨11, [(2, .i 0)], []⟩ ?_
  obtain rfl := H
  exact ak_ret hf hX (av := .i 0) (by kernel_rfl) [] (sel_of_eq (by kernel_rfl)) (by decide) (by rw [h0]; rfl) (by kernel_rfl) (fun _ h => all_nil h) (.d (.v _))


theorem hold_Queue_Pop_n0.says {r : api_Held × Bool} (H : hold_Queue_Pop_n0 = some r) : Says Try.prog 15 [] [.d .np] [] (.tup [.d (eG32 r.1), .b r.2]) := by
  refine says_of Try.func15 rfl (nt := 40) rfl (Nat.le_of_ble_eq_true rfl) fun X hP h0 hX => ?_
  have hT : TabOk X.P T := hP ▸ tok
  have hf : X.P.funcs[15]? = some Try.f15 := hP ▸ Try.func15
  refine goK hT 9 (K15 1100 1) ⟨40, [(0, .d .np), (2, .ptr 0 0 0 0), (6, .d .np)], [.box 32 [.i 0, .i 0, .i 0, .ns, .i 0, .i 0, .i 0, .i 0, .b false]]⟩ ?_
  refine ak_callP (avs := [.d .np]) (dst := some 7) (k' := (K15 1100 2)) [0, 2, 7] [] hP enters_14 (hold_Queue_Len_n0.says) (by kernel_rfl) (hands_none _) (.cons (pass_d _) .nil) (st' := ⟨40, [(0, .d .np), (2, .ptr 0 0 0 0), (7, .i hold_Queue_Len_n0)], [.box 32 [.i 0, .i 0, .i 0, .ns, .i 0, .i 0, .i 0, .i 0, .b false]]⟩) (by kernel_rfl) ?_
  refine goK hT 2 (K15 1100 4) ⟨40, [(0, .d .np), (2, .ptr 0 0 0 0), (9, .b (hold_Queue_Len_n0 == 0))], [.box 32 [.i 0, .i 0, .i 0, .ns, .i 0, .i 0, .i 0, .i 0, .b false]]⟩ ?_
  by_cases c1 : hold_Queue_Len_n0 = 0
  · replace H := iT c1 H
    rw [eqT c1]
    refine goK hT 14 (K15 110 1) ⟨40, [(0, .d .np), (2, .ptr 0 0 0 0), (22, .b true)], [.box 32 [.i 0, .i 0, .i 0, .ns, .i 0, .i 0, .i 0, .i 0, .b false]]⟩ ?_
    refine goK hT 4 (K15 110100 1) ⟨40, [(2, .ptr 0 0 0 0), (23, .d (.agg [.i 0, .i 0, .i 0, .ns, .i 0, .i 0, .i 0, .i 0, .b false]))], [.box 32 [.i 0, .i 0, .i 0, .ns, .i 0, .i 0, .i 0, .i 0, .b false]]⟩ ?_
    refine ak_sealS (av := .d (.agg [.i 0, .i 0, .i 0, .ns, .i 0, .i 0, .i 0, .i 0, .b false])) (y := .agg [.i 0, .i 0, .i 0, eL70 true ([] : List api_Pair), .i 0, .i 0, .i 0, .i 0, .b false]) [2, 23] 23 (st' := ⟨40, [(2, .ptr 0 0 0 0), (23, .d (.agg [.i 0, .i 0, .i 0, eL70 true ([] : List api_Pair), .i 0, .i 0, .i 0, .i 0, .b false]))], [.box 32 [.i 0, .i 0, .i 0, .ns, .i 0, .i 0, .i 0, .i 0, .b false]]⟩) (by kernel_rfl) (.aggd (.cons (.d _) (.cons (.d _) (.cons (.d _) (.cons (.nil _) (.cons (.d _) (.cons (.d _) (.cons (.d _) (.cons (.d _) (.cons (.d _) .nil)))))))))) (by kernel_rfl) ?_
    refine goK hT 3 (K15 11010 1) ⟨40, [(2, .ptr 0 0 0 0), (3, .b false)], [.box 32 [.i 0, .i 0, .i 0, .d (eL70 true ([] : List api_Pair)), .i 0, .i 0, .i 0, .i 0, .b false]]⟩ ?_
    obtain rfl := retC H
    exact ak_retM hT hf hX (av := .tup [.d (.agg [.i 0, .i 0, .i 0, eL70 true ([] : List api_Pair), .i 0, .i 0, .i 0, .i 0, .b false]), .b false]) (by kernel_rfl) [] (sel_of_eq (by kernel_rfl)) (by decide) (by rw [h0]; rfl) (by kernel_rfl) (fun _ h => all_nil h) (.tup (.cons (.d (.agg (api_Held.nl _))) (.cons (.d (.v _)) .nil)))
  · replace H := iF c1 H
    cases (show (none : Option _) = some _ from H)


theorem hold_Queue_find_n0.says (a1 : Int) (a2 : Int) : Says Try.prog 33 [] [.d .np, .i a1, .i a2] [] (.d .np) := by
  obtain ⟨r, H⟩ : ∃ r, hold_Queue_find_n0 a1 a2 = r := ⟨_, rfl⟩
  skip
  refine says_of Try.func33 rfl (nt := 41) rfl (Nat.le_of_ble_eq_true rfl) fun X hP h0 hX => ?_
  have hT : TabOk X.P T := hP ▸ tok
  have hf : X.P.funcs[33]? = some Try.f33 := hP ▸ Try.func33
  refine goK hT 15 (K33 11010 1) ⟨41, [(6, .d .np)], []⟩ ?_
  obtain rfl := H
  exact ak_ret hf hX (av := .d .np) (by kernel_rfl) [] (sel_of_eq (by kernel_rfl)) (by decide) (by rw [h0]; rfl) (by kernel_rfl) (fun _ h => all_nil h) (.d (.v _))


theorem hold_Queue_Find_n0.says (a1 : Int) (a2 : Int) : Says Try.prog 26 [] [.d .np, .i a1, .i a2] [] (.tup [.d (eG32 ((hold_Queue_Find_n0 a1 a2).1)), .b ((hold_Queue_Find_n0 a1 a2).2)]) := by
  obtain ⟨r, H⟩ : ∃ r, hold_Queue_Find_n0 a1 a2 = r := ⟨_, rfl⟩
  rw [H]
  refine says_of Try.func26 rfl (nt := 21) rfl (Nat.le_of_ble_eq_true rfl) fun X hP h0 hX => ?_
  have hT : TabOk X.P T := hP ▸ tok
  have hf : X.P.funcs[26]? = some Try.f26 := hP ▸ Try.func26
  refine goK hT 10 (K26 110 3) ⟨21, [(6, .ptr 0 0 0 0), (9, .d .np), (10, .i a1), (11, .i a2)], [.box 32 [.i 0, .i 0, .i 0, .ns, .i 0, .i 0, .i 0, .i 0, .b false]]⟩ ?_
  refine ak_callP (avs := [.d .np, .i a1, .i a2]) (dst := some 12) (k' := (K26 110 4)) [6, 12] [] hP enters_33 (hold_Queue_find_n0.says a1 a2) (by kernel_rfl) (hands_none _) (.cons (pass_d _) (.cons (pass_d _) (.cons (pass_d _) .nil))) (st' := ⟨21, [(6, .ptr 0 0 0 0), (12, .d .np)], [.box 32 [.i 0, .i 0, .i 0, .ns, .i 0, .i 0, .i 0, .i 0, .b false]]⟩) (by kernel_rfl) ?_
  refine goK hT 12 (K26 1110100 1) ⟨21, [(6, .ptr 0 0 0 0), (15, .d (.agg [.i 0, .i 0, .i 0, .ns, .i 0, .i 0, .i 0, .i 0, .b false]))], [.box 32 [.i 0, .i 0, .i 0, .ns, .i 0, .i 0, .i 0, .i 0, .b false]]⟩ ?_
  refine ak_sealS (av := .d (.agg [.i 0, .i 0, .i 0, .ns, .i 0, .i 0, .i 0, .i 0, .b false])) (y := .agg [.i 0, .i 0, .i 0, eL70 true ([] : List api_Pair), .i 0, .i 0, .i 0, .i 0, .b false]) [6, 15] 15 (st' := ⟨21, [(6, .ptr 0 0 0 0), (15, .d (.agg [.i 0, .i 0, .i 0, eL70 true ([] : List api_Pair), .i 0, .i 0, .i 0, .i 0, .b false]))], [.box 32 [.i 0, .i 0, .i 0, .ns, .i 0, .i 0, .i 0, .i 0, .b false]]⟩) (by kernel_rfl) (.aggd (.cons (.d _) (.cons (.d _) (.cons (.d _) (.cons (.nil _) (.cons (.d _) (.cons (.d _) (.cons (.d _) (.cons (.d _) (.cons (.d _) .nil)))))))))) (by kernel_rfl) ?_
  refine goK hT 3 (K26 111010 1) ⟨21, [(6, .ptr 0 0 0 0), (7, .b false)], [.box 32 [.i 0, .i 0, .i 0, .d (eL70 true ([] : List api_Pair)), .i 0, .i 0, .i 0, .i 0, .b false]]⟩ ?_
  obtain rfl := H
  exact ak_retM hT hf hX (av := .tup [.d (.agg [.i 0, .i 0, .i 0, eL70 true ([] : List api_Pair), .i 0, .i 0, .i 0, .i 0, .b false]), .b false]) (by kernel_rfl) [] (sel_of_eq (by kernel_rfl)) (by decide) (by rw [h0]; rfl) (by kernel_rfl) (fun _ h => all_nil h) (.tup (.cons (.d (.agg (api_Held.nl _))) (.cons (.d (.v _)) .nil)))


theorem hold_Queue_Add_n0.says (a1 : api_Held) : Says Try.prog 12 [] [.d .np, .d (eG32 a1)] [] (.i (hold_Queue_Add_n0 a1)) := by
  obtain ⟨r, H⟩ : ∃ r, hold_Queue_Add_n0 a1 = r := ⟨_, rfl⟩
  rw [H]
  refine says_of Try.func12 rfl (nt := 40) rfl (Nat.le_of_ble_eq_true rfl) fun X hP h0 hX => ?_
  have hT : TabOk X.P T := hP ▸ tok
  have hf : X.P.funcs[12]? = some Try.f12 := hP ▸ Try.func12
  refine goK hT 30 (K12 110010 1) ⟨40, [(4, .i 1)], [.box 32 (eC32 a1)]⟩ ?_
  obtain rfl := H
  exact ak_ret hf hX (av := .i 1) (by kernel_rfl) [] (sel_of_eq (by kernel_rfl)) (by decide) (by rw [h0]; rfl) (by kernel_rfl) (fun _ h => all_nil h) (.d (.v _))


theorem hold_Queue_Final_n0.says (a1 : Int) (a2 : Int) (a3 : Int) : Says Try.prog 13 [] [.d .np, .i a1, .i a2, .i a3] [] (.i (hold_Queue_Final_n0 a1 a2 a3)) := by
  obtain ⟨r, H⟩ : ∃ r, hold_Queue_Final_n0 a1 a2 a3 = r := ⟨_, rfl⟩
  rw [H]
  refine says_of Try.func13 rfl (nt := 56) rfl (Nat.le_of_ble_eq_true rfl) fun X hP h0 hX => ?_
  have hT : TabOk X.P T := hP ▸ tok
  have hf : X.P.funcs[13]? = some Try.f13 := hP ▸ Try.func13
  refine goK hT 15 (K13 11010 1) ⟨56, [(8, .i 1)], []⟩ ?_
  obtain rfl := H
  exact ak_ret hf hX (av := .i 1) (by kernel_rfl) [] (sel_of_eq (by kernel_rfl)) (by decide) (by rw [h0]; rfl) (by kernel_rfl) (fun _ h => all_nil h) (.d (.v _))


theorem hold_Queue_Drop_n0.says (a1 : Int) (a2 : Int) : Says Try.prog 19 [] [.d .np, .i a1, .i a2] [] (.i (hold_Queue_Drop_n0 a1 a2)) := by
  obtain ⟨r, H⟩ : ∃ r, hold_Queue_Drop_n0 a1 a2 = r := ⟨_, rfl⟩
  rw [H]
  refine says_of Try.func19 rfl (nt := 25) rfl (Nat.le_of_ble_eq_true rfl) fun X hP h0 hX => ?_
  have hT : TabOk X.P T := hP ▸ tok
  have hf : X.P.funcs[19]? = some Try.f19 := hP ▸ Try.func19
  refine goK hT 15 (K19 11010 1) ⟨25, [(6, .i 1)], []⟩ ?_
  obtain rfl := H
  exact ak_ret hf hX (av := .i 1) (by kernel_rfl) [] (sel_of_eq (by kernel_rfl)) (by decide) (by rw [h0]; rfl) (by kernel_rfl) (fun _ h => all_nil h) (.d (.v _))


theorem hold_Queue_All_n0.says : Says Try.prog 23 [] [.d .np] [eR32 (hold_Queue_All_n0)] (.own 0 9 0 ((hold_Queue_All_n0).length)) := by
  obtain ⟨r, H⟩ : ∃ r, hold_Queue_All_n0 = r := ⟨_, rfl⟩
  rw [H]
  refine says_of Try.func23 rfl (nt := 33) rfl (Nat.le_of_ble_eq_true rfl) fun X hP h0 hX => ?_
  have hT : TabOk X.P T := hP ▸ tok
  have hf : X.P.funcs[23]? = some Try.f23 := hP ▸ Try.func23
  refine goK hT 15 (K23 11010 1) ⟨33, [(2, .ns)], []⟩ ?_
  refine ak_nilS [2] 2 9 32 (vec api_Held.e api_Held.z []) (st' := ⟨33, [(2, .own 0 9 0 0)], [eR32 ([] : List api_Held)]⟩) (by kernel_rfl) (by kernel_rfl) ?_
  obtain rfl := H
  exact ak_ret hf hX (av := .own 0 9 0 0) (by kernel_rfl) [0] (sel_of_eq (by kernel_rfl)) (by decide) (by rw [h0]; rfl) (by kernel_rfl) (fun _ h => all_cons (nr_vec api_Held.nl) (fun _ h => all_nil h) h) (.own _ _ _ _)


theorem hold_Queue_Floor_n0.says (a1 : Int) {r : Int} (H : hold_Queue_Floor_n0 a1 = some r) : Says Try.prog 20 [] [.d .np, .i a1] [] (.i r) := by
  refine says_of Try.func20 rfl (nt := 21) rfl (Nat.le_of_ble_eq_true rfl) fun X hP h0 hX => ?_
  have hT : TabOk X.P T := hP ▸ tok
  have hf : X.P.funcs[20]? = some Try.f20 := hP ▸ Try.func20
  refine goK hT 8 (K20 1100 1) ⟨21, [(0, .d .np), (1, .i a1), (5, .d .np)], []⟩ ?_
  refine ak_callP (avs := [.d .np]) (dst := some 6) (k' := (K20 1100 2)) [0, 1, 6] [] hP enters_14 (hold_Queue_Len_n0.says) (by kernel_rfl) (hands_none _) (.cons (pass_d _) .nil) (st' := ⟨21, [(0, .d .np), (1, .i a1), (6, .i hold_Queue_Len_n0)], []⟩) (by kernel_rfl) ?_
  refine goK hT 2 (K20 110 1) ⟨21, [(0, .d .np), (1, .i a1), (7, .b (hold_Queue_Len_n0 == 0))], []⟩ ?_
  by_cases c1 : hold_Queue_Len_n0 = 0
  · replace H := iT c1 H
    rw [eqT c1]
    refine goK hT 6 (K20 11010 1) ⟨21, [(4, .i a1)], []⟩ ?_
    obtain rfl := retC H
    exact ak_ret hf hX (av := .i a1) (by kernel_rfl) [] (sel_of_eq (by kernel_rfl)) (by decide) (by rw [h0]; rfl) (by kernel_rfl) (fun _ h => all_nil h) (.d (.v _))
  · replace H := iF c1 H
    cases (show (none : Option _) = some _ from H)


theorem splicelaw06_HoldNil.says (a0 : api_Held) (a1 : Int) (a2 : Int) {r : Bool} (H : splicelaw06_HoldNil a0 a1 a2 = some r) : Says Try.prog 9 [] [.d (eG32 a0), .i a1, .i a2] [] (.b r) := by
  refine says_of Try.func9 rfl (nt := 80) rfl (Nat.le_of_ble_eq_true rfl) fun X hP h0 hX => ?_
  have hT : TabOk X.P T := hP ▸ tok
  have hf : X.P.funcs[9]? = some Try.f9 := hP ▸ Try.func9
  refine goK hT 12 (K9 1110 1) ⟨80, [(1, .i a1), (2, .i a2), (3, .ptr 0 0 0 0), (7, .d .np), (13, .d .np)], [.box 32 (eC32 a0)]⟩ ?_
  obtain ⟨v1, h1, H⟩ := ibC H
  refine ak_callP (avs := [.d .np]) (dst := some 14) (k' := (K9 1110 2)) [1, 2, 3, 7, 14] [] hP enters_15 (hold_Queue_Pop_n0.says h1) (by kernel_rfl) (hands_none _) (.cons (pass_d _) .nil) (st' := ⟨80, [(1, .i a1), (2, .i a2), (3, .ptr 0 0 0 0), (7, .d .np), (14, .tup [.d (eG32 v1.1), .b v1.2])], [.box 32 (eC32 a0)]⟩) (by kernel_rfl) ?_
  refine goK hT 12 (K9 11110 3) ⟨80, [(1, .i a1), (2, .i a2), (3, .ptr 0 0 0 0), (7, .d .np), (8, .ptr 1 0 0 0), (9, .b v1.2), (18, .d .np), (19, .i a1), (20, .i a2)], [.box 32 (eC32 a0), .box 32 (eC32 v1.1)]⟩ ?_
  refine ak_callP (avs := [.d .np, .i a1, .i a2]) (dst := some 21) (k' := (K9 11110 4)) [1, 2, 3, 7, 8, 9, 21] [] hP enters_26 (hold_Queue_Find_n0.says a1 a2) (by kernel_rfl) (hands_none _) (.cons (pass_d _) (.cons (pass_d _) (.cons (pass_d _) .nil))) (st' := ⟨80, [(1, .i a1), (2, .i a2), (3, .ptr 0 0 0 0), (7, .d .np), (8, .ptr 1 0 0 0), (9, .b v1.2), (21, .tup [.d (eG32 ((hold_Queue_Find_n0 a1 a2).1)), .b ((hold_Queue_Find_n0 a1 a2).2)])], [.box 32 (eC32 a0), .box 32 (eC32 v1.1)]⟩) (by kernel_rfl) ?_
  obtain ⟨v2, h2, H⟩ := idC H
  rw [← h2]
  refine goK hT 9 (K9 111110 0) ⟨80, [(1, .i a1), (2, .i a2), (3, .ptr 0 0 0 0), (7, .d .np), (8, .ptr 1 0 0 0), (9, .b v1.2), (10, .ptr 2 0 0 0), (11, .b v2.2)], [.box 32 (eC32 a0), .box 32 (eC32 v1.1), .box 32 (eC32 (v2.1))]⟩ ?_
  obtain ⟨v3, h3, H⟩ := ibC H
  have Jj1 : ∀ (y1_6 : Bool), (splicelaw06_HoldNil.j1 y1_6) = some r → AK X 9 ((K9 11111 1)) (Back X [] (.b r)) ⟨80, [(6, .b y1_6)], []⟩ := by
    intro y1_6 H
    obtain rfl := retC H
    exact ak_ret hf hX (av := .b y1_6) (by kernel_rfl) [] (sel_of_eq (by kernel_rfl)) (by decide) (by rw [h0]; rfl) (by kernel_rfl) (fun _ h => all_nil h) (.d (.v _))
  refine ak_callP (avs := []) (dst := some 24) (k' := (K9 111110 1)) [1, 2, 3, 7, 8, 9, 10, 11, 24] [] hP enters_11 (splicelaw06_awake.says h3) (by kernel_rfl) (hands_none _) .nil (st' := ⟨80, [(1, .i a1), (2, .i a2), (3, .ptr 0 0 0 0), (7, .d .np), (8, .ptr 1 0 0 0), (9, .b v1.2), (10, .ptr 2 0 0 0), (11, .b v2.2), (24, .b v3)], [.box 32 (eC32 a0), .box 32 (eC32 v1.1), .box 32 (eC32 (v2.1))]⟩) (by kernel_rfl) ?_
  refine goK hT 1 (K9 111110 2) ⟨80, [(1, .i a1), (2, .i a2), (3, .ptr 0 0 0 0), (7, .d .np), (8, .ptr 1 0 0 0), (9, .b v1.2), (10, .ptr 2 0 0 0), (11, .b v2.2), (25, .b v3)], [.box 32 (eC32 a0), .box 32 (eC32 v1.1), .box 32 (eC32 (v2.1))]⟩ ?_
  by_cases c4 : v3 = true
  · replace H := iT c4 H
    rw [c4]
    refine goK hT 2 (K9 111110 4) ⟨80, [(1, .i a1), (2, .i a2), (7, .d .np), (8, .ptr 1 0 0 0), (9, .b v1.2), (10, .ptr 2 0 0 0), (11, .b v2.2), (25, .b true), (26, .d .np), (27, .d (eG32 a0))], [.box 32 (eC32 a0), .box 32 (eC32 v1.1), .box 32 (eC32 (v2.1))]⟩ ?_
    refine ak_callP (avs := [.d .np, .d (eG32 a0)]) (dst := some 28) (k' := (K9 111110 5)) [1, 2, 7, 8, 9, 10, 11, 25, 28] [] hP enters_12 (hold_Queue_Add_n0.says a0) (by kernel_rfl) (hands_none _) (.cons (pass_d _) (.cons (pass_d _) .nil)) (st' := ⟨80, [(1, .i a1), (2, .i a2), (7, .d .np), (8, .ptr 1 0 0 0), (9, .b v1.2), (10, .ptr 2 0 0 0), (11, .b v2.2), (25, .b true), (28, .i (hold_Queue_Add_n0 a0))], [.box 32 (eC32 a0), .box 32 (eC32 v1.1), .box 32 (eC32 (v2.1))]⟩) (by kernel_rfl) ?_
    refine goK hT 3 (K9 111110 8) ⟨80, [(1, .i a1), (2, .i a2), (7, .d .np), (8, .ptr 1 0 0 0), (9, .b v1.2), (10, .ptr 2 0 0 0), (11, .b v2.2), (31, .b ((hold_Queue_Add_n0 a0) == 1))], [.box 32 (eC32 a0), .box 32 (eC32 v1.1), .box 32 (eC32 (v2.1))]⟩ ?_
    by_cases c5 : (hold_Queue_Add_n0 a0) = 1
    · replace H := iT c5 H
      rw [eqT c5]
      refine goK hT 4 (K9 111110 12) ⟨80, [(1, .i a1), (2, .i a2), (7, .d .np), (8, .ptr 1 0 0 0), (9, .b v1.2), (10, .ptr 2 0 0 0), (11, .b v2.2), (31, .b true), (32, .d .np), (33, .i a1), (34, .i a2), (35, .i a1)], [.box 32 (eC32 a0), .box 32 (eC32 v1.1), .box 32 (eC32 (v2.1))]⟩ ?_
      refine ak_callP (avs := [.d .np, .i a1, .i a2, .i a1]) (dst := some 36) (k' := (K9 111110 13)) [1, 2, 7, 8, 9, 10, 11, 31, 36] [] hP enters_13 (hold_Queue_Final_n0.says a1 a2 a1) (by kernel_rfl) (hands_none _) (.cons (pass_d _) (.cons (pass_d _) (.cons (pass_d _) (.cons (pass_d _) .nil)))) (st' := ⟨80, [(1, .i a1), (2, .i a2), (7, .d .np), (8, .ptr 1 0 0 0), (9, .b v1.2), (10, .ptr 2 0 0 0), (11, .b v2.2), (31, .b true), (36, .i (hold_Queue_Final_n0 a1 a2 a1))], [.box 32 (eC32 a0), .box 32 (eC32 v1.1), .box 32 (eC32 (v2.1))]⟩) (by kernel_rfl) ?_
      refine goK hT 3 (K9 111110 16) ⟨80, [(1, .i a1), (2, .i a2), (7, .d .np), (8, .ptr 1 0 0 0), (9, .b v1.2), (10, .ptr 2 0 0 0), (11, .b v2.2), (39, .b ((hold_Queue_Final_n0 a1 a2 a1) == 1))], [.box 32 (eC32 a0), .box 32 (eC32 v1.1), .box 32 (eC32 (v2.1))]⟩ ?_
      by_cases c6 : (hold_Queue_Final_n0 a1 a2 a1) = 1
      · replace H := iT c6 H
        rw [eqT c6]
        refine goK hT 3 (K9 111110 19) ⟨80, [(1, .i a1), (7, .d .np), (8, .ptr 1 0 0 0), (9, .b v1.2), (10, .ptr 2 0 0 0), (11, .b v2.2), (39, .b true), (40, .d .np), (41, .i a1), (42, .i a2)], [.box 32 (eC32 a0), .box 32 (eC32 v1.1), .box 32 (eC32 (v2.1))]⟩ ?_
        refine ak_callP (avs := [.d .np, .i a1, .i a2]) (dst := some 43) (k' := (K9 111110 20)) [1, 7, 8, 9, 10, 11, 39, 43] [] hP enters_19 (hold_Queue_Drop_n0.says a1 a2) (by kernel_rfl) (hands_none _) (.cons (pass_d _) (.cons (pass_d _) (.cons (pass_d _) .nil))) (st' := ⟨80, [(1, .i a1), (7, .d .np), (8, .ptr 1 0 0 0), (9, .b v1.2), (10, .ptr 2 0 0 0), (11, .b v2.2), (39, .b true), (43, .i (hold_Queue_Drop_n0 a1 a2))], [.box 32 (eC32 a0), .box 32 (eC32 v1.1), .box 32 (eC32 (v2.1))]⟩) (by kernel_rfl) ?_
        refine goK hT 3 (K9 111110 23) ⟨80, [(1, .i a1), (7, .d .np), (8, .ptr 1 0 0 0), (9, .b v1.2), (10, .ptr 2 0 0 0), (11, .b v2.2), (46, .b ((hold_Queue_Drop_n0 a1 a2) == 1))], [.box 32 (eC32 a0), .box 32 (eC32 v1.1), .box 32 (eC32 (v2.1))]⟩ ?_
        by_cases c7 : (hold_Queue_Drop_n0 a1 a2) = 1
        · replace H := iT c7 H
          rw [eqT c7]
          refine goK hT 4 (K9 111110 27) ⟨80, [(1, .i a1), (7, .d .np), (8, .ptr 1 0 0 0), (10, .ptr 2 0 0 0), (11, .b v2.2), (50, .b (!v1.2))], [.box 32 (eC32 a0), .box 32 (eC32 v1.1), .box 32 (eC32 (v2.1))]⟩ ?_
          by_cases c8 : v1.2 = true
          · replace H := iT c8 H
            rw [c8]
            refine goK hT 31 (K9 11111 1) ⟨80, [(6, .b false)], [.box 32 (eC32 a0), .box 32 (eC32 v1.1), .box 32 (eC32 (v2.1))]⟩ ?_
            refine cutK [] ⟨80, [(6, .b false)], []⟩ h0 ?_
            exact Jj1 false H
          · replace H := iF c8 H
            rw [boF c8]
            refine goK hT 4 (K9 111110 31) ⟨80, [(1, .i a1), (7, .d .np), (8, .ptr 1 0 0 0), (10, .ptr 2 0 0 0), (54, .b (!v2.2))], [.box 32 (eC32 a0), .box 32 (eC32 v1.1), .box 32 (eC32 (v2.1))]⟩ ?_
            by_cases c9 : v2.2 = true
            · replace H := iT c9 H
              rw [c9]
              refine goK hT 27 (K9 11111 1) ⟨80, [(6, .b false)], [.box 32 (eC32 a0), .box 32 (eC32 v1.1), .box 32 (eC32 (v2.1))]⟩ ?_
              refine cutK [] ⟨80, [(6, .b false)], []⟩ h0 ?_
              exact Jj1 false H
            · replace H := iF c9 H
              rw [boF c9]
              refine goK hT 8 (K9 111110 39) ⟨80, [(1, .i a1), (7, .d .np), (62, .b ((IntKind.wrap .i64 (v1.1.Time + ((v2.1).Time))) == 0))], [.box 32 (eC32 a0), .box 32 (eC32 v1.1), .box 32 (eC32 (v2.1))]⟩ ?_
              by_cases c10 : (IntKind.wrap .i64 (v1.1.Time + ((v2.1).Time))) = 0
              · replace H := iT c10 H
                rw [eqT c10]
                refine goK hT 1 (K9 111110 40) ⟨80, [(1, .i a1), (7, .d .np), (62, .b true), (63, .d .np)], [.box 32 (eC32 a0), .box 32 (eC32 v1.1), .box 32 (eC32 (v2.1))]⟩ ?_
                refine ak_callP (avs := [.d .np]) (dst := some 64) (k' := (K9 111110 41)) [1, 7, 62, 64] [] hP enters_23 (hold_Queue_All_n0.says) (by kernel_rfl) (hands_none _) (.cons (pass_d _) .nil) (st' := ⟨80, [(1, .i a1), (7, .d .np), (62, .b true), (64, .own 3 9 0 hold_Queue_All_n0.length)], [.box 32 (eC32 a0), .box 32 (eC32 v1.1), .box 32 (eC32 (v2.1)), eR32 hold_Queue_All_n0]⟩) (by kernel_rfl) ?_
                obtain ⟨v4, h11, H⟩ := idC H
                rw [← h11]
                refine goK hT 4 (K9 111110 45) ⟨80, [(1, .i a1), (7, .d .np), (68, .b ((v4.length : Int) == 0))], [.box 32 (eC32 a0), .box 32 (eC32 v1.1), .box 32 (eC32 (v2.1)), eR32 v4]⟩ ?_
                by_cases c12 : (v4.length : Int) = 0
                · replace H := iT c12 H
                  rw [eqT c12]
                  refine goK hT 1 (K9 111110 46) ⟨80, [(1, .i a1), (7, .d .np), (68, .b true), (69, .d .np)], [.box 32 (eC32 a0), .box 32 (eC32 v1.1), .box 32 (eC32 (v2.1)), eR32 v4]⟩ ?_
                  refine ak_callP (avs := [.d .np]) (dst := some 70) (k' := (K9 111110 47)) [1, 7, 68, 70] [] hP enters_14 (hold_Queue_Len_n0.says) (by kernel_rfl) (hands_none _) (.cons (pass_d _) .nil) (st' := ⟨80, [(1, .i a1), (7, .d .np), (68, .b true), (70, .i hold_Queue_Len_n0)], [.box 32 (eC32 a0), .box 32 (eC32 v1.1), .box 32 (eC32 (v2.1)), eR32 v4]⟩) (by kernel_rfl) ?_
                  refine goK hT 3 (K9 111110 50) ⟨80, [(1, .i a1), (7, .d .np), (73, .b (hold_Queue_Len_n0 == 0))], [.box 32 (eC32 a0), .box 32 (eC32 v1.1), .box 32 (eC32 (v2.1)), eR32 v4]⟩ ?_
                  by_cases c13 : hold_Queue_Len_n0 = 0
                  · replace H := iT c13 H
                    rw [eqT c13]
                    refine goK hT 2 (K9 111110 52) ⟨80, [(1, .i a1), (73, .b true), (74, .d .np), (75, .i a1)], [.box 32 (eC32 a0), .box 32 (eC32 v1.1), .box 32 (eC32 (v2.1)), eR32 v4]⟩ ?_
                    obtain ⟨v5, h14, H⟩ := ibC H
                    refine ak_callP (avs := [.d .np, .i a1]) (dst := some 76) (k' := (K9 111110 53)) [1, 73, 76] [] hP enters_20 (hold_Queue_Floor_n0.says a1 h14) (by kernel_rfl) (hands_none _) (.cons (pass_d _) (.cons (pass_d _) .nil)) (st' := ⟨80, [(1, .i a1), (73, .b true), (76, .i v5)], [.box 32 (eC32 a0), .box 32 (eC32 v1.1), .box 32 (eC32 (v2.1)), eR32 v4]⟩) (by kernel_rfl) ?_
                    refine goK hT 5 (K9 11111 1) ⟨80, [(6, .b (v5 == a1))], [.box 32 (eC32 a0), .box 32 (eC32 v1.1), .box 32 (eC32 (v2.1)), eR32 v4]⟩ ?_
                    refine cutK [] ⟨80, [(6, .b (v5 == a1))], []⟩ h0 ?_
                    exact Jj1 (v5 == a1) H
                  · replace H := iF c13 H
                    rw [eqF c13]
                    refine goK hT 8 (K9 11111 1) ⟨80, [(6, .b false)], [.box 32 (eC32 a0), .box 32 (eC32 v1.1), .box 32 (eC32 (v2.1)), eR32 v4]⟩ ?_
                    refine cutK [] ⟨80, [(6, .b false)], []⟩ h0 ?_
                    exact Jj1 false H
                · replace H := iF c12 H
                  rw [eqF c12]
                  refine goK hT 13 (K9 11111 1) ⟨80, [(6, .b false)], [.box 32 (eC32 a0), .box 32 (eC32 v1.1), .box 32 (eC32 (v2.1)), eR32 v4]⟩ ?_
                  refine cutK [] ⟨80, [(6, .b false)], []⟩ h0 ?_
                  exact Jj1 false H
              · replace H := iF c10 H
                rw [eqF c10]
                refine goK hT 19 (K9 11111 1) ⟨80, [(6, .b false)], [.box 32 (eC32 a0), .box 32 (eC32 v1.1), .box 32 (eC32 (v2.1))]⟩ ?_
                refine cutK [] ⟨80, [(6, .b false)], []⟩ h0 ?_
                exact Jj1 false H
        · replace H := iF c7 H
          rw [eqF c7]
          refine goK hT 35 (K9 11111 1) ⟨80, [(6, .b false)], [.box 32 (eC32 a0), .box 32 (eC32 v1.1), .box 32 (eC32 (v2.1))]⟩ ?_
          refine cutK [] ⟨80, [(6, .b false)], []⟩ h0 ?_
          exact Jj1 false H
      · replace H := iF c6 H
        rw [eqF c6]
        refine goK hT 42 (K9 11111 1) ⟨80, [(6, .b false)], [.box 32 (eC32 a0), .box 32 (eC32 v1.1), .box 32 (eC32 (v2.1))]⟩ ?_
        refine cutK [] ⟨80, [(6, .b false)], []⟩ h0 ?_
        exact Jj1 false H
    · replace H := iF c5 H
      rw [eqF c5]
      refine goK hT 50 (K9 11111 1) ⟨80, [(6, .b false)], [.box 32 (eC32 a0), .box 32 (eC32 v1.1), .box 32 (eC32 (v2.1))]⟩ ?_
      refine cutK [] ⟨80, [(6, .b false)], []⟩ h0 ?_
      exact Jj1 false H
  · replace H := iF c4 H
    rw [boF c4]
    refine goK hT 56 (K9 11111 1) ⟨80, [(6, .b false)], [.box 32 (eC32 a0), .box 32 (eC32 v1.1), .box 32 (eC32 (v2.1))]⟩ ?_
    refine cutK [] ⟨80, [(6, .b false)], []⟩ h0 ?_
    exact Jj1 false H
end Go.SyP
