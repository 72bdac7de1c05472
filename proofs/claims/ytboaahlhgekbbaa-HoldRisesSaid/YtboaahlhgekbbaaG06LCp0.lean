/- Certificates, printed by gen.py. -/
import Derived.Test.YtboaahlhgekbbaaG06LP
import Derived.Test.YtboaahlhgekbbaaG06A
set_option linter.unusedVariables false
set_option linter.unusedSimpArgs false
namespace Go.SyP
open Go Go.Sy Go.Proofs


theorem splicelaw06_del.says (a0 : Int) (a1 : Int) : Says Try.prog 31 [] [.i a0, .i a1] [] (.d (eG30 (splicelaw06_del a0 a1))) := by
  obtain ⟨r, H⟩ : ∃ r, splicelaw06_del a0 a1 = r := ⟨_, rfl⟩
  rw [H]
  refine says_of Try.func31 rfl (nt := 9) rfl (Nat.le_of_ble_eq_true rfl) fun X hP h0 hX => ?_
  have hT : TabOk X.P T := hP ▸ tok
  have hf : X.P.funcs[31]? = some Try.f31 := hP ▸ Try.func31
  refine goK hT 10 (K31 110 4) ⟨9, [(4, .ptr 0 0 0 0), (8, .d (.agg [.i a0, .i a1, .i 2, .ns, .i 1, .i 2, .i 0]))], [.box 30 [.i 0, .i 0, .i 0, .ns, .i 0, .i 0, .i 0]]⟩ ?_
  refine ak_sealS (av := .d (.agg [.i a0, .i a1, .i 2, .ns, .i 1, .i 2, .i 0])) (y := .agg [.i a0, .i a1, .i 2, eL70 true ([] : List api_Pair), .i 1, .i 2, .i 0]) [4, 8] 8 (st' := ⟨9, [(4, .ptr 0 0 0 0), (8, .d (.agg [.i a0, .i a1, .i 2, eL70 true ([] : List api_Pair), .i 1, .i 2, .i 0]))], [.box 30 [.i 0, .i 0, .i 0, .ns, .i 0, .i 0, .i 0]]⟩) (by kernel_rfl) (.aggd (.cons (.d _) (.cons (.d _) (.cons (.d _) (.cons (.nil _) (.cons (.d _) (.cons (.d _) (.cons (.d _) .nil)))))))) (by kernel_rfl) ?_
  refine goK hT 2 (K31 11 1) ⟨9, [(4, .ptr 0 0 0 0)], [.box 30 [.i a0, .i a1, .i 2, .d (eL70 true ([] : List api_Pair)), .i 1, .i 2, .i 0]]⟩ ?_
  obtain rfl := H
  exact ak_retM hT hf hX (av := .d (.agg [.i a0, .i a1, .i 2, eL70 true ([] : List api_Pair), .i 1, .i 2, .i 0])) (by kernel_rfl) [] (sel_of_eq (by kernel_rfl)) (by decide) (by rw [h0]; rfl) (by kernel_rfl) (fun _ h => all_nil h) (.d (.agg (api_Mut.nl _)))


theorem splicelaw06_awake.says {r : Bool} (H : splicelaw06_awake = some r) : Says Try.prog 11 [] [] [] (.b r) := by
  refine says_of Try.func11 rfl (nt := 87) rfl (Nat.le_of_ble_eq_true rfl) fun X hP h0 hX => ?_
  have hT : TabOk X.P T := hP ▸ tok
  have hf : X.P.funcs[11]? = some Try.f11 := hP ▸ Try.func11
  refine goK hT 6 (K11 110 0) ⟨87, [], []⟩ ?_
  refine ak_callP (avs := []) (dst := some 13) (k' := (K11 110 1)) [13] [] hP enters_10 (qNew_says) (by kernel_rfl) (hands_none _) .nil (st' := ⟨87, [(13, .ptr 0 0 0 0)], [qR qNew]⟩) (by kernel_rfl) ?_
  obtain ⟨v1, h1, H⟩ := idC H
  rw [← h1]
  refine goK hT 5 (K11 1110 1) ⟨87, [(1, .ptr 0 0 0 0), (14, .ptr 0 0 0 0)], [qR v1]⟩ ?_
  refine ak_callP (avs := [.i 1, .i 1]) (dst := some 15) (k' := (K11 1110 2)) [1, 14, 15] [] hP enters_31 (splicelaw06_del.says 1 1) (by kernel_rfl) (hands_none _) (.cons (pass_d _) (.cons (pass_d _) .nil)) (st' := ⟨87, [(1, .ptr 0 0 0 0), (14, .ptr 0 0 0 0), (15, .d (eG30 (splicelaw06_del 1 1)))], [qR v1]⟩) (by kernel_rfl) ?_
  obtain ⟨v2, h2, H⟩ := idC H
  rw [← h2]
  refine goK hT 1 (K11 1110 3) ⟨87, [(1, .ptr 0 0 0 0), (14, .ptr 0 0 0 0), (16, .d (.agg [.i v2.Client, .i v2.Seq, .i v2.Kind, eL70 true v2.Pairs, .i ((v2.Over).Lo), .i ((v2.Over).Hi), .i v2.Old, .i 5, .b false]))], [qR v1]⟩ ?_
  obtain ⟨v3, h3, H⟩ := ibC H
  refine ak_callP (avs := [.ptr 0 0 0 0, .d (.agg [.i v2.Client, .i v2.Seq, .i v2.Kind, eL70 true v2.Pairs, .i ((v2.Over).Lo), .i ((v2.Over).Hi), .i v2.Old, .i 5, .b false])]) (dst := some 17) (k' := (K11 1110 4)) [1, 17] [0] hP enters_12 (qAdd_says v1 (⟨(⟨v2.Client, v2.Seq, v2.Kind, v2.Pairs, (v2.Over), v2.Old⟩ : api_Mut), 5, false⟩ : api_Held) h3) (by kernel_rfl) (hands_one rfl rfl) (.cons (.same (.ptr 0 0 0 0)) (.cons (pass_d _) .nil)) (st' := ⟨87, [(1, .ptr 0 0 0 0), (17, .i v3.1)], [qR v3.2]⟩) (by kernel_rfl) ?_
  refine goK hT 5 (K11 11110 1) ⟨87, [(1, .ptr 0 0 0 0), (2, .i v3.1), (18, .ptr 0 0 0 0)], [qR v3.2]⟩ ?_
  refine ak_callP (avs := [.i 2, .i 1]) (dst := some 19) (k' := (K11 11110 2)) [1, 2, 18, 19] [] hP enters_31 (splicelaw06_del.says 2 1) (by kernel_rfl) (hands_none _) (.cons (pass_d _) (.cons (pass_d _) .nil)) (st' := ⟨87, [(1, .ptr 0 0 0 0), (2, .i v3.1), (18, .ptr 0 0 0 0), (19, .d (eG30 (splicelaw06_del 2 1)))], [qR v3.2]⟩) (by kernel_rfl) ?_
  obtain ⟨v4, h4, H⟩ := idC H
  rw [← h4]
  refine goK hT 1 (K11 11110 3) ⟨87, [(1, .ptr 0 0 0 0), (2, .i v3.1), (18, .ptr 0 0 0 0), (20, .d (.agg [.i v4.Client, .i v4.Seq, .i v4.Kind, eL70 true v4.Pairs, .i ((v4.Over).Lo), .i ((v4.Over).Hi), .i v4.Old, .i 3, .b false]))], [qR v3.2]⟩ ?_
  obtain ⟨v5, h5, H⟩ := ibC H
  refine ak_callP (avs := [.ptr 0 0 0 0, .d (.agg [.i v4.Client, .i v4.Seq, .i v4.Kind, eL70 true v4.Pairs, .i ((v4.Over).Lo), .i ((v4.Over).Hi), .i v4.Old, .i 3, .b false])]) (dst := some 21) (k' := (K11 11110 4)) [1, 2, 21] [0] hP enters_12 (qAdd_says v3.2 (⟨(⟨v4.Client, v4.Seq, v4.Kind, v4.Pairs, (v4.Over), v4.Old⟩ : api_Mut), 3, false⟩ : api_Held) h5) (by kernel_rfl) (hands_one rfl rfl) (.cons (.same (.ptr 0 0 0 0)) (.cons (pass_d _) .nil)) (st' := ⟨87, [(1, .ptr 0 0 0 0), (2, .i v3.1), (21, .i v5.1)], [qR v5.2]⟩) (by kernel_rfl) ?_
  refine goK hT 5 (K11 111110 1) ⟨87, [(1, .ptr 0 0 0 0), (2, .i v3.1), (3, .i v5.1), (23, .ptr 0 0 0 0)], [qR v5.2]⟩ ?_
  refine ak_callP (avs := [.ptr 0 0 0 0]) (dst := some 24) (k' := (K11 111110 2)) [1, 2, 3, 24] [0] hP enters_15 (qPop_says v5.2) (by kernel_rfl) (hands_one rfl rfl) (.cons (.same (.ptr 0 0 0 0)) .nil) (st' := ⟨87, [(1, .ptr 0 0 0 0), (2, .i v3.1), (3, .i v5.1), (24, .tup [.d (eG32 ((qPop v5.2).1)), .b ((qPop v5.2).2.1)])], [qR ((qPop v5.2).2.2)]⟩) (by kernel_rfl) ?_
  obtain ⟨v6, h6, H⟩ := idC H
  rw [← h6]
  refine goK hT 10 (K11 1111110 1) ⟨87, [(1, .ptr 0 0 0 0), (2, .i v3.1), (3, .i v5.1), (5, .b v6.2.1), (27, .ptr 0 0 0 0)], [qR v6.2.2, .box 32 (eC32 (v6.1))]⟩ ?_
  refine ak_callP (avs := [.ptr 0 0 0 0, .i 2, .i 1, .i 7]) (dst := some 28) (k' := (K11 1111110 2)) [1, 2, 3, 5, 28] [0] hP enters_13 (qFinal_says v6.2.2 2 1 7) (by kernel_rfl) (hands_one rfl rfl) (.cons (.same (.ptr 0 0 0 0)) (.cons (pass_d _) (.cons (pass_d _) (.cons (pass_d _) .nil)))) (st' := ⟨87, [(1, .ptr 0 0 0 0), (2, .i v3.1), (3, .i v5.1), (5, .b v6.2.1), (28, .i ((qFinal v6.2.2 2 1 7).1))], [qR ((qFinal v6.2.2 2 1 7).2), .box 32 (eC32 (v6.1))]⟩) (by kernel_rfl) ?_
  obtain ⟨v7, h7, H⟩ := idC H
  rw [← h7]
  refine goK hT 5 (K11 11111110 1) ⟨87, [(1, .ptr 0 0 0 0), (2, .i v3.1), (3, .i v5.1), (5, .b v6.2.1), (6, .i v7.1), (29, .ptr 0 0 0 0)], [qR v7.2, .box 32 (eC32 (v6.1))]⟩ ?_
  refine ak_callP (avs := [.ptr 0 0 0 0, .i 99]) (dst := some 30) (k' := (K11 11111110 2)) [1, 2, 3, 5, 6, 30] [0] hP enters_20 (qFloor_says v7.2 99) (by kernel_rfl) (hands_one rfl rfl) (.cons (.same (.ptr 0 0 0 0)) (.cons (pass_d _) .nil)) (st' := ⟨87, [(1, .ptr 0 0 0 0), (2, .i v3.1), (3, .i v5.1), (5, .b v6.2.1), (6, .i v7.1), (30, .i (qFloor v7.2 99))], [qR v7.2, .box 32 (eC32 (v6.1))]⟩) (by kernel_rfl) ?_
  refine goK hT 5 (K11 111111110 1) ⟨87, [(1, .ptr 0 0 0 0), (2, .i v3.1), (3, .i v5.1), (5, .b v6.2.1), (6, .i v7.1), (7, .i (qFloor v7.2 99)), (31, .ptr 0 0 0 0)], [qR v7.2, .box 32 (eC32 (v6.1))]⟩ ?_
  refine ak_callP (avs := [.ptr 0 0 0 0, .i 1, .i 1, .i 5]) (dst := some 32) (k' := (K11 111111110 2)) [1, 2, 3, 5, 6, 7, 32] [0] hP enters_13 (qFinal_says v7.2 1 1 5) (by kernel_rfl) (hands_one rfl rfl) (.cons (.same (.ptr 0 0 0 0)) (.cons (pass_d _) (.cons (pass_d _) (.cons (pass_d _) .nil)))) (st' := ⟨87, [(1, .ptr 0 0 0 0), (2, .i v3.1), (3, .i v5.1), (5, .b v6.2.1), (6, .i v7.1), (7, .i (qFloor v7.2 99)), (32, .i ((qFinal v7.2 1 1 5).1))], [qR ((qFinal v7.2 1 1 5).2), .box 32 (eC32 (v6.1))]⟩) (by kernel_rfl) ?_
  obtain ⟨v8, h8, H⟩ := idC H
  rw [← h8]
  refine goK hT 5 (K11 1111111110 1) ⟨87, [(1, .ptr 0 0 0 0), (2, .i v3.1), (3, .i v5.1), (5, .b v6.2.1), (6, .i v7.1), (7, .i (qFloor v7.2 99)), (8, .i v8.1), (34, .ptr 0 0 0 0)], [qR v8.2, .box 32 (eC32 (v6.1))]⟩ ?_
  refine ak_callP (avs := [.ptr 0 0 0 0]) (dst := some 35) (k' := (K11 1111111110 2)) [1, 2, 3, 5, 6, 7, 8, 35] [0] hP enters_15 (qPop_says v8.2) (by kernel_rfl) (hands_one rfl rfl) (.cons (.same (.ptr 0 0 0 0)) .nil) (st' := ⟨87, [(1, .ptr 0 0 0 0), (2, .i v3.1), (3, .i v5.1), (5, .b v6.2.1), (6, .i v7.1), (7, .i (qFloor v7.2 99)), (8, .i v8.1), (35, .tup [.d (eG32 ((qPop v8.2).1)), .b ((qPop v8.2).2.1)])], [qR ((qPop v8.2).2.2), .box 32 (eC32 (v6.1))]⟩) (by kernel_rfl) ?_
  obtain ⟨v9, h9, H⟩ := idC H
  rw [← h9]
  refine goK hT 10 (K11 11111111110 1) ⟨87, [(1, .ptr 0 0 0 0), (2, .i v3.1), (3, .i v5.1), (5, .b v6.2.1), (6, .i v7.1), (7, .i (qFloor v7.2 99)), (8, .i v8.1), (9, .ptr 2 0 0 0), (10, .b v9.2.1), (39, .ptr 0 0 0 0)], [qR v9.2.2, .box 32 (eC32 (v6.1)), .box 32 (eC32 (v9.1))]⟩ ?_
  refine ak_callP (avs := [.ptr 0 0 0 0]) (dst := some 40) (k' := (K11 11111111110 2)) [1, 2, 3, 5, 6, 7, 8, 9, 10, 40] [0] hP enters_15 (qPop_says v9.2.2) (by kernel_rfl) (hands_one rfl rfl) (.cons (.same (.ptr 0 0 0 0)) .nil) (st' := ⟨87, [(1, .ptr 0 0 0 0), (2, .i v3.1), (3, .i v5.1), (5, .b v6.2.1), (6, .i v7.1), (7, .i (qFloor v7.2 99)), (8, .i v8.1), (9, .ptr 2 0 0 0), (10, .b v9.2.1), (40, .tup [.d (eG32 ((qPop v9.2.2).1)), .b ((qPop v9.2.2).2.1)])], [qR ((qPop v9.2.2).2.2), .box 32 (eC32 (v6.1)), .box 32 (eC32 (v9.1))]⟩) (by kernel_rfl) ?_
  obtain ⟨v10, h10, H⟩ := idC H
  have Jj1 : ∀ (y1_0 : Bool), (splicelaw06_awake.j1 y1_0) = some r → AK X 11 ((K11 11111111111 1)) (Back X [] (.b r)) ⟨87, [(0, .b y1_0)], []⟩ := by
    intro y1_0 H
    obtain rfl := retC H
    exact ak_ret hf hX (av := .b y1_0) (by kernel_rfl) [] (sel_of_eq (by kernel_rfl)) (by decide) (by rw [h0]; rfl) (by kernel_rfl) (fun _ h => all_nil h) (.d (.v _))
  rw [← h10]
  refine goK hT 12 (K11 111111111110 3) ⟨87, [(1, .ptr 0 0 0 0), (3, .i v5.1), (5, .b v6.2.1), (6, .i v7.1), (7, .i (qFloor v7.2 99)), (8, .i v8.1), (9, .ptr 2 0 0 0), (10, .b v9.2.1), (11, .ptr 3 0 0 0), (12, .b v10.2.1), (45, .b (v3.1 == 0))], [qR v10.2.2, .box 32 (eC32 (v6.1)), .box 32 (eC32 (v9.1)), .box 32 (eC32 (v10.1))]⟩ ?_
  by_cases c11 : v3.1 = 0
  · replace H := iT c11 H
    rw [eqT c11]
    refine goK hT 4 (K11 111111111110 7) ⟨87, [(1, .ptr 0 0 0 0), (5, .b v6.2.1), (6, .i v7.1), (7, .i (qFloor v7.2 99)), (8, .i v8.1), (9, .ptr 2 0 0 0), (10, .b v9.2.1), (11, .ptr 3 0 0 0), (12, .b v10.2.1), (49, .b (v5.1 == 0))], [qR v10.2.2, .box 32 (eC32 (v6.1)), .box 32 (eC32 (v9.1)), .box 32 (eC32 (v10.1))]⟩ ?_
    by_cases c12 : v5.1 = 0
    · replace H := iT c12 H
      rw [eqT c12]
      refine goK hT 4 (K11 111111111110 11) ⟨87, [(1, .ptr 0 0 0 0), (6, .i v7.1), (7, .i (qFloor v7.2 99)), (8, .i v8.1), (9, .ptr 2 0 0 0), (10, .b v9.2.1), (11, .ptr 3 0 0 0), (12, .b v10.2.1), (53, .b (!v6.2.1))], [qR v10.2.2, .box 32 (eC32 (v6.1)), .box 32 (eC32 (v9.1)), .box 32 (eC32 (v10.1))]⟩ ?_
      by_cases c13 : v6.2.1 = true
      · replace H := iT c13 H
        rw [c13]
        refine goK hT 35 (K11 11111111111 1) ⟨87, [(0, .b false)], [qR v10.2.2, .box 32 (eC32 (v6.1)), .box 32 (eC32 (v9.1)), .box 32 (eC32 (v10.1))]⟩ ?_
        refine cutK [] ⟨87, [(0, .b false)], []⟩ h0 ?_
        exact Jj1 false H
      · replace H := iF c13 H
        rw [boF c13]
        refine goK hT 4 (K11 111111111110 15) ⟨87, [(1, .ptr 0 0 0 0), (7, .i (qFloor v7.2 99)), (8, .i v8.1), (9, .ptr 2 0 0 0), (10, .b v9.2.1), (11, .ptr 3 0 0 0), (12, .b v10.2.1), (57, .b (v7.1 == 0))], [qR v10.2.2, .box 32 (eC32 (v6.1)), .box 32 (eC32 (v9.1)), .box 32 (eC32 (v10.1))]⟩ ?_
        by_cases c14 : v7.1 = 0
        · replace H := iT c14 H
          rw [eqT c14]
          refine goK hT 4 (K11 111111111110 19) ⟨87, [(1, .ptr 0 0 0 0), (8, .i v8.1), (9, .ptr 2 0 0 0), (10, .b v9.2.1), (11, .ptr 3 0 0 0), (12, .b v10.2.1), (61, .b ((qFloor v7.2 99) == 4))], [qR v10.2.2, .box 32 (eC32 (v6.1)), .box 32 (eC32 (v9.1)), .box 32 (eC32 (v10.1))]⟩ ?_
          by_cases c15 : (qFloor v7.2 99) = 4
          · replace H := iT c15 H
            rw [eqT c15]
            refine goK hT 4 (K11 111111111110 23) ⟨87, [(1, .ptr 0 0 0 0), (9, .ptr 2 0 0 0), (10, .b v9.2.1), (11, .ptr 3 0 0 0), (12, .b v10.2.1), (65, .b (v8.1 == 0))], [qR v10.2.2, .box 32 (eC32 (v6.1)), .box 32 (eC32 (v9.1)), .box 32 (eC32 (v10.1))]⟩ ?_
            by_cases c16 : v8.1 = 0
            · replace H := iT c16 H
              rw [eqT c16]
              refine goK hT 3 (K11 111111111110 26) ⟨87, [(1, .ptr 0 0 0 0), (9, .ptr 2 0 0 0), (11, .ptr 3 0 0 0), (12, .b v10.2.1), (68, .b v9.2.1)], [qR v10.2.2, .box 32 (eC32 (v6.1)), .box 32 (eC32 (v9.1)), .box 32 (eC32 (v10.1))]⟩ ?_
              by_cases c17 : v9.2.1 = true
              · replace H := iT c17 H
                rw [c17]
                refine goK hT 6 (K11 111111111110 32) ⟨87, [(1, .ptr 0 0 0 0), (11, .ptr 3 0 0 0), (12, .b v10.2.1), (74, .b ((((v9.1).M).Client) == 1))], [qR v10.2.2, .box 32 (eC32 (v6.1)), .box 32 (eC32 (v9.1)), .box 32 (eC32 (v10.1))]⟩ ?_
                by_cases c18 : (((v9.1).M).Client) = 1
                · replace H := iT c18 H
                  rw [eqT c18]
                  refine goK hT 3 (K11 111111111110 35) ⟨87, [(1, .ptr 0 0 0 0), (11, .ptr 3 0 0 0), (77, .b v10.2.1)], [qR v10.2.2, .box 32 (eC32 (v6.1)), .box 32 (eC32 (v9.1)), .box 32 (eC32 (v10.1))]⟩ ?_
                  by_cases c19 : v10.2.1 = true
                  · replace H := iT c19 H
                    rw [c19]
                    refine goK hT 5 (K11 111111111110 40) ⟨87, [(1, .ptr 0 0 0 0), (82, .b (((v10.1).Time) == 7))], [qR v10.2.2, .box 32 (eC32 (v6.1)), .box 32 (eC32 (v9.1)), .box 32 (eC32 (v10.1))]⟩ ?_
                    by_cases c20 : ((v10.1).Time) = 7
                    · replace H := iT c20 H
                      rw [eqT c20]
                      refine goK hT 1 (K11 111111111110 41) ⟨87, [(82, .b true), (83, .ptr 0 0 0 0)], [qR v10.2.2, .box 32 (eC32 (v6.1)), .box 32 (eC32 (v9.1)), .box 32 (eC32 (v10.1))]⟩ ?_
                      refine ak_callP (avs := [.ptr 0 0 0 0]) (dst := some 84) (k' := (K11 111111111110 42)) [82, 84] [0] hP enters_14 (qLen_says v10.2.2) (by kernel_rfl) (hands_one rfl rfl) (.cons (.same (.ptr 0 0 0 0)) .nil) (st' := ⟨87, [(82, .b true), (84, .i (qLen v10.2.2))], [qR v10.2.2, .box 32 (eC32 (v6.1)), .box 32 (eC32 (v9.1)), .box 32 (eC32 (v10.1))]⟩) (by kernel_rfl) ?_
                      refine goK hT 4 (K11 11111111111 1) ⟨87, [(0, .b ((qLen v10.2.2) == 0))], [qR v10.2.2, .box 32 (eC32 (v6.1)), .box 32 (eC32 (v9.1)), .box 32 (eC32 (v10.1))]⟩ ?_
                      refine cutK [] ⟨87, [(0, .b ((qLen v10.2.2) == 0))], []⟩ h0 ?_
                      exact Jj1 ((qLen v10.2.2) == 0) H
                    · replace H := iF c20 H
                      rw [eqF c20]
                      refine goK hT 6 (K11 11111111111 1) ⟨87, [(0, .b false)], [qR v10.2.2, .box 32 (eC32 (v6.1)), .box 32 (eC32 (v9.1)), .box 32 (eC32 (v10.1))]⟩ ?_
                      refine cutK [] ⟨87, [(0, .b false)], []⟩ h0 ?_
                      exact Jj1 false H
                  · replace H := iF c19 H
                    rw [boF c19]
                    refine goK hT 11 (K11 11111111111 1) ⟨87, [(0, .b false)], [qR v10.2.2, .box 32 (eC32 (v6.1)), .box 32 (eC32 (v9.1)), .box 32 (eC32 (v10.1))]⟩ ?_
                    refine cutK [] ⟨87, [(0, .b false)], []⟩ h0 ?_
                    exact Jj1 false H
                · replace H := iF c18 H
                  rw [eqF c18]
                  refine goK hT 14 (K11 11111111111 1) ⟨87, [(0, .b false)], [qR v10.2.2, .box 32 (eC32 (v6.1)), .box 32 (eC32 (v9.1)), .box 32 (eC32 (v10.1))]⟩ ?_
                  refine cutK [] ⟨87, [(0, .b false)], []⟩ h0 ?_
                  exact Jj1 false H
              · replace H := iF c17 H
                rw [boF c17]
                refine goK hT 20 (K11 11111111111 1) ⟨87, [(0, .b false)], [qR v10.2.2, .box 32 (eC32 (v6.1)), .box 32 (eC32 (v9.1)), .box 32 (eC32 (v10.1))]⟩ ?_
                refine cutK [] ⟨87, [(0, .b false)], []⟩ h0 ?_
                exact Jj1 false H
            · replace H := iF c16 H
              rw [eqF c16]
              refine goK hT 23 (K11 11111111111 1) ⟨87, [(0, .b false)], [qR v10.2.2, .box 32 (eC32 (v6.1)), .box 32 (eC32 (v9.1)), .box 32 (eC32 (v10.1))]⟩ ?_
              refine cutK [] ⟨87, [(0, .b false)], []⟩ h0 ?_
              exact Jj1 false H
          · replace H := iF c15 H
            rw [eqF c15]
            refine goK hT 27 (K11 11111111111 1) ⟨87, [(0, .b false)], [qR v10.2.2, .box 32 (eC32 (v6.1)), .box 32 (eC32 (v9.1)), .box 32 (eC32 (v10.1))]⟩ ?_
            refine cutK [] ⟨87, [(0, .b false)], []⟩ h0 ?_
            exact Jj1 false H
        · replace H := iF c14 H
          rw [eqF c14]
          refine goK hT 31 (K11 11111111111 1) ⟨87, [(0, .b false)], [qR v10.2.2, .box 32 (eC32 (v6.1)), .box 32 (eC32 (v9.1)), .box 32 (eC32 (v10.1))]⟩ ?_
          refine cutK [] ⟨87, [(0, .b false)], []⟩ h0 ?_
          exact Jj1 false H
    · replace H := iF c12 H
      rw [eqF c12]
      refine goK hT 39 (K11 11111111111 1) ⟨87, [(0, .b false)], [qR v10.2.2, .box 32 (eC32 (v6.1)), .box 32 (eC32 (v9.1)), .box 32 (eC32 (v10.1))]⟩ ?_
      refine cutK [] ⟨87, [(0, .b false)], []⟩ h0 ?_
      exact Jj1 false H
  · replace H := iF c11 H
    rw [eqF c11]
    refine goK hT 43 (K11 11111111111 1) ⟨87, [(0, .b false)], [qR v10.2.2, .box 32 (eC32 (v6.1)), .box 32 (eC32 (v9.1)), .box 32 (eC32 (v10.1))]⟩ ?_
    refine cutK [] ⟨87, [(0, .b false)], []⟩ h0 ?_
    exact Jj1 false H


theorem splicelaw06_World_step.says (a0 : splicelaw06_World) (a1 : api_Mut) (a2 : Int) (a3 : Bool) {r : Bool × splicelaw06_World} (H : splicelaw06_World_step a0 a1 a2 a3 = some r) : Says Try.prog 18 [.box 48 [.ptr 1 0 0 0, .i a0.clock, .own 2 3 0 a0.popped.length, .i a0.floor], qR a0.q, eR37 a0.popped] [.ptr 0 0 0 0, .d (eG30 a1), .i a2, .b a3] [.box 48 [.ptr 1 0 0 0, .i r.2.clock, .own 3 3 0 r.2.popped.length, .i r.2.floor], qR r.2.q, .gone, eR37 r.2.popped] (.b r.1) := by
  refine says_of Try.func18 rfl (nt := 152) rfl (Nat.le_of_ble_eq_true rfl) fun X hP h0 hX => ?_
  have hT : TabOk X.P T := hP ▸ tok
  have hf : X.P.funcs[18]? = some Try.f18 := hP ▸ Try.func18
  have Jj2 : ∀ (y2_b0_1 : Int) (y2_r1 : QL), (splicelaw06_World_step.j2 a0 y2_b0_1 y2_r1) = some r → AK X 18 ((K18 11 1)) (Back X [.box 48 [.ptr 1 0 0 0, .i r.2.clock, .own 3 3 0 r.2.popped.length, .i r.2.floor], qR r.2.q, .gone, eR37 r.2.popped] (.b r.1)) ⟨152, [(0, .ptr 0 0 0 0)], [.box 48 [.ptr 1 0 0 0, .i y2_b0_1, .own 3 3 0 a0.popped.length, .i a0.floor], qR y2_r1, .gone, eR37 a0.popped]⟩ := by
    intro y2_b0_1 y2_r1 H
    refine goK hT 3 (K18 11100 0) ⟨152, [(0, .ptr 0 0 0 0)], [.box 48 [.ptr 1 0 0 0, .i y2_b0_1, .own 3 3 0 a0.popped.length, .i a0.floor], qR y2_r1, .gone, eR37 a0.popped]⟩ ?_
    have L : ∀ n, (∀ (x1_r1 : QL) (x1_r3 : List api_Stamp), iter (splicelaw06_World_step.step a0 y2_b0_1) n (.l1 x1_r1 x1_r3) = some r → AK X 18 ((K18 11100 0)) (Back X [.box 48 [.ptr 1 0 0 0, .i r.2.clock, .own 3 3 0 r.2.popped.length, .i r.2.floor], qR r.2.q, .gone, eR37 r.2.popped] (.b r.1)) ⟨152, [(0, .ptr 0 0 0 0)], [.box 48 [.ptr 1 0 0 0, .i y2_b0_1, .own 3 3 0 x1_r3.length, .i a0.floor], qR x1_r1, .gone, eR37 x1_r3]⟩) := by
      intro n
      induction n with
      | zero => exact fun _ _ H => iter0 H
      | succ n ih =>
        · intro x1_r1 x1_r3 H
          replace H : stk (splicelaw06_World_step.step a0 y2_b0_1 (.l1 x1_r1 x1_r3)) (iter (splicelaw06_World_step.step a0 y2_b0_1) n) = some r := H
          simp only [splicelaw06_World_step.step, splicelaw06_World_step.l1] at H
          refine goK hT 7 (K18 11100000 4) ⟨152, [(0, .ptr 0 0 0 0), (83, .ptr 1 0 0 0)], [.box 48 [.ptr 1 0 0 0, .i y2_b0_1, .own 3 3 0 x1_r3.length, .i a0.floor], qR x1_r1, .gone, eR37 x1_r3]⟩ ?_
          refine ak_callP (avs := [.ptr 1 0 0 0]) (dst := some 84) (k' := (K18 11100000 5)) [0, 84] [1] hP enters_15 (qPop_says x1_r1) (by kernel_rfl) (hands_one rfl rfl) (.cons (.same (.ptr 0 0 0 0)) .nil) (st' := ⟨152, [(0, .ptr 0 0 0 0), (84, .tup [.d (eG32 ((qPop x1_r1).1)), .b ((qPop x1_r1).2.1)])], [.box 48 [.ptr 1 0 0 0, .i y2_b0_1, .own 3 3 0 x1_r3.length, .i a0.floor], qR ((qPop x1_r1).2.2), .gone, eR37 x1_r3]⟩) (by kernel_rfl) ?_
          obtain ⟨v2, h6, H⟩ := sdC H
          rw [← h6]
          refine goK hT 13 (K18 111000010 1) ⟨152, [(0, .ptr 0 0 0 0), (11, .ptr 4 0 0 0), (88, .b (!v2.2.1))], [.box 48 [.ptr 1 0 0 0, .i y2_b0_1, .own 3 3 0 x1_r3.length, .i a0.floor], qR v2.2.2, .gone, eR37 x1_r3, .box 32 (eC32 (v2.1))]⟩ ?_
          by_cases c7 : v2.2.1 = true
          · replace H := sT c7 H
            rw [c7]
            refine goK hT 2 (K18 11100001 1) ⟨152, [(0, .ptr 0 0 0 0), (11, .ptr 4 0 0 0)], [.box 48 [.ptr 1 0 0 0, .i y2_b0_1, .own 3 3 0 x1_r3.length, .i a0.floor], qR v2.2.2, .gone, eR37 x1_r3, .box 32 (eC32 (v2.1))]⟩ ?_
            refine goK hT 6 (K18 1110000110 4) ⟨152, [(0, .ptr 0 0 0 0), (11, .ptr 4 0 0 0), (90, .i ((v2.1).Time)), (92, .d (eG30 ((v2.1).M)))], [.box 48 [.ptr 1 0 0 0, .i y2_b0_1, .own 3 3 0 x1_r3.length, .i a0.floor], qR v2.2.2, .gone, eR37 x1_r3, .box 32 (eC32 (v2.1))]⟩ ?_
            refine ak_callP (avs := [.i ((v2.1).Time), .d (eG30 ((v2.1).M))]) (dst := some 93) (k' := (K18 1110000110 5)) [0, 11, 93] [] hP enters_16 (mut_Stamp.says ((v2.1).Time) ((v2.1).M)) (by kernel_rfl) (hands_none _) (.cons (pass_d _) (.cons (pass_d _) .nil)) (st' := ⟨152, [(0, .ptr 0 0 0 0), (11, .ptr 4 0 0 0), (93, .d (eG37 (mut_Stamp ((v2.1).Time) ((v2.1).M))))], [.box 48 [.ptr 1 0 0 0, .i y2_b0_1, .own 3 3 0 x1_r3.length, .i a0.floor], qR v2.2.2, .gone, eR37 x1_r3, .box 32 (eC32 (v2.1))]⟩) (by kernel_rfl) ?_
            obtain ⟨v3, h9, H⟩ := sdC H
            have Jj3 : ∀ (y3_122 : Bool), stk (splicelaw06_World_step.j3 a0 y2_b0_1 x1_r3 v2 v3 y3_122) (iter (splicelaw06_World_step.step a0 y2_b0_1) n) = some r → AK X 18 ((K18 111000011101 1)) (Back X [.box 48 [.ptr 1 0 0 0, .i r.2.clock, .own 3 3 0 r.2.popped.length, .i r.2.floor], qR r.2.q, .gone, eR37 r.2.popped] (.b r.1)) ⟨152, [(0, .ptr 0 0 0 0), (13, .ptr 3 0 0 0), (122, .b y3_122)], [.box 48 [.ptr 1 0 0 0, .i y2_b0_1, .own 4 3 0 x1_r3.length, .i a0.floor], qR v2.2.2, .gone, .box 37 (eC37 v3), eR37 x1_r3]⟩ := by
              intro y3_122 H
              by_cases c14 : y3_122 = true
              · replace H := sT c14 H
                rw [c14]
                refine goK hT 5 (K18 11100001110110 1) ⟨152, [(8, .b false)], [.box 48 [.ptr 1 0 0 0, .i y2_b0_1, .own 4 3 0 x1_r3.length, .i a0.floor], qR v2.2.2, .gone, .box 37 (eC37 v3), eR37 x1_r3]⟩ ?_
                obtain rfl := retC H
                exact ak_ret hf hX (av := .b false) (by kernel_rfl) [0, 1, 2, 4] (sel_of_eq (by kernel_rfl)) (by decide) (by rw [h0]; rfl) (by kernel_rfl) (fun _ h => all_cons (.box (.cons (.ptr _ _ _ _) (.cons (.d (.v _)) (.cons (.own _ _ _ _) (.cons (.d (.v _)) .nil))))) (fun _ h => all_cons (.obj _) (fun _ h => all_cons .gone (fun _ h => all_cons (nr_vec api_Stamp.nl) (fun _ h => all_nil h) h) h) h) h) (.d (.v _))
              · replace H := sF c14 H
                rw [boF c14]
                refine goK hT 2 (K18 1110000111 1) ⟨152, [(0, .ptr 0 0 0 0), (13, .ptr 3 0 0 0)], [.box 48 [.ptr 1 0 0 0, .i y2_b0_1, .own 4 3 0 x1_r3.length, .i a0.floor], qR v2.2.2, .gone, .box 37 (eC37 v3), eR37 x1_r3]⟩ ?_
                obtain ⟨h15, H⟩ := sC H
                refine ak_drawAtE (nt := 152) (hP ▸ mixed) 8 [6, 7] [0, 13] [(0, .ptr 0 0 0 0), (13, .ptr 3 0 0 0)] [some (.ptr 0 0 0 0), some (.ptr 0 0 0 0), some (.ptr 0 0 0 0), some (.ptr 0 0 0 2), some (.own 4 3 0 x1_r3.length), some (.d (eG37 v3)), some (.own 5 3 0 1), some (.own 6 3 0 ((x1_r3 ++ [v3]).length))] [[.box 48 [.ptr 1 0 0 0, .i y2_b0_1, .own 4 3 0 x1_r3.length, .i a0.floor], qR v2.2.2, .gone, .box 37 (eC37 v3), eR37 x1_r3], [.box 48 [.ptr 1 0 0 0, .i y2_b0_1, .own 4 3 0 x1_r3.length, .i a0.floor], qR v2.2.2, .gone, .box 37 (eC37 v3), eR37 x1_r3, .flat false 3 37 1 (fun j => [api_Stamp.e v3].getD j [])], [.box 48 [.ptr 1 0 0 0, .i y2_b0_1, .own 4 3 0 x1_r3.length, .i a0.floor], qR v2.2.2, .gone, .box 37 (eC37 v3), .gone, .flat false 3 37 1 (fun j => [api_Stamp.e v3].getD j []), eR37 (x1_r3 ++ [v3])]] (by kernel_rfl) (by kernel_rfl) (by kernel_rfl) (by kernel_rfl) ⟨(opXE (opXE (opGE (opGE (opGE (opGE (opGE (opGE opE0 hT) hT) hT) hT) hT) hT))), (op_goFK hT), ⟨(opXE (opXE (opGE (opGE (opGE (opGE (opGE (opGE opE0 hT) hT) hT) hT) hT) hT))), (fun R rest h => ak_append10 (id := 4) (kk := 3) (id2 := 5) (by' := 24) (t := 46) (e := 37) (e2 := 37) (z := [.int .i64 0, .int .i64 0, .int .i64 0]) (dst := some 130) (fz := false) hT api_Stamp.e api_Stamp.z x1_r3 v3 (by kernel_rfl) (by kernel_rfl) (by kernel_rfl) (by kernel_rfl) (by kernel_rfl) (by kernel_rfl) (by kernel_rfl) h15 (by omega) (by kernel_rfl) h), (opXE (opXE (opGE (opGE (opGE (opGE (opGE (opGE opE0 hT) hT) hT) hT) hT) hT)))⟩⟩ ?_
                refine goK hT 6 (K18 11100 0) ⟨152, [(0, .ptr 0 0 0 0)], [.box 48 [.ptr 1 0 0 0, .i y2_b0_1, .own 6 3 0 ((x1_r3 ++ [v3]).length), .i a0.floor], qR v2.2.2, .gone, .box 37 (eC37 v3), .gone, .flat false 3 37 1 (fun j => [api_Stamp.e v3].getD j []), eR37 (x1_r3 ++ [v3])]⟩ ?_
                refine cutK [0, 1, 2, 6] ⟨152, [(0, .ptr 0 0 0 0)], [.box 48 [.ptr 1 0 0 0, .i y2_b0_1, .own 3 3 0 (x1_r3 ++ [v3]).length, .i a0.floor], qR v2.2.2, .gone, eR37 (x1_r3 ++ [v3])]⟩ h0 ?_
                exact ih v2.2.2 (x1_r3 ++ [v3]) H
            rw [← h9]
            refine goK hT 14 (K18 111000011101 0) ⟨152, [(0, .ptr 0 0 0 0), (11, .ptr 4 0 0 0), (13, .ptr 5 0 0 0), (14, .i (x1_r3.length : Int))], [.box 48 [.ptr 1 0 0 0, .i y2_b0_1, .own 3 3 0 x1_r3.length, .i a0.floor], qR v2.2.2, .gone, eR37 x1_r3, .box 32 (eC32 (v2.1)), .box 37 (eC37 v3)]⟩ ?_
            by_cases c10 : (x1_r3.length : Int) > 0
            · replace H := sT c10 H
              obtain ⟨h11, H⟩ := sC H
              obtain ⟨v4, h12, H⟩ := sbC H
              by_cases c13 : v4 ≥ 0
              · replace H := sT c13 H
                refine drawK (hP ▸ mixed) 24 [0, 11, 13, 14] [some (.i (x1_r3.length : Int)), some (.b true), some (.b true), some (.ptr 0 0 0 0), some (.ptr 0 0 0 0), some (.ptr 0 0 0 2), some (.own 3 3 0 x1_r3.length), some (.i (x1_r3.length : Int)), some (.i (IntKind.wrap .i64 ((x1_r3.length : Int) - 1))), some (.ptr 3 3 ((IntKind.wrap .i64 ((x1_r3.length : Int) - 1)).toNat) 0), some (.d (eG37 (x1_r3.getD ((IntKind.wrap .i64 ((x1_r3.length : Int) - 1)).toNat) api_Stamp.z))), some (.d (eG37 v3)), some (.i v4), some (.b true), some (.b true), some (.b true), some (.tup []), some (.tup []), some (.tup []), some (.tup []), some (.tup []), some (.tup []), some (.tup []), some (.b true)] (opG (opG (opG (opG (opG (opG (opG (opG (opG (opG (opV (opS (opG (opS (opS (opG (opG (opG (opG (opG (opG (opG (opV (opG op0 hT) hT 100 (.b (decide ((x1_r3.length : Int) > 0))) (.b true) (by rw [decide_eq_true c10] <;> rfl)) hT) hT) hT) hT) hT) hT) hT) (fun R rest h => ak_idx0 hT (i := IntKind.wrap .i64 ((x1_r3.length : Int) - 1)) (n := (x1_r3.length : Int)) h11.1 h11.2 (by kernel_rfl) h)) (fun R rest h => ak_ld0 hT (i := (IntKind.wrap .i64 ((x1_r3.length : Int) - 1)).toNat) (n := x1_r3.length) (ltN h11.1 h11.2) (by kernel_rfl) h)) hT) (fun R rest h => ak_callD (avs := [.d (eG37 (x1_r3.getD ((IntKind.wrap .i64 ((x1_r3.length : Int) - 1)).toNat) api_Stamp.z)), .d (eG37 v3)]) (dst := some 111) hP enters_17 (mut_Compare.says (x1_r3.getD ((IntKind.wrap .i64 ((x1_r3.length : Int) - 1)).toNat) api_Stamp.z) v3 h12) (by kernel_rfl) (.cons (pass_d _) (.cons (pass_d _) .nil)) (by kernel_rfl) h)) hT 112 (.b (decide (v4 ≥ 0))) (.b true) (by rw [decide_eq_true c13] <;> rfl)) hT) hT) hT) hT) hT) hT) hT) hT) hT) hT) ?_
                refine goK hT 1 (K18 111000011101 1) ⟨152, [(0, .ptr 0 0 0 0), (13, .ptr 5 0 0 0), (122, .b true)], [.box 48 [.ptr 1 0 0 0, .i y2_b0_1, .own 3 3 0 x1_r3.length, .i a0.floor], qR v2.2.2, .gone, eR37 x1_r3, .box 32 (eC32 (v2.1)), .box 37 (eC37 v3)]⟩ ?_
                refine cutK [0, 1, 2, 5, 3] ⟨152, [(0, .ptr 0 0 0 0), (13, .ptr 3 0 0 0), (122, .b true)], [.box 48 [.ptr 1 0 0 0, .i y2_b0_1, .own 4 3 0 x1_r3.length, .i a0.floor], qR v2.2.2, .gone, .box 37 (eC37 v3), eR37 x1_r3]⟩ h0 ?_
                exact Jj3 true H
              · replace H := sF c13 H
                refine drawK (hP ▸ mixed) 24 [0, 11, 13, 14] [some (.i (x1_r3.length : Int)), some (.b true), some (.b true), some (.ptr 0 0 0 0), some (.ptr 0 0 0 0), some (.ptr 0 0 0 2), some (.own 3 3 0 x1_r3.length), some (.i (x1_r3.length : Int)), some (.i (IntKind.wrap .i64 ((x1_r3.length : Int) - 1))), some (.ptr 3 3 ((IntKind.wrap .i64 ((x1_r3.length : Int) - 1)).toNat) 0), some (.d (eG37 (x1_r3.getD ((IntKind.wrap .i64 ((x1_r3.length : Int) - 1)).toNat) api_Stamp.z))), some (.d (eG37 v3)), some (.i v4), some (.b false), some (.b false), some (.b false), some (.ptr 4 0 0 7), some (.i ((v2.1).Time)), some (.ptr 0 0 0 0), some (.ptr 0 0 0 0), some (.ptr 0 0 0 3), some (.i a0.floor), some (.b (decide (((v2.1).Time) ≤ a0.floor))), some (.b (decide (((v2.1).Time) ≤ a0.floor)))] (opG (opG (opG (opG (opG (opG (opG (opG (opG (opG (opV (opS (opG (opS (opS (opG (opG (opG (opG (opG (opG (opG (opV (opG op0 hT) hT 100 (.b (decide ((x1_r3.length : Int) > 0))) (.b true) (by rw [decide_eq_true c10] <;> rfl)) hT) hT) hT) hT) hT) hT) hT) (fun R rest h => ak_idx0 hT (i := IntKind.wrap .i64 ((x1_r3.length : Int) - 1)) (n := (x1_r3.length : Int)) h11.1 h11.2 (by kernel_rfl) h)) (fun R rest h => ak_ld0 hT (i := (IntKind.wrap .i64 ((x1_r3.length : Int) - 1)).toNat) (n := x1_r3.length) (ltN h11.1 h11.2) (by kernel_rfl) h)) hT) (fun R rest h => ak_callD (avs := [.d (eG37 (x1_r3.getD ((IntKind.wrap .i64 ((x1_r3.length : Int) - 1)).toNat) api_Stamp.z)), .d (eG37 v3)]) (dst := some 111) hP enters_17 (mut_Compare.says (x1_r3.getD ((IntKind.wrap .i64 ((x1_r3.length : Int) - 1)).toNat) api_Stamp.z) v3 h12) (by kernel_rfl) (.cons (pass_d _) (.cons (pass_d _) .nil)) (by kernel_rfl) h)) hT 112 (.b (decide (v4 ≥ 0))) (.b false) (by rw [decide_eq_false c13] <;> rfl)) hT) hT) hT) hT) hT) hT) hT) hT) hT) hT) ?_
                refine goK hT 1 (K18 111000011101 1) ⟨152, [(0, .ptr 0 0 0 0), (13, .ptr 5 0 0 0), (122, .b (decide (((v2.1).Time) ≤ a0.floor)))], [.box 48 [.ptr 1 0 0 0, .i y2_b0_1, .own 3 3 0 x1_r3.length, .i a0.floor], qR v2.2.2, .gone, eR37 x1_r3, .box 32 (eC32 (v2.1)), .box 37 (eC37 v3)]⟩ ?_
                refine cutK [0, 1, 2, 5, 3] ⟨152, [(0, .ptr 0 0 0 0), (13, .ptr 3 0 0 0), (122, .b (decide (((v2.1).Time) ≤ a0.floor)))], [.box 48 [.ptr 1 0 0 0, .i y2_b0_1, .own 4 3 0 x1_r3.length, .i a0.floor], qR v2.2.2, .gone, .box 37 (eC37 v3), eR37 x1_r3]⟩ h0 ?_
                exact Jj3 (decide (((v2.1).Time) ≤ a0.floor)) H
            · replace H := sF c10 H
              refine drawK (hP ▸ mixed) 24 [0, 11, 13, 14] [some (.i (x1_r3.length : Int)), some (.b false), some (.b false), some (.tup []), some (.tup []), some (.tup []), some (.tup []), some (.tup []), some (.tup []), some (.tup []), some (.tup []), some (.tup []), some (.tup []), some (.tup []), some (.b false), some (.b false), some (.ptr 4 0 0 7), some (.i ((v2.1).Time)), some (.ptr 0 0 0 0), some (.ptr 0 0 0 0), some (.ptr 0 0 0 3), some (.i a0.floor), some (.b (decide (((v2.1).Time) ≤ a0.floor))), some (.b (decide (((v2.1).Time) ≤ a0.floor)))] (opG (opG (opG (opG (opG (opG (opG (opG (opG (opG (opG (opG (opG (opG (opG (opG (opG (opG (opG (opG (opG (opG (opV (opG op0 hT) hT 100 (.b (decide ((x1_r3.length : Int) > 0))) (.b false) (by rw [decide_eq_false c10] <;> rfl)) hT) hT) hT) hT) hT) hT) hT) hT) hT) hT) hT) hT) hT) hT) hT) hT) hT) hT) hT) hT) hT) hT) ?_
              refine goK hT 1 (K18 111000011101 1) ⟨152, [(0, .ptr 0 0 0 0), (13, .ptr 5 0 0 0), (122, .b (decide (((v2.1).Time) ≤ a0.floor)))], [.box 48 [.ptr 1 0 0 0, .i y2_b0_1, .own 3 3 0 x1_r3.length, .i a0.floor], qR v2.2.2, .gone, eR37 x1_r3, .box 32 (eC32 (v2.1)), .box 37 (eC37 v3)]⟩ ?_
              refine cutK [0, 1, 2, 5, 3] ⟨152, [(0, .ptr 0 0 0 0), (13, .ptr 3 0 0 0), (122, .b (decide (((v2.1).Time) ≤ a0.floor)))], [.box 48 [.ptr 1 0 0 0, .i y2_b0_1, .own 4 3 0 x1_r3.length, .i a0.floor], qR v2.2.2, .gone, .box 37 (eC37 v3), eR37 x1_r3]⟩ h0 ?_
              exact Jj3 (decide (((v2.1).Time) ≤ a0.floor)) H
          · replace H := sF c7 H
            rw [boF c7]
            refine goK hT 3 (K18 1111 0) ⟨152, [(0, .ptr 0 0 0 0)], [.box 48 [.ptr 1 0 0 0, .i y2_b0_1, .own 3 3 0 x1_r3.length, .i a0.floor], qR v2.2.2, .gone, eR37 x1_r3, .box 32 (eC32 (v2.1))]⟩ ?_
            refine drawK (hP ▸ mixed) 8 [0] [some (.ptr 0 0 0 0), some (.ptr 0 0 0 0), some (.ptr 0 0 0 0), some (.ptr 1 0 0 0), some (.ptr 0 0 0 0), some (.ptr 0 0 0 0), some (.ptr 0 0 0 1), some (.i y2_b0_1)] (opG (opG (opG (opG (opG (opG (opG (opG op0 hT) hT) hT) hT) hT) hT) hT) hT) ?_
            refine goK hT 0 (K18 11110 8) ⟨152, [(0, .ptr 0 0 0 0), (136, .ptr 1 0 0 0), (140, .i y2_b0_1)], [.box 48 [.ptr 1 0 0 0, .i y2_b0_1, .own 3 3 0 x1_r3.length, .i a0.floor], qR v2.2.2, .gone, eR37 x1_r3, .box 32 (eC32 (v2.1))]⟩ ?_
            refine ak_callP (avs := [.ptr 1 0 0 0, .i y2_b0_1]) (dst := some 141) (k' := (K18 11110 9)) [0, 141] [1] hP enters_20 (qFloor_says v2.2.2 y2_b0_1) (by kernel_rfl) (hands_one rfl rfl) (.cons (.same (.ptr 0 0 0 0)) (.cons (pass_d _) .nil)) (st' := ⟨152, [(0, .ptr 0 0 0 0), (141, .i (qFloor v2.2.2 y2_b0_1))], [.box 48 [.ptr 1 0 0 0, .i y2_b0_1, .own 3 3 0 x1_r3.length, .i a0.floor], qR v2.2.2, .gone, eR37 x1_r3, .box 32 (eC32 (v2.1))]⟩) (by kernel_rfl) ?_
            refine goK hT 12 (K18 111110 1) ⟨152, [(0, .ptr 0 0 0 0), (15, .i (qFloor v2.2.2 y2_b0_1)), (147, .b (decide ((qFloor v2.2.2 y2_b0_1) < a0.floor)))], [.box 48 [.ptr 1 0 0 0, .i y2_b0_1, .own 3 3 0 x1_r3.length, .i a0.floor], qR v2.2.2, .gone, eR37 x1_r3, .box 32 (eC32 (v2.1))]⟩ ?_
            by_cases c8 : (qFloor v2.2.2 y2_b0_1) < a0.floor
            · replace H := sT c8 H
              rw [decide_eq_true c8]
              refine goK hT 5 (K18 11111010 1) ⟨152, [(8, .b false)], [.box 48 [.ptr 1 0 0 0, .i y2_b0_1, .own 3 3 0 x1_r3.length, .i a0.floor], qR v2.2.2, .gone, eR37 x1_r3, .box 32 (eC32 (v2.1))]⟩ ?_
              obtain rfl := retC H
              exact ak_ret hf hX (av := .b false) (by kernel_rfl) [0, 1, 2, 3] (sel_of_eq (by kernel_rfl)) (by decide) (by rw [h0]; rfl) (by kernel_rfl) (fun _ h => all_cons (.box (.cons (.ptr _ _ _ _) (.cons (.d (.v _)) (.cons (.own _ _ _ _) (.cons (.d (.v _)) .nil))))) (fun _ h => all_cons (.obj _) (fun _ h => all_cons .gone (fun _ h => all_cons (nr_vec api_Stamp.nl) (fun _ h => all_nil h) h) h) h) h) (.d (.v _))
            · replace H := sF c8 H
              rw [decide_eq_false c8]
              refine goK hT 2 (K18 11111 1) ⟨152, [(0, .ptr 0 0 0 0), (15, .i (qFloor v2.2.2 y2_b0_1))], [.box 48 [.ptr 1 0 0 0, .i y2_b0_1, .own 3 3 0 x1_r3.length, .i a0.floor], qR v2.2.2, .gone, eR37 x1_r3, .box 32 (eC32 (v2.1))]⟩ ?_
              refine goK hT 12 (K18 1111111 1) ⟨152, [(8, .b true)], [.box 48 [.ptr 1 0 0 0, .i y2_b0_1, .own 3 3 0 x1_r3.length, .i (qFloor v2.2.2 y2_b0_1)], qR v2.2.2, .gone, eR37 x1_r3, .box 32 (eC32 (v2.1))]⟩ ?_
              obtain rfl := retC H
              exact ak_ret hf hX (av := .b true) (by kernel_rfl) [0, 1, 2, 3] (sel_of_eq (by kernel_rfl)) (by decide) (by rw [h0]; rfl) (by kernel_rfl) (fun _ h => all_cons (.box (.cons (.ptr _ _ _ _) (.cons (.d (.v _)) (.cons (.own _ _ _ _) (.cons (.d (.v _)) .nil))))) (fun _ h => all_cons (.obj _) (fun _ h => all_cons .gone (fun _ h => all_cons (nr_vec api_Stamp.nl) (fun _ h => all_nil h) h) h) h) h) (.d (.v _))
    refine cutK [0, 1, 2, 3] ⟨152, [(0, .ptr 0 0 0 0)], [.box 48 [.ptr 1 0 0 0, .i y2_b0_1, .own 3 3 0 a0.popped.length, .i a0.floor], qR y2_r1, .gone, eR37 a0.popped]⟩ h0 ?_
    obtain ⟨n, H⟩ := loopC H
    exact (L n) y2_r1 a0.popped H
  refine ak_dup 2 (r := eR37 a0.popped) rfl rfl (st' := ⟨152, [(0, .ptr 0 0 0 0), (1, .d (eG30 a1)), (2, .i a2), (3, .b a3)], [.box 48 [.ptr 1 0 0 0, .i a0.clock, .own 3 3 0 a0.popped.length, .i a0.floor], qR a0.q, .gone, eR37 a0.popped]⟩) (by kernel_rfl) (by kernel_rfl) rfl ?_
  refine goK hT 10 (K18 110 1) ⟨152, [(0, .ptr 0 0 0 0), (2, .i a2), (5, .ptr 4 0 0 0), (16, .b a3)], [.box 48 [.ptr 1 0 0 0, .i a0.clock, .own 3 3 0 a0.popped.length, .i a0.floor], qR a0.q, .gone, eR37 a0.popped, .box 30 (eC30 a1)]⟩ ?_
  by_cases c1 : a3 = true
  · replace H := iT c1 H
    rw [c1]
    refine goK hT 2 (K18 11010 0) ⟨152, [(0, .ptr 0 0 0 0), (5, .ptr 4 0 0 0)], [.box 48 [.ptr 1 0 0 0, .i a0.clock, .own 3 3 0 a0.popped.length, .i a0.floor], qR a0.q, .gone, eR37 a0.popped, .box 30 (eC30 a1)]⟩ ?_
    obtain ⟨v1, h2, H⟩ := ibC H
    refine ak_drawAtE (nt := 152) (hP ▸ mixed) 13 [11] [0, 5] [(0, .ptr 0 0 0 0), (5, .ptr 4 0 0 0)] [some (.ptr 0 0 0 0), some (.ptr 0 0 0 0), some (.ptr 0 0 0 0), some (.ptr 1 0 0 0), some (.d (eG30 a1)), some (.ptr 0 0 0 0), some (.ptr 0 0 0 0), some (.ptr 0 0 0 1), some (.i a0.clock), some (.i (IntKind.wrap .i64 (a0.clock + 1))), some (.d (.agg [.i a1.Client, .i a1.Seq, .i a1.Kind, eL70 true a1.Pairs, .i a1.Over.Lo, .i a1.Over.Hi, .i a1.Old, .i (IntKind.wrap .i64 (a0.clock + 1)), .b false])), some (.i v1.1), some (.b (v1.1 == 0))] [[.box 48 [.ptr 1 0 0 0, .i a0.clock, .own 3 3 0 a0.popped.length, .i a0.floor], qR a0.q, .gone, eR37 a0.popped, .box 30 (eC30 a1)], [.box 48 [.ptr 1 0 0 0, .i a0.clock, .own 3 3 0 a0.popped.length, .i a0.floor], qR v1.2, .gone, eR37 a0.popped, .box 30 (eC30 a1)]] (by kernel_rfl) (by kernel_rfl) (by kernel_rfl) (by kernel_rfl) ⟨(opGE (opXE (opGE (opGE (opGE (opGE (opGE (opGE (opGE (opGE (opGE (opGE (opGE opE0 hT) hT) hT) hT) hT) hT) hT) hT) hT) hT) hT)) hT), (fun R rest h => ak_callDR (avs := [.ptr 1 0 0 0, .d (.agg [.i a1.Client, .i a1.Seq, .i a1.Kind, eL70 true a1.Pairs, .i a1.Over.Lo, .i a1.Over.Hi, .i a1.Old, .i (IntKind.wrap .i64 (a0.clock + 1)), .b false])]) (dst := some 28) [1] hP enters_12 (qAdd_says a0.q (⟨a1, IntKind.wrap .i64 (a0.clock + 1), false⟩ : api_Held) h2) (by kernel_rfl) (hands_one rfl rfl) (.cons (.same (.ptr 0 0 0 0)) (.cons (pass_d _) .nil)) (by kernel_rfl) h), (opGE (opXE (opGE (opGE (opGE (opGE (opGE (opGE (opGE (opGE (opGE (opGE (opGE opE0 hT) hT) hT) hT) hT) hT) hT) hT) hT) hT) hT)) hT)⟩ ?_
    refine goK hT 1 (K18 11010 1) ⟨152, [(0, .ptr 0 0 0 0), (29, .b (v1.1 == 0))], [.box 48 [.ptr 1 0 0 0, .i a0.clock, .own 3 3 0 a0.popped.length, .i a0.floor], qR v1.2, .gone, eR37 a0.popped, .box 30 (eC30 a1)]⟩ ?_
    by_cases c3 : v1.1 = 0
    · replace H := iT c3 H
      rw [eqT c3]
      refine goK hT 12 (K18 11 1) ⟨152, [(0, .ptr 0 0 0 0)], [.box 48 [.ptr 1 0 0 0, .i (IntKind.wrap .i64 (a0.clock + 1)), .own 3 3 0 a0.popped.length, .i a0.floor], qR v1.2, .gone, eR37 a0.popped, .box 30 (eC30 a1)]⟩ ?_
      refine cutK [0, 1, 2, 3] ⟨152, [(0, .ptr 0 0 0 0)], [.box 48 [.ptr 1 0 0 0, .i (IntKind.wrap .i64 (a0.clock + 1)), .own 3 3 0 a0.popped.length, .i a0.floor], qR v1.2, .gone, eR37 a0.popped]⟩ h0 ?_
      exact Jj2 (IntKind.wrap .i64 (a0.clock + 1)) v1.2 H
    · replace H := iF c3 H
      rw [eqF c3]
      refine goK hT 2 (K18 11 1) ⟨152, [(0, .ptr 0 0 0 0)], [.box 48 [.ptr 1 0 0 0, .i a0.clock, .own 3 3 0 a0.popped.length, .i a0.floor], qR v1.2, .gone, eR37 a0.popped, .box 30 (eC30 a1)]⟩ ?_
      refine cutK [0, 1, 2, 3] ⟨152, [(0, .ptr 0 0 0 0)], [.box 48 [.ptr 1 0 0 0, .i a0.clock, .own 3 3 0 a0.popped.length, .i a0.floor], qR v1.2, .gone, eR37 a0.popped]⟩ h0 ?_
      exact Jj2 a0.clock v1.2 H
  · replace H := iF c1 H
    have Jj1 : ∀ (y1_66 : Bool) (y1_r1 : QL), (splicelaw06_World_step.j1 a0 a1 a2 y1_66 y1_r1) = some r → AK X 18 ((K18 110111 1)) (Back X [.box 48 [.ptr 1 0 0 0, .i r.2.clock, .own 3 3 0 r.2.popped.length, .i r.2.floor], qR r.2.q, .gone, eR37 r.2.popped] (.b r.1)) ⟨152, [(0, .ptr 0 0 0 0), (2, .i a2), (9, .ptr 3 0 0 0), (66, .b y1_66)], [.box 48 [.ptr 1 0 0 0, .i a0.clock, .own 4 3 0 a0.popped.length, .i a0.floor], qR y1_r1, .gone, .box 32 [.i ((((qFind a0.q a1.Client a1.Seq).1).M).Client), .i ((((qFind a0.q a1.Client a1.Seq).1).M).Seq), .i ((((qFind a0.q a1.Client a1.Seq).1).M).Kind), .d (eL70 true ((((qFind a0.q a1.Client a1.Seq).1).M).Pairs)), .i (((((qFind a0.q a1.Client a1.Seq).1).M).Over).Lo), .i (((((qFind a0.q a1.Client a1.Seq).1).M).Over).Hi), .i ((((qFind a0.q a1.Client a1.Seq).1).M).Old), .i (((qFind a0.q a1.Client a1.Seq).1).Time), .b (((qFind a0.q a1.Client a1.Seq).1).Final)], eR37 a0.popped]⟩ := by
      intro y1_66 y1_r1 H
      by_cases c5 : y1_66 = true
      · replace H := iT c5 H
        rw [c5]
        refine goK hT 1 (K18 1101111 0) ⟨152, [(0, .ptr 0 0 0 0), (2, .i a2), (9, .ptr 3 0 0 0)], [.box 48 [.ptr 1 0 0 0, .i a0.clock, .own 4 3 0 a0.popped.length, .i a0.floor], qR y1_r1, .gone, .box 32 [.i ((((qFind a0.q a1.Client a1.Seq).1).M).Client), .i ((((qFind a0.q a1.Client a1.Seq).1).M).Seq), .i ((((qFind a0.q a1.Client a1.Seq).1).M).Kind), .d (eL70 true ((((qFind a0.q a1.Client a1.Seq).1).M).Pairs)), .i (((((qFind a0.q a1.Client a1.Seq).1).M).Over).Lo), .i (((((qFind a0.q a1.Client a1.Seq).1).M).Over).Hi), .i ((((qFind a0.q a1.Client a1.Seq).1).M).Old), .i (((qFind a0.q a1.Client a1.Seq).1).Time), .b (((qFind a0.q a1.Client a1.Seq).1).Final)], eR37 a0.popped]⟩ ?_
        refine drawK (hP ▸ mixed) 10 [0, 2, 9] [some (.ptr 0 0 0 0), some (.ptr 0 0 0 0), some (.ptr 0 0 0 0), some (.ptr 0 0 0 1), some (.i a0.clock), some (.ptr 3 0 0 7), some (.i (((qFind a0.q a1.Client a1.Seq).1).Time)), some (.i a2), some (.i (IntKind.wrap .i64 ((((qFind a0.q a1.Client a1.Seq).1).Time) + a2))), some (.i (iMax a0.clock (IntKind.wrap .i64 ((((qFind a0.q a1.Client a1.Seq).1).Time) + a2))))] (opG (opG (opG (opG (opG (opG (opG (opG (opG (opG op0 hT) hT) hT) hT) hT) hT) hT) hT) hT) hT) ?_
        refine goK hT 4 (K18 11 1) ⟨152, [(0, .ptr 0 0 0 0)], [.box 48 [.ptr 1 0 0 0, .i (iMax a0.clock (IntKind.wrap .i64 ((((qFind a0.q a1.Client a1.Seq).1).Time) + a2))), .own 4 3 0 a0.popped.length, .i a0.floor], qR y1_r1, .gone, .box 32 [.i ((((qFind a0.q a1.Client a1.Seq).1).M).Client), .i ((((qFind a0.q a1.Client a1.Seq).1).M).Seq), .i ((((qFind a0.q a1.Client a1.Seq).1).M).Kind), .d (eL70 true ((((qFind a0.q a1.Client a1.Seq).1).M).Pairs)), .i (((((qFind a0.q a1.Client a1.Seq).1).M).Over).Lo), .i (((((qFind a0.q a1.Client a1.Seq).1).M).Over).Hi), .i ((((qFind a0.q a1.Client a1.Seq).1).M).Old), .i (((qFind a0.q a1.Client a1.Seq).1).Time), .b (((qFind a0.q a1.Client a1.Seq).1).Final)], eR37 a0.popped]⟩ ?_
        refine cutK [0, 1, 2, 4] ⟨152, [(0, .ptr 0 0 0 0)], [.box 48 [.ptr 1 0 0 0, .i (iMax a0.clock (IntKind.wrap .i64 ((((qFind a0.q a1.Client a1.Seq).1).Time) + a2))), .own 3 3 0 a0.popped.length, .i a0.floor], qR y1_r1, .gone, eR37 a0.popped]⟩ h0 ?_
        exact Jj2 (iMax a0.clock (IntKind.wrap .i64 ((((qFind a0.q a1.Client a1.Seq).1).Time) + a2))) y1_r1 H
      · replace H := iF c5 H
        rw [boF c5]
        refine goK hT 2 (K18 11 1) ⟨152, [(0, .ptr 0 0 0 0)], [.box 48 [.ptr 1 0 0 0, .i a0.clock, .own 4 3 0 a0.popped.length, .i a0.floor], qR y1_r1, .gone, .box 32 [.i ((((qFind a0.q a1.Client a1.Seq).1).M).Client), .i ((((qFind a0.q a1.Client a1.Seq).1).M).Seq), .i ((((qFind a0.q a1.Client a1.Seq).1).M).Kind), .d (eL70 true ((((qFind a0.q a1.Client a1.Seq).1).M).Pairs)), .i (((((qFind a0.q a1.Client a1.Seq).1).M).Over).Lo), .i (((((qFind a0.q a1.Client a1.Seq).1).M).Over).Hi), .i ((((qFind a0.q a1.Client a1.Seq).1).M).Old), .i (((qFind a0.q a1.Client a1.Seq).1).Time), .b (((qFind a0.q a1.Client a1.Seq).1).Final)], eR37 a0.popped]⟩ ?_
        refine cutK [0, 1, 2, 4] ⟨152, [(0, .ptr 0 0 0 0)], [.box 48 [.ptr 1 0 0 0, .i a0.clock, .own 3 3 0 a0.popped.length, .i a0.floor], qR y1_r1, .gone, eR37 a0.popped]⟩ h0 ?_
        exact Jj2 a0.clock y1_r1 H
    rw [boF c1]
    refine goK hT 2 (K18 11011 0) ⟨152, [(0, .ptr 0 0 0 0), (2, .i a2), (5, .ptr 4 0 0 0)], [.box 48 [.ptr 1 0 0 0, .i a0.clock, .own 3 3 0 a0.popped.length, .i a0.floor], qR a0.q, .gone, eR37 a0.popped, .box 30 (eC30 a1)]⟩ ?_
    refine ak_drawAtM (nt := 152) (hP ▸ mixed) 14 [12, 13] [0, 2, 5] [(0, .ptr 0 0 0 0), (2, .i a2), (5, .ptr 4 0 0 0)] [some (.ptr 0 0 0 0), some (.ptr 0 0 0 0), some (.ptr 0 0 0 0), some (.ptr 1 0 0 0), some (.ptr 4 0 0 0), some (.i a1.Client), some (.ptr 4 0 0 1), some (.i a1.Seq), some (.tup [.d (eG32 ((qFind a0.q a1.Client a1.Seq).1)), .b ((qFind a0.q a1.Client a1.Seq).2)]), some (.tup [.d (eG32 ((qFind a0.q a1.Client a1.Seq).1)), .b ((qFind a0.q a1.Client a1.Seq).2)]), some (.d (eG32 ((qFind a0.q a1.Client a1.Seq).1))), some (.b ((qFind a0.q a1.Client a1.Seq).2)), some (.ptr 5 0 0 0), none] [[.box 48 [.ptr 1 0 0 0, .i a0.clock, .own 3 3 0 a0.popped.length, .i a0.floor], qR a0.q, .gone, eR37 a0.popped, .box 30 (eC30 a1)], [.box 48 [.ptr 1 0 0 0, .i a0.clock, .own 3 3 0 a0.popped.length, .i a0.floor], qR a0.q, .gone, eR37 a0.popped, .box 30 (eC30 a1), .box 32 [.i 0, .i 0, .i 0, .ns, .i 0, .i 0, .i 0, .i 0, .b false]], [.box 48 [.ptr 1 0 0 0, .i a0.clock, .own 3 3 0 a0.popped.length, .i a0.floor], qR a0.q, .gone, eR37 a0.popped, .box 30 (eC30 a1), .box 32 [.i ((((qFind a0.q a1.Client a1.Seq).1).M).Client), .i ((((qFind a0.q a1.Client a1.Seq).1).M).Seq), .i ((((qFind a0.q a1.Client a1.Seq).1).M).Kind), .d (eL70 true ((((qFind a0.q a1.Client a1.Seq).1).M).Pairs)), .i (((((qFind a0.q a1.Client a1.Seq).1).M).Over).Lo), .i (((((qFind a0.q a1.Client a1.Seq).1).M).Over).Hi), .i ((((qFind a0.q a1.Client a1.Seq).1).M).Old), .i (((qFind a0.q a1.Client a1.Seq).1).Time), .b (((qFind a0.q a1.Client a1.Seq).1).Final)]]] (by kernel_rfl) (by kernel_rfl) (by kernel_rfl) (by kernel_rfl) ⟨(opXM (opXM (opGM (opGM (opGM (opMS (opGM (opGM (opGM (opGM (opGM (opGM (opGM (opGM opM0 hT) hT) hT) hT) hT) hT) hT) hT) (fun R rest h => ak_callDR (avs := [.ptr 1 0 0 0, .i a1.Client, .i a1.Seq]) (dst := some 47) [1] hP enters_26 (qFind_says a0.q a1.Client a1.Seq) (by kernel_rfl) (hands_one rfl rfl) (.cons (.same (.ptr 0 0 0 0)) (.cons (pass_d _) (.cons (pass_d _) .nil))) (by kernel_rfl) h)) hT) hT) hT))), (op_goFK hT), ⟨(opXM (opXM (opGM (opGM (opGM (opMS (opGM (opGM (opGM (opGM (opGM (opGM (opGM (opGM opM0 hT) hT) hT) hT) hT) hT) hT) hT) (fun R rest h => ak_callDR (avs := [.ptr 1 0 0 0, .i a1.Client, .i a1.Seq]) (dst := some 47) [1] hP enters_26 (qFind_says a0.q a1.Client a1.Seq) (by kernel_rfl) (hands_one rfl rfl) (.cons (.same (.ptr 0 0 0 0)) (.cons (pass_d _) (.cons (pass_d _) .nil))) (by kernel_rfl) h)) hT) hT) hT))), (op_goFK hT), (opXM (opXM (opGM (opNM (opNM (opNM (opNM (opNM (opNM (opNM (opNM (opNM (opNM (opNM opM0))))))))))) hT)))⟩⟩ ?_
    refine goK hT 3 (K18 110111 0) ⟨152, [(0, .ptr 0 0 0 0), (2, .i a2), (5, .ptr 4 0 0 0), (9, .ptr 5 0 0 0), (10, .b ((qFind a0.q a1.Client a1.Seq).2))], [.box 48 [.ptr 1 0 0 0, .i a0.clock, .own 3 3 0 a0.popped.length, .i a0.floor], qR a0.q, .gone, eR37 a0.popped, .box 30 (eC30 a1), .box 32 [.i ((((qFind a0.q a1.Client a1.Seq).1).M).Client), .i ((((qFind a0.q a1.Client a1.Seq).1).M).Seq), .i ((((qFind a0.q a1.Client a1.Seq).1).M).Kind), .d (eL70 true ((((qFind a0.q a1.Client a1.Seq).1).M).Pairs)), .i (((((qFind a0.q a1.Client a1.Seq).1).M).Over).Lo), .i (((((qFind a0.q a1.Client a1.Seq).1).M).Over).Hi), .i ((((qFind a0.q a1.Client a1.Seq).1).M).Old), .i (((qFind a0.q a1.Client a1.Seq).1).Time), .b (((qFind a0.q a1.Client a1.Seq).1).Final)]]⟩ ?_
    by_cases c4 : ((qFind a0.q a1.Client a1.Seq).2) = true
    · replace H := iT c4 H
      refine ak_drawAtE (nt := 152) (hP ▸ mixed) 17 [14] [0, 2, 5, 9, 10] [(0, .ptr 0 0 0 0), (2, .i a2), (5, .ptr 4 0 0 0), (9, .ptr 5 0 0 0), (10, .b ((qFind a0.q a1.Client a1.Seq).2))] [some (.b true), some (.b true), some (.ptr 0 0 0 0), some (.ptr 0 0 0 0), some (.ptr 0 0 0 0), some (.ptr 1 0 0 0), some (.ptr 4 0 0 0), some (.i a1.Client), some (.ptr 4 0 0 1), some (.i a1.Seq), some (.ptr 5 0 0 7), some (.i (((qFind a0.q a1.Client a1.Seq).1).Time)), some (.i a2), some (.i (IntKind.wrap .i64 ((((qFind a0.q a1.Client a1.Seq).1).Time) + a2))), some (.i ((qFinal a0.q a1.Client a1.Seq (IntKind.wrap .i64 ((((qFind a0.q a1.Client a1.Seq).1).Time) + a2))).1)), some (.b (((qFinal a0.q a1.Client a1.Seq (IntKind.wrap .i64 ((((qFind a0.q a1.Client a1.Seq).1).Time) + a2))).1) == 0)), some (.b (((qFinal a0.q a1.Client a1.Seq (IntKind.wrap .i64 ((((qFind a0.q a1.Client a1.Seq).1).Time) + a2))).1) == 0))] [[.box 48 [.ptr 1 0 0 0, .i a0.clock, .own 3 3 0 a0.popped.length, .i a0.floor], qR a0.q, .gone, eR37 a0.popped, .box 30 (eC30 a1), .box 32 [.i ((((qFind a0.q a1.Client a1.Seq).1).M).Client), .i ((((qFind a0.q a1.Client a1.Seq).1).M).Seq), .i ((((qFind a0.q a1.Client a1.Seq).1).M).Kind), .d (eL70 true ((((qFind a0.q a1.Client a1.Seq).1).M).Pairs)), .i (((((qFind a0.q a1.Client a1.Seq).1).M).Over).Lo), .i (((((qFind a0.q a1.Client a1.Seq).1).M).Over).Hi), .i ((((qFind a0.q a1.Client a1.Seq).1).M).Old), .i (((qFind a0.q a1.Client a1.Seq).1).Time), .b (((qFind a0.q a1.Client a1.Seq).1).Final)]], [.box 48 [.ptr 1 0 0 0, .i a0.clock, .own 3 3 0 a0.popped.length, .i a0.floor], qR ((qFinal a0.q a1.Client a1.Seq (IntKind.wrap .i64 ((((qFind a0.q a1.Client a1.Seq).1).Time) + a2))).2), .gone, eR37 a0.popped, .box 30 (eC30 a1), .box 32 [.i ((((qFind a0.q a1.Client a1.Seq).1).M).Client), .i ((((qFind a0.q a1.Client a1.Seq).1).M).Seq), .i ((((qFind a0.q a1.Client a1.Seq).1).M).Kind), .d (eL70 true ((((qFind a0.q a1.Client a1.Seq).1).M).Pairs)), .i (((((qFind a0.q a1.Client a1.Seq).1).M).Over).Lo), .i (((((qFind a0.q a1.Client a1.Seq).1).M).Over).Hi), .i ((((qFind a0.q a1.Client a1.Seq).1).M).Old), .i (((qFind a0.q a1.Client a1.Seq).1).Time), .b (((qFind a0.q a1.Client a1.Seq).1).Final)]]] (by kernel_rfl) (by kernel_rfl) (by kernel_rfl) (by kernel_rfl) ⟨(opGE (opGE (opXE (opGE (opGE (opGE (opGE (opGE (opGE (opGE (opGE (opGE (opGE (opGE (opGE (opGE (opVE opE0 hT 50 (.b ((qFind a0.q a1.Client a1.Seq).2)) (.b true) (by rw [c4] <;> rfl)) hT) hT) hT) hT) hT) hT) hT) hT) hT) hT) hT) hT) hT)) hT) hT), (fun R rest h => ak_callDR (avs := [.ptr 1 0 0 0, .i a1.Client, .i a1.Seq, .i (IntKind.wrap .i64 ((((qFind a0.q a1.Client a1.Seq).1).Time) + a2))]) (dst := some 64) [1] hP enters_13 (qFinal_says a0.q a1.Client a1.Seq (IntKind.wrap .i64 ((((qFind a0.q a1.Client a1.Seq).1).Time) + a2))) (by kernel_rfl) (hands_one rfl rfl) (.cons (.same (.ptr 0 0 0 0)) (.cons (pass_d _) (.cons (pass_d _) (.cons (pass_d _) .nil)))) (by kernel_rfl) h), (opGE (opGE (opXE (opGE (opGE (opGE (opGE (opGE (opGE (opGE (opGE (opGE (opGE (opGE (opGE (opGE (opVE opE0 hT 50 (.b ((qFind a0.q a1.Client a1.Seq).2)) (.b true) (by rw [c4] <;> rfl)) hT) hT) hT) hT) hT) hT) hT) hT) hT) hT) hT) hT) hT)) hT) hT)⟩ ?_
      refine goK hT 1 (K18 110111 1) ⟨152, [(0, .ptr 0 0 0 0), (2, .i a2), (9, .ptr 5 0 0 0), (66, .b (((qFinal a0.q a1.Client a1.Seq (IntKind.wrap .i64 ((((qFind a0.q a1.Client a1.Seq).1).Time) + a2))).1) == 0))], [.box 48 [.ptr 1 0 0 0, .i a0.clock, .own 3 3 0 a0.popped.length, .i a0.floor], qR ((qFinal a0.q a1.Client a1.Seq (IntKind.wrap .i64 ((((qFind a0.q a1.Client a1.Seq).1).Time) + a2))).2), .gone, eR37 a0.popped, .box 30 (eC30 a1), .box 32 [.i ((((qFind a0.q a1.Client a1.Seq).1).M).Client), .i ((((qFind a0.q a1.Client a1.Seq).1).M).Seq), .i ((((qFind a0.q a1.Client a1.Seq).1).M).Kind), .d (eL70 true ((((qFind a0.q a1.Client a1.Seq).1).M).Pairs)), .i (((((qFind a0.q a1.Client a1.Seq).1).M).Over).Lo), .i (((((qFind a0.q a1.Client a1.Seq).1).M).Over).Hi), .i ((((qFind a0.q a1.Client a1.Seq).1).M).Old), .i (((qFind a0.q a1.Client a1.Seq).1).Time), .b (((qFind a0.q a1.Client a1.Seq).1).Final)]]⟩ ?_
      refine cutK [0, 1, 2, 5, 3] ⟨152, [(0, .ptr 0 0 0 0), (2, .i a2), (9, .ptr 3 0 0 0), (66, .b (((qFinal a0.q a1.Client a1.Seq (IntKind.wrap .i64 ((((qFind a0.q a1.Client a1.Seq).1).Time) + a2))).1) == 0))], [.box 48 [.ptr 1 0 0 0, .i a0.clock, .own 4 3 0 a0.popped.length, .i a0.floor], qR ((qFinal a0.q a1.Client a1.Seq (IntKind.wrap .i64 ((((qFind a0.q a1.Client a1.Seq).1).Time) + a2))).2), .gone, .box 32 [.i ((((qFind a0.q a1.Client a1.Seq).1).M).Client), .i ((((qFind a0.q a1.Client a1.Seq).1).M).Seq), .i ((((qFind a0.q a1.Client a1.Seq).1).M).Kind), .d (eL70 true ((((qFind a0.q a1.Client a1.Seq).1).M).Pairs)), .i (((((qFind a0.q a1.Client a1.Seq).1).M).Over).Lo), .i (((((qFind a0.q a1.Client a1.Seq).1).M).Over).Hi), .i ((((qFind a0.q a1.Client a1.Seq).1).M).Old), .i (((qFind a0.q a1.Client a1.Seq).1).Time), .b (((qFind a0.q a1.Client a1.Seq).1).Final)], eR37 a0.popped]⟩ h0 ?_
      exact Jj1 (((qFinal a0.q a1.Client a1.Seq (IntKind.wrap .i64 ((((qFind a0.q a1.Client a1.Seq).1).Time) + a2))).1) == 0) ((qFinal a0.q a1.Client a1.Seq (IntKind.wrap .i64 ((((qFind a0.q a1.Client a1.Seq).1).Time) + a2))).2) H
    · replace H := iF c4 H
      refine drawK (hP ▸ mixed) 17 [0, 2, 5, 9, 10] [some (.b false), some (.b false), some (.tup []), some (.tup []), some (.tup []), some (.tup []), some (.tup []), some (.tup []), some (.tup []), some (.tup []), some (.tup []), some (.tup []), some (.tup []), some (.tup []), some (.tup []), some (.tup []), some (.b false)] (opG (opG (opG (opG (opG (opG (opG (opG (opG (opG (opG (opG (opG (opG (opG (opG (opV op0 hT 50 (.b ((qFind a0.q a1.Client a1.Seq).2)) (.b false) (by rw [boF c4] <;> rfl)) hT) hT) hT) hT) hT) hT) hT) hT) hT) hT) hT) hT) hT) hT) hT) hT) ?_
      refine goK hT 1 (K18 110111 1) ⟨152, [(0, .ptr 0 0 0 0), (2, .i a2), (9, .ptr 5 0 0 0), (66, .b false)], [.box 48 [.ptr 1 0 0 0, .i a0.clock, .own 3 3 0 a0.popped.length, .i a0.floor], qR a0.q, .gone, eR37 a0.popped, .box 30 (eC30 a1), .box 32 [.i ((((qFind a0.q a1.Client a1.Seq).1).M).Client), .i ((((qFind a0.q a1.Client a1.Seq).1).M).Seq), .i ((((qFind a0.q a1.Client a1.Seq).1).M).Kind), .d (eL70 true ((((qFind a0.q a1.Client a1.Seq).1).M).Pairs)), .i (((((qFind a0.q a1.Client a1.Seq).1).M).Over).Lo), .i (((((qFind a0.q a1.Client a1.Seq).1).M).Over).Hi), .i ((((qFind a0.q a1.Client a1.Seq).1).M).Old), .i (((qFind a0.q a1.Client a1.Seq).1).Time), .b (((qFind a0.q a1.Client a1.Seq).1).Final)]]⟩ ?_
      refine cutK [0, 1, 2, 5, 3] ⟨152, [(0, .ptr 0 0 0 0), (2, .i a2), (9, .ptr 3 0 0 0), (66, .b false)], [.box 48 [.ptr 1 0 0 0, .i a0.clock, .own 4 3 0 a0.popped.length, .i a0.floor], qR a0.q, .gone, .box 32 [.i ((((qFind a0.q a1.Client a1.Seq).1).M).Client), .i ((((qFind a0.q a1.Client a1.Seq).1).M).Seq), .i ((((qFind a0.q a1.Client a1.Seq).1).M).Kind), .d (eL70 true ((((qFind a0.q a1.Client a1.Seq).1).M).Pairs)), .i (((((qFind a0.q a1.Client a1.Seq).1).M).Over).Lo), .i (((((qFind a0.q a1.Client a1.Seq).1).M).Over).Hi), .i ((((qFind a0.q a1.Client a1.Seq).1).M).Old), .i (((qFind a0.q a1.Client a1.Seq).1).Time), .b (((qFind a0.q a1.Client a1.Seq).1).Final)], eR37 a0.popped]⟩ h0 ?_
      exact Jj1 false a0.q H


theorem splicelaw06_HoldRises.says {t0 : Bool} (a0 : List splicelaw06_Come) {r : Bool} (H : splicelaw06_HoldRises a0 = some r) : Says Try.prog 4 [] [.d (eL50 t0 a0)] [] (.b r) := by
  refine says_of Try.func4 rfl (nt := 57) rfl (Nat.le_of_ble_eq_true rfl) fun X hP h0 hX => ?_
  have hT : TabOk X.P T := hP ▸ tok
  have hf : X.P.funcs[4]? = some Try.f4 := hP ▸ Try.func4
  refine goK hT 6 (K4 110 0) ⟨57, [(0, .d (eL50 t0 a0))], []⟩ ?_
  refine ak_callP (avs := []) (dst := some 5) (k' := (K4 110 1)) [0, 5] [] hP enters_10 (qNew_says) (by kernel_rfl) (hands_none _) .nil (st' := ⟨57, [(0, .d (eL50 t0 a0)), (5, .ptr 0 0 0 0)], [qR qNew]⟩) (by kernel_rfl) ?_
  obtain ⟨v1, h1, H⟩ := idC H
  rw [← h1]
  refine goK hT 7 (K4 11100 0) ⟨57, [(0, .d (eL50 t0 a0)), (3, .ptr 1 0 0 0)], [qR v1, .box 48 [.ptr 0 0 0 0, .i 0, .ns, .i 0]]⟩ ?_
  obtain ⟨v2, h2, H⟩ := ibC H
  have Jj1 : ∀ (y1_16 : Bool), (splicelaw06_HoldRises.j1 a0 v1 y1_16) = some r → AK X 4 ((K4 1110 1)) (Back X [] (.b r)) ⟨57, [(0, .d (eL50 t0 a0)), (3, .ptr 0 0 0 0), (16, .b y1_16)], [.box 48 [.ptr 1 0 0 0, .i 0, .ns, .i 0], qR v1]⟩ := by
    intro y1_16 H
    by_cases c4 : y1_16 = true
    · replace H := iT c4 H
      rw [c4]
      refine goK hT 5 (K4 111010 1) ⟨57, [(2, .b false)], [.box 48 [.ptr 1 0 0 0, .i 0, .ns, .i 0], qR v1]⟩ ?_
      obtain rfl := retC H
      exact ak_ret hf hX (av := .b false) (by kernel_rfl) [] (sel_of_eq (by kernel_rfl)) (by decide) (by rw [h0]; rfl) (by kernel_rfl) (fun _ h => all_nil h) (.d (.v _))
    · replace H := iF c4 H
      rw [boF c4]
      refine goK hT 2 (K4 111 1) ⟨57, [(0, .d (eL50 t0 a0)), (3, .ptr 0 0 0 0)], [.box 48 [.ptr 1 0 0 0, .i 0, .ns, .i 0], qR v1]⟩ ?_
      refine goK hT 7 (K4 1111010 0) ⟨57, [(0, .d (eL50 t0 a0)), (3, .ptr 0 0 0 0), (4, .i 0)], [.box 48 [.ptr 1 0 0 0, .i 0, .ns, .i 0], qR v1]⟩ ?_
      refine ak_nilBox (tb := 48) (cs := [.ptr 1 0 0 0, .i 0, .ns, .i 0]) 0 2 3 37 (vec api_Stamp.e api_Stamp.z []) (st' := ⟨57, [(0, .d (eL50 t0 a0)), (3, .ptr 0 0 0 0), (4, .i 0)], [.box 48 [.ptr 1 0 0 0, .i 0, .own 2 3 0 0, .i 0], qR v1, eR37 ([] : List api_Stamp)]⟩) (by kernel_rfl) (by kernel_rfl) ?_
      have L : ∀ n, (∀ (x1_4 : Int) (x1_b0_1 : Int) (x1_b0_3 : Int) (x1_r1 : QL) (x1_r2 : List api_Stamp), iter (splicelaw06_HoldRises.step a0) n (.l1 x1_4 x1_b0_1 x1_b0_3 x1_r1 x1_r2) = some r → AK X 4 ((K4 1111010 0)) (Back X [] (.b r)) ⟨57, [(0, .d (eL50 t0 a0)), (3, .ptr 0 0 0 0), (4, .i x1_4)], [.box 48 [.ptr 1 0 0 0, .i x1_b0_1, .own 2 3 0 x1_r2.length, .i x1_b0_3], qR x1_r1, eR37 x1_r2]⟩) := by
        intro n
        induction n with
        | zero => exact fun _ _ _ _ _ H => iter0 H
        | succ n ih =>
          · intro x1_4 x1_b0_1 x1_b0_3 x1_r1 x1_r2 H
            have Jj2 : ∀ (y2_24 : Bool), stk (splicelaw06_HoldRises.j2 a0 x1_4 x1_b0_1 x1_b0_3 x1_r1 x1_r2 y2_24) (iter (splicelaw06_HoldRises.step a0) n) = some r → AK X 4 ((K4 111101000 1)) (Back X [] (.b r)) ⟨57, [(0, .d (eL50 t0 a0)), (3, .ptr 0 0 0 0), (4, .i x1_4), (24, .b y2_24)], [.box 48 [.ptr 1 0 0 0, .i x1_b0_1, .own 2 3 0 x1_r2.length, .i x1_b0_3], qR x1_r1, eR37 x1_r2]⟩ := by
              intro y2_24 H
              by_cases c6 : y2_24 = true
              · replace H := sT c6 H
                rw [c6]
                refine goK hT 2 (K4 11110100 1) ⟨57, [(0, .d (eL50 t0 a0)), (3, .ptr 0 0 0 0), (4, .i x1_4)], [.box 48 [.ptr 1 0 0 0, .i x1_b0_1, .own 2 3 0 x1_r2.length, .i x1_b0_3], qR x1_r1, eR37 x1_r2]⟩ ?_
                refine goK hT 3 (K4 11110100100 0) ⟨57, [(0, .d (eL50 t0 a0)), (3, .ptr 0 0 0 0), (4, .i x1_4)], [.box 48 [.ptr 1 0 0 0, .i x1_b0_1, .own 2 3 0 x1_r2.length, .i x1_b0_3], qR x1_r1, eR37 x1_r2]⟩ ?_
                obtain ⟨h7, H⟩ := sC H
                have Jj3 : ∀ (y3_56 : Bool) (y3_b0_1 : Int) (y3_b0_3 : Int) (y3_r1 : QL) (y3_r2 : List api_Stamp), stk (splicelaw06_HoldRises.j3 x1_4 y3_56 y3_b0_1 y3_b0_3 y3_r1 y3_r2) (iter (splicelaw06_HoldRises.step a0) n) = some r → AK X 4 ((K4 11110100100 1)) (Back X [] (.b r)) ⟨57, [(0, .d (eL50 t0 a0)), (3, .ptr 0 0 0 0), (4, .i x1_4), (56, .b y3_56)], [.box 48 [.ptr 1 0 0 0, .i y3_b0_1, .own 2 3 0 y3_r2.length, .i y3_b0_3], qR y3_r1, eR37 y3_r2]⟩ := by
                  intro y3_56 y3_b0_1 y3_b0_3 y3_r1 y3_r2 H
                  by_cases c10 : y3_56 = true
                  · replace H := sT c10 H
                    rw [c10]
                    refine goK hT 5 (K4 1111010010010 1) ⟨57, [(2, .b false)], [.box 48 [.ptr 1 0 0 0, .i y3_b0_1, .own 2 3 0 y3_r2.length, .i y3_b0_3], qR y3_r1, eR37 y3_r2]⟩ ?_
                    obtain rfl := retC H
                    exact ak_ret hf hX (av := .b false) (by kernel_rfl) [] (sel_of_eq (by kernel_rfl)) (by decide) (by rw [h0]; rfl) (by kernel_rfl) (fun _ h => all_nil h) (.d (.v _))
                  · replace H := sF c10 H
                    rw [boF c10]
                    refine goK hT 3 (K4 111101001 1) ⟨57, [(0, .d (eL50 t0 a0)), (3, .ptr 0 0 0 0), (4, .i x1_4)], [.box 48 [.ptr 1 0 0 0, .i y3_b0_1, .own 2 3 0 y3_r2.length, .i y3_b0_3], qR y3_r1, eR37 y3_r2]⟩ ?_
                    refine goK hT 6 (K4 1111010 0) ⟨57, [(0, .d (eL50 t0 a0)), (3, .ptr 0 0 0 0), (4, .i (IntKind.wrap .i64 (x1_4 + 1)))], [.box 48 [.ptr 1 0 0 0, .i y3_b0_1, .own 2 3 0 y3_r2.length, .i y3_b0_3], qR y3_r1, eR37 y3_r2]⟩ ?_
                    refine cutK [0, 1, 2] ⟨57, [(0, .d (eL50 t0 a0)), (3, .ptr 0 0 0 0), (4, .i (IntKind.wrap .i64 (x1_4 + 1)))], [.box 48 [.ptr 1 0 0 0, .i y3_b0_1, .own 2 3 0 y3_r2.length, .i y3_b0_3], qR y3_r1, eR37 y3_r2]⟩ h0 ?_
                    exact ih (IntKind.wrap .i64 (x1_4 + 1)) y3_b0_1 y3_b0_3 y3_r1 y3_r2 H
                by_cases c8 : ((((a0.getD x1_4.toNat splicelaw06_Come.z).M).Pairs).length : Int) ≤ 20
                · replace H := sT c8 H
                  obtain ⟨v3, h9, H⟩ := sbC H
                  refine ak_drawAtE (nt := 57) (hP ▸ mixed) 30 [27] [0, 3, 4] [(0, .d (eL50 t0 a0)), (3, .ptr 0 0 0 0), (4, .i x1_4)] [some (.d (eL50 t0 a0)), some (.i x1_4), some (.d (eP50 t0 a0 x1_4.toNat 0)), some (.d (eP50 t0 a0 x1_4.toNat 0)), some (.d (eP50 t0 a0 x1_4.toNat 3)), some (.d (eL70 true (((a0.getD x1_4.toNat splicelaw06_Come.z).M).Pairs))), some (.i ((((a0.getD x1_4.toNat splicelaw06_Come.z).M).Pairs).length : Int)), some (.b true), some (.b true), some (.ptr 0 0 0 0), some (.d (eL50 t0 a0)), some (.i x1_4), some (.d (eP50 t0 a0 x1_4.toNat 0)), some (.d (eP50 t0 a0 x1_4.toNat 0)), some (.d (eG30 ((a0.getD x1_4.toNat splicelaw06_Come.z).M))), some (.d (eL50 t0 a0)), some (.i x1_4), some (.d (eP50 t0 a0 x1_4.toNat 0)), some (.d (eP50 t0 a0 x1_4.toNat 7)), some (.n .u8 ((a0.getD x1_4.toNat splicelaw06_Come.z).More)), some (.n .u8 (Int.tmod ((a0.getD x1_4.toNat splicelaw06_Come.z).More) 16)), some (.i (IntKind.wrap .i64 (Int.tmod ((a0.getD x1_4.toNat splicelaw06_Come.z).More) 16))), some (.d (eL50 t0 a0)), some (.i x1_4), some (.d (eP50 t0 a0 x1_4.toNat 0)), some (.d (eP50 t0 a0 x1_4.toNat 8)), some (.b ((a0.getD x1_4.toNat splicelaw06_Come.z).Add)), some (.b v3.1), some (.b (!v3.1)), some (.b (!v3.1))] [[.box 48 [.ptr 1 0 0 0, .i x1_b0_1, .own 2 3 0 x1_r2.length, .i x1_b0_3], qR x1_r1, eR37 x1_r2], [.box 48 [.ptr 1 0 0 0, .i v3.2.clock, .own 3 3 0 v3.2.popped.length, .i v3.2.floor], qR v3.2.q, .gone, eR37 v3.2.popped]] (by kernel_rfl) (by kernel_rfl) (by kernel_rfl) (by kernel_rfl) ⟨(opGE (opGE (opXE (opGE (opGE (opES (opGE (opGE (opGE (opGE (opGE (opGE (opES (opGE (opGE (opGE (opGE (opES (opGE (opGE (opGE (opGE (opVE (opGE (opGE (opGE (opGE (opES (opGE (opGE opE0 hT) hT) (fun R rest h => ak_idx0 hT (i := x1_4) (n := (a0.length : Int)) h7.1 h7.2 (by kernel_rfl) h)) hT) hT) hT) hT) hT 34 (.b (decide (((((a0.getD x1_4.toNat splicelaw06_Come.z).M).Pairs).length : Int) ≤ 20))) (.b true) (by rw [decide_eq_true c8] <;> rfl)) hT) hT) hT) hT) (fun R rest h => ak_idx0 hT (i := x1_4) (n := (a0.length : Int)) h7.1 h7.2 (by kernel_rfl) h)) hT) hT) hT) hT) (fun R rest h => ak_idx0 hT (i := x1_4) (n := (a0.length : Int)) h7.1 h7.2 (by kernel_rfl) h)) hT) hT) hT) hT) hT) hT) (fun R rest h => ak_idx0 hT (i := x1_4) (n := (a0.length : Int)) h7.1 h7.2 (by kernel_rfl) h)) hT) hT)) hT) hT), (fun R rest h => ak_callDR (avs := [.ptr 0 0 0 0, .d (eG30 ((a0.getD x1_4.toNat splicelaw06_Come.z).M)), .i (IntKind.wrap .i64 (Int.tmod ((a0.getD x1_4.toNat splicelaw06_Come.z).More) 16)), .b ((a0.getD x1_4.toNat splicelaw06_Come.z).Add)]) (dst := some 54) [0, 1, 2] hP enters_18 (splicelaw06_World_step.says (⟨x1_r1, x1_b0_1, x1_r2, x1_b0_3⟩ : splicelaw06_World) ((a0.getD x1_4.toNat splicelaw06_Come.z).M) (IntKind.wrap .i64 (Int.tmod ((a0.getD x1_4.toNat splicelaw06_Come.z).More) 16)) ((a0.getD x1_4.toNat splicelaw06_Come.z).Add) h9) (by kernel_rfl) (hands_three rfl rfl rfl (by decide)) (.cons (.same (.ptr 0 0 0 0)) (.cons (pass_d _) (.cons (pass_d _) (.cons (pass_d _) .nil)))) (by kernel_rfl) h), (opGE (opGE (opXE (opGE (opGE (opES (opGE (opGE (opGE (opGE (opGE (opGE (opES (opGE (opGE (opGE (opGE (opES (opGE (opGE (opGE (opGE (opVE (opGE (opGE (opGE (opGE (opES (opGE (opGE opE0 hT) hT) (fun R rest h => ak_idx0 hT (i := x1_4) (n := (a0.length : Int)) h7.1 h7.2 (by kernel_rfl) h)) hT) hT) hT) hT) hT 34 (.b (decide (((((a0.getD x1_4.toNat splicelaw06_Come.z).M).Pairs).length : Int) ≤ 20))) (.b true) (by rw [decide_eq_true c8] <;> rfl)) hT) hT) hT) hT) (fun R rest h => ak_idx0 hT (i := x1_4) (n := (a0.length : Int)) h7.1 h7.2 (by kernel_rfl) h)) hT) hT) hT) hT) (fun R rest h => ak_idx0 hT (i := x1_4) (n := (a0.length : Int)) h7.1 h7.2 (by kernel_rfl) h)) hT) hT) hT) hT) hT) hT) (fun R rest h => ak_idx0 hT (i := x1_4) (n := (a0.length : Int)) h7.1 h7.2 (by kernel_rfl) h)) hT) hT)) hT) hT)⟩ ?_
                  refine goK hT 1 (K4 11110100100 1) ⟨57, [(0, .d (eL50 t0 a0)), (3, .ptr 0 0 0 0), (4, .i x1_4), (56, .b (!v3.1))], [.box 48 [.ptr 1 0 0 0, .i v3.2.clock, .own 3 3 0 v3.2.popped.length, .i v3.2.floor], qR v3.2.q, .gone, eR37 v3.2.popped]⟩ ?_
                  refine cutK [0, 1, 3] ⟨57, [(0, .d (eL50 t0 a0)), (3, .ptr 0 0 0 0), (4, .i x1_4), (56, .b (!v3.1))], [.box 48 [.ptr 1 0 0 0, .i v3.2.clock, .own 2 3 0 v3.2.popped.length, .i v3.2.floor], qR v3.2.q, eR37 v3.2.popped]⟩ h0 ?_
                  exact Jj3 (!v3.1) v3.2.clock v3.2.floor v3.2.q v3.2.popped H
                · replace H := sF c8 H
                  refine drawK (hP ▸ mixed) 30 [0, 3, 4] [some (.d (eL50 t0 a0)), some (.i x1_4), some (.d (eP50 t0 a0 x1_4.toNat 0)), some (.d (eP50 t0 a0 x1_4.toNat 0)), some (.d (eP50 t0 a0 x1_4.toNat 3)), some (.d (eL70 true (((a0.getD x1_4.toNat splicelaw06_Come.z).M).Pairs))), some (.i ((((a0.getD x1_4.toNat splicelaw06_Come.z).M).Pairs).length : Int)), some (.b false), some (.b false), some (.tup []), some (.tup []), some (.tup []), some (.tup []), some (.tup []), some (.tup []), some (.tup []), some (.tup []), some (.tup []), some (.tup []), some (.tup []), some (.tup []), some (.tup []), some (.tup []), some (.tup []), some (.tup []), some (.tup []), some (.tup []), some (.tup []), some (.tup []), some (.b false)] (opG (opG (opG (opG (opG (opG (opG (opG (opG (opG (opG (opG (opG (opG (opG (opG (opG (opG (opG (opG (opG (opG (opV (opG (opG (opG (opG (opS (opG (opG op0 hT) hT) (fun R rest h => ak_idx0 hT (i := x1_4) (n := (a0.length : Int)) h7.1 h7.2 (by kernel_rfl) h)) hT) hT) hT) hT) hT 34 (.b (decide (((((a0.getD x1_4.toNat splicelaw06_Come.z).M).Pairs).length : Int) ≤ 20))) (.b false) (by rw [decide_eq_false c8] <;> rfl)) hT) hT) hT) hT) hT) hT) hT) hT) hT) hT) hT) hT) hT) hT) hT) hT) hT) hT) hT) hT) hT) hT) ?_
                  refine goK hT 1 (K4 11110100100 1) ⟨57, [(0, .d (eL50 t0 a0)), (3, .ptr 0 0 0 0), (4, .i x1_4), (56, .b false)], [.box 48 [.ptr 1 0 0 0, .i x1_b0_1, .own 2 3 0 x1_r2.length, .i x1_b0_3], qR x1_r1, eR37 x1_r2]⟩ ?_
                  refine cutK [0, 1, 2] ⟨57, [(0, .d (eL50 t0 a0)), (3, .ptr 0 0 0 0), (4, .i x1_4), (56, .b false)], [.box 48 [.ptr 1 0 0 0, .i x1_b0_1, .own 2 3 0 x1_r2.length, .i x1_b0_3], qR x1_r1, eR37 x1_r2]⟩ h0 ?_
                  exact Jj3 false x1_b0_1 x1_b0_3 x1_r1 x1_r2 H
              · replace H := sF c6 H
                rw [boF c6]
                refine goK hT 6 (K4 11111 1) ⟨57, [(2, .b true)], [.box 48 [.ptr 1 0 0 0, .i x1_b0_1, .own 2 3 0 x1_r2.length, .i x1_b0_3], qR x1_r1, eR37 x1_r2]⟩ ?_
                obtain rfl := retC H
                exact ak_ret hf hX (av := .b true) (by kernel_rfl) [] (sel_of_eq (by kernel_rfl)) (by decide) (by rw [h0]; rfl) (by kernel_rfl) (fun _ h => all_nil h) (.d (.v _))
            refine goK hT 8 (K4 1111010000 5) ⟨57, [(0, .d (eL50 t0 a0)), (3, .ptr 0 0 0 0), (4, .i x1_4), (21, .b (decide (x1_4 < (a0.length : Int))))], [.box 48 [.ptr 1 0 0 0, .i x1_b0_1, .own 2 3 0 x1_r2.length, .i x1_b0_3], qR x1_r1, eR37 x1_r2]⟩ ?_
            by_cases c5 : x1_4 < (a0.length : Int)
            · replace H := sT c5 H
              rw [decide_eq_true c5]
              refine goK hT 4 (K4 111101000 1) ⟨57, [(0, .d (eL50 t0 a0)), (3, .ptr 0 0 0 0), (4, .i x1_4), (24, .b (decide (x1_4 < 150)))], [.box 48 [.ptr 1 0 0 0, .i x1_b0_1, .own 2 3 0 x1_r2.length, .i x1_b0_3], qR x1_r1, eR37 x1_r2]⟩ ?_
              refine cutK [0, 1, 2] ⟨57, [(0, .d (eL50 t0 a0)), (3, .ptr 0 0 0 0), (4, .i x1_4), (24, .b (decide (x1_4 < 150)))], [.box 48 [.ptr 1 0 0 0, .i x1_b0_1, .own 2 3 0 x1_r2.length, .i x1_b0_3], qR x1_r1, eR37 x1_r2]⟩ h0 ?_
              exact Jj2 (decide (x1_4 < 150)) H
            · replace H := sF c5 H
              rw [decide_eq_false c5]
              refine goK hT 4 (K4 111101000 1) ⟨57, [(0, .d (eL50 t0 a0)), (3, .ptr 0 0 0 0), (4, .i x1_4), (24, .b false)], [.box 48 [.ptr 1 0 0 0, .i x1_b0_1, .own 2 3 0 x1_r2.length, .i x1_b0_3], qR x1_r1, eR37 x1_r2]⟩ ?_
              refine cutK [0, 1, 2] ⟨57, [(0, .d (eL50 t0 a0)), (3, .ptr 0 0 0 0), (4, .i x1_4), (24, .b false)], [.box 48 [.ptr 1 0 0 0, .i x1_b0_1, .own 2 3 0 x1_r2.length, .i x1_b0_3], qR x1_r1, eR37 x1_r2]⟩ h0 ?_
              exact Jj2 false H
      refine cutK [0, 1, 2] ⟨57, [(0, .d (eL50 t0 a0)), (3, .ptr 0 0 0 0), (4, .i 0)], [.box 48 [.ptr 1 0 0 0, .i 0, .own 2 3 0 ([] : List api_Stamp).length, .i 0], qR v1, eR37 ([] : List api_Stamp)]⟩ h0 ?_
      obtain ⟨n, H⟩ := loopC H
      exact (L n) 0 0 0 v1 ([] : List api_Stamp) H
  refine ak_callP (avs := []) (dst := some 8) (k' := (K4 11100 1)) [0, 3, 8] [] hP enters_11 (splicelaw06_awake.says h2) (by kernel_rfl) (hands_none _) .nil (st' := ⟨57, [(0, .d (eL50 t0 a0)), (3, .ptr 1 0 0 0), (8, .b v2)], [qR v1, .box 48 [.ptr 0 0 0 0, .i 0, .ns, .i 0]]⟩) (by kernel_rfl) ?_
  refine goK hT 2 (K4 11100 3) ⟨57, [(0, .d (eL50 t0 a0)), (3, .ptr 1 0 0 0), (10, .b (!v2))], [qR v1, .box 48 [.ptr 0 0 0 0, .i 0, .ns, .i 0]]⟩ ?_
  by_cases c3 : v2 = true
  · replace H := iT c3 H
    rw [c3]
    refine goK hT 7 (K4 1110 1) ⟨57, [(0, .d (eL50 t0 a0)), (3, .ptr 1 0 0 0), (16, .b false)], [qR v1, .box 48 [.ptr 0 0 0 0, .i 0, .ns, .i 0]]⟩ ?_
    refine cutK [1, 0] ⟨57, [(0, .d (eL50 t0 a0)), (3, .ptr 0 0 0 0), (16, .b false)], [.box 48 [.ptr 1 0 0 0, .i 0, .ns, .i 0], qR v1]⟩ h0 ?_
    exact Jj1 false H
  · replace H := iF c3 H
    rw [boF c3]
    refine goK hT 7 (K4 1110 1) ⟨57, [(0, .d (eL50 t0 a0)), (3, .ptr 1 0 0 0), (16, .b true)], [qR v1, .box 48 [.ptr 0 0 0 0, .i 0, .ns, .i 0]]⟩ ?_
    refine cutK [1, 0] ⟨57, [(0, .d (eL50 t0 a0)), (3, .ptr 0 0 0 0), (16, .b true)], [.box 48 [.ptr 1 0 0 0, .i 0, .ns, .i 0], qR v1]⟩ h0 ?_
    exact Jj1 true H
end Go.SyP
