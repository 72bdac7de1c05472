/- Certificates, printed by gen.py. -/
import Derived.Test.YticmlllaimjdcaaG15Cp0
set_option linter.unusedVariables false
set_option linter.unusedSimpArgs false
namespace Go.SyP
open Go Go.Sy Go.Proofs


theorem spliceref04_Check.says (a0 : spliceref04_Mut) {r : Bool} (H : spliceref04_Check a0 = some r) : Says Try.prog 21 [] [.d (eG45 a0)] [] (.b r) := by
  refine says_of Try.func21 rfl (nt := 143) rfl (Nat.le_of_ble_eq_true rfl) fun X hP h0 hX => ?_
  have hT : TabOk X.P T := hP ▸ tok
  have hf : X.P.funcs[21]? = some Try.f21 := hP ▸ Try.func21
  have Jj1 : ∀ (y1_21 : Bool), (spliceref04_Check.j1 a0 y1_21) = some r → AK X 21 ((K21 110 1)) (Back X [] (.b r)) ⟨143, [(1, .ptr 0 0 0 0), (21, .b y1_21)], [.box 45 (eC45 a0)]⟩ := by
    intro y1_21 H
    by_cases c4 : y1_21 = true
    · replace H := iT c4 H
      rw [c4]
      refine goK hT 5 (K21 11010 1) ⟨143, [(2, .b false)], [.box 45 (eC45 a0)]⟩ ?_
      obtain rfl := retC H
      exact ak_ret hf hX (av := .b false) (by kernel_rfl) [] (sel_of_eq (by kernel_rfl)) (by decide) (by rw [h0]; rfl) (by kernel_rfl) (fun _ h => all_nil h) (.d (.v _))
    · replace H := iF c4 H
      rw [boF c4]
      refine goK hT 2 (K21 11 1) ⟨143, [(1, .ptr 0 0 0 0)], [.box 45 (eC45 a0)]⟩ ?_
      refine goK hT 7 (K21 1110 1) ⟨143, [(1, .ptr 0 0 0 0), (24, .b (a0.Kind == 2))], [.box 45 (eC45 a0)]⟩ ?_
      by_cases c5 : a0.Kind = 2
      · replace H := iT c5 H
        have Jj2 : ∀ (y2_2 : Bool), (spliceref04_Check.j2 y2_2) = some r → AK X 21 ((K21 111010 1)) (Back X [] (.b r)) ⟨143, [(2, .b y2_2)], []⟩ := by
          intro y2_2 H
          obtain rfl := retC H
          exact ak_ret hf hX (av := .b y2_2) (by kernel_rfl) [] (sel_of_eq (by kernel_rfl)) (by decide) (by rw [h0]; rfl) (by kernel_rfl) (fun _ h => all_nil h) (.d (.v _))
        rw [eqT c5]
        refine goK hT 8 (K21 1110100 5) ⟨143, [(1, .ptr 0 0 0 0), (29, .b ((a0.Pairs.length : Int) == 0))], [.box 45 (eC45 a0)]⟩ ?_
        by_cases c6 : (a0.Pairs.length : Int) = 0
        · replace H := iT c6 H
          rw [eqT c6]
          refine goK hT 5 (K21 1110100 10) ⟨143, [(1, .ptr 0 0 0 0), (34, .b (a0.Old == 0))], [.box 45 (eC45 a0)]⟩ ?_
          by_cases c7 : a0.Old = 0
          · replace H := iT c7 H
            rw [eqT c7]
            refine goK hT 2 (K21 1110100 12) ⟨143, [(34, .b true), (36, .d (eG43 a0.Over))], [.box 45 (eC45 a0)]⟩ ?_
            refine ak_callP (avs := [.d (eG43 a0.Over)]) (dst := some 37) (k' := (K21 1110100 13)) [34, 37] [] hP enters_40 (spliceref03_One.says a0.Over) (by kernel_rfl) (hands_none _) (.cons (pass_d _) .nil) (st' := ⟨143, [(34, .b true), (37, .b (spliceref03_One a0.Over))], [.box 45 (eC45 a0)]⟩) (by kernel_rfl) ?_
            refine goK hT 3 (K21 111010 1) ⟨143, [(2, .b (spliceref03_One a0.Over))], [.box 45 (eC45 a0)]⟩ ?_
            refine cutK [] ⟨143, [(2, .b (spliceref03_One a0.Over))], []⟩ h0 ?_
            exact Jj2 (spliceref03_One a0.Over) H
          · replace H := iF c7 H
            rw [eqF c7]
            refine goK hT 6 (K21 111010 1) ⟨143, [(2, .b false)], [.box 45 (eC45 a0)]⟩ ?_
            refine cutK [] ⟨143, [(2, .b false)], []⟩ h0 ?_
            exact Jj2 false H
        · replace H := iF c6 H
          rw [eqF c6]
          refine goK hT 11 (K21 111010 1) ⟨143, [(2, .b false)], [.box 45 (eC45 a0)]⟩ ?_
          refine cutK [] ⟨143, [(2, .b false)], []⟩ h0 ?_
          exact Jj2 false H
      · replace H := iF c5 H
        have Jj3 : ∀ (y3_48 : Bool), (spliceref04_Check.j3 a0 y3_48) = some r → AK X 21 ((K21 11110 1)) (Back X [] (.b r)) ⟨143, [(1, .ptr 0 0 0 0), (48, .b y3_48)], [.box 45 (eC45 a0)]⟩ := by
          intro y3_48 H
          by_cases c9 : y3_48 = true
          · replace H := iT c9 H
            rw [c9]
            refine goK hT 5 (K21 1111010 1) ⟨143, [(2, .b false)], [.box 45 (eC45 a0)]⟩ ?_
            obtain rfl := retC H
            exact ak_ret hf hX (av := .b false) (by kernel_rfl) [] (sel_of_eq (by kernel_rfl)) (by decide) (by rw [h0]; rfl) (by kernel_rfl) (fun _ h => all_nil h) (.d (.v _))
          · replace H := iF c9 H
            rw [boF c9]
            refine goK hT 2 (K21 1111 1) ⟨143, [(1, .ptr 0 0 0 0)], [.box 45 (eC45 a0)]⟩ ?_
            refine goK hT 7 (K21 111110 1) ⟨143, [(1, .ptr 0 0 0 0), (51, .b (a0.Kind == 4))], [.box 45 (eC45 a0)]⟩ ?_
            by_cases c10 : a0.Kind = 4
            · replace H := iT c10 H
              rw [eqT c10]
              refine goK hT 5 (K21 111110100 2) ⟨143, [(1, .ptr 0 0 0 0), (53, .d (eL66 true a0.Pairs))], [.box 45 (eC45 a0)]⟩ ?_
              obtain ⟨v1, h11, H⟩ := ibC H
              have Jj4 : ∀ (y4_2 : Bool), (spliceref04_Check.j4 y4_2) = some r → AK X 21 ((K21 11111010 1)) (Back X [] (.b r)) ⟨143, [(2, .b y4_2)], []⟩ := by
                intro y4_2 H
                obtain rfl := retC H
                exact ak_ret hf hX (av := .b y4_2) (by kernel_rfl) [] (sel_of_eq (by kernel_rfl)) (by decide) (by rw [h0]; rfl) (by kernel_rfl) (fun _ h => all_nil h) (.d (.v _))
              refine ak_callP (avs := [.d (eL66 true a0.Pairs), .i 1, .i 1]) (dst := some 54) (k' := (K21 111110100 3)) [1, 54] [] hP enters_41 (spliceref04_pairs.says (t0 := true) a0.Pairs 1 1 h11) (by kernel_rfl) (hands_none _) (.cons (pass_d _) (.cons (pass_d _) (.cons (pass_d _) .nil))) (st' := ⟨143, [(1, .ptr 0 0 0 0), (54, .b v1)], [.box 45 (eC45 a0)]⟩) (by kernel_rfl) ?_
              refine goK hT 1 (K21 111110100 4) ⟨143, [(1, .ptr 0 0 0 0), (55, .b v1)], [.box 45 (eC45 a0)]⟩ ?_
              by_cases c12 : v1 = true
              · replace H := iT c12 H
                rw [c12]
                refine goK hT 2 (K21 111110100 6) ⟨143, [(1, .ptr 0 0 0 0), (55, .b true), (57, .i a0.Old)], [.box 45 (eC45 a0)]⟩ ?_
                refine ak_callP (avs := [.i a0.Old]) (dst := some 58) (k' := (K21 111110100 7)) [1, 55, 58] [] hP enters_42 (spliceref04_value.says a0.Old) (by kernel_rfl) (hands_none _) (.cons (pass_d _) .nil) (st' := ⟨143, [(1, .ptr 0 0 0 0), (55, .b true), (58, .b (spliceref04_value a0.Old))], [.box 45 (eC45 a0)]⟩) (by kernel_rfl) ?_
                refine goK hT 1 (K21 111110100 8) ⟨143, [(1, .ptr 0 0 0 0), (55, .b true), (59, .b (spliceref04_value a0.Old))], [.box 45 (eC45 a0)]⟩ ?_
                by_cases c13 : (spliceref04_value a0.Old) = true
                · replace H := iT c13 H
                  rw [c13]
                  refine goK hT 7 (K21 11111010 1) ⟨143, [(2, .b true)], [.box 45 (eC45 a0)]⟩ ?_
                  refine cutK [] ⟨143, [(2, .b true)], []⟩ h0 ?_
                  exact Jj4 true H
                · replace H := iF c13 H
                  rw [boF c13]
                  refine goK hT 7 (K21 11111010 1) ⟨143, [(2, .b (a0.Old == 1099511627777))], [.box 45 (eC45 a0)]⟩ ?_
                  refine cutK [] ⟨143, [(2, .b (a0.Old == 1099511627777))], []⟩ h0 ?_
                  exact Jj4 (a0.Old == 1099511627777) H
              · replace H := iF c12 H
                rw [boF c12]
                refine goK hT 11 (K21 11111010 1) ⟨143, [(2, .b false)], [.box 45 (eC45 a0)]⟩ ?_
                refine cutK [] ⟨143, [(2, .b false)], []⟩ h0 ?_
                exact Jj4 false H
            · replace H := iF c10 H
              rw [eqF c10]
              refine goK hT 2 (K21 11111 1) ⟨143, [(1, .ptr 0 0 0 0)], [.box 45 (eC45 a0)]⟩ ?_
              refine goK hT 7 (K21 1111110 1) ⟨143, [(1, .ptr 0 0 0 0), (67, .b (a0.Old != 0))], [.box 45 (eC45 a0)]⟩ ?_
              by_cases c14 : a0.Old = 0
              · replace H := iT c14 H
                rw [neF c14]
                refine goK hT 2 (K21 111111 1) ⟨143, [(1, .ptr 0 0 0 0)], [.box 45 (eC45 a0)]⟩ ?_
                refine goK hT 7 (K21 11111110 1) ⟨143, [(1, .ptr 0 0 0 0), (70, .b (a0.Kind == 1))], [.box 45 (eC45 a0)]⟩ ?_
                by_cases c15 : a0.Kind = 1
                · replace H := iT c15 H
                  rw [eqT c15]
                  refine goK hT 8 (K21 1111111010010 0) ⟨143, [(1, .ptr 0 0 0 0), (3, .i 1)], [.box 45 (eC45 a0)]⟩ ?_
                  have L : ∀ n, (∀ (x1_3 : Int), iter (spliceref04_Check.step a0) n (.l1 x1_3) = some r → AK X 21 ((K21 1111111010010 0)) (Back X [] (.b r)) ⟨143, [(1, .ptr 0 0 0 0), (3, .i x1_3)], [.box 45 (eC45 a0)]⟩) := by
                    intro n
                    induction n with
                    | zero => exact fun _ H => iter0 H
                    | succ n ih =>
                      · intro x1_3 H
                        refine goK hT 9 (K21 111111101001000 1) ⟨143, [(1, .ptr 0 0 0 0), (3, .i x1_3), (75, .b (decide (x1_3 < (a0.Pairs.length : Int))))], [.box 45 (eC45 a0)]⟩ ?_
                        by_cases c16 : x1_3 < (a0.Pairs.length : Int)
                        · replace H := sT c16 H
                          rw [decide_eq_true c16]
                          refine goK hT 2 (K21 11111110100100 1) ⟨143, [(1, .ptr 0 0 0 0), (3, .i x1_3)], [.box 45 (eC45 a0)]⟩ ?_
                          refine goK hT 3 (K21 11111110100100100 0) ⟨143, [(1, .ptr 0 0 0 0), (3, .i x1_3)], [.box 45 (eC45 a0)]⟩ ?_
                          obtain ⟨h18, H⟩ := sC H
                          obtain ⟨h19, H⟩ := sC H
                          refine drawK (hP ▸ mixed) 14 [1, 3] [some (.ptr 0 0 0 3), some (.d (eL66 true a0.Pairs)), some (.i x1_3), some (.i (IntKind.wrap .i64 (x1_3 - 1))), some (.d (eP66 true a0.Pairs ((IntKind.wrap .i64 (x1_3 - 1)).toNat) 0)), some (.d (eP66 true a0.Pairs ((IntKind.wrap .i64 (x1_3 - 1)).toNat) 0)), some (.i ((a0.Pairs.getD ((IntKind.wrap .i64 (x1_3 - 1)).toNat) spliceref04_Pair.z).Key)), some (.ptr 0 0 0 3), some (.d (eL66 true a0.Pairs)), some (.i x1_3), some (.d (eP66 true a0.Pairs x1_3.toNat 0)), some (.d (eP66 true a0.Pairs x1_3.toNat 0)), some (.i ((a0.Pairs.getD x1_3.toNat spliceref04_Pair.z).Key)), some (.b (decide (((a0.Pairs.getD ((IntKind.wrap .i64 (x1_3 - 1)).toNat) spliceref04_Pair.z).Key) ≥ ((a0.Pairs.getD x1_3.toNat spliceref04_Pair.z).Key))))] (opG (opG (opG (opS (opG (opG (opG (opG (opG (opS (opG (opG (opG (opG op0 hT) hT) hT) hT) (fun R rest h => ak_idx0 hT (i := IntKind.wrap .i64 (x1_3 - 1)) (n := (a0.Pairs.length : Int)) h18.1 h18.2 (by kernel_rfl) h)) hT) hT) hT) hT) hT) (fun R rest h => ak_idx0 hT (i := x1_3) (n := (a0.Pairs.length : Int)) h19.1 h19.2 (by kernel_rfl) h)) hT) hT) hT) ?_
                          refine goK hT 1 (K21 11111110100100100 1) ⟨143, [(1, .ptr 0 0 0 0), (3, .i x1_3), (91, .b (decide (((a0.Pairs.getD ((IntKind.wrap .i64 (x1_3 - 1)).toNat) spliceref04_Pair.z).Key) ≥ ((a0.Pairs.getD x1_3.toNat spliceref04_Pair.z).Key))))], [.box 45 (eC45 a0)]⟩ ?_
                          by_cases c20 : ((a0.Pairs.getD ((IntKind.wrap .i64 (x1_3 - 1)).toNat) spliceref04_Pair.z).Key) ≥ ((a0.Pairs.getD x1_3.toNat spliceref04_Pair.z).Key)
                          · replace H := sT c20 H
                            rw [decide_eq_true c20]
                            refine goK hT 5 (K21 1111111010010010010 1) ⟨143, [(2, .b false)], [.box 45 (eC45 a0)]⟩ ?_
                            obtain rfl := retC H
                            exact ak_ret hf hX (av := .b false) (by kernel_rfl) [] (sel_of_eq (by kernel_rfl)) (by decide) (by rw [h0]; rfl) (by kernel_rfl) (fun _ h => all_nil h) (.d (.v _))
                          · replace H := sF c20 H
                            rw [decide_eq_false c20]
                            refine goK hT 3 (K21 111111101001001 1) ⟨143, [(1, .ptr 0 0 0 0), (3, .i x1_3)], [.box 45 (eC45 a0)]⟩ ?_
                            refine goK hT 6 (K21 1111111010010 0) ⟨143, [(1, .ptr 0 0 0 0), (3, .i (IntKind.wrap .i64 (x1_3 + 1)))], [.box 45 (eC45 a0)]⟩ ?_
                            refine cutK [0] ⟨143, [(1, .ptr 0 0 0 0), (3, .i (IntKind.wrap .i64 (x1_3 + 1)))], [.box 45 (eC45 a0)]⟩ h0 ?_
                            exact ih (IntKind.wrap .i64 (x1_3 + 1)) H
                        · replace H := sF c16 H
                          rw [decide_eq_false c16]
                          refine goK hT 6 (K21 111111101010 2) ⟨143, [(93, .d (eL66 true a0.Pairs))], [.box 45 (eC45 a0)]⟩ ?_
                          obtain ⟨v2, h17, H⟩ := sbC H
                          refine ak_callP (avs := [.d (eL66 true a0.Pairs), .i 1, .i 8]) (dst := some 94) (k' := (K21 111111101010 3)) [94] [] hP enters_41 (spliceref04_pairs.says (t0 := true) a0.Pairs 1 8 h17) (by kernel_rfl) (hands_none _) (.cons (pass_d _) (.cons (pass_d _) (.cons (pass_d _) .nil))) (st' := ⟨143, [(94, .b v2)], [.box 45 (eC45 a0)]⟩) (by kernel_rfl) ?_
                          refine goK hT 2 (K21 11111110101 1) ⟨143, [(2, .b v2)], [.box 45 (eC45 a0)]⟩ ?_
                          obtain rfl := retC H
                          exact ak_ret hf hX (av := .b v2) (by kernel_rfl) [] (sel_of_eq (by kernel_rfl)) (by decide) (by rw [h0]; rfl) (by kernel_rfl) (fun _ h => all_nil h) (.d (.v _))
                  refine cutK [0] ⟨143, [(1, .ptr 0 0 0 0), (3, .i 1)], [.box 45 (eC45 a0)]⟩ h0 ?_
                  obtain ⟨n, H⟩ := loopC H
                  exact (L n) 1 H
                · replace H := iF c15 H
                  rw [eqF c15]
                  refine goK hT 2 (K21 1111111 1) ⟨143, [(1, .ptr 0 0 0 0)], [.box 45 (eC45 a0)]⟩ ?_
                  refine goK hT 7 (K21 111111110 1) ⟨143, [(1, .ptr 0 0 0 0), (97, .b (a0.Kind == 3))], [.box 45 (eC45 a0)]⟩ ?_
                  by_cases c21 : a0.Kind = 3
                  · replace H := iT c21 H
                    rw [eqT c21]
                    refine goK hT 5 (K21 111111110100 2) ⟨143, [(99, .d (eL66 true a0.Pairs))], [.box 45 (eC45 a0)]⟩ ?_
                    obtain ⟨v3, h22, H⟩ := ibC H
                    refine ak_callP (avs := [.d (eL66 true a0.Pairs), .i 1, .i 1]) (dst := some 100) (k' := (K21 111111110100 3)) [100] [] hP enters_41 (spliceref04_pairs.says (t0 := true) a0.Pairs 1 1 h22) (by kernel_rfl) (hands_none _) (.cons (pass_d _) (.cons (pass_d _) (.cons (pass_d _) .nil))) (st' := ⟨143, [(100, .b v3)], [.box 45 (eC45 a0)]⟩) (by kernel_rfl) ?_
                    refine goK hT 2 (K21 11111111010 1) ⟨143, [(2, .b v3)], [.box 45 (eC45 a0)]⟩ ?_
                    obtain rfl := retC H
                    exact ak_ret hf hX (av := .b v3) (by kernel_rfl) [] (sel_of_eq (by kernel_rfl)) (by decide) (by rw [h0]; rfl) (by kernel_rfl) (fun _ h => all_nil h) (.d (.v _))
                  · replace H := iF c21 H
                    have Jj5 : ∀ (y5_2 : Bool), (spliceref04_Check.j5 y5_2) = some r → AK X 21 ((K21 111111111 1)) (Back X [] (.b r)) ⟨143, [(2, .b y5_2)], []⟩ := by
                      intro y5_2 H
                      obtain rfl := retC H
                      exact ak_ret hf hX (av := .b y5_2) (by kernel_rfl) [] (sel_of_eq (by kernel_rfl)) (by decide) (by rw [h0]; rfl) (by kernel_rfl) (fun _ h => all_nil h) (.d (.v _))
                    rw [eqF c21]
                    refine goK hT 2 (K21 11111111 1) ⟨143, [(1, .ptr 0 0 0 0)], [.box 45 (eC45 a0)]⟩ ?_
                    refine goK hT 1 (K21 111111111 0) ⟨143, [(1, .ptr 0 0 0 0)], [.box 45 (eC45 a0)]⟩ ?_
                    by_cases c23 : a0.Kind = 5
                    · replace H := iT c23 H
                      obtain ⟨v4, h24, H⟩ := ibC H
                      by_cases c25 : v4 = true
                      · replace H := iT c25 H
                        obtain ⟨h26, H⟩ := iC H
                        obtain ⟨h27, H⟩ := iC H
                        by_cases c28 : ((a0.Pairs.getD 0 spliceref04_Pair.z).Key) = ((a0.Pairs.getD 1 spliceref04_Pair.z).Key)
                        · replace H := iT c28 H
                          refine drawK (hP ▸ mixed) 32 [1] [some (.ptr 0 0 0 2), some (.i a0.Kind), some (.b true), some (.b true), some (.ptr 0 0 0 3), some (.d (eL66 true a0.Pairs)), some (.b true), some (.b true), some (.b true), some (.ptr 0 0 0 3), some (.d (eL66 true a0.Pairs)), some (.d (eP66 true a0.Pairs 0 0)), some (.d (eP66 true a0.Pairs 0 0)), some (.i ((a0.Pairs.getD 0 spliceref04_Pair.z).Key)), some (.ptr 0 0 0 3), some (.d (eL66 true a0.Pairs)), some (.d (eP66 true a0.Pairs 1 0)), some (.d (eP66 true a0.Pairs 1 0)), some (.i ((a0.Pairs.getD 1 spliceref04_Pair.z).Key)), some (.b false), some (.b false), some (.b false), some (.tup []), some (.tup []), some (.tup []), some (.tup []), some (.tup []), some (.tup []), some (.tup []), some (.tup []), some (.tup []), some (.tup [])] (opG (opG (opG (opG (opG (opG (opG (opG (opG (opG (opG (opG (opV (opG (opG (opS (opG (opG (opG (opG (opS (opG (opG (opG (opG (opS (opG (opG (opG (opV (opG (opG op0 hT) hT) hT 103 (.b (a0.Kind == 5)) (.b true) (by rw [eqT c23])) hT) hT) hT) (fun R rest h => ak_callD (avs := [.d (eL66 true a0.Pairs), .i 2, .i 2]) (dst := some 107) hP enters_41 (by have q := spliceref04_pairs.says (t0 := true) a0.Pairs 2 2 h24; rw [c25] at q; exact q) (by kernel_rfl) (.cons (pass_d _) (.cons (pass_d _) (.cons (pass_d _) .nil))) (by kernel_rfl) h)) hT) hT) hT) hT) (fun R rest h => ak_idx0 hT (i := 0) (n := (a0.Pairs.length : Int)) h26.1 h26.2 (by kernel_rfl) h)) hT) hT) hT) hT) (fun R rest h => ak_idx0 hT (i := 1) (n := (a0.Pairs.length : Int)) h27.1 h27.2 (by kernel_rfl) h)) hT) hT) hT 120 (.b (((a0.Pairs.getD 0 spliceref04_Pair.z).Key) != ((a0.Pairs.getD 1 spliceref04_Pair.z).Key))) (.b false) (by rw [neF c28])) hT) hT) hT) hT) hT) hT) hT) hT) hT) hT) hT) hT) ?_
                          refine goK hT 12 (K21 111111111 1) ⟨143, [(2, .b false)], [.box 45 (eC45 a0)]⟩ ?_
                          refine cutK [] ⟨143, [(2, .b false)], []⟩ h0 ?_
                          exact Jj5 false H
                        · replace H := iF c28 H
                          refine drawK (hP ▸ mixed) 32 [1] [some (.ptr 0 0 0 2), some (.i a0.Kind), some (.b true), some (.b true), some (.ptr 0 0 0 3), some (.d (eL66 true a0.Pairs)), some (.b true), some (.b true), some (.b true), some (.ptr 0 0 0 3), some (.d (eL66 true a0.Pairs)), some (.d (eP66 true a0.Pairs 0 0)), some (.d (eP66 true a0.Pairs 0 0)), some (.i ((a0.Pairs.getD 0 spliceref04_Pair.z).Key)), some (.ptr 0 0 0 3), some (.d (eL66 true a0.Pairs)), some (.d (eP66 true a0.Pairs 1 0)), some (.d (eP66 true a0.Pairs 1 0)), some (.i ((a0.Pairs.getD 1 spliceref04_Pair.z).Key)), some (.b true), some (.b true), some (.b true), some (.ptr 0 0 0 3), some (.d (eL66 true a0.Pairs)), some (.d (eP66 true a0.Pairs 0 0)), some (.d (eP66 true a0.Pairs 0 1)), some (.i ((a0.Pairs.getD 0 spliceref04_Pair.z).Val)), some (.ptr 0 0 0 3), some (.d (eL66 true a0.Pairs)), some (.d (eP66 true a0.Pairs 1 0)), some (.d (eP66 true a0.Pairs 1 1)), some (.i ((a0.Pairs.getD 1 spliceref04_Pair.z).Val))] (opG (opG (opS (opG (opG (opG (opG (opS (opG (opG (opG (opG (opV (opG (opG (opS (opG (opG (opG (opG (opS (opG (opG (opG (opG (opS (opG (opG (opG (opV (opG (opG op0 hT) hT) hT 103 (.b (a0.Kind == 5)) (.b true) (by rw [eqT c23])) hT) hT) hT) (fun R rest h => ak_callD (avs := [.d (eL66 true a0.Pairs), .i 2, .i 2]) (dst := some 107) hP enters_41 (by have q := spliceref04_pairs.says (t0 := true) a0.Pairs 2 2 h24; rw [c25] at q; exact q) (by kernel_rfl) (.cons (pass_d _) (.cons (pass_d _) (.cons (pass_d _) .nil))) (by kernel_rfl) h)) hT) hT) hT) hT) (fun R rest h => ak_idx0 hT (i := 0) (n := (a0.Pairs.length : Int)) h26.1 h26.2 (by kernel_rfl) h)) hT) hT) hT) hT) (fun R rest h => ak_idx0 hT (i := 1) (n := (a0.Pairs.length : Int)) h27.1 h27.2 (by kernel_rfl) h)) hT) hT) hT 120 (.b (((a0.Pairs.getD 0 spliceref04_Pair.z).Key) != ((a0.Pairs.getD 1 spliceref04_Pair.z).Key))) (.b true) (by rw [neT c28])) hT) hT) hT) hT) (fun R rest h => ak_idx0 hT (i := 0) (n := (a0.Pairs.length : Int)) h26.1 h26.2 (by kernel_rfl) h)) hT) hT) hT) hT) (fun R rest h => ak_idx0 hT (i := 1) (n := (a0.Pairs.length : Int)) h27.1 h27.2 (by kernel_rfl) h)) hT) hT) ?_
                          refine goK hT 3 (K21 1111111110 35) ⟨143, [(1, .ptr 0 0 0 0), (135, .b (((a0.Pairs.getD 0 spliceref04_Pair.z).Val) == ((a0.Pairs.getD 1 spliceref04_Pair.z).Val)))], [.box 45 (eC45 a0)]⟩ ?_
                          by_cases c29 : ((a0.Pairs.getD 0 spliceref04_Pair.z).Val) = ((a0.Pairs.getD 1 spliceref04_Pair.z).Val)
                          · replace H := iT c29 H
                            rw [eqT c29]
                            refine goK hT 2 (K21 1111111110 37) ⟨143, [(135, .b true), (137, .d (eL66 true a0.Pairs))], [.box 45 (eC45 a0)]⟩ ?_
                            refine ak_idx hT [135, 138] (i := 0) (n := (a0.Pairs.length : Int)) h26.1 h26.2 (k' := (K21 1111111110 38)) (st' := ⟨143, [(135, .b true), (138, .d (eP66 true a0.Pairs 0 0))], [.box 45 (eC45 a0)]⟩) (by kernel_rfl) ?_
                            refine goK hT 6 (K21 111111111 1) ⟨143, [(2, .b (decide (((a0.Pairs.getD 0 spliceref04_Pair.z).Val) ≥ 0)))], [.box 45 (eC45 a0)]⟩ ?_
                            refine cutK [] ⟨143, [(2, .b (decide (((a0.Pairs.getD 0 spliceref04_Pair.z).Val) ≥ 0)))], []⟩ h0 ?_
                            exact Jj5 (decide (((a0.Pairs.getD 0 spliceref04_Pair.z).Val) ≥ 0)) H
                          · replace H := iF c29 H
                            rw [eqF c29]
                            refine goK hT 9 (K21 111111111 1) ⟨143, [(2, .b false)], [.box 45 (eC45 a0)]⟩ ?_
                            refine cutK [] ⟨143, [(2, .b false)], []⟩ h0 ?_
                            exact Jj5 false H
                      · replace H := iF c25 H
                        refine drawK (hP ▸ mixed) 32 [1] [some (.ptr 0 0 0 2), some (.i a0.Kind), some (.b true), some (.b true), some (.ptr 0 0 0 3), some (.d (eL66 true a0.Pairs)), some (.b false), some (.b false), some (.b false), some (.tup []), some (.tup []), some (.tup []), some (.tup []), some (.tup []), some (.tup []), some (.tup []), some (.tup []), some (.tup []), some (.tup []), some (.tup []), some (.b false), some (.b false), some (.tup []), some (.tup []), some (.tup []), some (.tup []), some (.tup []), some (.tup []), some (.tup []), some (.tup []), some (.tup []), some (.tup [])] (opG (opG (opG (opG (opG (opG (opG (opG (opG (opG (opG (opG (opG (opG (opG (opG (opG (opG (opG (opG (opG (opG (opG (opG (opG (opS (opG (opG (opG (opV (opG (opG op0 hT) hT) hT 103 (.b (a0.Kind == 5)) (.b true) (by rw [eqT c23])) hT) hT) hT) (fun R rest h => ak_callD (avs := [.d (eL66 true a0.Pairs), .i 2, .i 2]) (dst := some 107) hP enters_41 (by have q := spliceref04_pairs.says (t0 := true) a0.Pairs 2 2 h24; rw [boF c25] at q; exact q) (by kernel_rfl) (.cons (pass_d _) (.cons (pass_d _) (.cons (pass_d _) .nil))) (by kernel_rfl) h)) hT) hT) hT) hT) hT) hT) hT) hT) hT) hT) hT) hT) hT) hT) hT) hT) hT) hT) hT) hT) hT) hT) hT) hT) hT) ?_
                        refine goK hT 12 (K21 111111111 1) ⟨143, [(2, .b false)], [.box 45 (eC45 a0)]⟩ ?_
                        refine cutK [] ⟨143, [(2, .b false)], []⟩ h0 ?_
                        exact Jj5 false H
                    · replace H := iF c23 H
                      refine drawK (hP ▸ mixed) 32 [1] [some (.ptr 0 0 0 2), some (.i a0.Kind), some (.b false), some (.b false), some (.tup []), some (.tup []), some (.tup []), some (.b false), some (.b false), some (.tup []), some (.tup []), some (.tup []), some (.tup []), some (.tup []), some (.tup []), some (.tup []), some (.tup []), some (.tup []), some (.tup []), some (.tup []), some (.b false), some (.b false), some (.tup []), some (.tup []), some (.tup []), some (.tup []), some (.tup []), some (.tup []), some (.tup []), some (.tup []), some (.tup []), some (.tup [])] (opG (opG (opG (opG (opG (opG (opG (opG (opG (opG (opG (opG (opG (opG (opG (opG (opG (opG (opG (opG (opG (opG (opG (opG (opG (opG (opG (opG (opG (opV (opG (opG op0 hT) hT) hT 103 (.b (a0.Kind == 5)) (.b false) (by rw [eqF c23])) hT) hT) hT) hT) hT) hT) hT) hT) hT) hT) hT) hT) hT) hT) hT) hT) hT) hT) hT) hT) hT) hT) hT) hT) hT) hT) hT) hT) hT) ?_
                      refine goK hT 12 (K21 111111111 1) ⟨143, [(2, .b false)], [.box 45 (eC45 a0)]⟩ ?_
                      refine cutK [] ⟨143, [(2, .b false)], []⟩ h0 ?_
                      exact Jj5 false H
              · replace H := iF c14 H
                rw [neT c14]
                refine goK hT 5 (K21 111111010 1) ⟨143, [(2, .b false)], [.box 45 (eC45 a0)]⟩ ?_
                obtain rfl := retC H
                exact ak_ret hf hX (av := .b false) (by kernel_rfl) [] (sel_of_eq (by kernel_rfl)) (by decide) (by rw [h0]; rfl) (by kernel_rfl) (fun _ h => all_nil h) (.d (.v _))
        rw [eqF c5]
        refine goK hT 2 (K21 111 1) ⟨143, [(1, .ptr 0 0 0 0)], [.box 45 (eC45 a0)]⟩ ?_
        refine goK hT 8 (K21 111100 5) ⟨143, [(1, .ptr 0 0 0 0), (43, .b (a0.Over.Lo != 0))], [.box 45 (eC45 a0)]⟩ ?_
        by_cases c8 : a0.Over.Lo = 0
        · replace H := iT c8 H
          rw [neF c8]
          refine goK hT 6 (K21 11110 1) ⟨143, [(1, .ptr 0 0 0 0), (48, .b (a0.Over.Hi != 0))], [.box 45 (eC45 a0)]⟩ ?_
          refine cutK [0] ⟨143, [(1, .ptr 0 0 0 0), (48, .b (a0.Over.Hi != 0))], [.box 45 (eC45 a0)]⟩ h0 ?_
          exact Jj3 (a0.Over.Hi != 0) H
        · replace H := iF c8 H
          rw [neT c8]
          refine goK hT 6 (K21 11110 1) ⟨143, [(1, .ptr 0 0 0 0), (48, .b true)], [.box 45 (eC45 a0)]⟩ ?_
          refine cutK [0] ⟨143, [(1, .ptr 0 0 0 0), (48, .b true)], [.box 45 (eC45 a0)]⟩ h0 ?_
          exact Jj3 true H
  refine goK hT 12 (K21 1100 4) ⟨143, [(1, .ptr 0 0 0 0), (7, .b (decide (a0.Client < 1)))], [.box 45 (eC45 a0)]⟩ ?_
  by_cases c1 : a0.Client < 1
  · replace H := iT c1 H
    rw [decide_eq_true c1]
    refine goK hT 15 (K21 110 1) ⟨143, [(1, .ptr 0 0 0 0), (21, .b true)], [.box 45 (eC45 a0)]⟩ ?_
    refine cutK [0] ⟨143, [(1, .ptr 0 0 0 0), (21, .b true)], [.box 45 (eC45 a0)]⟩ h0 ?_
    exact Jj1 true H
  · replace H := iF c1 H
    rw [decide_eq_false c1]
    refine goK hT 5 (K21 1100 9) ⟨143, [(1, .ptr 0 0 0 0), (12, .b (decide (a0.Client > 1048576)))], [.box 45 (eC45 a0)]⟩ ?_
    by_cases c2 : a0.Client > 1048576
    · replace H := iT c2 H
      rw [decide_eq_true c2]
      refine goK hT 10 (K21 110 1) ⟨143, [(1, .ptr 0 0 0 0), (21, .b true)], [.box 45 (eC45 a0)]⟩ ?_
      refine cutK [0] ⟨143, [(1, .ptr 0 0 0 0), (21, .b true)], [.box 45 (eC45 a0)]⟩ h0 ?_
      exact Jj1 true H
    · replace H := iF c2 H
      rw [decide_eq_false c2]
      refine goK hT 5 (K21 1100 14) ⟨143, [(1, .ptr 0 0 0 0), (17, .b (decide (a0.Seq < 1)))], [.box 45 (eC45 a0)]⟩ ?_
      by_cases c3 : a0.Seq < 1
      · replace H := iT c3 H
        rw [decide_eq_true c3]
        refine goK hT 5 (K21 110 1) ⟨143, [(1, .ptr 0 0 0 0), (21, .b true)], [.box 45 (eC45 a0)]⟩ ?_
        refine cutK [0] ⟨143, [(1, .ptr 0 0 0 0), (21, .b true)], [.box 45 (eC45 a0)]⟩ h0 ?_
        exact Jj1 true H
      · replace H := iF c3 H
        rw [decide_eq_false c3]
        refine goK hT 5 (K21 110 1) ⟨143, [(1, .ptr 0 0 0 0), (21, .b (decide (a0.Seq > 1073741824)))], [.box 45 (eC45 a0)]⟩ ?_
        refine cutK [0] ⟨143, [(1, .ptr 0 0 0 0), (21, .b (decide (a0.Seq > 1073741824)))], [.box 45 (eC45 a0)]⟩ h0 ?_
        exact Jj1 (decide (a0.Seq > 1073741824)) H


theorem spliceref05_Same.says {t0 : Bool} {t1 : Bool} (a0 : List spliceref04_Pair) (a1 : List spliceref04_Pair) {r : Bool} (H : spliceref05_Same a0 a1 = some r) : Says Try.prog 10 [] [.d (eL66 t0 a0), .d (eL66 t1 a1)] [] (.b r) := by
  refine says_of Try.func10 rfl (nt := 26) rfl (Nat.le_of_ble_eq_true rfl) fun X hP h0 hX => ?_
  have hT : TabOk X.P T := hP ▸ tok
  have hf : X.P.funcs[10]? = some Try.f10 := hP ▸ Try.func10
  refine goK hT 13 (K10 110 1) ⟨26, [(0, .d (eL66 t0 a0)), (1, .d (eL66 t1 a1)), (10, .b ((a0.length : Int) != (a1.length : Int)))], []⟩ ?_
  by_cases c1 : (a0.length : Int) = (a1.length : Int)
  · replace H := iT c1 H
    rw [neF c1]
    refine goK hT 2 (K10 11 1) ⟨26, [(0, .d (eL66 t0 a0)), (1, .d (eL66 t1 a1))], []⟩ ?_
    refine goK hT 7 (K10 111010 0) ⟨26, [(0, .d (eL66 t0 a0)), (1, .d (eL66 t1 a1)), (5, .i 0)], []⟩ ?_
    have L : ∀ n, (∀ (x1_5 : Int), iter (spliceref05_Same.step a0 a1) n (.l1 x1_5) = some r → AK X 10 ((K10 111010 0)) (Back X [] (.b r)) ⟨26, [(0, .d (eL66 t0 a0)), (1, .d (eL66 t1 a1)), (5, .i x1_5)], []⟩) := by
      intro n
      induction n with
      | zero => exact fun _ H => iter0 H
      | succ n ih =>
        · intro x1_5 H
          refine goK hT 8 (K10 11101000 1) ⟨26, [(0, .d (eL66 t0 a0)), (1, .d (eL66 t1 a1)), (5, .i x1_5), (14, .b (decide (x1_5 < (a0.length : Int))))], []⟩ ?_
          by_cases c2 : x1_5 < (a0.length : Int)
          · replace H := sT c2 H
            rw [decide_eq_true c2]
            refine goK hT 2 (K10 1110100 1) ⟨26, [(0, .d (eL66 t0 a0)), (1, .d (eL66 t1 a1)), (5, .i x1_5)], []⟩ ?_
            refine goK hT 3 (K10 1110100100 0) ⟨26, [(0, .d (eL66 t0 a0)), (1, .d (eL66 t1 a1)), (5, .i x1_5)], []⟩ ?_
            obtain ⟨h3, H⟩ := sC H
            obtain ⟨h4, H⟩ := sC H
            refine drawK (hP ▸ mixed) 9 [0, 1, 5] [some (.d (eL66 t0 a0)), some (.i x1_5), some (.d (eP66 t0 a0 x1_5.toNat 0)), some (.d (eG66 (a0.getD x1_5.toNat spliceref04_Pair.z))), some (.d (eL66 t1 a1)), some (.i x1_5), some (.d (eP66 t1 a1 x1_5.toNat 0)), some (.d (eG66 (a1.getD x1_5.toNat spliceref04_Pair.z))), some (.b (!((((a0.getD x1_5.toNat spliceref04_Pair.z).Key) == ((a1.getD x1_5.toNat spliceref04_Pair.z).Key)) && (((a0.getD x1_5.toNat spliceref04_Pair.z).Val) == ((a1.getD x1_5.toNat spliceref04_Pair.z).Val)))))] (opG (opG (opS (opG (opG (opG (opS (opG (opG op0 hT) hT) (fun R rest h => ak_idx0 hT (i := x1_5) (n := (a0.length : Int)) h3.1 h3.2 (by kernel_rfl) h)) hT) hT) hT) (fun R rest h => ak_idx0 hT (i := x1_5) (n := (a1.length : Int)) h4.1 h4.2 (by kernel_rfl) h)) hT) hT) ?_
            refine goK hT 1 (K10 1110100100 1) ⟨26, [(0, .d (eL66 t0 a0)), (1, .d (eL66 t1 a1)), (5, .i x1_5), (25, .b (!((((a0.getD x1_5.toNat spliceref04_Pair.z).Key) == ((a1.getD x1_5.toNat spliceref04_Pair.z).Key)) && (((a0.getD x1_5.toNat spliceref04_Pair.z).Val) == ((a1.getD x1_5.toNat spliceref04_Pair.z).Val)))))], []⟩ ?_
            by_cases c5 : ((a0.getD x1_5.toNat spliceref04_Pair.z).Key) = ((a1.getD x1_5.toNat spliceref04_Pair.z).Key)
            · replace H := sT c5 H
              rw [eqT c5]
              by_cases c6 : ((a0.getD x1_5.toNat spliceref04_Pair.z).Val) = ((a1.getD x1_5.toNat spliceref04_Pair.z).Val)
              · replace H := sT c6 H
                rw [eqT c6]
                refine goK hT 3 (K10 11101001 1) ⟨26, [(0, .d (eL66 t0 a0)), (1, .d (eL66 t1 a1)), (5, .i x1_5)], []⟩ ?_
                refine goK hT 6 (K10 111010 0) ⟨26, [(0, .d (eL66 t0 a0)), (1, .d (eL66 t1 a1)), (5, .i (IntKind.wrap .i64 (x1_5 + 1)))], []⟩ ?_
                refine cutK [] ⟨26, [(0, .d (eL66 t0 a0)), (1, .d (eL66 t1 a1)), (5, .i (IntKind.wrap .i64 (x1_5 + 1)))], []⟩ h0 ?_
                exact ih (IntKind.wrap .i64 (x1_5 + 1)) H
              · replace H := sF c6 H
                rw [eqF c6]
                refine goK hT 5 (K10 111010010010 1) ⟨26, [(4, .b false)], []⟩ ?_
                obtain rfl := retC H
                exact ak_ret hf hX (av := .b false) (by kernel_rfl) [] (sel_of_eq (by kernel_rfl)) (by decide) (by rw [h0]; rfl) (by kernel_rfl) (fun _ h => all_nil h) (.d (.v _))
            · replace H := sF c5 H
              rw [eqF c5]
              by_cases c7 : ((a0.getD x1_5.toNat spliceref04_Pair.z).Val) = ((a1.getD x1_5.toNat spliceref04_Pair.z).Val)
              · replace H := sT c7 H
                rw [eqT c7]
                refine goK hT 5 (K10 111010010010 1) ⟨26, [(4, .b false)], []⟩ ?_
                obtain rfl := retC H
                exact ak_ret hf hX (av := .b false) (by kernel_rfl) [] (sel_of_eq (by kernel_rfl)) (by decide) (by rw [h0]; rfl) (by kernel_rfl) (fun _ h => all_nil h) (.d (.v _))
              · replace H := sF c7 H
                rw [eqF c7]
                refine goK hT 5 (K10 111010010010 1) ⟨26, [(4, .b false)], []⟩ ?_
                obtain rfl := retC H
                exact ak_ret hf hX (av := .b false) (by kernel_rfl) [] (sel_of_eq (by kernel_rfl)) (by decide) (by rw [h0]; rfl) (by kernel_rfl) (fun _ h => all_nil h) (.d (.v _))
          · replace H := sF c2 H
            rw [decide_eq_false c2]
            refine goK hT 6 (K10 1111 1) ⟨26, [(4, .b true)], []⟩ ?_
            obtain rfl := retC H
            exact ak_ret hf hX (av := .b true) (by kernel_rfl) [] (sel_of_eq (by kernel_rfl)) (by decide) (by rw [h0]; rfl) (by kernel_rfl) (fun _ h => all_nil h) (.d (.v _))
    refine cutK [] ⟨26, [(0, .d (eL66 t0 a0)), (1, .d (eL66 t1 a1)), (5, .i 0)], []⟩ h0 ?_
    obtain ⟨n, H⟩ := loopC H
    exact (L n) 0 H
  · replace H := iF c1 H
    rw [neT c1]
    refine goK hT 5 (K10 11010 1) ⟨26, [(4, .b false)], []⟩ ?_
    obtain rfl := retC H
    exact ak_ret hf hX (av := .b false) (by kernel_rfl) [] (sel_of_eq (by kernel_rfl)) (by decide) (by rw [h0]; rfl) (by kernel_rfl) (fun _ h => all_nil h) (.d (.v _))


theorem splicelaw15_JudgeGoesOn.says {t0 : Bool} (a0 : List api_Entry) (a1 : List api_Span) (a2 : arr2_int) {r : Bool} (H : splicelaw15_JudgeGoesOn a0 a1 a2 = some r) : Says Try.prog 6 [] [.d (eL54 t0 a0), .d (eL40 true a1), .d (eG51 a2)] [] (.b r) := by
  refine says_of Try.func6 rfl (nt := 113) rfl (Nat.le_of_ble_eq_true rfl) fun X hP h0 hX => ?_
  have hT : TabOk X.P T := hP ▸ tok
  have hf : X.P.funcs[6]? = some Try.f6 := hP ▸ Try.func6
  refine goK hT 9 (K6 1100 1) ⟨113, [(0, .d (eL54 t0 a0)), (1, .d (eL40 true a1)), (5, .ptr 0 0 0 0), (12, .d (eL54 t0 a0))], [.box 51 (eC51 a2)]⟩ ?_
  obtain ⟨v1, h1, H⟩ := ibC H
  have Jj1 : ∀ (y1_19 : Bool), (splicelaw15_JudgeGoesOn.j1 a0 a1 a2 y1_19) = some r → AK X 6 ((K6 110 1)) (Back X [] (.b r)) ⟨113, [(0, .d (eL54 t0 a0)), (1, .d (eL40 true a1)), (5, .ptr 0 0 0 0), (19, .b y1_19)], [.box 51 (eC51 a2)]⟩ := by
    intro y1_19 H
    by_cases c3 : y1_19 = true
    · replace H := iT c3 H
      rw [c3]
      refine goK hT 3 (K6 110100 0) ⟨113, [], [.box 51 (eC51 a2)]⟩ ?_
      obtain ⟨v2, h4, H⟩ := ibC H
      refine ak_callP (avs := []) (dst := some 20) (k' := (K6 110100 1)) [20] [] hP enters_9 (splicelaw15_awake.says h4) (by kernel_rfl) (hands_none _) .nil (st' := ⟨113, [(20, .b v2)], [.box 51 (eC51 a2)]⟩) (by kernel_rfl) ?_
      refine goK hT 2 (K6 11010 1) ⟨113, [(6, .b v2)], [.box 51 (eC51 a2)]⟩ ?_
      obtain rfl := retC H
      exact ak_ret hf hX (av := .b v2) (by kernel_rfl) [] (sel_of_eq (by kernel_rfl)) (by decide) (by rw [h0]; rfl) (by kernel_rfl) (fun _ h => all_nil h) (.d (.v _))
    · replace H := iF c3 H
      rw [boF c3]
      refine goK hT 2 (K6 11 1) ⟨113, [(0, .d (eL54 t0 a0)), (1, .d (eL40 true a1)), (5, .ptr 0 0 0 0)], [.box 51 (eC51 a2)]⟩ ?_
      refine goK hT 1 (K6 111 0) ⟨113, [(0, .d (eL54 t0 a0)), (1, .d (eL40 true a1)), (5, .ptr 0 0 0 0)], [.box 51 (eC51 a2)]⟩ ?_
      refine drawK (hP ▸ mixed) 11 [0, 1, 5] [some (.ptr 0 0 0 0), some (.i a2.i0), some (.ptr 0 0 0 1), some (.i a2.i1), some (.i (iMin a2.i0 a2.i1)), some (.ptr 0 0 0 0), some (.i a2.i0), some (.ptr 0 0 0 1), some (.i a2.i1), some (.i (iMax a2.i0 a2.i1)), some (.i (iMin a2.i0 a2.i1))] (opG (opG (opG (opS (opG (opS (opG (opG (opS (opG (opS op0 (fun R rest h => ak_idx0 hT (i := 0) (n := 2) (by decide) (by decide) (by kernel_rfl) h)) hT) (fun R rest h => ak_idx0 hT (i := 1) (n := 2) (by decide) (by decide) (by kernel_rfl) h)) hT) hT) (fun R rest h => ak_idx0 hT (i := 0) (n := 2) (by decide) (by decide) (by kernel_rfl) h)) hT) (fun R rest h => ak_idx0 hT (i := 1) (n := 2) (by decide) (by decide) (by kernel_rfl) h)) hT) hT) hT) ?_
      refine goK hT 13 (K6 11111010 0) ⟨113, [(0, .d (eL54 t0 a0)), (1, .d (eL40 true a1)), (7, .i (iMin a2.i0 a2.i1)), (8, .i (iMax a2.i0 a2.i1)), (9, .ns), (10, .i 0)], [.box 51 (eC51 a2)]⟩ ?_
      refine ak_nilS [0, 1, 7, 8, 9, 10] 9 7 42 (vec api_Mut.e api_Mut.z []) (st' := ⟨113, [(0, .d (eL54 t0 a0)), (1, .d (eL40 true a1)), (7, .i (iMin a2.i0 a2.i1)), (8, .i (iMax a2.i0 a2.i1)), (9, .own 1 7 0 0), (10, .i 0)], [.box 51 (eC51 a2), eR42 ([] : List api_Mut)]⟩) (by kernel_rfl) (by kernel_rfl) ?_
      have L : ∀ n, (∀ (x1_10 : Int) (x1_r0 : List api_Mut), iter (splicelaw15_JudgeGoesOn.step a0 a1 a2) n (.l1 x1_10 x1_r0) = some r → AK X 6 ((K6 11111010 0)) (Back X [] (.b r)) ⟨113, [(0, .d (eL54 t0 a0)), (1, .d (eL40 true a1)), (7, .i (iMin a2.i0 a2.i1)), (8, .i (iMax a2.i0 a2.i1)), (9, .own 0 7 0 x1_r0.length), (10, .i x1_10)], [eR42 x1_r0]⟩) := by
        intro n
        induction n with
        | zero => exact fun _ _ H => iter0 H
        | succ n ih =>
          · intro x1_10 x1_r0 H
            refine goK hT 8 (K6 1111101000 1) ⟨113, [(0, .d (eL54 t0 a0)), (1, .d (eL40 true a1)), (7, .i (iMin a2.i0 a2.i1)), (8, .i (iMax a2.i0 a2.i1)), (9, .own 0 7 0 x1_r0.length), (10, .i x1_10), (34, .b (decide (x1_10 < (a0.length : Int))))], [eR42 x1_r0]⟩ ?_
            by_cases c5 : x1_10 < (a0.length : Int)
            · replace H := sT c5 H
              rw [decide_eq_true c5]
              refine goK hT 2 (K6 111110100 1) ⟨113, [(0, .d (eL54 t0 a0)), (1, .d (eL40 true a1)), (7, .i (iMin a2.i0 a2.i1)), (8, .i (iMax a2.i0 a2.i1)), (9, .own 0 7 0 x1_r0.length), (10, .i x1_10)], [eR42 x1_r0]⟩ ?_
              refine goK hT 4 (K6 1111101001000 0) ⟨113, [(0, .d (eL54 t0 a0)), (1, .d (eL40 true a1)), (7, .i (iMin a2.i0 a2.i1)), (8, .i (iMax a2.i0 a2.i1)), (9, .own 0 7 0 x1_r0.length), (10, .i x1_10)], [eR42 x1_r0]⟩ ?_
              obtain ⟨h14, H⟩ := sC H
              obtain ⟨v10, h15, H⟩ := sbC H
              obtain ⟨v11, h16, H⟩ := sbC H
              have Jj3 : ∀ (y3_62 : Bool), stk (splicelaw15_JudgeGoesOn.j3 a0 a2 x1_10 x1_r0 y3_62) (iter (splicelaw15_JudgeGoesOn.step a0 a1 a2) n) = some r → AK X 6 ((K6 1111101001000 1)) (Back X [] (.b r)) ⟨113, [(0, .d (eL54 t0 a0)), (1, .d (eL40 true a1)), (7, .i (iMin a2.i0 a2.i1)), (8, .i (iMax a2.i0 a2.i1)), (9, .own 0 7 0 x1_r0.length), (10, .i x1_10), (62, .b y3_62)], [eR42 x1_r0]⟩ := by
                intro y3_62 H
                by_cases c20 : y3_62 = true
                · replace H := sT c20 H
                  rw [c20]
                  refine goK hT 3 (K6 1111101001000100 0) ⟨113, [], [eR42 x1_r0]⟩ ?_
                  obtain ⟨v12, h21, H⟩ := sbC H
                  refine ak_callP (avs := []) (dst := some 63) (k' := (K6 1111101001000100 1)) [63] [] hP enters_9 (splicelaw15_awake.says h21) (by kernel_rfl) (hands_none _) .nil (st' := ⟨113, [(63, .b v12)], [eR42 x1_r0]⟩) (by kernel_rfl) ?_
                  refine goK hT 2 (K6 111110100100010 1) ⟨113, [(6, .b v12)], [eR42 x1_r0]⟩ ?_
                  obtain rfl := retC H
                  exact ak_ret hf hX (av := .b v12) (by kernel_rfl) [] (sel_of_eq (by kernel_rfl)) (by decide) (by rw [h0]; rfl) (by kernel_rfl) (fun _ h => all_nil h) (.d (.v _))
                · replace H := sF c20 H
                  have Jj4 : ∀ (y4_86 : Bool), stk (splicelaw15_JudgeGoesOn.j4 a0 x1_10 x1_r0 y4_86) (iter (splicelaw15_JudgeGoesOn.step a0 a1 a2) n) = some r → AK X 6 ((K6 1111101001001 1)) (Back X [] (.b r)) ⟨113, [(0, .d (eL54 t0 a0)), (1, .d (eL40 true a1)), (7, .i (iMin a2.i0 a2.i1)), (8, .i (iMax a2.i0 a2.i1)), (9, .own 0 7 0 x1_r0.length), (10, .i x1_10), (86, .b y4_86)], [eR42 x1_r0]⟩ := by
                    intro y4_86 H
                    have Jj5 : ∀ (y5_r0 : List api_Mut), stk (splicelaw15_JudgeGoesOn.j5 x1_10 y5_r0) (iter (splicelaw15_JudgeGoesOn.step a0 a1 a2) n) = some r → AK X 6 ((K6 1111101001 1)) (Back X [] (.b r)) ⟨113, [(0, .d (eL54 t0 a0)), (1, .d (eL40 true a1)), (7, .i (iMin a2.i0 a2.i1)), (8, .i (iMax a2.i0 a2.i1)), (9, .own 0 7 0 y5_r0.length), (10, .i x1_10)], [eR42 y5_r0]⟩ := by
                      intro y5_r0 H
                      refine goK hT 6 (K6 11111010 0) ⟨113, [(0, .d (eL54 t0 a0)), (1, .d (eL40 true a1)), (7, .i (iMin a2.i0 a2.i1)), (8, .i (iMax a2.i0 a2.i1)), (9, .own 0 7 0 y5_r0.length), (10, .i (IntKind.wrap .i64 (x1_10 + 1)))], [eR42 y5_r0]⟩ ?_
                      refine cutK [0] ⟨113, [(0, .d (eL54 t0 a0)), (1, .d (eL40 true a1)), (7, .i (iMin a2.i0 a2.i1)), (8, .i (iMax a2.i0 a2.i1)), (9, .own 0 7 0 y5_r0.length), (10, .i (IntKind.wrap .i64 (x1_10 + 1)))], [eR42 y5_r0]⟩ h0 ?_
                      exact ih (IntKind.wrap .i64 (x1_10 + 1)) y5_r0 H
                    by_cases c24 : y4_86 = true
                    · replace H := sT c24 H
                      rw [c24]
                      refine goK hT 5 (K6 111110100100110 3) ⟨113, [(0, .d (eL54 t0 a0)), (1, .d (eL40 true a1)), (7, .i (iMin a2.i0 a2.i1)), (8, .i (iMax a2.i0 a2.i1)), (10, .i x1_10), (87, .own 0 7 0 x1_r0.length), (88, .d (eL54 t0 a0)), (89, .i x1_10)], [eR42 x1_r0]⟩ ?_
                      refine ak_idx hT [0, 1, 7, 8, 10, 87, 90] (i := x1_10) (n := (a0.length : Int)) h14.1 h14.2 (k' := (K6 111110100100110 4)) (st' := ⟨113, [(0, .d (eL54 t0 a0)), (1, .d (eL40 true a1)), (7, .i (iMin a2.i0 a2.i1)), (8, .i (iMax a2.i0 a2.i1)), (10, .i x1_10), (87, .own 0 7 0 x1_r0.length), (90, .d (eP54 t0 a0 x1_10.toNat 0))], [eR42 x1_r0]⟩) (by kernel_rfl) ?_
                      refine goK hT 3 (K6 111110100100110 7) ⟨113, [(0, .d (eL54 t0 a0)), (1, .d (eL40 true a1)), (7, .i (iMin a2.i0 a2.i1)), (8, .i (iMax a2.i0 a2.i1)), (10, .i x1_10), (87, .own 0 7 0 x1_r0.length), (93, .own 1 7 0 1)], [eR42 x1_r0, .flat false 7 42 1 (fun j => [api_Mut.e ((a0.getD x1_10.toNat api_Entry.z).M)].getD j [])]⟩ ?_
                      obtain ⟨h25, H⟩ := sC H
                      refine ak_append1 (id := 0) (kk := 7) (by' := 72) (t := 37) (e := 42) (z := [.int .i64 0, .int .i64 0, .int .i64 0, .slice none 0 0, .int .i64 0, .int .i64 0, .int .i64 0]) (dst := some 94) (id2 := 1) (e2 := 42) (fz := false) (k' := (K6 111110100100110 8)) hT api_Mut.e api_Mut.z x1_r0 ((a0.getD x1_10.toNat api_Entry.z).M) [0, 1, 7, 8, 10, 94] (by kernel_rfl) (by kernel_rfl) (by kernel_rfl) (by kernel_rfl) (by kernel_rfl) (by kernel_rfl) (by kernel_rfl) h25 (by omega) (st' := ⟨113, [(0, .d (eL54 t0 a0)), (1, .d (eL40 true a1)), (7, .i (iMin a2.i0 a2.i1)), (8, .i (iMax a2.i0 a2.i1)), (10, .i x1_10), (94, .own 2 7 0 ((x1_r0 ++ [(a0.getD x1_10.toNat api_Entry.z).M]).length))], [.gone, .flat false 7 42 1 (fun j => [api_Mut.e ((a0.getD x1_10.toNat api_Entry.z).M)].getD j []), eR42 (x1_r0 ++ [(a0.getD x1_10.toNat api_Entry.z).M])]⟩) (by kernel_rfl) ?_
                      refine goK hT 3 (K6 1111101001 1) ⟨113, [(0, .d (eL54 t0 a0)), (1, .d (eL40 true a1)), (7, .i (iMin a2.i0 a2.i1)), (8, .i (iMax a2.i0 a2.i1)), (9, .own 2 7 0 ((x1_r0 ++ [(a0.getD x1_10.toNat api_Entry.z).M]).length)), (10, .i x1_10)], [.gone, .flat false 7 42 1 (fun j => [api_Mut.e ((a0.getD x1_10.toNat api_Entry.z).M)].getD j []), eR42 (x1_r0 ++ [(a0.getD x1_10.toNat api_Entry.z).M])]⟩ ?_
                      refine cutK [2] ⟨113, [(0, .d (eL54 t0 a0)), (1, .d (eL40 true a1)), (7, .i (iMin a2.i0 a2.i1)), (8, .i (iMax a2.i0 a2.i1)), (9, .own 0 7 0 (x1_r0 ++ [(a0.getD x1_10.toNat api_Entry.z).M]).length), (10, .i x1_10)], [eR42 (x1_r0 ++ [(a0.getD x1_10.toNat api_Entry.z).M])]⟩ h0 ?_
                      exact Jj5 (x1_r0 ++ [(a0.getD x1_10.toNat api_Entry.z).M]) H
                    · replace H := sF c24 H
                      rw [boF c24]
                      refine goK hT 3 (K6 1111101001 1) ⟨113, [(0, .d (eL54 t0 a0)), (1, .d (eL40 true a1)), (7, .i (iMin a2.i0 a2.i1)), (8, .i (iMax a2.i0 a2.i1)), (9, .own 0 7 0 x1_r0.length), (10, .i x1_10)], [eR42 x1_r0]⟩ ?_
                      refine cutK [0] ⟨113, [(0, .d (eL54 t0 a0)), (1, .d (eL40 true a1)), (7, .i (iMin a2.i0 a2.i1)), (8, .i (iMax a2.i0 a2.i1)), (9, .own 0 7 0 x1_r0.length), (10, .i x1_10)], [eR42 x1_r0]⟩ h0 ?_
                      exact Jj5 x1_r0 H
                  rw [boF c20]
                  refine goK hT 2 (K6 111110100100 1) ⟨113, [(0, .d (eL54 t0 a0)), (1, .d (eL40 true a1)), (7, .i (iMin a2.i0 a2.i1)), (8, .i (iMax a2.i0 a2.i1)), (9, .own 0 7 0 x1_r0.length), (10, .i x1_10)], [eR42 x1_r0]⟩ ?_
                  refine goK hT 4 (K6 11111010010010 2) ⟨113, [(0, .d (eL54 t0 a0)), (1, .d (eL40 true a1)), (7, .i (iMin a2.i0 a2.i1)), (8, .i (iMax a2.i0 a2.i1)), (9, .own 0 7 0 x1_r0.length), (10, .i x1_10), (64, .d (eL54 t0 a0)), (65, .i x1_10)], [eR42 x1_r0]⟩ ?_
                  refine ak_idx hT [0, 1, 7, 8, 9, 10, 66] (i := x1_10) (n := (a0.length : Int)) h14.1 h14.2 (k' := (K6 11111010010010 3)) (st' := ⟨113, [(0, .d (eL54 t0 a0)), (1, .d (eL40 true a1)), (7, .i (iMin a2.i0 a2.i1)), (8, .i (iMax a2.i0 a2.i1)), (9, .own 0 7 0 x1_r0.length), (10, .i x1_10), (66, .d (eP54 t0 a0 x1_10.toNat 0))], [eR42 x1_r0]⟩) (by kernel_rfl) ?_
                  refine goK hT 3 (K6 11111010010010 6) ⟨113, [(0, .d (eL54 t0 a0)), (1, .d (eL40 true a1)), (7, .i (iMin a2.i0 a2.i1)), (8, .i (iMax a2.i0 a2.i1)), (9, .own 0 7 0 x1_r0.length), (10, .i x1_10), (69, .b ((a0.getD x1_10.toNat api_Entry.z).Done))], [eR42 x1_r0]⟩ ?_
                  by_cases c22 : ((a0.getD x1_10.toNat api_Entry.z).Done) = true
                  · replace H := sT c22 H
                    rw [c22]
                    refine goK hT 2 (K6 11111010010010 8) ⟨113, [(0, .d (eL54 t0 a0)), (1, .d (eL40 true a1)), (7, .i (iMin a2.i0 a2.i1)), (8, .i (iMax a2.i0 a2.i1)), (9, .own 0 7 0 x1_r0.length), (10, .i x1_10), (69, .b true), (70, .d (eL54 t0 a0)), (71, .i x1_10)], [eR42 x1_r0]⟩ ?_
                    refine ak_idx hT [0, 1, 7, 8, 9, 10, 69, 72] (i := x1_10) (n := (a0.length : Int)) h14.1 h14.2 (k' := (K6 11111010010010 9)) (st' := ⟨113, [(0, .d (eL54 t0 a0)), (1, .d (eL40 true a1)), (7, .i (iMin a2.i0 a2.i1)), (8, .i (iMax a2.i0 a2.i1)), (9, .own 0 7 0 x1_r0.length), (10, .i x1_10), (69, .b true), (72, .d (eP54 t0 a0 x1_10.toNat 0))], [eR42 x1_r0]⟩) (by kernel_rfl) ?_
                    refine goK hT 6 (K6 11111010010010 15) ⟨113, [(0, .d (eL54 t0 a0)), (1, .d (eL40 true a1)), (7, .i (iMin a2.i0 a2.i1)), (8, .i (iMax a2.i0 a2.i1)), (9, .own 0 7 0 x1_r0.length), (10, .i x1_10), (78, .b (decide (((a0.getD x1_10.toNat api_Entry.z).Time) > (iMin a2.i0 a2.i1))))], [eR42 x1_r0]⟩ ?_
                    by_cases c23 : ((a0.getD x1_10.toNat api_Entry.z).Time) > (iMin a2.i0 a2.i1)
                    · replace H := sT c23 H
                      rw [decide_eq_true c23]
                      refine goK hT 2 (K6 11111010010010 17) ⟨113, [(0, .d (eL54 t0 a0)), (1, .d (eL40 true a1)), (7, .i (iMin a2.i0 a2.i1)), (8, .i (iMax a2.i0 a2.i1)), (9, .own 0 7 0 x1_r0.length), (10, .i x1_10), (78, .b true), (79, .d (eL54 t0 a0)), (80, .i x1_10)], [eR42 x1_r0]⟩ ?_
                      refine ak_idx hT [0, 1, 7, 8, 9, 10, 78, 81] (i := x1_10) (n := (a0.length : Int)) h14.1 h14.2 (k' := (K6 11111010010010 18)) (st' := ⟨113, [(0, .d (eL54 t0 a0)), (1, .d (eL40 true a1)), (7, .i (iMin a2.i0 a2.i1)), (8, .i (iMax a2.i0 a2.i1)), (9, .own 0 7 0 x1_r0.length), (10, .i x1_10), (78, .b true), (81, .d (eP54 t0 a0 x1_10.toNat 0))], [eR42 x1_r0]⟩) (by kernel_rfl) ?_
                      refine goK hT 6 (K6 1111101001001 1) ⟨113, [(0, .d (eL54 t0 a0)), (1, .d (eL40 true a1)), (7, .i (iMin a2.i0 a2.i1)), (8, .i (iMax a2.i0 a2.i1)), (9, .own 0 7 0 x1_r0.length), (10, .i x1_10), (86, .b (decide (((a0.getD x1_10.toNat api_Entry.z).Time) ≤ (iMax a2.i0 a2.i1))))], [eR42 x1_r0]⟩ ?_
                      refine cutK [0] ⟨113, [(0, .d (eL54 t0 a0)), (1, .d (eL40 true a1)), (7, .i (iMin a2.i0 a2.i1)), (8, .i (iMax a2.i0 a2.i1)), (9, .own 0 7 0 x1_r0.length), (10, .i x1_10), (86, .b (decide (((a0.getD x1_10.toNat api_Entry.z).Time) ≤ (iMax a2.i0 a2.i1))))], [eR42 x1_r0]⟩ h0 ?_
                      exact Jj4 (decide (((a0.getD x1_10.toNat api_Entry.z).Time) ≤ (iMax a2.i0 a2.i1))) H
                    · replace H := sF c23 H
                      rw [decide_eq_false c23]
                      refine goK hT 9 (K6 1111101001001 1) ⟨113, [(0, .d (eL54 t0 a0)), (1, .d (eL40 true a1)), (7, .i (iMin a2.i0 a2.i1)), (8, .i (iMax a2.i0 a2.i1)), (9, .own 0 7 0 x1_r0.length), (10, .i x1_10), (86, .b false)], [eR42 x1_r0]⟩ ?_
                      refine cutK [0] ⟨113, [(0, .d (eL54 t0 a0)), (1, .d (eL40 true a1)), (7, .i (iMin a2.i0 a2.i1)), (8, .i (iMax a2.i0 a2.i1)), (9, .own 0 7 0 x1_r0.length), (10, .i x1_10), (86, .b false)], [eR42 x1_r0]⟩ h0 ?_
                      exact Jj4 false H
                  · replace H := sF c22 H
                    rw [boF c22]
                    refine goK hT 18 (K6 1111101001001 1) ⟨113, [(0, .d (eL54 t0 a0)), (1, .d (eL40 true a1)), (7, .i (iMin a2.i0 a2.i1)), (8, .i (iMax a2.i0 a2.i1)), (9, .own 0 7 0 x1_r0.length), (10, .i x1_10), (86, .b false)], [eR42 x1_r0]⟩ ?_
                    refine cutK [0] ⟨113, [(0, .d (eL54 t0 a0)), (1, .d (eL40 true a1)), (7, .i (iMin a2.i0 a2.i1)), (8, .i (iMax a2.i0 a2.i1)), (9, .own 0 7 0 x1_r0.length), (10, .i x1_10), (86, .b false)], [eR42 x1_r0]⟩ h0 ?_
                    exact Jj4 false H
              by_cases c17 : v11 = true
              · replace H := sT c17 H
                by_cases c18 : x1_10 > 0
                · replace H := sT c18 H
                  obtain ⟨h19, H⟩ := sC H
                  refine drawK (hP ▸ mixed) 26 [0, 1, 7, 8, 9, 10] [some (.d (eL54 t0 a0)), some (.i x1_10), some (.d (eP54 t0 a0 x1_10.toNat 0)), some (.d (eP54 t0 a0 x1_10.toNat 0)), some (.d (eG42 ((a0.getD x1_10.toNat api_Entry.z).M))), some (.d (eG45 v10)), some (.b true), some (.b false), some (.b false), some (.i x1_10), some (.b true), some (.b true), some (.d (eL54 t0 a0)), some (.i x1_10), some (.d (eP54 t0 a0 x1_10.toNat 0)), some (.d (eP54 t0 a0 x1_10.toNat 7)), some (.i ((a0.getD x1_10.toNat api_Entry.z).Time)), some (.d (eL54 t0 a0)), some (.i x1_10), some (.i (IntKind.wrap .i64 (x1_10 - 1))), some (.d (eP54 t0 a0 ((IntKind.wrap .i64 (x1_10 - 1)).toNat) 0)), some (.d (eP54 t0 a0 ((IntKind.wrap .i64 (x1_10 - 1)).toNat) 7)), some (.i ((a0.getD ((IntKind.wrap .i64 (x1_10 - 1)).toNat) api_Entry.z).Time)), some (.b (decide (((a0.getD x1_10.toNat api_Entry.z).Time) < ((a0.getD ((IntKind.wrap .i64 (x1_10 - 1)).toNat) api_Entry.z).Time)))), some (.b (decide (((a0.getD x1_10.toNat api_Entry.z).Time) < ((a0.getD ((IntKind.wrap .i64 (x1_10 - 1)).toNat) api_Entry.z).Time)))), some (.b (decide (((a0.getD x1_10.toNat api_Entry.z).Time) < ((a0.getD ((IntKind.wrap .i64 (x1_10 - 1)).toNat) api_Entry.z).Time))))] (opG (opG (opG (opG (opG (opS (opG (opG (opG (opG (opG (opS (opG (opG (opG (opV (opG (opG (opG (opS (opS (opG (opG (opS (opG (opG op0 hT) hT) (fun R rest h => ak_idx0 hT (i := x1_10) (n := (a0.length : Int)) h14.1 h14.2 (by kernel_rfl) h)) hT) hT) (fun R rest h => ak_callD (avs := [.d (eG42 ((a0.getD x1_10.toNat api_Entry.z).M))]) (dst := some 42) hP enters_16 (splicelaw04_Ref.says ((a0.getD x1_10.toNat api_Entry.z).M) h15) (by kernel_rfl) (.cons (pass_d _) .nil) (by kernel_rfl) h)) (fun R rest h => ak_callD (avs := [.d (eG45 v10)]) (dst := some 43) hP enters_21 (by have q := spliceref04_Check.says v10 h16; rw [c17] at q; exact q) (by kernel_rfl) (.cons (pass_d _) .nil) (by kernel_rfl) h)) hT) hT) hT) hT 47 (.b (decide (x1_10 > 0))) (.b true) (by rw [decide_eq_true c18])) hT) hT) hT) (fun R rest h => ak_idx0 hT (i := x1_10) (n := (a0.length : Int)) h14.1 h14.2 (by kernel_rfl) h)) hT) hT) hT) hT) hT) (fun R rest h => ak_idx0 hT (i := IntKind.wrap .i64 (x1_10 - 1)) (n := (a0.length : Int)) h19.1 h19.2 (by kernel_rfl) h)) hT) hT) hT) hT) hT) ?_
                  refine goK hT 1 (K6 1111101001000 1) ⟨113, [(0, .d (eL54 t0 a0)), (1, .d (eL40 true a1)), (7, .i (iMin a2.i0 a2.i1)), (8, .i (iMax a2.i0 a2.i1)), (9, .own 0 7 0 x1_r0.length), (10, .i x1_10), (62, .b (decide (((a0.getD x1_10.toNat api_Entry.z).Time) < ((a0.getD ((IntKind.wrap .i64 (x1_10 - 1)).toNat) api_Entry.z).Time))))], [eR42 x1_r0]⟩ ?_
                  refine cutK [0] ⟨113, [(0, .d (eL54 t0 a0)), (1, .d (eL40 true a1)), (7, .i (iMin a2.i0 a2.i1)), (8, .i (iMax a2.i0 a2.i1)), (9, .own 0 7 0 x1_r0.length), (10, .i x1_10), (62, .b (decide (((a0.getD x1_10.toNat api_Entry.z).Time) < ((a0.getD ((IntKind.wrap .i64 (x1_10 - 1)).toNat) api_Entry.z).Time))))], [eR42 x1_r0]⟩ h0 ?_
                  exact Jj3 (decide (((a0.getD x1_10.toNat api_Entry.z).Time) < ((a0.getD ((IntKind.wrap .i64 (x1_10 - 1)).toNat) api_Entry.z).Time))) H
                · replace H := sF c18 H
                  refine drawK (hP ▸ mixed) 26 [0, 1, 7, 8, 9, 10] [some (.d (eL54 t0 a0)), some (.i x1_10), some (.d (eP54 t0 a0 x1_10.toNat 0)), some (.d (eP54 t0 a0 x1_10.toNat 0)), some (.d (eG42 ((a0.getD x1_10.toNat api_Entry.z).M))), some (.d (eG45 v10)), some (.b true), some (.b false), some (.b false), some (.i x1_10), some (.b false), some (.b false), some (.tup []), some (.tup []), some (.tup []), some (.tup []), some (.tup []), some (.tup []), some (.tup []), some (.tup []), some (.tup []), some (.tup []), some (.tup []), some (.tup []), some (.b false), some (.b false)] (opG (opG (opG (opG (opG (opG (opG (opG (opG (opG (opG (opG (opG (opG (opG (opV (opG (opG (opG (opS (opS (opG (opG (opS (opG (opG op0 hT) hT) (fun R rest h => ak_idx0 hT (i := x1_10) (n := (a0.length : Int)) h14.1 h14.2 (by kernel_rfl) h)) hT) hT) (fun R rest h => ak_callD (avs := [.d (eG42 ((a0.getD x1_10.toNat api_Entry.z).M))]) (dst := some 42) hP enters_16 (splicelaw04_Ref.says ((a0.getD x1_10.toNat api_Entry.z).M) h15) (by kernel_rfl) (.cons (pass_d _) .nil) (by kernel_rfl) h)) (fun R rest h => ak_callD (avs := [.d (eG45 v10)]) (dst := some 43) hP enters_21 (by have q := spliceref04_Check.says v10 h16; rw [c17] at q; exact q) (by kernel_rfl) (.cons (pass_d _) .nil) (by kernel_rfl) h)) hT) hT) hT) hT 47 (.b (decide (x1_10 > 0))) (.b false) (by rw [decide_eq_false c18])) hT) hT) hT) hT) hT) hT) hT) hT) hT) hT) hT) hT) hT) hT) hT) ?_
                  refine goK hT 1 (K6 1111101001000 1) ⟨113, [(0, .d (eL54 t0 a0)), (1, .d (eL40 true a1)), (7, .i (iMin a2.i0 a2.i1)), (8, .i (iMax a2.i0 a2.i1)), (9, .own 0 7 0 x1_r0.length), (10, .i x1_10), (62, .b false)], [eR42 x1_r0]⟩ ?_
                  refine cutK [0] ⟨113, [(0, .d (eL54 t0 a0)), (1, .d (eL40 true a1)), (7, .i (iMin a2.i0 a2.i1)), (8, .i (iMax a2.i0 a2.i1)), (9, .own 0 7 0 x1_r0.length), (10, .i x1_10), (62, .b false)], [eR42 x1_r0]⟩ h0 ?_
                  exact Jj3 false H
              · replace H := sF c17 H
                refine drawK (hP ▸ mixed) 26 [0, 1, 7, 8, 9, 10] [some (.d (eL54 t0 a0)), some (.i x1_10), some (.d (eP54 t0 a0 x1_10.toNat 0)), some (.d (eP54 t0 a0 x1_10.toNat 0)), some (.d (eG42 ((a0.getD x1_10.toNat api_Entry.z).M))), some (.d (eG45 v10)), some (.b false), some (.b true), some (.b true), some (.tup []), some (.tup []), some (.tup []), some (.tup []), some (.tup []), some (.tup []), some (.tup []), some (.tup []), some (.tup []), some (.tup []), some (.tup []), some (.tup []), some (.tup []), some (.tup []), some (.tup []), some (.tup []), some (.b true)] (opG (opG (opG (opG (opG (opG (opG (opG (opG (opG (opG (opG (opG (opG (opG (opG (opG (opG (opG (opS (opS (opG (opG (opS (opG (opG op0 hT) hT) (fun R rest h => ak_idx0 hT (i := x1_10) (n := (a0.length : Int)) h14.1 h14.2 (by kernel_rfl) h)) hT) hT) (fun R rest h => ak_callD (avs := [.d (eG42 ((a0.getD x1_10.toNat api_Entry.z).M))]) (dst := some 42) hP enters_16 (splicelaw04_Ref.says ((a0.getD x1_10.toNat api_Entry.z).M) h15) (by kernel_rfl) (.cons (pass_d _) .nil) (by kernel_rfl) h)) (fun R rest h => ak_callD (avs := [.d (eG45 v10)]) (dst := some 43) hP enters_21 (by have q := spliceref04_Check.says v10 h16; rw [boF c17] at q; exact q) (by kernel_rfl) (.cons (pass_d _) .nil) (by kernel_rfl) h)) hT) hT) hT) hT) hT) hT) hT) hT) hT) hT) hT) hT) hT) hT) hT) hT) hT) hT) hT) ?_
                refine goK hT 1 (K6 1111101001000 1) ⟨113, [(0, .d (eL54 t0 a0)), (1, .d (eL40 true a1)), (7, .i (iMin a2.i0 a2.i1)), (8, .i (iMax a2.i0 a2.i1)), (9, .own 0 7 0 x1_r0.length), (10, .i x1_10), (62, .b true)], [eR42 x1_r0]⟩ ?_
                refine cutK [0] ⟨113, [(0, .d (eL54 t0 a0)), (1, .d (eL40 true a1)), (7, .i (iMin a2.i0 a2.i1)), (8, .i (iMax a2.i0 a2.i1)), (9, .own 0 7 0 x1_r0.length), (10, .i x1_10), (62, .b true)], [eR42 x1_r0]⟩ h0 ?_
                exact Jj3 true H
            · replace H := sF c5 H
              rw [decide_eq_false c5]
              refine goK hT 7 (K6 1111110 3) ⟨113, [(0, .d (eL54 t0 a0)), (1, .d (eL40 true a1)), (8, .i (iMax a2.i0 a2.i1)), (9, .own 0 7 0 x1_r0.length), (95, .d (eL54 t0 a0)), (96, .d (eL40 true a1)), (97, .i (iMin a2.i0 a2.i1))], [eR42 x1_r0]⟩ ?_
              obtain ⟨v3, h6, H⟩ := sbC H
              refine ak_callP (avs := [.d (eL54 t0 a0), .d (eL40 true a1), .i (iMin a2.i0 a2.i1)]) (dst := some 98) (k' := (K6 1111110 4)) [0, 1, 8, 9, 98] [] hP enters_12 (judge_Fold.says (t0 := t0) a0 a1 (iMin a2.i0 a2.i1) h6) (by kernel_rfl) (hands_none _) (.cons (pass_d _) (.cons (pass_d _) (.cons (pass_d _) .nil))) (st' := ⟨113, [(0, .d (eL54 t0 a0)), (1, .d (eL40 true a1)), (8, .i (iMax a2.i0 a2.i1)), (9, .own 0 7 0 x1_r0.length), (98, .own 1 2 0 v3.length)], [eR42 x1_r0, eR65 v3]⟩) (by kernel_rfl) ?_
              refine goK hT 2 (K6 1111110 6) ⟨113, [(0, .d (eL54 t0 a0)), (1, .d (eL40 true a1)), (8, .i (iMax a2.i0 a2.i1)), (98, .own 1 2 0 v3.length), (99, .own 0 7 0 x1_r0.length), (100, .d (eL40 true a1))], [eR42 x1_r0, eR65 v3]⟩ ?_
              obtain ⟨v4, h7, H⟩ := sbC H
              refine ak_callP (avs := [.own 1 2 0 v3.length, .own 0 7 0 x1_r0.length, .d (eL40 true a1)]) (dst := some 101) (k' := (K6 1111110 7)) [0, 1, 8, 101] [] hP enters_17 (judge_Onto.says (t0 := false) (t1 := false) v3 x1_r0 a1 h7) (by kernel_rfl) (hands_none _) (.cons (.lend (ty := 65) (by kernel_rfl) rfl) (.cons (.lend (ty := 42) (by kernel_rfl) rfl) (.cons (pass_d _) .nil))) (st' := ⟨113, [(0, .d (eL54 t0 a0)), (1, .d (eL40 true a1)), (8, .i (iMax a2.i0 a2.i1)), (101, .own 2 2 0 v4.length)], [eR42 x1_r0, eR65 v3, eR65 v4]⟩) (by kernel_rfl) ?_
              refine goK hT 4 (K6 11111110 0) ⟨113, [(0, .d (eL54 t0 a0)), (1, .d (eL40 true a1)), (8, .i (iMax a2.i0 a2.i1)), (11, .own 2 2 0 v4.length)], [eR42 x1_r0, eR65 v3, eR65 v4]⟩ ?_
              obtain ⟨v5, h8, H⟩ := sbC H
              have Jj2 : ∀ (y2_6 : Bool), stk (splicelaw15_JudgeGoesOn.j2 y2_6) (iter (splicelaw15_JudgeGoesOn.step a0 a1 a2) n) = some r → AK X 6 ((K6 1111111 1)) (Back X [] (.b r)) ⟨113, [(6, .b y2_6)], []⟩ := by
                intro y2_6 H
                obtain rfl := retC H
                exact ak_ret hf hX (av := .b y2_6) (by kernel_rfl) [] (sel_of_eq (by kernel_rfl)) (by decide) (by rw [h0]; rfl) (by kernel_rfl) (fun _ h => all_nil h) (.d (.v _))
              refine ak_callP (avs := []) (dst := some 102) (k' := (K6 11111110 1)) [0, 1, 8, 11, 102] [] hP enters_9 (splicelaw15_awake.says h8) (by kernel_rfl) (hands_none _) .nil (st' := ⟨113, [(0, .d (eL54 t0 a0)), (1, .d (eL40 true a1)), (8, .i (iMax a2.i0 a2.i1)), (11, .own 2 2 0 v4.length), (102, .b v5)], [eR42 x1_r0, eR65 v3, eR65 v4]⟩) (by kernel_rfl) ?_
              refine goK hT 1 (K6 11111110 2) ⟨113, [(0, .d (eL54 t0 a0)), (1, .d (eL40 true a1)), (8, .i (iMax a2.i0 a2.i1)), (11, .own 2 2 0 v4.length), (103, .b v5)], [eR42 x1_r0, eR65 v3, eR65 v4]⟩ ?_
              by_cases c9 : v5 = true
              · replace H := sT c9 H
                rw [c9]
                refine goK hT 1 (K6 11111110 3) ⟨113, [(0, .d (eL54 t0 a0)), (1, .d (eL40 true a1)), (8, .i (iMax a2.i0 a2.i1)), (103, .b true), (104, .own 2 2 0 v4.length)], [eR42 x1_r0, eR65 v3, eR65 v4]⟩ ?_
                obtain ⟨v6, h10, H⟩ := sbC H
                refine ak_callP (avs := [.own 2 2 0 v4.length]) (dst := some 105) (k' := (K6 11111110 4)) [0, 1, 8, 103, 105] [] hP enters_11 (splicelaw05_Refs.says (t0 := false) v4 h10) (by kernel_rfl) (hands_none _) (.cons (.lend (ty := 65) (by kernel_rfl) rfl) .nil) (st' := ⟨113, [(0, .d (eL54 t0 a0)), (1, .d (eL40 true a1)), (8, .i (iMax a2.i0 a2.i1)), (103, .b true), (105, .own 3 2 0 v6.length)], [eR42 x1_r0, eR65 v3, eR65 v4, eR66 v6]⟩) (by kernel_rfl) ?_
                refine goK hT 3 (K6 11111110 7) ⟨113, [(103, .b true), (105, .own 3 2 0 v6.length), (106, .d (eL54 t0 a0)), (107, .d (eL40 true a1)), (108, .i (iMax a2.i0 a2.i1))], [eR42 x1_r0, eR65 v3, eR65 v4, eR66 v6]⟩ ?_
                obtain ⟨v7, h11, H⟩ := sbC H
                refine ak_callP (avs := [.d (eL54 t0 a0), .d (eL40 true a1), .i (iMax a2.i0 a2.i1)]) (dst := some 109) (k' := (K6 11111110 8)) [103, 105, 109] [] hP enters_12 (judge_Fold.says (t0 := t0) a0 a1 (iMax a2.i0 a2.i1) h11) (by kernel_rfl) (hands_none _) (.cons (pass_d _) (.cons (pass_d _) (.cons (pass_d _) .nil))) (st' := ⟨113, [(103, .b true), (105, .own 3 2 0 v6.length), (109, .own 4 2 0 v7.length)], [eR42 x1_r0, eR65 v3, eR65 v4, eR66 v6, eR65 v7]⟩) (by kernel_rfl) ?_
                obtain ⟨v8, h12, H⟩ := sbC H
                refine ak_callP (avs := [.own 4 2 0 v7.length]) (dst := some 110) (k' := (K6 11111110 9)) [103, 105, 110] [] hP enters_11 (splicelaw05_Refs.says (t0 := false) v7 h12) (by kernel_rfl) (hands_none _) (.cons (.lend (ty := 65) (by kernel_rfl) rfl) .nil) (st' := ⟨113, [(103, .b true), (105, .own 3 2 0 v6.length), (110, .own 5 2 0 v8.length)], [eR42 x1_r0, eR65 v3, eR65 v4, eR66 v6, eR65 v7, eR66 v8]⟩) (by kernel_rfl) ?_
                obtain ⟨v9, h13, H⟩ := sbC H
                refine ak_callP (avs := [.own 3 2 0 v6.length, .own 5 2 0 v8.length]) (dst := some 111) (k' := (K6 11111110 10)) [103, 111] [] hP enters_10 (spliceref05_Same.says (t0 := false) (t1 := false) v6 v8 h13) (by kernel_rfl) (hands_none _) (.cons (.lend (ty := 66) (by kernel_rfl) rfl) (.cons (.lend (ty := 66) (by kernel_rfl) rfl) .nil)) (st' := ⟨113, [(103, .b true), (111, .b v9)], [eR42 x1_r0, eR65 v3, eR65 v4, eR66 v6, eR65 v7, eR66 v8]⟩) (by kernel_rfl) ?_
                refine goK hT 3 (K6 1111111 1) ⟨113, [(6, .b v9)], [eR42 x1_r0, eR65 v3, eR65 v4, eR66 v6, eR65 v7, eR66 v8]⟩ ?_
                refine cutK [] ⟨113, [(6, .b v9)], []⟩ h0 ?_
                exact Jj2 v9 H
              · replace H := sF c9 H
                rw [boF c9]
                refine goK hT 11 (K6 1111111 1) ⟨113, [(6, .b false)], [eR42 x1_r0, eR65 v3, eR65 v4]⟩ ?_
                refine cutK [] ⟨113, [(6, .b false)], []⟩ h0 ?_
                exact Jj2 false H
      refine cutK [1] ⟨113, [(0, .d (eL54 t0 a0)), (1, .d (eL40 true a1)), (7, .i (iMin a2.i0 a2.i1)), (8, .i (iMax a2.i0 a2.i1)), (9, .own 0 7 0 ([] : List api_Mut).length), (10, .i 0)], [eR42 ([] : List api_Mut)]⟩ h0 ?_
      obtain ⟨n, H⟩ := loopC H
      exact (L n) 0 ([] : List api_Mut) H
  refine ak_callP (avs := [.d (eL54 t0 a0)]) (dst := some 13) (k' := (K6 1100 2)) [0, 1, 5, 13] [] hP enters_8 (splicelaw15_fewEntries.says (t0 := t0) a0 h1) (by kernel_rfl) (hands_none _) (.cons (pass_d _) .nil) (st' := ⟨113, [(0, .d (eL54 t0 a0)), (1, .d (eL40 true a1)), (5, .ptr 0 0 0 0), (13, .b v1)], [.box 51 (eC51 a2)]⟩) (by kernel_rfl) ?_
  refine goK hT 2 (K6 1100 4) ⟨113, [(0, .d (eL54 t0 a0)), (1, .d (eL40 true a1)), (5, .ptr 0 0 0 0), (15, .b (!v1))], [.box 51 (eC51 a2)]⟩ ?_
  by_cases c2 : v1 = true
  · replace H := iT c2 H
    rw [c2]
    refine goK hT 5 (K6 110 1) ⟨113, [(0, .d (eL54 t0 a0)), (1, .d (eL40 true a1)), (5, .ptr 0 0 0 0), (19, .b (decide ((a1.length : Int) > 100)))], [.box 51 (eC51 a2)]⟩ ?_
    refine cutK [0] ⟨113, [(0, .d (eL54 t0 a0)), (1, .d (eL40 true a1)), (5, .ptr 0 0 0 0), (19, .b (decide ((a1.length : Int) > 100)))], [.box 51 (eC51 a2)]⟩ h0 ?_
    exact Jj1 (decide ((a1.length : Int) > 100)) H
  · replace H := iF c2 H
    rw [boF c2]
    refine goK hT 5 (K6 110 1) ⟨113, [(0, .d (eL54 t0 a0)), (1, .d (eL40 true a1)), (5, .ptr 0 0 0 0), (19, .b true)], [.box 51 (eC51 a2)]⟩ ?_
    refine cutK [0] ⟨113, [(0, .d (eL54 t0 a0)), (1, .d (eL40 true a1)), (5, .ptr 0 0 0 0), (19, .b true)], [.box 51 (eC51 a2)]⟩ h0 ?_
    exact Jj1 true H
end Go.SyP
