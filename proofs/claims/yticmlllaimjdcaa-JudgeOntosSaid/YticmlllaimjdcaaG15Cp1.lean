/- Certificates, printed by gen.py. -/
import Derived.Test.YticmlllaimjdcaaG15Cp0
set_option linter.unusedVariables false
set_option linter.unusedSimpArgs false
namespace Go.SyP
open Go Go.Sy Go.Proofs


theorem spliceref04_Check.says (a0 : spliceref04_Mut) {r : Bool} (H : spliceref04_Check a0 = some r) : Says Try.prog 21 [] [.d (eG45 a0)] [] (.b r) := by
  refine says_of Try.func21 rfl (nt := 143) rfl (Nat.le_of_ble_eq_true rfl) fun X hP h0 hX => ?_
  have hT : TabOk X.P T := hP ▸ tok
  have hf : X.P.funcs[21]? = some Try.f21 := hP ▸ Try.func21
  have Jj1 : ∀ (y1_21 : Bool), (spliceref04_Check.j1 a0 y1_21) = some r → AK X 21 ((K21 110 1)) (Back X [] (.b r)) ⟨143, [(1, .ptr 0 0 0 0), (21, .b y1_21)], [.box 45 (eC45 a0)]⟩ := by
    intro y1_21 H
    by_cases c4 : y1_21 = true
    · replace H := iT c4 H
      rw [c4]
      refine goK hT 5 (K21 11010 1) ⟨143, [(2, .b false)], [.box 45 (eC45 a0)]⟩ ?_
      obtain rfl := retC H
      exact ak_ret hf hX (av := .b false) (by kernel_rfl) [] (sel_of_eq (by kernel_rfl)) (by decide) (by rw [h0]; rfl) (by kernel_rfl) (fun _ h => all_nil h) (.d (.v _))
    · replace H := iF c4 H
      rw [boF c4]
      refine goK hT 2 (K21 11 1) ⟨143, [(1, .ptr 0 0 0 0)], [.box 45 (eC45 a0)]⟩ ?_
      refine goK hT 7 (K21 1110 1) ⟨143, [(1, .ptr 0 0 0 0), (24, .b (a0.Kind == 2))], [.box 45 (eC45 a0)]⟩ ?_
      by_cases c5 : a0.Kind = 2
      · replace H := iT c5 H
        have Jj2 : ∀ (y2_2 : Bool), (spliceref04_Check.j2 y2_2) = some r → AK X 21 ((K21 111010 1)) (Back X [] (.b r)) ⟨143, [(2, .b y2_2)], []⟩ := by
          intro y2_2 H
          obtain rfl := retC H
          exact ak_ret hf hX (av := .b y2_2) (by kernel_rfl) [] (sel_of_eq (by kernel_rfl)) (by decide) (by rw [h0]; rfl) (by kernel_rfl) (fun _ h => all_nil h) (.d (.v _))
        rw [eqT c5]
        refine goK hT 8 (K21 1110100 5) ⟨143, [(1, .ptr 0 0 0 0), (29, .b ((a0.Pairs.length : Int) == 0))], [.box 45 (eC45 a0)]⟩ ?_
        by_cases c6 : (a0.Pairs.length : Int) = 0
        · replace H := iT c6 H
          rw [eqT c6]
          refine goK hT 5 (K21 1110100 10) ⟨143, [(1, .ptr 0 0 0 0), (34, .b (a0.Old == 0))], [.box 45 (eC45 a0)]⟩ ?_
          by_cases c7 : a0.Old = 0
          · replace H := iT c7 H
            rw [eqT c7]
            refine goK hT 2 (K21 1110100 12) ⟨143, [(34, .b true), (36, .d (eG43 a0.Over))], [.box 45 (eC45 a0)]⟩ ?_
            refine ak_callP (avs := [.d (eG43 a0.Over)]) (dst := some 37) (k' := (K21 1110100 13)) [34, 37] [] hP enters_40 (spliceref03_One.says a0.Over) (by kernel_rfl) (hands_none _) (.cons (pass_d _) .nil) (st' := ⟨143, [(34, .b true), (37, .b (spliceref03_One a0.Over))], [.box 45 (eC45 a0)]⟩) (by kernel_rfl) ?_
            refine goK hT 3 (K21 111010 1) ⟨143, [(2, .b (spliceref03_One a0.Over))], [.box 45 (eC45 a0)]⟩ ?_
            refine cutK [] ⟨143, [(2, .b (spliceref03_One a0.Over))], []⟩ h0 ?_
            exact Jj2 (spliceref03_One a0.Over) H
          · replace H := iF c7 H
            rw [eqF c7]
            refine goK hT 6 (K21 111010 1) ⟨143, [(2, .b false)], [.box 45 (eC45 a0)]⟩ ?_
            refine cutK [] ⟨143, [(2, .b false)], []⟩ h0 ?_
            exact Jj2 false H
        · replace H := iF c6 H
          rw [eqF c6]
          refine goK hT 11 (K21 111010 1) ⟨143, [(2, .b false)], [.box 45 (eC45 a0)]⟩ ?_
          refine cutK [] ⟨143, [(2, .b false)], []⟩ h0 ?_
          exact Jj2 false H
      · replace H := iF c5 H
        have Jj3 : ∀ (y3_48 : Bool), (spliceref04_Check.j3 a0 y3_48) = some r → AK X 21 ((K21 11110 1)) (Back X [] (.b r)) ⟨143, [(1, .ptr 0 0 0 0), (48, .b y3_48)], [.box 45 (eC45 a0)]⟩ := by
          intro y3_48 H
          by_cases c9 : y3_48 = true
          · replace H := iT c9 H
            rw [c9]
            refine goK hT 5 (K21 1111010 1) ⟨143, [(2, .b false)], [.box 45 (eC45 a0)]⟩ ?_
            obtain rfl := retC H
            exact ak_ret hf hX (av := .b false) (by kernel_rfl) [] (sel_of_eq (by kernel_rfl)) (by decide) (by rw [h0]; rfl) (by kernel_rfl) (fun _ h => all_nil h) (.d (.v _))
          · replace H := iF c9 H
            rw [boF c9]
            refine goK hT 2 (K21 1111 1) ⟨143, [(1, .ptr 0 0 0 0)], [.box 45 (eC45 a0)]⟩ ?_
            refine goK hT 7 (K21 111110 1) ⟨143, [(1, .ptr 0 0 0 0), (51, .b (a0.Kind == 4))], [.box 45 (eC45 a0)]⟩ ?_
            by_cases c10 : a0.Kind = 4
            · replace H := iT c10 H
              rw [eqT c10]
              refine goK hT 5 (K21 111110100 2) ⟨143, [(1, .ptr 0 0 0 0), (53, .d (eL66 true a0.Pairs))], [.box 45 (eC45 a0)]⟩ ?_
              obtain ⟨v1, h11, H⟩ := ibC H
              have Jj4 : ∀ (y4_2 : Bool), (spliceref04_Check.j4 y4_2) = some r → AK X 21 ((K21 11111010 1)) (Back X [] (.b r)) ⟨143, [(2, .b y4_2)], []⟩ := by
                intro y4_2 H
                obtain rfl := retC H
                exact ak_ret hf hX (av := .b y4_2) (by kernel_rfl) [] (sel_of_eq (by kernel_rfl)) (by decide) (by rw [h0]; rfl) (by kernel_rfl) (fun _ h => all_nil h) (.d (.v _))
              refine ak_callP (avs := [.d (eL66 true a0.Pairs), .i 1, .i 1]) (dst := some 54) (k' := (K21 111110100 3)) [1, 54] [] hP enters_41 (spliceref04_pairs.says (t0 := true) a0.Pairs 1 1 h11) (by kernel_rfl) (hands_none _) (.cons (pass_d _) (.cons (pass_d _) (.cons (pass_d _) .nil))) (st' := ⟨143, [(1, .ptr 0 0 0 0), (54, .b v1)], [.box 45 (eC45 a0)]⟩) (by kernel_rfl) ?_
              refine goK hT 1 (K21 111110100 4) ⟨143, [(1, .ptr 0 0 0 0), (55, .b v1)], [.box 45 (eC45 a0)]⟩ ?_
              by_cases c12 : v1 = true
              · replace H := iT c12 H
                rw [c12]
                refine goK hT 2 (K21 111110100 6) ⟨143, [(1, .ptr 0 0 0 0), (55, .b true), (57, .i a0.Old)], [.box 45 (eC45 a0)]⟩ ?_
                refine ak_callP (avs := [.i a0.Old]) (dst := some 58) (k' := (K21 111110100 7)) [1, 55, 58] [] hP enters_42 (spliceref04_value.says a0.Old) (by kernel_rfl) (hands_none _) (.cons (pass_d _) .nil) (st' := ⟨143, [(1, .ptr 0 0 0 0), (55, .b true), (58, .b (spliceref04_value a0.Old))], [.box 45 (eC45 a0)]⟩) (by kernel_rfl) ?_
                refine goK hT 1 (K21 111110100 8) ⟨143, [(1, .ptr 0 0 0 0), (55, .b true), (59, .b (spliceref04_value a0.Old))], [.box 45 (eC45 a0)]⟩ ?_
                by_cases c13 : (spliceref04_value a0.Old) = true
                · replace H := iT c13 H
                  rw [c13]
                  refine goK hT 7 (K21 11111010 1) ⟨143, [(2, .b true)], [.box 45 (eC45 a0)]⟩ ?_
                  refine cutK [] ⟨143, [(2, .b true)], []⟩ h0 ?_
                  exact Jj4 true H
                · replace H := iF c13 H
                  rw [boF c13]
                  refine goK hT 7 (K21 11111010 1) ⟨143, [(2, .b (a0.Old == 1099511627777))], [.box 45 (eC45 a0)]⟩ ?_
                  refine cutK [] ⟨143, [(2, .b (a0.Old == 1099511627777))], []⟩ h0 ?_
                  exact Jj4 (a0.Old == 1099511627777) H
              · replace H := iF c12 H
                rw [boF c12]
                refine goK hT 11 (K21 11111010 1) ⟨143, [(2, .b false)], [.box 45 (eC45 a0)]⟩ ?_
                refine cutK [] ⟨143, [(2, .b false)], []⟩ h0 ?_
                exact Jj4 false H
            · replace H := iF c10 H
              rw [eqF c10]
              refine goK hT 2 (K21 11111 1) ⟨143, [(1, .ptr 0 0 0 0)], [.box 45 (eC45 a0)]⟩ ?_
              refine goK hT 7 (K21 1111110 1) ⟨143, [(1, .ptr 0 0 0 0), (67, .b (a0.Old != 0))], [.box 45 (eC45 a0)]⟩ ?_
              by_cases c14 : a0.Old = 0
              · replace H := iT c14 H
                rw [neF c14]
                refine goK hT 2 (K21 111111 1) ⟨143, [(1, .ptr 0 0 0 0)], [.box 45 (eC45 a0)]⟩ ?_
                refine goK hT 7 (K21 11111110 1) ⟨143, [(1, .ptr 0 0 0 0), (70, .b (a0.Kind == 1))], [.box 45 (eC45 a0)]⟩ ?_
                by_cases c15 : a0.Kind = 1
                · replace H := iT c15 H
                  rw [eqT c15]
                  refine goK hT 8 (K21 1111111010010 0) ⟨143, [(1, .ptr 0 0 0 0), (3, .i 1)], [.box 45 (eC45 a0)]⟩ ?_
                  have L : ∀ n, (∀ (x1_3 : Int), iter (spliceref04_Check.step a0) n (.l1 x1_3) = some r → AK X 21 ((K21 1111111010010 0)) (Back X [] (.b r)) ⟨143, [(1, .ptr 0 0 0 0), (3, .i x1_3)], [.box 45 (eC45 a0)]⟩) := by
                    intro n
                    induction n with
                    | zero => exact fun _ H => iter0 H
                    | succ n ih =>
                      · intro x1_3 H
                        refine goK hT 9 (K21 111111101001000 1) ⟨143, [(1, .ptr 0 0 0 0), (3, .i x1_3), (75, .b (decide (x1_3 < (a0.Pairs.length : Int))))], [.box 45 (eC45 a0)]⟩ ?_
                        by_cases c16 : x1_3 < (a0.Pairs.length : Int)
                        · replace H := sT c16 H
                          rw [decide_eq_true c16]
                          refine goK hT 2 (K21 11111110100100 1) ⟨143, [(1, .ptr 0 0 0 0), (3, .i x1_3)], [.box 45 (eC45 a0)]⟩ ?_
                          refine goK hT 3 (K21 11111110100100100 0) ⟨143, [(1, .ptr 0 0 0 0), (3, .i x1_3)], [.box 45 (eC45 a0)]⟩ ?_
                          obtain ⟨h18, H⟩ := sC H
                          obtain ⟨h19, H⟩ := sC H
                          refine drawK (hP ▸ mixed) 14 [1, 3] [some (.ptr 0 0 0 3), some (.d (eL66 true a0.Pairs)), some (.i x1_3), some (.i (IntKind.wrap .i64 (x1_3 - 1))), some (.d (eP66 true a0.Pairs ((IntKind.wrap .i64 (x1_3 - 1)).toNat) 0)), some (.d (eP66 true a0.Pairs ((IntKind.wrap .i64 (x1_3 - 1)).toNat) 0)), some (.i ((a0.Pairs.getD ((IntKind.wrap .i64 (x1_3 - 1)).toNat) spliceref04_Pair.z).Key)), some (.ptr 0 0 0 3), some (.d (eL66 true a0.Pairs)), some (.i x1_3), some (.d (eP66 true a0.Pairs x1_3.toNat 0)), some (.d (eP66 true a0.Pairs x1_3.toNat 0)), some (.i ((a0.Pairs.getD x1_3.toNat spliceref04_Pair.z).Key)), some (.b (decide (((a0.Pairs.getD ((IntKind.wrap .i64 (x1_3 - 1)).toNat) spliceref04_Pair.z).Key) ≥ ((a0.Pairs.getD x1_3.toNat spliceref04_Pair.z).Key))))] (opG (opG (opG (opS (opG (opG (opG (opG (opG (opS (opG (opG (opG (opG op0 hT) hT) hT) hT) (fun R rest h => ak_idx0 hT (i := IntKind.wrap .i64 (x1_3 - 1)) (n := (a0.Pairs.length : Int)) h18.1 h18.2 (by kernel_rfl) h)) hT) hT) hT) hT) hT) (fun R rest h => ak_idx0 hT (i := x1_3) (n := (a0.Pairs.length : Int)) h19.1 h19.2 (by kernel_rfl) h)) hT) hT) hT) ?_
                          refine goK hT 1 (K21 11111110100100100 1) ⟨143, [(1, .ptr 0 0 0 0), (3, .i x1_3), (91, .b (decide (((a0.Pairs.getD ((IntKind.wrap .i64 (x1_3 - 1)).toNat) spliceref04_Pair.z).Key) ≥ ((a0.Pairs.getD x1_3.toNat spliceref04_Pair.z).Key))))], [.box 45 (eC45 a0)]⟩ ?_
                          by_cases c20 : ((a0.Pairs.getD ((IntKind.wrap .i64 (x1_3 - 1)).toNat) spliceref04_Pair.z).Key) ≥ ((a0.Pairs.getD x1_3.toNat spliceref04_Pair.z).Key)
                          · replace H := sT c20 H
                            rw [decide_eq_true c20]
                            refine goK hT 5 (K21 1111111010010010010 1) ⟨143, [(2, .b false)], [.box 45 (eC45 a0)]⟩ ?_
                            obtain rfl := retC H
                            exact ak_ret hf hX (av := .b false) (by kernel_rfl) [] (sel_of_eq (by kernel_rfl)) (by decide) (by rw [h0]; rfl) (by kernel_rfl) (fun _ h => all_nil h) (.d (.v _))
                          · replace H := sF c20 H
                            rw [decide_eq_false c20]
                            refine goK hT 3 (K21 111111101001001 1) ⟨143, [(1, .ptr 0 0 0 0), (3, .i x1_3)], [.box 45 (eC45 a0)]⟩ ?_
                            refine goK hT 6 (K21 1111111010010 0) ⟨143, [(1, .ptr 0 0 0 0), (3, .i (IntKind.wrap .i64 (x1_3 + 1)))], [.box 45 (eC45 a0)]⟩ ?_
                            refine cutK [0] ⟨143, [(1, .ptr 0 0 0 0), (3, .i (IntKind.wrap .i64 (x1_3 + 1)))], [.box 45 (eC45 a0)]⟩ h0 ?_
                            exact ih (IntKind.wrap .i64 (x1_3 + 1)) H
                        · replace H := sF c16 H
                          rw [decide_eq_false c16]
                          refine goK hT 6 (K21 111111101010 2) ⟨143, [(93, .d (eL66 true a0.Pairs))], [.box 45 (eC45 a0)]⟩ ?_
                          obtain ⟨v2, h17, H⟩ := sbC H
                          refine ak_callP (avs := [.d (eL66 true a0.Pairs), .i 1, .i 8]) (dst := some 94) (k' := (K21 111111101010 3)) [94] [] hP enters_41 (spliceref04_pairs.says (t0 := true) a0.Pairs 1 8 h17) (by kernel_rfl) (hands_none _) (.cons (pass_d _) (.cons (pass_d _) (.cons (pass_d _) .nil))) (st' := ⟨143, [(94, .b v2)], [.box 45 (eC45 a0)]⟩) (by kernel_rfl) ?_
                          refine goK hT 2 (K21 11111110101 1) ⟨143, [(2, .b v2)], [.box 45 (eC45 a0)]⟩ ?_
                          obtain rfl := retC H
                          exact ak_ret hf hX (av := .b v2) (by kernel_rfl) [] (sel_of_eq (by kernel_rfl)) (by decide) (by rw [h0]; rfl) (by kernel_rfl) (fun _ h => all_nil h) (.d (.v _))
                  refine cutK [0] ⟨143, [(1, .ptr 0 0 0 0), (3, .i 1)], [.box 45 (eC45 a0)]⟩ h0 ?_
                  obtain ⟨n, H⟩ := loopC H
                  exact (L n) 1 H
                · replace H := iF c15 H
                  rw [eqF c15]
                  refine goK hT 2 (K21 1111111 1) ⟨143, [(1, .ptr 0 0 0 0)], [.box 45 (eC45 a0)]⟩ ?_
                  refine goK hT 7 (K21 111111110 1) ⟨143, [(1, .ptr 0 0 0 0), (97, .b (a0.Kind == 3))], [.box 45 (eC45 a0)]⟩ ?_
                  by_cases c21 : a0.Kind = 3
                  · replace H := iT c21 H
                    rw [eqT c21]
                    refine goK hT 5 (K21 111111110100 2) ⟨143, [(99, .d (eL66 true a0.Pairs))], [.box 45 (eC45 a0)]⟩ ?_
                    obtain ⟨v3, h22, H⟩ := ibC H
                    refine ak_callP (avs := [.d (eL66 true a0.Pairs), .i 1, .i 1]) (dst := some 100) (k' := (K21 111111110100 3)) [100] [] hP enters_41 (spliceref04_pairs.says (t0 := true) a0.Pairs 1 1 h22) (by kernel_rfl) (hands_none _) (.cons (pass_d _) (.cons (pass_d _) (.cons (pass_d _) .nil))) (st' := ⟨143, [(100, .b v3)], [.box 45 (eC45 a0)]⟩) (by kernel_rfl) ?_
                    refine goK hT 2 (K21 11111111010 1) ⟨143, [(2, .b v3)], [.box 45 (eC45 a0)]⟩ ?_
                    obtain rfl := retC H
                    exact ak_ret hf hX (av := .b v3) (by kernel_rfl) [] (sel_of_eq (by kernel_rfl)) (by decide) (by rw [h0]; rfl) (by kernel_rfl) (fun _ h => all_nil h) (.d (.v _))
                  · replace H := iF c21 H
                    have Jj5 : ∀ (y5_2 : Bool), (spliceref04_Check.j5 y5_2) = some r → AK X 21 ((K21 111111111 1)) (Back X [] (.b r)) ⟨143, [(2, .b y5_2)], []⟩ := by
                      intro y5_2 H
                      obtain rfl := retC H
                      exact ak_ret hf hX (av := .b y5_2) (by kernel_rfl) [] (sel_of_eq (by kernel_rfl)) (by decide) (by rw [h0]; rfl) (by kernel_rfl) (fun _ h => all_nil h) (.d (.v _))
                    rw [eqF c21]
                    refine goK hT 2 (K21 11111111 1) ⟨143, [(1, .ptr 0 0 0 0)], [.box 45 (eC45 a0)]⟩ ?_
                    refine goK hT 1 (K21 111111111 0) ⟨143, [(1, .ptr 0 0 0 0)], [.box 45 (eC45 a0)]⟩ ?_
                    by_cases c23 : a0.Kind = 5
                    · replace H := iT c23 H
                      obtain ⟨v4, h24, H⟩ := ibC H
                      by_cases c25 : v4 = true
                      · replace H := iT c25 H
                        obtain ⟨h26, H⟩ := iC H
                        obtain ⟨h27, H⟩ := iC H
                        by_cases c28 : ((a0.Pairs.getD 0 spliceref04_Pair.z).Key) = ((a0.Pairs.getD 1 spliceref04_Pair.z).Key)
                        · replace H := iT c28 H
                          refine drawK (hP ▸ mixed) 32 [1] [some (.ptr 0 0 0 2), some (.i a0.Kind), some (.b true), some (.b true), some (.ptr 0 0 0 3), some (.d (eL66 true a0.Pairs)), some (.b true), some (.b true), some (.b true), some (.ptr 0 0 0 3), some (.d (eL66 true a0.Pairs)), some (.d (eP66 true a0.Pairs 0 0)), some (.d (eP66 true a0.Pairs 0 0)), some (.i ((a0.Pairs.getD 0 spliceref04_Pair.z).Key)), some (.ptr 0 0 0 3), some (.d (eL66 true a0.Pairs)), some (.d (eP66 true a0.Pairs 1 0)), some (.d (eP66 true a0.Pairs 1 0)), some (.i ((a0.Pairs.getD 1 spliceref04_Pair.z).Key)), some (.b false), some (.b false), some (.b false), some (.tup []), some (.tup []), some (.tup []), some (.tup []), some (.tup []), some (.tup []), some (.tup []), some (.tup []), some (.tup []), some (.tup [])] (opG (opG (opG (opG (opG (opG (opG (opG (opG (opG (opG (opG (opV (opG (opG (opS (opG (opG (opG (opG (opS (opG (opG (opG (opG (opS (opG (opG (opG (opV (opG (opG op0 hT) hT) hT 103 (.b (a0.Kind == 5)) (.b true) (by rw [eqT c23])) hT) hT) hT) (fun R rest h => ak_callD (avs := [.d (eL66 true a0.Pairs), .i 2, .i 2]) (dst := some 107) hP enters_41 (by have q := spliceref04_pairs.says (t0 := true) a0.Pairs 2 2 h24; rw [c25] at q; exact q) (by kernel_rfl) (.cons (pass_d _) (.cons (pass_d _) (.cons (pass_d _) .nil))) (by kernel_rfl) h)) hT) hT) hT) hT) (fun R rest h => ak_idx0 hT (i := 0) (n := (a0.Pairs.length : Int)) h26.1 h26.2 (by kernel_rfl) h)) hT) hT) hT) hT) (fun R rest h => ak_idx0 hT (i := 1) (n := (a0.Pairs.length : Int)) h27.1 h27.2 (by kernel_rfl) h)) hT) hT) hT 120 (.b (((a0.Pairs.getD 0 spliceref04_Pair.z).Key) != ((a0.Pairs.getD 1 spliceref04_Pair.z).Key))) (.b false) (by rw [neF c28])) hT) hT) hT) hT) hT) hT) hT) hT) hT) hT) hT) hT) ?_
                          refine goK hT 12 (K21 111111111 1) ⟨143, [(2, .b false)], [.box 45 (eC45 a0)]⟩ ?_
                          refine cutK [] ⟨143, [(2, .b false)], []⟩ h0 ?_
                          exact Jj5 false H
                        · replace H := iF c28 H
                          refine drawK (hP ▸ mixed) 32 [1] [some (.ptr 0 0 0 2), some (.i a0.Kind), some (.b true), some (.b true), some (.ptr 0 0 0 3), some (.d (eL66 true a0.Pairs)), some (.b true), some (.b true), some (.b true), some (.ptr 0 0 0 3), some (.d (eL66 true a0.Pairs)), some (.d (eP66 true a0.Pairs 0 0)), some (.d (eP66 true a0.Pairs 0 0)), some (.i ((a0.Pairs.getD 0 spliceref04_Pair.z).Key)), some (.ptr 0 0 0 3), some (.d (eL66 true a0.Pairs)), some (.d (eP66 true a0.Pairs 1 0)), some (.d (eP66 true a0.Pairs 1 0)), some (.i ((a0.Pairs.getD 1 spliceref04_Pair.z).Key)), some (.b true), some (.b true), some (.b true), some (.ptr 0 0 0 3), some (.d (eL66 true a0.Pairs)), some (.d (eP66 true a0.Pairs 0 0)), some (.d (eP66 true a0.Pairs 0 1)), some (.i ((a0.Pairs.getD 0 spliceref04_Pair.z).Val)), some (.ptr 0 0 0 3), some (.d (eL66 true a0.Pairs)), some (.d (eP66 true a0.Pairs 1 0)), some (.d (eP66 true a0.Pairs 1 1)), some (.i ((a0.Pairs.getD 1 spliceref04_Pair.z).Val))] (opG (opG (opS (opG (opG (opG (opG (opS (opG (opG (opG (opG (opV (opG (opG (opS (opG (opG (opG (opG (opS (opG (opG (opG (opG (opS (opG (opG (opG (opV (opG (opG op0 hT) hT) hT 103 (.b (a0.Kind == 5)) (.b true) (by rw [eqT c23])) hT) hT) hT) (fun R rest h => ak_callD (avs := [.d (eL66 true a0.Pairs), .i 2, .i 2]) (dst := some 107) hP enters_41 (by have q := spliceref04_pairs.says (t0 := true) a0.Pairs 2 2 h24; rw [c25] at q; exact q) (by kernel_rfl) (.cons (pass_d _) (.cons (pass_d _) (.cons (pass_d _) .nil))) (by kernel_rfl) h)) hT) hT) hT) hT) (fun R rest h => ak_idx0 hT (i := 0) (n := (a0.Pairs.length : Int)) h26.1 h26.2 (by kernel_rfl) h)) hT) hT) hT) hT) (fun R rest h => ak_idx0 hT (i := 1) (n := (a0.Pairs.length : Int)) h27.1 h27.2 (by kernel_rfl) h)) hT) hT) hT 120 (.b (((a0.Pairs.getD 0 spliceref04_Pair.z).Key) != ((a0.Pairs.getD 1 spliceref04_Pair.z).Key))) (.b true) (by rw [neT c28])) hT) hT) hT) hT) (fun R rest h => ak_idx0 hT (i := 0) (n := (a0.Pairs.length : Int)) h26.1 h26.2 (by kernel_rfl) h)) hT) hT) hT) hT) (fun R rest h => ak_idx0 hT (i := 1) (n := (a0.Pairs.length : Int)) h27.1 h27.2 (by kernel_rfl) h)) hT) hT) ?_
                          refine goK hT 3 (K21 1111111110 35) ⟨143, [(1, .ptr 0 0 0 0), (135, .b (((a0.Pairs.getD 0 spliceref04_Pair.z).Val) == ((a0.Pairs.getD 1 spliceref04_Pair.z).Val)))], [.box 45 (eC45 a0)]⟩ ?_
                          by_cases c29 : ((a0.Pairs.getD 0 spliceref04_Pair.z).Val) = ((a0.Pairs.getD 1 spliceref04_Pair.z).Val)
                          · replace H := iT c29 H
                            rw [eqT c29]
                            refine goK hT 2 (K21 1111111110 37) ⟨143, [(135, .b true), (137, .d (eL66 true a0.Pairs))], [.box 45 (eC45 a0)]⟩ ?_
                            refine ak_idx hT [135, 138] (i := 0) (n := (a0.Pairs.length : Int)) h26.1 h26.2 (k' := (K21 1111111110 38)) (st' := ⟨143, [(135, .b true), (138, .d (eP66 true a0.Pairs 0 0))], [.box 45 (eC45 a0)]⟩) (by kernel_rfl) ?_
                            refine goK hT 6 (K21 111111111 1) ⟨143, [(2, .b (decide (((a0.Pairs.getD 0 spliceref04_Pair.z).Val) ≥ 0)))], [.box 45 (eC45 a0)]⟩ ?_
                            refine cutK [] ⟨143, [(2, .b (decide (((a0.Pairs.getD 0 spliceref04_Pair.z).Val) ≥ 0)))], []⟩ h0 ?_
                            exact Jj5 (decide (((a0.Pairs.getD 0 spliceref04_Pair.z).Val) ≥ 0)) H
                          · replace H := iF c29 H
                            rw [eqF c29]
                            refine goK hT 9 (K21 111111111 1) ⟨143, [(2, .b false)], [.box 45 (eC45 a0)]⟩ ?_
                            refine cutK [] ⟨143, [(2, .b false)], []⟩ h0 ?_
                            exact Jj5 false H
                      · replace H := iF c25 H
                        refine drawK (hP ▸ mixed) 32 [1] [some (.ptr 0 0 0 2), some (.i a0.Kind), some (.b true), some (.b true), some (.ptr 0 0 0 3), some (.d (eL66 true a0.Pairs)), some (.b false), some (.b false), some (.b false), some (.tup []), some (.tup []), some (.tup []), some (.tup []), some (.tup []), some (.tup []), some (.tup []), some (.tup []), some (.tup []), some (.tup []), some (.tup []), some (.b false), some (.b false), some (.tup []), some (.tup []), some (.tup []), some (.tup []), some (.tup []), some (.tup []), some (.tup []), some (.tup []), some (.tup []), some (.tup [])] (opG (opG (opG (opG (opG (opG (opG (opG (opG (opG (opG (opG (opG (opG (opG (opG (opG (opG (opG (opG (opG (opG (opG (opG (opG (opS (opG (opG (opG (opV (opG (opG op0 hT) hT) hT 103 (.b (a0.Kind == 5)) (.b true) (by rw [eqT c23])) hT) hT) hT) (fun R rest h => ak_callD (avs := [.d (eL66 true a0.Pairs), .i 2, .i 2]) (dst := some 107) hP enters_41 (by have q := spliceref04_pairs.says (t0 := true) a0.Pairs 2 2 h24; rw [boF c25] at q; exact q) (by kernel_rfl) (.cons (pass_d _) (.cons (pass_d _) (.cons (pass_d _) .nil))) (by kernel_rfl) h)) hT) hT) hT) hT) hT) hT) hT) hT) hT) hT) hT) hT) hT) hT) hT) hT) hT) hT) hT) hT) hT) hT) hT) hT) hT) ?_
                        refine goK hT 12 (K21 111111111 1) ⟨143, [(2, .b false)], [.box 45 (eC45 a0)]⟩ ?_
                        refine cutK [] ⟨143, [(2, .b false)], []⟩ h0 ?_
                        exact Jj5 false H
                    · replace H := iF c23 H
                      refine drawK (hP ▸ mixed) 32 [1] [some (.ptr 0 0 0 2), some (.i a0.Kind), some (.b false), some (.b false), some (.tup []), some (.tup []), some (.tup []), some (.b false), some (.b false), some (.tup []), some (.tup []), some (.tup []), some (.tup []), some (.tup []), some (.tup []), some (.tup []), some (.tup []), some (.tup []), some (.tup []), some (.tup []), some (.b false), some (.b false), some (.tup []), some (.tup []), some (.tup []), some (.tup []), some (.tup []), some (.tup []), some (.tup []), some (.tup []), some (.tup []), some (.tup [])] (opG (opG (opG (opG (opG (opG (opG (opG (opG (opG (opG (opG (opG (opG (opG (opG (opG (opG (opG (opG (opG (opG (opG (opG (opG (opG (opG (opG (opG (opV (opG (opG op0 hT) hT) hT 103 (.b (a0.Kind == 5)) (.b false) (by rw [eqF c23])) hT) hT) hT) hT) hT) hT) hT) hT) hT) hT) hT) hT) hT) hT) hT) hT) hT) hT) hT) hT) hT) hT) hT) hT) hT) hT) hT) hT) hT) ?_
                      refine goK hT 12 (K21 111111111 1) ⟨143, [(2, .b false)], [.box 45 (eC45 a0)]⟩ ?_
                      refine cutK [] ⟨143, [(2, .b false)], []⟩ h0 ?_
                      exact Jj5 false H
              · replace H := iF c14 H
                rw [neT c14]
                refine goK hT 5 (K21 111111010 1) ⟨143, [(2, .b false)], [.box 45 (eC45 a0)]⟩ ?_
                obtain rfl := retC H
                exact ak_ret hf hX (av := .b false) (by kernel_rfl) [] (sel_of_eq (by kernel_rfl)) (by decide) (by rw [h0]; rfl) (by kernel_rfl) (fun _ h => all_nil h) (.d (.v _))
        rw [eqF c5]
        refine goK hT 2 (K21 111 1) ⟨143, [(1, .ptr 0 0 0 0)], [.box 45 (eC45 a0)]⟩ ?_
        refine goK hT 8 (K21 111100 5) ⟨143, [(1, .ptr 0 0 0 0), (43, .b (a0.Over.Lo != 0))], [.box 45 (eC45 a0)]⟩ ?_
        by_cases c8 : a0.Over.Lo = 0
        · replace H := iT c8 H
          rw [neF c8]
          refine goK hT 6 (K21 11110 1) ⟨143, [(1, .ptr 0 0 0 0), (48, .b (a0.Over.Hi != 0))], [.box 45 (eC45 a0)]⟩ ?_
          refine cutK [0] ⟨143, [(1, .ptr 0 0 0 0), (48, .b (a0.Over.Hi != 0))], [.box 45 (eC45 a0)]⟩ h0 ?_
          exact Jj3 (a0.Over.Hi != 0) H
        · replace H := iF c8 H
          rw [neT c8]
          refine goK hT 6 (K21 11110 1) ⟨143, [(1, .ptr 0 0 0 0), (48, .b true)], [.box 45 (eC45 a0)]⟩ ?_
          refine cutK [0] ⟨143, [(1, .ptr 0 0 0 0), (48, .b true)], [.box 45 (eC45 a0)]⟩ h0 ?_
          exact Jj3 true H
  refine goK hT 12 (K21 1100 4) ⟨143, [(1, .ptr 0 0 0 0), (7, .b (decide (a0.Client < 1)))], [.box 45 (eC45 a0)]⟩ ?_
  by_cases c1 : a0.Client < 1
  · replace H := iT c1 H
    rw [decide_eq_true c1]
    refine goK hT 15 (K21 110 1) ⟨143, [(1, .ptr 0 0 0 0), (21, .b true)], [.box 45 (eC45 a0)]⟩ ?_
    refine cutK [0] ⟨143, [(1, .ptr 0 0 0 0), (21, .b true)], [.box 45 (eC45 a0)]⟩ h0 ?_
    exact Jj1 true H
  · replace H := iF c1 H
    rw [decide_eq_false c1]
    refine goK hT 5 (K21 1100 9) ⟨143, [(1, .ptr 0 0 0 0), (12, .b (decide (a0.Client > 1048576)))], [.box 45 (eC45 a0)]⟩ ?_
    by_cases c2 : a0.Client > 1048576
    · replace H := iT c2 H
      rw [decide_eq_true c2]
      refine goK hT 10 (K21 110 1) ⟨143, [(1, .ptr 0 0 0 0), (21, .b true)], [.box 45 (eC45 a0)]⟩ ?_
      refine cutK [0] ⟨143, [(1, .ptr 0 0 0 0), (21, .b true)], [.box 45 (eC45 a0)]⟩ h0 ?_
      exact Jj1 true H
    · replace H := iF c2 H
      rw [decide_eq_false c2]
      refine goK hT 5 (K21 1100 14) ⟨143, [(1, .ptr 0 0 0 0), (17, .b (decide (a0.Seq < 1)))], [.box 45 (eC45 a0)]⟩ ?_
      by_cases c3 : a0.Seq < 1
      · replace H := iT c3 H
        rw [decide_eq_true c3]
        refine goK hT 5 (K21 110 1) ⟨143, [(1, .ptr 0 0 0 0), (21, .b true)], [.box 45 (eC45 a0)]⟩ ?_
        refine cutK [0] ⟨143, [(1, .ptr 0 0 0 0), (21, .b true)], [.box 45 (eC45 a0)]⟩ h0 ?_
        exact Jj1 true H
      · replace H := iF c3 H
        rw [decide_eq_false c3]
        refine goK hT 5 (K21 110 1) ⟨143, [(1, .ptr 0 0 0 0), (21, .b (decide (a0.Seq > 1073741824)))], [.box 45 (eC45 a0)]⟩ ?_
        refine cutK [0] ⟨143, [(1, .ptr 0 0 0 0), (21, .b (decide (a0.Seq > 1073741824)))], [.box 45 (eC45 a0)]⟩ h0 ?_
        exact Jj1 (decide (a0.Seq > 1073741824)) H


theorem spliceref03_Check.says {t0 : Bool} (a0 : List spliceref03_Span) {r : Bool} (H : spliceref03_Check a0 = some r) : Says Try.prog 25 [] [.d (eL43 t0 a0)] [] (.b r) := by
  refine says_of Try.func25 rfl (nt := 37) rfl (Nat.le_of_ble_eq_true rfl) fun X hP h0 hX => ?_
  have hT : TabOk X.P T := hP ▸ tok
  have hf : X.P.funcs[25]? = some Try.f25 := hP ▸ Try.func25
  refine goK hT 11 (K25 11010 0) ⟨37, [(0, .d (eL43 t0 a0)), (3, .i 0)], []⟩ ?_
  have L : ∀ n, (∀ (x1_3 : Int), iter (spliceref03_Check.step a0) n (.l1 x1_3) = some r → AK X 25 ((K25 11010 0)) (Back X [] (.b r)) ⟨37, [(0, .d (eL43 t0 a0)), (3, .i x1_3)], []⟩) := by
    intro n
    induction n with
    | zero => exact fun _ H => iter0 H
    | succ n ih =>
      · intro x1_3 H
        refine goK hT 8 (K25 1101000 1) ⟨37, [(0, .d (eL43 t0 a0)), (3, .i x1_3), (7, .b (decide (x1_3 < (a0.length : Int))))], []⟩ ?_
        by_cases c1 : x1_3 < (a0.length : Int)
        · replace H := sT c1 H
          rw [decide_eq_true c1]
          refine goK hT 2 (K25 110100 1) ⟨37, [(0, .d (eL43 t0 a0)), (3, .i x1_3)], []⟩ ?_
          refine goK hT 3 (K25 110100100 0) ⟨37, [(0, .d (eL43 t0 a0)), (3, .i x1_3)], []⟩ ?_
          obtain ⟨h2, H⟩ := sC H
          have Jj1 : ∀ (y1_33 : Bool), stk (spliceref03_Check.j1 x1_3 y1_33) (iter (spliceref03_Check.step a0) n) = some r → AK X 25 ((K25 110100100 1)) (Back X [] (.b r)) ⟨37, [(0, .d (eL43 t0 a0)), (3, .i x1_3), (33, .b y1_33)], []⟩ := by
            intro y1_33 H
            by_cases c6 : y1_33 = true
            · replace H := sT c6 H
              rw [c6]
              refine goK hT 5 (K25 11010010010 1) ⟨37, [(2, .b false)], []⟩ ?_
              obtain rfl := retC H
              exact ak_ret hf hX (av := .b false) (by kernel_rfl) [] (sel_of_eq (by kernel_rfl)) (by decide) (by rw [h0]; rfl) (by kernel_rfl) (fun _ h => all_nil h) (.d (.v _))
            · replace H := sF c6 H
              rw [boF c6]
              refine goK hT 3 (K25 1101001 1) ⟨37, [(0, .d (eL43 t0 a0)), (3, .i x1_3)], []⟩ ?_
              refine goK hT 6 (K25 11010 0) ⟨37, [(0, .d (eL43 t0 a0)), (3, .i (IntKind.wrap .i64 (x1_3 + 1)))], []⟩ ?_
              refine cutK [] ⟨37, [(0, .d (eL43 t0 a0)), (3, .i (IntKind.wrap .i64 (x1_3 + 1)))], []⟩ h0 ?_
              exact ih (IntKind.wrap .i64 (x1_3 + 1)) H
          by_cases c3 : (spliceref03_One (a0.getD x1_3.toNat spliceref03_Span.z)) = true
          · replace H := sT c3 H
            by_cases c4 : x1_3 > 0
            · replace H := sT c4 H
              obtain ⟨h5, H⟩ := sC H
              refine drawK (hP ▸ mixed) 24 [0, 3] [some (.d (eL43 t0 a0)), some (.i x1_3), some (.d (eP43 t0 a0 x1_3.toNat 0)), some (.d (eG43 (a0.getD x1_3.toNat spliceref03_Span.z))), some (.b true), some (.b false), some (.b false), some (.i x1_3), some (.b true), some (.b true), some (.d (eL43 t0 a0)), some (.i x1_3), some (.d (eP43 t0 a0 x1_3.toNat 0)), some (.d (eP43 t0 a0 x1_3.toNat 0)), some (.i ((a0.getD x1_3.toNat spliceref03_Span.z).Lo)), some (.d (eL43 t0 a0)), some (.i x1_3), some (.i (IntKind.wrap .i64 (x1_3 - 1))), some (.d (eP43 t0 a0 ((IntKind.wrap .i64 (x1_3 - 1)).toNat) 0)), some (.d (eP43 t0 a0 ((IntKind.wrap .i64 (x1_3 - 1)).toNat) 1)), some (.i ((a0.getD ((IntKind.wrap .i64 (x1_3 - 1)).toNat) spliceref03_Span.z).Hi)), some (.b (decide (((a0.getD x1_3.toNat spliceref03_Span.z).Lo) ≤ ((a0.getD ((IntKind.wrap .i64 (x1_3 - 1)).toNat) spliceref03_Span.z).Hi)))), some (.b (decide (((a0.getD x1_3.toNat spliceref03_Span.z).Lo) ≤ ((a0.getD ((IntKind.wrap .i64 (x1_3 - 1)).toNat) spliceref03_Span.z).Hi)))), some (.b (decide (((a0.getD x1_3.toNat spliceref03_Span.z).Lo) ≤ ((a0.getD ((IntKind.wrap .i64 (x1_3 - 1)).toNat) spliceref03_Span.z).Hi))))] (opG (opG (opG (opG (opG (opS (opG (opG (opG (opG (opG (opS (opG (opG (opG (opV (opG (opG (opG (opS (opG (opS (opG (opG op0 hT) hT) (fun R rest h => ak_idx0 hT (i := x1_3) (n := (a0.length : Int)) h2.1 h2.2 (by kernel_rfl) h)) hT) (fun R rest h => ak_callD (avs := [.d (eG43 (a0.getD x1_3.toNat spliceref03_Span.z))]) (dst := some 14) hP enters_40 (by have q := spliceref03_One.says (a0.getD x1_3.toNat spliceref03_Span.z); rw [c3] at q; exact q) (by kernel_rfl) (.cons (pass_d _) .nil) (by kernel_rfl) h)) hT) hT) hT) hT 18 (.b (decide (x1_3 > 0))) (.b true) (by rw [decide_eq_true c4])) hT) hT) hT) (fun R rest h => ak_idx0 hT (i := x1_3) (n := (a0.length : Int)) h2.1 h2.2 (by kernel_rfl) h)) hT) hT) hT) hT) hT) (fun R rest h => ak_idx0 hT (i := IntKind.wrap .i64 (x1_3 - 1)) (n := (a0.length : Int)) h5.1 h5.2 (by kernel_rfl) h)) hT) hT) hT) hT) hT) ?_
              refine goK hT 1 (K25 110100100 1) ⟨37, [(0, .d (eL43 t0 a0)), (3, .i x1_3), (33, .b (decide (((a0.getD x1_3.toNat spliceref03_Span.z).Lo) ≤ ((a0.getD ((IntKind.wrap .i64 (x1_3 - 1)).toNat) spliceref03_Span.z).Hi))))], []⟩ ?_
              refine cutK [] ⟨37, [(0, .d (eL43 t0 a0)), (3, .i x1_3), (33, .b (decide (((a0.getD x1_3.toNat spliceref03_Span.z).Lo) ≤ ((a0.getD ((IntKind.wrap .i64 (x1_3 - 1)).toNat) spliceref03_Span.z).Hi))))], []⟩ h0 ?_
              exact Jj1 (decide (((a0.getD x1_3.toNat spliceref03_Span.z).Lo) ≤ ((a0.getD ((IntKind.wrap .i64 (x1_3 - 1)).toNat) spliceref03_Span.z).Hi))) H
            · replace H := sF c4 H
              refine drawK (hP ▸ mixed) 24 [0, 3] [some (.d (eL43 t0 a0)), some (.i x1_3), some (.d (eP43 t0 a0 x1_3.toNat 0)), some (.d (eG43 (a0.getD x1_3.toNat spliceref03_Span.z))), some (.b true), some (.b false), some (.b false), some (.i x1_3), some (.b false), some (.b false), some (.tup []), some (.tup []), some (.tup []), some (.tup []), some (.tup []), some (.tup []), some (.tup []), some (.tup []), some (.tup []), some (.tup []), some (.tup []), some (.tup []), some (.b false), some (.b false)] (opG (opG (opG (opG (opG (opG (opG (opG (opG (opG (opG (opG (opG (opG (opG (opV (opG (opG (opG (opS (opG (opS (opG (opG op0 hT) hT) (fun R rest h => ak_idx0 hT (i := x1_3) (n := (a0.length : Int)) h2.1 h2.2 (by kernel_rfl) h)) hT) (fun R rest h => ak_callD (avs := [.d (eG43 (a0.getD x1_3.toNat spliceref03_Span.z))]) (dst := some 14) hP enters_40 (by have q := spliceref03_One.says (a0.getD x1_3.toNat spliceref03_Span.z); rw [c3] at q; exact q) (by kernel_rfl) (.cons (pass_d _) .nil) (by kernel_rfl) h)) hT) hT) hT) hT 18 (.b (decide (x1_3 > 0))) (.b false) (by rw [decide_eq_false c4])) hT) hT) hT) hT) hT) hT) hT) hT) hT) hT) hT) hT) hT) hT) hT) ?_
              refine goK hT 1 (K25 110100100 1) ⟨37, [(0, .d (eL43 t0 a0)), (3, .i x1_3), (33, .b false)], []⟩ ?_
              refine cutK [] ⟨37, [(0, .d (eL43 t0 a0)), (3, .i x1_3), (33, .b false)], []⟩ h0 ?_
              exact Jj1 false H
          · replace H := sF c3 H
            refine drawK (hP ▸ mixed) 24 [0, 3] [some (.d (eL43 t0 a0)), some (.i x1_3), some (.d (eP43 t0 a0 x1_3.toNat 0)), some (.d (eG43 (a0.getD x1_3.toNat spliceref03_Span.z))), some (.b false), some (.b true), some (.b true), some (.tup []), some (.tup []), some (.tup []), some (.tup []), some (.tup []), some (.tup []), some (.tup []), some (.tup []), some (.tup []), some (.tup []), some (.tup []), some (.tup []), some (.tup []), some (.tup []), some (.tup []), some (.tup []), some (.b true)] (opG (opG (opG (opG (opG (opG (opG (opG (opG (opG (opG (opG (opG (opG (opG (opG (opG (opG (opG (opS (opG (opS (opG (opG op0 hT) hT) (fun R rest h => ak_idx0 hT (i := x1_3) (n := (a0.length : Int)) h2.1 h2.2 (by kernel_rfl) h)) hT) (fun R rest h => ak_callD (avs := [.d (eG43 (a0.getD x1_3.toNat spliceref03_Span.z))]) (dst := some 14) hP enters_40 (by have q := spliceref03_One.says (a0.getD x1_3.toNat spliceref03_Span.z); rw [boF c3] at q; exact q) (by kernel_rfl) (.cons (pass_d _) .nil) (by kernel_rfl) h)) hT) hT) hT) hT) hT) hT) hT) hT) hT) hT) hT) hT) hT) hT) hT) hT) hT) hT) hT) ?_
            refine goK hT 1 (K25 110100100 1) ⟨37, [(0, .d (eL43 t0 a0)), (3, .i x1_3), (33, .b true)], []⟩ ?_
            refine cutK [] ⟨37, [(0, .d (eL43 t0 a0)), (3, .i x1_3), (33, .b true)], []⟩ h0 ?_
            exact Jj1 true H
        · replace H := sF c1 H
          rw [decide_eq_false c1]
          refine goK hT 9 (K25 111 1) ⟨37, [(2, .b (decide ((a0.length : Int) ≤ 64)))], []⟩ ?_
          obtain rfl := retC H
          exact ak_ret hf hX (av := .b (decide ((a0.length : Int) ≤ 64))) (by kernel_rfl) [] (sel_of_eq (by kernel_rfl)) (by decide) (by rw [h0]; rfl) (by kernel_rfl) (fun _ h => all_nil h) (.d (.v _))
  refine cutK [] ⟨37, [(0, .d (eL43 t0 a0)), (3, .i 0)], []⟩ h0 ?_
  obtain ⟨n, H⟩ := loopC H
  exact (L n) 0 H


theorem spliceref05_Check.says {t0 : Bool} (a0 : List spliceref04_Pair) {r : Bool} (H : spliceref05_Check a0 = some r) : Says Try.prog 38 [] [.d (eL66 t0 a0)] [] (.b r) := by
  refine says_of Try.func38 rfl (nt := 56) rfl (Nat.le_of_ble_eq_true rfl) fun X hP h0 hX => ?_
  have hT : TabOk X.P T := hP ▸ tok
  have hf : X.P.funcs[38]? = some Try.f38 := hP ▸ Try.func38
  refine goK hT 11 (K38 11010 0) ⟨56, [(0, .d (eL66 t0 a0)), (3, .i 0)], []⟩ ?_
  have L : ∀ n, (∀ (x1_3 : Int), iter (spliceref05_Check.step a0) n (.l1 x1_3) = some r → AK X 38 ((K38 11010 0)) (Back X [] (.b r)) ⟨56, [(0, .d (eL66 t0 a0)), (3, .i x1_3)], []⟩) := by
    intro n
    induction n with
    | zero => exact fun _ H => iter0 H
    | succ n ih =>
      · intro x1_3 H
        refine goK hT 8 (K38 1101000 1) ⟨56, [(0, .d (eL66 t0 a0)), (3, .i x1_3), (7, .b (decide (x1_3 < (a0.length : Int))))], []⟩ ?_
        by_cases c1 : x1_3 < (a0.length : Int)
        · replace H := sT c1 H
          rw [decide_eq_true c1]
          refine goK hT 2 (K38 110100 1) ⟨56, [(0, .d (eL66 t0 a0)), (3, .i x1_3)], []⟩ ?_
          refine goK hT 7 (K38 11010010000 2) ⟨56, [(0, .d (eL66 t0 a0)), (3, .i x1_3), (10, .d (eL66 t0 a0)), (11, .i x1_3)], []⟩ ?_
          obtain ⟨h2, H⟩ := sC H
          have Jj1 : ∀ (y1_39 : Bool), stk (spliceref05_Check.j1 a0 x1_3 y1_39) (iter (spliceref05_Check.step a0) n) = some r → AK X 38 ((K38 1101001000 1)) (Back X [] (.b r)) ⟨56, [(0, .d (eL66 t0 a0)), (3, .i x1_3), (39, .b y1_39)], []⟩ := by
            intro y1_39 H
            by_cases c6 : y1_39 = true
            · replace H := sT c6 H
              rw [c6]
              refine goK hT 5 (K38 110100100010 1) ⟨56, [(2, .b false)], []⟩ ?_
              obtain rfl := retC H
              exact ak_ret hf hX (av := .b false) (by kernel_rfl) [] (sel_of_eq (by kernel_rfl)) (by decide) (by rw [h0]; rfl) (by kernel_rfl) (fun _ h => all_nil h) (.d (.v _))
            · replace H := sF c6 H
              have Jj2 : ∀ (y2_55 : Bool), stk (spliceref05_Check.j2 x1_3 y2_55) (iter (spliceref05_Check.step a0) n) = some r → AK X 38 ((K38 1101001001 1)) (Back X [] (.b r)) ⟨56, [(0, .d (eL66 t0 a0)), (3, .i x1_3), (55, .b y2_55)], []⟩ := by
                intro y2_55 H
                by_cases c9 : y2_55 = true
                · replace H := sT c9 H
                  rw [c9]
                  refine goK hT 5 (K38 110100100110 1) ⟨56, [(2, .b false)], []⟩ ?_
                  obtain rfl := retC H
                  exact ak_ret hf hX (av := .b false) (by kernel_rfl) [] (sel_of_eq (by kernel_rfl)) (by decide) (by rw [h0]; rfl) (by kernel_rfl) (fun _ h => all_nil h) (.d (.v _))
                · replace H := sF c9 H
                  rw [boF c9]
                  refine goK hT 3 (K38 1101001 1) ⟨56, [(0, .d (eL66 t0 a0)), (3, .i x1_3)], []⟩ ?_
                  refine goK hT 6 (K38 11010 0) ⟨56, [(0, .d (eL66 t0 a0)), (3, .i (IntKind.wrap .i64 (x1_3 + 1)))], []⟩ ?_
                  refine cutK [] ⟨56, [(0, .d (eL66 t0 a0)), (3, .i (IntKind.wrap .i64 (x1_3 + 1)))], []⟩ h0 ?_
                  exact ih (IntKind.wrap .i64 (x1_3 + 1)) H
              rw [boF c6]
              refine goK hT 2 (K38 110100100 1) ⟨56, [(0, .d (eL66 t0 a0)), (3, .i x1_3)], []⟩ ?_
              refine goK hT 1 (K38 1101001001 0) ⟨56, [(0, .d (eL66 t0 a0)), (3, .i x1_3)], []⟩ ?_
              by_cases c7 : x1_3 > 0
              · replace H := sT c7 H
                obtain ⟨h8, H⟩ := sC H
                refine drawK (hP ▸ mixed) 16 [0, 3] [some (.i x1_3), some (.b true), some (.b true), some (.d (eL66 t0 a0)), some (.i x1_3), some (.d (eP66 t0 a0 x1_3.toNat 0)), some (.d (eP66 t0 a0 x1_3.toNat 0)), some (.i ((a0.getD x1_3.toNat spliceref04_Pair.z).Key)), some (.d (eL66 t0 a0)), some (.i x1_3), some (.i (IntKind.wrap .i64 (x1_3 - 1))), some (.d (eP66 t0 a0 ((IntKind.wrap .i64 (x1_3 - 1)).toNat) 0)), some (.d (eP66 t0 a0 ((IntKind.wrap .i64 (x1_3 - 1)).toNat) 0)), some (.i ((a0.getD ((IntKind.wrap .i64 (x1_3 - 1)).toNat) spliceref04_Pair.z).Key)), some (.b (decide (((a0.getD x1_3.toNat spliceref04_Pair.z).Key) ≤ ((a0.getD ((IntKind.wrap .i64 (x1_3 - 1)).toNat) spliceref04_Pair.z).Key)))), some (.b (decide (((a0.getD x1_3.toNat spliceref04_Pair.z).Key) ≤ ((a0.getD ((IntKind.wrap .i64 (x1_3 - 1)).toNat) spliceref04_Pair.z).Key))))] (opG (opG (opG (opG (opS (opG (opG (opG (opG (opG (opS (opG (opG (opG (opV (opG op0 hT) hT 41 (.b (decide (x1_3 > 0))) (.b true) (by rw [decide_eq_true c7])) hT) hT) hT) (fun R rest h => ak_idx0 hT (i := x1_3) (n := (a0.length : Int)) h2.1 h2.2 (by kernel_rfl) h)) hT) hT) hT) hT) hT) (fun R rest h => ak_idx0 hT (i := IntKind.wrap .i64 (x1_3 - 1)) (n := (a0.length : Int)) h8.1 h8.2 (by kernel_rfl) h)) hT) hT) hT) hT) ?_
                refine goK hT 1 (K38 1101001001 1) ⟨56, [(0, .d (eL66 t0 a0)), (3, .i x1_3), (55, .b (decide (((a0.getD x1_3.toNat spliceref04_Pair.z).Key) ≤ ((a0.getD ((IntKind.wrap .i64 (x1_3 - 1)).toNat) spliceref04_Pair.z).Key))))], []⟩ ?_
                refine cutK [] ⟨56, [(0, .d (eL66 t0 a0)), (3, .i x1_3), (55, .b (decide (((a0.getD x1_3.toNat spliceref04_Pair.z).Key) ≤ ((a0.getD ((IntKind.wrap .i64 (x1_3 - 1)).toNat) spliceref04_Pair.z).Key))))], []⟩ h0 ?_
                exact Jj2 (decide (((a0.getD x1_3.toNat spliceref04_Pair.z).Key) ≤ ((a0.getD ((IntKind.wrap .i64 (x1_3 - 1)).toNat) spliceref04_Pair.z).Key))) H
              · replace H := sF c7 H
                refine drawK (hP ▸ mixed) 16 [0, 3] [some (.i x1_3), some (.b false), some (.b false), some (.tup []), some (.tup []), some (.tup []), some (.tup []), some (.tup []), some (.tup []), some (.tup []), some (.tup []), some (.tup []), some (.tup []), some (.tup []), some (.tup []), some (.b false)] (opG (opG (opG (opG (opG (opG (opG (opG (opG (opG (opG (opG (opG (opG (opV (opG op0 hT) hT 41 (.b (decide (x1_3 > 0))) (.b false) (by rw [decide_eq_false c7])) hT) hT) hT) hT) hT) hT) hT) hT) hT) hT) hT) hT) hT) hT) ?_
                refine goK hT 1 (K38 1101001001 1) ⟨56, [(0, .d (eL66 t0 a0)), (3, .i x1_3), (55, .b false)], []⟩ ?_
                refine cutK [] ⟨56, [(0, .d (eL66 t0 a0)), (3, .i x1_3), (55, .b false)], []⟩ h0 ?_
                exact Jj2 false H
          refine ak_idx hT [0, 3, 12] (i := x1_3) (n := (a0.length : Int)) h2.1 h2.2 (k' := (K38 11010010000 3)) (st' := ⟨56, [(0, .d (eL66 t0 a0)), (3, .i x1_3), (12, .d (eP66 t0 a0 x1_3.toNat 0))], []⟩) (by kernel_rfl) ?_
          refine goK hT 4 (K38 11010010000 7) ⟨56, [(0, .d (eL66 t0 a0)), (3, .i x1_3), (16, .b (decide (((a0.getD x1_3.toNat spliceref04_Pair.z).Key) < 0)))], []⟩ ?_
          by_cases c3 : ((a0.getD x1_3.toNat spliceref04_Pair.z).Key) < 0
          · replace H := sT c3 H
            rw [decide_eq_true c3]
            refine goK hT 24 (K38 1101001000 1) ⟨56, [(0, .d (eL66 t0 a0)), (3, .i x1_3), (39, .b true)], []⟩ ?_
            refine cutK [] ⟨56, [(0, .d (eL66 t0 a0)), (3, .i x1_3), (39, .b true)], []⟩ h0 ?_
            exact Jj1 true H
          · replace H := sF c3 H
            rw [decide_eq_false c3]
            refine goK hT 2 (K38 11010010000 9) ⟨56, [(0, .d (eL66 t0 a0)), (3, .i x1_3), (16, .b false), (17, .d (eL66 t0 a0)), (18, .i x1_3)], []⟩ ?_
            refine ak_idx hT [0, 3, 16, 19] (i := x1_3) (n := (a0.length : Int)) h2.1 h2.2 (k' := (K38 11010010000 10)) (st' := ⟨56, [(0, .d (eL66 t0 a0)), (3, .i x1_3), (16, .b false), (19, .d (eP66 t0 a0 x1_3.toNat 0))], []⟩) (by kernel_rfl) ?_
            refine goK hT 5 (K38 11010010000 15) ⟨56, [(0, .d (eL66 t0 a0)), (3, .i x1_3), (24, .b (decide (((a0.getD x1_3.toNat spliceref04_Pair.z).Key) > 4095)))], []⟩ ?_
            by_cases c4 : ((a0.getD x1_3.toNat spliceref04_Pair.z).Key) > 4095
            · replace H := sT c4 H
              rw [decide_eq_true c4]
              refine goK hT 16 (K38 1101001000 1) ⟨56, [(0, .d (eL66 t0 a0)), (3, .i x1_3), (39, .b true)], []⟩ ?_
              refine cutK [] ⟨56, [(0, .d (eL66 t0 a0)), (3, .i x1_3), (39, .b true)], []⟩ h0 ?_
              exact Jj1 true H
            · replace H := sF c4 H
              rw [decide_eq_false c4]
              refine goK hT 2 (K38 11010010000 17) ⟨56, [(0, .d (eL66 t0 a0)), (3, .i x1_3), (24, .b false), (25, .d (eL66 t0 a0)), (26, .i x1_3)], []⟩ ?_
              refine ak_idx hT [0, 3, 24, 27] (i := x1_3) (n := (a0.length : Int)) h2.1 h2.2 (k' := (K38 11010010000 18)) (st' := ⟨56, [(0, .d (eL66 t0 a0)), (3, .i x1_3), (24, .b false), (27, .d (eP66 t0 a0 x1_3.toNat 0))], []⟩) (by kernel_rfl) ?_
              refine goK hT 5 (K38 11010010000 23) ⟨56, [(0, .d (eL66 t0 a0)), (3, .i x1_3), (32, .b (decide (((a0.getD x1_3.toNat spliceref04_Pair.z).Val) < (-1099511627776))))], []⟩ ?_
              by_cases c5 : ((a0.getD x1_3.toNat spliceref04_Pair.z).Val) < (-1099511627776)
              · replace H := sT c5 H
                rw [decide_eq_true c5]
                refine goK hT 8 (K38 1101001000 1) ⟨56, [(0, .d (eL66 t0 a0)), (3, .i x1_3), (39, .b true)], []⟩ ?_
                refine cutK [] ⟨56, [(0, .d (eL66 t0 a0)), (3, .i x1_3), (39, .b true)], []⟩ h0 ?_
                exact Jj1 true H
              · replace H := sF c5 H
                rw [decide_eq_false c5]
                refine goK hT 2 (K38 11010010000 25) ⟨56, [(0, .d (eL66 t0 a0)), (3, .i x1_3), (32, .b false), (33, .d (eL66 t0 a0)), (34, .i x1_3)], []⟩ ?_
                refine ak_idx hT [0, 3, 32, 35] (i := x1_3) (n := (a0.length : Int)) h2.1 h2.2 (k' := (K38 11010010000 26)) (st' := ⟨56, [(0, .d (eL66 t0 a0)), (3, .i x1_3), (32, .b false), (35, .d (eP66 t0 a0 x1_3.toNat 0))], []⟩) (by kernel_rfl) ?_
                refine goK hT 5 (K38 1101001000 1) ⟨56, [(0, .d (eL66 t0 a0)), (3, .i x1_3), (39, .b (decide (((a0.getD x1_3.toNat spliceref04_Pair.z).Val) > 1099511627776)))], []⟩ ?_
                refine cutK [] ⟨56, [(0, .d (eL66 t0 a0)), (3, .i x1_3), (39, .b (decide (((a0.getD x1_3.toNat spliceref04_Pair.z).Val) > 1099511627776)))], []⟩ h0 ?_
                exact Jj1 (decide (((a0.getD x1_3.toNat spliceref04_Pair.z).Val) > 1099511627776)) H
        · replace H := sF c1 H
          rw [decide_eq_false c1]
          refine goK hT 6 (K38 111 1) ⟨56, [(2, .b true)], []⟩ ?_
          obtain rfl := retC H
          exact ak_ret hf hX (av := .b true) (by kernel_rfl) [] (sel_of_eq (by kernel_rfl)) (by decide) (by rw [h0]; rfl) (by kernel_rfl) (fun _ h => all_nil h) (.d (.v _))
  refine cutK [] ⟨56, [(0, .d (eL66 t0 a0)), (3, .i 0)], []⟩ h0 ?_
  obtain ⟨n, H⟩ := loopC H
  exact (L n) 0 H


theorem spliceref05_more.says {t0 : Bool} (a0 : List Int) (a1 : Int) {r : List Int} (H : spliceref05_more a0 a1 = some r) : Says Try.prog 79 [] [.d (eL3 t0 a0), .i a1] [eR3 r] (.own 0 1 0 r.length) := by
  refine says_of Try.func79 rfl (nt := 48) rfl (Nat.le_of_ble_eq_true rfl) fun X hP h0 hX => ?_
  have hT : TabOk X.P T := hP ▸ tok
  have hf : X.P.funcs[79]? = some Try.f79 := hP ▸ Try.func79
  refine goK hT 19 (K79 1111010 0) ⟨48, [(0, .d (eL3 t0 a0)), (1, .i a1), (5, .ns), (6, .b false), (7, .i 0)], []⟩ ?_
  refine ak_nilS [0, 1, 5, 6, 7] 5 1 3 (vec (eI .i64) 0 []) (st' := ⟨48, [(0, .d (eL3 t0 a0)), (1, .i a1), (5, .own 0 1 0 0), (6, .b false), (7, .i 0)], [eR3 ([] : List Int)]⟩) (by kernel_rfl) (by kernel_rfl) ?_
  have L : ∀ n, (∀ (x1_6 : Bool) (x1_7 : Int) (x1_r0 : List Int), iter (spliceref05_more.step a0 a1) n (.l1 x1_6 x1_7 x1_r0) = some r → AK X 79 ((K79 1111010 0)) (Back X [eR3 r] (.own 0 1 0 r.length)) ⟨48, [(0, .d (eL3 t0 a0)), (1, .i a1), (5, .own 0 1 0 x1_r0.length), (6, .b x1_6), (7, .i x1_7)], [eR3 x1_r0]⟩) := by
    intro n
    induction n with
    | zero => exact fun _ _ _ H => iter0 H
    | succ n ih =>
      · intro x1_6 x1_7 x1_r0 H
        refine goK hT 8 (K79 111101000 1) ⟨48, [(0, .d (eL3 t0 a0)), (1, .i a1), (5, .own 0 1 0 x1_r0.length), (6, .b x1_6), (7, .i x1_7), (11, .b (decide (x1_7 < (a0.length : Int))))], [eR3 x1_r0]⟩ ?_
        by_cases c1 : x1_7 < (a0.length : Int)
        · replace H := sT c1 H
          rw [decide_eq_true c1]
          refine goK hT 2 (K79 11110100 1) ⟨48, [(0, .d (eL3 t0 a0)), (1, .i a1), (5, .own 0 1 0 x1_r0.length), (6, .b x1_6), (7, .i x1_7)], [eR3 x1_r0]⟩ ?_
          refine goK hT 7 (K79 1111010010000 2) ⟨48, [(0, .d (eL3 t0 a0)), (1, .i a1), (5, .own 0 1 0 x1_r0.length), (6, .b x1_6), (7, .i x1_7), (14, .d (eL3 t0 a0)), (15, .i x1_7)], [eR3 x1_r0]⟩ ?_
          obtain ⟨h4, H⟩ := sC H
          have Jj2 : ∀ (y2_6 : Bool), stk (spliceref05_more.j2 a0 a1 x1_7 x1_r0 y2_6) (iter (spliceref05_more.step a0 a1) n) = some r → AK X 79 ((K79 11110100100 1)) (Back X [eR3 r] (.own 0 1 0 r.length)) ⟨48, [(0, .d (eL3 t0 a0)), (1, .i a1), (5, .own 0 1 0 x1_r0.length), (6, .b y2_6), (7, .i x1_7)], [eR3 x1_r0]⟩ := by
            intro y2_6 H
            have Jj3 : ∀ (y3_6 : Bool) (y3_29 : Bool), stk (spliceref05_more.j3 a0 a1 x1_7 x1_r0 y3_6 y3_29) (iter (spliceref05_more.step a0 a1) n) = some r → AK X 79 ((K79 1111010010010 1)) (Back X [eR3 r] (.own 0 1 0 r.length)) ⟨48, [(0, .d (eL3 t0 a0)), (1, .i a1), (5, .own 0 1 0 x1_r0.length), (6, .b y3_6), (7, .i x1_7), (29, .b y3_29)], [eR3 x1_r0]⟩ := by
              intro y3_6 y3_29 H
              have Jj4 : ∀ (y4_6 : Bool) (y4_r0 : List Int), stk (spliceref05_more.j4 a0 x1_7 y4_6 y4_r0) (iter (spliceref05_more.step a0 a1) n) = some r → AK X 79 ((K79 111101001001 1)) (Back X [eR3 r] (.own 0 1 0 r.length)) ⟨48, [(0, .d (eL3 t0 a0)), (1, .i a1), (5, .own 0 1 0 y4_r0.length), (6, .b y4_6), (7, .i x1_7)], [eR3 y4_r0]⟩ := by
                intro y4_6 y4_r0 H
                refine goK hT 4 (K79 1111010010011 3) ⟨48, [(0, .d (eL3 t0 a0)), (1, .i a1), (6, .b y4_6), (7, .i x1_7), (34, .own 0 1 0 y4_r0.length), (35, .d (eL3 t0 a0)), (36, .i x1_7)], [eR3 y4_r0]⟩ ?_
                refine ak_idx hT [0, 1, 6, 7, 34, 37] (i := x1_7) (n := (a0.length : Int)) h4.1 h4.2 (k' := (K79 1111010010011 4)) (st' := ⟨48, [(0, .d (eL3 t0 a0)), (1, .i a1), (6, .b y4_6), (7, .i x1_7), (34, .own 0 1 0 y4_r0.length), (37, .d (eP3 t0 a0 x1_7.toNat 0))], [eR3 y4_r0]⟩) (by kernel_rfl) ?_
                refine goK hT 2 (K79 1111010010011 6) ⟨48, [(0, .d (eL3 t0 a0)), (1, .i a1), (6, .b y4_6), (7, .i x1_7), (34, .own 0 1 0 y4_r0.length), (39, .own 1 1 0 1)], [eR3 y4_r0, .flat false 1 3 1 (fun j => [[.i (a0.getD x1_7.toNat 0)]].getD j [])]⟩ ?_
                obtain ⟨h9, H⟩ := sC H
                refine ak_append1 (id := 0) (kk := 1) (by' := 8) (t := 106) (e := 3) (z := [.int .i64 0]) (dst := some 40) (id2 := 1) (e2 := 3) (fz := false) (k' := (K79 1111010010011 7)) hT (eI .i64) 0 y4_r0 (a0.getD x1_7.toNat 0) [0, 1, 6, 7, 40] (by kernel_rfl) (by kernel_rfl) (by kernel_rfl) (by kernel_rfl) (by kernel_rfl) (by kernel_rfl) (by kernel_rfl) h9 (by omega) (st' := ⟨48, [(0, .d (eL3 t0 a0)), (1, .i a1), (6, .b y4_6), (7, .i x1_7), (40, .own 2 1 0 ((y4_r0 ++ [a0.getD x1_7.toNat 0]).length))], [.gone, .flat false 1 3 1 (fun j => [[.i (a0.getD x1_7.toNat 0)]].getD j []), eR3 (y4_r0 ++ [a0.getD x1_7.toNat 0])]⟩) (by kernel_rfl) ?_
                refine goK hT 9 (K79 1111010 0) ⟨48, [(0, .d (eL3 t0 a0)), (1, .i a1), (5, .own 2 1 0 ((y4_r0 ++ [a0.getD x1_7.toNat 0]).length)), (6, .b y4_6), (7, .i (IntKind.wrap .i64 (x1_7 + 1)))], [.gone, .flat false 1 3 1 (fun j => [[.i (a0.getD x1_7.toNat 0)]].getD j []), eR3 (y4_r0 ++ [a0.getD x1_7.toNat 0])]⟩ ?_
                refine cutK [2] ⟨48, [(0, .d (eL3 t0 a0)), (1, .i a1), (5, .own 0 1 0 (y4_r0 ++ [a0.getD x1_7.toNat 0]).length), (6, .b y4_6), (7, .i (IntKind.wrap .i64 (x1_7 + 1)))], [eR3 (y4_r0 ++ [a0.getD x1_7.toNat 0])]⟩ h0 ?_
                exact ih y4_6 (IntKind.wrap .i64 (x1_7 + 1)) (y4_r0 ++ [a0.getD x1_7.toNat 0]) H
              by_cases c7 : y3_29 = true
              · replace H := sT c7 H
                rw [c7]
                refine goK hT 6 (K79 1111010010010100 3) ⟨48, [(0, .d (eL3 t0 a0)), (1, .i a1), (7, .i x1_7), (30, .own 0 1 0 x1_r0.length), (32, .own 1 1 0 1)], [eR3 x1_r0, .flat false 1 3 1 (fun j => [[.i a1]].getD j [])]⟩ ?_
                obtain ⟨h8, H⟩ := sC H
                refine ak_append1 (id := 0) (kk := 1) (by' := 8) (t := 106) (e := 3) (z := [.int .i64 0]) (dst := some 33) (id2 := 1) (e2 := 3) (fz := false) (k' := (K79 1111010010010100 4)) hT (eI .i64) 0 x1_r0 a1 [0, 1, 7, 33] (by kernel_rfl) (by kernel_rfl) (by kernel_rfl) (by kernel_rfl) (by kernel_rfl) (by kernel_rfl) (by kernel_rfl) h8 (by omega) (st' := ⟨48, [(0, .d (eL3 t0 a0)), (1, .i a1), (7, .i x1_7), (33, .own 2 1 0 ((x1_r0 ++ [a1]).length))], [.gone, .flat false 1 3 1 (fun j => [[.i a1]].getD j []), eR3 (x1_r0 ++ [a1])]⟩) (by kernel_rfl) ?_
                refine goK hT 5 (K79 111101001001 1) ⟨48, [(0, .d (eL3 t0 a0)), (1, .i a1), (5, .own 2 1 0 ((x1_r0 ++ [a1]).length)), (6, .b true), (7, .i x1_7)], [.gone, .flat false 1 3 1 (fun j => [[.i a1]].getD j []), eR3 (x1_r0 ++ [a1])]⟩ ?_
                refine cutK [2] ⟨48, [(0, .d (eL3 t0 a0)), (1, .i a1), (5, .own 0 1 0 (x1_r0 ++ [a1]).length), (6, .b true), (7, .i x1_7)], [eR3 (x1_r0 ++ [a1])]⟩ h0 ?_
                exact Jj4 true (x1_r0 ++ [a1]) H
              · replace H := sF c7 H
                rw [boF c7]
                refine goK hT 2 (K79 111101001001 1) ⟨48, [(0, .d (eL3 t0 a0)), (1, .i a1), (5, .own 0 1 0 x1_r0.length), (6, .b y3_6), (7, .i x1_7)], [eR3 x1_r0]⟩ ?_
                refine cutK [0] ⟨48, [(0, .d (eL3 t0 a0)), (1, .i a1), (5, .own 0 1 0 x1_r0.length), (6, .b y3_6), (7, .i x1_7)], [eR3 x1_r0]⟩ h0 ?_
                exact Jj4 y3_6 x1_r0 H
            refine goK hT 6 (K79 11110100100100 3) ⟨48, [(0, .d (eL3 t0 a0)), (1, .i a1), (5, .own 0 1 0 x1_r0.length), (6, .b y2_6), (7, .i x1_7), (22, .b (!y2_6))], [eR3 x1_r0]⟩ ?_
            by_cases c6 : y2_6 = true
            · replace H := sT c6 H
              rw [c6]
              refine goK hT 8 (K79 1111010010010 1) ⟨48, [(0, .d (eL3 t0 a0)), (1, .i a1), (5, .own 0 1 0 x1_r0.length), (6, .b true), (7, .i x1_7), (29, .b false)], [eR3 x1_r0]⟩ ?_
              refine cutK [0] ⟨48, [(0, .d (eL3 t0 a0)), (1, .i a1), (5, .own 0 1 0 x1_r0.length), (6, .b true), (7, .i x1_7), (29, .b false)], [eR3 x1_r0]⟩ h0 ?_
              exact Jj3 true false H
            · replace H := sF c6 H
              rw [boF c6]
              refine goK hT 2 (K79 11110100100100 5) ⟨48, [(0, .d (eL3 t0 a0)), (1, .i a1), (5, .own 0 1 0 x1_r0.length), (6, .b false), (7, .i x1_7), (22, .b true), (23, .d (eL3 t0 a0)), (24, .i x1_7)], [eR3 x1_r0]⟩ ?_
              refine ak_idx hT [0, 1, 5, 6, 7, 22, 25] (i := x1_7) (n := (a0.length : Int)) h4.1 h4.2 (k' := (K79 11110100100100 6)) (st' := ⟨48, [(0, .d (eL3 t0 a0)), (1, .i a1), (5, .own 0 1 0 x1_r0.length), (6, .b false), (7, .i x1_7), (22, .b true), (25, .d (eP3 t0 a0 x1_7.toNat 0))], [eR3 x1_r0]⟩) (by kernel_rfl) ?_
              refine goK hT 5 (K79 1111010010010 1) ⟨48, [(0, .d (eL3 t0 a0)), (1, .i a1), (5, .own 0 1 0 x1_r0.length), (6, .b false), (7, .i x1_7), (29, .b (decide ((a0.getD x1_7.toNat 0) > a1)))], [eR3 x1_r0]⟩ ?_
              refine cutK [0] ⟨48, [(0, .d (eL3 t0 a0)), (1, .i a1), (5, .own 0 1 0 x1_r0.length), (6, .b false), (7, .i x1_7), (29, .b (decide ((a0.getD x1_7.toNat 0) > a1)))], [eR3 x1_r0]⟩ h0 ?_
              exact Jj3 false (decide ((a0.getD x1_7.toNat 0) > a1)) H
          refine ak_idx hT [0, 1, 5, 6, 7, 16] (i := x1_7) (n := (a0.length : Int)) h4.1 h4.2 (k' := (K79 1111010010000 3)) (st' := ⟨48, [(0, .d (eL3 t0 a0)), (1, .i a1), (5, .own 0 1 0 x1_r0.length), (6, .b x1_6), (7, .i x1_7), (16, .d (eP3 t0 a0 x1_7.toNat 0))], [eR3 x1_r0]⟩) (by kernel_rfl) ?_
          refine goK hT 4 (K79 111101001000 1) ⟨48, [(0, .d (eL3 t0 a0)), (1, .i a1), (5, .own 0 1 0 x1_r0.length), (6, .b x1_6), (7, .i x1_7), (19, .b ((a0.getD x1_7.toNat 0) == a1))], [eR3 x1_r0]⟩ ?_
          by_cases c5 : (a0.getD x1_7.toNat 0) = a1
          · replace H := sT c5 H
            rw [eqT c5]
            refine goK hT 4 (K79 11110100100 1) ⟨48, [(0, .d (eL3 t0 a0)), (1, .i a1), (5, .own 0 1 0 x1_r0.length), (6, .b true), (7, .i x1_7)], [eR3 x1_r0]⟩ ?_
            refine cutK [0] ⟨48, [(0, .d (eL3 t0 a0)), (1, .i a1), (5, .own 0 1 0 x1_r0.length), (6, .b true), (7, .i x1_7)], [eR3 x1_r0]⟩ h0 ?_
            exact Jj2 true H
          · replace H := sF c5 H
            rw [eqF c5]
            refine goK hT 2 (K79 11110100100 1) ⟨48, [(0, .d (eL3 t0 a0)), (1, .i a1), (5, .own 0 1 0 x1_r0.length), (6, .b x1_6), (7, .i x1_7)], [eR3 x1_r0]⟩ ?_
            refine cutK [0] ⟨48, [(0, .d (eL3 t0 a0)), (1, .i a1), (5, .own 0 1 0 x1_r0.length), (6, .b x1_6), (7, .i x1_7)], [eR3 x1_r0]⟩ h0 ?_
            exact Jj2 x1_6 H
        · replace H := sF c1 H
          have Jj1 : ∀ (y1_r0 : List Int), stk (spliceref05_more.j1 y1_r0) (iter (spliceref05_more.step a0 a1) n) = some r → AK X 79 ((K79 11111 1)) (Back X [eR3 r] (.own 0 1 0 r.length)) ⟨48, [(5, .own 0 1 0 y1_r0.length)], [eR3 y1_r0]⟩ := by
            intro y1_r0 H
            refine goK hT 5 (K79 111111 1) ⟨48, [(4, .own 0 1 0 y1_r0.length)], [eR3 y1_r0]⟩ ?_
            obtain rfl := retC H
            exact ak_ret hf hX (av := .own 0 1 0 y1_r0.length) (by kernel_rfl) [0] (sel_of_eq (by kernel_rfl)) (by decide) (by rw [h0]; rfl) (by kernel_rfl) (fun _ h => all_cons (nr_vec (nlI .i64)) (fun _ h => all_nil h) h) (.own _ _ _ _)
          rw [decide_eq_false c1]
          refine goK hT 8 (K79 111110 1) ⟨48, [(1, .i a1), (5, .own 0 1 0 x1_r0.length), (42, .b (!x1_6))], [eR3 x1_r0]⟩ ?_
          by_cases c2 : x1_6 = true
          · replace H := sT c2 H
            rw [c2]
            refine goK hT 2 (K79 11111 1) ⟨48, [(5, .own 0 1 0 x1_r0.length)], [eR3 x1_r0]⟩ ?_
            refine cutK [0] ⟨48, [(5, .own 0 1 0 x1_r0.length)], [eR3 x1_r0]⟩ h0 ?_
            exact Jj1 x1_r0 H
          · replace H := sF c2 H
            rw [boF c2]
            refine goK hT 5 (K79 11111010 3) ⟨48, [(43, .own 0 1 0 x1_r0.length), (45, .own 1 1 0 1)], [eR3 x1_r0, .flat false 1 3 1 (fun j => [[.i a1]].getD j [])]⟩ ?_
            obtain ⟨h3, H⟩ := sC H
            refine ak_append1 (id := 0) (kk := 1) (by' := 8) (t := 106) (e := 3) (z := [.int .i64 0]) (dst := some 46) (id2 := 1) (e2 := 3) (fz := false) (k' := (K79 11111010 4)) hT (eI .i64) 0 x1_r0 a1 [46] (by kernel_rfl) (by kernel_rfl) (by kernel_rfl) (by kernel_rfl) (by kernel_rfl) (by kernel_rfl) (by kernel_rfl) h3 (by omega) (st' := ⟨48, [(46, .own 2 1 0 ((x1_r0 ++ [a1]).length))], [.gone, .flat false 1 3 1 (fun j => [[.i a1]].getD j []), eR3 (x1_r0 ++ [a1])]⟩) (by kernel_rfl) ?_
            refine goK hT 2 (K79 11111 1) ⟨48, [(5, .own 2 1 0 ((x1_r0 ++ [a1]).length))], [.gone, .flat false 1 3 1 (fun j => [[.i a1]].getD j []), eR3 (x1_r0 ++ [a1])]⟩ ?_
            refine cutK [2] ⟨48, [(5, .own 0 1 0 (x1_r0 ++ [a1]).length)], [eR3 (x1_r0 ++ [a1])]⟩ h0 ?_
            exact Jj1 (x1_r0 ++ [a1]) H
  refine cutK [0] ⟨48, [(0, .d (eL3 t0 a0)), (1, .i a1), (5, .own 0 1 0 ([] : List Int).length), (6, .b false), (7, .i 0)], [eR3 ([] : List Int)]⟩ h0 ?_
  obtain ⟨n, H⟩ := loopC H
  exact (L n) false 0 ([] : List Int) H


theorem spliceref05_keys.says {t0 : Bool} (a0 : List spliceref04_Pair) (a1 : spliceref04_Mut) {r : List Int} (H : spliceref05_keys a0 a1 = some r) : Says Try.prog 59 [] [.d (eL66 t0 a0), .d (eG45 a1)] [eR3 r] (.own 0 1 0 r.length) := by
  refine says_of Try.func59 rfl (nt := 37) rfl (Nat.le_of_ble_eq_true rfl) fun X hP h0 hX => ?_
  have hT : TabOk X.P T := hP ▸ tok
  have hf : X.P.funcs[59]? = some Try.f59 := hP ▸ Try.func59
  refine goK hT 16 (K59 111010 0) ⟨37, [(0, .d (eL66 t0 a0)), (3, .ptr 0 0 0 0), (5, .ns), (6, .i 0)], [.box 45 (eC45 a1)]⟩ ?_
  refine ak_nilS [0, 3, 5, 6] 5 1 3 (vec (eI .i64) 0 []) (st' := ⟨37, [(0, .d (eL66 t0 a0)), (3, .ptr 0 0 0 0), (5, .own 1 1 0 0), (6, .i 0)], [.box 45 (eC45 a1), eR3 ([] : List Int)]⟩) (by kernel_rfl) (by kernel_rfl) ?_
  have L : ∀ n, (∀ (x1_6 : Int) (x1_r1 : List Int), iter (spliceref05_keys.step a0 a1) n (.l1 x1_6 x1_r1) = some r → AK X 59 ((K59 111010 0)) (Back X [eR3 r] (.own 0 1 0 r.length)) ⟨37, [(0, .d (eL66 t0 a0)), (3, .ptr 0 0 0 0), (5, .own 1 1 0 x1_r1.length), (6, .i x1_6)], [.box 45 (eC45 a1), eR3 x1_r1]⟩) ∧ (∀ (x2_7 : Int) (x2_r1 : List Int), iter (spliceref05_keys.step a0 a1) n (.l2 x2_7 x2_r1) = some r → AK X 59 ((K59 1111010 0)) (Back X [eR3 r] (.own 0 1 0 r.length)) ⟨37, [(3, .ptr 0 0 0 0), (5, .own 1 1 0 x2_r1.length), (7, .i x2_7)], [.box 45 (eC45 a1), eR3 x2_r1]⟩) := by
    intro n
    induction n with
    | zero => exact ⟨fun _ _ H => iter0 H, fun _ _ H => iter0 H⟩
    | succ n ih =>
      refine ⟨?_, ?_⟩
      · intro x1_6 x1_r1 H
        refine goK hT 8 (K59 11101000 1) ⟨37, [(0, .d (eL66 t0 a0)), (3, .ptr 0 0 0 0), (5, .own 1 1 0 x1_r1.length), (6, .i x1_6), (11, .b (decide (x1_6 < (a0.length : Int))))], [.box 45 (eC45 a1), eR3 x1_r1]⟩ ?_
        by_cases c1 : x1_6 < (a0.length : Int)
        · replace H := sT c1 H
          rw [decide_eq_true c1]
          refine goK hT 2 (K59 1110100 1) ⟨37, [(0, .d (eL66 t0 a0)), (3, .ptr 0 0 0 0), (5, .own 1 1 0 x1_r1.length), (6, .i x1_6)], [.box 45 (eC45 a1), eR3 x1_r1]⟩ ?_
          refine goK hT 6 (K59 1110100100 3) ⟨37, [(0, .d (eL66 t0 a0)), (3, .ptr 0 0 0 0), (6, .i x1_6), (14, .own 1 1 0 x1_r1.length), (15, .d (eL66 t0 a0)), (16, .i x1_6)], [.box 45 (eC45 a1), eR3 x1_r1]⟩ ?_
          obtain ⟨h2, H⟩ := sC H
          refine ak_idx hT [0, 3, 6, 14, 17] (i := x1_6) (n := (a0.length : Int)) h2.1 h2.2 (k' := (K59 1110100100 4)) (st' := ⟨37, [(0, .d (eL66 t0 a0)), (3, .ptr 0 0 0 0), (6, .i x1_6), (14, .own 1 1 0 x1_r1.length), (17, .d (eP66 t0 a0 x1_6.toNat 0))], [.box 45 (eC45 a1), eR3 x1_r1]⟩) (by kernel_rfl) ?_
          refine goK hT 2 (K59 1110100100 6) ⟨37, [(0, .d (eL66 t0 a0)), (3, .ptr 0 0 0 0), (6, .i x1_6), (14, .own 1 1 0 x1_r1.length), (19, .i ((a0.getD x1_6.toNat spliceref04_Pair.z).Key))], [.box 45 (eC45 a1), eR3 x1_r1]⟩ ?_
          obtain ⟨v1, h3, H⟩ := sbC H
          refine ak_callP (avs := [.own 1 1 0 x1_r1.length, .i ((a0.getD x1_6.toNat spliceref04_Pair.z).Key)]) (dst := some 20) (k' := (K59 1110100100 7)) [0, 3, 6, 20] [] hP enters_79 (spliceref05_more.says (t0 := false) x1_r1 ((a0.getD x1_6.toNat spliceref04_Pair.z).Key) h3) (by kernel_rfl) (hands_none _) (.cons (.lend (ty := 3) (by kernel_rfl) rfl) (.cons (pass_d _) .nil)) (st' := ⟨37, [(0, .d (eL66 t0 a0)), (3, .ptr 0 0 0 0), (6, .i x1_6), (20, .own 2 1 0 v1.length)], [.box 45 (eC45 a1), eR3 x1_r1, eR3 v1]⟩) (by kernel_rfl) ?_
          refine goK hT 9 (K59 111010 0) ⟨37, [(0, .d (eL66 t0 a0)), (3, .ptr 0 0 0 0), (5, .own 2 1 0 v1.length), (6, .i (IntKind.wrap .i64 (x1_6 + 1)))], [.box 45 (eC45 a1), eR3 x1_r1, eR3 v1]⟩ ?_
          refine cutK [0, 2] ⟨37, [(0, .d (eL66 t0 a0)), (3, .ptr 0 0 0 0), (5, .own 1 1 0 v1.length), (6, .i (IntKind.wrap .i64 (x1_6 + 1)))], [.box 45 (eC45 a1), eR3 v1]⟩ h0 ?_
          exact ih.1 (IntKind.wrap .i64 (x1_6 + 1)) v1 H
        · replace H := sF c1 H
          rw [decide_eq_false c1]
          refine goK hT 9 (K59 1111010 0) ⟨37, [(3, .ptr 0 0 0 0), (5, .own 1 1 0 x1_r1.length), (7, .i 0)], [.box 45 (eC45 a1), eR3 x1_r1]⟩ ?_
          refine cutK [0, 1] ⟨37, [(3, .ptr 0 0 0 0), (5, .own 1 1 0 x1_r1.length), (7, .i 0)], [.box 45 (eC45 a1), eR3 x1_r1]⟩ h0 ?_
          exact ih.2 0 x1_r1 H
      · intro x2_7 x2_r1 H
        refine goK hT 9 (K59 111101000 1) ⟨37, [(3, .ptr 0 0 0 0), (5, .own 1 1 0 x2_r1.length), (7, .i x2_7), (25, .b (decide (x2_7 < (a1.Pairs.length : Int))))], [.box 45 (eC45 a1), eR3 x2_r1]⟩ ?_
        by_cases c4 : x2_7 < (a1.Pairs.length : Int)
        · replace H := sT c4 H
          rw [decide_eq_true c4]
          refine goK hT 2 (K59 11110100 1) ⟨37, [(3, .ptr 0 0 0 0), (5, .own 1 1 0 x2_r1.length), (7, .i x2_7)], [.box 45 (eC45 a1), eR3 x2_r1]⟩ ?_
          refine goK hT 7 (K59 11110100100 4) ⟨37, [(3, .ptr 0 0 0 0), (7, .i x2_7), (28, .own 1 1 0 x2_r1.length), (30, .d (eL66 true a1.Pairs)), (31, .i x2_7)], [.box 45 (eC45 a1), eR3 x2_r1]⟩ ?_
          obtain ⟨h5, H⟩ := sC H
          refine ak_idx hT [3, 7, 28, 32] (i := x2_7) (n := (a1.Pairs.length : Int)) h5.1 h5.2 (k' := (K59 11110100100 5)) (st' := ⟨37, [(3, .ptr 0 0 0 0), (7, .i x2_7), (28, .own 1 1 0 x2_r1.length), (32, .d (eP66 true a1.Pairs x2_7.toNat 0))], [.box 45 (eC45 a1), eR3 x2_r1]⟩) (by kernel_rfl) ?_
          refine goK hT 2 (K59 11110100100 7) ⟨37, [(3, .ptr 0 0 0 0), (7, .i x2_7), (28, .own 1 1 0 x2_r1.length), (34, .i ((a1.Pairs.getD x2_7.toNat spliceref04_Pair.z).Key))], [.box 45 (eC45 a1), eR3 x2_r1]⟩ ?_
          obtain ⟨v2, h6, H⟩ := sbC H
          refine ak_callP (avs := [.own 1 1 0 x2_r1.length, .i ((a1.Pairs.getD x2_7.toNat spliceref04_Pair.z).Key)]) (dst := some 35) (k' := (K59 11110100100 8)) [3, 7, 35] [] hP enters_79 (spliceref05_more.says (t0 := false) x2_r1 ((a1.Pairs.getD x2_7.toNat spliceref04_Pair.z).Key) h6) (by kernel_rfl) (hands_none _) (.cons (.lend (ty := 3) (by kernel_rfl) rfl) (.cons (pass_d _) .nil)) (st' := ⟨37, [(3, .ptr 0 0 0 0), (7, .i x2_7), (35, .own 2 1 0 v2.length)], [.box 45 (eC45 a1), eR3 x2_r1, eR3 v2]⟩) (by kernel_rfl) ?_
          refine goK hT 9 (K59 1111010 0) ⟨37, [(3, .ptr 0 0 0 0), (5, .own 2 1 0 v2.length), (7, .i (IntKind.wrap .i64 (x2_7 + 1)))], [.box 45 (eC45 a1), eR3 x2_r1, eR3 v2]⟩ ?_
          refine cutK [0, 2] ⟨37, [(3, .ptr 0 0 0 0), (5, .own 1 1 0 v2.length), (7, .i (IntKind.wrap .i64 (x2_7 + 1)))], [.box 45 (eC45 a1), eR3 v2]⟩ h0 ?_
          exact ih.2 (IntKind.wrap .i64 (x2_7 + 1)) v2 H
        · replace H := sF c4 H
          rw [decide_eq_false c4]
          refine goK hT 7 (K59 11111 1) ⟨37, [(4, .own 1 1 0 x2_r1.length)], [.box 45 (eC45 a1), eR3 x2_r1]⟩ ?_
          obtain rfl := retC H
          exact ak_ret hf hX (av := .own 1 1 0 x2_r1.length) (by kernel_rfl) [1] (sel_of_eq (by kernel_rfl)) (by decide) (by rw [h0]; rfl) (by kernel_rfl) (fun _ h => all_cons (nr_vec (nlI .i64)) (fun _ h => all_nil h) h) (.own _ _ _ _)
  refine cutK [0, 1] ⟨37, [(0, .d (eL66 t0 a0)), (3, .ptr 0 0 0 0), (5, .own 1 1 0 ([] : List Int).length), (6, .i 0)], [.box 45 (eC45 a1), eR3 ([] : List Int)]⟩ h0 ?_
  obtain ⟨n, H⟩ := loopC H
  exact (L n).1 0 ([] : List Int) H


theorem spliceref05_Get.says {t0 : Bool} (a0 : List spliceref04_Pair) (a1 : Int) {r : spliceref05_Cell} (H : spliceref05_Get a0 a1 = some r) : Says Try.prog 60 [] [.d (eL66 t0 a0), .i a1] [] (.d (eG109 r)) := by
  refine says_of Try.func60 rfl (nt := 26) rfl (Nat.le_of_ble_eq_true rfl) fun X hP h0 hX => ?_
  have hT : TabOk X.P T := hP ▸ tok
  have hf : X.P.funcs[60]? = some Try.f60 := hP ▸ Try.func60
  refine goK hT 11 (K60 11010 0) ⟨26, [(0, .d (eL66 t0 a0)), (1, .i a1), (4, .ptr 0 0 0 0), (5, .i 0)], [.box 109 [.i 0, .b false]]⟩ ?_
  have L : ∀ n, (∀ (x1_5 : Int), iter (spliceref05_Get.step a0 a1) n (.l1 x1_5) = some r → AK X 60 ((K60 11010 0)) (Back X [] (.d (eG109 r))) ⟨26, [(0, .d (eL66 t0 a0)), (1, .i a1), (4, .ptr 0 0 0 0), (5, .i x1_5)], [.box 109 [.i 0, .b false]]⟩) := by
    intro n
    induction n with
    | zero => exact fun _ H => iter0 H
    | succ n ih =>
      · intro x1_5 H
        refine goK hT 8 (K60 1101000 1) ⟨26, [(0, .d (eL66 t0 a0)), (1, .i a1), (4, .ptr 0 0 0 0), (5, .i x1_5), (9, .b (decide (x1_5 < (a0.length : Int))))], [.box 109 [.i 0, .b false]]⟩ ?_
        by_cases c1 : x1_5 < (a0.length : Int)
        · replace H := sT c1 H
          rw [decide_eq_true c1]
          refine goK hT 2 (K60 110100 1) ⟨26, [(0, .d (eL66 t0 a0)), (1, .i a1), (4, .ptr 0 0 0 0), (5, .i x1_5)], [.box 109 [.i 0, .b false]]⟩ ?_
          refine goK hT 6 (K60 1101001000 2) ⟨26, [(0, .d (eL66 t0 a0)), (1, .i a1), (4, .ptr 0 0 0 0), (5, .i x1_5), (12, .d (eL66 t0 a0)), (13, .i x1_5)], [.box 109 [.i 0, .b false]]⟩ ?_
          obtain ⟨h2, H⟩ := sC H
          refine ak_idx hT [0, 1, 4, 5, 14] (i := x1_5) (n := (a0.length : Int)) h2.1 h2.2 (k' := (K60 1101001000 3)) (st' := ⟨26, [(0, .d (eL66 t0 a0)), (1, .i a1), (4, .ptr 0 0 0 0), (5, .i x1_5), (14, .d (eP66 t0 a0 x1_5.toNat 0))], [.box 109 [.i 0, .b false]]⟩) (by kernel_rfl) ?_
          refine goK hT 5 (K60 110100100 1) ⟨26, [(0, .d (eL66 t0 a0)), (1, .i a1), (4, .ptr 0 0 0 0), (5, .i x1_5), (18, .b (((a0.getD x1_5.toNat spliceref04_Pair.z).Key) == a1))], [.box 109 [.i 0, .b false]]⟩ ?_
          by_cases c3 : ((a0.getD x1_5.toNat spliceref04_Pair.z).Key) = a1
          · replace H := sT c3 H
            rw [eqT c3]
            refine goK hT 5 (K60 110100100100 2) ⟨26, [(4, .ptr 0 0 0 0), (19, .d (eL66 t0 a0)), (20, .i x1_5)], [.box 109 [.i 0, .b false]]⟩ ?_
            refine ak_idx hT [4, 21] (i := x1_5) (n := (a0.length : Int)) h2.1 h2.2 (k' := (K60 110100100100 3)) (st' := ⟨26, [(4, .ptr 0 0 0 0), (21, .d (eP66 t0 a0 x1_5.toNat 0))], [.box 109 [.i 0, .b false]]⟩) (by kernel_rfl) ?_
            refine goK hT 5 (K60 11010010010 1) ⟨26, [(4, .ptr 0 0 0 0)], [.box 109 [.i ((a0.getD x1_5.toNat spliceref04_Pair.z).Val), .b true]]⟩ ?_
            obtain rfl := retC H
            exact ak_retM hT hf hX (av := .d (.agg [.i ((a0.getD x1_5.toNat spliceref04_Pair.z).Val), .b true])) (by kernel_rfl) [] (sel_of_eq (by kernel_rfl)) (by decide) (by rw [h0]; rfl) (by kernel_rfl) (fun _ h => all_nil h) (.d (.agg (spliceref05_Cell.nl _)))
          · replace H := sF c3 H
            rw [eqF c3]
            refine goK hT 3 (K60 1101001 1) ⟨26, [(0, .d (eL66 t0 a0)), (1, .i a1), (4, .ptr 0 0 0 0), (5, .i x1_5)], [.box 109 [.i 0, .b false]]⟩ ?_
            refine goK hT 6 (K60 11010 0) ⟨26, [(0, .d (eL66 t0 a0)), (1, .i a1), (4, .ptr 0 0 0 0), (5, .i (IntKind.wrap .i64 (x1_5 + 1)))], [.box 109 [.i 0, .b false]]⟩ ?_
            refine cutK [0] ⟨26, [(0, .d (eL66 t0 a0)), (1, .i a1), (4, .ptr 0 0 0 0), (5, .i (IntKind.wrap .i64 (x1_5 + 1)))], [.box 109 [.i 0, .b false]]⟩ h0 ?_
            exact ih (IntKind.wrap .i64 (x1_5 + 1)) H
        · replace H := sF c1 H
          rw [decide_eq_false c1]
          refine goK hT 7 (K60 111 1) ⟨26, [(4, .ptr 0 0 0 0)], [.box 109 [.i 0, .b false]]⟩ ?_
          obtain rfl := retC H
          exact ak_retM hT hf hX (av := .d (.agg [.i 0, .b false])) (by kernel_rfl) [] (sel_of_eq (by kernel_rfl)) (by decide) (by rw [h0]; rfl) (by kernel_rfl) (fun _ h => all_nil h) (.d (.agg (spliceref05_Cell.nl _)))
  refine cutK [0] ⟨26, [(0, .d (eL66 t0 a0)), (1, .i a1), (4, .ptr 0 0 0 0), (5, .i 0)], [.box 109 [.i 0, .b false]]⟩ h0 ?_
  obtain ⟨n, H⟩ := loopC H
  exact (L n) 0 H


theorem spliceref04_Touches.says (a0 : spliceref04_Mut) (a1 : Int) {r : Bool} (H : spliceref04_Touches a0 a1 = some r) : Says Try.prog 61 [] [.d (eG45 a0), .i a1] [] (.b r) := by
  refine says_of Try.func61 rfl (nt := 36) rfl (Nat.le_of_ble_eq_true rfl) fun X hP h0 hX => ?_
  have hT : TabOk X.P T := hP ▸ tok
  have hf : X.P.funcs[61]? = some Try.f61 := hP ▸ Try.func61
  refine goK hT 12 (K61 110 1) ⟨36, [(1, .i a1), (2, .ptr 0 0 0 0), (8, .b (a0.Kind == 2))], [.box 45 (eC45 a0)]⟩ ?_
  by_cases c1 : a0.Kind = 2
  · replace H := iT c1 H
    have Jj1 : ∀ (y1_4 : Bool), (spliceref04_Touches.j1 y1_4) = some r → AK X 61 ((K61 11010 1)) (Back X [] (.b r)) ⟨36, [(4, .b y1_4)], []⟩ := by
      intro y1_4 H
      obtain rfl := retC H
      exact ak_ret hf hX (av := .b y1_4) (by kernel_rfl) [] (sel_of_eq (by kernel_rfl)) (by decide) (by rw [h0]; rfl) (by kernel_rfl) (fun _ h => all_nil h) (.d (.v _))
    rw [eqT c1]
    refine goK hT 9 (K61 110100 6) ⟨36, [(1, .i a1), (2, .ptr 0 0 0 0), (14, .b (decide (a1 ≥ a0.Over.Lo)))], [.box 45 (eC45 a0)]⟩ ?_
    by_cases c2 : a1 ≥ a0.Over.Lo
    · replace H := iT c2 H
      rw [decide_eq_true c2]
      refine goK hT 8 (K61 11010 1) ⟨36, [(4, .b (decide (a1 < a0.Over.Hi)))], [.box 45 (eC45 a0)]⟩ ?_
      refine cutK [] ⟨36, [(4, .b (decide (a1 < a0.Over.Hi)))], []⟩ h0 ?_
      exact Jj1 (decide (a1 < a0.Over.Hi)) H
    · replace H := iF c2 H
      rw [decide_eq_false c2]
      refine goK hT 8 (K61 11010 1) ⟨36, [(4, .b false)], [.box 45 (eC45 a0)]⟩ ?_
      refine cutK [] ⟨36, [(4, .b false)], []⟩ h0 ?_
      exact Jj1 false H
  · replace H := iF c1 H
    rw [eqF c1]
    refine goK hT 2 (K61 11 1) ⟨36, [(1, .i a1), (2, .ptr 0 0 0 0)], [.box 45 (eC45 a0)]⟩ ?_
    refine goK hT 7 (K61 111010 0) ⟨36, [(1, .i a1), (2, .ptr 0 0 0 0), (5, .i 0)], [.box 45 (eC45 a0)]⟩ ?_
    have L : ∀ n, (∀ (x1_5 : Int), iter (spliceref04_Touches.step a0 a1) n (.l1 x1_5) = some r → AK X 61 ((K61 111010 0)) (Back X [] (.b r)) ⟨36, [(1, .i a1), (2, .ptr 0 0 0 0), (5, .i x1_5)], [.box 45 (eC45 a0)]⟩) := by
      intro n
      induction n with
      | zero => exact fun _ H => iter0 H
      | succ n ih =>
        · intro x1_5 H
          refine goK hT 9 (K61 11101000 1) ⟨36, [(1, .i a1), (2, .ptr 0 0 0 0), (5, .i x1_5), (25, .b (decide (x1_5 < (a0.Pairs.length : Int))))], [.box 45 (eC45 a0)]⟩ ?_
          by_cases c3 : x1_5 < (a0.Pairs.length : Int)
          · replace H := sT c3 H
            rw [decide_eq_true c3]
            refine goK hT 2 (K61 1110100 1) ⟨36, [(1, .i a1), (2, .ptr 0 0 0 0), (5, .i x1_5)], [.box 45 (eC45 a0)]⟩ ?_
            refine goK hT 7 (K61 11101001000 3) ⟨36, [(1, .i a1), (2, .ptr 0 0 0 0), (5, .i x1_5), (29, .d (eL66 true a0.Pairs)), (30, .i x1_5)], [.box 45 (eC45 a0)]⟩ ?_
            obtain ⟨h4, H⟩ := sC H
            refine ak_idx hT [1, 2, 5, 31] (i := x1_5) (n := (a0.Pairs.length : Int)) h4.1 h4.2 (k' := (K61 11101001000 4)) (st' := ⟨36, [(1, .i a1), (2, .ptr 0 0 0 0), (5, .i x1_5), (31, .d (eP66 true a0.Pairs x1_5.toNat 0))], [.box 45 (eC45 a0)]⟩) (by kernel_rfl) ?_
            refine goK hT 5 (K61 1110100100 1) ⟨36, [(1, .i a1), (2, .ptr 0 0 0 0), (5, .i x1_5), (35, .b (((a0.Pairs.getD x1_5.toNat spliceref04_Pair.z).Key) == a1))], [.box 45 (eC45 a0)]⟩ ?_
            by_cases c5 : ((a0.Pairs.getD x1_5.toNat spliceref04_Pair.z).Key) = a1
            · replace H := sT c5 H
              rw [eqT c5]
              refine goK hT 5 (K61 111010010010 1) ⟨36, [(4, .b true)], [.box 45 (eC45 a0)]⟩ ?_
              obtain rfl := retC H
              exact ak_ret hf hX (av := .b true) (by kernel_rfl) [] (sel_of_eq (by kernel_rfl)) (by decide) (by rw [h0]; rfl) (by kernel_rfl) (fun _ h => all_nil h) (.d (.v _))
            · replace H := sF c5 H
              rw [eqF c5]
              refine goK hT 3 (K61 11101001 1) ⟨36, [(1, .i a1), (2, .ptr 0 0 0 0), (5, .i x1_5)], [.box 45 (eC45 a0)]⟩ ?_
              refine goK hT 6 (K61 111010 0) ⟨36, [(1, .i a1), (2, .ptr 0 0 0 0), (5, .i (IntKind.wrap .i64 (x1_5 + 1)))], [.box 45 (eC45 a0)]⟩ ?_
              refine cutK [0] ⟨36, [(1, .i a1), (2, .ptr 0 0 0 0), (5, .i (IntKind.wrap .i64 (x1_5 + 1)))], [.box 45 (eC45 a0)]⟩ h0 ?_
              exact ih (IntKind.wrap .i64 (x1_5 + 1)) H
          · replace H := sF c3 H
            rw [decide_eq_false c3]
            refine goK hT 6 (K61 1111 1) ⟨36, [(4, .b false)], [.box 45 (eC45 a0)]⟩ ?_
            obtain rfl := retC H
            exact ak_ret hf hX (av := .b false) (by kernel_rfl) [] (sel_of_eq (by kernel_rfl)) (by decide) (by rw [h0]; rfl) (by kernel_rfl) (fun _ h => all_nil h) (.d (.v _))
    refine cutK [0] ⟨36, [(1, .i a1), (2, .ptr 0 0 0 0), (5, .i 0)], [.box 45 (eC45 a0)]⟩ h0 ?_
    obtain ⟨n, H⟩ := loopC H
    exact (L n) 0 H


theorem spliceref03_Has.says {t0 : Bool} (a0 : List spliceref03_Span) (a1 : Int) {r : Bool} (H : spliceref03_Has a0 a1 = some r) : Says Try.prog 62 [] [.d (eL43 t0 a0), .i a1] [] (.b r) := by
  refine says_of Try.func62 rfl (nt := 35) rfl (Nat.le_of_ble_eq_true rfl) fun X hP h0 hX => ?_
  have hT : TabOk X.P T := hP ▸ tok
  have hf : X.P.funcs[62]? = some Try.f62 := hP ▸ Try.func62
  refine goK hT 11 (K62 11010 0) ⟨35, [(0, .d (eL43 t0 a0)), (1, .i a1), (5, .i 0)], []⟩ ?_
  have L : ∀ n, (∀ (x1_5 : Int), iter (spliceref03_Has.step a0 a1) n (.l1 x1_5) = some r → AK X 62 ((K62 11010 0)) (Back X [] (.b r)) ⟨35, [(0, .d (eL43 t0 a0)), (1, .i a1), (5, .i x1_5)], []⟩) := by
    intro n
    induction n with
    | zero => exact fun _ H => iter0 H
    | succ n ih =>
      · intro x1_5 H
        refine goK hT 8 (K62 1101000 1) ⟨35, [(0, .d (eL43 t0 a0)), (1, .i a1), (5, .i x1_5), (9, .b (decide (x1_5 < (a0.length : Int))))], []⟩ ?_
        by_cases c1 : x1_5 < (a0.length : Int)
        · replace H := sT c1 H
          rw [decide_eq_true c1]
          refine goK hT 2 (K62 110100 1) ⟨35, [(0, .d (eL43 t0 a0)), (1, .i a1), (5, .i x1_5)], []⟩ ?_
          refine goK hT 6 (K62 1101001000 2) ⟨35, [(0, .d (eL43 t0 a0)), (1, .i a1), (5, .i x1_5), (12, .d (eL43 t0 a0)), (13, .i x1_5)], []⟩ ?_
          obtain ⟨h2, H⟩ := sC H
          have Jj1 : ∀ (y1_34 : Bool), stk (spliceref03_Has.j1 x1_5 y1_34) (iter (spliceref03_Has.step a0 a1) n) = some r → AK X 62 ((K62 110100100 1)) (Back X [] (.b r)) ⟨35, [(0, .d (eL43 t0 a0)), (1, .i a1), (5, .i x1_5), (34, .b y1_34)], []⟩ := by
            intro y1_34 H
            by_cases c5 : y1_34 = true
            · replace H := sT c5 H
              rw [c5]
              refine goK hT 5 (K62 11010010010 1) ⟨35, [(4, .b true)], []⟩ ?_
              obtain rfl := retC H
              exact ak_ret hf hX (av := .b true) (by kernel_rfl) [] (sel_of_eq (by kernel_rfl)) (by decide) (by rw [h0]; rfl) (by kernel_rfl) (fun _ h => all_nil h) (.d (.v _))
            · replace H := sF c5 H
              rw [boF c5]
              refine goK hT 3 (K62 1101001 1) ⟨35, [(0, .d (eL43 t0 a0)), (1, .i a1), (5, .i x1_5)], []⟩ ?_
              refine goK hT 6 (K62 11010 0) ⟨35, [(0, .d (eL43 t0 a0)), (1, .i a1), (5, .i (IntKind.wrap .i64 (x1_5 + 1)))], []⟩ ?_
              refine cutK [] ⟨35, [(0, .d (eL43 t0 a0)), (1, .i a1), (5, .i (IntKind.wrap .i64 (x1_5 + 1)))], []⟩ h0 ?_
              exact ih (IntKind.wrap .i64 (x1_5 + 1)) H
          refine ak_idx hT [0, 1, 5, 14] (i := x1_5) (n := (a0.length : Int)) h2.1 h2.2 (k' := (K62 1101001000 3)) (st' := ⟨35, [(0, .d (eL43 t0 a0)), (1, .i a1), (5, .i x1_5), (14, .d (eP43 t0 a0 x1_5.toNat 0))], []⟩) (by kernel_rfl) ?_
          refine goK hT 1 (K62 1101001000 4) ⟨35, [(0, .d (eL43 t0 a0)), (1, .i a1), (5, .i x1_5), (15, .d (eG43 (a0.getD x1_5.toNat spliceref03_Span.z)))], []⟩ ?_
          refine ak_callP (avs := [.d (eG43 (a0.getD x1_5.toNat spliceref03_Span.z))]) (dst := some 16) (k' := (K62 1101001000 5)) [0, 1, 5, 16] [] hP enters_40 (spliceref03_One.says (a0.getD x1_5.toNat spliceref03_Span.z)) (by kernel_rfl) (hands_none _) (.cons (pass_d _) .nil) (st' := ⟨35, [(0, .d (eL43 t0 a0)), (1, .i a1), (5, .i x1_5), (16, .b (spliceref03_One (a0.getD x1_5.toNat spliceref03_Span.z)))], []⟩) (by kernel_rfl) ?_
          refine goK hT 1 (K62 1101001000 6) ⟨35, [(0, .d (eL43 t0 a0)), (1, .i a1), (5, .i x1_5), (17, .b (spliceref03_One (a0.getD x1_5.toNat spliceref03_Span.z)))], []⟩ ?_
          by_cases c3 : (spliceref03_One (a0.getD x1_5.toNat spliceref03_Span.z)) = true
          · replace H := sT c3 H
            rw [c3]
            refine goK hT 3 (K62 1101001000 9) ⟨35, [(0, .d (eL43 t0 a0)), (1, .i a1), (5, .i x1_5), (17, .b true), (18, .i a1), (19, .d (eL43 t0 a0)), (20, .i x1_5)], []⟩ ?_
            refine ak_idx hT [0, 1, 5, 17, 18, 21] (i := x1_5) (n := (a0.length : Int)) h2.1 h2.2 (k' := (K62 1101001000 10)) (st' := ⟨35, [(0, .d (eL43 t0 a0)), (1, .i a1), (5, .i x1_5), (17, .b true), (18, .i a1), (21, .d (eP43 t0 a0 x1_5.toNat 0))], []⟩) (by kernel_rfl) ?_
            refine goK hT 5 (K62 1101001000 15) ⟨35, [(0, .d (eL43 t0 a0)), (1, .i a1), (5, .i x1_5), (26, .b (decide (a1 ≥ ((a0.getD x1_5.toNat spliceref03_Span.z).Lo))))], []⟩ ?_
            by_cases c4 : a1 ≥ ((a0.getD x1_5.toNat spliceref03_Span.z).Lo)
            · replace H := sT c4 H
              rw [decide_eq_true c4]
              refine goK hT 3 (K62 1101001000 18) ⟨35, [(0, .d (eL43 t0 a0)), (1, .i a1), (5, .i x1_5), (26, .b true), (27, .i a1), (28, .d (eL43 t0 a0)), (29, .i x1_5)], []⟩ ?_
              refine ak_idx hT [0, 1, 5, 26, 27, 30] (i := x1_5) (n := (a0.length : Int)) h2.1 h2.2 (k' := (K62 1101001000 19)) (st' := ⟨35, [(0, .d (eL43 t0 a0)), (1, .i a1), (5, .i x1_5), (26, .b true), (27, .i a1), (30, .d (eP43 t0 a0 x1_5.toNat 0))], []⟩) (by kernel_rfl) ?_
              refine goK hT 5 (K62 110100100 1) ⟨35, [(0, .d (eL43 t0 a0)), (1, .i a1), (5, .i x1_5), (34, .b (decide (a1 < ((a0.getD x1_5.toNat spliceref03_Span.z).Hi))))], []⟩ ?_
              refine cutK [] ⟨35, [(0, .d (eL43 t0 a0)), (1, .i a1), (5, .i x1_5), (34, .b (decide (a1 < ((a0.getD x1_5.toNat spliceref03_Span.z).Hi))))], []⟩ h0 ?_
              exact Jj1 (decide (a1 < ((a0.getD x1_5.toNat spliceref03_Span.z).Hi))) H
            · replace H := sF c4 H
              rw [decide_eq_false c4]
              refine goK hT 9 (K62 110100100 1) ⟨35, [(0, .d (eL43 t0 a0)), (1, .i a1), (5, .i x1_5), (34, .b false)], []⟩ ?_
              refine cutK [] ⟨35, [(0, .d (eL43 t0 a0)), (1, .i a1), (5, .i x1_5), (34, .b false)], []⟩ h0 ?_
              exact Jj1 false H
          · replace H := sF c3 H
            rw [boF c3]
            refine goK hT 18 (K62 110100100 1) ⟨35, [(0, .d (eL43 t0 a0)), (1, .i a1), (5, .i x1_5), (34, .b false)], []⟩ ?_
            refine cutK [] ⟨35, [(0, .d (eL43 t0 a0)), (1, .i a1), (5, .i x1_5), (34, .b false)], []⟩ h0 ?_
            exact Jj1 false H
        · replace H := sF c1 H
          rw [decide_eq_false c1]
          refine goK hT 6 (K62 111 1) ⟨35, [(4, .b false)], []⟩ ?_
          obtain rfl := retC H
          exact ak_ret hf hX (av := .b false) (by kernel_rfl) [] (sel_of_eq (by kernel_rfl)) (by decide) (by rw [h0]; rfl) (by kernel_rfl) (fun _ h => all_nil h) (.d (.v _))
  refine cutK [] ⟨35, [(0, .d (eL43 t0 a0)), (1, .i a1), (5, .i 0)], []⟩ h0 ?_
  obtain ⟨n, H⟩ := loopC H
  exact (L n) 0 H


theorem spliceref05_within.says (a0 : Int) : Says Try.prog 80 [] [.i a0] [] (.i (spliceref05_within a0)) := by
  obtain ⟨r, H⟩ : ∃ r, spliceref05_within a0 = r := ⟨_, rfl⟩
  rw [H]
  refine says_of Try.func80 rfl (nt := 8) rfl (Nat.le_of_ble_eq_true rfl) fun X hP h0 hX => ?_
  have hT : TabOk X.P T := hP ▸ tok
  have hf : X.P.funcs[80]? = some Try.f80 := hP ▸ Try.func80
  refine goK hT 10 (K80 110 1) ⟨8, [(0, .i a0), (4, .b (decide (a0 > 1099511627776)))], []⟩ ?_
  by_cases c1 : a0 > 1099511627776
  · replace H := iT c1 H
    rw [decide_eq_true c1]
    refine goK hT 5 (K80 11010 1) ⟨8, [(2, .i 1099511627776)], []⟩ ?_
    obtain rfl := H
    exact ak_ret hf hX (av := .i 1099511627776) (by kernel_rfl) [] (sel_of_eq (by kernel_rfl)) (by decide) (by rw [h0]; rfl) (by kernel_rfl) (fun _ h => all_nil h) (.d (.v _))
  · replace H := iF c1 H
    rw [decide_eq_false c1]
    refine goK hT 2 (K80 11 1) ⟨8, [(0, .i a0)], []⟩ ?_
    refine goK hT 6 (K80 1110 1) ⟨8, [(0, .i a0), (6, .b (decide (a0 < (-1099511627776))))], []⟩ ?_
    by_cases c2 : a0 < (-1099511627776)
    · replace H := iT c2 H
      rw [decide_eq_true c2]
      refine goK hT 5 (K80 111010 1) ⟨8, [(2, .i (-1099511627776))], []⟩ ?_
      obtain rfl := H
      exact ak_ret hf hX (av := .i (-1099511627776)) (by kernel_rfl) [] (sel_of_eq (by kernel_rfl)) (by decide) (by rw [h0]; rfl) (by kernel_rfl) (fun _ h => all_nil h) (.d (.v _))
    · replace H := iF c2 H
      rw [decide_eq_false c2]
      refine goK hT 2 (K80 111 1) ⟨8, [(0, .i a0)], []⟩ ?_
      refine goK hT 5 (K80 1111 1) ⟨8, [(2, .i a0)], []⟩ ?_
      obtain rfl := H
      exact ak_ret hf hX (av := .i a0) (by kernel_rfl) [] (sel_of_eq (by kernel_rfl)) (by decide) (by rw [h0]; rfl) (by kernel_rfl) (fun _ h => all_nil h) (.d (.v _))


theorem spliceref05_Cells.says (a0 : spliceref05_Cell) (a1 : spliceref04_Mut) (a2 : Int) {r : spliceref05_Cell × Bool} (H : spliceref05_Cells a0 a1 a2 = some r) : Says Try.prog 63 [] [.d (eG109 a0), .d (eG45 a1), .i a2] [] (.tup [.d (eG109 r.1), .b r.2]) := by
  refine says_of Try.func63 rfl (nt := 116) rfl (Nat.le_of_ble_eq_true rfl) fun X hP h0 hX => ?_
  have hT : TabOk X.P T := hP ▸ tok
  have hf : X.P.funcs[63]? = some Try.f63 := hP ▸ Try.func63
  refine goK hT 14 (K63 110 1) ⟨116, [(2, .i a2), (3, .ptr 0 0 0 0), (4, .ptr 1 0 0 0), (6, .ptr 2 0 0 0), (12, .b (a1.Kind == 2))], [.box 109 (eC109 a0), .box 45 (eC45 a1), .box 109 [.i 0, .b false]]⟩ ?_
  by_cases c1 : a1.Kind = 2
  · replace H := iT c1 H
    rw [eqT c1]
    refine goK hT 7 (K63 11010 1) ⟨116, [(6, .ptr 2 0 0 0), (7, .b true)], [.box 109 (eC109 a0), .box 45 (eC45 a1), .box 109 [.i 0, .b false]]⟩ ?_
    obtain rfl := retC H
    exact ak_retM hT hf hX (av := .tup [.d (.agg [.i 0, .b false]), .b true]) (by kernel_rfl) [] (sel_of_eq (by kernel_rfl)) (by decide) (by rw [h0]; rfl) (by kernel_rfl) (fun _ h => all_nil h) (.tup (.cons (.d (.agg (spliceref05_Cell.nl _))) (.cons (.d (.v _)) .nil)))
  · replace H := iF c1 H
    rw [eqF c1]
    refine goK hT 2 (K63 11 1) ⟨116, [(2, .i a2), (3, .ptr 0 0 0 0), (4, .ptr 1 0 0 0), (6, .ptr 2 0 0 0)], [.box 109 (eC109 a0), .box 45 (eC45 a1), .box 109 [.i 0, .b false]]⟩ ?_
    refine goK hT 7 (K63 1110 1) ⟨116, [(2, .i a2), (3, .ptr 0 0 0 0), (4, .ptr 1 0 0 0), (6, .ptr 2 0 0 0), (16, .b (a1.Kind == 3))], [.box 109 (eC109 a0), .box 45 (eC45 a1), .box 109 [.i 0, .b false]]⟩ ?_
    by_cases c2 : a1.Kind = 3
    · replace H := iT c2 H
      rw [eqT c2]
      refine goK hT 2 (K63 111010 0) ⟨116, [(3, .ptr 0 0 0 0), (4, .ptr 1 0 0 0), (6, .ptr 2 0 0 0)], [.box 109 (eC109 a0), .box 45 (eC45 a1), .box 109 [.i 0, .b false]]⟩ ?_
      obtain ⟨h3, H⟩ := iC H
      refine drawK (hP ▸ mixed) 7 [3, 4, 6] [some (.ptr 0 0 0 0), some (.i a0.Val), some (.ptr 1 0 0 3), some (.d (eL66 true a1.Pairs)), some (.d (eP66 true a1.Pairs 0 0)), some (.d (eP66 true a1.Pairs 0 1)), some (.i ((a1.Pairs.getD 0 spliceref04_Pair.z).Val))] (opG (opG (opS (opG (opG (opG (opG op0 hT) hT) hT) hT) (fun R rest h => ak_idx0 hT (i := 0) (n := (a1.Pairs.length : Int)) h3.1 h3.2 (by kernel_rfl) h)) hT) hT) ?_
      refine goK hT 2 (K63 1110100 9) ⟨116, [(3, .ptr 0 0 0 0), (6, .ptr 2 0 0 0), (8, .i (IntKind.wrap .i64 (a0.Val + ((a1.Pairs.getD 0 spliceref04_Pair.z).Val))))], [.box 109 (eC109 a0), .box 45 (eC45 a1), .box 109 [.i 0, .b false]]⟩ ?_
      obtain ⟨v1, h4, H⟩ := idC H
      have Jj1 : ∀ (y1_30 : Bool), (spliceref05_Cells.j1 a0 v1 y1_30) = some r → AK X 63 ((K63 11101010 1)) (Back X [] (.tup [.d (eG109 r.1), .b r.2])) ⟨116, [(3, .ptr 0 0 0 0), (6, .ptr 1 0 0 0), (8, .i v1), (30, .b y1_30)], [.box 109 (eC109 a0), .box 109 [.i 0, .b false]]⟩ := by
        intro y1_30 H
        by_cases c6 : y1_30 = true
        · replace H := iT c6 H
          rw [c6]
          refine goK hT 7 (K63 1110101010 1) ⟨116, [(6, .ptr 1 0 0 0), (7, .b false)], [.box 109 (eC109 a0), .box 109 (eC109 a0)]⟩ ?_
          obtain rfl := retC H
          exact ak_retM hT hf hX (av := .tup [.d (eG109 a0), .b false]) (by kernel_rfl) [] (sel_of_eq (by kernel_rfl)) (by decide) (by rw [h0]; rfl) (by kernel_rfl) (fun _ h => all_nil h) (.tup (.cons (.d (.agg (spliceref05_Cell.nl _))) (.cons (.d (.v _)) .nil)))
        · replace H := iF c6 H
          rw [boF c6]
          refine goK hT 2 (K63 1110101 1) ⟨116, [(6, .ptr 1 0 0 0), (8, .i v1)], [.box 109 (eC109 a0), .box 109 [.i 0, .b false]]⟩ ?_
          refine goK hT 7 (K63 11101011 1) ⟨116, [(6, .ptr 1 0 0 0), (7, .b true)], [.box 109 (eC109 a0), .box 109 [.i v1, .b true]]⟩ ?_
          obtain rfl := retC H
          exact ak_retM hT hf hX (av := .tup [.d (.agg [.i v1, .b true]), .b true]) (by kernel_rfl) [] (sel_of_eq (by kernel_rfl)) (by decide) (by rw [h0]; rfl) (by kernel_rfl) (fun _ h => all_nil h) (.tup (.cons (.d (.agg (spliceref05_Cell.nl _))) (.cons (.d (.v _)) .nil)))
      rw [← h4]
      refine goK hT 7 (K63 111010100 3) ⟨116, [(3, .ptr 0 0 0 0), (6, .ptr 2 0 0 0), (8, .i v1), (27, .b (decide (v1 < 0)))], [.box 109 (eC109 a0), .box 45 (eC45 a1), .box 109 [.i 0, .b false]]⟩ ?_
      by_cases c5 : v1 < 0
      · replace H := iT c5 H
        rw [decide_eq_true c5]
        refine goK hT 4 (K63 11101010 1) ⟨116, [(3, .ptr 0 0 0 0), (6, .ptr 2 0 0 0), (8, .i v1), (30, .b true)], [.box 109 (eC109 a0), .box 45 (eC45 a1), .box 109 [.i 0, .b false]]⟩ ?_
        refine cutK [0, 2] ⟨116, [(3, .ptr 0 0 0 0), (6, .ptr 1 0 0 0), (8, .i v1), (30, .b true)], [.box 109 (eC109 a0), .box 109 [.i 0, .b false]]⟩ h0 ?_
        exact Jj1 true H
      · replace H := iF c5 H
        rw [decide_eq_false c5]
        refine goK hT 4 (K63 11101010 1) ⟨116, [(3, .ptr 0 0 0 0), (6, .ptr 2 0 0 0), (8, .i v1), (30, .b (decide (v1 > 1099511627776)))], [.box 109 (eC109 a0), .box 45 (eC45 a1), .box 109 [.i 0, .b false]]⟩ ?_
        refine cutK [0, 2] ⟨116, [(3, .ptr 0 0 0 0), (6, .ptr 1 0 0 0), (8, .i v1), (30, .b (decide (v1 > 1099511627776)))], [.box 109 (eC109 a0), .box 109 [.i 0, .b false]]⟩ h0 ?_
        exact Jj1 (decide (v1 > 1099511627776)) H
    · replace H := iF c2 H
      rw [eqF c2]
      refine goK hT 2 (K63 111 1) ⟨116, [(2, .i a2), (3, .ptr 0 0 0 0), (4, .ptr 1 0 0 0), (6, .ptr 2 0 0 0)], [.box 109 (eC109 a0), .box 45 (eC45 a1), .box 109 [.i 0, .b false]]⟩ ?_
      refine goK hT 7 (K63 11110 1) ⟨116, [(2, .i a2), (3, .ptr 0 0 0 0), (4, .ptr 1 0 0 0), (6, .ptr 2 0 0 0), (36, .b (a1.Kind == 4))], [.box 109 (eC109 a0), .box 45 (eC45 a1), .box 109 [.i 0, .b false]]⟩ ?_
      by_cases c7 : a1.Kind = 4
      · replace H := iT c7 H
        have Jj2 : ∀ (y2_55 : Bool), (spliceref05_Cells.j2 a0 a1 y2_55) = some r → AK X 63 ((K63 11110100 1)) (Back X [] (.tup [.d (eG109 r.1), .b r.2])) ⟨116, [(3, .ptr 0 0 0 0), (4, .ptr 1 0 0 0), (6, .ptr 2 0 0 0), (55, .b y2_55)], [.box 109 (eC109 a0), .box 45 (eC45 a1), .box 109 [.i 0, .b false]]⟩ := by
          intro y2_55 H
          by_cases c10 : y2_55 = true
          · replace H := iT c10 H
            rw [c10]
            refine goK hT 7 (K63 1111010010 1) ⟨116, [(6, .ptr 2 0 0 0), (7, .b false)], [.box 109 (eC109 a0), .box 45 (eC45 a1), .box 109 (eC109 a0)]⟩ ?_
            obtain rfl := retC H
            exact ak_retM hT hf hX (av := .tup [.d (eG109 a0), .b false]) (by kernel_rfl) [] (sel_of_eq (by kernel_rfl)) (by decide) (by rw [h0]; rfl) (by kernel_rfl) (fun _ h => all_nil h) (.tup (.cons (.d (.agg (spliceref05_Cell.nl _))) (.cons (.d (.v _)) .nil)))
          · replace H := iF c10 H
            rw [boF c10]
            refine goK hT 2 (K63 1111010 1) ⟨116, [(4, .ptr 1 0 0 0), (6, .ptr 2 0 0 0)], [.box 109 (eC109 a0), .box 45 (eC45 a1), .box 109 [.i 0, .b false]]⟩ ?_
            refine goK hT 4 (K63 111101010 2) ⟨116, [(6, .ptr 2 0 0 0), (58, .d (eL66 true a1.Pairs))], [.box 109 (eC109 a0), .box 45 (eC45 a1), .box 109 [.i 0, .b false]]⟩ ?_
            obtain ⟨h11, H⟩ := iC H
            refine ak_idx hT [6, 59] (i := 0) (n := (a1.Pairs.length : Int)) h11.1 h11.2 (k' := (K63 111101010 3)) (st' := ⟨116, [(6, .ptr 2 0 0 0), (59, .d (eP66 true a1.Pairs 0 0))], [.box 109 (eC109 a0), .box 45 (eC45 a1), .box 109 [.i 0, .b false]]⟩) (by kernel_rfl) ?_
            refine goK hT 6 (K63 11110101 1) ⟨116, [(6, .ptr 2 0 0 0), (7, .b true)], [.box 109 (eC109 a0), .box 45 (eC45 a1), .box 109 [.i ((a1.Pairs.getD 0 spliceref04_Pair.z).Val), .b true]]⟩ ?_
            obtain rfl := retC H
            exact ak_retM hT hf hX (av := .tup [.d (.agg [.i ((a1.Pairs.getD 0 spliceref04_Pair.z).Val), .b true]), .b true]) (by kernel_rfl) [] (sel_of_eq (by kernel_rfl)) (by decide) (by rw [h0]; rfl) (by kernel_rfl) (fun _ h => all_nil h) (.tup (.cons (.d (.agg (spliceref05_Cell.nl _))) (.cons (.d (.v _)) .nil)))
        rw [eqT c7]
        refine goK hT 7 (K63 111101000 3) ⟨116, [(3, .ptr 0 0 0 0), (4, .ptr 1 0 0 0), (6, .ptr 2 0 0 0), (39, .b a0.Some)], [.box 109 (eC109 a0), .box 45 (eC45 a1), .box 109 [.i 0, .b false]]⟩ ?_
        by_cases c8 : a0.Some = true
        · replace H := iT c8 H
          rw [c8]
          refine goK hT 7 (K63 111101000 10) ⟨116, [(3, .ptr 0 0 0 0), (4, .ptr 1 0 0 0), (6, .ptr 2 0 0 0), (46, .b (a0.Val != a1.Old))], [.box 109 (eC109 a0), .box 45 (eC45 a1), .box 109 [.i 0, .b false]]⟩ ?_
          by_cases c9 : a0.Val = a1.Old
          · replace H := iT c9 H
            rw [neF c9]
            refine goK hT 4 (K63 111101000 14) ⟨116, [(3, .ptr 0 0 0 0), (4, .ptr 1 0 0 0), (6, .ptr 2 0 0 0), (46, .b false), (50, .b (!a0.Some))], [.box 109 (eC109 a0), .box 45 (eC45 a1), .box 109 [.i 0, .b false]]⟩ ?_
            rw [c8]
            refine goK hT 6 (K63 11110100 1) ⟨116, [(3, .ptr 0 0 0 0), (4, .ptr 1 0 0 0), (6, .ptr 2 0 0 0), (55, .b false)], [.box 109 (eC109 a0), .box 45 (eC45 a1), .box 109 [.i 0, .b false]]⟩ ?_
            refine cutK [0, 1, 2] ⟨116, [(3, .ptr 0 0 0 0), (4, .ptr 1 0 0 0), (6, .ptr 2 0 0 0), (55, .b false)], [.box 109 (eC109 a0), .box 45 (eC45 a1), .box 109 [.i 0, .b false]]⟩ h0 ?_
            exact Jj2 false H
          · replace H := iF c9 H
            rw [neT c9]
            refine goK hT 10 (K63 11110100 1) ⟨116, [(3, .ptr 0 0 0 0), (4, .ptr 1 0 0 0), (6, .ptr 2 0 0 0), (55, .b true)], [.box 109 (eC109 a0), .box 45 (eC45 a1), .box 109 [.i 0, .b false]]⟩ ?_
            refine cutK [0, 1, 2] ⟨116, [(3, .ptr 0 0 0 0), (4, .ptr 1 0 0 0), (6, .ptr 2 0 0 0), (55, .b true)], [.box 109 (eC109 a0), .box 45 (eC45 a1), .box 109 [.i 0, .b false]]⟩ h0 ?_
            exact Jj2 true H
        · replace H := iF c8 H
          rw [boF c8]
          refine goK hT 11 (K63 111101000 14) ⟨116, [(3, .ptr 0 0 0 0), (4, .ptr 1 0 0 0), (6, .ptr 2 0 0 0), (46, .b false), (50, .b (!a0.Some))], [.box 109 (eC109 a0), .box 45 (eC45 a1), .box 109 [.i 0, .b false]]⟩ ?_
          rw [boF c8]
          refine goK hT 6 (K63 11110100 1) ⟨116, [(3, .ptr 0 0 0 0), (4, .ptr 1 0 0 0), (6, .ptr 2 0 0 0), (55, .b (a1.Old != 1099511627777))], [.box 109 (eC109 a0), .box 45 (eC45 a1), .box 109 [.i 0, .b false]]⟩ ?_
          refine cutK [0, 1, 2] ⟨116, [(3, .ptr 0 0 0 0), (4, .ptr 1 0 0 0), (6, .ptr 2 0 0 0), (55, .b (a1.Old != 1099511627777))], [.box 109 (eC109 a0), .box 45 (eC45 a1), .box 109 [.i 0, .b false]]⟩ h0 ?_
          exact Jj2 (a1.Old != 1099511627777) H
      · replace H := iF c7 H
        rw [eqF c7]
        refine goK hT 2 (K63 1111 1) ⟨116, [(2, .i a2), (3, .ptr 0 0 0 0), (4, .ptr 1 0 0 0), (6, .ptr 2 0 0 0)], [.box 109 (eC109 a0), .box 45 (eC45 a1), .box 109 [.i 0, .b false]]⟩ ?_
        refine goK hT 7 (K63 111110 1) ⟨116, [(2, .i a2), (3, .ptr 0 0 0 0), (4, .ptr 1 0 0 0), (6, .ptr 2 0 0 0), (65, .b (a1.Kind == 5))], [.box 109 (eC109 a0), .box 45 (eC45 a1), .box 109 [.i 0, .b false]]⟩ ?_
        by_cases c12 : a1.Kind = 5
        · replace H := iT c12 H
          rw [eqT c12]
          refine goK hT 7 (K63 1111101000 3) ⟨116, [(3, .ptr 0 0 0 0), (4, .ptr 1 0 0 0), (6, .ptr 2 0 0 0), (66, .i a2), (68, .d (eL66 true a1.Pairs))], [.box 109 (eC109 a0), .box 45 (eC45 a1), .box 109 [.i 0, .b false]]⟩ ?_
          obtain ⟨h13, H⟩ := iC H
          refine ak_idx hT [3, 4, 6, 66, 69] (i := 0) (n := (a1.Pairs.length : Int)) h13.1 h13.2 (k' := (K63 1111101000 4)) (st' := ⟨116, [(3, .ptr 0 0 0 0), (4, .ptr 1 0 0 0), (6, .ptr 2 0 0 0), (66, .i a2), (69, .d (eP66 true a1.Pairs 0 0))], [.box 109 (eC109 a0), .box 45 (eC45 a1), .box 109 [.i 0, .b false]]⟩) (by kernel_rfl) ?_
          refine goK hT 4 (K63 111110100 1) ⟨116, [(3, .ptr 0 0 0 0), (4, .ptr 1 0 0 0), (6, .ptr 2 0 0 0), (72, .b (a2 == ((a1.Pairs.getD 0 spliceref04_Pair.z).Key)))], [.box 109 (eC109 a0), .box 45 (eC45 a1), .box 109 [.i 0, .b false]]⟩ ?_
          by_cases c14 : a2 = ((a1.Pairs.getD 0 spliceref04_Pair.z).Key)
          · replace H := iT c14 H
            rw [eqT c14]
            refine goK hT 2 (K63 11111010010 0) ⟨116, [(3, .ptr 0 0 0 0), (4, .ptr 1 0 0 0), (6, .ptr 2 0 0 0)], [.box 109 (eC109 a0), .box 45 (eC45 a1), .box 109 [.i 0, .b false]]⟩ ?_
            refine drawK (hP ▸ mixed) 7 [3, 4, 6] [some (.ptr 0 0 0 0), some (.i a0.Val), some (.ptr 1 0 0 3), some (.d (eL66 true a1.Pairs)), some (.d (eP66 true a1.Pairs 0 0)), some (.d (eP66 true a1.Pairs 0 1)), some (.i ((a1.Pairs.getD 0 spliceref04_Pair.z).Val))] (opG (opG (opS (opG (opG (opG (opG op0 hT) hT) hT) hT) (fun R rest h => ak_idx0 hT (i := 0) (n := (a1.Pairs.length : Int)) h13.1 h13.2 (by kernel_rfl) h)) hT) hT) ?_
            refine goK hT 1 (K63 111110100100 8) ⟨116, [(6, .ptr 2 0 0 0), (80, .i (IntKind.wrap .i64 (a0.Val - ((a1.Pairs.getD 0 spliceref04_Pair.z).Val))))], [.box 109 (eC109 a0), .box 45 (eC45 a1), .box 109 [.i 0, .b false]]⟩ ?_
            refine ak_callP (avs := [.i (IntKind.wrap .i64 (a0.Val - ((a1.Pairs.getD 0 spliceref04_Pair.z).Val)))]) (dst := some 81) (k' := (K63 111110100100 9)) [6, 81] [] hP enters_80 (spliceref05_within.says (IntKind.wrap .i64 (a0.Val - ((a1.Pairs.getD 0 spliceref04_Pair.z).Val)))) (by kernel_rfl) (hands_none _) (.cons (pass_d _) .nil) (st' := ⟨116, [(6, .ptr 2 0 0 0), (81, .i (spliceref05_within (IntKind.wrap .i64 (a0.Val - ((a1.Pairs.getD 0 spliceref04_Pair.z).Val)))))], [.box 109 (eC109 a0), .box 45 (eC45 a1), .box 109 [.i 0, .b false]]⟩) (by kernel_rfl) ?_
            obtain ⟨v2, h15, H⟩ := idC H
            rw [← h15]
            refine goK hT 4 (K63 11111010010 1) ⟨116, [(6, .ptr 2 0 0 0), (7, .b true)], [.box 109 (eC109 a0), .box 45 (eC45 a1), .box 109 [.i v2, .b true]]⟩ ?_
            obtain rfl := retC H
            exact ak_retM hT hf hX (av := .tup [.d (.agg [.i v2, .b true]), .b true]) (by kernel_rfl) [] (sel_of_eq (by kernel_rfl)) (by decide) (by rw [h0]; rfl) (by kernel_rfl) (fun _ h => all_nil h) (.tup (.cons (.d (.agg (spliceref05_Cell.nl _))) (.cons (.d (.v _)) .nil)))
          · replace H := iF c14 H
            rw [eqF c14]
            refine goK hT 2 (K63 11111010 1) ⟨116, [(3, .ptr 0 0 0 0), (4, .ptr 1 0 0 0), (6, .ptr 2 0 0 0)], [.box 109 (eC109 a0), .box 45 (eC45 a1), .box 109 [.i 0, .b false]]⟩ ?_
            refine goK hT 1 (K63 111110101 0) ⟨116, [(3, .ptr 0 0 0 0), (4, .ptr 1 0 0 0), (6, .ptr 2 0 0 0)], [.box 109 (eC109 a0), .box 45 (eC45 a1), .box 109 [.i 0, .b false]]⟩ ?_
            refine drawK (hP ▸ mixed) 7 [3, 4, 6] [some (.ptr 0 0 0 0), some (.i a0.Val), some (.ptr 1 0 0 3), some (.d (eL66 true a1.Pairs)), some (.d (eP66 true a1.Pairs 0 0)), some (.d (eP66 true a1.Pairs 0 1)), some (.i ((a1.Pairs.getD 0 spliceref04_Pair.z).Val))] (opG (opG (opS (opG (opG (opG (opG op0 hT) hT) hT) hT) (fun R rest h => ak_idx0 hT (i := 0) (n := (a1.Pairs.length : Int)) h13.1 h13.2 (by kernel_rfl) h)) hT) hT) ?_
            refine goK hT 1 (K63 1111101010 8) ⟨116, [(6, .ptr 2 0 0 0), (90, .i (IntKind.wrap .i64 (a0.Val + ((a1.Pairs.getD 0 spliceref04_Pair.z).Val))))], [.box 109 (eC109 a0), .box 45 (eC45 a1), .box 109 [.i 0, .b false]]⟩ ?_
            refine ak_callP (avs := [.i (IntKind.wrap .i64 (a0.Val + ((a1.Pairs.getD 0 spliceref04_Pair.z).Val)))]) (dst := some 91) (k' := (K63 1111101010 9)) [6, 91] [] hP enters_80 (spliceref05_within.says (IntKind.wrap .i64 (a0.Val + ((a1.Pairs.getD 0 spliceref04_Pair.z).Val)))) (by kernel_rfl) (hands_none _) (.cons (pass_d _) .nil) (st' := ⟨116, [(6, .ptr 2 0 0 0), (91, .i (spliceref05_within (IntKind.wrap .i64 (a0.Val + ((a1.Pairs.getD 0 spliceref04_Pair.z).Val)))))], [.box 109 (eC109 a0), .box 45 (eC45 a1), .box 109 [.i 0, .b false]]⟩) (by kernel_rfl) ?_
            obtain ⟨v3, h16, H⟩ := idC H
            rw [← h16]
            refine goK hT 4 (K63 111110101 1) ⟨116, [(6, .ptr 2 0 0 0), (7, .b true)], [.box 109 (eC109 a0), .box 45 (eC45 a1), .box 109 [.i v3, .b true]]⟩ ?_
            obtain rfl := retC H
            exact ak_retM hT hf hX (av := .tup [.d (.agg [.i v3, .b true]), .b true]) (by kernel_rfl) [] (sel_of_eq (by kernel_rfl)) (by decide) (by rw [h0]; rfl) (by kernel_rfl) (fun _ h => all_nil h) (.tup (.cons (.d (.agg (spliceref05_Cell.nl _))) (.cons (.d (.v _)) .nil)))
        · replace H := iF c12 H
          rw [eqF c12]
          refine goK hT 2 (K63 11111 1) ⟨116, [(2, .i a2), (3, .ptr 0 0 0 0), (4, .ptr 1 0 0 0), (6, .ptr 2 0 0 0)], [.box 109 (eC109 a0), .box 45 (eC45 a1), .box 109 [.i 0, .b false]]⟩ ?_
          refine goK hT 7 (K63 111111010 0) ⟨116, [(2, .i a2), (3, .ptr 0 0 0 0), (4, .ptr 1 0 0 0), (6, .ptr 2 0 0 0), (9, .i 0)], [.box 109 (eC109 a0), .box 45 (eC45 a1), .box 109 [.i 0, .b false]]⟩ ?_
          have L : ∀ n, (∀ (x1_9 : Int), iter (spliceref05_Cells.step a0 a1 a2) n (.l1 x1_9) = some r → AK X 63 ((K63 111111010 0)) (Back X [] (.tup [.d (eG109 r.1), .b r.2])) ⟨116, [(2, .i a2), (3, .ptr 0 0 0 0), (4, .ptr 1 0 0 0), (6, .ptr 2 0 0 0), (9, .i x1_9)], [.box 109 (eC109 a0), .box 45 (eC45 a1), .box 109 [.i 0, .b false]]⟩) := by
            intro n
            induction n with
            | zero => exact fun _ H => iter0 H
            | succ n ih =>
              · intro x1_9 H
                refine goK hT 9 (K63 11111101000 1) ⟨116, [(2, .i a2), (3, .ptr 0 0 0 0), (4, .ptr 1 0 0 0), (6, .ptr 2 0 0 0), (9, .i x1_9), (97, .b (decide (x1_9 < (a1.Pairs.length : Int))))], [.box 109 (eC109 a0), .box 45 (eC45 a1), .box 109 [.i 0, .b false]]⟩ ?_
                by_cases c17 : x1_9 < (a1.Pairs.length : Int)
                · replace H := sT c17 H
                  rw [decide_eq_true c17]
                  refine goK hT 2 (K63 1111110100 1) ⟨116, [(2, .i a2), (3, .ptr 0 0 0 0), (4, .ptr 1 0 0 0), (6, .ptr 2 0 0 0), (9, .i x1_9)], [.box 109 (eC109 a0), .box 45 (eC45 a1), .box 109 [.i 0, .b false]]⟩ ?_
                  refine goK hT 7 (K63 11111101001000 3) ⟨116, [(2, .i a2), (3, .ptr 0 0 0 0), (4, .ptr 1 0 0 0), (6, .ptr 2 0 0 0), (9, .i x1_9), (101, .d (eL66 true a1.Pairs)), (102, .i x1_9)], [.box 109 (eC109 a0), .box 45 (eC45 a1), .box 109 [.i 0, .b false]]⟩ ?_
                  obtain ⟨h18, H⟩ := sC H
                  refine ak_idx hT [2, 3, 4, 6, 9, 103] (i := x1_9) (n := (a1.Pairs.length : Int)) h18.1 h18.2 (k' := (K63 11111101001000 4)) (st' := ⟨116, [(2, .i a2), (3, .ptr 0 0 0 0), (4, .ptr 1 0 0 0), (6, .ptr 2 0 0 0), (9, .i x1_9), (103, .d (eP66 true a1.Pairs x1_9.toNat 0))], [.box 109 (eC109 a0), .box 45 (eC45 a1), .box 109 [.i 0, .b false]]⟩) (by kernel_rfl) ?_
                  refine goK hT 5 (K63 1111110100100 1) ⟨116, [(2, .i a2), (3, .ptr 0 0 0 0), (4, .ptr 1 0 0 0), (6, .ptr 2 0 0 0), (9, .i x1_9), (107, .b (((a1.Pairs.getD x1_9.toNat spliceref04_Pair.z).Key) == a2))], [.box 109 (eC109 a0), .box 45 (eC45 a1), .box 109 [.i 0, .b false]]⟩ ?_
                  by_cases c19 : ((a1.Pairs.getD x1_9.toNat spliceref04_Pair.z).Key) = a2
                  · replace H := sT c19 H
                    rw [eqT c19]
                    refine goK hT 6 (K63 1111110100100100 3) ⟨116, [(6, .ptr 2 0 0 0), (109, .d (eL66 true a1.Pairs)), (110, .i x1_9)], [.box 109 (eC109 a0), .box 45 (eC45 a1), .box 109 [.i 0, .b false]]⟩ ?_
                    refine ak_idx hT [6, 111] (i := x1_9) (n := (a1.Pairs.length : Int)) h18.1 h18.2 (k' := (K63 1111110100100100 4)) (st' := ⟨116, [(6, .ptr 2 0 0 0), (111, .d (eP66 true a1.Pairs x1_9.toNat 0))], [.box 109 (eC109 a0), .box 45 (eC45 a1), .box 109 [.i 0, .b false]]⟩) (by kernel_rfl) ?_
                    refine goK hT 6 (K63 111111010010010 1) ⟨116, [(6, .ptr 2 0 0 0), (7, .b true)], [.box 109 (eC109 a0), .box 45 (eC45 a1), .box 109 [.i ((a1.Pairs.getD x1_9.toNat spliceref04_Pair.z).Val), .b true]]⟩ ?_
                    obtain rfl := retC H
                    exact ak_retM hT hf hX (av := .tup [.d (.agg [.i ((a1.Pairs.getD x1_9.toNat spliceref04_Pair.z).Val), .b true]), .b true]) (by kernel_rfl) [] (sel_of_eq (by kernel_rfl)) (by decide) (by rw [h0]; rfl) (by kernel_rfl) (fun _ h => all_nil h) (.tup (.cons (.d (.agg (spliceref05_Cell.nl _))) (.cons (.d (.v _)) .nil)))
                  · replace H := sF c19 H
                    rw [eqF c19]
                    refine goK hT 3 (K63 11111101001 1) ⟨116, [(2, .i a2), (3, .ptr 0 0 0 0), (4, .ptr 1 0 0 0), (6, .ptr 2 0 0 0), (9, .i x1_9)], [.box 109 (eC109 a0), .box 45 (eC45 a1), .box 109 [.i 0, .b false]]⟩ ?_
                    refine goK hT 6 (K63 111111010 0) ⟨116, [(2, .i a2), (3, .ptr 0 0 0 0), (4, .ptr 1 0 0 0), (6, .ptr 2 0 0 0), (9, .i (IntKind.wrap .i64 (x1_9 + 1)))], [.box 109 (eC109 a0), .box 45 (eC45 a1), .box 109 [.i 0, .b false]]⟩ ?_
                    refine cutK [0, 1, 2] ⟨116, [(2, .i a2), (3, .ptr 0 0 0 0), (4, .ptr 1 0 0 0), (6, .ptr 2 0 0 0), (9, .i (IntKind.wrap .i64 (x1_9 + 1)))], [.box 109 (eC109 a0), .box 45 (eC45 a1), .box 109 [.i 0, .b false]]⟩ h0 ?_
                    exact ih (IntKind.wrap .i64 (x1_9 + 1)) H
                · replace H := sF c17 H
                  rw [decide_eq_false c17]
                  refine goK hT 8 (K63 1111111 1) ⟨116, [(6, .ptr 2 0 0 0), (7, .b true)], [.box 109 (eC109 a0), .box 45 (eC45 a1), .box 109 (eC109 a0)]⟩ ?_
                  obtain rfl := retC H
                  exact ak_retM hT hf hX (av := .tup [.d (eG109 a0), .b true]) (by kernel_rfl) [] (sel_of_eq (by kernel_rfl)) (by decide) (by rw [h0]; rfl) (by kernel_rfl) (fun _ h => all_nil h) (.tup (.cons (.d (.agg (spliceref05_Cell.nl _))) (.cons (.d (.v _)) .nil)))
          refine cutK [0, 1, 2] ⟨116, [(2, .i a2), (3, .ptr 0 0 0 0), (4, .ptr 1 0 0 0), (6, .ptr 2 0 0 0), (9, .i 0)], [.box 109 (eC109 a0), .box 45 (eC45 a1), .box 109 [.i 0, .b false]]⟩ h0 ?_
          obtain ⟨n, H⟩ := loopC H
          exact (L n) 0 H


theorem spliceref05_Apply.says {t2 : Bool} (a0 : List spliceref04_Pair) (a1 : spliceref04_Mut) (a2 : List spliceref03_Span) {r : (List spliceref04_Pair) × Bool} (H : spliceref05_Apply a0 a1 a2 = some r) : Says Try.prog 32 [] [.d (eL66 true a0), .d (eG45 a1), .d (eL43 t2 a2)] [] (.tup [.d (eL66 true r.1), .b r.2]) := by
  refine says_of Try.func32 rfl (nt := 83) rfl (Nat.le_of_ble_eq_true rfl) fun X hP h0 hX => ?_
  have hT : TabOk X.P T := hP ▸ tok
  have hf : X.P.funcs[32]? = some Try.f32 := hP ▸ Try.func32
  refine goK hT 10 (K32 1100 1) ⟨83, [(0, .d (eL66 true a0)), (2, .d (eL43 t2 a2)), (4, .ptr 0 0 0 0), (14, .d (eL66 true a0))], [.box 45 (eC45 a1)]⟩ ?_
  obtain ⟨v1, h1, H⟩ := ibC H
  have Jj1 : ∀ (y1_26 : Bool), (spliceref05_Apply.j1 a0 a1 a2 y1_26) = some r → AK X 32 ((K32 110 1)) (Back X [] (.tup [.d (eL66 true r.1), .b r.2])) ⟨83, [(0, .d (eL66 true a0)), (2, .d (eL43 t2 a2)), (4, .ptr 0 0 0 0), (26, .b y1_26)], [.box 45 (eC45 a1)]⟩ := by
    intro y1_26 H
    by_cases c6 : y1_26 = true
    · replace H := iT c6 H
      rw [c6]
      refine goK hT 6 (K32 11010 1) ⟨83, [(6, .ns), (7, .b false)], [.box 45 (eC45 a1)]⟩ ?_
      refine ak_sealS (av := .d (.v (.slice none 0 0))) (y := eL66 true ([] : List spliceref04_Pair)) [6, 7] 6 (st' := ⟨83, [(6, .d (eL66 true ([] : List spliceref04_Pair))), (7, .b false)], [.box 45 (eC45 a1)]⟩) (by kernel_rfl) (.nil _) (by kernel_rfl) ?_
      obtain rfl := retC H
      exact ak_ret hf hX (av := .tup [.d (eL66 true ([] : List spliceref04_Pair)), .b false]) (by kernel_rfl) [] (sel_of_eq (by kernel_rfl)) (by decide) (by rw [h0]; rfl) (by kernel_rfl) (fun _ h => all_nil h) (.tup (.cons (.d (.sl fun _ _ => spliceref04_Pair.nl _)) (.cons (.d (.v _)) .nil)))
    · replace H := iF c6 H
      rw [boF c6]
      refine goK hT 2 (K32 11 1) ⟨83, [(0, .d (eL66 true a0)), (2, .d (eL43 t2 a2)), (4, .ptr 0 0 0 0)], [.box 45 (eC45 a1)]⟩ ?_
      refine goK hT 4 (K32 1110 2) ⟨83, [(0, .d (eL66 true a0)), (2, .d (eL43 t2 a2)), (4, .ptr 0 0 0 0), (27, .d (eL66 true a0)), (28, .d (eG45 a1))], [.box 45 (eC45 a1)]⟩ ?_
      obtain ⟨v4, h7, H⟩ := ibC H
      refine ak_callP (avs := [.d (eL66 true a0), .d (eG45 a1)]) (dst := some 29) (k' := (K32 1110 3)) [0, 2, 4, 29] [] hP enters_59 (spliceref05_keys.says (t0 := true) a0 a1 h7) (by kernel_rfl) (hands_none _) (.cons (pass_d _) (.cons (pass_d _) .nil)) (st' := ⟨83, [(0, .d (eL66 true a0)), (2, .d (eL43 t2 a2)), (4, .ptr 0 0 0 0), (29, .own 1 1 0 v4.length)], [.box 45 (eC45 a1), eR3 v4]⟩) (by kernel_rfl) ?_
      refine goK hT 13 (K32 11111010 0) ⟨83, [(0, .d (eL66 true a0)), (2, .d (eL43 t2 a2)), (4, .ptr 0 0 0 0), (8, .own 1 1 0 v4.length), (9, .ns), (10, .i 0)], [.box 45 (eC45 a1), eR3 v4]⟩ ?_
      refine ak_nilS [0, 2, 4, 8, 9, 10] 9 2 66 (vec spliceref04_Pair.e spliceref04_Pair.z []) (st' := ⟨83, [(0, .d (eL66 true a0)), (2, .d (eL43 t2 a2)), (4, .ptr 0 0 0 0), (8, .own 1 1 0 v4.length), (9, .own 2 2 0 0), (10, .i 0)], [.box 45 (eC45 a1), eR3 v4, eR66 ([] : List spliceref04_Pair)]⟩) (by kernel_rfl) (by kernel_rfl) ?_
      have L : ∀ n, (∀ (x1_10 : Int) (x1_r2 : List spliceref04_Pair), iter (spliceref05_Apply.step a0 a1 a2 v4) n (.l1 x1_10 x1_r2) = some r → AK X 32 ((K32 11111010 0)) (Back X [] (.tup [.d (eL66 true r.1), .b r.2])) ⟨83, [(0, .d (eL66 true a0)), (2, .d (eL43 t2 a2)), (4, .ptr 0 0 0 0), (8, .own 1 1 0 v4.length), (9, .own 2 2 0 x1_r2.length), (10, .i x1_10)], [.box 45 (eC45 a1), eR3 v4, eR66 x1_r2]⟩) := by
        intro n
        induction n with
        | zero => exact fun _ _ H => iter0 H
        | succ n ih =>
          · intro x1_10 x1_r2 H
            refine goK hT 8 (K32 1111101000 1) ⟨83, [(0, .d (eL66 true a0)), (2, .d (eL43 t2 a2)), (4, .ptr 0 0 0 0), (8, .own 1 1 0 v4.length), (9, .own 2 2 0 x1_r2.length), (10, .i x1_10), (33, .b (decide (x1_10 < (v4.length : Int))))], [.box 45 (eC45 a1), eR3 v4, eR66 x1_r2]⟩ ?_
            by_cases c8 : x1_10 < (v4.length : Int)
            · replace H := sT c8 H
              rw [decide_eq_true c8]
              refine goK hT 2 (K32 111110100 1) ⟨83, [(0, .d (eL66 true a0)), (2, .d (eL43 t2 a2)), (4, .ptr 0 0 0 0), (8, .own 1 1 0 v4.length), (9, .own 2 2 0 x1_r2.length), (10, .i x1_10)], [.box 45 (eC45 a1), eR3 v4, eR66 x1_r2]⟩ ?_
              refine goK hT 7 (K32 1111101001000 3) ⟨83, [(0, .d (eL66 true a0)), (2, .d (eL43 t2 a2)), (4, .ptr 0 0 0 0), (8, .own 1 1 0 v4.length), (9, .own 2 2 0 x1_r2.length), (10, .i x1_10), (36, .d (eL66 true a0)), (37, .own 1 1 0 v4.length), (38, .i x1_10)], [.box 45 (eC45 a1), eR3 v4, eR66 x1_r2]⟩ ?_
              obtain ⟨h9, H⟩ := sC H
              refine ak_idx hT [0, 2, 4, 8, 9, 10, 36, 39] (i := x1_10) (n := (v4.length : Int)) h9.1 h9.2 (k' := (K32 1111101001000 4)) (st' := ⟨83, [(0, .d (eL66 true a0)), (2, .d (eL43 t2 a2)), (4, .ptr 0 0 0 0), (8, .own 1 1 0 v4.length), (9, .own 2 2 0 x1_r2.length), (10, .i x1_10), (36, .d (eL66 true a0)), (39, .ptr 1 1 x1_10.toNat 0)], [.box 45 (eC45 a1), eR3 v4, eR66 x1_r2]⟩) (by kernel_rfl) ?_
              refine ak_ld hT [0, 2, 4, 8, 9, 10, 36, 40] (i := x1_10.toNat) (n := v4.length) (ltN h9.1 h9.2) (k' := (K32 1111101001000 5)) (st' := ⟨83, [(0, .d (eL66 true a0)), (2, .d (eL43 t2 a2)), (4, .ptr 0 0 0 0), (8, .own 1 1 0 v4.length), (9, .own 2 2 0 x1_r2.length), (10, .i x1_10), (36, .d (eL66 true a0)), (40, .i (v4.getD x1_10.toNat 0))], [.box 45 (eC45 a1), eR3 v4, eR66 x1_r2]⟩) (by kernel_rfl) ?_
              obtain ⟨v5, h10, H⟩ := sbC H
              refine ak_callP (avs := [.d (eL66 true a0), .i (v4.getD x1_10.toNat 0)]) (dst := some 41) (k' := (K32 1111101001000 6)) [0, 2, 4, 8, 9, 10, 41] [] hP enters_60 (spliceref05_Get.says (t0 := true) a0 (v4.getD x1_10.toNat 0) h10) (by kernel_rfl) (hands_none _) (.cons (pass_d _) (.cons (pass_d _) .nil)) (st' := ⟨83, [(0, .d (eL66 true a0)), (2, .d (eL43 t2 a2)), (4, .ptr 0 0 0 0), (8, .own 1 1 0 v4.length), (9, .own 2 2 0 x1_r2.length), (10, .i x1_10), (41, .d (eG109 v5))], [.box 45 (eC45 a1), eR3 v4, eR66 x1_r2]⟩) (by kernel_rfl) ?_
              refine goK hT 5 (K32 11111010010010 0) ⟨83, [(0, .d (eL66 true a0)), (2, .d (eL43 t2 a2)), (4, .ptr 0 0 0 0), (8, .own 1 1 0 v4.length), (9, .own 2 2 0 x1_r2.length), (10, .i x1_10), (11, .ptr 3 0 0 0)], [.box 45 (eC45 a1), eR3 v4, eR66 x1_r2, .box 109 (eC109 v5)]⟩ ?_
              obtain ⟨v6, h11, H⟩ := sbC H
              have Jj2 : ∀ (y2_55 : Bool), stk (spliceref05_Apply.j2 a0 a1 v4 x1_10 x1_r2 v5 y2_55) (iter (spliceref05_Apply.step a0 a1 a2 v4) n) = some r → AK X 32 ((K32 11111010010010 1)) (Back X [] (.tup [.d (eL66 true r.1), .b r.2])) ⟨83, [(0, .d (eL66 true a0)), (2, .d (eL43 t2 a2)), (4, .ptr 0 0 0 0), (8, .own 1 1 0 v4.length), (9, .own 2 2 0 x1_r2.length), (10, .i x1_10), (11, .ptr 3 0 0 0), (55, .b y2_55)], [.box 45 (eC45 a1), eR3 v4, eR66 x1_r2, .box 109 (eC109 v5)]⟩ := by
                intro y2_55 H
                have Jj3 : ∀ (y3_b3_0 : Int) (y3_b3_1 : Bool), stk (spliceref05_Apply.j3 v4 x1_10 x1_r2 y3_b3_0 y3_b3_1) (iter (spliceref05_Apply.step a0 a1 a2 v4) n) = some r → AK X 32 ((K32 1111101001001 1)) (Back X [] (.tup [.d (eL66 true r.1), .b r.2])) ⟨83, [(0, .d (eL66 true a0)), (2, .d (eL43 t2 a2)), (4, .ptr 0 0 0 0), (8, .own 1 1 0 v4.length), (9, .own 2 2 0 x1_r2.length), (10, .i x1_10), (11, .ptr 3 0 0 0)], [.box 45 (eC45 a1), eR3 v4, eR66 x1_r2, .box 109 [.i y3_b3_0, .b y3_b3_1]]⟩ := by
                  intro y3_b3_0 y3_b3_1 H
                  have Jj4 : ∀ (y4_r2 : List spliceref04_Pair), stk (spliceref05_Apply.j4 x1_10 y4_r2) (iter (spliceref05_Apply.step a0 a1 a2 v4) n) = some r → AK X 32 ((K32 1111101001 1)) (Back X [] (.tup [.d (eL66 true r.1), .b r.2])) ⟨83, [(0, .d (eL66 true a0)), (2, .d (eL43 t2 a2)), (4, .ptr 0 0 0 0), (8, .own 1 1 0 v4.length), (9, .own 2 2 0 y4_r2.length), (10, .i x1_10)], [.box 45 (eC45 a1), eR3 v4, eR66 y4_r2]⟩ := by
                    intro y4_r2 H
                    refine goK hT 6 (K32 11111010 0) ⟨83, [(0, .d (eL66 true a0)), (2, .d (eL43 t2 a2)), (4, .ptr 0 0 0 0), (8, .own 1 1 0 v4.length), (9, .own 2 2 0 y4_r2.length), (10, .i (IntKind.wrap .i64 (x1_10 + 1)))], [.box 45 (eC45 a1), eR3 v4, eR66 y4_r2]⟩ ?_
                    refine cutK [0, 1, 2] ⟨83, [(0, .d (eL66 true a0)), (2, .d (eL43 t2 a2)), (4, .ptr 0 0 0 0), (8, .own 1 1 0 v4.length), (9, .own 2 2 0 y4_r2.length), (10, .i (IntKind.wrap .i64 (x1_10 + 1)))], [.box 45 (eC45 a1), eR3 v4, eR66 y4_r2]⟩ h0 ?_
                    exact ih (IntKind.wrap .i64 (x1_10 + 1)) y4_r2 H
                  refine goK hT 5 (K32 11111010010011 1) ⟨83, [(0, .d (eL66 true a0)), (2, .d (eL43 t2 a2)), (4, .ptr 0 0 0 0), (8, .own 1 1 0 v4.length), (9, .own 2 2 0 x1_r2.length), (10, .i x1_10), (11, .ptr 3 0 0 0), (71, .b y3_b3_1)], [.box 45 (eC45 a1), eR3 v4, eR66 x1_r2, .box 109 [.i y3_b3_0, .b y3_b3_1]]⟩ ?_
                  by_cases c17 : y3_b3_1 = true
                  · replace H := sT c17 H
                    rw [c17]
                    refine goK hT 1 (K32 111110100100111 0) ⟨83, [(0, .d (eL66 true a0)), (2, .d (eL43 t2 a2)), (4, .ptr 0 0 0 0), (8, .own 1 1 0 v4.length), (9, .own 2 2 0 x1_r2.length), (10, .i x1_10), (11, .ptr 3 0 0 0)], [.box 45 (eC45 a1), eR3 v4, eR66 x1_r2, .box 109 [.i y3_b3_0, .b true]]⟩ ?_
                    refine ak_drawAtE (nt := 83) (hP ▸ mixed) 9 [8] [0, 2, 4, 8, 9, 10, 11] [(0, .d (eL66 true a0)), (2, .d (eL43 t2 a2)), (4, .ptr 0 0 0 0), (8, .own 1 1 0 v4.length), (9, .own 2 2 0 x1_r2.length), (10, .i x1_10), (11, .ptr 3 0 0 0)] [some (.own 2 2 0 x1_r2.length), some (.own 1 1 0 v4.length), some (.i x1_10), some (.ptr 1 1 x1_10.toNat 0), some (.i (v4.getD x1_10.toNat 0)), some (.ptr 3 0 0 0), some (.i y3_b3_0), some (.d (.agg [.i (v4.getD x1_10.toNat 0), .i y3_b3_0])), some (.own 4 2 0 1)] [[.box 45 (eC45 a1), eR3 v4, eR66 x1_r2, .box 109 [.i y3_b3_0, .b true]], [.box 45 (eC45 a1), eR3 v4, eR66 x1_r2, .box 109 [.i y3_b3_0, .b true], .flat false 2 66 1 (fun j => [[.i (v4.getD x1_10.toNat 0), .i y3_b3_0]].getD j [])]] (by kernel_rfl) (by kernel_rfl) (by kernel_rfl) (by kernel_rfl) ⟨(opXE (opGE (opGE (opGE (opES (opES (opGE (opGE (opGE opE0 hT) hT) hT) (fun R rest h => ak_idx0 hT (i := x1_10) (n := (v4.length : Int)) h9.1 h9.2 (by kernel_rfl) h)) (fun R rest h => ak_ld0 hT (i := x1_10.toNat) (n := v4.length) (ltN h9.1 h9.2) (by kernel_rfl) h)) hT) hT) hT)), (op_goFK hT), (opXE (opGE (opGE (opGE (opES (opES (opGE (opGE (opGE opE0 hT) hT) hT) (fun R rest h => ak_idx0 hT (i := x1_10) (n := (v4.length : Int)) h9.1 h9.2 (by kernel_rfl) h)) (fun R rest h => ak_ld0 hT (i := x1_10.toNat) (n := v4.length) (ltN h9.1 h9.2) (by kernel_rfl) h)) hT) hT) hT))⟩ ?_
                    refine goK hT 0 (K32 1111101001001110 9) ⟨83, [(0, .d (eL66 true a0)), (2, .d (eL43 t2 a2)), (4, .ptr 0 0 0 0), (8, .own 1 1 0 v4.length), (10, .i x1_10), (72, .own 2 2 0 x1_r2.length), (80, .own 4 2 0 1)], [.box 45 (eC45 a1), eR3 v4, eR66 x1_r2, .box 109 [.i y3_b3_0, .b true], .flat false 2 66 1 (fun j => [[.i (v4.getD x1_10.toNat 0), .i y3_b3_0]].getD j [])]⟩ ?_
                    obtain ⟨h18, H⟩ := sC H
                    refine ak_append1 (id := 2) (kk := 2) (by' := 16) (t := 27) (e := 66) (z := [.int .i64 0, .int .i64 0]) (dst := some 81) (id2 := 4) (e2 := 66) (fz := false) (k' := (K32 1111101001001110 10)) hT spliceref04_Pair.e spliceref04_Pair.z x1_r2 (⟨v4.getD x1_10.toNat 0, y3_b3_0⟩ : spliceref04_Pair) [0, 2, 4, 8, 10, 81] (by kernel_rfl) (by kernel_rfl) (by kernel_rfl) (by kernel_rfl) (by kernel_rfl) (by kernel_rfl) (by kernel_rfl) h18 (by omega) (st' := ⟨83, [(0, .d (eL66 true a0)), (2, .d (eL43 t2 a2)), (4, .ptr 0 0 0 0), (8, .own 1 1 0 v4.length), (10, .i x1_10), (81, .own 5 2 0 ((x1_r2 ++ [(⟨v4.getD x1_10.toNat 0, y3_b3_0⟩ : spliceref04_Pair)]).length))], [.box 45 (eC45 a1), eR3 v4, .gone, .box 109 [.i y3_b3_0, .b true], .flat false 2 66 1 (fun j => [[.i (v4.getD x1_10.toNat 0), .i y3_b3_0]].getD j []), eR66 (x1_r2 ++ [(⟨v4.getD x1_10.toNat 0, y3_b3_0⟩ : spliceref04_Pair)])]⟩) (by kernel_rfl) ?_
                    refine goK hT 3 (K32 1111101001 1) ⟨83, [(0, .d (eL66 true a0)), (2, .d (eL43 t2 a2)), (4, .ptr 0 0 0 0), (8, .own 1 1 0 v4.length), (9, .own 5 2 0 ((x1_r2 ++ [(⟨v4.getD x1_10.toNat 0, y3_b3_0⟩ : spliceref04_Pair)]).length)), (10, .i x1_10)], [.box 45 (eC45 a1), eR3 v4, .gone, .box 109 [.i y3_b3_0, .b true], .flat false 2 66 1 (fun j => [[.i (v4.getD x1_10.toNat 0), .i y3_b3_0]].getD j []), eR66 (x1_r2 ++ [(⟨v4.getD x1_10.toNat 0, y3_b3_0⟩ : spliceref04_Pair)])]⟩ ?_
                    refine cutK [0, 1, 5] ⟨83, [(0, .d (eL66 true a0)), (2, .d (eL43 t2 a2)), (4, .ptr 0 0 0 0), (8, .own 1 1 0 v4.length), (9, .own 2 2 0 (x1_r2 ++ [(⟨v4.getD x1_10.toNat 0, y3_b3_0⟩ : spliceref04_Pair)]).length), (10, .i x1_10)], [.box 45 (eC45 a1), eR3 v4, eR66 (x1_r2 ++ [(⟨v4.getD x1_10.toNat 0, y3_b3_0⟩ : spliceref04_Pair)])]⟩ h0 ?_
                    exact Jj4 (x1_r2 ++ [(⟨v4.getD x1_10.toNat 0, y3_b3_0⟩ : spliceref04_Pair)]) H
                  · replace H := sF c17 H
                    rw [boF c17]
                    refine goK hT 3 (K32 1111101001 1) ⟨83, [(0, .d (eL66 true a0)), (2, .d (eL43 t2 a2)), (4, .ptr 0 0 0 0), (8, .own 1 1 0 v4.length), (9, .own 2 2 0 x1_r2.length), (10, .i x1_10)], [.box 45 (eC45 a1), eR3 v4, eR66 x1_r2, .box 109 [.i y3_b3_0, .b false]]⟩ ?_
                    refine cutK [0, 1, 2] ⟨83, [(0, .d (eL66 true a0)), (2, .d (eL43 t2 a2)), (4, .ptr 0 0 0 0), (8, .own 1 1 0 v4.length), (9, .own 2 2 0 x1_r2.length), (10, .i x1_10)], [.box 45 (eC45 a1), eR3 v4, eR66 x1_r2]⟩ h0 ?_
                    exact Jj4 x1_r2 H
                by_cases c14 : y2_55 = true
                · replace H := sT c14 H
                  rw [c14]
                  refine goK hT 2 (K32 1111101001001010 0) ⟨83, [(0, .d (eL66 true a0)), (2, .d (eL43 t2 a2)), (4, .ptr 0 0 0 0), (8, .own 1 1 0 v4.length), (9, .own 2 2 0 x1_r2.length), (10, .i x1_10), (11, .ptr 3 0 0 0)], [.box 45 (eC45 a1), eR3 v4, eR66 x1_r2, .box 109 (eC109 v5)]⟩ ?_
                  obtain ⟨v8, h15, H⟩ := sbC H
                  refine ak_drawAtE (nt := 83) (hP ▸ mixed) 12 [10, 11] [0, 2, 4, 8, 9, 10, 11] [(0, .d (eL66 true a0)), (2, .d (eL43 t2 a2)), (4, .ptr 0 0 0 0), (8, .own 1 1 0 v4.length), (9, .own 2 2 0 x1_r2.length), (10, .i x1_10), (11, .ptr 3 0 0 0)] [some (.d (eG109 v5)), some (.d (eG45 a1)), some (.own 1 1 0 v4.length), some (.i x1_10), some (.ptr 1 1 x1_10.toNat 0), some (.i (v4.getD x1_10.toNat 0)), some (.tup [.d (eG109 v8.1), .b v8.2]), some (.tup [.d (eG109 v8.1), .b v8.2]), some (.d (eG109 v8.1)), some (.b v8.2), some (.ptr 4 0 0 0), none] [[.box 45 (eC45 a1), eR3 v4, eR66 x1_r2, .box 109 (eC109 v5)], [.box 45 (eC45 a1), eR3 v4, eR66 x1_r2, .box 109 (eC109 v5), .box 109 [.i 0, .b false]], [.box 45 (eC45 a1), eR3 v4, eR66 x1_r2, .box 109 (eC109 v5), .box 109 (eC109 v8.1)]] (by kernel_rfl) (by kernel_rfl) (by kernel_rfl) (by kernel_rfl) ⟨(opXE (opXE (opGE (opGE (opGE (opES (opES (opES (opGE (opGE (opGE (opGE opE0 hT) hT) hT) hT) (fun R rest h => ak_idx0 hT (i := x1_10) (n := (v4.length : Int)) h9.1 h9.2 (by kernel_rfl) h)) (fun R rest h => ak_ld0 hT (i := x1_10.toNat) (n := v4.length) (ltN h9.1 h9.2) (by kernel_rfl) h)) (fun R rest h => ak_callD (avs := [.d (eG109 v5), .d (eG45 a1), .i (v4.getD x1_10.toNat 0)]) (dst := some 63) hP enters_63 (spliceref05_Cells.says v5 a1 (v4.getD x1_10.toNat 0) h15) (by kernel_rfl) (.cons (pass_d _) (.cons (pass_d _) (.cons (pass_d _) .nil))) (by kernel_rfl) h)) hT) hT) hT))), (op_goFK hT), ⟨(opXE (opXE (opGE (opGE (opGE (opES (opES (opES (opGE (opGE (opGE (opGE opE0 hT) hT) hT) hT) (fun R rest h => ak_idx0 hT (i := x1_10) (n := (v4.length : Int)) h9.1 h9.2 (by kernel_rfl) h)) (fun R rest h => ak_ld0 hT (i := x1_10.toNat) (n := v4.length) (ltN h9.1 h9.2) (by kernel_rfl) h)) (fun R rest h => ak_callD (avs := [.d (eG109 v5), .d (eG45 a1), .i (v4.getD x1_10.toNat 0)]) (dst := some 63) hP enters_63 (spliceref05_Cells.says v5 a1 (v4.getD x1_10.toNat 0) h15) (by kernel_rfl) (.cons (pass_d _) (.cons (pass_d _) (.cons (pass_d _) .nil))) (by kernel_rfl) h)) hT) hT) hT))), (op_goFK hT), (opXE (opXE (opGE (opGE (opGE (opES (opES (opES (opGE (opGE (opGE (opGE opE0 hT) hT) hT) hT) (fun R rest h => ak_idx0 hT (i := x1_10) (n := (v4.length : Int)) h9.1 h9.2 (by kernel_rfl) h)) (fun R rest h => ak_ld0 hT (i := x1_10.toNat) (n := v4.length) (ltN h9.1 h9.2) (by kernel_rfl) h)) (fun R rest h => ak_callD (avs := [.d (eG109 v5), .d (eG45 a1), .i (v4.getD x1_10.toNat 0)]) (dst := some 63) hP enters_63 (spliceref05_Cells.says v5 a1 (v4.getD x1_10.toNat 0) h15) (by kernel_rfl) (.cons (pass_d _) (.cons (pass_d _) (.cons (pass_d _) .nil))) (by kernel_rfl) h)) hT) hT) hT)))⟩⟩ ?_
                  refine goK hT 8 (K32 111110100100101010 1) ⟨83, [(0, .d (eL66 true a0)), (2, .d (eL43 t2 a2)), (4, .ptr 0 0 0 0), (8, .own 1 1 0 v4.length), (9, .own 2 2 0 x1_r2.length), (10, .i x1_10), (11, .ptr 3 0 0 0), (12, .ptr 4 0 0 0), (67, .b (!v8.2))], [.box 45 (eC45 a1), eR3 v4, eR66 x1_r2, .box 109 (eC109 v5), .box 109 (eC109 v8.1)]⟩ ?_
                  by_cases c16 : v8.2 = true
                  · replace H := sT c16 H
                    rw [c16]
                    refine goK hT 2 (K32 11111010010010101 1) ⟨83, [(0, .d (eL66 true a0)), (2, .d (eL43 t2 a2)), (4, .ptr 0 0 0 0), (8, .own 1 1 0 v4.length), (9, .own 2 2 0 x1_r2.length), (10, .i x1_10), (11, .ptr 3 0 0 0), (12, .ptr 4 0 0 0)], [.box 45 (eC45 a1), eR3 v4, eR66 x1_r2, .box 109 (eC109 v5), .box 109 (eC109 v8.1)]⟩ ?_
                    refine goK hT 4 (K32 1111101001001 1) ⟨83, [(0, .d (eL66 true a0)), (2, .d (eL43 t2 a2)), (4, .ptr 0 0 0 0), (8, .own 1 1 0 v4.length), (9, .own 2 2 0 x1_r2.length), (10, .i x1_10), (11, .ptr 3 0 0 0)], [.box 45 (eC45 a1), eR3 v4, eR66 x1_r2, .box 109 (eC109 v8.1), .box 109 (eC109 v8.1)]⟩ ?_
                    refine cutK [0, 1, 2, 3] ⟨83, [(0, .d (eL66 true a0)), (2, .d (eL43 t2 a2)), (4, .ptr 0 0 0 0), (8, .own 1 1 0 v4.length), (9, .own 2 2 0 x1_r2.length), (10, .i x1_10), (11, .ptr 3 0 0 0)], [.box 45 (eC45 a1), eR3 v4, eR66 x1_r2, .box 109 [.i v8.1.Val, .b v8.1.Some]]⟩ h0 ?_
                    exact Jj3 v8.1.Val v8.1.Some H
                  · replace H := sF c16 H
                    rw [boF c16]
                    refine goK hT 7 (K32 11111010010010101010 1) ⟨83, [(6, .d (eL66 true a0)), (7, .b false)], [.box 45 (eC45 a1), eR3 v4, eR66 x1_r2, .box 109 (eC109 v5), .box 109 (eC109 v8.1)]⟩ ?_
                    obtain rfl := retC H
                    exact ak_ret hf hX (av := .tup [.d (eL66 true a0), .b false]) (by kernel_rfl) [] (sel_of_eq (by kernel_rfl)) (by decide) (by rw [h0]; rfl) (by kernel_rfl) (fun _ h => all_nil h) (.tup (.cons (.d (.sl fun _ _ => spliceref04_Pair.nl _)) (.cons (.d (.v _)) .nil)))
                · replace H := sF c14 H
                  rw [boF c14]
                  refine goK hT 2 (K32 1111101001001 1) ⟨83, [(0, .d (eL66 true a0)), (2, .d (eL43 t2 a2)), (4, .ptr 0 0 0 0), (8, .own 1 1 0 v4.length), (9, .own 2 2 0 x1_r2.length), (10, .i x1_10), (11, .ptr 3 0 0 0)], [.box 45 (eC45 a1), eR3 v4, eR66 x1_r2, .box 109 (eC109 v5)]⟩ ?_
                  refine cutK [0, 1, 2, 3] ⟨83, [(0, .d (eL66 true a0)), (2, .d (eL43 t2 a2)), (4, .ptr 0 0 0 0), (8, .own 1 1 0 v4.length), (9, .own 2 2 0 x1_r2.length), (10, .i x1_10), (11, .ptr 3 0 0 0)], [.box 45 (eC45 a1), eR3 v4, eR66 x1_r2, .box 109 [.i v5.Val, .b v5.Some]]⟩ h0 ?_
                  exact Jj3 v5.Val v5.Some H
              by_cases c12 : v6 = true
              · replace H := sT c12 H
                obtain ⟨v7, h13, H⟩ := sbC H
                refine drawK (hP ▸ mixed) 14 [0, 2, 4, 8, 9, 10, 11] [some (.d (eG45 a1)), some (.own 1 1 0 v4.length), some (.i x1_10), some (.ptr 1 1 x1_10.toNat 0), some (.i (v4.getD x1_10.toNat 0)), some (.b true), some (.b true), some (.d (eL43 t2 a2)), some (.own 1 1 0 v4.length), some (.i x1_10), some (.ptr 1 1 x1_10.toNat 0), some (.i (v4.getD x1_10.toNat 0)), some (.b v7), some (.b v7)] (opG (opS (opS (opS (opG (opG (opG (opG (opS (opS (opS (opG (opG (opG op0 hT) hT) hT) (fun R rest h => ak_idx0 hT (i := x1_10) (n := (v4.length : Int)) h9.1 h9.2 (by kernel_rfl) h)) (fun R rest h => ak_ld0 hT (i := x1_10.toNat) (n := v4.length) (ltN h9.1 h9.2) (by kernel_rfl) h)) (fun R rest h => ak_callD (avs := [.d (eG45 a1), .i (v4.getD x1_10.toNat 0)]) (dst := some 47) hP enters_61 (by have q := spliceref04_Touches.says a1 (v4.getD x1_10.toNat 0) h11; rw [c12] at q; exact q) (by kernel_rfl) (.cons (pass_d _) (.cons (pass_d _) .nil)) (by kernel_rfl) h)) hT) hT) hT) hT) (fun R rest h => ak_idx0 hT (i := x1_10) (n := (v4.length : Int)) h9.1 h9.2 (by kernel_rfl) h)) (fun R rest h => ak_ld0 hT (i := x1_10.toNat) (n := v4.length) (ltN h9.1 h9.2) (by kernel_rfl) h)) (fun R rest h => ak_callD (avs := [.d (eL43 t2 a2), .i (v4.getD x1_10.toNat 0)]) (dst := some 54) hP enters_62 (spliceref03_Has.says (t0 := t2) a2 (v4.getD x1_10.toNat 0) h13) (by kernel_rfl) (.cons (pass_d _) (.cons (pass_d _) .nil)) (by kernel_rfl) h)) hT) ?_
                refine goK hT 1 (K32 11111010010010 1) ⟨83, [(0, .d (eL66 true a0)), (2, .d (eL43 t2 a2)), (4, .ptr 0 0 0 0), (8, .own 1 1 0 v4.length), (9, .own 2 2 0 x1_r2.length), (10, .i x1_10), (11, .ptr 3 0 0 0), (55, .b v7)], [.box 45 (eC45 a1), eR3 v4, eR66 x1_r2, .box 109 (eC109 v5)]⟩ ?_
                refine cutK [0, 1, 2, 3] ⟨83, [(0, .d (eL66 true a0)), (2, .d (eL43 t2 a2)), (4, .ptr 0 0 0 0), (8, .own 1 1 0 v4.length), (9, .own 2 2 0 x1_r2.length), (10, .i x1_10), (11, .ptr 3 0 0 0), (55, .b v7)], [.box 45 (eC45 a1), eR3 v4, eR66 x1_r2, .box 109 (eC109 v5)]⟩ h0 ?_
                exact Jj2 v7 H
              · replace H := sF c12 H
                refine drawK (hP ▸ mixed) 14 [0, 2, 4, 8, 9, 10, 11] [some (.d (eG45 a1)), some (.own 1 1 0 v4.length), some (.i x1_10), some (.ptr 1 1 x1_10.toNat 0), some (.i (v4.getD x1_10.toNat 0)), some (.b false), some (.b false), some (.tup []), some (.tup []), some (.tup []), some (.tup []), some (.tup []), some (.tup []), some (.b false)] (opG (opG (opG (opG (opG (opG (opG (opG (opS (opS (opS (opG (opG (opG op0 hT) hT) hT) (fun R rest h => ak_idx0 hT (i := x1_10) (n := (v4.length : Int)) h9.1 h9.2 (by kernel_rfl) h)) (fun R rest h => ak_ld0 hT (i := x1_10.toNat) (n := v4.length) (ltN h9.1 h9.2) (by kernel_rfl) h)) (fun R rest h => ak_callD (avs := [.d (eG45 a1), .i (v4.getD x1_10.toNat 0)]) (dst := some 47) hP enters_61 (by have q := spliceref04_Touches.says a1 (v4.getD x1_10.toNat 0) h11; rw [boF c12] at q; exact q) (by kernel_rfl) (.cons (pass_d _) (.cons (pass_d _) .nil)) (by kernel_rfl) h)) hT) hT) hT) hT) hT) hT) hT) hT) ?_
                refine goK hT 1 (K32 11111010010010 1) ⟨83, [(0, .d (eL66 true a0)), (2, .d (eL43 t2 a2)), (4, .ptr 0 0 0 0), (8, .own 1 1 0 v4.length), (9, .own 2 2 0 x1_r2.length), (10, .i x1_10), (11, .ptr 3 0 0 0), (55, .b false)], [.box 45 (eC45 a1), eR3 v4, eR66 x1_r2, .box 109 (eC109 v5)]⟩ ?_
                refine cutK [0, 1, 2, 3] ⟨83, [(0, .d (eL66 true a0)), (2, .d (eL43 t2 a2)), (4, .ptr 0 0 0 0), (8, .own 1 1 0 v4.length), (9, .own 2 2 0 x1_r2.length), (10, .i x1_10), (11, .ptr 3 0 0 0), (55, .b false)], [.box 45 (eC45 a1), eR3 v4, eR66 x1_r2, .box 109 (eC109 v5)]⟩ h0 ?_
                exact Jj2 false H
            · replace H := sF c8 H
              rw [decide_eq_false c8]
              refine goK hT 8 (K32 111111 1) ⟨83, [(6, .own 2 2 0 x1_r2.length), (7, .b true)], [.box 45 (eC45 a1), eR3 v4, eR66 x1_r2]⟩ ?_
              refine ak_freeze 2 (kk := 2) (n := x1_r2.length) (ty := 66) (g := vec spliceref04_Pair.e spliceref04_Pair.z x1_r2) (by kernel_rfl) (st' := ⟨83, [(6, .own 2 2 0 x1_r2.length), (7, .b true)], [.box 45 (eC45 a1), eR3 v4, eF66 x1_r2]⟩) (by kernel_rfl) ?_
              refine ak_sealS (av := .own 2 2 0 x1_r2.length) (y := eL66 true x1_r2) [6, 7] 6 (st' := ⟨83, [(6, .d (eL66 true x1_r2)), (7, .b true)], [.box 45 (eC45 a1), eR3 v4, eF66 x1_r2]⟩) (by kernel_rfl) (.own (ty := 66) (k := 2) (by kernel_rfl)) (by kernel_rfl) ?_
              obtain rfl := retC H
              exact ak_ret hf hX (av := .tup [.d (eL66 true x1_r2), .b true]) (by kernel_rfl) [] (sel_of_eq (by kernel_rfl)) (by decide) (by rw [h0]; rfl) (by kernel_rfl) (fun _ h => all_nil h) (.tup (.cons (.d (.sl fun _ _ => spliceref04_Pair.nl _)) (.cons (.d (.v _)) .nil)))
      refine cutK [0, 1, 2] ⟨83, [(0, .d (eL66 true a0)), (2, .d (eL43 t2 a2)), (4, .ptr 0 0 0 0), (8, .own 1 1 0 v4.length), (9, .own 2 2 0 ([] : List spliceref04_Pair).length), (10, .i 0)], [.box 45 (eC45 a1), eR3 v4, eR66 ([] : List spliceref04_Pair)]⟩ h0 ?_
      obtain ⟨n, H⟩ := loopC H
      exact (L n) 0 ([] : List spliceref04_Pair) H
  refine ak_callP (avs := [.d (eL66 true a0)]) (dst := some 15) (k' := (K32 1100 2)) [0, 2, 4, 15] [] hP enters_38 (spliceref05_Check.says (t0 := true) a0 h1) (by kernel_rfl) (hands_none _) (.cons (pass_d _) .nil) (st' := ⟨83, [(0, .d (eL66 true a0)), (2, .d (eL43 t2 a2)), (4, .ptr 0 0 0 0), (15, .b v1)], [.box 45 (eC45 a1)]⟩) (by kernel_rfl) ?_
  refine goK hT 2 (K32 1100 4) ⟨83, [(0, .d (eL66 true a0)), (2, .d (eL43 t2 a2)), (4, .ptr 0 0 0 0), (17, .b (!v1))], [.box 45 (eC45 a1)]⟩ ?_
  by_cases c2 : v1 = true
  · replace H := iT c2 H
    rw [c2]
    refine goK hT 1 (K32 1100 5) ⟨83, [(0, .d (eL66 true a0)), (2, .d (eL43 t2 a2)), (4, .ptr 0 0 0 0), (17, .b false), (18, .d (eG45 a1))], [.box 45 (eC45 a1)]⟩ ?_
    obtain ⟨v2, h3, H⟩ := ibC H
    refine ak_callP (avs := [.d (eG45 a1)]) (dst := some 19) (k' := (K32 1100 6)) [0, 2, 4, 17, 19] [] hP enters_21 (spliceref04_Check.says a1 h3) (by kernel_rfl) (hands_none _) (.cons (pass_d _) .nil) (st' := ⟨83, [(0, .d (eL66 true a0)), (2, .d (eL43 t2 a2)), (4, .ptr 0 0 0 0), (17, .b false), (19, .b v2)], [.box 45 (eC45 a1)]⟩) (by kernel_rfl) ?_
    refine goK hT 3 (K32 1100 9) ⟨83, [(0, .d (eL66 true a0)), (2, .d (eL43 t2 a2)), (4, .ptr 0 0 0 0), (22, .b (!v2))], [.box 45 (eC45 a1)]⟩ ?_
    by_cases c4 : v2 = true
    · replace H := iT c4 H
      rw [c4]
      refine goK hT 1 (K32 1100 10) ⟨83, [(0, .d (eL66 true a0)), (2, .d (eL43 t2 a2)), (4, .ptr 0 0 0 0), (22, .b false), (23, .d (eL43 t2 a2))], [.box 45 (eC45 a1)]⟩ ?_
      obtain ⟨v3, h5, H⟩ := ibC H
      refine ak_callP (avs := [.d (eL43 t2 a2)]) (dst := some 24) (k' := (K32 1100 11)) [0, 2, 4, 22, 24] [] hP enters_25 (spliceref03_Check.says (t0 := t2) a2 h5) (by kernel_rfl) (hands_none _) (.cons (pass_d _) .nil) (st' := ⟨83, [(0, .d (eL66 true a0)), (2, .d (eL43 t2 a2)), (4, .ptr 0 0 0 0), (22, .b false), (24, .b v3)], [.box 45 (eC45 a1)]⟩) (by kernel_rfl) ?_
      refine goK hT 3 (K32 110 1) ⟨83, [(0, .d (eL66 true a0)), (2, .d (eL43 t2 a2)), (4, .ptr 0 0 0 0), (26, .b (!v3))], [.box 45 (eC45 a1)]⟩ ?_
      refine cutK [0] ⟨83, [(0, .d (eL66 true a0)), (2, .d (eL43 t2 a2)), (4, .ptr 0 0 0 0), (26, .b (!v3))], [.box 45 (eC45 a1)]⟩ h0 ?_
      exact Jj1 (!v3) H
    · replace H := iF c4 H
      rw [boF c4]
      refine goK hT 5 (K32 110 1) ⟨83, [(0, .d (eL66 true a0)), (2, .d (eL43 t2 a2)), (4, .ptr 0 0 0 0), (26, .b true)], [.box 45 (eC45 a1)]⟩ ?_
      refine cutK [0] ⟨83, [(0, .d (eL66 true a0)), (2, .d (eL43 t2 a2)), (4, .ptr 0 0 0 0), (26, .b true)], [.box 45 (eC45 a1)]⟩ h0 ?_
      exact Jj1 true H
  · replace H := iF c2 H
    rw [boF c2]
    refine goK hT 10 (K32 110 1) ⟨83, [(0, .d (eL66 true a0)), (2, .d (eL43 t2 a2)), (4, .ptr 0 0 0 0), (26, .b true)], [.box 45 (eC45 a1)]⟩ ?_
    refine cutK [0] ⟨83, [(0, .d (eL66 true a0)), (2, .d (eL43 t2 a2)), (4, .ptr 0 0 0 0), (26, .b true)], [.box 45 (eC45 a1)]⟩ h0 ?_
    exact Jj1 true H


theorem spliceref05_Same.says {t0 : Bool} {t1 : Bool} (a0 : List spliceref04_Pair) (a1 : List spliceref04_Pair) {r : Bool} (H : spliceref05_Same a0 a1 = some r) : Says Try.prog 10 [] [.d (eL66 t0 a0), .d (eL66 t1 a1)] [] (.b r) := by
  refine says_of Try.func10 rfl (nt := 26) rfl (Nat.le_of_ble_eq_true rfl) fun X hP h0 hX => ?_
  have hT : TabOk X.P T := hP ▸ tok
  have hf : X.P.funcs[10]? = some Try.f10 := hP ▸ Try.func10
  refine goK hT 13 (K10 110 1) ⟨26, [(0, .d (eL66 t0 a0)), (1, .d (eL66 t1 a1)), (10, .b ((a0.length : Int) != (a1.length : Int)))], []⟩ ?_
  by_cases c1 : (a0.length : Int) = (a1.length : Int)
  · replace H := iT c1 H
    rw [neF c1]
    refine goK hT 2 (K10 11 1) ⟨26, [(0, .d (eL66 t0 a0)), (1, .d (eL66 t1 a1))], []⟩ ?_
    refine goK hT 7 (K10 111010 0) ⟨26, [(0, .d (eL66 t0 a0)), (1, .d (eL66 t1 a1)), (5, .i 0)], []⟩ ?_
    have L : ∀ n, (∀ (x1_5 : Int), iter (spliceref05_Same.step a0 a1) n (.l1 x1_5) = some r → AK X 10 ((K10 111010 0)) (Back X [] (.b r)) ⟨26, [(0, .d (eL66 t0 a0)), (1, .d (eL66 t1 a1)), (5, .i x1_5)], []⟩) := by
      intro n
      induction n with
      | zero => exact fun _ H => iter0 H
      | succ n ih =>
        · intro x1_5 H
          refine goK hT 8 (K10 11101000 1) ⟨26, [(0, .d (eL66 t0 a0)), (1, .d (eL66 t1 a1)), (5, .i x1_5), (14, .b (decide (x1_5 < (a0.length : Int))))], []⟩ ?_
          by_cases c2 : x1_5 < (a0.length : Int)
          · replace H := sT c2 H
            rw [decide_eq_true c2]
            refine goK hT 2 (K10 1110100 1) ⟨26, [(0, .d (eL66 t0 a0)), (1, .d (eL66 t1 a1)), (5, .i x1_5)], []⟩ ?_
            refine goK hT 3 (K10 1110100100 0) ⟨26, [(0, .d (eL66 t0 a0)), (1, .d (eL66 t1 a1)), (5, .i x1_5)], []⟩ ?_
            obtain ⟨h3, H⟩ := sC H
            obtain ⟨h4, H⟩ := sC H
            refine drawK (hP ▸ mixed) 9 [0, 1, 5] [some (.d (eL66 t0 a0)), some (.i x1_5), some (.d (eP66 t0 a0 x1_5.toNat 0)), some (.d (eG66 (a0.getD x1_5.toNat spliceref04_Pair.z))), some (.d (eL66 t1 a1)), some (.i x1_5), some (.d (eP66 t1 a1 x1_5.toNat 0)), some (.d (eG66 (a1.getD x1_5.toNat spliceref04_Pair.z))), some (.b (!((((a0.getD x1_5.toNat spliceref04_Pair.z).Key) == ((a1.getD x1_5.toNat spliceref04_Pair.z).Key)) && (((a0.getD x1_5.toNat spliceref04_Pair.z).Val) == ((a1.getD x1_5.toNat spliceref04_Pair.z).Val)))))] (opG (opG (opS (opG (opG (opG (opS (opG (opG op0 hT) hT) (fun R rest h => ak_idx0 hT (i := x1_5) (n := (a0.length : Int)) h3.1 h3.2 (by kernel_rfl) h)) hT) hT) hT) (fun R rest h => ak_idx0 hT (i := x1_5) (n := (a1.length : Int)) h4.1 h4.2 (by kernel_rfl) h)) hT) hT) ?_
            refine goK hT 1 (K10 1110100100 1) ⟨26, [(0, .d (eL66 t0 a0)), (1, .d (eL66 t1 a1)), (5, .i x1_5), (25, .b (!((((a0.getD x1_5.toNat spliceref04_Pair.z).Key) == ((a1.getD x1_5.toNat spliceref04_Pair.z).Key)) && (((a0.getD x1_5.toNat spliceref04_Pair.z).Val) == ((a1.getD x1_5.toNat spliceref04_Pair.z).Val)))))], []⟩ ?_
            by_cases c5 : ((a0.getD x1_5.toNat spliceref04_Pair.z).Key) = ((a1.getD x1_5.toNat spliceref04_Pair.z).Key)
            · replace H := sT c5 H
              rw [eqT c5]
              by_cases c6 : ((a0.getD x1_5.toNat spliceref04_Pair.z).Val) = ((a1.getD x1_5.toNat spliceref04_Pair.z).Val)
              · replace H := sT c6 H
                rw [eqT c6]
                refine goK hT 3 (K10 11101001 1) ⟨26, [(0, .d (eL66 t0 a0)), (1, .d (eL66 t1 a1)), (5, .i x1_5)], []⟩ ?_
                refine goK hT 6 (K10 111010 0) ⟨26, [(0, .d (eL66 t0 a0)), (1, .d (eL66 t1 a1)), (5, .i (IntKind.wrap .i64 (x1_5 + 1)))], []⟩ ?_
                refine cutK [] ⟨26, [(0, .d (eL66 t0 a0)), (1, .d (eL66 t1 a1)), (5, .i (IntKind.wrap .i64 (x1_5 + 1)))], []⟩ h0 ?_
                exact ih (IntKind.wrap .i64 (x1_5 + 1)) H
              · replace H := sF c6 H
                rw [eqF c6]
                refine goK hT 5 (K10 111010010010 1) ⟨26, [(4, .b false)], []⟩ ?_
                obtain rfl := retC H
                exact ak_ret hf hX (av := .b false) (by kernel_rfl) [] (sel_of_eq (by kernel_rfl)) (by decide) (by rw [h0]; rfl) (by kernel_rfl) (fun _ h => all_nil h) (.d (.v _))
            · replace H := sF c5 H
              rw [eqF c5]
              by_cases c7 : ((a0.getD x1_5.toNat spliceref04_Pair.z).Val) = ((a1.getD x1_5.toNat spliceref04_Pair.z).Val)
              · replace H := sT c7 H
                rw [eqT c7]
                refine goK hT 5 (K10 111010010010 1) ⟨26, [(4, .b false)], []⟩ ?_
                obtain rfl := retC H
                exact ak_ret hf hX (av := .b false) (by kernel_rfl) [] (sel_of_eq (by kernel_rfl)) (by decide) (by rw [h0]; rfl) (by kernel_rfl) (fun _ h => all_nil h) (.d (.v _))
              · replace H := sF c7 H
                rw [eqF c7]
                refine goK hT 5 (K10 111010010010 1) ⟨26, [(4, .b false)], []⟩ ?_
                obtain rfl := retC H
                exact ak_ret hf hX (av := .b false) (by kernel_rfl) [] (sel_of_eq (by kernel_rfl)) (by decide) (by rw [h0]; rfl) (by kernel_rfl) (fun _ h => all_nil h) (.d (.v _))
          · replace H := sF c2 H
            rw [decide_eq_false c2]
            refine goK hT 6 (K10 1111 1) ⟨26, [(4, .b true)], []⟩ ?_
            obtain rfl := retC H
            exact ak_ret hf hX (av := .b true) (by kernel_rfl) [] (sel_of_eq (by kernel_rfl)) (by decide) (by rw [h0]; rfl) (by kernel_rfl) (fun _ h => all_nil h) (.d (.v _))
    refine cutK [] ⟨26, [(0, .d (eL66 t0 a0)), (1, .d (eL66 t1 a1)), (5, .i 0)], []⟩ h0 ?_
    obtain ⟨n, H⟩ := loopC H
    exact (L n) 0 H
  · replace H := iF c1 H
    rw [neT c1]
    refine goK hT 5 (K10 11010 1) ⟨26, [(4, .b false)], []⟩ ?_
    obtain rfl := retC H
    exact ak_ret hf hX (av := .b false) (by kernel_rfl) [] (sel_of_eq (by kernel_rfl)) (by decide) (by rw [h0]; rfl) (by kernel_rfl) (fun _ h => all_nil h) (.d (.v _))


theorem spliceref15_Onto.says {t1 : Bool} {t2 : Bool} (a0 : List spliceref04_Pair) (a1 : List spliceref04_Mut) (a2 : List spliceref03_Span) {r : List spliceref04_Pair} (H : spliceref15_Onto a0 a1 a2 = some r) : Says Try.prog 18 [] [.d (eL66 true a0), .d (eL45 t1 a1), .d (eL43 t2 a2)] [] (.d (eL66 true r)) := by
  refine says_of Try.func18 rfl (nt := 51) rfl (Nat.le_of_ble_eq_true rfl) fun X hP h0 hX => ?_
  have hT : TabOk X.P T := hP ▸ tok
  have hf : X.P.funcs[18]? = some Try.f18 := hP ▸ Try.func18
  refine goK hT 8 (K18 1100 1) ⟨51, [(0, .d (eL66 true a0)), (1, .d (eL45 t1 a1)), (2, .d (eL43 t2 a2)), (12, .d (eL66 true a0))], []⟩ ?_
  obtain ⟨v1, h1, H⟩ := ibC H
  have Jj1 : ∀ (y1_19 : Bool), (spliceref15_Onto.j1 a0 a1 a2 y1_19) = some r → AK X 18 ((K18 110 1)) (Back X [] (.d (eL66 true r))) ⟨51, [(0, .d (eL66 true a0)), (1, .d (eL45 t1 a1)), (2, .d (eL43 t2 a2)), (19, .b y1_19)], []⟩ := by
    intro y1_19 H
    by_cases c4 : y1_19 = true
    · replace H := iT c4 H
      rw [c4]
      refine goK hT 5 (K18 11010 1) ⟨51, [(6, .ns)], []⟩ ?_
      refine ak_sealS (av := .d (.v (.slice none 0 0))) (y := eL66 true ([] : List spliceref04_Pair)) [6] 6 (st' := ⟨51, [(6, .d (eL66 true ([] : List spliceref04_Pair)))], []⟩) (by kernel_rfl) (.nil _) (by kernel_rfl) ?_
      obtain rfl := retC H
      exact ak_ret hf hX (av := .d (eL66 true ([] : List spliceref04_Pair))) (by kernel_rfl) [] (sel_of_eq (by kernel_rfl)) (by decide) (by rw [h0]; rfl) (by kernel_rfl) (fun _ h => all_nil h) (.d (.sl fun _ _ => spliceref04_Pair.nl _))
    · replace H := iF c4 H
      rw [boF c4]
      refine goK hT 2 (K18 11 1) ⟨51, [(0, .d (eL66 true a0)), (1, .d (eL45 t1 a1)), (2, .d (eL43 t2 a2))], []⟩ ?_
      refine goK hT 7 (K18 111010 0) ⟨51, [(0, .d (eL66 true a0)), (1, .d (eL45 t1 a1)), (2, .d (eL43 t2 a2)), (7, .i 0)], []⟩ ?_
      have L : ∀ n, (∀ (x1_7 : Int), iter (spliceref15_Onto.step a0 a1 a2) n (.l1 x1_7) = some r → AK X 18 ((K18 111010 0)) (Back X [] (.d (eL66 true r))) ⟨51, [(0, .d (eL66 true a0)), (1, .d (eL45 t1 a1)), (2, .d (eL43 t2 a2)), (7, .i x1_7)], []⟩) ∧ (∀ (x2_8 : List spliceref04_Pair) (x2_9 : Int), iter (spliceref15_Onto.step a0 a1 a2) n (.l2 x2_8 x2_9) = some r → AK X 18 ((K18 11111010 0)) (Back X [] (.d (eL66 true r))) ⟨51, [(1, .d (eL45 t1 a1)), (2, .d (eL43 t2 a2)), (8, .d (eL66 true x2_8)), (9, .i x2_9)], []⟩) := by
        intro n
        induction n with
        | zero => exact ⟨fun _ H => iter0 H, fun _ _ H => iter0 H⟩
        | succ n ih =>
          refine ⟨?_, ?_⟩
          · intro x1_7 H
            refine goK hT 8 (K18 11101000 1) ⟨51, [(0, .d (eL66 true a0)), (1, .d (eL45 t1 a1)), (2, .d (eL43 t2 a2)), (7, .i x1_7), (23, .b (decide (x1_7 < (a1.length : Int))))], []⟩ ?_
            by_cases c5 : x1_7 < (a1.length : Int)
            · replace H := sT c5 H
              rw [decide_eq_true c5]
              refine goK hT 2 (K18 1110100 1) ⟨51, [(0, .d (eL66 true a0)), (1, .d (eL45 t1 a1)), (2, .d (eL43 t2 a2)), (7, .i x1_7)], []⟩ ?_
              refine goK hT 6 (K18 11101001000 2) ⟨51, [(0, .d (eL66 true a0)), (1, .d (eL45 t1 a1)), (2, .d (eL43 t2 a2)), (7, .i x1_7), (26, .d (eL45 t1 a1)), (27, .i x1_7)], []⟩ ?_
              obtain ⟨h6, H⟩ := sC H
              refine ak_idx hT [0, 1, 2, 7, 28] (i := x1_7) (n := (a1.length : Int)) h6.1 h6.2 (k' := (K18 11101001000 3)) (st' := ⟨51, [(0, .d (eL66 true a0)), (1, .d (eL45 t1 a1)), (2, .d (eL43 t2 a2)), (7, .i x1_7), (28, .d (eP45 t1 a1 x1_7.toNat 0))], []⟩) (by kernel_rfl) ?_
              refine goK hT 1 (K18 11101001000 4) ⟨51, [(0, .d (eL66 true a0)), (1, .d (eL45 t1 a1)), (2, .d (eL43 t2 a2)), (7, .i x1_7), (29, .d (eG45 (a1.getD x1_7.toNat spliceref04_Mut.z)))], []⟩ ?_
              obtain ⟨v3, h7, H⟩ := sbC H
              refine ak_callP (avs := [.d (eG45 (a1.getD x1_7.toNat spliceref04_Mut.z))]) (dst := some 30) (k' := (K18 11101001000 5)) [0, 1, 2, 7, 30] [] hP enters_21 (spliceref04_Check.says (a1.getD x1_7.toNat spliceref04_Mut.z) h7) (by kernel_rfl) (hands_none _) (.cons (pass_d _) .nil) (st' := ⟨51, [(0, .d (eL66 true a0)), (1, .d (eL45 t1 a1)), (2, .d (eL43 t2 a2)), (7, .i x1_7), (30, .b v3)], []⟩) (by kernel_rfl) ?_
              refine goK hT 2 (K18 1110100100 1) ⟨51, [(0, .d (eL66 true a0)), (1, .d (eL45 t1 a1)), (2, .d (eL43 t2 a2)), (7, .i x1_7), (31, .b (!v3))], []⟩ ?_
              by_cases c8 : v3 = true
              · replace H := sT c8 H
                rw [c8]
                refine goK hT 3 (K18 11101001 1) ⟨51, [(0, .d (eL66 true a0)), (1, .d (eL45 t1 a1)), (2, .d (eL43 t2 a2)), (7, .i x1_7)], []⟩ ?_
                refine goK hT 6 (K18 111010 0) ⟨51, [(0, .d (eL66 true a0)), (1, .d (eL45 t1 a1)), (2, .d (eL43 t2 a2)), (7, .i (IntKind.wrap .i64 (x1_7 + 1)))], []⟩ ?_
                refine cutK [] ⟨51, [(0, .d (eL66 true a0)), (1, .d (eL45 t1 a1)), (2, .d (eL43 t2 a2)), (7, .i (IntKind.wrap .i64 (x1_7 + 1)))], []⟩ h0 ?_
                exact ih.1 (IntKind.wrap .i64 (x1_7 + 1)) H
              · replace H := sF c8 H
                rw [boF c8]
                refine goK hT 5 (K18 111010010010 1) ⟨51, [(6, .ns)], []⟩ ?_
                refine ak_sealS (av := .d (.v (.slice none 0 0))) (y := eL66 true ([] : List spliceref04_Pair)) [6] 6 (st' := ⟨51, [(6, .d (eL66 true ([] : List spliceref04_Pair)))], []⟩) (by kernel_rfl) (.nil _) (by kernel_rfl) ?_
                obtain rfl := retC H
                exact ak_ret hf hX (av := .d (eL66 true ([] : List spliceref04_Pair))) (by kernel_rfl) [] (sel_of_eq (by kernel_rfl)) (by decide) (by rw [h0]; rfl) (by kernel_rfl) (fun _ h => all_nil h) (.d (.sl fun _ _ => spliceref04_Pair.nl _))
            · replace H := sF c5 H
              rw [decide_eq_false c5]
              refine goK hT 14 (K18 11111010 0) ⟨51, [(1, .d (eL45 t1 a1)), (2, .d (eL43 t2 a2)), (8, .d (eL66 true a0)), (9, .i 0)], []⟩ ?_
              refine cutK [] ⟨51, [(1, .d (eL45 t1 a1)), (2, .d (eL43 t2 a2)), (8, .d (eL66 true a0)), (9, .i 0)], []⟩ h0 ?_
              exact ih.2 a0 0 H
          · intro x2_8 x2_9 H
            refine goK hT 8 (K18 1111101000 1) ⟨51, [(1, .d (eL45 t1 a1)), (2, .d (eL43 t2 a2)), (8, .d (eL66 true x2_8)), (9, .i x2_9), (36, .b (decide (x2_9 < (a1.length : Int))))], []⟩ ?_
            by_cases c9 : x2_9 < (a1.length : Int)
            · replace H := sT c9 H
              rw [decide_eq_true c9]
              refine goK hT 2 (K18 111110100 1) ⟨51, [(1, .d (eL45 t1 a1)), (2, .d (eL43 t2 a2)), (8, .d (eL66 true x2_8)), (9, .i x2_9)], []⟩ ?_
              refine goK hT 7 (K18 1111101001000 3) ⟨51, [(1, .d (eL45 t1 a1)), (2, .d (eL43 t2 a2)), (9, .i x2_9), (40, .d (eL66 true x2_8)), (41, .d (eL45 t1 a1)), (42, .i x2_9)], []⟩ ?_
              obtain ⟨h10, H⟩ := sC H
              refine ak_idx hT [1, 2, 9, 40, 43] (i := x2_9) (n := (a1.length : Int)) h10.1 h10.2 (k' := (K18 1111101001000 4)) (st' := ⟨51, [(1, .d (eL45 t1 a1)), (2, .d (eL43 t2 a2)), (9, .i x2_9), (40, .d (eL66 true x2_8)), (43, .d (eP45 t1 a1 x2_9.toNat 0))], []⟩) (by kernel_rfl) ?_
              refine goK hT 2 (K18 1111101001000 6) ⟨51, [(1, .d (eL45 t1 a1)), (2, .d (eL43 t2 a2)), (9, .i x2_9), (40, .d (eL66 true x2_8)), (44, .d (eG45 (a1.getD x2_9.toNat spliceref04_Mut.z))), (45, .d (eL43 t2 a2))], []⟩ ?_
              obtain ⟨v4, h11, H⟩ := sbC H
              refine ak_callP (avs := [.d (eL66 true x2_8), .d (eG45 (a1.getD x2_9.toNat spliceref04_Mut.z)), .d (eL43 t2 a2)]) (dst := some 46) (k' := (K18 1111101001000 7)) [1, 2, 9, 46] [] hP enters_32 (spliceref05_Apply.says (t2 := t2) x2_8 (a1.getD x2_9.toNat spliceref04_Mut.z) a2 h11) (by kernel_rfl) (hands_none _) (.cons (pass_d _) (.cons (pass_d _) (.cons (pass_d _) .nil))) (st' := ⟨51, [(1, .d (eL45 t1 a1)), (2, .d (eL43 t2 a2)), (9, .i x2_9), (46, .tup [.d (eL66 true v4.1), .b v4.2])], []⟩) (by kernel_rfl) ?_
              refine goK hT 17 (K18 11111010 0) ⟨51, [(1, .d (eL45 t1 a1)), (2, .d (eL43 t2 a2)), (8, .d (eL66 true v4.1)), (9, .i (IntKind.wrap .i64 (x2_9 + 1)))], []⟩ ?_
              refine cutK [] ⟨51, [(1, .d (eL45 t1 a1)), (2, .d (eL43 t2 a2)), (8, .d (eL66 true v4.1)), (9, .i (IntKind.wrap .i64 (x2_9 + 1)))], []⟩ h0 ?_
              exact ih.2 v4.1 (IntKind.wrap .i64 (x2_9 + 1)) H
            · replace H := sF c9 H
              rw [decide_eq_false c9]
              refine goK hT 7 (K18 111111 1) ⟨51, [(6, .d (eL66 true x2_8))], []⟩ ?_
              obtain rfl := retC H
              exact ak_ret hf hX (av := .d (eL66 true x2_8)) (by kernel_rfl) [] (sel_of_eq (by kernel_rfl)) (by decide) (by rw [h0]; rfl) (by kernel_rfl) (fun _ h => all_nil h) (.d (.sl fun _ _ => spliceref04_Pair.nl _))
      refine cutK [] ⟨51, [(0, .d (eL66 true a0)), (1, .d (eL45 t1 a1)), (2, .d (eL43 t2 a2)), (7, .i 0)], []⟩ h0 ?_
      obtain ⟨n, H⟩ := loopC H
      exact (L n).1 0 H
  refine ak_callP (avs := [.d (eL66 true a0)]) (dst := some 13) (k' := (K18 1100 2)) [0, 1, 2, 13] [] hP enters_38 (spliceref05_Check.says (t0 := true) a0 h1) (by kernel_rfl) (hands_none _) (.cons (pass_d _) .nil) (st' := ⟨51, [(0, .d (eL66 true a0)), (1, .d (eL45 t1 a1)), (2, .d (eL43 t2 a2)), (13, .b v1)], []⟩) (by kernel_rfl) ?_
  refine goK hT 2 (K18 1100 4) ⟨51, [(0, .d (eL66 true a0)), (1, .d (eL45 t1 a1)), (2, .d (eL43 t2 a2)), (15, .b (!v1))], []⟩ ?_
  by_cases c2 : v1 = true
  · replace H := iT c2 H
    rw [c2]
    refine goK hT 1 (K18 1100 5) ⟨51, [(0, .d (eL66 true a0)), (1, .d (eL45 t1 a1)), (2, .d (eL43 t2 a2)), (15, .b false), (16, .d (eL43 t2 a2))], []⟩ ?_
    obtain ⟨v2, h3, H⟩ := ibC H
    refine ak_callP (avs := [.d (eL43 t2 a2)]) (dst := some 17) (k' := (K18 1100 6)) [0, 1, 2, 15, 17] [] hP enters_25 (spliceref03_Check.says (t0 := t2) a2 h3) (by kernel_rfl) (hands_none _) (.cons (pass_d _) .nil) (st' := ⟨51, [(0, .d (eL66 true a0)), (1, .d (eL45 t1 a1)), (2, .d (eL43 t2 a2)), (15, .b false), (17, .b v2)], []⟩) (by kernel_rfl) ?_
    refine goK hT 3 (K18 110 1) ⟨51, [(0, .d (eL66 true a0)), (1, .d (eL45 t1 a1)), (2, .d (eL43 t2 a2)), (19, .b (!v2))], []⟩ ?_
    refine cutK [] ⟨51, [(0, .d (eL66 true a0)), (1, .d (eL45 t1 a1)), (2, .d (eL43 t2 a2)), (19, .b (!v2))], []⟩ h0 ?_
    exact Jj1 (!v2) H
  · replace H := iF c2 H
    rw [boF c2]
    refine goK hT 5 (K18 110 1) ⟨51, [(0, .d (eL66 true a0)), (1, .d (eL45 t1 a1)), (2, .d (eL43 t2 a2)), (19, .b true)], []⟩ ?_
    refine cutK [] ⟨51, [(0, .d (eL66 true a0)), (1, .d (eL45 t1 a1)), (2, .d (eL43 t2 a2)), (19, .b true)], []⟩ h0 ?_
    exact Jj1 true H


theorem splicelaw15_JudgeOntos.says {t0 : Bool} {t1 : Bool} (a0 : List api_Pair) (a1 : List api_Mut) (a2 : List api_Span) {r : Bool} (H : splicelaw15_JudgeOntos a0 a1 a2 = some r) : Says Try.prog 4 [] [.d (eL65 t0 a0), .d (eL42 t1 a1), .d (eL40 true a2)] [] (.b r) := by
  refine says_of Try.func4 rfl (nt := 60) rfl (Nat.le_of_ble_eq_true rfl) fun X hP h0 hX => ?_
  have hT : TabOk X.P T := hP ▸ tok
  have hf : X.P.funcs[4]? = some Try.f4 := hP ▸ Try.func4
  have Jj1 : ∀ (y1_21 : Bool), (splicelaw15_JudgeOntos.j1 a0 a1 a2 y1_21) = some r → AK X 4 ((K4 110 1)) (Back X [] (.b r)) ⟨60, [(0, .d (eL65 t0 a0)), (1, .d (eL42 t1 a1)), (2, .d (eL40 true a2)), (21, .b y1_21)], []⟩ := by
    intro y1_21 H
    by_cases c3 : y1_21 = true
    · replace H := iT c3 H
      rw [c3]
      refine goK hT 3 (K4 110100 0) ⟨60, [], []⟩ ?_
      obtain ⟨v1, h4, H⟩ := ibC H
      refine ak_callP (avs := []) (dst := some 22) (k' := (K4 110100 1)) [22] [] hP enters_9 (splicelaw15_awake.says h4) (by kernel_rfl) (hands_none _) .nil (st' := ⟨60, [(22, .b v1)], []⟩) (by kernel_rfl) ?_
      refine goK hT 2 (K4 11010 1) ⟨60, [(6, .b v1)], []⟩ ?_
      obtain rfl := retC H
      exact ak_ret hf hX (av := .b v1) (by kernel_rfl) [] (sel_of_eq (by kernel_rfl)) (by decide) (by rw [h0]; rfl) (by kernel_rfl) (fun _ h => all_nil h) (.d (.v _))
    · replace H := iF c3 H
      rw [boF c3]
      refine goK hT 2 (K4 11 1) ⟨60, [(0, .d (eL65 t0 a0)), (1, .d (eL42 t1 a1)), (2, .d (eL40 true a2))], []⟩ ?_
      refine goK hT 11 (K4 1111010 0) ⟨60, [(0, .d (eL65 t0 a0)), (1, .d (eL42 t1 a1)), (2, .d (eL40 true a2)), (7, .ns), (8, .i 0)], []⟩ ?_
      refine ak_nilS [0, 1, 2, 7, 8] 7 7 45 (vec spliceref04_Mut.e spliceref04_Mut.z []) (st' := ⟨60, [(0, .d (eL65 t0 a0)), (1, .d (eL42 t1 a1)), (2, .d (eL40 true a2)), (7, .own 0 7 0 0), (8, .i 0)], [eR45 ([] : List spliceref04_Mut)]⟩) (by kernel_rfl) (by kernel_rfl) ?_
      have L : ∀ n, (∀ (x1_8 : Int) (x1_r0 : List spliceref04_Mut), iter (splicelaw15_JudgeOntos.step a0 a1 a2) n (.l1 x1_8 x1_r0) = some r → AK X 4 ((K4 1111010 0)) (Back X [] (.b r)) ⟨60, [(0, .d (eL65 t0 a0)), (1, .d (eL42 t1 a1)), (2, .d (eL40 true a2)), (7, .own 0 7 0 x1_r0.length), (8, .i x1_8)], [eR45 x1_r0]⟩) := by
        intro n
        induction n with
        | zero => exact fun _ _ H => iter0 H
        | succ n ih =>
          · intro x1_8 x1_r0 H
            refine goK hT 8 (K4 111101000 1) ⟨60, [(0, .d (eL65 t0 a0)), (1, .d (eL42 t1 a1)), (2, .d (eL40 true a2)), (7, .own 0 7 0 x1_r0.length), (8, .i x1_8), (26, .b (decide (x1_8 < (a1.length : Int))))], [eR45 x1_r0]⟩ ?_
            by_cases c5 : x1_8 < (a1.length : Int)
            · replace H := sT c5 H
              rw [decide_eq_true c5]
              refine goK hT 2 (K4 11110100 1) ⟨60, [(0, .d (eL65 t0 a0)), (1, .d (eL42 t1 a1)), (2, .d (eL40 true a2)), (7, .own 0 7 0 x1_r0.length), (8, .i x1_8)], [eR45 x1_r0]⟩ ?_
              refine goK hT 7 (K4 1111010010000 2) ⟨60, [(0, .d (eL65 t0 a0)), (1, .d (eL42 t1 a1)), (2, .d (eL40 true a2)), (7, .own 0 7 0 x1_r0.length), (8, .i x1_8), (29, .d (eL42 t1 a1)), (30, .i x1_8)], [eR45 x1_r0]⟩ ?_
              obtain ⟨h14, H⟩ := sC H
              refine ak_idx hT [0, 1, 2, 7, 8, 31] (i := x1_8) (n := (a1.length : Int)) h14.1 h14.2 (k' := (K4 1111010010000 3)) (st' := ⟨60, [(0, .d (eL65 t0 a0)), (1, .d (eL42 t1 a1)), (2, .d (eL40 true a2)), (7, .own 0 7 0 x1_r0.length), (8, .i x1_8), (31, .d (eP42 t1 a1 x1_8.toNat 0))], [eR45 x1_r0]⟩) (by kernel_rfl) ?_
              refine goK hT 5 (K4 111101001000 1) ⟨60, [(0, .d (eL65 t0 a0)), (1, .d (eL42 t1 a1)), (2, .d (eL40 true a2)), (7, .own 0 7 0 x1_r0.length), (8, .i x1_8), (35, .b (decide ((((a1.getD x1_8.toNat api_Mut.z).Pairs).length : Int) > 20)))], [eR45 x1_r0]⟩ ?_
              by_cases c15 : (((a1.getD x1_8.toNat api_Mut.z).Pairs).length : Int) > 20
              · replace H := sT c15 H
                rw [decide_eq_true c15]
                refine goK hT 3 (K4 111101001000100 0) ⟨60, [], [eR45 x1_r0]⟩ ?_
                obtain ⟨v9, h16, H⟩ := sbC H
                refine ak_callP (avs := []) (dst := some 36) (k' := (K4 111101001000100 1)) [36] [] hP enters_9 (splicelaw15_awake.says h16) (by kernel_rfl) (hands_none _) .nil (st' := ⟨60, [(36, .b v9)], [eR45 x1_r0]⟩) (by kernel_rfl) ?_
                refine goK hT 2 (K4 11110100100010 1) ⟨60, [(6, .b v9)], [eR45 x1_r0]⟩ ?_
                obtain rfl := retC H
                exact ak_ret hf hX (av := .b v9) (by kernel_rfl) [] (sel_of_eq (by kernel_rfl)) (by decide) (by rw [h0]; rfl) (by kernel_rfl) (fun _ h => all_nil h) (.d (.v _))
              · replace H := sF c15 H
                rw [decide_eq_false c15]
                refine goK hT 2 (K4 11110100100 1) ⟨60, [(0, .d (eL65 t0 a0)), (1, .d (eL42 t1 a1)), (2, .d (eL40 true a2)), (7, .own 0 7 0 x1_r0.length), (8, .i x1_8)], [eR45 x1_r0]⟩ ?_
                refine goK hT 4 (K4 111101001001 3) ⟨60, [(0, .d (eL65 t0 a0)), (1, .d (eL42 t1 a1)), (2, .d (eL40 true a2)), (8, .i x1_8), (37, .own 0 7 0 x1_r0.length), (38, .d (eL42 t1 a1)), (39, .i x1_8)], [eR45 x1_r0]⟩ ?_
                refine ak_idx hT [0, 1, 2, 8, 37, 40] (i := x1_8) (n := (a1.length : Int)) h14.1 h14.2 (k' := (K4 111101001001 4)) (st' := ⟨60, [(0, .d (eL65 t0 a0)), (1, .d (eL42 t1 a1)), (2, .d (eL40 true a2)), (8, .i x1_8), (37, .own 0 7 0 x1_r0.length), (40, .d (eP42 t1 a1 x1_8.toNat 0))], [eR45 x1_r0]⟩) (by kernel_rfl) ?_
                refine goK hT 1 (K4 111101001001 5) ⟨60, [(0, .d (eL65 t0 a0)), (1, .d (eL42 t1 a1)), (2, .d (eL40 true a2)), (8, .i x1_8), (37, .own 0 7 0 x1_r0.length), (41, .d (eG42 (a1.getD x1_8.toNat api_Mut.z)))], [eR45 x1_r0]⟩ ?_
                obtain ⟨v10, h17, H⟩ := sbC H
                refine ak_callP (avs := [.d (eG42 (a1.getD x1_8.toNat api_Mut.z))]) (dst := some 42) (k' := (K4 111101001001 6)) [0, 1, 2, 8, 37, 42] [] hP enters_16 (splicelaw04_Ref.says (a1.getD x1_8.toNat api_Mut.z) h17) (by kernel_rfl) (hands_none _) (.cons (pass_d _) .nil) (st' := ⟨60, [(0, .d (eL65 t0 a0)), (1, .d (eL42 t1 a1)), (2, .d (eL40 true a2)), (8, .i x1_8), (37, .own 0 7 0 x1_r0.length), (42, .d (eG45 v10))], [eR45 x1_r0]⟩) (by kernel_rfl) ?_
                refine goK hT 1 (K4 111101001001 7) ⟨60, [(0, .d (eL65 t0 a0)), (1, .d (eL42 t1 a1)), (2, .d (eL40 true a2)), (8, .i x1_8), (37, .own 0 7 0 x1_r0.length), (43, .own 1 7 0 1)], [eR45 x1_r0, .flat false 7 45 1 (fun j => [spliceref04_Mut.e v10].getD j [])]⟩ ?_
                obtain ⟨h18, H⟩ := sC H
                refine ak_append1 (id := 0) (kk := 7) (by' := 72) (t := 38) (e := 45) (z := [.int .i64 0, .int .i64 0, .int .i64 0, .slice none 0 0, .int .i64 0, .int .i64 0, .int .i64 0]) (dst := some 44) (id2 := 1) (e2 := 45) (fz := false) (k' := (K4 111101001001 8)) hT spliceref04_Mut.e spliceref04_Mut.z x1_r0 v10 [0, 1, 2, 8, 44] (by kernel_rfl) (by kernel_rfl) (by kernel_rfl) (by kernel_rfl) (by kernel_rfl) (by kernel_rfl) (by kernel_rfl) h18 (by omega) (st' := ⟨60, [(0, .d (eL65 t0 a0)), (1, .d (eL42 t1 a1)), (2, .d (eL40 true a2)), (8, .i x1_8), (44, .own 2 7 0 ((x1_r0 ++ [v10]).length))], [.gone, .flat false 7 45 1 (fun j => [spliceref04_Mut.e v10].getD j []), eR45 (x1_r0 ++ [v10])]⟩) (by kernel_rfl) ?_
                refine goK hT 9 (K4 1111010 0) ⟨60, [(0, .d (eL65 t0 a0)), (1, .d (eL42 t1 a1)), (2, .d (eL40 true a2)), (7, .own 2 7 0 ((x1_r0 ++ [v10]).length)), (8, .i (IntKind.wrap .i64 (x1_8 + 1)))], [.gone, .flat false 7 45 1 (fun j => [spliceref04_Mut.e v10].getD j []), eR45 (x1_r0 ++ [v10])]⟩ ?_
                refine cutK [2] ⟨60, [(0, .d (eL65 t0 a0)), (1, .d (eL42 t1 a1)), (2, .d (eL40 true a2)), (7, .own 0 7 0 (x1_r0 ++ [v10]).length), (8, .i (IntKind.wrap .i64 (x1_8 + 1)))], [eR45 (x1_r0 ++ [v10])]⟩ h0 ?_
                exact ih (IntKind.wrap .i64 (x1_8 + 1)) (x1_r0 ++ [v10]) H
            · replace H := sF c5 H
              rw [decide_eq_false c5]
              refine goK hT 4 (K4 111110 0) ⟨60, [(0, .d (eL65 t0 a0)), (1, .d (eL42 t1 a1)), (2, .d (eL40 true a2)), (7, .own 0 7 0 x1_r0.length)], [eR45 x1_r0]⟩ ?_
              obtain ⟨v2, h6, H⟩ := sbC H
              have Jj2 : ∀ (y2_6 : Bool), stk (splicelaw15_JudgeOntos.j2 y2_6) (iter (splicelaw15_JudgeOntos.step a0 a1 a2) n) = some r → AK X 4 ((K4 11111 1)) (Back X [] (.b r)) ⟨60, [(6, .b y2_6)], []⟩ := by
                intro y2_6 H
                obtain rfl := retC H
                exact ak_ret hf hX (av := .b y2_6) (by kernel_rfl) [] (sel_of_eq (by kernel_rfl)) (by decide) (by rw [h0]; rfl) (by kernel_rfl) (fun _ h => all_nil h) (.d (.v _))
              refine ak_callP (avs := []) (dst := some 45) (k' := (K4 111110 1)) [0, 1, 2, 7, 45] [] hP enters_9 (splicelaw15_awake.says h6) (by kernel_rfl) (hands_none _) .nil (st' := ⟨60, [(0, .d (eL65 t0 a0)), (1, .d (eL42 t1 a1)), (2, .d (eL40 true a2)), (7, .own 0 7 0 x1_r0.length), (45, .b v2)], [eR45 x1_r0]⟩) (by kernel_rfl) ?_
              refine goK hT 1 (K4 111110 2) ⟨60, [(0, .d (eL65 t0 a0)), (1, .d (eL42 t1 a1)), (2, .d (eL40 true a2)), (7, .own 0 7 0 x1_r0.length), (46, .b v2)], [eR45 x1_r0]⟩ ?_
              by_cases c7 : v2 = true
              · replace H := sT c7 H
                rw [c7]
                refine goK hT 3 (K4 111110 5) ⟨60, [(0, .d (eL65 t0 a0)), (2, .d (eL40 true a2)), (7, .own 0 7 0 x1_r0.length), (46, .b true), (47, .d (eL65 t0 a0)), (48, .d (eL42 t1 a1)), (49, .d (eL40 true a2))], [eR45 x1_r0]⟩ ?_
                obtain ⟨v3, h8, H⟩ := sbC H
                refine ak_callP (avs := [.d (eL65 t0 a0), .d (eL42 t1 a1), .d (eL40 true a2)]) (dst := some 50) (k' := (K4 111110 6)) [0, 2, 7, 46, 50] [] hP enters_17 (judge_Onto.says (t0 := t0) (t1 := t1) a0 a1 a2 h8) (by kernel_rfl) (hands_none _) (.cons (pass_d _) (.cons (pass_d _) (.cons (pass_d _) .nil))) (st' := ⟨60, [(0, .d (eL65 t0 a0)), (2, .d (eL40 true a2)), (7, .own 0 7 0 x1_r0.length), (46, .b true), (50, .own 1 2 0 v3.length)], [eR45 x1_r0, eR65 v3]⟩) (by kernel_rfl) ?_
                obtain ⟨v4, h9, H⟩ := sbC H
                refine ak_callP (avs := [.own 1 2 0 v3.length]) (dst := some 51) (k' := (K4 111110 7)) [0, 2, 7, 46, 51] [] hP enters_11 (splicelaw05_Refs.says (t0 := false) v3 h9) (by kernel_rfl) (hands_none _) (.cons (.lend (ty := 65) (by kernel_rfl) rfl) .nil) (st' := ⟨60, [(0, .d (eL65 t0 a0)), (2, .d (eL40 true a2)), (7, .own 0 7 0 x1_r0.length), (46, .b true), (51, .own 2 2 0 v4.length)], [eR45 x1_r0, eR65 v3, eR66 v4]⟩) (by kernel_rfl) ?_
                refine goK hT 1 (K4 111110 8) ⟨60, [(2, .d (eL40 true a2)), (7, .own 0 7 0 x1_r0.length), (46, .b true), (51, .own 2 2 0 v4.length), (52, .d (eL65 t0 a0))], [eR45 x1_r0, eR65 v3, eR66 v4]⟩ ?_
                obtain ⟨v5, h10, H⟩ := sbC H
                refine ak_callP (avs := [.d (eL65 t0 a0)]) (dst := some 53) (k' := (K4 111110 9)) [2, 7, 46, 51, 53] [] hP enters_11 (splicelaw05_Refs.says (t0 := t0) a0 h10) (by kernel_rfl) (hands_none _) (.cons (pass_d _) .nil) (st' := ⟨60, [(2, .d (eL40 true a2)), (7, .own 0 7 0 x1_r0.length), (46, .b true), (51, .own 2 2 0 v4.length), (53, .own 3 2 0 v5.length)], [eR45 x1_r0, eR65 v3, eR66 v4, eR66 v5]⟩) (by kernel_rfl) ?_
                refine goK hT 2 (K4 111110 11) ⟨60, [(46, .b true), (51, .own 2 2 0 v4.length), (53, .own 3 2 0 v5.length), (54, .own 0 7 0 x1_r0.length), (55, .d (eL40 true a2))], [eR45 x1_r0, eR65 v3, eR66 v4, eR66 v5]⟩ ?_
                obtain ⟨v6, h11, H⟩ := sbC H
                refine ak_callP (avs := [.d (eL40 true a2)]) (dst := some 56) (k' := (K4 111110 12)) [46, 51, 53, 54, 56] [] hP enters_15 (splicelaw03_Refs.says (t0 := true) a2 h11) (by kernel_rfl) (hands_none _) (.cons (pass_d _) .nil) (st' := ⟨60, [(46, .b true), (51, .own 2 2 0 v4.length), (53, .own 3 2 0 v5.length), (54, .own 0 7 0 x1_r0.length), (56, .own 4 2 0 v6.length)], [eR45 x1_r0, eR65 v3, eR66 v4, eR66 v5, eR43 v6]⟩) (by kernel_rfl) ?_
                refine ak_freeze 3 (kk := 2) (n := v5.length) (ty := 66) (g := vec spliceref04_Pair.e spliceref04_Pair.z v5) (by kernel_rfl) (st' := ⟨60, [(46, .b true), (51, .own 2 2 0 v4.length), (53, .own 3 2 0 v5.length), (54, .own 0 7 0 x1_r0.length), (56, .own 4 2 0 v6.length)], [eR45 x1_r0, eR65 v3, eR66 v4, eF66 v5, eR43 v6]⟩) (by kernel_rfl) ?_
                obtain ⟨v7, h12, H⟩ := sbC H
                refine ak_callP (avs := [.own 3 2 0 v5.length, .own 0 7 0 x1_r0.length, .own 4 2 0 v6.length]) (dst := some 57) (k' := (K4 111110 13)) [46, 51, 57] [] hP enters_18 (spliceref15_Onto.says (t1 := false) (t2 := false) v5 x1_r0 v6 h12) (by kernel_rfl) (hands_none _) (.cons (.lend (ty := 66) (by kernel_rfl) rfl) (.cons (.lend (ty := 45) (by kernel_rfl) rfl) (.cons (.lend (ty := 43) (by kernel_rfl) rfl) .nil))) (st' := ⟨60, [(46, .b true), (51, .own 2 2 0 v4.length), (57, .d (eL66 true v7))], [eR45 x1_r0, eR65 v3, eR66 v4, eF66 v5, eR43 v6]⟩) (by kernel_rfl) ?_
                obtain ⟨v8, h13, H⟩ := sbC H
                refine ak_callP (avs := [.own 2 2 0 v4.length, .d (eL66 true v7)]) (dst := some 58) (k' := (K4 111110 14)) [46, 58] [] hP enters_10 (spliceref05_Same.says (t0 := false) (t1 := true) v4 v7 h13) (by kernel_rfl) (hands_none _) (.cons (.lend (ty := 66) (by kernel_rfl) rfl) (.cons (pass_d _) .nil)) (st' := ⟨60, [(46, .b true), (58, .b v8)], [eR45 x1_r0, eR65 v3, eR66 v4, eF66 v5, eR43 v6]⟩) (by kernel_rfl) ?_
                refine goK hT 3 (K4 11111 1) ⟨60, [(6, .b v8)], [eR45 x1_r0, eR65 v3, eR66 v4, eF66 v5, eR43 v6]⟩ ?_
                refine cutK [] ⟨60, [(6, .b v8)], []⟩ h0 ?_
                exact Jj2 v8 H
              · replace H := sF c7 H
                rw [boF c7]
                refine goK hT 15 (K4 11111 1) ⟨60, [(6, .b false)], [eR45 x1_r0]⟩ ?_
                refine cutK [] ⟨60, [(6, .b false)], []⟩ h0 ?_
                exact Jj2 false H
      refine cutK [0] ⟨60, [(0, .d (eL65 t0 a0)), (1, .d (eL42 t1 a1)), (2, .d (eL40 true a2)), (7, .own 0 7 0 ([] : List spliceref04_Mut).length), (8, .i 0)], [eR45 ([] : List spliceref04_Mut)]⟩ h0 ?_
      obtain ⟨n, H⟩ := loopC H
      exact (L n) 0 ([] : List spliceref04_Mut) H
  refine goK hT 11 (K4 1100 4) ⟨60, [(0, .d (eL65 t0 a0)), (1, .d (eL42 t1 a1)), (2, .d (eL40 true a2)), (12, .b (decide ((a0.length : Int) > 100)))], []⟩ ?_
  by_cases c1 : (a0.length : Int) > 100
  · replace H := iT c1 H
    rw [decide_eq_true c1]
    refine goK hT 10 (K4 110 1) ⟨60, [(0, .d (eL65 t0 a0)), (1, .d (eL42 t1 a1)), (2, .d (eL40 true a2)), (21, .b true)], []⟩ ?_
    refine cutK [] ⟨60, [(0, .d (eL65 t0 a0)), (1, .d (eL42 t1 a1)), (2, .d (eL40 true a2)), (21, .b true)], []⟩ h0 ?_
    exact Jj1 true H
  · replace H := iF c1 H
    rw [decide_eq_false c1]
    refine goK hT 5 (K4 1100 9) ⟨60, [(0, .d (eL65 t0 a0)), (1, .d (eL42 t1 a1)), (2, .d (eL40 true a2)), (17, .b (decide ((a1.length : Int) > 60)))], []⟩ ?_
    by_cases c2 : (a1.length : Int) > 60
    · replace H := iT c2 H
      rw [decide_eq_true c2]
      refine goK hT 5 (K4 110 1) ⟨60, [(0, .d (eL65 t0 a0)), (1, .d (eL42 t1 a1)), (2, .d (eL40 true a2)), (21, .b true)], []⟩ ?_
      refine cutK [] ⟨60, [(0, .d (eL65 t0 a0)), (1, .d (eL42 t1 a1)), (2, .d (eL40 true a2)), (21, .b true)], []⟩ h0 ?_
      exact Jj1 true H
    · replace H := iF c2 H
      rw [decide_eq_false c2]
      refine goK hT 5 (K4 110 1) ⟨60, [(0, .d (eL65 t0 a0)), (1, .d (eL42 t1 a1)), (2, .d (eL40 true a2)), (21, .b (decide ((a2.length : Int) > 100)))], []⟩ ?_
      refine cutK [] ⟨60, [(0, .d (eL65 t0 a0)), (1, .d (eL42 t1 a1)), (2, .d (eL40 true a2)), (21, .b (decide ((a2.length : Int) > 100)))], []⟩ h0 ?_
      exact Jj1 (decide ((a2.length : Int) > 100)) H
end Go.SyP
