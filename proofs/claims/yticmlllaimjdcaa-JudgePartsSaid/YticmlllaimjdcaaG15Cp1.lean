/- Certificates, printed by gen.py. -/
import Derived.Test.YticmlllaimjdcaaG15Cp0
set_option linter.unusedVariables false
set_option linter.unusedSimpArgs false
namespace Go.SyP
open Go Go.Sy Go.Proofs


theorem spliceref04_Check.says (a0 : spliceref04_Mut) {r : Bool} (H : spliceref04_Check a0 = some r) : Says Try.prog 21 [] [.d (eG45 a0)] [] (.b r) := by
  refine says_of Try.func21 rfl (nt := 143) rfl (Nat.le_of_ble_eq_true rfl) fun X hP h0 hX => ?_
  have hT : TabOk X.P T := hP ▸ tok
  have hf : X.P.funcs[21]? = some Try.f21 := hP ▸ Try.func21
  have Jj1 : ∀ (y1_21 : Bool), (spliceref04_Check.j1 a0 y1_21) = some r → AK X 21 ((K21 110 1)) (Back X [] (.b r)) ⟨143, [(1, .ptr 0 0 0 0), (21, .b y1_21)], [.box 45 (eC45 a0)]⟩ := by
    intro y1_21 H
    by_cases c4 : y1_21 = true
    · replace H := iT c4 H
      rw [c4]
      refine goK hT 5 (K21 11010 1) ⟨143, [(2, .b false)], [.box 45 (eC45 a0)]⟩ ?_
      obtain rfl := retC H
      exact ak_ret hf hX (av := .b false) (by kernel_rfl) [] (sel_of_eq (by kernel_rfl)) (by decide) (by rw [h0]; rfl) (by kernel_rfl) (fun _ h => all_nil h) (.d (.v _))
    · replace H := iF c4 H
      rw [boF c4]
      refine goK hT 2 (K21 11 1) ⟨143, [(1, .ptr 0 0 0 0)], [.box 45 (eC45 a0)]⟩ ?_
      refine goK hT 7 (K21 1110 1) ⟨143, [(1, .ptr 0 0 0 0), (24, .b (a0.Kind == 2))], [.box 45 (eC45 a0)]⟩ ?_
      by_cases c5 : a0.Kind = 2
      · replace H := iT c5 H
        have Jj2 : ∀ (y2_2 : Bool), (spliceref04_Check.j2 y2_2) = some r → AK X 21 ((K21 111010 1)) (Back X [] (.b r)) ⟨143, [(2, .b y2_2)], []⟩ := by
          intro y2_2 H
          obtain rfl := retC H
          exact ak_ret hf hX (av := .b y2_2) (by kernel_rfl) [] (sel_of_eq (by kernel_rfl)) (by decide) (by rw [h0]; rfl) (by kernel_rfl) (fun _ h => all_nil h) (.d (.v _))
        rw [eqT c5]
        refine goK hT 8 (K21 1110100 5) ⟨143, [(1, .ptr 0 0 0 0), (29, .b ((a0.Pairs.length : Int) == 0))], [.box 45 (eC45 a0)]⟩ ?_
        by_cases c6 : (a0.Pairs.length : Int) = 0
        · replace H := iT c6 H
          rw [eqT c6]
          refine goK hT 5 (K21 1110100 10) ⟨143, [(1, .ptr 0 0 0 0), (34, .b (a0.Old == 0))], [.box 45 (eC45 a0)]⟩ ?_
          by_cases c7 : a0.Old = 0
          · replace H := iT c7 H
            rw [eqT c7]
            refine goK hT 2 (K21 1110100 12) ⟨143, [(34, .b true), (36, .d (eG43 a0.Over))], [.box 45 (eC45 a0)]⟩ ?_
            refine ak_callP (avs := [.d (eG43 a0.Over)]) (dst := some 37) (k' := (K21 1110100 13)) [34, 37] [] hP enters_40 (spliceref03_One.says a0.Over) (by kernel_rfl) (hands_none _) (.cons (pass_d _) .nil) (st' := ⟨143, [(34, .b true), (37, .b (spliceref03_One a0.Over))], [.box 45 (eC45 a0)]⟩) (by kernel_rfl) ?_
            refine goK hT 3 (K21 111010 1) ⟨143, [(2, .b (spliceref03_One a0.Over))], [.box 45 (eC45 a0)]⟩ ?_
            refine cutK [] ⟨143, [(2, .b (spliceref03_One a0.Over))], []⟩ h0 ?_
            exact Jj2 (spliceref03_One a0.Over) H
          · replace H := iF c7 H
            rw [eqF c7]
            refine goK hT 6 (K21 111010 1) ⟨143, [(2, .b false)], [.box 45 (eC45 a0)]⟩ ?_
            refine cutK [] ⟨143, [(2, .b false)], []⟩ h0 ?_
            exact Jj2 false H
        · replace H := iF c6 H
          rw [eqF c6]
          refine goK hT 11 (K21 111010 1) ⟨143, [(2, .b false)], [.box 45 (eC45 a0)]⟩ ?_
          refine cutK [] ⟨143, [(2, .b false)], []⟩ h0 ?_
          exact Jj2 false H
      · replace H := iF c5 H
        have Jj3 : ∀ (y3_48 : Bool), (spliceref04_Check.j3 a0 y3_48) = some r → AK X 21 ((K21 11110 1)) (Back X [] (.b r)) ⟨143, [(1, .ptr 0 0 0 0), (48, .b y3_48)], [.box 45 (eC45 a0)]⟩ := by
          intro y3_48 H
          by_cases c9 : y3_48 = true
          · replace H := iT c9 H
            rw [c9]
            refine goK hT 5 (K21 1111010 1) ⟨143, [(2, .b false)], [.box 45 (eC45 a0)]⟩ ?_
            obtain rfl := retC H
            exact ak_ret hf hX (av := .b false) (by kernel_rfl) [] (sel_of_eq (by kernel_rfl)) (by decide) (by rw [h0]; rfl) (by kernel_rfl) (fun _ h => all_nil h) (.d (.v _))
          · replace H := iF c9 H
            rw [boF c9]
            refine goK hT 2 (K21 1111 1) ⟨143, [(1, .ptr 0 0 0 0)], [.box 45 (eC45 a0)]⟩ ?_
            refine goK hT 7 (K21 111110 1) ⟨143, [(1, .ptr 0 0 0 0), (51, .b (a0.Kind == 4))], [.box 45 (eC45 a0)]⟩ ?_
            by_cases c10 : a0.Kind = 4
            · replace H := iT c10 H
              rw [eqT c10]
              refine goK hT 5 (K21 111110100 2) ⟨143, [(1, .ptr 0 0 0 0), (53, .d (eL66 true a0.Pairs))], [.box 45 (eC45 a0)]⟩ ?_
              obtain ⟨v1, h11, H⟩ := ibC H
              have Jj4 : ∀ (y4_2 : Bool), (spliceref04_Check.j4 y4_2) = some r → AK X 21 ((K21 11111010 1)) (Back X [] (.b r)) ⟨143, [(2, .b y4_2)], []⟩ := by
                intro y4_2 H
                obtain rfl := retC H
                exact ak_ret hf hX (av := .b y4_2) (by kernel_rfl) [] (sel_of_eq (by kernel_rfl)) (by decide) (by rw [h0]; rfl) (by kernel_rfl) (fun _ h => all_nil h) (.d (.v _))
              refine ak_callP (avs := [.d (eL66 true a0.Pairs), .i 1, .i 1]) (dst := some 54) (k' := (K21 111110100 3)) [1, 54] [] hP enters_41 (spliceref04_pairs.says (t0 := true) a0.Pairs 1 1 h11) (by kernel_rfl) (hands_none _) (.cons (pass_d _) (.cons (pass_d _) (.cons (pass_d _) .nil))) (st' := ⟨143, [(1, .ptr 0 0 0 0), (54, .b v1)], [.box 45 (eC45 a0)]⟩) (by kernel_rfl) ?_
              refine goK hT 1 (K21 111110100 4) ⟨143, [(1, .ptr 0 0 0 0), (55, .b v1)], [.box 45 (eC45 a0)]⟩ ?_
              by_cases c12 : v1 = true
              · replace H := iT c12 H
                rw [c12]
                refine goK hT 2 (K21 111110100 6) ⟨143, [(1, .ptr 0 0 0 0), (55, .b true), (57, .i a0.Old)], [.box 45 (eC45 a0)]⟩ ?_
                refine ak_callP (avs := [.i a0.Old]) (dst := some 58) (k' := (K21 111110100 7)) [1, 55, 58] [] hP enters_42 (spliceref04_value.says a0.Old) (by kernel_rfl) (hands_none _) (.cons (pass_d _) .nil) (st' := ⟨143, [(1, .ptr 0 0 0 0), (55, .b true), (58, .b (spliceref04_value a0.Old))], [.box 45 (eC45 a0)]⟩) (by kernel_rfl) ?_
                refine goK hT 1 (K21 111110100 8) ⟨143, [(1, .ptr 0 0 0 0), (55, .b true), (59, .b (spliceref04_value a0.Old))], [.box 45 (eC45 a0)]⟩ ?_
                by_cases c13 : (spliceref04_value a0.Old) = true
                · replace H := iT c13 H
                  rw [c13]
                  refine goK hT 7 (K21 11111010 1) ⟨143, [(2, .b true)], [.box 45 (eC45 a0)]⟩ ?_
                  refine cutK [] ⟨143, [(2, .b true)], []⟩ h0 ?_
                  exact Jj4 true H
                · replace H := iF c13 H
                  rw [boF c13]
                  refine goK hT 7 (K21 11111010 1) ⟨143, [(2, .b (a0.Old == 1099511627777))], [.box 45 (eC45 a0)]⟩ ?_
                  refine cutK [] ⟨143, [(2, .b (a0.Old == 1099511627777))], []⟩ h0 ?_
                  exact Jj4 (a0.Old == 1099511627777) H
              · replace H := iF c12 H
                rw [boF c12]
                refine goK hT 11 (K21 11111010 1) ⟨143, [(2, .b false)], [.box 45 (eC45 a0)]⟩ ?_
                refine cutK [] ⟨143, [(2, .b false)], []⟩ h0 ?_
                exact Jj4 false H
            · replace H := iF c10 H
              rw [eqF c10]
              refine goK hT 2 (K21 11111 1) ⟨143, [(1, .ptr 0 0 0 0)], [.box 45 (eC45 a0)]⟩ ?_
              refine goK hT 7 (K21 1111110 1) ⟨143, [(1, .ptr 0 0 0 0), (67, .b (a0.Old != 0))], [.box 45 (eC45 a0)]⟩ ?_
              by_cases c14 : a0.Old = 0
              · replace H := iT c14 H
                rw [neF c14]
                refine goK hT 2 (K21 111111 1) ⟨143, [(1, .ptr 0 0 0 0)], [.box 45 (eC45 a0)]⟩ ?_
                refine goK hT 7 (K21 11111110 1) ⟨143, [(1, .ptr 0 0 0 0), (70, .b (a0.Kind == 1))], [.box 45 (eC45 a0)]⟩ ?_
                by_cases c15 : a0.Kind = 1
                · replace H := iT c15 H
                  rw [eqT c15]
                  refine goK hT 8 (K21 1111111010010 0) ⟨143, [(1, .ptr 0 0 0 0), (3, .i 1)], [.box 45 (eC45 a0)]⟩ ?_
                  have L : ∀ n, (∀ (x1_3 : Int), iter (spliceref04_Check.step a0) n (.l1 x1_3) = some r → AK X 21 ((K21 1111111010010 0)) (Back X [] (.b r)) ⟨143, [(1, .ptr 0 0 0 0), (3, .i x1_3)], [.box 45 (eC45 a0)]⟩) := by
                    intro n
                    induction n with
                    | zero => exact fun _ H => iter0 H
                    | succ n ih =>
                      · intro x1_3 H
                        refine goK hT 9 (K21 111111101001000 1) ⟨143, [(1, .ptr 0 0 0 0), (3, .i x1_3), (75, .b (decide (x1_3 < (a0.Pairs.length : Int))))], [.box 45 (eC45 a0)]⟩ ?_
                        by_cases c16 : x1_3 < (a0.Pairs.length : Int)
                        · replace H := sT c16 H
                          rw [decide_eq_true c16]
                          refine goK hT 2 (K21 11111110100100 1) ⟨143, [(1, .ptr 0 0 0 0), (3, .i x1_3)], [.box 45 (eC45 a0)]⟩ ?_
                          refine goK hT 3 (K21 11111110100100100 0) ⟨143, [(1, .ptr 0 0 0 0), (3, .i x1_3)], [.box 45 (eC45 a0)]⟩ ?_
                          obtain ⟨h18, H⟩ := sC H
                          obtain ⟨h19, H⟩ := sC H
                          refine drawK (hP ▸ mixed) 14 [1, 3] [some (.ptr 0 0 0 3), some (.d (eL66 true a0.Pairs)), some (.i x1_3), some (.i (IntKind.wrap .i64 (x1_3 - 1))), some (.d (eP66 true a0.Pairs ((IntKind.wrap .i64 (x1_3 - 1)).toNat) 0)), some (.d (eP66 true a0.Pairs ((IntKind.wrap .i64 (x1_3 - 1)).toNat) 0)), some (.i ((a0.Pairs.getD ((IntKind.wrap .i64 (x1_3 - 1)).toNat) spliceref04_Pair.z).Key)), some (.ptr 0 0 0 3), some (.d (eL66 true a0.Pairs)), some (.i x1_3), some (.d (eP66 true a0.Pairs x1_3.toNat 0)), some (.d (eP66 true a0.Pairs x1_3.toNat 0)), some (.i ((a0.Pairs.getD x1_3.toNat spliceref04_Pair.z).Key)), some (.b (decide (((a0.Pairs.getD ((IntKind.wrap .i64 (x1_3 - 1)).toNat) spliceref04_Pair.z).Key) ≥ ((a0.Pairs.getD x1_3.toNat spliceref04_Pair.z).Key))))] (opG (opG (opG (opS (opG (opG (opG (opG (opG (opS (opG (opG (opG (opG op0 hT) hT) hT) hT) (fun R rest h => ak_idx0 hT (i := IntKind.wrap .i64 (x1_3 - 1)) (n := (a0.Pairs.length : Int)) h18.1 h18.2 (by kernel_rfl) h)) hT) hT) hT) hT) hT) (fun R rest h => ak_idx0 hT (i := x1_3) (n := (a0.Pairs.length : Int)) h19.1 h19.2 (by kernel_rfl) h)) hT) hT) hT) ?_
                          refine goK hT 1 (K21 11111110100100100 1) ⟨143, [(1, .ptr 0 0 0 0), (3, .i x1_3), (91, .b (decide (((a0.Pairs.getD ((IntKind.wrap .i64 (x1_3 - 1)).toNat) spliceref04_Pair.z).Key) ≥ ((a0.Pairs.getD x1_3.toNat spliceref04_Pair.z).Key))))], [.box 45 (eC45 a0)]⟩ ?_
                          by_cases c20 : ((a0.Pairs.getD ((IntKind.wrap .i64 (x1_3 - 1)).toNat) spliceref04_Pair.z).Key) ≥ ((a0.Pairs.getD x1_3.toNat spliceref04_Pair.z).Key)
                          · replace H := sT c20 H
                            rw [decide_eq_true c20]
                            refine goK hT 5 (K21 1111111010010010010 1) ⟨143, [(2, .b false)], [.box 45 (eC45 a0)]⟩ ?_
                            obtain rfl := retC H
                            exact ak_ret hf hX (av := .b false) (by kernel_rfl) [] (sel_of_eq (by kernel_rfl)) (by decide) (by rw [h0]; rfl) (by kernel_rfl) (fun _ h => all_nil h) (.d (.v _))
                          · replace H := sF c20 H
                            rw [decide_eq_false c20]
                            refine goK hT 3 (K21 111111101001001 1) ⟨143, [(1, .ptr 0 0 0 0), (3, .i x1_3)], [.box 45 (eC45 a0)]⟩ ?_
                            refine goK hT 6 (K21 1111111010010 0) ⟨143, [(1, .ptr 0 0 0 0), (3, .i (IntKind.wrap .i64 (x1_3 + 1)))], [.box 45 (eC45 a0)]⟩ ?_
                            refine cutK [0] ⟨143, [(1, .ptr 0 0 0 0), (3, .i (IntKind.wrap .i64 (x1_3 + 1)))], [.box 45 (eC45 a0)]⟩ h0 ?_
                            exact ih (IntKind.wrap .i64 (x1_3 + 1)) H
                        · replace H := sF c16 H
                          rw [decide_eq_false c16]
                          refine goK hT 6 (K21 111111101010 2) ⟨143, [(93, .d (eL66 true a0.Pairs))], [.box 45 (eC45 a0)]⟩ ?_
                          obtain ⟨v2, h17, H⟩ := sbC H
                          refine ak_callP (avs := [.d (eL66 true a0.Pairs), .i 1, .i 8]) (dst := some 94) (k' := (K21 111111101010 3)) [94] [] hP enters_41 (spliceref04_pairs.says (t0 := true) a0.Pairs 1 8 h17) (by kernel_rfl) (hands_none _) (.cons (pass_d _) (.cons (pass_d _) (.cons (pass_d _) .nil))) (st' := ⟨143, [(94, .b v2)], [.box 45 (eC45 a0)]⟩) (by kernel_rfl) ?_
                          refine goK hT 2 (K21 11111110101 1) ⟨143, [(2, .b v2)], [.box 45 (eC45 a0)]⟩ ?_
                          obtain rfl := retC H
                          exact ak_ret hf hX (av := .b v2) (by kernel_rfl) [] (sel_of_eq (by kernel_rfl)) (by decide) (by rw [h0]; rfl) (by kernel_rfl) (fun _ h => all_nil h) (.d (.v _))
                  refine cutK [0] ⟨143, [(1, .ptr 0 0 0 0), (3, .i 1)], [.box 45 (eC45 a0)]⟩ h0 ?_
                  obtain ⟨n, H⟩ := loopC H
                  exact (L n) 1 H
                · replace H := iF c15 H
                  rw [eqF c15]
                  refine goK hT 2 (K21 1111111 1) ⟨143, [(1, .ptr 0 0 0 0)], [.box 45 (eC45 a0)]⟩ ?_
                  refine goK hT 7 (K21 111111110 1) ⟨143, [(1, .ptr 0 0 0 0), (97, .b (a0.Kind == 3))], [.box 45 (eC45 a0)]⟩ ?_
                  by_cases c21 : a0.Kind = 3
                  · replace H := iT c21 H
                    rw [eqT c21]
                    refine goK hT 5 (K21 111111110100 2) ⟨143, [(99, .d (eL66 true a0.Pairs))], [.box 45 (eC45 a0)]⟩ ?_
                    obtain ⟨v3, h22, H⟩ := ibC H
                    refine ak_callP (avs := [.d (eL66 true a0.Pairs), .i 1, .i 1]) (dst := some 100) (k' := (K21 111111110100 3)) [100] [] hP enters_41 (spliceref04_pairs.says (t0 := true) a0.Pairs 1 1 h22) (by kernel_rfl) (hands_none _) (.cons (pass_d _) (.cons (pass_d _) (.cons (pass_d _) .nil))) (st' := ⟨143, [(100, .b v3)], [.box 45 (eC45 a0)]⟩) (by kernel_rfl) ?_
                    refine goK hT 2 (K21 11111111010 1) ⟨143, [(2, .b v3)], [.box 45 (eC45 a0)]⟩ ?_
                    obtain rfl := retC H
                    exact ak_ret hf hX (av := .b v3) (by kernel_rfl) [] (sel_of_eq (by kernel_rfl)) (by decide) (by rw [h0]; rfl) (by kernel_rfl) (fun _ h => all_nil h) (.d (.v _))
                  · replace H := iF c21 H
                    have Jj5 : ∀ (y5_2 : Bool), (spliceref04_Check.j5 y5_2) = some r → AK X 21 ((K21 111111111 1)) (Back X [] (.b r)) ⟨143, [(2, .b y5_2)], []⟩ := by
                      intro y5_2 H
                      obtain rfl := retC H
                      exact ak_ret hf hX (av := .b y5_2) (by kernel_rfl) [] (sel_of_eq (by kernel_rfl)) (by decide) (by rw [h0]; rfl) (by kernel_rfl) (fun _ h => all_nil h) (.d (.v _))
                    rw [eqF c21]
                    refine goK hT 2 (K21 11111111 1) ⟨143, [(1, .ptr 0 0 0 0)], [.box 45 (eC45 a0)]⟩ ?_
                    refine goK hT 1 (K21 111111111 0) ⟨143, [(1, .ptr 0 0 0 0)], [.box 45 (eC45 a0)]⟩ ?_
                    by_cases c23 : a0.Kind = 5
                    · replace H := iT c23 H
                      obtain ⟨v4, h24, H⟩ := ibC H
                      by_cases c25 : v4 = true
                      · replace H := iT c25 H
                        obtain ⟨h26, H⟩ := iC H
                        obtain ⟨h27, H⟩ := iC H
                        by_cases c28 : ((a0.Pairs.getD 0 spliceref04_Pair.z).Key) = ((a0.Pairs.getD 1 spliceref04_Pair.z).Key)
                        · replace H := iT c28 H
                          refine drawK (hP ▸ mixed) 32 [1] [some (.ptr 0 0 0 2), some (.i a0.Kind), some (.b true), some (.b true), some (.ptr 0 0 0 3), some (.d (eL66 true a0.Pairs)), some (.b true), some (.b true), some (.b true), some (.ptr 0 0 0 3), some (.d (eL66 true a0.Pairs)), some (.d (eP66 true a0.Pairs 0 0)), some (.d (eP66 true a0.Pairs 0 0)), some (.i ((a0.Pairs.getD 0 spliceref04_Pair.z).Key)), some (.ptr 0 0 0 3), some (.d (eL66 true a0.Pairs)), some (.d (eP66 true a0.Pairs 1 0)), some (.d (eP66 true a0.Pairs 1 0)), some (.i ((a0.Pairs.getD 1 spliceref04_Pair.z).Key)), some (.b false), some (.b false), some (.b false), some (.tup []), some (.tup []), some (.tup []), some (.tup []), some (.tup []), some (.tup []), some (.tup []), some (.tup []), some (.tup []), some (.tup [])] (opG (opG (opG (opG (opG (opG (opG (opG (opG (opG (opG (opG (opV (opG (opG (opS (opG (opG (opG (opG (opS (opG (opG (opG (opG (opS (opG (opG (opG (opV (opG (opG op0 hT) hT) hT 103 (.b (a0.Kind == 5)) (.b true) (by rw [eqT c23])) hT) hT) hT) (fun R rest h => ak_callD (avs := [.d (eL66 true a0.Pairs), .i 2, .i 2]) (dst := some 107) hP enters_41 (by have q := spliceref04_pairs.says (t0 := true) a0.Pairs 2 2 h24; rw [c25] at q; exact q) (by kernel_rfl) (.cons (pass_d _) (.cons (pass_d _) (.cons (pass_d _) .nil))) (by kernel_rfl) h)) hT) hT) hT) hT) (fun R rest h => ak_idx0 hT (i := 0) (n := (a0.Pairs.length : Int)) h26.1 h26.2 (by kernel_rfl) h)) hT) hT) hT) hT) (fun R rest h => ak_idx0 hT (i := 1) (n := (a0.Pairs.length : Int)) h27.1 h27.2 (by kernel_rfl) h)) hT) hT) hT 120 (.b (((a0.Pairs.getD 0 spliceref04_Pair.z).Key) != ((a0.Pairs.getD 1 spliceref04_Pair.z).Key))) (.b false) (by rw [neF c28])) hT) hT) hT) hT) hT) hT) hT) hT) hT) hT) hT) hT) ?_
                          refine goK hT 12 (K21 111111111 1) ⟨143, [(2, .b false)], [.box 45 (eC45 a0)]⟩ ?_
                          refine cutK [] ⟨143, [(2, .b false)], []⟩ h0 ?_
                          exact Jj5 false H
                        · replace H := iF c28 H
                          refine drawK (hP ▸ mixed) 32 [1] [some (.ptr 0 0 0 2), some (.i a0.Kind), some (.b true), some (.b true), some (.ptr 0 0 0 3), some (.d (eL66 true a0.Pairs)), some (.b true), some (.b true), some (.b true), some (.ptr 0 0 0 3), some (.d (eL66 true a0.Pairs)), some (.d (eP66 true a0.Pairs 0 0)), some (.d (eP66 true a0.Pairs 0 0)), some (.i ((a0.Pairs.getD 0 spliceref04_Pair.z).Key)), some (.ptr 0 0 0 3), some (.d (eL66 true a0.Pairs)), some (.d (eP66 true a0.Pairs 1 0)), some (.d (eP66 true a0.Pairs 1 0)), some (.i ((a0.Pairs.getD 1 spliceref04_Pair.z).Key)), some (.b true), some (.b true), some (.b true), some (.ptr 0 0 0 3), some (.d (eL66 true a0.Pairs)), some (.d (eP66 true a0.Pairs 0 0)), some (.d (eP66 true a0.Pairs 0 1)), some (.i ((a0.Pairs.getD 0 spliceref04_Pair.z).Val)), some (.ptr 0 0 0 3), some (.d (eL66 true a0.Pairs)), some (.d (eP66 true a0.Pairs 1 0)), some (.d (eP66 true a0.Pairs 1 1)), some (.i ((a0.Pairs.getD 1 spliceref04_Pair.z).Val))] (opG (opG (opS (opG (opG (opG (opG (opS (opG (opG (opG (opG (opV (opG (opG (opS (opG (opG (opG (opG (opS (opG (opG (opG (opG (opS (opG (opG (opG (opV (opG (opG op0 hT) hT) hT 103 (.b (a0.Kind == 5)) (.b true) (by rw [eqT c23])) hT) hT) hT) (fun R rest h => ak_callD (avs := [.d (eL66 true a0.Pairs), .i 2, .i 2]) (dst := some 107) hP enters_41 (by have q := spliceref04_pairs.says (t0 := true) a0.Pairs 2 2 h24; rw [c25] at q; exact q) (by kernel_rfl) (.cons (pass_d _) (.cons (pass_d _) (.cons (pass_d _) .nil))) (by kernel_rfl) h)) hT) hT) hT) hT) (fun R rest h => ak_idx0 hT (i := 0) (n := (a0.Pairs.length : Int)) h26.1 h26.2 (by kernel_rfl) h)) hT) hT) hT) hT) (fun R rest h => ak_idx0 hT (i := 1) (n := (a0.Pairs.length : Int)) h27.1 h27.2 (by kernel_rfl) h)) hT) hT) hT 120 (.b (((a0.Pairs.getD 0 spliceref04_Pair.z).Key) != ((a0.Pairs.getD 1 spliceref04_Pair.z).Key))) (.b true) (by rw [neT c28])) hT) hT) hT) hT) (fun R rest h => ak_idx0 hT (i := 0) (n := (a0.Pairs.length : Int)) h26.1 h26.2 (by kernel_rfl) h)) hT) hT) hT) hT) (fun R rest h => ak_idx0 hT (i := 1) (n := (a0.Pairs.length : Int)) h27.1 h27.2 (by kernel_rfl) h)) hT) hT) ?_
                          refine goK hT 3 (K21 1111111110 35) ⟨143, [(1, .ptr 0 0 0 0), (135, .b (((a0.Pairs.getD 0 spliceref04_Pair.z).Val) == ((a0.Pairs.getD 1 spliceref04_Pair.z).Val)))], [.box 45 (eC45 a0)]⟩ ?_
                          by_cases c29 : ((a0.Pairs.getD 0 spliceref04_Pair.z).Val) = ((a0.Pairs.getD 1 spliceref04_Pair.z).Val)
                          · replace H := iT c29 H
                            rw [eqT c29]
                            refine goK hT 2 (K21 1111111110 37) ⟨143, [(135, .b true), (137, .d (eL66 true a0.Pairs))], [.box 45 (eC45 a0)]⟩ ?_
                            refine ak_idx hT [135, 138] (i := 0) (n := (a0.Pairs.length : Int)) h26.1 h26.2 (k' := (K21 1111111110 38)) (st' := ⟨143, [(135, .b true), (138, .d (eP66 true a0.Pairs 0 0))], [.box 45 (eC45 a0)]⟩) (by kernel_rfl) ?_
                            refine goK hT 6 (K21 111111111 1) ⟨143, [(2, .b (decide (((a0.Pairs.getD 0 spliceref04_Pair.z).Val) ≥ 0)))], [.box 45 (eC45 a0)]⟩ ?_
                            refine cutK [] ⟨143, [(2, .b (decide (((a0.Pairs.getD 0 spliceref04_Pair.z).Val) ≥ 0)))], []⟩ h0 ?_
                            exact Jj5 (decide (((a0.Pairs.getD 0 spliceref04_Pair.z).Val) ≥ 0)) H
                          · replace H := iF c29 H
                            rw [eqF c29]
                            refine goK hT 9 (K21 111111111 1) ⟨143, [(2, .b false)], [.box 45 (eC45 a0)]⟩ ?_
                            refine cutK [] ⟨143, [(2, .b false)], []⟩ h0 ?_
                            exact Jj5 false H
                      · replace H := iF c25 H
                        refine drawK (hP ▸ mixed) 32 [1] [some (.ptr 0 0 0 2), some (.i a0.Kind), some (.b true), some (.b true), some (.ptr 0 0 0 3), some (.d (eL66 true a0.Pairs)), some (.b false), some (.b false), some (.b false), some (.tup []), some (.tup []), some (.tup []), some (.tup []), some (.tup []), some (.tup []), some (.tup []), some (.tup []), some (.tup []), some (.tup []), some (.tup []), some (.b false), some (.b false), some (.tup []), some (.tup []), some (.tup []), some (.tup []), some (.tup []), some (.tup []), some (.tup []), some (.tup []), some (.tup []), some (.tup [])] (opG (opG (opG (opG (opG (opG (opG (opG (opG (opG (opG (opG (opG (opG (opG (opG (opG (opG (opG (opG (opG (opG (opG (opG (opG (opS (opG (opG (opG (opV (opG (opG op0 hT) hT) hT 103 (.b (a0.Kind == 5)) (.b true) (by rw [eqT c23])) hT) hT) hT) (fun R rest h => ak_callD (avs := [.d (eL66 true a0.Pairs), .i 2, .i 2]) (dst := some 107) hP enters_41 (by have q := spliceref04_pairs.says (t0 := true) a0.Pairs 2 2 h24; rw [boF c25] at q; exact q) (by kernel_rfl) (.cons (pass_d _) (.cons (pass_d _) (.cons (pass_d _) .nil))) (by kernel_rfl) h)) hT) hT) hT) hT) hT) hT) hT) hT) hT) hT) hT) hT) hT) hT) hT) hT) hT) hT) hT) hT) hT) hT) hT) hT) hT) ?_
                        refine goK hT 12 (K21 111111111 1) ⟨143, [(2, .b false)], [.box 45 (eC45 a0)]⟩ ?_
                        refine cutK [] ⟨143, [(2, .b false)], []⟩ h0 ?_
                        exact Jj5 false H
                    · replace H := iF c23 H
                      refine drawK (hP ▸ mixed) 32 [1] [some (.ptr 0 0 0 2), some (.i a0.Kind), some (.b false), some (.b false), some (.tup []), some (.tup []), some (.tup []), some (.b false), some (.b false), some (.tup []), some (.tup []), some (.tup []), some (.tup []), some (.tup []), some (.tup []), some (.tup []), some (.tup []), some (.tup []), some (.tup []), some (.tup []), some (.b false), some (.b false), some (.tup []), some (.tup []), some (.tup []), some (.tup []), some (.tup []), some (.tup []), some (.tup []), some (.tup []), some (.tup []), some (.tup [])] (opG (opG (opG (opG (opG (opG (opG (opG (opG (opG (opG (opG (opG (opG (opG (opG (opG (opG (opG (opG (opG (opG (opG (opG (opG (opG (opG (opG (opG (opV (opG (opG op0 hT) hT) hT 103 (.b (a0.Kind == 5)) (.b false) (by rw [eqF c23])) hT) hT) hT) hT) hT) hT) hT) hT) hT) hT) hT) hT) hT) hT) hT) hT) hT) hT) hT) hT) hT) hT) hT) hT) hT) hT) hT) hT) hT) ?_
                      refine goK hT 12 (K21 111111111 1) ⟨143, [(2, .b false)], [.box 45 (eC45 a0)]⟩ ?_
                      refine cutK [] ⟨143, [(2, .b false)], []⟩ h0 ?_
                      exact Jj5 false H
              · replace H := iF c14 H
                rw [neT c14]
                refine goK hT 5 (K21 111111010 1) ⟨143, [(2, .b false)], [.box 45 (eC45 a0)]⟩ ?_
                obtain rfl := retC H
                exact ak_ret hf hX (av := .b false) (by kernel_rfl) [] (sel_of_eq (by kernel_rfl)) (by decide) (by rw [h0]; rfl) (by kernel_rfl) (fun _ h => all_nil h) (.d (.v _))
        rw [eqF c5]
        refine goK hT 2 (K21 111 1) ⟨143, [(1, .ptr 0 0 0 0)], [.box 45 (eC45 a0)]⟩ ?_
        refine goK hT 8 (K21 111100 5) ⟨143, [(1, .ptr 0 0 0 0), (43, .b (a0.Over.Lo != 0))], [.box 45 (eC45 a0)]⟩ ?_
        by_cases c8 : a0.Over.Lo = 0
        · replace H := iT c8 H
          rw [neF c8]
          refine goK hT 6 (K21 11110 1) ⟨143, [(1, .ptr 0 0 0 0), (48, .b (a0.Over.Hi != 0))], [.box 45 (eC45 a0)]⟩ ?_
          refine cutK [0] ⟨143, [(1, .ptr 0 0 0 0), (48, .b (a0.Over.Hi != 0))], [.box 45 (eC45 a0)]⟩ h0 ?_
          exact Jj3 (a0.Over.Hi != 0) H
        · replace H := iF c8 H
          rw [neT c8]
          refine goK hT 6 (K21 11110 1) ⟨143, [(1, .ptr 0 0 0 0), (48, .b true)], [.box 45 (eC45 a0)]⟩ ?_
          refine cutK [0] ⟨143, [(1, .ptr 0 0 0 0), (48, .b true)], [.box 45 (eC45 a0)]⟩ h0 ?_
          exact Jj3 true H
  refine goK hT 12 (K21 1100 4) ⟨143, [(1, .ptr 0 0 0 0), (7, .b (decide (a0.Client < 1)))], [.box 45 (eC45 a0)]⟩ ?_
  by_cases c1 : a0.Client < 1
  · replace H := iT c1 H
    rw [decide_eq_true c1]
    refine goK hT 15 (K21 110 1) ⟨143, [(1, .ptr 0 0 0 0), (21, .b true)], [.box 45 (eC45 a0)]⟩ ?_
    refine cutK [0] ⟨143, [(1, .ptr 0 0 0 0), (21, .b true)], [.box 45 (eC45 a0)]⟩ h0 ?_
    exact Jj1 true H
  · replace H := iF c1 H
    rw [decide_eq_false c1]
    refine goK hT 5 (K21 1100 9) ⟨143, [(1, .ptr 0 0 0 0), (12, .b (decide (a0.Client > 1048576)))], [.box 45 (eC45 a0)]⟩ ?_
    by_cases c2 : a0.Client > 1048576
    · replace H := iT c2 H
      rw [decide_eq_true c2]
      refine goK hT 10 (K21 110 1) ⟨143, [(1, .ptr 0 0 0 0), (21, .b true)], [.box 45 (eC45 a0)]⟩ ?_
      refine cutK [0] ⟨143, [(1, .ptr 0 0 0 0), (21, .b true)], [.box 45 (eC45 a0)]⟩ h0 ?_
      exact Jj1 true H
    · replace H := iF c2 H
      rw [decide_eq_false c2]
      refine goK hT 5 (K21 1100 14) ⟨143, [(1, .ptr 0 0 0 0), (17, .b (decide (a0.Seq < 1)))], [.box 45 (eC45 a0)]⟩ ?_
      by_cases c3 : a0.Seq < 1
      · replace H := iT c3 H
        rw [decide_eq_true c3]
        refine goK hT 5 (K21 110 1) ⟨143, [(1, .ptr 0 0 0 0), (21, .b true)], [.box 45 (eC45 a0)]⟩ ?_
        refine cutK [0] ⟨143, [(1, .ptr 0 0 0 0), (21, .b true)], [.box 45 (eC45 a0)]⟩ h0 ?_
        exact Jj1 true H
      · replace H := iF c3 H
        rw [decide_eq_false c3]
        refine goK hT 5 (K21 110 1) ⟨143, [(1, .ptr 0 0 0 0), (21, .b (decide (a0.Seq > 1073741824)))], [.box 45 (eC45 a0)]⟩ ?_
        refine cutK [0] ⟨143, [(1, .ptr 0 0 0 0), (21, .b (decide (a0.Seq > 1073741824)))], [.box 45 (eC45 a0)]⟩ h0 ?_
        exact Jj1 (decide (a0.Seq > 1073741824)) H


theorem spliceref03_Check.says {t0 : Bool} (a0 : List spliceref03_Span) {r : Bool} (H : spliceref03_Check a0 = some r) : Says Try.prog 25 [] [.d (eL43 t0 a0)] [] (.b r) := by
  refine says_of Try.func25 rfl (nt := 37) rfl (Nat.le_of_ble_eq_true rfl) fun X hP h0 hX => ?_
  have hT : TabOk X.P T := hP ▸ tok
  have hf : X.P.funcs[25]? = some Try.f25 := hP ▸ Try.func25
  refine goK hT 11 (K25 11010 0) ⟨37, [(0, .d (eL43 t0 a0)), (3, .i 0)], []⟩ ?_
  have L : ∀ n, (∀ (x1_3 : Int), iter (spliceref03_Check.step a0) n (.l1 x1_3) = some r → AK X 25 ((K25 11010 0)) (Back X [] (.b r)) ⟨37, [(0, .d (eL43 t0 a0)), (3, .i x1_3)], []⟩) := by
    intro n
    induction n with
    | zero => exact fun _ H => iter0 H
    | succ n ih =>
      · intro x1_3 H
        refine goK hT 8 (K25 1101000 1) ⟨37, [(0, .d (eL43 t0 a0)), (3, .i x1_3), (7, .b (decide (x1_3 < (a0.length : Int))))], []⟩ ?_
        by_cases c1 : x1_3 < (a0.length : Int)
        · replace H := sT c1 H
          rw [decide_eq_true c1]
          refine goK hT 2 (K25 110100 1) ⟨37, [(0, .d (eL43 t0 a0)), (3, .i x1_3)], []⟩ ?_
          refine goK hT 3 (K25 110100100 0) ⟨37, [(0, .d (eL43 t0 a0)), (3, .i x1_3)], []⟩ ?_
          obtain ⟨h2, H⟩ := sC H
          have Jj1 : ∀ (y1_33 : Bool), stk (spliceref03_Check.j1 x1_3 y1_33) (iter (spliceref03_Check.step a0) n) = some r → AK X 25 ((K25 110100100 1)) (Back X [] (.b r)) ⟨37, [(0, .d (eL43 t0 a0)), (3, .i x1_3), (33, .b y1_33)], []⟩ := by
            intro y1_33 H
            by_cases c6 : y1_33 = true
            · replace H := sT c6 H
              rw [c6]
              refine goK hT 5 (K25 11010010010 1) ⟨37, [(2, .b false)], []⟩ ?_
              obtain rfl := retC H
              exact ak_ret hf hX (av := .b false) (by kernel_rfl) [] (sel_of_eq (by kernel_rfl)) (by decide) (by rw [h0]; rfl) (by kernel_rfl) (fun _ h => all_nil h) (.d (.v _))
            · replace H := sF c6 H
              rw [boF c6]
              refine goK hT 3 (K25 1101001 1) ⟨37, [(0, .d (eL43 t0 a0)), (3, .i x1_3)], []⟩ ?_
              refine goK hT 6 (K25 11010 0) ⟨37, [(0, .d (eL43 t0 a0)), (3, .i (IntKind.wrap .i64 (x1_3 + 1)))], []⟩ ?_
              refine cutK [] ⟨37, [(0, .d (eL43 t0 a0)), (3, .i (IntKind.wrap .i64 (x1_3 + 1)))], []⟩ h0 ?_
              exact ih (IntKind.wrap .i64 (x1_3 + 1)) H
          by_cases c3 : (spliceref03_One (a0.getD x1_3.toNat spliceref03_Span.z)) = true
          · replace H := sT c3 H
            by_cases c4 : x1_3 > 0
            · replace H := sT c4 H
              obtain ⟨h5, H⟩ := sC H
              refine drawK (hP ▸ mixed) 24 [0, 3] [some (.d (eL43 t0 a0)), some (.i x1_3), some (.d (eP43 t0 a0 x1_3.toNat 0)), some (.d (eG43 (a0.getD x1_3.toNat spliceref03_Span.z))), some (.b true), some (.b false), some (.b false), some (.i x1_3), some (.b true), some (.b true), some (.d (eL43 t0 a0)), some (.i x1_3), some (.d (eP43 t0 a0 x1_3.toNat 0)), some (.d (eP43 t0 a0 x1_3.toNat 0)), some (.i ((a0.getD x1_3.toNat spliceref03_Span.z).Lo)), some (.d (eL43 t0 a0)), some (.i x1_3), some (.i (IntKind.wrap .i64 (x1_3 - 1))), some (.d (eP43 t0 a0 ((IntKind.wrap .i64 (x1_3 - 1)).toNat) 0)), some (.d (eP43 t0 a0 ((IntKind.wrap .i64 (x1_3 - 1)).toNat) 1)), some (.i ((a0.getD ((IntKind.wrap .i64 (x1_3 - 1)).toNat) spliceref03_Span.z).Hi)), some (.b (decide (((a0.getD x1_3.toNat spliceref03_Span.z).Lo) ≤ ((a0.getD ((IntKind.wrap .i64 (x1_3 - 1)).toNat) spliceref03_Span.z).Hi)))), some (.b (decide (((a0.getD x1_3.toNat spliceref03_Span.z).Lo) ≤ ((a0.getD ((IntKind.wrap .i64 (x1_3 - 1)).toNat) spliceref03_Span.z).Hi)))), some (.b (decide (((a0.getD x1_3.toNat spliceref03_Span.z).Lo) ≤ ((a0.getD ((IntKind.wrap .i64 (x1_3 - 1)).toNat) spliceref03_Span.z).Hi))))] (opG (opG (opG (opG (opG (opS (opG (opG (opG (opG (opG (opS (opG (opG (opG (opV (opG (opG (opG (opS (opG (opS (opG (opG op0 hT) hT) (fun R rest h => ak_idx0 hT (i := x1_3) (n := (a0.length : Int)) h2.1 h2.2 (by kernel_rfl) h)) hT) (fun R rest h => ak_callD (avs := [.d (eG43 (a0.getD x1_3.toNat spliceref03_Span.z))]) (dst := some 14) hP enters_40 (by have q := spliceref03_One.says (a0.getD x1_3.toNat spliceref03_Span.z); rw [c3] at q; exact q) (by kernel_rfl) (.cons (pass_d _) .nil) (by kernel_rfl) h)) hT) hT) hT) hT 18 (.b (decide (x1_3 > 0))) (.b true) (by rw [decide_eq_true c4])) hT) hT) hT) (fun R rest h => ak_idx0 hT (i := x1_3) (n := (a0.length : Int)) h2.1 h2.2 (by kernel_rfl) h)) hT) hT) hT) hT) hT) (fun R rest h => ak_idx0 hT (i := IntKind.wrap .i64 (x1_3 - 1)) (n := (a0.length : Int)) h5.1 h5.2 (by kernel_rfl) h)) hT) hT) hT) hT) hT) ?_
              refine goK hT 1 (K25 110100100 1) ⟨37, [(0, .d (eL43 t0 a0)), (3, .i x1_3), (33, .b (decide (((a0.getD x1_3.toNat spliceref03_Span.z).Lo) ≤ ((a0.getD ((IntKind.wrap .i64 (x1_3 - 1)).toNat) spliceref03_Span.z).Hi))))], []⟩ ?_
              refine cutK [] ⟨37, [(0, .d (eL43 t0 a0)), (3, .i x1_3), (33, .b (decide (((a0.getD x1_3.toNat spliceref03_Span.z).Lo) ≤ ((a0.getD ((IntKind.wrap .i64 (x1_3 - 1)).toNat) spliceref03_Span.z).Hi))))], []⟩ h0 ?_
              exact Jj1 (decide (((a0.getD x1_3.toNat spliceref03_Span.z).Lo) ≤ ((a0.getD ((IntKind.wrap .i64 (x1_3 - 1)).toNat) spliceref03_Span.z).Hi))) H
            · replace H := sF c4 H
              refine drawK (hP ▸ mixed) 24 [0, 3] [some (.d (eL43 t0 a0)), some (.i x1_3), some (.d (eP43 t0 a0 x1_3.toNat 0)), some (.d (eG43 (a0.getD x1_3.toNat spliceref03_Span.z))), some (.b true), some (.b false), some (.b false), some (.i x1_3), some (.b false), some (.b false), some (.tup []), some (.tup []), some (.tup []), some (.tup []), some (.tup []), some (.tup []), some (.tup []), some (.tup []), some (.tup []), some (.tup []), some (.tup []), some (.tup []), some (.b false), some (.b false)] (opG (opG (opG (opG (opG (opG (opG (opG (opG (opG (opG (opG (opG (opG (opG (opV (opG (opG (opG (opS (opG (opS (opG (opG op0 hT) hT) (fun R rest h => ak_idx0 hT (i := x1_3) (n := (a0.length : Int)) h2.1 h2.2 (by kernel_rfl) h)) hT) (fun R rest h => ak_callD (avs := [.d (eG43 (a0.getD x1_3.toNat spliceref03_Span.z))]) (dst := some 14) hP enters_40 (by have q := spliceref03_One.says (a0.getD x1_3.toNat spliceref03_Span.z); rw [c3] at q; exact q) (by kernel_rfl) (.cons (pass_d _) .nil) (by kernel_rfl) h)) hT) hT) hT) hT 18 (.b (decide (x1_3 > 0))) (.b false) (by rw [decide_eq_false c4])) hT) hT) hT) hT) hT) hT) hT) hT) hT) hT) hT) hT) hT) hT) hT) ?_
              refine goK hT 1 (K25 110100100 1) ⟨37, [(0, .d (eL43 t0 a0)), (3, .i x1_3), (33, .b false)], []⟩ ?_
              refine cutK [] ⟨37, [(0, .d (eL43 t0 a0)), (3, .i x1_3), (33, .b false)], []⟩ h0 ?_
              exact Jj1 false H
          · replace H := sF c3 H
            refine drawK (hP ▸ mixed) 24 [0, 3] [some (.d (eL43 t0 a0)), some (.i x1_3), some (.d (eP43 t0 a0 x1_3.toNat 0)), some (.d (eG43 (a0.getD x1_3.toNat spliceref03_Span.z))), some (.b false), some (.b true), some (.b true), some (.tup []), some (.tup []), some (.tup []), some (.tup []), some (.tup []), some (.tup []), some (.tup []), some (.tup []), some (.tup []), some (.tup []), some (.tup []), some (.tup []), some (.tup []), some (.tup []), some (.tup []), some (.tup []), some (.b true)] (opG (opG (opG (opG (opG (opG (opG (opG (opG (opG (opG (opG (opG (opG (opG (opG (opG (opG (opG (opS (opG (opS (opG (opG op0 hT) hT) (fun R rest h => ak_idx0 hT (i := x1_3) (n := (a0.length : Int)) h2.1 h2.2 (by kernel_rfl) h)) hT) (fun R rest h => ak_callD (avs := [.d (eG43 (a0.getD x1_3.toNat spliceref03_Span.z))]) (dst := some 14) hP enters_40 (by have q := spliceref03_One.says (a0.getD x1_3.toNat spliceref03_Span.z); rw [boF c3] at q; exact q) (by kernel_rfl) (.cons (pass_d _) .nil) (by kernel_rfl) h)) hT) hT) hT) hT) hT) hT) hT) hT) hT) hT) hT) hT) hT) hT) hT) hT) hT) hT) hT) ?_
            refine goK hT 1 (K25 110100100 1) ⟨37, [(0, .d (eL43 t0 a0)), (3, .i x1_3), (33, .b true)], []⟩ ?_
            refine cutK [] ⟨37, [(0, .d (eL43 t0 a0)), (3, .i x1_3), (33, .b true)], []⟩ h0 ?_
            exact Jj1 true H
        · replace H := sF c1 H
          rw [decide_eq_false c1]
          refine goK hT 9 (K25 111 1) ⟨37, [(2, .b (decide ((a0.length : Int) ≤ 64)))], []⟩ ?_
          obtain rfl := retC H
          exact ak_ret hf hX (av := .b (decide ((a0.length : Int) ≤ 64))) (by kernel_rfl) [] (sel_of_eq (by kernel_rfl)) (by decide) (by rw [h0]; rfl) (by kernel_rfl) (fun _ h => all_nil h) (.d (.v _))
  refine cutK [] ⟨37, [(0, .d (eL43 t0 a0)), (3, .i 0)], []⟩ h0 ?_
  obtain ⟨n, H⟩ := loopC H
  exact (L n) 0 H


theorem spliceref05_Same.says {t0 : Bool} {t1 : Bool} (a0 : List spliceref04_Pair) (a1 : List spliceref04_Pair) {r : Bool} (H : spliceref05_Same a0 a1 = some r) : Says Try.prog 10 [] [.d (eL66 t0 a0), .d (eL66 t1 a1)] [] (.b r) := by
  refine says_of Try.func10 rfl (nt := 26) rfl (Nat.le_of_ble_eq_true rfl) fun X hP h0 hX => ?_
  have hT : TabOk X.P T := hP ▸ tok
  have hf : X.P.funcs[10]? = some Try.f10 := hP ▸ Try.func10
  refine goK hT 13 (K10 110 1) ⟨26, [(0, .d (eL66 t0 a0)), (1, .d (eL66 t1 a1)), (10, .b ((a0.length : Int) != (a1.length : Int)))], []⟩ ?_
  by_cases c1 : (a0.length : Int) = (a1.length : Int)
  · replace H := iT c1 H
    rw [neF c1]
    refine goK hT 2 (K10 11 1) ⟨26, [(0, .d (eL66 t0 a0)), (1, .d (eL66 t1 a1))], []⟩ ?_
    refine goK hT 7 (K10 111010 0) ⟨26, [(0, .d (eL66 t0 a0)), (1, .d (eL66 t1 a1)), (5, .i 0)], []⟩ ?_
    have L : ∀ n, (∀ (x1_5 : Int), iter (spliceref05_Same.step a0 a1) n (.l1 x1_5) = some r → AK X 10 ((K10 111010 0)) (Back X [] (.b r)) ⟨26, [(0, .d (eL66 t0 a0)), (1, .d (eL66 t1 a1)), (5, .i x1_5)], []⟩) := by
      intro n
      induction n with
      | zero => exact fun _ H => iter0 H
      | succ n ih =>
        · intro x1_5 H
          refine goK hT 8 (K10 11101000 1) ⟨26, [(0, .d (eL66 t0 a0)), (1, .d (eL66 t1 a1)), (5, .i x1_5), (14, .b (decide (x1_5 < (a0.length : Int))))], []⟩ ?_
          by_cases c2 : x1_5 < (a0.length : Int)
          · replace H := sT c2 H
            rw [decide_eq_true c2]
            refine goK hT 2 (K10 1110100 1) ⟨26, [(0, .d (eL66 t0 a0)), (1, .d (eL66 t1 a1)), (5, .i x1_5)], []⟩ ?_
            refine goK hT 3 (K10 1110100100 0) ⟨26, [(0, .d (eL66 t0 a0)), (1, .d (eL66 t1 a1)), (5, .i x1_5)], []⟩ ?_
            obtain ⟨h3, H⟩ := sC H
            obtain ⟨h4, H⟩ := sC H
            refine drawK (hP ▸ mixed) 9 [0, 1, 5] [some (.d (eL66 t0 a0)), some (.i x1_5), some (.d (eP66 t0 a0 x1_5.toNat 0)), some (.d (eG66 (a0.getD x1_5.toNat spliceref04_Pair.z))), some (.d (eL66 t1 a1)), some (.i x1_5), some (.d (eP66 t1 a1 x1_5.toNat 0)), some (.d (eG66 (a1.getD x1_5.toNat spliceref04_Pair.z))), some (.b (!((((a0.getD x1_5.toNat spliceref04_Pair.z).Key) == ((a1.getD x1_5.toNat spliceref04_Pair.z).Key)) && (((a0.getD x1_5.toNat spliceref04_Pair.z).Val) == ((a1.getD x1_5.toNat spliceref04_Pair.z).Val)))))] (opG (opG (opS (opG (opG (opG (opS (opG (opG op0 hT) hT) (fun R rest h => ak_idx0 hT (i := x1_5) (n := (a0.length : Int)) h3.1 h3.2 (by kernel_rfl) h)) hT) hT) hT) (fun R rest h => ak_idx0 hT (i := x1_5) (n := (a1.length : Int)) h4.1 h4.2 (by kernel_rfl) h)) hT) hT) ?_
            refine goK hT 1 (K10 1110100100 1) ⟨26, [(0, .d (eL66 t0 a0)), (1, .d (eL66 t1 a1)), (5, .i x1_5), (25, .b (!((((a0.getD x1_5.toNat spliceref04_Pair.z).Key) == ((a1.getD x1_5.toNat spliceref04_Pair.z).Key)) && (((a0.getD x1_5.toNat spliceref04_Pair.z).Val) == ((a1.getD x1_5.toNat spliceref04_Pair.z).Val)))))], []⟩ ?_
            by_cases c5 : ((a0.getD x1_5.toNat spliceref04_Pair.z).Key) = ((a1.getD x1_5.toNat spliceref04_Pair.z).Key)
            · replace H := sT c5 H
              rw [eqT c5]
              by_cases c6 : ((a0.getD x1_5.toNat spliceref04_Pair.z).Val) = ((a1.getD x1_5.toNat spliceref04_Pair.z).Val)
              · replace H := sT c6 H
                rw [eqT c6]
                refine goK hT 3 (K10 11101001 1) ⟨26, [(0, .d (eL66 t0 a0)), (1, .d (eL66 t1 a1)), (5, .i x1_5)], []⟩ ?_
                refine goK hT 6 (K10 111010 0) ⟨26, [(0, .d (eL66 t0 a0)), (1, .d (eL66 t1 a1)), (5, .i (IntKind.wrap .i64 (x1_5 + 1)))], []⟩ ?_
                refine cutK [] ⟨26, [(0, .d (eL66 t0 a0)), (1, .d (eL66 t1 a1)), (5, .i (IntKind.wrap .i64 (x1_5 + 1)))], []⟩ h0 ?_
                exact ih (IntKind.wrap .i64 (x1_5 + 1)) H
              · replace H := sF c6 H
                rw [eqF c6]
                refine goK hT 5 (K10 111010010010 1) ⟨26, [(4, .b false)], []⟩ ?_
                obtain rfl := retC H
                exact ak_ret hf hX (av := .b false) (by kernel_rfl) [] (sel_of_eq (by kernel_rfl)) (by decide) (by rw [h0]; rfl) (by kernel_rfl) (fun _ h => all_nil h) (.d (.v _))
            · replace H := sF c5 H
              rw [eqF c5]
              by_cases c7 : ((a0.getD x1_5.toNat spliceref04_Pair.z).Val) = ((a1.getD x1_5.toNat spliceref04_Pair.z).Val)
              · replace H := sT c7 H
                rw [eqT c7]
                refine goK hT 5 (K10 111010010010 1) ⟨26, [(4, .b false)], []⟩ ?_
                obtain rfl := retC H
                exact ak_ret hf hX (av := .b false) (by kernel_rfl) [] (sel_of_eq (by kernel_rfl)) (by decide) (by rw [h0]; rfl) (by kernel_rfl) (fun _ h => all_nil h) (.d (.v _))
              · replace H := sF c7 H
                rw [eqF c7]
                refine goK hT 5 (K10 111010010010 1) ⟨26, [(4, .b false)], []⟩ ?_
                obtain rfl := retC H
                exact ak_ret hf hX (av := .b false) (by kernel_rfl) [] (sel_of_eq (by kernel_rfl)) (by decide) (by rw [h0]; rfl) (by kernel_rfl) (fun _ h => all_nil h) (.d (.v _))
          · replace H := sF c2 H
            rw [decide_eq_false c2]
            refine goK hT 6 (K10 1111 1) ⟨26, [(4, .b true)], []⟩ ?_
            obtain rfl := retC H
            exact ak_ret hf hX (av := .b true) (by kernel_rfl) [] (sel_of_eq (by kernel_rfl)) (by decide) (by rw [h0]; rfl) (by kernel_rfl) (fun _ h => all_nil h) (.d (.v _))
    refine cutK [] ⟨26, [(0, .d (eL66 t0 a0)), (1, .d (eL66 t1 a1)), (5, .i 0)], []⟩ h0 ?_
    obtain ⟨n, H⟩ := loopC H
    exact (L n) 0 H
  · replace H := iF c1 H
    rw [neT c1]
    refine goK hT 5 (K10 11010 1) ⟨26, [(4, .b false)], []⟩ ?_
    obtain rfl := retC H
    exact ak_ret hf hX (av := .b false) (by kernel_rfl) [] (sel_of_eq (by kernel_rfl)) (by decide) (by rw [h0]; rfl) (by kernel_rfl) (fun _ h => all_nil h) (.d (.v _))


theorem span_beyond.says {t0 : Bool} (a0 : List api_Span) {r : List api_Span} (H : span_beyond a0 = some r) : Says Try.prog 45 [] [.d (eL40 t0 a0)] [eR40 r] (.own 0 2 0 r.length) := by
  refine says_of Try.func45 rfl (nt := 35) rfl (Nat.le_of_ble_eq_true rfl) fun X hP h0 hX => ?_
  have hT : TabOk X.P T := hP ▸ tok
  have hf : X.P.funcs[45]? = some Try.f45 := hP ▸ Try.func45
  refine goK hT 21 (K45 1111010 0) ⟨35, [(3, .ns), (4, .i 0), (7, .d (eL40 t0 a0)), (8, .i (a0.length : Int)), (9, .i 0)], []⟩ ?_
  refine ak_nilS [3, 4, 7, 8, 9] 3 2 40 (vec api_Span.e api_Span.z []) (st' := ⟨35, [(3, .own 0 2 0 0), (4, .i 0), (7, .d (eL40 t0 a0)), (8, .i (a0.length : Int)), (9, .i 0)], [eR40 ([] : List api_Span)]⟩) (by kernel_rfl) (by kernel_rfl) ?_
  have L : ∀ n, (∀ (x1_4 : Int) (x1_9 : Int) (x1_r0 : List api_Span), iter (span_beyond.step a0) n (.l1 x1_4 x1_9 x1_r0) = some r → AK X 45 ((K45 1111010 0)) (Back X [eR40 r] (.own 0 2 0 r.length)) ⟨35, [(3, .own 0 2 0 x1_r0.length), (4, .i x1_4), (7, .d (eL40 t0 a0)), (8, .i (a0.length : Int)), (9, .i x1_9)], [eR40 x1_r0]⟩) := by
    intro n
    induction n with
    | zero => exact fun _ _ _ H => iter0 H
    | succ n ih =>
      · intro x1_4 x1_9 x1_r0 H
        refine goK hT 5 (K45 111101001 0) ⟨35, [(3, .own 0 2 0 x1_r0.length), (4, .i x1_4), (7, .d (eL40 t0 a0)), (8, .i (a0.length : Int)), (9, .i x1_9), (10, .b (decide (x1_9 < (a0.length : Int))))], [eR40 x1_r0]⟩ ?_
        by_cases c1 : x1_9 < (a0.length : Int)
        · replace H := sT c1 H
          rw [decide_eq_true c1]
          refine goK hT 2 (K45 111101001 1) ⟨35, [(3, .own 0 2 0 x1_r0.length), (4, .i x1_4), (7, .d (eL40 t0 a0)), (8, .i (a0.length : Int)), (9, .i x1_9)], [eR40 x1_r0]⟩ ?_
          refine goK hT 4 (K45 1111010011000 0) ⟨35, [(3, .own 0 2 0 x1_r0.length), (4, .i x1_4), (7, .d (eL40 t0 a0)), (8, .i (a0.length : Int)), (9, .i x1_9)], [eR40 x1_r0]⟩ ?_
          obtain ⟨h4, H⟩ := sC H
          have Jj2 : ∀ (y2_r0 : List api_Span), stk (span_beyond.j2 a0 x1_9 y2_r0) (iter (span_beyond.step a0) n) = some r → AK X 45 ((K45 1111010011001 1)) (Back X [eR40 r] (.own 0 2 0 r.length)) ⟨35, [(3, .own 0 2 0 y2_r0.length), (6, .ptr 1 0 0 0), (7, .d (eL40 t0 a0)), (8, .i (a0.length : Int)), (9, .i x1_9)], [eR40 y2_r0, .box 40 (eC40 (a0.getD x1_9.toNat api_Span.z))]⟩ := by
            intro y2_r0 H
            refine goK hT 11 (K45 1111010 0) ⟨35, [(3, .own 0 2 0 y2_r0.length), (4, .i ((a0.getD x1_9.toNat api_Span.z).Hi)), (7, .d (eL40 t0 a0)), (8, .i (a0.length : Int)), (9, .i (IntKind.wrap .i64 (x1_9 + 1)))], [eR40 y2_r0, .box 40 (eC40 (a0.getD x1_9.toNat api_Span.z))]⟩ ?_
            refine cutK [0] ⟨35, [(3, .own 0 2 0 y2_r0.length), (4, .i ((a0.getD x1_9.toNat api_Span.z).Hi)), (7, .d (eL40 t0 a0)), (8, .i (a0.length : Int)), (9, .i (IntKind.wrap .i64 (x1_9 + 1)))], [eR40 y2_r0]⟩ h0 ?_
            exact ih ((a0.getD x1_9.toNat api_Span.z).Hi) (IntKind.wrap .i64 (x1_9 + 1)) y2_r0 H
          refine ak_idx hT [3, 4, 7, 8, 9, 11] (i := x1_9) (n := (a0.length : Int)) h4.1 h4.2 (k' := (K45 1111010011000 1)) (st' := ⟨35, [(3, .own 0 2 0 x1_r0.length), (4, .i x1_4), (7, .d (eL40 t0 a0)), (8, .i (a0.length : Int)), (9, .i x1_9), (11, .d (eP40 t0 a0 x1_9.toNat 0))], [eR40 x1_r0]⟩) (by kernel_rfl) ?_
          refine goK hT 12 (K45 11110100110010 1) ⟨35, [(3, .own 0 2 0 x1_r0.length), (4, .i x1_4), (6, .ptr 1 0 0 0), (7, .d (eL40 t0 a0)), (8, .i (a0.length : Int)), (9, .i x1_9), (16, .b (decide (x1_4 < ((a0.getD x1_9.toNat api_Span.z).Lo))))], [eR40 x1_r0, .box 40 (eC40 (a0.getD x1_9.toNat api_Span.z))]⟩ ?_
          by_cases c5 : x1_4 < ((a0.getD x1_9.toNat api_Span.z).Lo)
          · replace H := sT c5 H
            rw [decide_eq_true c5]
            refine goK hT 8 (K45 1111010011001010 6) ⟨35, [(6, .ptr 1 0 0 0), (7, .d (eL40 t0 a0)), (8, .i (a0.length : Int)), (9, .i x1_9), (17, .own 0 2 0 x1_r0.length), (22, .own 2 2 0 1)], [eR40 x1_r0, .box 40 (eC40 (a0.getD x1_9.toNat api_Span.z)), .flat false 2 40 1 (fun j => [[.i x1_4, .i ((a0.getD x1_9.toNat api_Span.z).Lo)]].getD j [])]⟩ ?_
            obtain ⟨h6, H⟩ := sC H
            refine ak_append1 (id := 0) (kk := 2) (by' := 16) (t := 23) (e := 40) (z := [.int .i64 0, .int .i64 0]) (dst := some 23) (id2 := 2) (e2 := 40) (fz := false) (k' := (K45 1111010011001010 7)) hT api_Span.e api_Span.z x1_r0 (⟨x1_4, (a0.getD x1_9.toNat api_Span.z).Lo⟩ : api_Span) [6, 7, 8, 9, 23] (by kernel_rfl) (by kernel_rfl) (by kernel_rfl) (by kernel_rfl) (by kernel_rfl) (by kernel_rfl) (by kernel_rfl) h6 (by omega) (st' := ⟨35, [(6, .ptr 1 0 0 0), (7, .d (eL40 t0 a0)), (8, .i (a0.length : Int)), (9, .i x1_9), (23, .own 3 2 0 ((x1_r0 ++ [(⟨x1_4, (a0.getD x1_9.toNat api_Span.z).Lo⟩ : api_Span)]).length))], [.gone, .box 40 (eC40 (a0.getD x1_9.toNat api_Span.z)), .flat false 2 40 1 (fun j => [[.i x1_4, .i ((a0.getD x1_9.toNat api_Span.z).Lo)]].getD j []), eR40 (x1_r0 ++ [(⟨x1_4, (a0.getD x1_9.toNat api_Span.z).Lo⟩ : api_Span)])]⟩) (by kernel_rfl) ?_
            refine goK hT 2 (K45 1111010011001 1) ⟨35, [(3, .own 3 2 0 ((x1_r0 ++ [(⟨x1_4, (a0.getD x1_9.toNat api_Span.z).Lo⟩ : api_Span)]).length)), (6, .ptr 1 0 0 0), (7, .d (eL40 t0 a0)), (8, .i (a0.length : Int)), (9, .i x1_9)], [.gone, .box 40 (eC40 (a0.getD x1_9.toNat api_Span.z)), .flat false 2 40 1 (fun j => [[.i x1_4, .i ((a0.getD x1_9.toNat api_Span.z).Lo)]].getD j []), eR40 (x1_r0 ++ [(⟨x1_4, (a0.getD x1_9.toNat api_Span.z).Lo⟩ : api_Span)])]⟩ ?_
            refine cutK [3, 1] ⟨35, [(3, .own 0 2 0 (x1_r0 ++ [(⟨x1_4, (a0.getD x1_9.toNat api_Span.z).Lo⟩ : api_Span)]).length), (6, .ptr 1 0 0 0), (7, .d (eL40 t0 a0)), (8, .i (a0.length : Int)), (9, .i x1_9)], [eR40 (x1_r0 ++ [(⟨x1_4, (a0.getD x1_9.toNat api_Span.z).Lo⟩ : api_Span)]), .box 40 (eC40 (a0.getD x1_9.toNat api_Span.z))]⟩ h0 ?_
            exact Jj2 (x1_r0 ++ [(⟨x1_4, (a0.getD x1_9.toNat api_Span.z).Lo⟩ : api_Span)]) H
          · replace H := sF c5 H
            rw [decide_eq_false c5]
            refine goK hT 2 (K45 1111010011001 1) ⟨35, [(3, .own 0 2 0 x1_r0.length), (6, .ptr 1 0 0 0), (7, .d (eL40 t0 a0)), (8, .i (a0.length : Int)), (9, .i x1_9)], [eR40 x1_r0, .box 40 (eC40 (a0.getD x1_9.toNat api_Span.z))]⟩ ?_
            refine cutK [0, 1] ⟨35, [(3, .own 0 2 0 x1_r0.length), (6, .ptr 1 0 0 0), (7, .d (eL40 t0 a0)), (8, .i (a0.length : Int)), (9, .i x1_9)], [eR40 x1_r0, .box 40 (eC40 (a0.getD x1_9.toNat api_Span.z))]⟩ h0 ?_
            exact Jj2 x1_r0 H
        · replace H := sF c1 H
          have Jj1 : ∀ (y1_r0 : List api_Span), stk (span_beyond.j1 y1_r0) (iter (span_beyond.step a0) n) = some r → AK X 45 ((K45 11111 1)) (Back X [eR40 r] (.own 0 2 0 r.length)) ⟨35, [(3, .own 0 2 0 y1_r0.length)], [eR40 y1_r0]⟩ := by
            intro y1_r0 H
            refine goK hT 5 (K45 111111 1) ⟨35, [(2, .own 0 2 0 y1_r0.length)], [eR40 y1_r0]⟩ ?_
            obtain rfl := retC H
            exact ak_ret hf hX (av := .own 0 2 0 y1_r0.length) (by kernel_rfl) [0] (sel_of_eq (by kernel_rfl)) (by decide) (by rw [h0]; rfl) (by kernel_rfl) (fun _ h => all_cons (nr_vec api_Span.nl) (fun _ h => all_nil h) h) (.own _ _ _ _)
          rw [decide_eq_false c1]
          refine goK hT 8 (K45 111110 1) ⟨35, [(3, .own 0 2 0 x1_r0.length), (4, .i x1_4), (28, .b (decide (x1_4 < 4096)))], [eR40 x1_r0]⟩ ?_
          by_cases c2 : x1_4 < 4096
          · replace H := sT c2 H
            rw [decide_eq_true c2]
            refine goK hT 6 (K45 11111010 4) ⟨35, [(29, .own 0 2 0 x1_r0.length), (32, .own 1 2 0 1)], [eR40 x1_r0, .flat false 2 40 1 (fun j => [[.i x1_4, .i 4096]].getD j [])]⟩ ?_
            obtain ⟨h3, H⟩ := sC H
            refine ak_append1 (id := 0) (kk := 2) (by' := 16) (t := 23) (e := 40) (z := [.int .i64 0, .int .i64 0]) (dst := some 33) (id2 := 1) (e2 := 40) (fz := false) (k' := (K45 11111010 5)) hT api_Span.e api_Span.z x1_r0 (⟨x1_4, 4096⟩ : api_Span) [33] (by kernel_rfl) (by kernel_rfl) (by kernel_rfl) (by kernel_rfl) (by kernel_rfl) (by kernel_rfl) (by kernel_rfl) h3 (by omega) (st' := ⟨35, [(33, .own 2 2 0 ((x1_r0 ++ [(⟨x1_4, 4096⟩ : api_Span)]).length))], [.gone, .flat false 2 40 1 (fun j => [[.i x1_4, .i 4096]].getD j []), eR40 (x1_r0 ++ [(⟨x1_4, 4096⟩ : api_Span)])]⟩) (by kernel_rfl) ?_
            refine goK hT 2 (K45 11111 1) ⟨35, [(3, .own 2 2 0 ((x1_r0 ++ [(⟨x1_4, 4096⟩ : api_Span)]).length))], [.gone, .flat false 2 40 1 (fun j => [[.i x1_4, .i 4096]].getD j []), eR40 (x1_r0 ++ [(⟨x1_4, 4096⟩ : api_Span)])]⟩ ?_
            refine cutK [2] ⟨35, [(3, .own 0 2 0 (x1_r0 ++ [(⟨x1_4, 4096⟩ : api_Span)]).length)], [eR40 (x1_r0 ++ [(⟨x1_4, 4096⟩ : api_Span)])]⟩ h0 ?_
            exact Jj1 (x1_r0 ++ [(⟨x1_4, 4096⟩ : api_Span)]) H
          · replace H := sF c2 H
            rw [decide_eq_false c2]
            refine goK hT 2 (K45 11111 1) ⟨35, [(3, .own 0 2 0 x1_r0.length)], [eR40 x1_r0]⟩ ?_
            refine cutK [0] ⟨35, [(3, .own 0 2 0 x1_r0.length)], [eR40 x1_r0]⟩ h0 ?_
            exact Jj1 x1_r0 H
  refine cutK [0] ⟨35, [(3, .own 0 2 0 ([] : List api_Span).length), (4, .i 0), (7, .d (eL40 t0 a0)), (8, .i (a0.length : Int)), (9, .i 0)], [eR40 ([] : List api_Span)]⟩ h0 ?_
  obtain ⟨n, H⟩ := loopC H
  exact (L n) 0 0 ([] : List api_Span) H


theorem span_both.says {t0 : Bool} {t1 : Bool} (a0 : List api_Span) (a1 : List api_Span) {r : List api_Span} (H : span_both a0 a1 = some r) : Says Try.prog 44 [] [.d (eL40 t0 a0), .d (eL40 t1 a1)] [eR40 r] (.own 0 2 0 r.length) := by
  refine says_of Try.func44 rfl (nt := 46) rfl (Nat.le_of_ble_eq_true rfl) fun X hP h0 hX => ?_
  have hT : TabOk X.P T := hP ▸ tok
  have hf : X.P.funcs[44]? = some Try.f44 := hP ▸ Try.func44
  refine goK hT 17 (K44 111010 0) ⟨46, [(1, .d (eL40 t1 a1)), (5, .ns), (11, .d (eL40 t0 a0)), (12, .i (a0.length : Int)), (13, .i 0)], []⟩ ?_
  refine ak_nilS [1, 5, 11, 12, 13] 5 2 40 (vec api_Span.e api_Span.z []) (st' := ⟨46, [(1, .d (eL40 t1 a1)), (5, .own 0 2 0 0), (11, .d (eL40 t0 a0)), (12, .i (a0.length : Int)), (13, .i 0)], [eR40 ([] : List api_Span)]⟩) (by kernel_rfl) (by kernel_rfl) ?_
  have L : ∀ n, (∀ (x1_13 : Int) (x1_r0 : List api_Span), iter (span_both.step a0 a1) n (.l1 x1_13 x1_r0) = some r → AK X 44 ((K44 111010 0)) (Back X [eR40 r] (.own 0 2 0 r.length)) ⟨46, [(1, .d (eL40 t1 a1)), (5, .own 0 2 0 x1_r0.length), (11, .d (eL40 t0 a0)), (12, .i (a0.length : Int)), (13, .i x1_13)], [eR40 x1_r0]⟩) ∧ (∀ (x2_13 : Int) (x2_19 : Int) (x2_r0 : List api_Span) (x2_b1_0 : Int) (x2_b1_1 : Int), iter (span_both.step a0 a1) n (.l2 x2_13 x2_19 x2_r0 x2_b1_0 x2_b1_1) = some r → AK X 44 ((K44 11101001100110 0)) (Back X [eR40 r] (.own 0 2 0 r.length)) ⟨46, [(1, .d (eL40 t1 a1)), (5, .own 0 2 0 x2_r0.length), (7, .ptr 1 0 0 0), (11, .d (eL40 t0 a0)), (12, .i (a0.length : Int)), (13, .i x2_13), (17, .d (eL40 t1 a1)), (18, .i (a1.length : Int)), (19, .i x2_19)], [eR40 x2_r0, .box 40 [.i x2_b1_0, .i x2_b1_1]]⟩) := by
    intro n
    induction n with
    | zero => exact ⟨fun _ _ H => iter0 H, fun _ _ _ _ _ H => iter0 H⟩
    | succ n ih =>
      refine ⟨?_, ?_⟩
      · intro x1_13 x1_r0 H
        refine goK hT 5 (K44 11101001 0) ⟨46, [(1, .d (eL40 t1 a1)), (5, .own 0 2 0 x1_r0.length), (11, .d (eL40 t0 a0)), (12, .i (a0.length : Int)), (13, .i x1_13), (14, .b (decide (x1_13 < (a0.length : Int))))], [eR40 x1_r0]⟩ ?_
        by_cases c1 : x1_13 < (a0.length : Int)
        · replace H := sT c1 H
          rw [decide_eq_true c1]
          refine goK hT 2 (K44 11101001 1) ⟨46, [(1, .d (eL40 t1 a1)), (5, .own 0 2 0 x1_r0.length), (11, .d (eL40 t0 a0)), (12, .i (a0.length : Int)), (13, .i x1_13)], [eR40 x1_r0]⟩ ?_
          refine goK hT 4 (K44 111010011000 0) ⟨46, [(1, .d (eL40 t1 a1)), (5, .own 0 2 0 x1_r0.length), (11, .d (eL40 t0 a0)), (12, .i (a0.length : Int)), (13, .i x1_13)], [eR40 x1_r0]⟩ ?_
          obtain ⟨h2, H⟩ := sC H
          refine ak_idx hT [1, 5, 11, 12, 13, 15] (i := x1_13) (n := (a0.length : Int)) h2.1 h2.2 (k' := (K44 111010011000 1)) (st' := ⟨46, [(1, .d (eL40 t1 a1)), (5, .own 0 2 0 x1_r0.length), (11, .d (eL40 t0 a0)), (12, .i (a0.length : Int)), (13, .i x1_13), (15, .d (eP40 t0 a0 x1_13.toNat 0))], [eR40 x1_r0]⟩) (by kernel_rfl) ?_
          refine goK hT 12 (K44 11101001100110 0) ⟨46, [(1, .d (eL40 t1 a1)), (5, .own 0 2 0 x1_r0.length), (7, .ptr 1 0 0 0), (11, .d (eL40 t0 a0)), (12, .i (a0.length : Int)), (13, .i x1_13), (17, .d (eL40 t1 a1)), (18, .i (a1.length : Int)), (19, .i 0)], [eR40 x1_r0, .box 40 (eC40 (a0.getD x1_13.toNat api_Span.z))]⟩ ?_
          refine cutK [0, 1] ⟨46, [(1, .d (eL40 t1 a1)), (5, .own 0 2 0 x1_r0.length), (7, .ptr 1 0 0 0), (11, .d (eL40 t0 a0)), (12, .i (a0.length : Int)), (13, .i x1_13), (17, .d (eL40 t1 a1)), (18, .i (a1.length : Int)), (19, .i 0)], [eR40 x1_r0, .box 40 [.i ((a0.getD x1_13.toNat api_Span.z).Lo), .i ((a0.getD x1_13.toNat api_Span.z).Hi)]]⟩ h0 ?_
          exact ih.2 x1_13 0 x1_r0 ((a0.getD x1_13.toNat api_Span.z).Lo) ((a0.getD x1_13.toNat api_Span.z).Hi) H
        · replace H := sF c1 H
          rw [decide_eq_false c1]
          refine goK hT 7 (K44 1111 1) ⟨46, [(4, .own 0 2 0 x1_r0.length)], [eR40 x1_r0]⟩ ?_
          obtain rfl := retC H
          exact ak_ret hf hX (av := .own 0 2 0 x1_r0.length) (by kernel_rfl) [0] (sel_of_eq (by kernel_rfl)) (by decide) (by rw [h0]; rfl) (by kernel_rfl) (fun _ h => all_cons (nr_vec api_Span.nl) (fun _ h => all_nil h) h) (.own _ _ _ _)
      · intro x2_13 x2_19 x2_r0 x2_b1_0 x2_b1_1 H
        refine goK hT 5 (K44 1110100110011001 0) ⟨46, [(1, .d (eL40 t1 a1)), (5, .own 0 2 0 x2_r0.length), (7, .ptr 1 0 0 0), (11, .d (eL40 t0 a0)), (12, .i (a0.length : Int)), (13, .i x2_13), (17, .d (eL40 t1 a1)), (18, .i (a1.length : Int)), (19, .i x2_19), (20, .b (decide (x2_19 < (a1.length : Int))))], [eR40 x2_r0, .box 40 [.i x2_b1_0, .i x2_b1_1]]⟩ ?_
        by_cases c3 : x2_19 < (a1.length : Int)
        · replace H := sT c3 H
          rw [decide_eq_true c3]
          refine goK hT 2 (K44 1110100110011001 1) ⟨46, [(1, .d (eL40 t1 a1)), (5, .own 0 2 0 x2_r0.length), (7, .ptr 1 0 0 0), (11, .d (eL40 t0 a0)), (12, .i (a0.length : Int)), (13, .i x2_13), (17, .d (eL40 t1 a1)), (18, .i (a1.length : Int)), (19, .i x2_19)], [eR40 x2_r0, .box 40 [.i x2_b1_0, .i x2_b1_1]]⟩ ?_
          refine goK hT 4 (K44 11101001100110011000 0) ⟨46, [(1, .d (eL40 t1 a1)), (5, .own 0 2 0 x2_r0.length), (7, .ptr 1 0 0 0), (11, .d (eL40 t0 a0)), (12, .i (a0.length : Int)), (13, .i x2_13), (17, .d (eL40 t1 a1)), (18, .i (a1.length : Int)), (19, .i x2_19)], [eR40 x2_r0, .box 40 [.i x2_b1_0, .i x2_b1_1]]⟩ ?_
          obtain ⟨h4, H⟩ := sC H
          have Jj1 : ∀ (y1_r0 : List api_Span), stk (span_both.j1 x2_13 x2_19 x2_b1_0 x2_b1_1 y1_r0) (iter (span_both.step a0 a1) n) = some r → AK X 44 ((K44 11101001100110011 1)) (Back X [eR40 r] (.own 0 2 0 r.length)) ⟨46, [(1, .d (eL40 t1 a1)), (5, .own 0 2 0 y1_r0.length), (7, .ptr 1 0 0 0), (11, .d (eL40 t0 a0)), (12, .i (a0.length : Int)), (13, .i x2_13), (17, .d (eL40 t1 a1)), (18, .i (a1.length : Int)), (19, .i x2_19)], [eR40 y1_r0, .box 40 [.i x2_b1_0, .i x2_b1_1]]⟩ := by
            intro y1_r0 H
            refine goK hT 5 (K44 11101001100110 0) ⟨46, [(1, .d (eL40 t1 a1)), (5, .own 0 2 0 y1_r0.length), (7, .ptr 1 0 0 0), (11, .d (eL40 t0 a0)), (12, .i (a0.length : Int)), (13, .i x2_13), (17, .d (eL40 t1 a1)), (18, .i (a1.length : Int)), (19, .i (IntKind.wrap .i64 (x2_19 + 1)))], [eR40 y1_r0, .box 40 [.i x2_b1_0, .i x2_b1_1]]⟩ ?_
            refine cutK [0, 1] ⟨46, [(1, .d (eL40 t1 a1)), (5, .own 0 2 0 y1_r0.length), (7, .ptr 1 0 0 0), (11, .d (eL40 t0 a0)), (12, .i (a0.length : Int)), (13, .i x2_13), (17, .d (eL40 t1 a1)), (18, .i (a1.length : Int)), (19, .i (IntKind.wrap .i64 (x2_19 + 1)))], [eR40 y1_r0, .box 40 [.i x2_b1_0, .i x2_b1_1]]⟩ h0 ?_
            exact ih.2 x2_13 (IntKind.wrap .i64 (x2_19 + 1)) y1_r0 x2_b1_0 x2_b1_1 H
          refine ak_idx hT [1, 5, 7, 11, 12, 13, 17, 18, 19, 21] (i := x2_19) (n := (a1.length : Int)) h4.1 h4.2 (k' := (K44 11101001100110011000 1)) (st' := ⟨46, [(1, .d (eL40 t1 a1)), (5, .own 0 2 0 x2_r0.length), (7, .ptr 1 0 0 0), (11, .d (eL40 t0 a0)), (12, .i (a0.length : Int)), (13, .i x2_13), (17, .d (eL40 t1 a1)), (18, .i (a1.length : Int)), (19, .i x2_19), (21, .d (eP40 t1 a1 x2_19.toNat 0))], [eR40 x2_r0, .box 40 [.i x2_b1_0, .i x2_b1_1]]⟩) (by kernel_rfl) ?_
          refine goK hT 28 (K44 111010011001100110011 1) ⟨46, [(1, .d (eL40 t1 a1)), (5, .own 0 2 0 x2_r0.length), (7, .ptr 1 0 0 0), (10, .ptr 3 0 0 0), (11, .d (eL40 t0 a0)), (12, .i (a0.length : Int)), (13, .i x2_13), (17, .d (eL40 t1 a1)), (18, .i (a1.length : Int)), (19, .i x2_19), (38, .b (decide ((iMax x2_b1_0 ((a1.getD x2_19.toNat api_Span.z).Lo)) < (iMin x2_b1_1 ((a1.getD x2_19.toNat api_Span.z).Hi)))))], [eR40 x2_r0, .box 40 [.i x2_b1_0, .i x2_b1_1], .box 40 (eC40 (a1.getD x2_19.toNat api_Span.z)), .box 40 [.i (iMax x2_b1_0 ((a1.getD x2_19.toNat api_Span.z).Lo)), .i (iMin x2_b1_1 ((a1.getD x2_19.toNat api_Span.z).Hi))]]⟩ ?_
          by_cases c5 : (iMax x2_b1_0 ((a1.getD x2_19.toNat api_Span.z).Lo)) < (iMin x2_b1_1 ((a1.getD x2_19.toNat api_Span.z).Hi))
          · replace H := sT c5 H
            rw [decide_eq_true c5]
            refine goK hT 5 (K44 11101001100110011001110 3) ⟨46, [(1, .d (eL40 t1 a1)), (7, .ptr 1 0 0 0), (11, .d (eL40 t0 a0)), (12, .i (a0.length : Int)), (13, .i x2_13), (17, .d (eL40 t1 a1)), (18, .i (a1.length : Int)), (19, .i x2_19), (39, .own 0 2 0 x2_r0.length), (41, .own 4 2 0 1)], [eR40 x2_r0, .box 40 [.i x2_b1_0, .i x2_b1_1], .box 40 (eC40 (a1.getD x2_19.toNat api_Span.z)), .box 40 [.i (iMax x2_b1_0 ((a1.getD x2_19.toNat api_Span.z).Lo)), .i (iMin x2_b1_1 ((a1.getD x2_19.toNat api_Span.z).Hi))], .flat false 2 40 1 (fun j => [[.i (iMax x2_b1_0 ((a1.getD x2_19.toNat api_Span.z).Lo)), .i (iMin x2_b1_1 ((a1.getD x2_19.toNat api_Span.z).Hi))]].getD j [])]⟩ ?_
            obtain ⟨h6, H⟩ := sC H
            refine ak_append1 (id := 0) (kk := 2) (by' := 16) (t := 23) (e := 40) (z := [.int .i64 0, .int .i64 0]) (dst := some 42) (id2 := 4) (e2 := 40) (fz := false) (k' := (K44 11101001100110011001110 4)) hT api_Span.e api_Span.z x2_r0 (⟨iMax x2_b1_0 ((a1.getD x2_19.toNat api_Span.z).Lo), iMin x2_b1_1 ((a1.getD x2_19.toNat api_Span.z).Hi)⟩ : api_Span) [1, 7, 11, 12, 13, 17, 18, 19, 42] (by kernel_rfl) (by kernel_rfl) (by kernel_rfl) (by kernel_rfl) (by kernel_rfl) (by kernel_rfl) (by kernel_rfl) h6 (by omega) (st' := ⟨46, [(1, .d (eL40 t1 a1)), (7, .ptr 1 0 0 0), (11, .d (eL40 t0 a0)), (12, .i (a0.length : Int)), (13, .i x2_13), (17, .d (eL40 t1 a1)), (18, .i (a1.length : Int)), (19, .i x2_19), (42, .own 5 2 0 ((x2_r0 ++ [(⟨iMax x2_b1_0 ((a1.getD x2_19.toNat api_Span.z).Lo), iMin x2_b1_1 ((a1.getD x2_19.toNat api_Span.z).Hi)⟩ : api_Span)]).length))], [.gone, .box 40 [.i x2_b1_0, .i x2_b1_1], .box 40 (eC40 (a1.getD x2_19.toNat api_Span.z)), .box 40 [.i (iMax x2_b1_0 ((a1.getD x2_19.toNat api_Span.z).Lo)), .i (iMin x2_b1_1 ((a1.getD x2_19.toNat api_Span.z).Hi))], .flat false 2 40 1 (fun j => [[.i (iMax x2_b1_0 ((a1.getD x2_19.toNat api_Span.z).Lo)), .i (iMin x2_b1_1 ((a1.getD x2_19.toNat api_Span.z).Hi))]].getD j []), eR40 (x2_r0 ++ [(⟨iMax x2_b1_0 ((a1.getD x2_19.toNat api_Span.z).Lo), iMin x2_b1_1 ((a1.getD x2_19.toNat api_Span.z).Hi)⟩ : api_Span)])]⟩) (by kernel_rfl) ?_
            refine goK hT 3 (K44 11101001100110011 1) ⟨46, [(1, .d (eL40 t1 a1)), (5, .own 5 2 0 ((x2_r0 ++ [(⟨iMax x2_b1_0 ((a1.getD x2_19.toNat api_Span.z).Lo), iMin x2_b1_1 ((a1.getD x2_19.toNat api_Span.z).Hi)⟩ : api_Span)]).length)), (7, .ptr 1 0 0 0), (11, .d (eL40 t0 a0)), (12, .i (a0.length : Int)), (13, .i x2_13), (17, .d (eL40 t1 a1)), (18, .i (a1.length : Int)), (19, .i x2_19)], [.gone, .box 40 [.i x2_b1_0, .i x2_b1_1], .box 40 (eC40 (a1.getD x2_19.toNat api_Span.z)), .box 40 [.i (iMax x2_b1_0 ((a1.getD x2_19.toNat api_Span.z).Lo)), .i (iMin x2_b1_1 ((a1.getD x2_19.toNat api_Span.z).Hi))], .flat false 2 40 1 (fun j => [[.i (iMax x2_b1_0 ((a1.getD x2_19.toNat api_Span.z).Lo)), .i (iMin x2_b1_1 ((a1.getD x2_19.toNat api_Span.z).Hi))]].getD j []), eR40 (x2_r0 ++ [(⟨iMax x2_b1_0 ((a1.getD x2_19.toNat api_Span.z).Lo), iMin x2_b1_1 ((a1.getD x2_19.toNat api_Span.z).Hi)⟩ : api_Span)])]⟩ ?_
            refine cutK [5, 1] ⟨46, [(1, .d (eL40 t1 a1)), (5, .own 0 2 0 (x2_r0 ++ [(⟨iMax x2_b1_0 ((a1.getD x2_19.toNat api_Span.z).Lo), iMin x2_b1_1 ((a1.getD x2_19.toNat api_Span.z).Hi)⟩ : api_Span)]).length), (7, .ptr 1 0 0 0), (11, .d (eL40 t0 a0)), (12, .i (a0.length : Int)), (13, .i x2_13), (17, .d (eL40 t1 a1)), (18, .i (a1.length : Int)), (19, .i x2_19)], [eR40 (x2_r0 ++ [(⟨iMax x2_b1_0 ((a1.getD x2_19.toNat api_Span.z).Lo), iMin x2_b1_1 ((a1.getD x2_19.toNat api_Span.z).Hi)⟩ : api_Span)]), .box 40 [.i x2_b1_0, .i x2_b1_1]]⟩ h0 ?_
            exact Jj1 (x2_r0 ++ [(⟨iMax x2_b1_0 ((a1.getD x2_19.toNat api_Span.z).Lo), iMin x2_b1_1 ((a1.getD x2_19.toNat api_Span.z).Hi)⟩ : api_Span)]) H
          · replace H := sF c5 H
            rw [decide_eq_false c5]
            refine goK hT 3 (K44 11101001100110011 1) ⟨46, [(1, .d (eL40 t1 a1)), (5, .own 0 2 0 x2_r0.length), (7, .ptr 1 0 0 0), (11, .d (eL40 t0 a0)), (12, .i (a0.length : Int)), (13, .i x2_13), (17, .d (eL40 t1 a1)), (18, .i (a1.length : Int)), (19, .i x2_19)], [eR40 x2_r0, .box 40 [.i x2_b1_0, .i x2_b1_1], .box 40 (eC40 (a1.getD x2_19.toNat api_Span.z)), .box 40 [.i (iMax x2_b1_0 ((a1.getD x2_19.toNat api_Span.z).Lo)), .i (iMin x2_b1_1 ((a1.getD x2_19.toNat api_Span.z).Hi))]]⟩ ?_
            refine cutK [0, 1] ⟨46, [(1, .d (eL40 t1 a1)), (5, .own 0 2 0 x2_r0.length), (7, .ptr 1 0 0 0), (11, .d (eL40 t0 a0)), (12, .i (a0.length : Int)), (13, .i x2_13), (17, .d (eL40 t1 a1)), (18, .i (a1.length : Int)), (19, .i x2_19)], [eR40 x2_r0, .box 40 [.i x2_b1_0, .i x2_b1_1]]⟩ h0 ?_
            exact Jj1 x2_r0 H
        · replace H := sF c3 H
          rw [decide_eq_false c3]
          refine goK hT 8 (K44 111010 0) ⟨46, [(1, .d (eL40 t1 a1)), (5, .own 0 2 0 x2_r0.length), (11, .d (eL40 t0 a0)), (12, .i (a0.length : Int)), (13, .i (IntKind.wrap .i64 (x2_13 + 1)))], [eR40 x2_r0, .box 40 [.i x2_b1_0, .i x2_b1_1]]⟩ ?_
          refine cutK [0] ⟨46, [(1, .d (eL40 t1 a1)), (5, .own 0 2 0 x2_r0.length), (11, .d (eL40 t0 a0)), (12, .i (a0.length : Int)), (13, .i (IntKind.wrap .i64 (x2_13 + 1)))], [eR40 x2_r0]⟩ h0 ?_
          exact ih.1 (IntKind.wrap .i64 (x2_13 + 1)) x2_r0 H
  refine cutK [0] ⟨46, [(1, .d (eL40 t1 a1)), (5, .own 0 2 0 ([] : List api_Span).length), (11, .d (eL40 t0 a0)), (12, .i (a0.length : Int)), (13, .i 0)], [eR40 ([] : List api_Span)]⟩ h0 ?_
  obtain ⟨n, H⟩ := loopC H
  exact (L n).1 0 ([] : List api_Span) H


theorem span_limited.says (a0 : List api_Span) : Says Try.prog 43 [] [.d (eL40 true a0)] [] (.tup [.d (eL40 true ((span_limited a0).1)), .i ((span_limited a0).2)]) := by
  obtain ⟨r, H⟩ : ∃ r, span_limited a0 = r := ⟨_, rfl⟩
  rw [H]
  refine says_of Try.func43 rfl (nt := 8) rfl (Nat.le_of_ble_eq_true rfl) fun X hP h0 hX => ?_
  have hT : TabOk X.P T := hP ▸ tok
  have hf : X.P.funcs[43]? = some Try.f43 := hP ▸ Try.func43
  refine goK hT 12 (K43 110 1) ⟨8, [(0, .d (eL40 true a0)), (6, .b (decide ((a0.length : Int) > 64)))], []⟩ ?_
  by_cases c1 : (a0.length : Int) > 64
  · replace H := iT c1 H
    rw [decide_eq_true c1]
    refine goK hT 6 (K43 11010 1) ⟨8, [(2, .ns), (3, .i 2)], []⟩ ?_
    refine ak_sealS (av := .d (.v (.slice none 0 0))) (y := eL40 true ([] : List api_Span)) [2, 3] 2 (st' := ⟨8, [(2, .d (eL40 true ([] : List api_Span))), (3, .i 2)], []⟩) (by kernel_rfl) (.nil _) (by kernel_rfl) ?_
    obtain rfl := H
    exact ak_ret hf hX (av := .tup [.d (eL40 true ([] : List api_Span)), .i 2]) (by kernel_rfl) [] (sel_of_eq (by kernel_rfl)) (by decide) (by rw [h0]; rfl) (by kernel_rfl) (fun _ h => all_nil h) (.tup (.cons (.d (.sl fun _ _ => api_Span.nl _)) (.cons (.d (.v _)) .nil)))
  · replace H := iF c1 H
    rw [decide_eq_false c1]
    refine goK hT 2 (K43 11 1) ⟨8, [(0, .d (eL40 true a0))], []⟩ ?_
    refine goK hT 6 (K43 111 1) ⟨8, [(2, .d (eL40 true a0)), (3, .i 0)], []⟩ ?_
    obtain rfl := H
    exact ak_ret hf hX (av := .tup [.d (eL40 true a0), .i 0]) (by kernel_rfl) [] (sel_of_eq (by kernel_rfl)) (by decide) (by rw [h0]; rfl) (by kernel_rfl) (fun _ h => all_nil h) (.tup (.cons (.d (.sl fun _ _ => api_Span.nl _)) (.cons (.d (.v _)) .nil)))


theorem span_Less.says {t0 : Bool} {t1 : Bool} (a0 : List api_Span) (a1 : List api_Span) {r : (List api_Span) × Int} (H : span_Less a0 a1 = some r) : Says Try.prog 22 [] [.d (eL40 t0 a0), .d (eL40 t1 a1)] [] (.tup [.d (eL40 true r.1), .i r.2]) := by
  refine says_of Try.func22 rfl (nt := 21) rfl (Nat.le_of_ble_eq_true rfl) fun X hP h0 hX => ?_
  have hT : TabOk X.P T := hP ▸ tok
  have hf : X.P.funcs[22]? = some Try.f22 := hP ▸ Try.func22
  refine goK hT 9 (K22 1100 1) ⟨21, [(0, .d (eL40 t0 a0)), (1, .d (eL40 t1 a1)), (6, .d (eL40 t0 a0))], []⟩ ?_
  obtain ⟨v1, h1, H⟩ := ibC H
  have Jj1 : ∀ (y1_13 : Bool), (span_Less.j1 a0 a1 y1_13) = some r → AK X 22 ((K22 110 1)) (Back X [] (.tup [.d (eL40 true r.1), .i r.2])) ⟨21, [(0, .d (eL40 t0 a0)), (1, .d (eL40 t1 a1)), (13, .b y1_13)], []⟩ := by
    intro y1_13 H
    by_cases c4 : y1_13 = true
    · replace H := iT c4 H
      rw [c4]
      refine goK hT 6 (K22 11010 1) ⟨21, [(4, .ns), (5, .i 1)], []⟩ ?_
      refine ak_sealS (av := .d (.v (.slice none 0 0))) (y := eL40 true ([] : List api_Span)) [4, 5] 4 (st' := ⟨21, [(4, .d (eL40 true ([] : List api_Span))), (5, .i 1)], []⟩) (by kernel_rfl) (.nil _) (by kernel_rfl) ?_
      obtain rfl := retC H
      exact ak_ret hf hX (av := .tup [.d (eL40 true ([] : List api_Span)), .i 1]) (by kernel_rfl) [] (sel_of_eq (by kernel_rfl)) (by decide) (by rw [h0]; rfl) (by kernel_rfl) (fun _ h => all_nil h) (.tup (.cons (.d (.sl fun _ _ => api_Span.nl _)) (.cons (.d (.v _)) .nil)))
    · replace H := iF c4 H
      rw [boF c4]
      refine goK hT 2 (K22 11 1) ⟨21, [(0, .d (eL40 t0 a0)), (1, .d (eL40 t1 a1))], []⟩ ?_
      refine goK hT 4 (K22 1110 2) ⟨21, [(14, .d (eL40 t0 a0)), (15, .d (eL40 t1 a1))], []⟩ ?_
      obtain ⟨v3, h5, H⟩ := ibC H
      refine ak_callP (avs := [.d (eL40 t1 a1)]) (dst := some 16) (k' := (K22 1110 3)) [14, 16] [] hP enters_45 (span_beyond.says (t0 := t1) a1 h5) (by kernel_rfl) (hands_none _) (.cons (pass_d _) .nil) (st' := ⟨21, [(14, .d (eL40 t0 a0)), (16, .own 0 2 0 v3.length)], [eR40 v3]⟩) (by kernel_rfl) ?_
      obtain ⟨v4, h6, H⟩ := ibC H
      refine ak_callP (avs := [.d (eL40 t0 a0), .own 0 2 0 v3.length]) (dst := some 17) (k' := (K22 1110 4)) [17] [] hP enters_44 (span_both.says (t0 := t0) (t1 := false) a0 v3 h6) (by kernel_rfl) (hands_none _) (.cons (pass_d _) (.cons (.lend (ty := 40) (by kernel_rfl) rfl) .nil)) (st' := ⟨21, [(17, .own 1 2 0 v4.length)], [eR40 v3, eR40 v4]⟩) (by kernel_rfl) ?_
      refine ak_freeze 1 (kk := 2) (n := v4.length) (ty := 40) (g := vec api_Span.e api_Span.z v4) (by kernel_rfl) (st' := ⟨21, [(17, .own 1 2 0 v4.length)], [eR40 v3, eF40 v4]⟩) (by kernel_rfl) ?_
      refine ak_callP (avs := [.own 1 2 0 v4.length]) (dst := some 18) (k' := (K22 1110 5)) [18] [] hP enters_43 (span_limited.says v4) (by kernel_rfl) (hands_none _) (.cons (.lend (ty := 40) (by kernel_rfl) rfl) .nil) (st' := ⟨21, [(18, .tup [.d (eL40 true ((span_limited v4).1)), .i ((span_limited v4).2)])], [eR40 v3, eF40 v4]⟩) (by kernel_rfl) ?_
      obtain ⟨v5, h7, H⟩ := idC H
      rw [← h7]
      refine goK hT 5 (K22 111 1) ⟨21, [(4, .d (eL40 true v5.1)), (5, .i v5.2)], [eR40 v3, eF40 v4]⟩ ?_
      obtain rfl := retC H
      exact ak_ret hf hX (av := .tup [.d (eL40 true v5.1), .i v5.2]) (by kernel_rfl) [] (sel_of_eq (by kernel_rfl)) (by decide) (by rw [h0]; rfl) (by kernel_rfl) (fun _ h => all_nil h) (.tup (.cons (.d (.sl fun _ _ => api_Span.nl _)) (.cons (.d (.v _)) .nil)))
  refine ak_callP (avs := [.d (eL40 t0 a0)]) (dst := some 7) (k' := (K22 1100 2)) [0, 1, 7] [] hP enters_27 (span_Check.says (t0 := t0) a0 h1) (by kernel_rfl) (hands_none _) (.cons (pass_d _) .nil) (st' := ⟨21, [(0, .d (eL40 t0 a0)), (1, .d (eL40 t1 a1)), (7, .b v1)], []⟩) (by kernel_rfl) ?_
  refine goK hT 2 (K22 1100 4) ⟨21, [(0, .d (eL40 t0 a0)), (1, .d (eL40 t1 a1)), (9, .b (!v1))], []⟩ ?_
  by_cases c2 : v1 = true
  · replace H := iT c2 H
    rw [c2]
    refine goK hT 1 (K22 1100 5) ⟨21, [(0, .d (eL40 t0 a0)), (1, .d (eL40 t1 a1)), (9, .b false), (10, .d (eL40 t1 a1))], []⟩ ?_
    obtain ⟨v2, h3, H⟩ := ibC H
    refine ak_callP (avs := [.d (eL40 t1 a1)]) (dst := some 11) (k' := (K22 1100 6)) [0, 1, 9, 11] [] hP enters_27 (span_Check.says (t0 := t1) a1 h3) (by kernel_rfl) (hands_none _) (.cons (pass_d _) .nil) (st' := ⟨21, [(0, .d (eL40 t0 a0)), (1, .d (eL40 t1 a1)), (9, .b false), (11, .b v2)], []⟩) (by kernel_rfl) ?_
    refine goK hT 3 (K22 110 1) ⟨21, [(0, .d (eL40 t0 a0)), (1, .d (eL40 t1 a1)), (13, .b (!v2))], []⟩ ?_
    refine cutK [] ⟨21, [(0, .d (eL40 t0 a0)), (1, .d (eL40 t1 a1)), (13, .b (!v2))], []⟩ h0 ?_
    exact Jj1 (!v2) H
  · replace H := iF c2 H
    rw [boF c2]
    refine goK hT 5 (K22 110 1) ⟨21, [(0, .d (eL40 t0 a0)), (1, .d (eL40 t1 a1)), (13, .b true)], []⟩ ?_
    refine cutK [] ⟨21, [(0, .d (eL40 t0 a0)), (1, .d (eL40 t1 a1)), (13, .b true)], []⟩ h0 ?_
    exact Jj1 true H


theorem slices_Concat_api_Pair.says {t0 : Bool} (a0 : List (List api_Pair)) {r : List api_Pair} (H : slices_Concat_api_Pair a0 = some r) : Says Try.prog 46 [] [.d (eL29 t0 a0)] [eR65 r] (.own 0 2 0 r.length) := by
  refine says_of Try.func46 rfl (nt := 36) rfl (Nat.le_of_ble_eq_true rfl) fun X hP h0 hX => ?_
  have hT : TabOk X.P T := hP ▸ tok
  have hf : X.P.funcs[46]? = some Try.f46 := hP ▸ Try.func46
  refine goK hT 17 (K46 111010 0) ⟨36, [(0, .d (eL29 t0 a0)), (3, .i 0), (9, .d (eL29 t0 a0)), (10, .i (a0.length : Int)), (11, .i 0)], []⟩ ?_
  have L : ∀ n, (∀ (x1_3 : Int) (x1_11 : Int), iter (slices_Concat_api_Pair.step a0) n (.l1 x1_3 x1_11) = some r → AK X 46 ((K46 111010 0)) (Back X [eR65 r] (.own 0 2 0 r.length)) ⟨36, [(0, .d (eL29 t0 a0)), (3, .i x1_3), (9, .d (eL29 t0 a0)), (10, .i (a0.length : Int)), (11, .i x1_11)], []⟩) ∧ (∀ (x2_27 : Int) (x2_r0 : List api_Pair), iter (slices_Concat_api_Pair.step a0) n (.l2 x2_27 x2_r0) = some r → AK X 46 ((K46 11111010 0)) (Back X [eR65 r] (.own 0 2 0 r.length)) ⟨36, [(6, .own 0 2 0 x2_r0.length), (25, .d (eL29 t0 a0)), (26, .i (a0.length : Int)), (27, .i x2_27)], [eR65 x2_r0]⟩) := by
    intro n
    induction n with
    | zero => exact ⟨fun _ _ H => iter0 H, fun _ _ H => iter0 H⟩
    | succ n ih =>
      refine ⟨?_, ?_⟩
      · intro x1_3 x1_11 H
        refine goK hT 5 (K46 11101001 0) ⟨36, [(0, .d (eL29 t0 a0)), (3, .i x1_3), (9, .d (eL29 t0 a0)), (10, .i (a0.length : Int)), (11, .i x1_11), (12, .b (decide (x1_11 < (a0.length : Int))))], []⟩ ?_
        by_cases c1 : x1_11 < (a0.length : Int)
        · replace H := sT c1 H
          rw [decide_eq_true c1]
          refine goK hT 2 (K46 11101001 1) ⟨36, [(0, .d (eL29 t0 a0)), (3, .i x1_3), (9, .d (eL29 t0 a0)), (10, .i (a0.length : Int)), (11, .i x1_11)], []⟩ ?_
          refine goK hT 4 (K46 111010011000 0) ⟨36, [(0, .d (eL29 t0 a0)), (3, .i x1_3), (9, .d (eL29 t0 a0)), (10, .i (a0.length : Int)), (11, .i x1_11)], []⟩ ?_
          obtain ⟨h3, H⟩ := sC H
          refine ak_idx hT [0, 3, 9, 10, 11, 13] (i := x1_11) (n := (a0.length : Int)) h3.1 h3.2 (k' := (K46 111010011000 1)) (st' := ⟨36, [(0, .d (eL29 t0 a0)), (3, .i x1_3), (9, .d (eL29 t0 a0)), (10, .i (a0.length : Int)), (11, .i x1_11), (13, .d (eP29 t0 a0 x1_11.toNat 0))], []⟩) (by kernel_rfl) ?_
          refine goK hT 10 (K46 1110100110010 5) ⟨36, [(0, .d (eL29 t0 a0)), (3, .i (IntKind.wrap .i64 (x1_3 + ((a0.getD x1_11.toNat []).length : Int)))), (9, .d (eL29 t0 a0)), (10, .i (a0.length : Int)), (11, .i x1_11)], []⟩ ?_
          obtain ⟨v1, h4, H⟩ := sdC H
          rw [← h4]
          refine goK hT 6 (K46 1110100110011 1) ⟨36, [(0, .d (eL29 t0 a0)), (3, .i v1), (9, .d (eL29 t0 a0)), (10, .i (a0.length : Int)), (11, .i x1_11), (20, .b (decide (v1 < 0)))], []⟩ ?_
          by_cases c5 : v1 < 0
          · replace H := sT c5 H
            cases (show (none : Option _) = some _ from H)
          · replace H := sF c5 H
            rw [decide_eq_false c5]
            refine goK hT 3 (K46 111010011 1) ⟨36, [(0, .d (eL29 t0 a0)), (3, .i v1), (9, .d (eL29 t0 a0)), (10, .i (a0.length : Int)), (11, .i x1_11)], []⟩ ?_
            refine goK hT 5 (K46 111010 0) ⟨36, [(0, .d (eL29 t0 a0)), (3, .i v1), (9, .d (eL29 t0 a0)), (10, .i (a0.length : Int)), (11, .i (IntKind.wrap .i64 (x1_11 + 1)))], []⟩ ?_
            refine cutK [] ⟨36, [(0, .d (eL29 t0 a0)), (3, .i v1), (9, .d (eL29 t0 a0)), (10, .i (a0.length : Int)), (11, .i (IntKind.wrap .i64 (x1_11 + 1)))], []⟩ h0 ?_
            exact ih.1 v1 (IntKind.wrap .i64 (x1_11 + 1)) H
        · replace H := sF c1 H
          rw [decide_eq_false c1]
          refine goK hT 5 (K46 11110 1) ⟨36, [(0, .d (eL29 t0 a0)), (23, .i x1_3)], []⟩ ?_
          obtain ⟨h2, H⟩ := sC H
          refine ak_callP (avs := [.ns, .i x1_3]) (dst := some 24) (k' := (K46 11110 2)) [0, 24] [] hP enters_65 (grow65 x1_3 h2) (by kernel_rfl) (hands_none _) (.cons (pass_d _) (.cons (pass_d _) .nil)) (st' := ⟨36, [(0, .d (eL29 t0 a0)), (24, .own 0 2 0 (([] : List api_Pair).length))], [eR65 ([] : List api_Pair)]⟩) (by kernel_rfl) ?_
          refine goK hT 11 (K46 11111010 0) ⟨36, [(6, .own 0 2 0 (([] : List api_Pair).length)), (25, .d (eL29 t0 a0)), (26, .i (a0.length : Int)), (27, .i 0)], [eR65 ([] : List api_Pair)]⟩ ?_
          refine cutK [0] ⟨36, [(6, .own 0 2 0 ([] : List api_Pair).length), (25, .d (eL29 t0 a0)), (26, .i (a0.length : Int)), (27, .i 0)], [eR65 ([] : List api_Pair)]⟩ h0 ?_
          exact ih.2 0 ([] : List api_Pair) H
      · intro x2_27 x2_r0 H
        refine goK hT 5 (K46 1111101001 0) ⟨36, [(6, .own 0 2 0 x2_r0.length), (25, .d (eL29 t0 a0)), (26, .i (a0.length : Int)), (27, .i x2_27), (28, .b (decide (x2_27 < (a0.length : Int))))], [eR65 x2_r0]⟩ ?_
        by_cases c6 : x2_27 < (a0.length : Int)
        · replace H := sT c6 H
          rw [decide_eq_true c6]
          refine goK hT 2 (K46 1111101001 1) ⟨36, [(6, .own 0 2 0 x2_r0.length), (25, .d (eL29 t0 a0)), (26, .i (a0.length : Int)), (27, .i x2_27)], [eR65 x2_r0]⟩ ?_
          refine goK hT 4 (K46 11111010011000 0) ⟨36, [(6, .own 0 2 0 x2_r0.length), (25, .d (eL29 t0 a0)), (26, .i (a0.length : Int)), (27, .i x2_27)], [eR65 x2_r0]⟩ ?_
          obtain ⟨h7, H⟩ := sC H
          refine ak_idx hT [6, 25, 26, 27, 29] (i := x2_27) (n := (a0.length : Int)) h7.1 h7.2 (k' := (K46 11111010011000 1)) (st' := ⟨36, [(6, .own 0 2 0 x2_r0.length), (25, .d (eL29 t0 a0)), (26, .i (a0.length : Int)), (27, .i x2_27), (29, .d (eP29 t0 a0 x2_27.toNat 0))], [eR65 x2_r0]⟩) (by kernel_rfl) ?_
          refine goK hT 6 (K46 11111010011001 2) ⟨36, [(25, .d (eL29 t0 a0)), (26, .i (a0.length : Int)), (27, .i x2_27), (31, .own 0 2 0 x2_r0.length), (32, .d (eL65 true (a0.getD x2_27.toNat [])))], [eR65 x2_r0]⟩ ?_
          obtain ⟨h8, H⟩ := sC H
          refine ak_appendL (id := 0) (kk := 2) (by' := 16) (t := 29) (e := 65) (z := [.int .i64 0, .int .i64 0]) (dst := some 33) (k' := (K46 11111010011001 3)) (x := .d (eL65 true (a0.getD x2_27.toNat []))) hT api_Pair.e api_Pair.z x2_r0 (a0.getD x2_27.toNat []) [25, 26, 27, 33] (by kernel_rfl) (by kernel_rfl) (.sl fun _ _ => rfl) (by kernel_rfl) (by kernel_rfl) (by kernel_rfl) (by kernel_rfl) h8 (by omega) (st' := ⟨36, [(25, .d (eL29 t0 a0)), (26, .i (a0.length : Int)), (27, .i x2_27), (33, .own 1 2 0 ((x2_r0 ++ (a0.getD x2_27.toNat [])).length))], [.gone, eR65 (x2_r0 ++ (a0.getD x2_27.toNat []))]⟩) (by kernel_rfl) ?_
          refine goK hT 8 (K46 11111010 0) ⟨36, [(6, .own 1 2 0 ((x2_r0 ++ (a0.getD x2_27.toNat [])).length)), (25, .d (eL29 t0 a0)), (26, .i (a0.length : Int)), (27, .i (IntKind.wrap .i64 (x2_27 + 1)))], [.gone, eR65 (x2_r0 ++ (a0.getD x2_27.toNat []))]⟩ ?_
          refine cutK [1] ⟨36, [(6, .own 0 2 0 (x2_r0 ++ (a0.getD x2_27.toNat [])).length), (25, .d (eL29 t0 a0)), (26, .i (a0.length : Int)), (27, .i (IntKind.wrap .i64 (x2_27 + 1)))], [eR65 (x2_r0 ++ (a0.getD x2_27.toNat []))]⟩ h0 ?_
          exact ih.2 (IntKind.wrap .i64 (x2_27 + 1)) (x2_r0 ++ (a0.getD x2_27.toNat [])) H
        · replace H := sF c6 H
          rw [decide_eq_false c6]
          refine goK hT 7 (K46 111111 1) ⟨36, [(2, .own 0 2 0 x2_r0.length)], [eR65 x2_r0]⟩ ?_
          obtain rfl := retC H
          exact ak_ret hf hX (av := .own 0 2 0 x2_r0.length) (by kernel_rfl) [0] (sel_of_eq (by kernel_rfl)) (by decide) (by rw [h0]; rfl) (by kernel_rfl) (fun _ h => all_cons (nr_vec api_Pair.nl) (fun _ h => all_nil h) h) (.own _ _ _ _)
  refine cutK [] ⟨36, [(0, .d (eL29 t0 a0)), (3, .i 0), (9, .d (eL29 t0 a0)), (10, .i (a0.length : Int)), (11, .i 0)], []⟩ h0 ?_
  obtain ⟨n, H⟩ := loopC H
  exact (L n).1 0 0 H


theorem table_Join_1.says (a0 : api_Pair) (a1 : api_Pair) : Says Try.prog 48 [] [.d (eG65 a0), .d (eG65 a1)] [] (.i (table_Join_1 a0 a1)) := by
  obtain ⟨r, H⟩ : ∃ r, table_Join_1 a0 a1 = r := ⟨_, rfl⟩
  rw [H]
  refine says_of Try.func48 rfl (nt := 10) rfl (Nat.le_of_ble_eq_true rfl) fun X hP h0 hX => ?_
  have hT : TabOk X.P T := hP ▸ tok
  have hf : X.P.funcs[48]? = some Try.f48 := hP ▸ Try.func48
  refine goK hT 12 (K48 110 4) ⟨10, [(6, .i a0.Key), (8, .i a1.Key)], [.box 65 (eC65 a0), .box 65 (eC65 a1)]⟩ ?_
  refine ak_callP (avs := [.i a0.Key, .i a1.Key]) (dst := some 9) (k' := (K48 110 5)) [9] [] hP enters_49 (cmp_Compare_int.says a0.Key a1.Key) (by kernel_rfl) (hands_none _) (.cons (pass_d _) (.cons (pass_d _) .nil)) (st' := ⟨10, [(9, .i (cmp_Compare_int a0.Key a1.Key))], [.box 65 (eC65 a0), .box 65 (eC65 a1)]⟩) (by kernel_rfl) ?_
  refine goK hT 2 (K48 11 1) ⟨10, [(4, .i (cmp_Compare_int a0.Key a1.Key))], [.box 65 (eC65 a0), .box 65 (eC65 a1)]⟩ ?_
  obtain rfl := H
  exact ak_ret hf hX (av := .i (cmp_Compare_int a0.Key a1.Key)) (by kernel_rfl) [] (sel_of_eq (by kernel_rfl)) (by decide) (by rw [h0]; rfl) (by kernel_rfl) (fun _ h => all_nil h) (.d (.v _))


theorem table_Join.says (a0 : List api_Pair) (a1 : List api_Pair) {r : (List api_Pair) × Int} (H : table_Join a0 a1 = some r) : Says Try.prog 23 [] [.d (eL65 true a0), .d (eL65 true a1)] [eR65 r.1] (.tup [.own 0 2 0 r.1.length, .i r.2]) := by
  refine says_of Try.func23 rfl (nt := 25) rfl (Nat.le_of_ble_eq_true rfl) fun X hP h0 hX => ?_
  have hT : TabOk X.P T := hP ▸ tok
  have hf : X.P.funcs[23]? = some Try.f23 := hP ▸ Try.func23
  refine goK hT 9 (K23 1100 1) ⟨25, [(0, .d (eL65 true a0)), (1, .d (eL65 true a1)), (7, .d (eL65 true a0))], []⟩ ?_
  obtain ⟨v1, h1, H⟩ := ibC H
  have Jj1 : ∀ (y1_14 : Bool), (table_Join.j1 a0 a1 y1_14) = some r → AK X 23 ((K23 110 1)) (Back X [eR65 r.1] (.tup [.own 0 2 0 r.1.length, .i r.2])) ⟨25, [(0, .d (eL65 true a0)), (1, .d (eL65 true a1)), (14, .b y1_14)], []⟩ := by
    intro y1_14 H
    by_cases c4 : y1_14 = true
    · replace H := iT c4 H
      rw [c4]
      refine goK hT 6 (K23 11010 1) ⟨25, [(4, .ns), (5, .i 1)], []⟩ ?_
      refine ak_nilS [4, 5] 4 2 65 (vec api_Pair.e api_Pair.z []) (st' := ⟨25, [(4, .own 0 2 0 0), (5, .i 1)], [eR65 ([] : List api_Pair)]⟩) (by kernel_rfl) (by kernel_rfl) ?_
      obtain rfl := retC H
      exact ak_ret hf hX (av := .tup [.own 0 2 0 0, .i 1]) (by kernel_rfl) [0] (sel_of_eq (by kernel_rfl)) (by decide) (by rw [h0]; rfl) (by kernel_rfl) (fun _ h => all_cons (nr_vec api_Pair.nl) (fun _ h => all_nil h) h) (.tup (.cons (.own _ _ _ _) (.cons (.d (.v _)) .nil)))
    · replace H := iF c4 H
      rw [boF c4]
      refine goK hT 2 (K23 11 1) ⟨25, [(0, .d (eL65 true a0)), (1, .d (eL65 true a1))], []⟩ ?_
      refine goK hT 5 (K23 1110 3) ⟨25, [(17, .own 0 1 0 2)], [.flat false 1 29 2 (fun j => [[eL65 true a0], [eL65 true a1]].getD j [])]⟩ ?_
      refine ak_row 0 (kk := 1) (fz := false) (ty := 29) (n := ([a0, a1] : List (List api_Pair)).length) (vec (eL api_Pair.e api_Pair.z) [] ([a0, a1] : List (List api_Pair))) (by kernel_rfl) vec_lit (st' := ⟨25, [(17, .own 0 1 0 (([a0, a1] : List (List api_Pair)).length))], [eR29 ([a0, a1] : List (List api_Pair))]⟩) (by kernel_rfl) ?_
      obtain ⟨v3, h5, H⟩ := ibC H
      refine ak_callP (avs := [.own 0 1 0 (([a0, a1] : List (List api_Pair)).length)]) (dst := some 18) (k' := (K23 1110 4)) [18] [] hP enters_46 (slices_Concat_api_Pair.says (t0 := false) ([a0, a1] : List (List api_Pair)) h5) (by kernel_rfl) (hands_none _) (.cons (.lend (ty := 29) (by kernel_rfl) rfl) .nil) (st' := ⟨25, [(18, .own 1 2 0 v3.length)], [eR29 ([a0, a1] : List (List api_Pair)), eR65 v3]⟩) (by kernel_rfl) ?_
      refine goK hT 5 (K23 11110 1) ⟨25, [(6, .own 1 2 0 v3.length), (19, .own 1 2 0 v3.length)], [eR29 ([a0, a1] : List (List api_Pair)), eR65 v3]⟩ ?_
      obtain ⟨h6, H⟩ := iC H
      refine ak_callP (avs := [.own 1 2 0 v3.length, .d (.fn 48 [])]) (dst := some 20) (k' := (K23 11110 2)) [6] [1] hP enters_47 (sort47 enters_48 table_Join_1 swo_table_Join_1 (fun x y => table_Join_1.says x y) v3 h6) (by kernel_rfl) (hands_one rfl rfl) (.cons (.same (.own 0 2 0 v3.length)) (.cons (pass_d _) .nil)) (st' := ⟨25, [(6, .own 1 2 0 (v3.length))], [.flat false 1 29 ([a0, a1] : List (List api_Pair)).length (vec (eL api_Pair.e api_Pair.z) [] ([a0, a1] : List (List api_Pair))), .flat false 2 65 v3.length (vec api_Pair.e api_Pair.z (sortL api_Pair.z table_Join_1 v3))]⟩) (by kernel_rfl) ?_
      refine ak_eq (show v3.length = (sortL api_Pair.z table_Join_1 v3).length from (sortL_length _ swo_table_Join_1 _).symm) (fun nn => ⟨25, [(6, .own 1 2 0 (nn))], [.flat false 1 29 ([a0, a1] : List (List api_Pair)).length (vec (eL api_Pair.e api_Pair.z) [] ([a0, a1] : List (List api_Pair))), .flat false 2 65 nn (vec api_Pair.e api_Pair.z (sortL api_Pair.z table_Join_1 v3))]⟩) ?_
      refine goK hT 5 (K23 1111100 1) ⟨25, [(6, .own 1 2 0 ((sortL api_Pair.z table_Join_1 v3).length)), (21, .own 1 2 0 ((sortL api_Pair.z table_Join_1 v3).length))], [eR29 ([a0, a1] : List (List api_Pair)), eR65 (sortL api_Pair.z table_Join_1 v3)]⟩ ?_
      obtain ⟨v4, h7, H⟩ := ibC H
      refine ak_callP (avs := [.own 1 2 0 ((sortL api_Pair.z table_Join_1 v3).length)]) (dst := some 22) (k' := (K23 1111100 2)) [6, 22] [] hP enters_34 (table_Check.says (t0 := false) (sortL api_Pair.z table_Join_1 v3) h7) (by kernel_rfl) (hands_none _) (.cons (.lend (ty := 65) (by kernel_rfl) rfl) .nil) (st' := ⟨25, [(6, .own 1 2 0 ((sortL api_Pair.z table_Join_1 v3).length)), (22, .b v4)], [eR29 ([a0, a1] : List (List api_Pair)), eR65 (sortL api_Pair.z table_Join_1 v3)]⟩) (by kernel_rfl) ?_
      refine goK hT 2 (K23 111110 1) ⟨25, [(6, .own 1 2 0 ((sortL api_Pair.z table_Join_1 v3).length)), (23, .b (!v4))], [eR29 ([a0, a1] : List (List api_Pair)), eR65 (sortL api_Pair.z table_Join_1 v3)]⟩ ?_
      by_cases c8 : v4 = true
      · replace H := iT c8 H
        rw [c8]
        refine goK hT 2 (K23 11111 1) ⟨25, [(6, .own 1 2 0 ((sortL api_Pair.z table_Join_1 v3).length))], [eR29 ([a0, a1] : List (List api_Pair)), eR65 (sortL api_Pair.z table_Join_1 v3)]⟩ ?_
        refine goK hT 6 (K23 111111 1) ⟨25, [(4, .own 1 2 0 ((sortL api_Pair.z table_Join_1 v3).length)), (5, .i 0)], [eR29 ([a0, a1] : List (List api_Pair)), eR65 (sortL api_Pair.z table_Join_1 v3)]⟩ ?_
        obtain rfl := retC H
        exact ak_ret hf hX (av := .tup [.own 1 2 0 ((sortL api_Pair.z table_Join_1 v3).length), .i 0]) (by kernel_rfl) [1] (sel_of_eq (by kernel_rfl)) (by decide) (by rw [h0]; rfl) (by kernel_rfl) (fun _ h => all_cons (nr_vec api_Pair.nl) (fun _ h => all_nil h) h) (.tup (.cons (.own _ _ _ _) (.cons (.d (.v _)) .nil)))
      · replace H := iF c8 H
        rw [boF c8]
        refine goK hT 6 (K23 11111010 1) ⟨25, [(4, .ns), (5, .i 7)], [eR29 ([a0, a1] : List (List api_Pair)), eR65 (sortL api_Pair.z table_Join_1 v3)]⟩ ?_
        refine ak_nilS [4, 5] 4 2 65 (vec api_Pair.e api_Pair.z []) (st' := ⟨25, [(4, .own 2 2 0 0), (5, .i 7)], [eR29 ([a0, a1] : List (List api_Pair)), eR65 (sortL api_Pair.z table_Join_1 v3), eR65 ([] : List api_Pair)]⟩) (by kernel_rfl) (by kernel_rfl) ?_
        obtain rfl := retC H
        exact ak_ret hf hX (av := .tup [.own 2 2 0 0, .i 7]) (by kernel_rfl) [2] (sel_of_eq (by kernel_rfl)) (by decide) (by rw [h0]; rfl) (by kernel_rfl) (fun _ h => all_cons (nr_vec api_Pair.nl) (fun _ h => all_nil h) h) (.tup (.cons (.own _ _ _ _) (.cons (.d (.v _)) .nil)))
  refine ak_callP (avs := [.d (eL65 true a0)]) (dst := some 8) (k' := (K23 1100 2)) [0, 1, 8] [] hP enters_34 (table_Check.says (t0 := true) a0 h1) (by kernel_rfl) (hands_none _) (.cons (pass_d _) .nil) (st' := ⟨25, [(0, .d (eL65 true a0)), (1, .d (eL65 true a1)), (8, .b v1)], []⟩) (by kernel_rfl) ?_
  refine goK hT 2 (K23 1100 4) ⟨25, [(0, .d (eL65 true a0)), (1, .d (eL65 true a1)), (10, .b (!v1))], []⟩ ?_
  by_cases c2 : v1 = true
  · replace H := iT c2 H
    rw [c2]
    refine goK hT 1 (K23 1100 5) ⟨25, [(0, .d (eL65 true a0)), (1, .d (eL65 true a1)), (10, .b false), (11, .d (eL65 true a1))], []⟩ ?_
    obtain ⟨v2, h3, H⟩ := ibC H
    refine ak_callP (avs := [.d (eL65 true a1)]) (dst := some 12) (k' := (K23 1100 6)) [0, 1, 10, 12] [] hP enters_34 (table_Check.says (t0 := true) a1 h3) (by kernel_rfl) (hands_none _) (.cons (pass_d _) .nil) (st' := ⟨25, [(0, .d (eL65 true a0)), (1, .d (eL65 true a1)), (10, .b false), (12, .b v2)], []⟩) (by kernel_rfl) ?_
    refine goK hT 3 (K23 110 1) ⟨25, [(0, .d (eL65 true a0)), (1, .d (eL65 true a1)), (14, .b (!v2))], []⟩ ?_
    refine cutK [] ⟨25, [(0, .d (eL65 true a0)), (1, .d (eL65 true a1)), (14, .b (!v2))], []⟩ h0 ?_
    exact Jj1 (!v2) H
  · replace H := iF c2 H
    rw [boF c2]
    refine goK hT 5 (K23 110 1) ⟨25, [(0, .d (eL65 true a0)), (1, .d (eL65 true a1)), (14, .b true)], []⟩ ?_
    refine cutK [] ⟨25, [(0, .d (eL65 true a0)), (1, .d (eL65 true a1)), (14, .b true)], []⟩ h0 ?_
    exact Jj1 true H


theorem table_Clip.says {t0 : Bool} {t1 : Bool} (a0 : List api_Pair) (a1 : List api_Span) {r : List api_Pair} (H : table_Clip a0 a1 = some r) : Says Try.prog 24 [] [.d (eL65 t0 a0), .d (eL40 t1 a1)] [eR65 r] (.own 0 2 0 r.length) := by
  refine says_of Try.func24 rfl (nt := 32) rfl (Nat.le_of_ble_eq_true rfl) fun X hP h0 hX => ?_
  have hT : TabOk X.P T := hP ▸ tok
  have hf : X.P.funcs[24]? = some Try.f24 := hP ▸ Try.func24
  refine goK hT 8 (K24 1100 1) ⟨32, [(0, .d (eL65 t0 a0)), (1, .d (eL40 t1 a1)), (8, .d (eL65 t0 a0))], []⟩ ?_
  obtain ⟨v1, h1, H⟩ := ibC H
  have Jj1 : ∀ (y1_15 : Bool), (table_Clip.j1 a0 a1 y1_15) = some r → AK X 24 ((K24 110 1)) (Back X [eR65 r] (.own 0 2 0 r.length)) ⟨32, [(0, .d (eL65 t0 a0)), (1, .d (eL40 t1 a1)), (15, .b y1_15)], []⟩ := by
    intro y1_15 H
    by_cases c4 : y1_15 = true
    · replace H := iT c4 H
      rw [c4]
      refine goK hT 5 (K24 11010 1) ⟨32, [(4, .ns)], []⟩ ?_
      refine ak_nilS [4] 4 2 65 (vec api_Pair.e api_Pair.z []) (st' := ⟨32, [(4, .own 0 2 0 0)], [eR65 ([] : List api_Pair)]⟩) (by kernel_rfl) (by kernel_rfl) ?_
      obtain rfl := retC H
      exact ak_ret hf hX (av := .own 0 2 0 0) (by kernel_rfl) [0] (sel_of_eq (by kernel_rfl)) (by decide) (by rw [h0]; rfl) (by kernel_rfl) (fun _ h => all_cons (nr_vec api_Pair.nl) (fun _ h => all_nil h) h) (.own _ _ _ _)
    · replace H := iF c4 H
      rw [boF c4]
      refine goK hT 2 (K24 11 1) ⟨32, [(0, .d (eL65 t0 a0)), (1, .d (eL40 t1 a1))], []⟩ ?_
      refine goK hT 13 (K24 1111010 0) ⟨32, [(1, .d (eL40 t1 a1)), (5, .ns), (16, .d (eL65 t0 a0)), (17, .i (a0.length : Int)), (18, .i 0)], []⟩ ?_
      refine ak_nilS [1, 5, 16, 17, 18] 5 2 65 (vec api_Pair.e api_Pair.z []) (st' := ⟨32, [(1, .d (eL40 t1 a1)), (5, .own 0 2 0 0), (16, .d (eL65 t0 a0)), (17, .i (a0.length : Int)), (18, .i 0)], [eR65 ([] : List api_Pair)]⟩) (by kernel_rfl) (by kernel_rfl) ?_
      have L : ∀ n, (∀ (x1_18 : Int) (x1_r0 : List api_Pair), iter (table_Clip.step a0 a1) n (.l1 x1_18 x1_r0) = some r → AK X 24 ((K24 1111010 0)) (Back X [eR65 r] (.own 0 2 0 r.length)) ⟨32, [(1, .d (eL40 t1 a1)), (5, .own 0 2 0 x1_r0.length), (16, .d (eL65 t0 a0)), (17, .i (a0.length : Int)), (18, .i x1_18)], [eR65 x1_r0]⟩) := by
        intro n
        induction n with
        | zero => exact fun _ _ H => iter0 H
        | succ n ih =>
          · intro x1_18 x1_r0 H
            refine goK hT 5 (K24 111101001 0) ⟨32, [(1, .d (eL40 t1 a1)), (5, .own 0 2 0 x1_r0.length), (16, .d (eL65 t0 a0)), (17, .i (a0.length : Int)), (18, .i x1_18), (19, .b (decide (x1_18 < (a0.length : Int))))], [eR65 x1_r0]⟩ ?_
            by_cases c5 : x1_18 < (a0.length : Int)
            · replace H := sT c5 H
              rw [decide_eq_true c5]
              refine goK hT 2 (K24 111101001 1) ⟨32, [(1, .d (eL40 t1 a1)), (5, .own 0 2 0 x1_r0.length), (16, .d (eL65 t0 a0)), (17, .i (a0.length : Int)), (18, .i x1_18)], [eR65 x1_r0]⟩ ?_
              refine goK hT 4 (K24 1111010011000 0) ⟨32, [(1, .d (eL40 t1 a1)), (5, .own 0 2 0 x1_r0.length), (16, .d (eL65 t0 a0)), (17, .i (a0.length : Int)), (18, .i x1_18)], [eR65 x1_r0]⟩ ?_
              obtain ⟨h6, H⟩ := sC H
              refine ak_idx hT [1, 5, 16, 17, 18, 20] (i := x1_18) (n := (a0.length : Int)) h6.1 h6.2 (k' := (K24 1111010011000 1)) (st' := ⟨32, [(1, .d (eL40 t1 a1)), (5, .own 0 2 0 x1_r0.length), (16, .d (eL65 t0 a0)), (17, .i (a0.length : Int)), (18, .i x1_18), (20, .d (eP65 t0 a0 x1_18.toNat 0))], [eR65 x1_r0]⟩) (by kernel_rfl) ?_
              refine goK hT 9 (K24 11110100110010 3) ⟨32, [(1, .d (eL40 t1 a1)), (5, .own 0 2 0 x1_r0.length), (7, .ptr 1 0 0 0), (16, .d (eL65 t0 a0)), (17, .i (a0.length : Int)), (18, .i x1_18), (22, .d (eL40 t1 a1)), (24, .i ((a0.getD x1_18.toNat api_Pair.z).Key))], [eR65 x1_r0, .box 65 (eC65 (a0.getD x1_18.toNat api_Pair.z))]⟩ ?_
              obtain ⟨v3, h7, H⟩ := sbC H
              have Jj2 : ∀ (y2_r0 : List api_Pair), stk (table_Clip.j2 x1_18 y2_r0) (iter (table_Clip.step a0 a1) n) = some r → AK X 24 ((K24 1111010011 1)) (Back X [eR65 r] (.own 0 2 0 r.length)) ⟨32, [(1, .d (eL40 t1 a1)), (5, .own 0 2 0 y2_r0.length), (16, .d (eL65 t0 a0)), (17, .i (a0.length : Int)), (18, .i x1_18)], [eR65 y2_r0]⟩ := by
                intro y2_r0 H
                refine goK hT 5 (K24 1111010 0) ⟨32, [(1, .d (eL40 t1 a1)), (5, .own 0 2 0 y2_r0.length), (16, .d (eL65 t0 a0)), (17, .i (a0.length : Int)), (18, .i (IntKind.wrap .i64 (x1_18 + 1)))], [eR65 y2_r0]⟩ ?_
                refine cutK [0] ⟨32, [(1, .d (eL40 t1 a1)), (5, .own 0 2 0 y2_r0.length), (16, .d (eL65 t0 a0)), (17, .i (a0.length : Int)), (18, .i (IntKind.wrap .i64 (x1_18 + 1)))], [eR65 y2_r0]⟩ h0 ?_
                exact ih (IntKind.wrap .i64 (x1_18 + 1)) y2_r0 H
              refine ak_callP (avs := [.d (eL40 t1 a1), .i ((a0.getD x1_18.toNat api_Pair.z).Key)]) (dst := some 25) (k' := (K24 11110100110010 4)) [1, 5, 7, 16, 17, 18, 25] [] hP enters_50 (span_Has.says (t0 := t1) a1 ((a0.getD x1_18.toNat api_Pair.z).Key) h7) (by kernel_rfl) (hands_none _) (.cons (pass_d _) (.cons (pass_d _) .nil)) (st' := ⟨32, [(1, .d (eL40 t1 a1)), (5, .own 0 2 0 x1_r0.length), (7, .ptr 1 0 0 0), (16, .d (eL65 t0 a0)), (17, .i (a0.length : Int)), (18, .i x1_18), (25, .b v3)], [eR65 x1_r0, .box 65 (eC65 (a0.getD x1_18.toNat api_Pair.z))]⟩) (by kernel_rfl) ?_
              refine goK hT 1 (K24 1111010011001 1) ⟨32, [(1, .d (eL40 t1 a1)), (5, .own 0 2 0 x1_r0.length), (7, .ptr 1 0 0 0), (16, .d (eL65 t0 a0)), (17, .i (a0.length : Int)), (18, .i x1_18), (25, .b v3)], [eR65 x1_r0, .box 65 (eC65 (a0.getD x1_18.toNat api_Pair.z))]⟩ ?_
              by_cases c8 : v3 = true
              · replace H := sT c8 H
                rw [c8]
                refine goK hT 5 (K24 111101001100110 3) ⟨32, [(1, .d (eL40 t1 a1)), (16, .d (eL65 t0 a0)), (17, .i (a0.length : Int)), (18, .i x1_18), (26, .own 0 2 0 x1_r0.length), (28, .own 2 2 0 1)], [eR65 x1_r0, .box 65 (eC65 (a0.getD x1_18.toNat api_Pair.z)), .flat false 2 65 1 (fun j => [api_Pair.e (a0.getD x1_18.toNat api_Pair.z)].getD j [])]⟩ ?_
                obtain ⟨h9, H⟩ := sC H
                refine ak_append1 (id := 0) (kk := 2) (by' := 16) (t := 29) (e := 65) (z := [.int .i64 0, .int .i64 0]) (dst := some 29) (id2 := 2) (e2 := 65) (fz := false) (k' := (K24 111101001100110 4)) hT api_Pair.e api_Pair.z x1_r0 (a0.getD x1_18.toNat api_Pair.z) [1, 16, 17, 18, 29] (by kernel_rfl) (by kernel_rfl) (by kernel_rfl) (by kernel_rfl) (by kernel_rfl) (by kernel_rfl) (by kernel_rfl) h9 (by omega) (st' := ⟨32, [(1, .d (eL40 t1 a1)), (16, .d (eL65 t0 a0)), (17, .i (a0.length : Int)), (18, .i x1_18), (29, .own 3 2 0 ((x1_r0 ++ [(a0.getD x1_18.toNat api_Pair.z)]).length))], [.gone, .box 65 (eC65 (a0.getD x1_18.toNat api_Pair.z)), .flat false 2 65 1 (fun j => [api_Pair.e (a0.getD x1_18.toNat api_Pair.z)].getD j []), eR65 (x1_r0 ++ [(a0.getD x1_18.toNat api_Pair.z)])]⟩) (by kernel_rfl) ?_
                refine goK hT 3 (K24 1111010011 1) ⟨32, [(1, .d (eL40 t1 a1)), (5, .own 3 2 0 ((x1_r0 ++ [(a0.getD x1_18.toNat api_Pair.z)]).length)), (16, .d (eL65 t0 a0)), (17, .i (a0.length : Int)), (18, .i x1_18)], [.gone, .box 65 (eC65 (a0.getD x1_18.toNat api_Pair.z)), .flat false 2 65 1 (fun j => [api_Pair.e (a0.getD x1_18.toNat api_Pair.z)].getD j []), eR65 (x1_r0 ++ [(a0.getD x1_18.toNat api_Pair.z)])]⟩ ?_
                refine cutK [3] ⟨32, [(1, .d (eL40 t1 a1)), (5, .own 0 2 0 (x1_r0 ++ [(a0.getD x1_18.toNat api_Pair.z)]).length), (16, .d (eL65 t0 a0)), (17, .i (a0.length : Int)), (18, .i x1_18)], [eR65 (x1_r0 ++ [(a0.getD x1_18.toNat api_Pair.z)])]⟩ h0 ?_
                exact Jj2 (x1_r0 ++ [(a0.getD x1_18.toNat api_Pair.z)]) H
              · replace H := sF c8 H
                rw [boF c8]
                refine goK hT 3 (K24 1111010011 1) ⟨32, [(1, .d (eL40 t1 a1)), (5, .own 0 2 0 x1_r0.length), (16, .d (eL65 t0 a0)), (17, .i (a0.length : Int)), (18, .i x1_18)], [eR65 x1_r0, .box 65 (eC65 (a0.getD x1_18.toNat api_Pair.z))]⟩ ?_
                refine cutK [0] ⟨32, [(1, .d (eL40 t1 a1)), (5, .own 0 2 0 x1_r0.length), (16, .d (eL65 t0 a0)), (17, .i (a0.length : Int)), (18, .i x1_18)], [eR65 x1_r0]⟩ h0 ?_
                exact Jj2 x1_r0 H
            · replace H := sF c5 H
              rw [decide_eq_false c5]
              refine goK hT 7 (K24 11111 1) ⟨32, [(4, .own 0 2 0 x1_r0.length)], [eR65 x1_r0]⟩ ?_
              obtain rfl := retC H
              exact ak_ret hf hX (av := .own 0 2 0 x1_r0.length) (by kernel_rfl) [0] (sel_of_eq (by kernel_rfl)) (by decide) (by rw [h0]; rfl) (by kernel_rfl) (fun _ h => all_cons (nr_vec api_Pair.nl) (fun _ h => all_nil h) h) (.own _ _ _ _)
      refine cutK [0] ⟨32, [(1, .d (eL40 t1 a1)), (5, .own 0 2 0 ([] : List api_Pair).length), (16, .d (eL65 t0 a0)), (17, .i (a0.length : Int)), (18, .i 0)], [eR65 ([] : List api_Pair)]⟩ h0 ?_
      obtain ⟨n, H⟩ := loopC H
      exact (L n) 0 ([] : List api_Pair) H
  refine ak_callP (avs := [.d (eL65 t0 a0)]) (dst := some 9) (k' := (K24 1100 2)) [0, 1, 9] [] hP enters_34 (table_Check.says (t0 := t0) a0 h1) (by kernel_rfl) (hands_none _) (.cons (pass_d _) .nil) (st' := ⟨32, [(0, .d (eL65 t0 a0)), (1, .d (eL40 t1 a1)), (9, .b v1)], []⟩) (by kernel_rfl) ?_
  refine goK hT 2 (K24 1100 4) ⟨32, [(0, .d (eL65 t0 a0)), (1, .d (eL40 t1 a1)), (11, .b (!v1))], []⟩ ?_
  by_cases c2 : v1 = true
  · replace H := iT c2 H
    rw [c2]
    refine goK hT 1 (K24 1100 5) ⟨32, [(0, .d (eL65 t0 a0)), (1, .d (eL40 t1 a1)), (11, .b false), (12, .d (eL40 t1 a1))], []⟩ ?_
    obtain ⟨v2, h3, H⟩ := ibC H
    refine ak_callP (avs := [.d (eL40 t1 a1)]) (dst := some 13) (k' := (K24 1100 6)) [0, 1, 11, 13] [] hP enters_27 (span_Check.says (t0 := t1) a1 h3) (by kernel_rfl) (hands_none _) (.cons (pass_d _) .nil) (st' := ⟨32, [(0, .d (eL65 t0 a0)), (1, .d (eL40 t1 a1)), (11, .b false), (13, .b v2)], []⟩) (by kernel_rfl) ?_
    refine goK hT 3 (K24 110 1) ⟨32, [(0, .d (eL65 t0 a0)), (1, .d (eL40 t1 a1)), (15, .b (!v2))], []⟩ ?_
    refine cutK [] ⟨32, [(0, .d (eL65 t0 a0)), (1, .d (eL40 t1 a1)), (15, .b (!v2))], []⟩ h0 ?_
    exact Jj1 (!v2) H
  · replace H := iF c2 H
    rw [boF c2]
    refine goK hT 5 (K24 110 1) ⟨32, [(0, .d (eL65 t0 a0)), (1, .d (eL40 t1 a1)), (15, .b true)], []⟩ ?_
    refine cutK [] ⟨32, [(0, .d (eL65 t0 a0)), (1, .d (eL40 t1 a1)), (15, .b true)], []⟩ h0 ?_
    exact Jj1 true H


theorem splicelaw15_JudgeParts.says {t0 : Bool} (a0 : List api_Entry) (a1 : List api_Span) (a2 : Int) {r : Bool} (H : splicelaw15_JudgeParts a0 a1 a2 = some r) : Says Try.prog 7 [] [.d (eL54 t0 a0), .d (eL40 true a1), .i a2] [] (.b r) := by
  refine says_of Try.func7 rfl (nt := 104) rfl (Nat.le_of_ble_eq_true rfl) fun X hP h0 hX => ?_
  have hT : TabOk X.P T := hP ▸ tok
  have hf : X.P.funcs[7]? = some Try.f7 := hP ▸ Try.func7
  refine goK hT 14 (K7 1110 2) ⟨104, [(0, .d (eL54 t0 a0)), (1, .d (eL40 true a1)), (2, .i a2), (7, .own 0 2 0 1), (19, .own 0 2 0 1), (20, .d (eL40 true a1))], [.flat false 2 40 1 (fun j => [[.i 0, .i 4096]].getD j [])]⟩ ?_
  refine ak_row 0 (kk := 2) (fz := false) (ty := 40) (n := ([(⟨0, 4096⟩ : api_Span)] : List api_Span).length) (vec api_Span.e api_Span.z ([(⟨0, 4096⟩ : api_Span)] : List api_Span)) (by kernel_rfl) vec_lit (st' := ⟨104, [(0, .d (eL54 t0 a0)), (1, .d (eL40 true a1)), (2, .i a2), (7, .own 0 2 0 (([(⟨0, 4096⟩ : api_Span)] : List api_Span).length)), (19, .own 0 2 0 (([(⟨0, 4096⟩ : api_Span)] : List api_Span).length)), (20, .d (eL40 true a1))], [eR40 ([(⟨0, 4096⟩ : api_Span)] : List api_Span)]⟩) (by kernel_rfl) ?_
  obtain ⟨v1, h1, H⟩ := ibC H
  refine ak_callP (avs := [.own 0 2 0 (([(⟨0, 4096⟩ : api_Span)] : List api_Span).length), .d (eL40 true a1)]) (dst := some 21) (k' := (K7 1110 3)) [0, 1, 2, 7, 21] [] hP enters_22 (span_Less.says (t0 := false) (t1 := true) ([(⟨0, 4096⟩ : api_Span)] : List api_Span) a1 h1) (by kernel_rfl) (hands_none _) (.cons (.lend (ty := 40) (by kernel_rfl) rfl) (.cons (pass_d _) .nil)) (st' := ⟨104, [(0, .d (eL54 t0 a0)), (1, .d (eL40 true a1)), (2, .i a2), (7, .own 0 2 0 (([(⟨0, 4096⟩ : api_Span)] : List api_Span).length)), (21, .tup [.d (eL40 true v1.1), .i v1.2])], [eR40 ([(⟨0, 4096⟩ : api_Span)] : List api_Span)]⟩) (by kernel_rfl) ?_
  refine goK hT 10 (K7 111100 1) ⟨104, [(0, .d (eL54 t0 a0)), (1, .d (eL40 true a1)), (2, .i a2), (7, .own 0 2 0 (([(⟨0, 4096⟩ : api_Span)] : List api_Span).length)), (8, .d (eL40 true v1.1)), (9, .i v1.2), (24, .d (eL54 t0 a0))], [eR40 ([(⟨0, 4096⟩ : api_Span)] : List api_Span)]⟩ ?_
  obtain ⟨v2, h2, H⟩ := ibC H
  have Jj1 : ∀ (y1_35 : Bool), (splicelaw15_JudgeParts.j1 a0 a1 a2 v1 y1_35) = some r → AK X 7 ((K7 11110 1)) (Back X [] (.b r)) ⟨104, [(0, .d (eL54 t0 a0)), (1, .d (eL40 true a1)), (2, .i a2), (7, .own 0 2 0 (([(⟨0, 4096⟩ : api_Span)] : List api_Span).length)), (8, .d (eL40 true v1.1)), (35, .b y1_35)], [eR40 ([(⟨0, 4096⟩ : api_Span)] : List api_Span)]⟩ := by
    intro y1_35 H
    by_cases c5 : y1_35 = true
    · replace H := iT c5 H
      rw [c5]
      refine goK hT 3 (K7 11110100 0) ⟨104, [], [eR40 ([(⟨0, 4096⟩ : api_Span)] : List api_Span)]⟩ ?_
      obtain ⟨v3, h6, H⟩ := ibC H
      refine ak_callP (avs := []) (dst := some 36) (k' := (K7 11110100 1)) [36] [] hP enters_9 (splicelaw15_awake.says h6) (by kernel_rfl) (hands_none _) .nil (st' := ⟨104, [(36, .b v3)], [eR40 ([(⟨0, 4096⟩ : api_Span)] : List api_Span)]⟩) (by kernel_rfl) ?_
      refine goK hT 2 (K7 1111010 1) ⟨104, [(6, .b v3)], [eR40 ([(⟨0, 4096⟩ : api_Span)] : List api_Span)]⟩ ?_
      obtain rfl := retC H
      exact ak_ret hf hX (av := .b v3) (by kernel_rfl) [] (sel_of_eq (by kernel_rfl)) (by decide) (by rw [h0]; rfl) (by kernel_rfl) (fun _ h => all_nil h) (.d (.v _))
    · replace H := iF c5 H
      rw [boF c5]
      refine goK hT 2 (K7 1111 1) ⟨104, [(0, .d (eL54 t0 a0)), (1, .d (eL40 true a1)), (2, .i a2), (7, .own 0 2 0 (([(⟨0, 4096⟩ : api_Span)] : List api_Span).length)), (8, .d (eL40 true v1.1))], [eR40 ([(⟨0, 4096⟩ : api_Span)] : List api_Span)]⟩ ?_
      refine goK hT 7 (K7 11111010 0) ⟨104, [(0, .d (eL54 t0 a0)), (1, .d (eL40 true a1)), (2, .i a2), (7, .own 0 2 0 (([(⟨0, 4096⟩ : api_Span)] : List api_Span).length)), (8, .d (eL40 true v1.1)), (10, .i 0)], [eR40 ([(⟨0, 4096⟩ : api_Span)] : List api_Span)]⟩ ?_
      have L : ∀ n, (∀ (x1_10 : Int), iter (splicelaw15_JudgeParts.step a0 a1 a2 v1) n (.l1 x1_10) = some r → AK X 7 ((K7 11111010 0)) (Back X [] (.b r)) ⟨104, [(0, .d (eL54 t0 a0)), (1, .d (eL40 true a1)), (2, .i a2), (7, .own 0 2 0 (([(⟨0, 4096⟩ : api_Span)] : List api_Span).length)), (8, .d (eL40 true v1.1)), (10, .i x1_10)], [eR40 ([(⟨0, 4096⟩ : api_Span)] : List api_Span)]⟩) := by
        intro n
        induction n with
        | zero => exact fun _ H => iter0 H
        | succ n ih =>
          · intro x1_10 H
            refine goK hT 8 (K7 1111101000 1) ⟨104, [(0, .d (eL54 t0 a0)), (1, .d (eL40 true a1)), (2, .i a2), (7, .own 0 2 0 (([(⟨0, 4096⟩ : api_Span)] : List api_Span).length)), (8, .d (eL40 true v1.1)), (10, .i x1_10), (40, .b (decide (x1_10 < (a0.length : Int))))], [eR40 ([(⟨0, 4096⟩ : api_Span)] : List api_Span)]⟩ ?_
            by_cases c7 : x1_10 < (a0.length : Int)
            · replace H := sT c7 H
              rw [decide_eq_true c7]
              refine goK hT 2 (K7 111110100 1) ⟨104, [(0, .d (eL54 t0 a0)), (1, .d (eL40 true a1)), (2, .i a2), (7, .own 0 2 0 (([(⟨0, 4096⟩ : api_Span)] : List api_Span).length)), (8, .d (eL40 true v1.1)), (10, .i x1_10)], [eR40 ([(⟨0, 4096⟩ : api_Span)] : List api_Span)]⟩ ?_
              refine goK hT 6 (K7 1111101001000 2) ⟨104, [(0, .d (eL54 t0 a0)), (1, .d (eL40 true a1)), (2, .i a2), (7, .own 0 2 0 (([(⟨0, 4096⟩ : api_Span)] : List api_Span).length)), (8, .d (eL40 true v1.1)), (10, .i x1_10), (43, .d (eL54 t0 a0)), (44, .i x1_10)], [eR40 ([(⟨0, 4096⟩ : api_Span)] : List api_Span)]⟩ ?_
              obtain ⟨h26, H⟩ := sC H
              refine ak_idx hT [0, 1, 2, 7, 8, 10, 45] (i := x1_10) (n := (a0.length : Int)) h26.1 h26.2 (k' := (K7 1111101001000 3)) (st' := ⟨104, [(0, .d (eL54 t0 a0)), (1, .d (eL40 true a1)), (2, .i a2), (7, .own 0 2 0 (([(⟨0, 4096⟩ : api_Span)] : List api_Span).length)), (8, .d (eL40 true v1.1)), (10, .i x1_10), (45, .d (eP54 t0 a0 x1_10.toNat 0))], [eR40 ([(⟨0, 4096⟩ : api_Span)] : List api_Span)]⟩) (by kernel_rfl) ?_
              refine goK hT 2 (K7 1111101001000 5) ⟨104, [(0, .d (eL54 t0 a0)), (1, .d (eL40 true a1)), (2, .i a2), (7, .own 0 2 0 (([(⟨0, 4096⟩ : api_Span)] : List api_Span).length)), (8, .d (eL40 true v1.1)), (10, .i x1_10), (47, .d (eG42 ((a0.getD x1_10.toNat api_Entry.z).M)))], [eR40 ([(⟨0, 4096⟩ : api_Span)] : List api_Span)]⟩ ?_
              obtain ⟨v18, h27, H⟩ := sbC H
              refine ak_callP (avs := [.d (eG42 ((a0.getD x1_10.toNat api_Entry.z).M))]) (dst := some 48) (k' := (K7 1111101001000 6)) [0, 1, 2, 7, 8, 10, 48] [] hP enters_16 (splicelaw04_Ref.says ((a0.getD x1_10.toNat api_Entry.z).M) h27) (by kernel_rfl) (hands_none _) (.cons (pass_d _) .nil) (st' := ⟨104, [(0, .d (eL54 t0 a0)), (1, .d (eL40 true a1)), (2, .i a2), (7, .own 0 2 0 (([(⟨0, 4096⟩ : api_Span)] : List api_Span).length)), (8, .d (eL40 true v1.1)), (10, .i x1_10), (48, .d (eG45 v18))], [eR40 ([(⟨0, 4096⟩ : api_Span)] : List api_Span)]⟩) (by kernel_rfl) ?_
              obtain ⟨v19, h28, H⟩ := sbC H
              refine ak_callP (avs := [.d (eG45 v18)]) (dst := some 49) (k' := (K7 1111101001000 7)) [0, 1, 2, 7, 8, 10, 49] [] hP enters_21 (spliceref04_Check.says v18 h28) (by kernel_rfl) (hands_none _) (.cons (pass_d _) .nil) (st' := ⟨104, [(0, .d (eL54 t0 a0)), (1, .d (eL40 true a1)), (2, .i a2), (7, .own 0 2 0 (([(⟨0, 4096⟩ : api_Span)] : List api_Span).length)), (8, .d (eL40 true v1.1)), (10, .i x1_10), (49, .b v19)], [eR40 ([(⟨0, 4096⟩ : api_Span)] : List api_Span)]⟩) (by kernel_rfl) ?_
              refine goK hT 2 (K7 111110100100 1) ⟨104, [(0, .d (eL54 t0 a0)), (1, .d (eL40 true a1)), (2, .i a2), (7, .own 0 2 0 (([(⟨0, 4096⟩ : api_Span)] : List api_Span).length)), (8, .d (eL40 true v1.1)), (10, .i x1_10), (50, .b (!v19))], [eR40 ([(⟨0, 4096⟩ : api_Span)] : List api_Span)]⟩ ?_
              by_cases c29 : v19 = true
              · replace H := sT c29 H
                rw [c29]
                refine goK hT 3 (K7 1111101001 1) ⟨104, [(0, .d (eL54 t0 a0)), (1, .d (eL40 true a1)), (2, .i a2), (7, .own 0 2 0 (([(⟨0, 4096⟩ : api_Span)] : List api_Span).length)), (8, .d (eL40 true v1.1)), (10, .i x1_10)], [eR40 ([(⟨0, 4096⟩ : api_Span)] : List api_Span)]⟩ ?_
                refine goK hT 6 (K7 11111010 0) ⟨104, [(0, .d (eL54 t0 a0)), (1, .d (eL40 true a1)), (2, .i a2), (7, .own 0 2 0 (([(⟨0, 4096⟩ : api_Span)] : List api_Span).length)), (8, .d (eL40 true v1.1)), (10, .i (IntKind.wrap .i64 (x1_10 + 1)))], [eR40 ([(⟨0, 4096⟩ : api_Span)] : List api_Span)]⟩ ?_
                refine cutK [0] ⟨104, [(0, .d (eL54 t0 a0)), (1, .d (eL40 true a1)), (2, .i a2), (7, .own 0 2 0 (([(⟨0, 4096⟩ : api_Span)] : List api_Span).length)), (8, .d (eL40 true v1.1)), (10, .i (IntKind.wrap .i64 (x1_10 + 1)))], [eR40 ([(⟨0, 4096⟩ : api_Span)] : List api_Span)]⟩ h0 ?_
                exact ih (IntKind.wrap .i64 (x1_10 + 1)) H
              · replace H := sF c29 H
                rw [boF c29]
                refine goK hT 3 (K7 111110100100100 0) ⟨104, [(0, .d (eL54 t0 a0)), (2, .i a2), (7, .own 0 2 0 (([(⟨0, 4096⟩ : api_Span)] : List api_Span).length))], [eR40 ([(⟨0, 4096⟩ : api_Span)] : List api_Span)]⟩ ?_
                obtain ⟨v20, h30, H⟩ := sbC H
                have Jj3 : ∀ (y3_6 : Bool), stk (splicelaw15_JudgeParts.j3 y3_6) (iter (splicelaw15_JudgeParts.step a0 a1 a2 v1) n) = some r → AK X 7 ((K7 11111010010010 1)) (Back X [] (.b r)) ⟨104, [(6, .b y3_6)], []⟩ := by
                  intro y3_6 H
                  obtain rfl := retC H
                  exact ak_ret hf hX (av := .b y3_6) (by kernel_rfl) [] (sel_of_eq (by kernel_rfl)) (by decide) (by rw [h0]; rfl) (by kernel_rfl) (fun _ h => all_nil h) (.d (.v _))
                refine ak_callP (avs := []) (dst := some 51) (k' := (K7 111110100100100 1)) [0, 2, 7, 51] [] hP enters_9 (splicelaw15_awake.says h30) (by kernel_rfl) (hands_none _) .nil (st' := ⟨104, [(0, .d (eL54 t0 a0)), (2, .i a2), (7, .own 0 2 0 (([(⟨0, 4096⟩ : api_Span)] : List api_Span).length)), (51, .b v20)], [eR40 ([(⟨0, 4096⟩ : api_Span)] : List api_Span)]⟩) (by kernel_rfl) ?_
                refine goK hT 1 (K7 111110100100100 2) ⟨104, [(0, .d (eL54 t0 a0)), (2, .i a2), (7, .own 0 2 0 (([(⟨0, 4096⟩ : api_Span)] : List api_Span).length)), (52, .b v20)], [eR40 ([(⟨0, 4096⟩ : api_Span)] : List api_Span)]⟩ ?_
                by_cases c31 : v20 = true
                · replace H := sT c31 H
                  rw [c31]
                  refine goK hT 3 (K7 111110100100100 5) ⟨104, [(52, .b true), (53, .d (eL54 t0 a0)), (54, .own 0 2 0 (([(⟨0, 4096⟩ : api_Span)] : List api_Span).length)), (55, .i a2)], [eR40 ([(⟨0, 4096⟩ : api_Span)] : List api_Span)]⟩ ?_
                  refine ak_freeze 0 (kk := 2) (n := ([(⟨0, 4096⟩ : api_Span)] : List api_Span).length) (ty := 40) (g := vec api_Span.e api_Span.z ([(⟨0, 4096⟩ : api_Span)] : List api_Span)) (by kernel_rfl) (st' := ⟨104, [(52, .b true), (53, .d (eL54 t0 a0)), (54, .own 0 2 0 (([(⟨0, 4096⟩ : api_Span)] : List api_Span).length)), (55, .i a2)], [eF40 ([(⟨0, 4096⟩ : api_Span)] : List api_Span)]⟩) (by kernel_rfl) ?_
                  obtain ⟨v21, h32, H⟩ := sbC H
                  refine ak_callP (avs := [.d (eL54 t0 a0), .own 0 2 0 (([(⟨0, 4096⟩ : api_Span)] : List api_Span).length), .i a2]) (dst := some 56) (k' := (K7 111110100100100 6)) [52, 56] [] hP enters_12 (judge_Fold.says (t0 := t0) a0 ([(⟨0, 4096⟩ : api_Span)] : List api_Span) a2 h32) (by kernel_rfl) (hands_none _) (.cons (pass_d _) (.cons (.lend (ty := 40) (by kernel_rfl) rfl) (.cons (pass_d _) .nil))) (st' := ⟨104, [(52, .b true), (56, .own 1 2 0 v21.length)], [eF40 ([(⟨0, 4096⟩ : api_Span)] : List api_Span), eR65 v21]⟩) (by kernel_rfl) ?_
                  refine goK hT 5 (K7 11111010010010 1) ⟨104, [(6, .b ((v21.length : Int) == 0))], [eF40 ([(⟨0, 4096⟩ : api_Span)] : List api_Span), eR65 v21]⟩ ?_
                  refine cutK [] ⟨104, [(6, .b ((v21.length : Int) == 0))], []⟩ h0 ?_
                  exact Jj3 ((v21.length : Int) == 0) H
                · replace H := sF c31 H
                  rw [boF c31]
                  refine goK hT 9 (K7 11111010010010 1) ⟨104, [(6, .b false)], [eR40 ([(⟨0, 4096⟩ : api_Span)] : List api_Span)]⟩ ?_
                  refine cutK [] ⟨104, [(6, .b false)], []⟩ h0 ?_
                  exact Jj3 false H
            · replace H := sF c7 H
              rw [decide_eq_false c7]
              refine goK hT 7 (K7 1111110 3) ⟨104, [(0, .d (eL54 t0 a0)), (1, .d (eL40 true a1)), (2, .i a2), (7, .own 0 2 0 (([(⟨0, 4096⟩ : api_Span)] : List api_Span).length)), (8, .d (eL40 true v1.1)), (60, .d (eL54 t0 a0)), (61, .d (eL40 true a1)), (62, .i a2)], [eR40 ([(⟨0, 4096⟩ : api_Span)] : List api_Span)]⟩ ?_
              obtain ⟨v4, h8, H⟩ := sbC H
              refine ak_callP (avs := [.d (eL54 t0 a0), .d (eL40 true a1), .i a2]) (dst := some 63) (k' := (K7 1111110 4)) [0, 1, 2, 7, 8, 63] [] hP enters_12 (judge_Fold.says (t0 := t0) a0 a1 a2 h8) (by kernel_rfl) (hands_none _) (.cons (pass_d _) (.cons (pass_d _) (.cons (pass_d _) .nil))) (st' := ⟨104, [(0, .d (eL54 t0 a0)), (1, .d (eL40 true a1)), (2, .i a2), (7, .own 0 2 0 (([(⟨0, 4096⟩ : api_Span)] : List api_Span).length)), (8, .d (eL40 true v1.1)), (63, .own 1 2 0 v4.length)], [eR40 ([(⟨0, 4096⟩ : api_Span)] : List api_Span), eR65 v4]⟩) (by kernel_rfl) ?_
              refine goK hT 3 (K7 1111110 7) ⟨104, [(0, .d (eL54 t0 a0)), (1, .d (eL40 true a1)), (2, .i a2), (7, .own 0 2 0 (([(⟨0, 4096⟩ : api_Span)] : List api_Span).length)), (63, .own 1 2 0 v4.length), (64, .d (eL54 t0 a0)), (65, .d (eL40 true v1.1)), (66, .i a2)], [eR40 ([(⟨0, 4096⟩ : api_Span)] : List api_Span), eR65 v4]⟩ ?_
              obtain ⟨v5, h9, H⟩ := sbC H
              refine ak_callP (avs := [.d (eL54 t0 a0), .d (eL40 true v1.1), .i a2]) (dst := some 67) (k' := (K7 1111110 8)) [0, 1, 2, 7, 63, 67] [] hP enters_12 (judge_Fold.says (t0 := t0) a0 v1.1 a2 h9) (by kernel_rfl) (hands_none _) (.cons (pass_d _) (.cons (pass_d _) (.cons (pass_d _) .nil))) (st' := ⟨104, [(0, .d (eL54 t0 a0)), (1, .d (eL40 true a1)), (2, .i a2), (7, .own 0 2 0 (([(⟨0, 4096⟩ : api_Span)] : List api_Span).length)), (63, .own 1 2 0 v4.length), (67, .own 2 2 0 v5.length)], [eR40 ([(⟨0, 4096⟩ : api_Span)] : List api_Span), eR65 v4, eR65 v5]⟩) (by kernel_rfl) ?_
              refine goK hT 3 (K7 1111110 11) ⟨104, [(1, .d (eL40 true a1)), (63, .own 1 2 0 v4.length), (67, .own 2 2 0 v5.length), (68, .d (eL54 t0 a0)), (69, .own 0 2 0 (([(⟨0, 4096⟩ : api_Span)] : List api_Span).length)), (70, .i a2)], [eR40 ([(⟨0, 4096⟩ : api_Span)] : List api_Span), eR65 v4, eR65 v5]⟩ ?_
              refine ak_freeze 0 (kk := 2) (n := ([(⟨0, 4096⟩ : api_Span)] : List api_Span).length) (ty := 40) (g := vec api_Span.e api_Span.z ([(⟨0, 4096⟩ : api_Span)] : List api_Span)) (by kernel_rfl) (st' := ⟨104, [(1, .d (eL40 true a1)), (63, .own 1 2 0 v4.length), (67, .own 2 2 0 v5.length), (68, .d (eL54 t0 a0)), (69, .own 0 2 0 (([(⟨0, 4096⟩ : api_Span)] : List api_Span).length)), (70, .i a2)], [eF40 ([(⟨0, 4096⟩ : api_Span)] : List api_Span), eR65 v4, eR65 v5]⟩) (by kernel_rfl) ?_
              obtain ⟨v6, h10, H⟩ := sbC H
              refine ak_callP (avs := [.d (eL54 t0 a0), .own 0 2 0 (([(⟨0, 4096⟩ : api_Span)] : List api_Span).length), .i a2]) (dst := some 71) (k' := (K7 1111110 12)) [1, 63, 67, 71] [] hP enters_12 (judge_Fold.says (t0 := t0) a0 ([(⟨0, 4096⟩ : api_Span)] : List api_Span) a2 h10) (by kernel_rfl) (hands_none _) (.cons (pass_d _) (.cons (.lend (ty := 40) (by kernel_rfl) rfl) (.cons (pass_d _) .nil))) (st' := ⟨104, [(1, .d (eL40 true a1)), (63, .own 1 2 0 v4.length), (67, .own 2 2 0 v5.length), (71, .own 3 2 0 v6.length)], [eF40 ([(⟨0, 4096⟩ : api_Span)] : List api_Span), eR65 v4, eR65 v5, eR65 v6]⟩) (by kernel_rfl) ?_
              refine goK hT 8 (K7 11111110 2) ⟨104, [(1, .d (eL40 true a1)), (11, .own 1 2 0 v4.length), (13, .own 3 2 0 v6.length), (73, .own 1 2 0 v4.length), (74, .own 2 2 0 v5.length)], [eF40 ([(⟨0, 4096⟩ : api_Span)] : List api_Span), eR65 v4, eR65 v5, eR65 v6]⟩ ?_
              refine ak_freeze 1 (kk := 2) (n := v4.length) (ty := 65) (g := vec api_Pair.e api_Pair.z v4) (by kernel_rfl) (st' := ⟨104, [(1, .d (eL40 true a1)), (11, .own 1 2 0 v4.length), (13, .own 3 2 0 v6.length), (73, .own 1 2 0 v4.length), (74, .own 2 2 0 v5.length)], [eF40 ([(⟨0, 4096⟩ : api_Span)] : List api_Span), eF65 v4, eR65 v5, eR65 v6]⟩) (by kernel_rfl) ?_
              refine ak_freeze 2 (kk := 2) (n := v5.length) (ty := 65) (g := vec api_Pair.e api_Pair.z v5) (by kernel_rfl) (st' := ⟨104, [(1, .d (eL40 true a1)), (11, .own 1 2 0 v4.length), (13, .own 3 2 0 v6.length), (73, .own 1 2 0 v4.length), (74, .own 2 2 0 v5.length)], [eF40 ([(⟨0, 4096⟩ : api_Span)] : List api_Span), eF65 v4, eF65 v5, eR65 v6]⟩) (by kernel_rfl) ?_
              obtain ⟨v7, h11, H⟩ := sbC H
              refine ak_callP (avs := [.own 1 2 0 v4.length, .own 2 2 0 v5.length]) (dst := some 75) (k' := (K7 11111110 3)) [1, 11, 13, 75] [] hP enters_23 (table_Join.says v4 v5 h11) (by kernel_rfl) (hands_none _) (.cons (.lend (ty := 65) (by kernel_rfl) rfl) (.cons (.lend (ty := 65) (by kernel_rfl) rfl) .nil)) (st' := ⟨104, [(1, .d (eL40 true a1)), (11, .own 1 2 0 v4.length), (13, .own 3 2 0 v6.length), (75, .tup [.own 4 2 0 v7.1.length, .i v7.2])], [eF40 ([(⟨0, 4096⟩ : api_Span)] : List api_Span), eF65 v4, eF65 v5, eR65 v6, eR65 v7.1]⟩) (by kernel_rfl) ?_
              refine goK hT 8 (K7 111111110 0) ⟨104, [(1, .d (eL40 true a1)), (11, .own 1 2 0 v4.length), (13, .own 3 2 0 v6.length), (14, .own 4 2 0 v7.1.length), (15, .i v7.2)], [eF40 ([(⟨0, 4096⟩ : api_Span)] : List api_Span), eF65 v4, eF65 v5, eR65 v6, eR65 v7.1]⟩ ?_
              obtain ⟨v8, h12, H⟩ := sbC H
              have Jj2 : ∀ (y2_6 : Bool), stk (splicelaw15_JudgeParts.j2 y2_6) (iter (splicelaw15_JudgeParts.step a0 a1 a2 v1) n) = some r → AK X 7 ((K7 11111111 1)) (Back X [] (.b r)) ⟨104, [(6, .b y2_6)], []⟩ := by
                intro y2_6 H
                obtain rfl := retC H
                exact ak_ret hf hX (av := .b y2_6) (by kernel_rfl) [] (sel_of_eq (by kernel_rfl)) (by decide) (by rw [h0]; rfl) (by kernel_rfl) (fun _ h => all_nil h) (.d (.v _))
              refine ak_callP (avs := []) (dst := some 78) (k' := (K7 111111110 1)) [1, 11, 13, 14, 15, 78] [] hP enters_9 (splicelaw15_awake.says h12) (by kernel_rfl) (hands_none _) .nil (st' := ⟨104, [(1, .d (eL40 true a1)), (11, .own 1 2 0 v4.length), (13, .own 3 2 0 v6.length), (14, .own 4 2 0 v7.1.length), (15, .i v7.2), (78, .b v8)], [eF40 ([(⟨0, 4096⟩ : api_Span)] : List api_Span), eF65 v4, eF65 v5, eR65 v6, eR65 v7.1]⟩) (by kernel_rfl) ?_
              refine goK hT 1 (K7 111111110 2) ⟨104, [(1, .d (eL40 true a1)), (11, .own 1 2 0 v4.length), (13, .own 3 2 0 v6.length), (14, .own 4 2 0 v7.1.length), (15, .i v7.2), (79, .b v8)], [eF40 ([(⟨0, 4096⟩ : api_Span)] : List api_Span), eF65 v4, eF65 v5, eR65 v6, eR65 v7.1]⟩ ?_
              by_cases c13 : v8 = true
              · replace H := sT c13 H
                rw [c13]
                refine goK hT 4 (K7 111111110 6) ⟨104, [(1, .d (eL40 true a1)), (11, .own 1 2 0 v4.length), (13, .own 3 2 0 v6.length), (14, .own 4 2 0 v7.1.length), (83, .b (v7.2 == 0))], [eF40 ([(⟨0, 4096⟩ : api_Span)] : List api_Span), eF65 v4, eF65 v5, eR65 v6, eR65 v7.1]⟩ ?_
                by_cases c14 : v7.2 = 0
                · replace H := sT c14 H
                  rw [eqT c14]
                  refine goK hT 1 (K7 111111110 7) ⟨104, [(1, .d (eL40 true a1)), (11, .own 1 2 0 v4.length), (13, .own 3 2 0 v6.length), (83, .b true), (84, .own 4 2 0 v7.1.length)], [eF40 ([(⟨0, 4096⟩ : api_Span)] : List api_Span), eF65 v4, eF65 v5, eR65 v6, eR65 v7.1]⟩ ?_
                  obtain ⟨v9, h15, H⟩ := sbC H
                  refine ak_callP (avs := [.own 4 2 0 v7.1.length]) (dst := some 85) (k' := (K7 111111110 8)) [1, 11, 13, 83, 85] [] hP enters_11 (splicelaw05_Refs.says (t0 := false) v7.1 h15) (by kernel_rfl) (hands_none _) (.cons (.lend (ty := 65) (by kernel_rfl) rfl) .nil) (st' := ⟨104, [(1, .d (eL40 true a1)), (11, .own 1 2 0 v4.length), (13, .own 3 2 0 v6.length), (83, .b true), (85, .own 5 2 0 v9.length)], [eF40 ([(⟨0, 4096⟩ : api_Span)] : List api_Span), eF65 v4, eF65 v5, eR65 v6, eR65 v7.1, eR66 v9]⟩) (by kernel_rfl) ?_
                  refine goK hT 1 (K7 111111110 9) ⟨104, [(1, .d (eL40 true a1)), (11, .own 1 2 0 v4.length), (13, .own 3 2 0 v6.length), (83, .b true), (85, .own 5 2 0 v9.length), (86, .own 3 2 0 v6.length)], [eF40 ([(⟨0, 4096⟩ : api_Span)] : List api_Span), eF65 v4, eF65 v5, eR65 v6, eR65 v7.1, eR66 v9]⟩ ?_
                  obtain ⟨v10, h16, H⟩ := sbC H
                  refine ak_callP (avs := [.own 3 2 0 v6.length]) (dst := some 87) (k' := (K7 111111110 10)) [1, 11, 13, 83, 85, 87] [] hP enters_11 (splicelaw05_Refs.says (t0 := false) v6 h16) (by kernel_rfl) (hands_none _) (.cons (.lend (ty := 65) (by kernel_rfl) rfl) .nil) (st' := ⟨104, [(1, .d (eL40 true a1)), (11, .own 1 2 0 v4.length), (13, .own 3 2 0 v6.length), (83, .b true), (85, .own 5 2 0 v9.length), (87, .own 6 2 0 v10.length)], [eF40 ([(⟨0, 4096⟩ : api_Span)] : List api_Span), eF65 v4, eF65 v5, eR65 v6, eR65 v7.1, eR66 v9, eR66 v10]⟩) (by kernel_rfl) ?_
                  obtain ⟨v11, h17, H⟩ := sbC H
                  refine ak_callP (avs := [.own 5 2 0 v9.length, .own 6 2 0 v10.length]) (dst := some 88) (k' := (K7 111111110 11)) [1, 11, 13, 83, 88] [] hP enters_10 (spliceref05_Same.says (t0 := false) (t1 := false) v9 v10 h17) (by kernel_rfl) (hands_none _) (.cons (.lend (ty := 66) (by kernel_rfl) rfl) (.cons (.lend (ty := 66) (by kernel_rfl) rfl) .nil)) (st' := ⟨104, [(1, .d (eL40 true a1)), (11, .own 1 2 0 v4.length), (13, .own 3 2 0 v6.length), (83, .b true), (88, .b v11)], [eF40 ([(⟨0, 4096⟩ : api_Span)] : List api_Span), eF65 v4, eF65 v5, eR65 v6, eR65 v7.1, eR66 v9, eR66 v10]⟩) (by kernel_rfl) ?_
                  refine goK hT 2 (K7 111111110 13) ⟨104, [(1, .d (eL40 true a1)), (11, .own 1 2 0 v4.length), (13, .own 3 2 0 v6.length), (90, .b v11)], [eF40 ([(⟨0, 4096⟩ : api_Span)] : List api_Span), eF65 v4, eF65 v5, eR65 v6, eR65 v7.1, eR66 v9, eR66 v10]⟩ ?_
                  by_cases c18 : v11 = true
                  · replace H := sT c18 H
                    rw [c18]
                    refine goK hT 2 (K7 111111110 15) ⟨104, [(1, .d (eL40 true a1)), (11, .own 1 2 0 v4.length), (90, .b true), (91, .own 3 2 0 v6.length), (92, .d (eL40 true a1))], [eF40 ([(⟨0, 4096⟩ : api_Span)] : List api_Span), eF65 v4, eF65 v5, eR65 v6, eR65 v7.1, eR66 v9, eR66 v10]⟩ ?_
                    obtain ⟨v12, h19, H⟩ := sbC H
                    refine ak_callP (avs := [.own 3 2 0 v6.length, .d (eL40 true a1)]) (dst := some 93) (k' := (K7 111111110 16)) [1, 11, 90, 93] [] hP enters_24 (table_Clip.says (t0 := false) (t1 := true) v6 a1 h19) (by kernel_rfl) (hands_none _) (.cons (.lend (ty := 65) (by kernel_rfl) rfl) (.cons (pass_d _) .nil)) (st' := ⟨104, [(1, .d (eL40 true a1)), (11, .own 1 2 0 v4.length), (90, .b true), (93, .own 7 2 0 v12.length)], [eF40 ([(⟨0, 4096⟩ : api_Span)] : List api_Span), eF65 v4, eF65 v5, eR65 v6, eR65 v7.1, eR66 v9, eR66 v10, eR65 v12]⟩) (by kernel_rfl) ?_
                    obtain ⟨v13, h20, H⟩ := sbC H
                    refine ak_callP (avs := [.own 7 2 0 v12.length]) (dst := some 94) (k' := (K7 111111110 17)) [1, 11, 90, 94] [] hP enters_11 (splicelaw05_Refs.says (t0 := false) v12 h20) (by kernel_rfl) (hands_none _) (.cons (.lend (ty := 65) (by kernel_rfl) rfl) .nil) (st' := ⟨104, [(1, .d (eL40 true a1)), (11, .own 1 2 0 v4.length), (90, .b true), (94, .own 8 2 0 v13.length)], [eF40 ([(⟨0, 4096⟩ : api_Span)] : List api_Span), eF65 v4, eF65 v5, eR65 v6, eR65 v7.1, eR66 v9, eR66 v10, eR65 v12, eR66 v13]⟩) (by kernel_rfl) ?_
                    refine goK hT 1 (K7 111111110 18) ⟨104, [(1, .d (eL40 true a1)), (90, .b true), (94, .own 8 2 0 v13.length), (95, .own 1 2 0 v4.length)], [eF40 ([(⟨0, 4096⟩ : api_Span)] : List api_Span), eF65 v4, eF65 v5, eR65 v6, eR65 v7.1, eR66 v9, eR66 v10, eR65 v12, eR66 v13]⟩ ?_
                    obtain ⟨v14, h21, H⟩ := sbC H
                    refine ak_callP (avs := [.own 1 2 0 v4.length]) (dst := some 96) (k' := (K7 111111110 19)) [1, 90, 94, 96] [] hP enters_11 (splicelaw05_Refs.says (t0 := true) v4 h21) (by kernel_rfl) (hands_none _) (.cons (.lend (ty := 65) (by kernel_rfl) rfl) .nil) (st' := ⟨104, [(1, .d (eL40 true a1)), (90, .b true), (94, .own 8 2 0 v13.length), (96, .own 9 2 0 v14.length)], [eF40 ([(⟨0, 4096⟩ : api_Span)] : List api_Span), eF65 v4, eF65 v5, eR65 v6, eR65 v7.1, eR66 v9, eR66 v10, eR65 v12, eR66 v13, eR66 v14]⟩) (by kernel_rfl) ?_
                    obtain ⟨v15, h22, H⟩ := sbC H
                    refine ak_callP (avs := [.own 8 2 0 v13.length, .own 9 2 0 v14.length]) (dst := some 97) (k' := (K7 111111110 20)) [1, 90, 97] [] hP enters_10 (spliceref05_Same.says (t0 := false) (t1 := false) v13 v14 h22) (by kernel_rfl) (hands_none _) (.cons (.lend (ty := 66) (by kernel_rfl) rfl) (.cons (.lend (ty := 66) (by kernel_rfl) rfl) .nil)) (st' := ⟨104, [(1, .d (eL40 true a1)), (90, .b true), (97, .b v15)], [eF40 ([(⟨0, 4096⟩ : api_Span)] : List api_Span), eF65 v4, eF65 v5, eR65 v6, eR65 v7.1, eR66 v9, eR66 v10, eR65 v12, eR66 v13, eR66 v14]⟩) (by kernel_rfl) ?_
                    refine goK hT 2 (K7 111111110 22) ⟨104, [(1, .d (eL40 true a1)), (99, .b v15)], [eF40 ([(⟨0, 4096⟩ : api_Span)] : List api_Span), eF65 v4, eF65 v5, eR65 v6, eR65 v7.1, eR66 v9, eR66 v10, eR65 v12, eR66 v13, eR66 v14]⟩ ?_
                    by_cases c23 : v15 = true
                    · replace H := sT c23 H
                      rw [c23]
                      refine goK hT 1 (K7 111111110 23) ⟨104, [(99, .b true), (100, .d (eL40 true a1))], [eF40 ([(⟨0, 4096⟩ : api_Span)] : List api_Span), eF65 v4, eF65 v5, eR65 v6, eR65 v7.1, eR66 v9, eR66 v10, eR65 v12, eR66 v13, eR66 v14]⟩ ?_
                      obtain ⟨v16, h24, H⟩ := sbC H
                      refine ak_callP (avs := [.d (eL40 true a1)]) (dst := some 101) (k' := (K7 111111110 24)) [99, 101] [] hP enters_15 (splicelaw03_Refs.says (t0 := true) a1 h24) (by kernel_rfl) (hands_none _) (.cons (pass_d _) .nil) (st' := ⟨104, [(99, .b true), (101, .own 10 2 0 v16.length)], [eF40 ([(⟨0, 4096⟩ : api_Span)] : List api_Span), eF65 v4, eF65 v5, eR65 v6, eR65 v7.1, eR66 v9, eR66 v10, eR65 v12, eR66 v13, eR66 v14, eR43 v16]⟩) (by kernel_rfl) ?_
                      obtain ⟨v17, h25, H⟩ := sbC H
                      refine ak_callP (avs := [.own 10 2 0 v16.length]) (dst := some 102) (k' := (K7 111111110 25)) [99, 102] [] hP enters_25 (spliceref03_Check.says (t0 := false) v16 h25) (by kernel_rfl) (hands_none _) (.cons (.lend (ty := 43) (by kernel_rfl) rfl) .nil) (st' := ⟨104, [(99, .b true), (102, .b v17)], [eF40 ([(⟨0, 4096⟩ : api_Span)] : List api_Span), eF65 v4, eF65 v5, eR65 v6, eR65 v7.1, eR66 v9, eR66 v10, eR65 v12, eR66 v13, eR66 v14, eR43 v16]⟩) (by kernel_rfl) ?_
                      refine goK hT 3 (K7 11111111 1) ⟨104, [(6, .b v17)], [eF40 ([(⟨0, 4096⟩ : api_Span)] : List api_Span), eF65 v4, eF65 v5, eR65 v6, eR65 v7.1, eR66 v9, eR66 v10, eR65 v12, eR66 v13, eR66 v14, eR43 v16]⟩ ?_
                      refine cutK [] ⟨104, [(6, .b v17)], []⟩ h0 ?_
                      exact Jj2 v17 H
                    · replace H := sF c23 H
                      rw [boF c23]
                      refine goK hT 6 (K7 11111111 1) ⟨104, [(6, .b false)], [eF40 ([(⟨0, 4096⟩ : api_Span)] : List api_Span), eF65 v4, eF65 v5, eR65 v6, eR65 v7.1, eR66 v9, eR66 v10, eR65 v12, eR66 v13, eR66 v14]⟩ ?_
                      refine cutK [] ⟨104, [(6, .b false)], []⟩ h0 ?_
                      exact Jj2 false H
                  · replace H := sF c18 H
                    rw [boF c18]
                    refine goK hT 15 (K7 11111111 1) ⟨104, [(6, .b false)], [eF40 ([(⟨0, 4096⟩ : api_Span)] : List api_Span), eF65 v4, eF65 v5, eR65 v6, eR65 v7.1, eR66 v9, eR66 v10]⟩ ?_
                    refine cutK [] ⟨104, [(6, .b false)], []⟩ h0 ?_
                    exact Jj2 false H
                · replace H := sF c14 H
                  rw [eqF c14]
                  refine goK hT 22 (K7 11111111 1) ⟨104, [(6, .b false)], [eF40 ([(⟨0, 4096⟩ : api_Span)] : List api_Span), eF65 v4, eF65 v5, eR65 v6, eR65 v7.1]⟩ ?_
                  refine cutK [] ⟨104, [(6, .b false)], []⟩ h0 ?_
                  exact Jj2 false H
              · replace H := sF c13 H
                rw [boF c13]
                refine goK hT 26 (K7 11111111 1) ⟨104, [(6, .b false)], [eF40 ([(⟨0, 4096⟩ : api_Span)] : List api_Span), eF65 v4, eF65 v5, eR65 v6, eR65 v7.1]⟩ ?_
                refine cutK [] ⟨104, [(6, .b false)], []⟩ h0 ?_
                exact Jj2 false H
      refine cutK [0] ⟨104, [(0, .d (eL54 t0 a0)), (1, .d (eL40 true a1)), (2, .i a2), (7, .own 0 2 0 (([(⟨0, 4096⟩ : api_Span)] : List api_Span).length)), (8, .d (eL40 true v1.1)), (10, .i 0)], [eR40 ([(⟨0, 4096⟩ : api_Span)] : List api_Span)]⟩ h0 ?_
      obtain ⟨n, H⟩ := loopC H
      exact (L n) 0 H
  refine ak_callP (avs := [.d (eL54 t0 a0)]) (dst := some 25) (k' := (K7 111100 2)) [0, 1, 2, 7, 8, 9, 25] [] hP enters_8 (splicelaw15_fewEntries.says (t0 := t0) a0 h2) (by kernel_rfl) (hands_none _) (.cons (pass_d _) .nil) (st' := ⟨104, [(0, .d (eL54 t0 a0)), (1, .d (eL40 true a1)), (2, .i a2), (7, .own 0 2 0 (([(⟨0, 4096⟩ : api_Span)] : List api_Span).length)), (8, .d (eL40 true v1.1)), (9, .i v1.2), (25, .b v2)], [eR40 ([(⟨0, 4096⟩ : api_Span)] : List api_Span)]⟩) (by kernel_rfl) ?_
  refine goK hT 2 (K7 111100 4) ⟨104, [(0, .d (eL54 t0 a0)), (1, .d (eL40 true a1)), (2, .i a2), (7, .own 0 2 0 (([(⟨0, 4096⟩ : api_Span)] : List api_Span).length)), (8, .d (eL40 true v1.1)), (9, .i v1.2), (27, .b (!v2))], [eR40 ([(⟨0, 4096⟩ : api_Span)] : List api_Span)]⟩ ?_
  by_cases c3 : v2 = true
  · replace H := iT c3 H
    rw [c3]
    refine goK hT 5 (K7 111100 9) ⟨104, [(0, .d (eL54 t0 a0)), (1, .d (eL40 true a1)), (2, .i a2), (7, .own 0 2 0 (([(⟨0, 4096⟩ : api_Span)] : List api_Span).length)), (8, .d (eL40 true v1.1)), (9, .i v1.2), (32, .b (decide ((a1.length : Int) > 60)))], [eR40 ([(⟨0, 4096⟩ : api_Span)] : List api_Span)]⟩ ?_
    by_cases c4 : (a1.length : Int) > 60
    · replace H := iT c4 H
      rw [decide_eq_true c4]
      refine goK hT 4 (K7 11110 1) ⟨104, [(0, .d (eL54 t0 a0)), (1, .d (eL40 true a1)), (2, .i a2), (7, .own 0 2 0 (([(⟨0, 4096⟩ : api_Span)] : List api_Span).length)), (8, .d (eL40 true v1.1)), (35, .b true)], [eR40 ([(⟨0, 4096⟩ : api_Span)] : List api_Span)]⟩ ?_
      refine cutK [0] ⟨104, [(0, .d (eL54 t0 a0)), (1, .d (eL40 true a1)), (2, .i a2), (7, .own 0 2 0 (([(⟨0, 4096⟩ : api_Span)] : List api_Span).length)), (8, .d (eL40 true v1.1)), (35, .b true)], [eR40 ([(⟨0, 4096⟩ : api_Span)] : List api_Span)]⟩ h0 ?_
      exact Jj1 true H
    · replace H := iF c4 H
      rw [decide_eq_false c4]
      refine goK hT 4 (K7 11110 1) ⟨104, [(0, .d (eL54 t0 a0)), (1, .d (eL40 true a1)), (2, .i a2), (7, .own 0 2 0 (([(⟨0, 4096⟩ : api_Span)] : List api_Span).length)), (8, .d (eL40 true v1.1)), (35, .b (v1.2 != 0))], [eR40 ([(⟨0, 4096⟩ : api_Span)] : List api_Span)]⟩ ?_
      refine cutK [0] ⟨104, [(0, .d (eL54 t0 a0)), (1, .d (eL40 true a1)), (2, .i a2), (7, .own 0 2 0 (([(⟨0, 4096⟩ : api_Span)] : List api_Span).length)), (8, .d (eL40 true v1.1)), (35, .b (v1.2 != 0))], [eR40 ([(⟨0, 4096⟩ : api_Span)] : List api_Span)]⟩ h0 ?_
      exact Jj1 (v1.2 != 0) H
  · replace H := iF c3 H
    rw [boF c3]
    refine goK hT 9 (K7 11110 1) ⟨104, [(0, .d (eL54 t0 a0)), (1, .d (eL40 true a1)), (2, .i a2), (7, .own 0 2 0 (([(⟨0, 4096⟩ : api_Span)] : List api_Span).length)), (8, .d (eL40 true v1.1)), (35, .b true)], [eR40 ([(⟨0, 4096⟩ : api_Span)] : List api_Span)]⟩ ?_
    refine cutK [0] ⟨104, [(0, .d (eL54 t0 a0)), (1, .d (eL40 true a1)), (2, .i a2), (7, .own 0 2 0 (([(⟨0, 4096⟩ : api_Span)] : List api_Span).length)), (8, .d (eL40 true v1.1)), (35, .b true)], [eR40 ([(⟨0, 4096⟩ : api_Span)] : List api_Span)]⟩ h0 ?_
    exact Jj1 true H
end Go.SyP
