/- Certificates, printed by gen.py. -/
import Derived.Test.YtckflmadcnfpeaaG20Cp0
set_option linter.unusedVariables false
set_option linter.unusedSimpArgs false
namespace Go.SyP
open Go Go.Sy Go.Proofs


theorem splicelaw20_awake.says {r : Bool} (H : splicelaw20_awake = some r) : Says Try.prog 12 [] [] [] (.b r) := by
  refine says_of Try.func12 rfl (nt := 51) rfl (Nat.le_of_ble_eq_true rfl) fun X hP h0 hX => ?_
  have hT : TabOk X.P T := hP ▸ tok
  have hf : X.P.funcs[12]? = some Try.f12 := hP ▸ Try.func12
  refine goK hT 8 (K12 110 2) ⟨51, [(8, .own 0 2 0 1)], [.flat false 2 42 1 (fun j => [[.i 5, .i 7]].getD j [])]⟩ ?_
  refine ak_row 0 (kk := 2) (fz := false) (ty := 42) (n := ([(⟨5, 7⟩ : api_Pair)] : List api_Pair).length) (vec api_Pair.e api_Pair.z ([(⟨5, 7⟩ : api_Pair)] : List api_Pair)) (by kernel_rfl) vec_lit (st' := ⟨51, [(8, .own 0 2 0 (([(⟨5, 7⟩ : api_Pair)] : List api_Pair).length))], [eR42 ([(⟨5, 7⟩ : api_Pair)] : List api_Pair)]⟩) (by kernel_rfl) ?_
  obtain ⟨v1, h1, H⟩ := ibC H
  cases q2 : v1.1 with
  | none =>
      rw [q2] at H
      replace H := ioptN H
      have Sq2 := merkle_New.says (t0 := false) ([(⟨5, 7⟩ : api_Pair)] : List api_Pair) h1
      rw [q2] at Sq2
      refine ak_callP (avs := [.own 0 2 0 (([(⟨5, 7⟩ : api_Pair)] : List api_Pair).length)]) (dst := some 9) (k' := (K12 110 3)) [9] [] hP enters_10 (Sq2) (by kernel_rfl) (hands_none _) (.cons (.lend (ty := 42) (by kernel_rfl) rfl) .nil) (st' := ⟨51, [(9, .tup [.d .np, .i v1.2])], [eR42 ([(⟨5, 7⟩ : api_Pair)] : List api_Pair)]⟩) (by kernel_rfl) ?_
      refine goK hT 10 (K12 1110 2) ⟨51, [(1, .d .np), (2, .i v1.2), (14, .own 1 2 0 1)], [eR42 ([(⟨5, 7⟩ : api_Pair)] : List api_Pair), .flat false 2 42 1 (fun j => [[.i 5, .i 8]].getD j [])]⟩ ?_
      refine ak_row 1 (kk := 2) (fz := false) (ty := 42) (n := ([(⟨5, 8⟩ : api_Pair)] : List api_Pair).length) (vec api_Pair.e api_Pair.z ([(⟨5, 8⟩ : api_Pair)] : List api_Pair)) (by kernel_rfl) vec_lit (st' := ⟨51, [(1, .d .np), (2, .i v1.2), (14, .own 1 2 0 (([(⟨5, 8⟩ : api_Pair)] : List api_Pair).length))], [eR42 ([(⟨5, 7⟩ : api_Pair)] : List api_Pair), eR42 ([(⟨5, 8⟩ : api_Pair)] : List api_Pair)]⟩) (by kernel_rfl) ?_
      obtain ⟨v3, h3, H⟩ := ibC H
      cases q4 : v3.1 with
      | none =>
          rw [q4] at H
          replace H := ioptN H
          have Sq4 := merkle_New.says (t0 := false) ([(⟨5, 8⟩ : api_Pair)] : List api_Pair) h3
          rw [q4] at Sq4
          refine ak_callP (avs := [.own 1 2 0 (([(⟨5, 8⟩ : api_Pair)] : List api_Pair).length)]) (dst := some 15) (k' := (K12 1110 3)) [1, 2, 15] [] hP enters_10 (Sq4) (by kernel_rfl) (hands_none _) (.cons (.lend (ty := 42) (by kernel_rfl) rfl) .nil) (st' := ⟨51, [(1, .d .np), (2, .i v1.2), (15, .tup [.d .np, .i v3.2])], [eR42 ([(⟨5, 7⟩ : api_Pair)] : List api_Pair), eR42 ([(⟨5, 8⟩ : api_Pair)] : List api_Pair)]⟩) (by kernel_rfl) ?_
          refine goK hT 10 (K12 11110 2) ⟨51, [(1, .d .np), (2, .i v1.2), (3, .d .np), (4, .i v3.2), (18, .d .np), (19, .d .np)], [eR42 ([(⟨5, 7⟩ : api_Pair)] : List api_Pair), eR42 ([(⟨5, 8⟩ : api_Pair)] : List api_Pair)]⟩ ?_
          obtain ⟨v5, h5, H⟩ := ibC H
          have Jj1 : ∀ (y1_0 : Bool), (splicelaw20_awake.j1 y1_0) = some r → AK X 12 ((K12 11111 1)) (Back X [] (.b r)) ⟨51, [(0, .b y1_0)], []⟩ := by
            intro y1_0 H
            obtain rfl := retC H
            exact ak_ret hf hX (av := .b y1_0) (by kernel_rfl) [] (sel_of_eq (by kernel_rfl)) (by decide) (by rw [h0]; rfl) (by kernel_rfl) (fun _ h => all_nil h) (.d (.v _))
          refine ak_callP (avs := [.d .np, .d .np]) (dst := some 20) (k' := (K12 11110 3)) [1, 2, 3, 4, 20] [] hP enters_14 (merkle_Diff_n01.says h5) (by kernel_rfl) (hands_none _) (.cons (pass_d _) (.cons (pass_d _) .nil)) (st' := ⟨51, [(1, .d .np), (2, .i v1.2), (3, .d .np), (4, .i v3.2), (20, .own 2 2 0 v5.length)], [eR42 ([(⟨5, 7⟩ : api_Pair)] : List api_Pair), eR42 ([(⟨5, 8⟩ : api_Pair)] : List api_Pair), eR44 v5]⟩) (by kernel_rfl) ?_
          refine goK hT 7 (K12 111110 3) ⟨51, [(1, .d .np), (3, .d .np), (4, .i v3.2), (5, .own 2 2 0 v5.length), (23, .b (v1.2 == 0))], [eR42 ([(⟨5, 7⟩ : api_Pair)] : List api_Pair), eR42 ([(⟨5, 8⟩ : api_Pair)] : List api_Pair), eR44 v5]⟩ ?_
          by_cases c6 : v1.2 = 0
          · replace H := iT c6 H
            rw [eqT c6]
            refine goK hT 4 (K12 111110 7) ⟨51, [(1, .d .np), (3, .d .np), (5, .own 2 2 0 v5.length), (27, .b (v3.2 == 0))], [eR42 ([(⟨5, 7⟩ : api_Pair)] : List api_Pair), eR42 ([(⟨5, 8⟩ : api_Pair)] : List api_Pair), eR44 v5]⟩ ?_
            by_cases c7 : v3.2 = 0
            · replace H := iT c7 H
              rw [eqT c7]
              refine goK hT 5 (K12 111110 12) ⟨51, [(1, .d .np), (3, .d .np), (5, .own 2 2 0 v5.length), (32, .b ((v5.length : Int) == 1))], [eR42 ([(⟨5, 7⟩ : api_Pair)] : List api_Pair), eR42 ([(⟨5, 8⟩ : api_Pair)] : List api_Pair), eR44 v5]⟩ ?_
              by_cases c8 : (v5.length : Int) = 1
              · replace H := iT c8 H
                rw [eqT c8]
                refine goK hT 1 (K12 111110 13) ⟨51, [(1, .d .np), (3, .d .np), (32, .b true), (33, .own 2 2 0 v5.length)], [eR42 ([(⟨5, 7⟩ : api_Pair)] : List api_Pair), eR42 ([(⟨5, 8⟩ : api_Pair)] : List api_Pair), eR44 v5]⟩ ?_
                obtain ⟨h9, H⟩ := iC H
                refine ak_idx hT [1, 3, 32, 34] (i := 0) (n := (v5.length : Int)) h9.1 h9.2 (k' := (K12 111110 14)) (st' := ⟨51, [(1, .d .np), (3, .d .np), (32, .b true), (34, .ptr 2 2 0 0)], [eR42 ([(⟨5, 7⟩ : api_Pair)] : List api_Pair), eR42 ([(⟨5, 8⟩ : api_Pair)] : List api_Pair), eR44 v5]⟩) (by kernel_rfl) ?_
                refine ak_ld hT [1, 3, 32, 35] (i := 0) (n := v5.length) (by omega) (k' := (K12 111110 15)) (st' := ⟨51, [(1, .d .np), (3, .d .np), (32, .b true), (35, .d (eG44 (v5.getD 0 api_Span.z)))], [eR42 ([(⟨5, 7⟩ : api_Pair)] : List api_Pair), eR42 ([(⟨5, 8⟩ : api_Pair)] : List api_Pair), eR44 v5]⟩) (by kernel_rfl) ?_
                refine goK hT 4 (K12 111110 19) ⟨51, [(1, .d .np), (3, .d .np), (39, .b ((((v5.getD 0 api_Span.z).Lo) == 5) && (((v5.getD 0 api_Span.z).Hi) == 6)))], [eR42 ([(⟨5, 7⟩ : api_Pair)] : List api_Pair), eR42 ([(⟨5, 8⟩ : api_Pair)] : List api_Pair), eR44 v5]⟩ ?_
                by_cases c10 : ((v5.getD 0 api_Span.z).Lo) = 5
                · replace H := iT c10 H
                  rw [eqT c10]
                  by_cases c11 : ((v5.getD 0 api_Span.z).Hi) = 6
                  · replace H := iT c11 H
                    rw [eqT c11]
                    refine goK hT 1 (K12 111110 20) ⟨51, [(3, .d .np), (39, .b true), (40, .d .np)], [eR42 ([(⟨5, 7⟩ : api_Pair)] : List api_Pair), eR42 ([(⟨5, 8⟩ : api_Pair)] : List api_Pair), eR44 v5]⟩ ?_
                    obtain ⟨v6, h12, H⟩ := ibC H
                    refine ak_callP (avs := [.d .np]) (dst := some 41) (k' := (K12 111110 21)) [3, 39, 41] [] hP enters_18 (merkle_Tree_Root_n0.says h12) (by kernel_rfl) (hands_none _) (.cons (pass_d _) .nil) (st' := ⟨51, [(3, .d .np), (39, .b true), (41, .n .u32 v6)], [eR42 ([(⟨5, 7⟩ : api_Pair)] : List api_Pair), eR42 ([(⟨5, 8⟩ : api_Pair)] : List api_Pair), eR44 v5]⟩) (by kernel_rfl) ?_
                    refine goK hT 1 (K12 111110 22) ⟨51, [(39, .b true), (41, .n .u32 v6), (42, .d .np)], [eR42 ([(⟨5, 7⟩ : api_Pair)] : List api_Pair), eR42 ([(⟨5, 8⟩ : api_Pair)] : List api_Pair), eR44 v5]⟩ ?_
                    obtain ⟨v7, h13, H⟩ := ibC H
                    refine ak_callP (avs := [.d .np]) (dst := some 43) (k' := (K12 111110 23)) [39, 41, 43] [] hP enters_18 (merkle_Tree_Root_n0.says h13) (by kernel_rfl) (hands_none _) (.cons (pass_d _) .nil) (st' := ⟨51, [(39, .b true), (41, .n .u32 v6), (43, .n .u32 v7)], [eR42 ([(⟨5, 7⟩ : api_Pair)] : List api_Pair), eR42 ([(⟨5, 8⟩ : api_Pair)] : List api_Pair), eR44 v5]⟩) (by kernel_rfl) ?_
                    refine goK hT 3 (K12 111110 26) ⟨51, [(46, .b (v6 != v7))], [eR42 ([(⟨5, 7⟩ : api_Pair)] : List api_Pair), eR42 ([(⟨5, 8⟩ : api_Pair)] : List api_Pair), eR44 v5]⟩ ?_
                    by_cases c14 : v6 = v7
                    · replace H := iT c14 H
                      rw [neF c14]
                      refine goK hT 6 (K12 11111 1) ⟨51, [(0, .b false)], [eR42 ([(⟨5, 7⟩ : api_Pair)] : List api_Pair), eR42 ([(⟨5, 8⟩ : api_Pair)] : List api_Pair), eR44 v5]⟩ ?_
                      refine cutK [] ⟨51, [(0, .b false)], []⟩ h0 ?_
                      exact Jj1 false H
                    · replace H := iF c14 H
                      rw [neT c14]
                      refine goK hT 1 (K12 111110 27) ⟨51, [(46, .b true), (47, .d (.agg [.i 0, .b false]))], [eR42 ([(⟨5, 7⟩ : api_Pair)] : List api_Pair), eR42 ([(⟨5, 8⟩ : api_Pair)] : List api_Pair), eR44 v5]⟩ ?_
                      obtain ⟨v8, h15, H⟩ := ibC H
                      refine ak_callP (avs := [.d (.agg [.i 0, .b false])]) (dst := some 48) (k' := (K12 111110 28)) [46, 48] [] hP enters_19 (merkle_Number.says (⟨0, false⟩ : api_Cell) h15) (by kernel_rfl) (hands_none _) (.cons (pass_d _) .nil) (st' := ⟨51, [(46, .b true), (48, .n .u32 v8)], [eR42 ([(⟨5, 7⟩ : api_Pair)] : List api_Pair), eR42 ([(⟨5, 8⟩ : api_Pair)] : List api_Pair), eR44 v5]⟩) (by kernel_rfl) ?_
                      refine goK hT 4 (K12 11111 1) ⟨51, [(0, .b (v8 == 0))], [eR42 ([(⟨5, 7⟩ : api_Pair)] : List api_Pair), eR42 ([(⟨5, 8⟩ : api_Pair)] : List api_Pair), eR44 v5]⟩ ?_
                      refine cutK [] ⟨51, [(0, .b (v8 == 0))], []⟩ h0 ?_
                      exact Jj1 (v8 == 0) H
                  · replace H := iF c11 H
                    rw [eqF c11]
                    refine goK hT 13 (K12 11111 1) ⟨51, [(0, .b false)], [eR42 ([(⟨5, 7⟩ : api_Pair)] : List api_Pair), eR42 ([(⟨5, 8⟩ : api_Pair)] : List api_Pair), eR44 v5]⟩ ?_
                    refine cutK [] ⟨51, [(0, .b false)], []⟩ h0 ?_
                    exact Jj1 false H
                · replace H := iF c10 H
                  rw [eqF c10]
                  by_cases c16 : ((v5.getD 0 api_Span.z).Hi) = 6
                  · replace H := iT c16 H
                    rw [eqT c16]
                    refine goK hT 13 (K12 11111 1) ⟨51, [(0, .b false)], [eR42 ([(⟨5, 7⟩ : api_Pair)] : List api_Pair), eR42 ([(⟨5, 8⟩ : api_Pair)] : List api_Pair), eR44 v5]⟩ ?_
                    refine cutK [] ⟨51, [(0, .b false)], []⟩ h0 ?_
                    exact Jj1 false H
                  · replace H := iF c16 H
                    rw [eqF c16]
                    refine goK hT 13 (K12 11111 1) ⟨51, [(0, .b false)], [eR42 ([(⟨5, 7⟩ : api_Pair)] : List api_Pair), eR42 ([(⟨5, 8⟩ : api_Pair)] : List api_Pair), eR44 v5]⟩ ?_
                    refine cutK [] ⟨51, [(0, .b false)], []⟩ h0 ?_
                    exact Jj1 false H
              · replace H := iF c8 H
                rw [eqF c8]
                refine goK hT 20 (K12 11111 1) ⟨51, [(0, .b false)], [eR42 ([(⟨5, 7⟩ : api_Pair)] : List api_Pair), eR42 ([(⟨5, 8⟩ : api_Pair)] : List api_Pair), eR44 v5]⟩ ?_
                refine cutK [] ⟨51, [(0, .b false)], []⟩ h0 ?_
                exact Jj1 false H
            · replace H := iF c7 H
              rw [eqF c7]
              refine goK hT 25 (K12 11111 1) ⟨51, [(0, .b false)], [eR42 ([(⟨5, 7⟩ : api_Pair)] : List api_Pair), eR42 ([(⟨5, 8⟩ : api_Pair)] : List api_Pair), eR44 v5]⟩ ?_
              refine cutK [] ⟨51, [(0, .b false)], []⟩ h0 ?_
              exact Jj1 false H
          · replace H := iF c6 H
            rw [eqF c6]
            refine goK hT 29 (K12 11111 1) ⟨51, [(0, .b false)], [eR42 ([(⟨5, 7⟩ : api_Pair)] : List api_Pair), eR42 ([(⟨5, 8⟩ : api_Pair)] : List api_Pair), eR44 v5]⟩ ?_
            refine cutK [] ⟨51, [(0, .b false)], []⟩ h0 ?_
            exact Jj1 false H
      | some v4 =>
          rw [q4] at H
          replace H := ioptS H
          have Sq4 := merkle_New.says (t0 := false) ([(⟨5, 8⟩ : api_Pair)] : List api_Pair) h3
          rw [q4] at Sq4
          refine ak_callP (avs := [.own 1 2 0 (([(⟨5, 8⟩ : api_Pair)] : List api_Pair).length)]) (dst := some 15) (k' := (K12 1110 3)) [1, 2, 15] [] hP enters_10 (Sq4) (by kernel_rfl) (hands_none _) (.cons (.lend (ty := 42) (by kernel_rfl) rfl) .nil) (st' := ⟨51, [(1, .d .np), (2, .i v1.2), (15, .tup [.ptr 2 0 0 0, .i v3.2])], [eR42 ([(⟨5, 7⟩ : api_Pair)] : List api_Pair), eR42 ([(⟨5, 8⟩ : api_Pair)] : List api_Pair), eB91 v4]⟩) (by kernel_rfl) ?_
          refine goK hT 10 (K12 11110 2) ⟨51, [(1, .d .np), (2, .i v1.2), (3, .ptr 2 0 0 0), (4, .i v3.2), (18, .d .np), (19, .ptr 2 0 0 0)], [eR42 ([(⟨5, 7⟩ : api_Pair)] : List api_Pair), eR42 ([(⟨5, 8⟩ : api_Pair)] : List api_Pair), eB91 v4]⟩ ?_
          obtain ⟨v9, h17, H⟩ := ibC H
          have Jj2 : ∀ (y2_0 : Bool), (splicelaw20_awake.j2 y2_0) = some r → AK X 12 ((K12 11111 1)) (Back X [] (.b r)) ⟨51, [(0, .b y2_0)], []⟩ := by
            intro y2_0 H
            obtain rfl := retC H
            exact ak_ret hf hX (av := .b y2_0) (by kernel_rfl) [] (sel_of_eq (by kernel_rfl)) (by decide) (by rw [h0]; rfl) (by kernel_rfl) (fun _ h => all_nil h) (.d (.v _))
          refine ak_callP (avs := [.d .np, .ptr 2 0 0 0]) (dst := some 20) (k' := (K12 11110 3)) [1, 2, 3, 4, 20] [2] hP enters_14 (merkle_Diff_n0.says v4 h17) (by kernel_rfl) (hands_one rfl rfl) (.cons (pass_d _) (.cons (.same (.ptr 0 0 0 0)) .nil)) (st' := ⟨51, [(1, .d .np), (2, .i v1.2), (3, .ptr 2 0 0 0), (4, .i v3.2), (20, .own 3 2 0 v9.length)], [eR42 ([(⟨5, 7⟩ : api_Pair)] : List api_Pair), eR42 ([(⟨5, 8⟩ : api_Pair)] : List api_Pair), eB91 v4, eR44 v9]⟩) (by kernel_rfl) ?_
          refine goK hT 7 (K12 111110 3) ⟨51, [(1, .d .np), (3, .ptr 2 0 0 0), (4, .i v3.2), (5, .own 3 2 0 v9.length), (23, .b (v1.2 == 0))], [eR42 ([(⟨5, 7⟩ : api_Pair)] : List api_Pair), eR42 ([(⟨5, 8⟩ : api_Pair)] : List api_Pair), eB91 v4, eR44 v9]⟩ ?_
          by_cases c18 : v1.2 = 0
          · replace H := iT c18 H
            rw [eqT c18]
            refine goK hT 4 (K12 111110 7) ⟨51, [(1, .d .np), (3, .ptr 2 0 0 0), (5, .own 3 2 0 v9.length), (27, .b (v3.2 == 0))], [eR42 ([(⟨5, 7⟩ : api_Pair)] : List api_Pair), eR42 ([(⟨5, 8⟩ : api_Pair)] : List api_Pair), eB91 v4, eR44 v9]⟩ ?_
            by_cases c19 : v3.2 = 0
            · replace H := iT c19 H
              rw [eqT c19]
              refine goK hT 5 (K12 111110 12) ⟨51, [(1, .d .np), (3, .ptr 2 0 0 0), (5, .own 3 2 0 v9.length), (32, .b ((v9.length : Int) == 1))], [eR42 ([(⟨5, 7⟩ : api_Pair)] : List api_Pair), eR42 ([(⟨5, 8⟩ : api_Pair)] : List api_Pair), eB91 v4, eR44 v9]⟩ ?_
              by_cases c20 : (v9.length : Int) = 1
              · replace H := iT c20 H
                rw [eqT c20]
                refine goK hT 1 (K12 111110 13) ⟨51, [(1, .d .np), (3, .ptr 2 0 0 0), (32, .b true), (33, .own 3 2 0 v9.length)], [eR42 ([(⟨5, 7⟩ : api_Pair)] : List api_Pair), eR42 ([(⟨5, 8⟩ : api_Pair)] : List api_Pair), eB91 v4, eR44 v9]⟩ ?_
                obtain ⟨h21, H⟩ := iC H
                refine ak_idx hT [1, 3, 32, 34] (i := 0) (n := (v9.length : Int)) h21.1 h21.2 (k' := (K12 111110 14)) (st' := ⟨51, [(1, .d .np), (3, .ptr 2 0 0 0), (32, .b true), (34, .ptr 3 2 0 0)], [eR42 ([(⟨5, 7⟩ : api_Pair)] : List api_Pair), eR42 ([(⟨5, 8⟩ : api_Pair)] : List api_Pair), eB91 v4, eR44 v9]⟩) (by kernel_rfl) ?_
                refine ak_ld hT [1, 3, 32, 35] (i := 0) (n := v9.length) (by omega) (k' := (K12 111110 15)) (st' := ⟨51, [(1, .d .np), (3, .ptr 2 0 0 0), (32, .b true), (35, .d (eG44 (v9.getD 0 api_Span.z)))], [eR42 ([(⟨5, 7⟩ : api_Pair)] : List api_Pair), eR42 ([(⟨5, 8⟩ : api_Pair)] : List api_Pair), eB91 v4, eR44 v9]⟩) (by kernel_rfl) ?_
                refine goK hT 4 (K12 111110 19) ⟨51, [(1, .d .np), (3, .ptr 2 0 0 0), (39, .b ((((v9.getD 0 api_Span.z).Lo) == 5) && (((v9.getD 0 api_Span.z).Hi) == 6)))], [eR42 ([(⟨5, 7⟩ : api_Pair)] : List api_Pair), eR42 ([(⟨5, 8⟩ : api_Pair)] : List api_Pair), eB91 v4, eR44 v9]⟩ ?_
                by_cases c22 : ((v9.getD 0 api_Span.z).Lo) = 5
                · replace H := iT c22 H
                  rw [eqT c22]
                  by_cases c23 : ((v9.getD 0 api_Span.z).Hi) = 6
                  · replace H := iT c23 H
                    rw [eqT c23]
                    refine goK hT 1 (K12 111110 20) ⟨51, [(3, .ptr 2 0 0 0), (39, .b true), (40, .d .np)], [eR42 ([(⟨5, 7⟩ : api_Pair)] : List api_Pair), eR42 ([(⟨5, 8⟩ : api_Pair)] : List api_Pair), eB91 v4, eR44 v9]⟩ ?_
                    obtain ⟨v10, h24, H⟩ := ibC H
                    refine ak_callP (avs := [.d .np]) (dst := some 41) (k' := (K12 111110 21)) [3, 39, 41] [] hP enters_18 (merkle_Tree_Root_n0.says h24) (by kernel_rfl) (hands_none _) (.cons (pass_d _) .nil) (st' := ⟨51, [(3, .ptr 2 0 0 0), (39, .b true), (41, .n .u32 v10)], [eR42 ([(⟨5, 7⟩ : api_Pair)] : List api_Pair), eR42 ([(⟨5, 8⟩ : api_Pair)] : List api_Pair), eB91 v4, eR44 v9]⟩) (by kernel_rfl) ?_
                    refine goK hT 1 (K12 111110 22) ⟨51, [(39, .b true), (41, .n .u32 v10), (42, .ptr 2 0 0 0)], [eR42 ([(⟨5, 7⟩ : api_Pair)] : List api_Pair), eR42 ([(⟨5, 8⟩ : api_Pair)] : List api_Pair), eB91 v4, eR44 v9]⟩ ?_
                    refine ak_callP (avs := [.ptr 2 0 0 0]) (dst := some 43) (k' := (K12 111110 23)) [39, 41, 43] [2] hP enters_18 (merkle_Tree_Root.says v4) (by kernel_rfl) (hands_one rfl rfl) (.cons (.same (.ptr 0 0 0 0)) .nil) (st' := ⟨51, [(39, .b true), (41, .n .u32 v10), (43, .n .u32 (merkle_Tree_Root v4))], [eR42 ([(⟨5, 7⟩ : api_Pair)] : List api_Pair), eR42 ([(⟨5, 8⟩ : api_Pair)] : List api_Pair), eB91 v4, eR44 v9]⟩) (by kernel_rfl) ?_
                    refine goK hT 3 (K12 111110 26) ⟨51, [(46, .b (v10 != (merkle_Tree_Root v4)))], [eR42 ([(⟨5, 7⟩ : api_Pair)] : List api_Pair), eR42 ([(⟨5, 8⟩ : api_Pair)] : List api_Pair), eB91 v4, eR44 v9]⟩ ?_
                    by_cases c25 : v10 = (merkle_Tree_Root v4)
                    · replace H := iT c25 H
                      rw [neF c25]
                      refine goK hT 6 (K12 11111 1) ⟨51, [(0, .b false)], [eR42 ([(⟨5, 7⟩ : api_Pair)] : List api_Pair), eR42 ([(⟨5, 8⟩ : api_Pair)] : List api_Pair), eB91 v4, eR44 v9]⟩ ?_
                      refine cutK [] ⟨51, [(0, .b false)], []⟩ h0 ?_
                      exact Jj2 false H
                    · replace H := iF c25 H
                      rw [neT c25]
                      refine goK hT 1 (K12 111110 27) ⟨51, [(46, .b true), (47, .d (.agg [.i 0, .b false]))], [eR42 ([(⟨5, 7⟩ : api_Pair)] : List api_Pair), eR42 ([(⟨5, 8⟩ : api_Pair)] : List api_Pair), eB91 v4, eR44 v9]⟩ ?_
                      obtain ⟨v11, h26, H⟩ := ibC H
                      refine ak_callP (avs := [.d (.agg [.i 0, .b false])]) (dst := some 48) (k' := (K12 111110 28)) [46, 48] [] hP enters_19 (merkle_Number.says (⟨0, false⟩ : api_Cell) h26) (by kernel_rfl) (hands_none _) (.cons (pass_d _) .nil) (st' := ⟨51, [(46, .b true), (48, .n .u32 v11)], [eR42 ([(⟨5, 7⟩ : api_Pair)] : List api_Pair), eR42 ([(⟨5, 8⟩ : api_Pair)] : List api_Pair), eB91 v4, eR44 v9]⟩) (by kernel_rfl) ?_
                      refine goK hT 4 (K12 11111 1) ⟨51, [(0, .b (v11 == 0))], [eR42 ([(⟨5, 7⟩ : api_Pair)] : List api_Pair), eR42 ([(⟨5, 8⟩ : api_Pair)] : List api_Pair), eB91 v4, eR44 v9]⟩ ?_
                      refine cutK [] ⟨51, [(0, .b (v11 == 0))], []⟩ h0 ?_
                      exact Jj2 (v11 == 0) H
                  · replace H := iF c23 H
                    rw [eqF c23]
                    refine goK hT 13 (K12 11111 1) ⟨51, [(0, .b false)], [eR42 ([(⟨5, 7⟩ : api_Pair)] : List api_Pair), eR42 ([(⟨5, 8⟩ : api_Pair)] : List api_Pair), eB91 v4, eR44 v9]⟩ ?_
                    refine cutK [] ⟨51, [(0, .b false)], []⟩ h0 ?_
                    exact Jj2 false H
                · replace H := iF c22 H
                  rw [eqF c22]
                  by_cases c27 : ((v9.getD 0 api_Span.z).Hi) = 6
                  · replace H := iT c27 H
                    rw [eqT c27]
                    refine goK hT 13 (K12 11111 1) ⟨51, [(0, .b false)], [eR42 ([(⟨5, 7⟩ : api_Pair)] : List api_Pair), eR42 ([(⟨5, 8⟩ : api_Pair)] : List api_Pair), eB91 v4, eR44 v9]⟩ ?_
                    refine cutK [] ⟨51, [(0, .b false)], []⟩ h0 ?_
                    exact Jj2 false H
                  · replace H := iF c27 H
                    rw [eqF c27]
                    refine goK hT 13 (K12 11111 1) ⟨51, [(0, .b false)], [eR42 ([(⟨5, 7⟩ : api_Pair)] : List api_Pair), eR42 ([(⟨5, 8⟩ : api_Pair)] : List api_Pair), eB91 v4, eR44 v9]⟩ ?_
                    refine cutK [] ⟨51, [(0, .b false)], []⟩ h0 ?_
                    exact Jj2 false H
              · replace H := iF c20 H
                rw [eqF c20]
                refine goK hT 20 (K12 11111 1) ⟨51, [(0, .b false)], [eR42 ([(⟨5, 7⟩ : api_Pair)] : List api_Pair), eR42 ([(⟨5, 8⟩ : api_Pair)] : List api_Pair), eB91 v4, eR44 v9]⟩ ?_
                refine cutK [] ⟨51, [(0, .b false)], []⟩ h0 ?_
                exact Jj2 false H
            · replace H := iF c19 H
              rw [eqF c19]
              refine goK hT 25 (K12 11111 1) ⟨51, [(0, .b false)], [eR42 ([(⟨5, 7⟩ : api_Pair)] : List api_Pair), eR42 ([(⟨5, 8⟩ : api_Pair)] : List api_Pair), eB91 v4, eR44 v9]⟩ ?_
              refine cutK [] ⟨51, [(0, .b false)], []⟩ h0 ?_
              exact Jj2 false H
          · replace H := iF c18 H
            rw [eqF c18]
            refine goK hT 29 (K12 11111 1) ⟨51, [(0, .b false)], [eR42 ([(⟨5, 7⟩ : api_Pair)] : List api_Pair), eR42 ([(⟨5, 8⟩ : api_Pair)] : List api_Pair), eB91 v4, eR44 v9]⟩ ?_
            refine cutK [] ⟨51, [(0, .b false)], []⟩ h0 ?_
            exact Jj2 false H
  | some v2 =>
      rw [q2] at H
      replace H := ioptS H
      have Sq2 := merkle_New.says (t0 := false) ([(⟨5, 7⟩ : api_Pair)] : List api_Pair) h1
      rw [q2] at Sq2
      refine ak_callP (avs := [.own 0 2 0 (([(⟨5, 7⟩ : api_Pair)] : List api_Pair).length)]) (dst := some 9) (k' := (K12 110 3)) [9] [] hP enters_10 (Sq2) (by kernel_rfl) (hands_none _) (.cons (.lend (ty := 42) (by kernel_rfl) rfl) .nil) (st' := ⟨51, [(9, .tup [.ptr 1 0 0 0, .i v1.2])], [eR42 ([(⟨5, 7⟩ : api_Pair)] : List api_Pair), eB91 v2]⟩) (by kernel_rfl) ?_
      refine goK hT 10 (K12 1110 2) ⟨51, [(1, .ptr 1 0 0 0), (2, .i v1.2), (14, .own 2 2 0 1)], [eR42 ([(⟨5, 7⟩ : api_Pair)] : List api_Pair), eB91 v2, .flat false 2 42 1 (fun j => [[.i 5, .i 8]].getD j [])]⟩ ?_
      refine ak_row 2 (kk := 2) (fz := false) (ty := 42) (n := ([(⟨5, 8⟩ : api_Pair)] : List api_Pair).length) (vec api_Pair.e api_Pair.z ([(⟨5, 8⟩ : api_Pair)] : List api_Pair)) (by kernel_rfl) vec_lit (st' := ⟨51, [(1, .ptr 1 0 0 0), (2, .i v1.2), (14, .own 2 2 0 (([(⟨5, 8⟩ : api_Pair)] : List api_Pair).length))], [eR42 ([(⟨5, 7⟩ : api_Pair)] : List api_Pair), eB91 v2, eR42 ([(⟨5, 8⟩ : api_Pair)] : List api_Pair)]⟩) (by kernel_rfl) ?_
      obtain ⟨v12, h28, H⟩ := ibC H
      cases q29 : v12.1 with
      | none =>
          rw [q29] at H
          replace H := ioptN H
          have Sq29 := merkle_New.says (t0 := false) ([(⟨5, 8⟩ : api_Pair)] : List api_Pair) h28
          rw [q29] at Sq29
          refine ak_callP (avs := [.own 2 2 0 (([(⟨5, 8⟩ : api_Pair)] : List api_Pair).length)]) (dst := some 15) (k' := (K12 1110 3)) [1, 2, 15] [] hP enters_10 (Sq29) (by kernel_rfl) (hands_none _) (.cons (.lend (ty := 42) (by kernel_rfl) rfl) .nil) (st' := ⟨51, [(1, .ptr 1 0 0 0), (2, .i v1.2), (15, .tup [.d .np, .i v12.2])], [eR42 ([(⟨5, 7⟩ : api_Pair)] : List api_Pair), eB91 v2, eR42 ([(⟨5, 8⟩ : api_Pair)] : List api_Pair)]⟩) (by kernel_rfl) ?_
          refine goK hT 10 (K12 11110 2) ⟨51, [(1, .ptr 1 0 0 0), (2, .i v1.2), (3, .d .np), (4, .i v12.2), (18, .ptr 1 0 0 0), (19, .d .np)], [eR42 ([(⟨5, 7⟩ : api_Pair)] : List api_Pair), eB91 v2, eR42 ([(⟨5, 8⟩ : api_Pair)] : List api_Pair)]⟩ ?_
          obtain ⟨v14, h30, H⟩ := ibC H
          have Jj3 : ∀ (y3_0 : Bool), (splicelaw20_awake.j3 y3_0) = some r → AK X 12 ((K12 11111 1)) (Back X [] (.b r)) ⟨51, [(0, .b y3_0)], []⟩ := by
            intro y3_0 H
            obtain rfl := retC H
            exact ak_ret hf hX (av := .b y3_0) (by kernel_rfl) [] (sel_of_eq (by kernel_rfl)) (by decide) (by rw [h0]; rfl) (by kernel_rfl) (fun _ h => all_nil h) (.d (.v _))
          refine ak_callP (avs := [.ptr 1 0 0 0, .d .np]) (dst := some 20) (k' := (K12 11110 3)) [1, 2, 3, 4, 20] [1] hP enters_14 (merkle_Diff_n1.says v2 h30) (by kernel_rfl) (hands_one rfl rfl) (.cons (.same (.ptr 0 0 0 0)) (.cons (pass_d _) .nil)) (st' := ⟨51, [(1, .ptr 1 0 0 0), (2, .i v1.2), (3, .d .np), (4, .i v12.2), (20, .own 3 2 0 v14.length)], [eR42 ([(⟨5, 7⟩ : api_Pair)] : List api_Pair), eB91 v2, eR42 ([(⟨5, 8⟩ : api_Pair)] : List api_Pair), eR44 v14]⟩) (by kernel_rfl) ?_
          refine goK hT 7 (K12 111110 3) ⟨51, [(1, .ptr 1 0 0 0), (3, .d .np), (4, .i v12.2), (5, .own 3 2 0 v14.length), (23, .b (v1.2 == 0))], [eR42 ([(⟨5, 7⟩ : api_Pair)] : List api_Pair), eB91 v2, eR42 ([(⟨5, 8⟩ : api_Pair)] : List api_Pair), eR44 v14]⟩ ?_
          by_cases c31 : v1.2 = 0
          · replace H := iT c31 H
            rw [eqT c31]
            refine goK hT 4 (K12 111110 7) ⟨51, [(1, .ptr 1 0 0 0), (3, .d .np), (5, .own 3 2 0 v14.length), (27, .b (v12.2 == 0))], [eR42 ([(⟨5, 7⟩ : api_Pair)] : List api_Pair), eB91 v2, eR42 ([(⟨5, 8⟩ : api_Pair)] : List api_Pair), eR44 v14]⟩ ?_
            by_cases c32 : v12.2 = 0
            · replace H := iT c32 H
              rw [eqT c32]
              refine goK hT 5 (K12 111110 12) ⟨51, [(1, .ptr 1 0 0 0), (3, .d .np), (5, .own 3 2 0 v14.length), (32, .b ((v14.length : Int) == 1))], [eR42 ([(⟨5, 7⟩ : api_Pair)] : List api_Pair), eB91 v2, eR42 ([(⟨5, 8⟩ : api_Pair)] : List api_Pair), eR44 v14]⟩ ?_
              by_cases c33 : (v14.length : Int) = 1
              · replace H := iT c33 H
                rw [eqT c33]
                refine goK hT 1 (K12 111110 13) ⟨51, [(1, .ptr 1 0 0 0), (3, .d .np), (32, .b true), (33, .own 3 2 0 v14.length)], [eR42 ([(⟨5, 7⟩ : api_Pair)] : List api_Pair), eB91 v2, eR42 ([(⟨5, 8⟩ : api_Pair)] : List api_Pair), eR44 v14]⟩ ?_
                obtain ⟨h34, H⟩ := iC H
                refine ak_idx hT [1, 3, 32, 34] (i := 0) (n := (v14.length : Int)) h34.1 h34.2 (k' := (K12 111110 14)) (st' := ⟨51, [(1, .ptr 1 0 0 0), (3, .d .np), (32, .b true), (34, .ptr 3 2 0 0)], [eR42 ([(⟨5, 7⟩ : api_Pair)] : List api_Pair), eB91 v2, eR42 ([(⟨5, 8⟩ : api_Pair)] : List api_Pair), eR44 v14]⟩) (by kernel_rfl) ?_
                refine ak_ld hT [1, 3, 32, 35] (i := 0) (n := v14.length) (by omega) (k' := (K12 111110 15)) (st' := ⟨51, [(1, .ptr 1 0 0 0), (3, .d .np), (32, .b true), (35, .d (eG44 (v14.getD 0 api_Span.z)))], [eR42 ([(⟨5, 7⟩ : api_Pair)] : List api_Pair), eB91 v2, eR42 ([(⟨5, 8⟩ : api_Pair)] : List api_Pair), eR44 v14]⟩) (by kernel_rfl) ?_
                refine goK hT 4 (K12 111110 19) ⟨51, [(1, .ptr 1 0 0 0), (3, .d .np), (39, .b ((((v14.getD 0 api_Span.z).Lo) == 5) && (((v14.getD 0 api_Span.z).Hi) == 6)))], [eR42 ([(⟨5, 7⟩ : api_Pair)] : List api_Pair), eB91 v2, eR42 ([(⟨5, 8⟩ : api_Pair)] : List api_Pair), eR44 v14]⟩ ?_
                by_cases c35 : ((v14.getD 0 api_Span.z).Lo) = 5
                · replace H := iT c35 H
                  rw [eqT c35]
                  by_cases c36 : ((v14.getD 0 api_Span.z).Hi) = 6
                  · replace H := iT c36 H
                    rw [eqT c36]
                    refine goK hT 1 (K12 111110 20) ⟨51, [(3, .d .np), (39, .b true), (40, .ptr 1 0 0 0)], [eR42 ([(⟨5, 7⟩ : api_Pair)] : List api_Pair), eB91 v2, eR42 ([(⟨5, 8⟩ : api_Pair)] : List api_Pair), eR44 v14]⟩ ?_
                    refine ak_callP (avs := [.ptr 1 0 0 0]) (dst := some 41) (k' := (K12 111110 21)) [3, 39, 41] [1] hP enters_18 (merkle_Tree_Root.says v2) (by kernel_rfl) (hands_one rfl rfl) (.cons (.same (.ptr 0 0 0 0)) .nil) (st' := ⟨51, [(3, .d .np), (39, .b true), (41, .n .u32 (merkle_Tree_Root v2))], [eR42 ([(⟨5, 7⟩ : api_Pair)] : List api_Pair), eB91 v2, eR42 ([(⟨5, 8⟩ : api_Pair)] : List api_Pair), eR44 v14]⟩) (by kernel_rfl) ?_
                    refine goK hT 1 (K12 111110 22) ⟨51, [(39, .b true), (41, .n .u32 (merkle_Tree_Root v2)), (42, .d .np)], [eR42 ([(⟨5, 7⟩ : api_Pair)] : List api_Pair), eB91 v2, eR42 ([(⟨5, 8⟩ : api_Pair)] : List api_Pair), eR44 v14]⟩ ?_
                    obtain ⟨v15, h37, H⟩ := ibC H
                    refine ak_callP (avs := [.d .np]) (dst := some 43) (k' := (K12 111110 23)) [39, 41, 43] [] hP enters_18 (merkle_Tree_Root_n0.says h37) (by kernel_rfl) (hands_none _) (.cons (pass_d _) .nil) (st' := ⟨51, [(39, .b true), (41, .n .u32 (merkle_Tree_Root v2)), (43, .n .u32 v15)], [eR42 ([(⟨5, 7⟩ : api_Pair)] : List api_Pair), eB91 v2, eR42 ([(⟨5, 8⟩ : api_Pair)] : List api_Pair), eR44 v14]⟩) (by kernel_rfl) ?_
                    refine goK hT 3 (K12 111110 26) ⟨51, [(46, .b ((merkle_Tree_Root v2) != v15))], [eR42 ([(⟨5, 7⟩ : api_Pair)] : List api_Pair), eB91 v2, eR42 ([(⟨5, 8⟩ : api_Pair)] : List api_Pair), eR44 v14]⟩ ?_
                    by_cases c38 : (merkle_Tree_Root v2) = v15
                    · replace H := iT c38 H
                      rw [neF c38]
                      refine goK hT 6 (K12 11111 1) ⟨51, [(0, .b false)], [eR42 ([(⟨5, 7⟩ : api_Pair)] : List api_Pair), eB91 v2, eR42 ([(⟨5, 8⟩ : api_Pair)] : List api_Pair), eR44 v14]⟩ ?_
                      refine cutK [] ⟨51, [(0, .b false)], []⟩ h0 ?_
                      exact Jj3 false H
                    · replace H := iF c38 H
                      rw [neT c38]
                      refine goK hT 1 (K12 111110 27) ⟨51, [(46, .b true), (47, .d (.agg [.i 0, .b false]))], [eR42 ([(⟨5, 7⟩ : api_Pair)] : List api_Pair), eB91 v2, eR42 ([(⟨5, 8⟩ : api_Pair)] : List api_Pair), eR44 v14]⟩ ?_
                      obtain ⟨v16, h39, H⟩ := ibC H
                      refine ak_callP (avs := [.d (.agg [.i 0, .b false])]) (dst := some 48) (k' := (K12 111110 28)) [46, 48] [] hP enters_19 (merkle_Number.says (⟨0, false⟩ : api_Cell) h39) (by kernel_rfl) (hands_none _) (.cons (pass_d _) .nil) (st' := ⟨51, [(46, .b true), (48, .n .u32 v16)], [eR42 ([(⟨5, 7⟩ : api_Pair)] : List api_Pair), eB91 v2, eR42 ([(⟨5, 8⟩ : api_Pair)] : List api_Pair), eR44 v14]⟩) (by kernel_rfl) ?_
                      refine goK hT 4 (K12 11111 1) ⟨51, [(0, .b (v16 == 0))], [eR42 ([(⟨5, 7⟩ : api_Pair)] : List api_Pair), eB91 v2, eR42 ([(⟨5, 8⟩ : api_Pair)] : List api_Pair), eR44 v14]⟩ ?_
                      refine cutK [] ⟨51, [(0, .b (v16 == 0))], []⟩ h0 ?_
                      exact Jj3 (v16 == 0) H
                  · replace H := iF c36 H
                    rw [eqF c36]
                    refine goK hT 13 (K12 11111 1) ⟨51, [(0, .b false)], [eR42 ([(⟨5, 7⟩ : api_Pair)] : List api_Pair), eB91 v2, eR42 ([(⟨5, 8⟩ : api_Pair)] : List api_Pair), eR44 v14]⟩ ?_
                    refine cutK [] ⟨51, [(0, .b false)], []⟩ h0 ?_
                    exact Jj3 false H
                · replace H := iF c35 H
                  rw [eqF c35]
                  by_cases c40 : ((v14.getD 0 api_Span.z).Hi) = 6
                  · replace H := iT c40 H
                    rw [eqT c40]
                    refine goK hT 13 (K12 11111 1) ⟨51, [(0, .b false)], [eR42 ([(⟨5, 7⟩ : api_Pair)] : List api_Pair), eB91 v2, eR42 ([(⟨5, 8⟩ : api_Pair)] : List api_Pair), eR44 v14]⟩ ?_
                    refine cutK [] ⟨51, [(0, .b false)], []⟩ h0 ?_
                    exact Jj3 false H
                  · replace H := iF c40 H
                    rw [eqF c40]
                    refine goK hT 13 (K12 11111 1) ⟨51, [(0, .b false)], [eR42 ([(⟨5, 7⟩ : api_Pair)] : List api_Pair), eB91 v2, eR42 ([(⟨5, 8⟩ : api_Pair)] : List api_Pair), eR44 v14]⟩ ?_
                    refine cutK [] ⟨51, [(0, .b false)], []⟩ h0 ?_
                    exact Jj3 false H
              · replace H := iF c33 H
                rw [eqF c33]
                refine goK hT 20 (K12 11111 1) ⟨51, [(0, .b false)], [eR42 ([(⟨5, 7⟩ : api_Pair)] : List api_Pair), eB91 v2, eR42 ([(⟨5, 8⟩ : api_Pair)] : List api_Pair), eR44 v14]⟩ ?_
                refine cutK [] ⟨51, [(0, .b false)], []⟩ h0 ?_
                exact Jj3 false H
            · replace H := iF c32 H
              rw [eqF c32]
              refine goK hT 25 (K12 11111 1) ⟨51, [(0, .b false)], [eR42 ([(⟨5, 7⟩ : api_Pair)] : List api_Pair), eB91 v2, eR42 ([(⟨5, 8⟩ : api_Pair)] : List api_Pair), eR44 v14]⟩ ?_
              refine cutK [] ⟨51, [(0, .b false)], []⟩ h0 ?_
              exact Jj3 false H
          · replace H := iF c31 H
            rw [eqF c31]
            refine goK hT 29 (K12 11111 1) ⟨51, [(0, .b false)], [eR42 ([(⟨5, 7⟩ : api_Pair)] : List api_Pair), eB91 v2, eR42 ([(⟨5, 8⟩ : api_Pair)] : List api_Pair), eR44 v14]⟩ ?_
            refine cutK [] ⟨51, [(0, .b false)], []⟩ h0 ?_
            exact Jj3 false H
      | some v13 =>
          rw [q29] at H
          replace H := ioptS H
          have Sq29 := merkle_New.says (t0 := false) ([(⟨5, 8⟩ : api_Pair)] : List api_Pair) h28
          rw [q29] at Sq29
          refine ak_callP (avs := [.own 2 2 0 (([(⟨5, 8⟩ : api_Pair)] : List api_Pair).length)]) (dst := some 15) (k' := (K12 1110 3)) [1, 2, 15] [] hP enters_10 (Sq29) (by kernel_rfl) (hands_none _) (.cons (.lend (ty := 42) (by kernel_rfl) rfl) .nil) (st' := ⟨51, [(1, .ptr 1 0 0 0), (2, .i v1.2), (15, .tup [.ptr 3 0 0 0, .i v12.2])], [eR42 ([(⟨5, 7⟩ : api_Pair)] : List api_Pair), eB91 v2, eR42 ([(⟨5, 8⟩ : api_Pair)] : List api_Pair), eB91 v13]⟩) (by kernel_rfl) ?_
          refine goK hT 10 (K12 11110 2) ⟨51, [(1, .ptr 1 0 0 0), (2, .i v1.2), (3, .ptr 3 0 0 0), (4, .i v12.2), (18, .ptr 1 0 0 0), (19, .ptr 3 0 0 0)], [eR42 ([(⟨5, 7⟩ : api_Pair)] : List api_Pair), eB91 v2, eR42 ([(⟨5, 8⟩ : api_Pair)] : List api_Pair), eB91 v13]⟩ ?_
          obtain ⟨v17, h41, H⟩ := ibC H
          have Jj4 : ∀ (y4_0 : Bool), (splicelaw20_awake.j4 y4_0) = some r → AK X 12 ((K12 11111 1)) (Back X [] (.b r)) ⟨51, [(0, .b y4_0)], []⟩ := by
            intro y4_0 H
            obtain rfl := retC H
            exact ak_ret hf hX (av := .b y4_0) (by kernel_rfl) [] (sel_of_eq (by kernel_rfl)) (by decide) (by rw [h0]; rfl) (by kernel_rfl) (fun _ h => all_nil h) (.d (.v _))
          refine ak_callP (avs := [.ptr 1 0 0 0, .ptr 3 0 0 0]) (dst := some 20) (k' := (K12 11110 3)) [1, 2, 3, 4, 20] [1, 3] hP enters_14 (merkle_Diff.says v2 v13 h41) (by kernel_rfl) (hands_two rfl rfl rfl rfl (by decide)) (.cons (.same (.ptr 0 0 0 0)) (.cons (.same (.ptr 1 0 0 0)) .nil)) (st' := ⟨51, [(1, .ptr 1 0 0 0), (2, .i v1.2), (3, .ptr 3 0 0 0), (4, .i v12.2), (20, .own 4 2 0 v17.length)], [eR42 ([(⟨5, 7⟩ : api_Pair)] : List api_Pair), eB91 v2, eR42 ([(⟨5, 8⟩ : api_Pair)] : List api_Pair), eB91 v13, eR44 v17]⟩) (by kernel_rfl) ?_
          refine goK hT 7 (K12 111110 3) ⟨51, [(1, .ptr 1 0 0 0), (3, .ptr 3 0 0 0), (4, .i v12.2), (5, .own 4 2 0 v17.length), (23, .b (v1.2 == 0))], [eR42 ([(⟨5, 7⟩ : api_Pair)] : List api_Pair), eB91 v2, eR42 ([(⟨5, 8⟩ : api_Pair)] : List api_Pair), eB91 v13, eR44 v17]⟩ ?_
          by_cases c42 : v1.2 = 0
          · replace H := iT c42 H
            rw [eqT c42]
            refine goK hT 4 (K12 111110 7) ⟨51, [(1, .ptr 1 0 0 0), (3, .ptr 3 0 0 0), (5, .own 4 2 0 v17.length), (27, .b (v12.2 == 0))], [eR42 ([(⟨5, 7⟩ : api_Pair)] : List api_Pair), eB91 v2, eR42 ([(⟨5, 8⟩ : api_Pair)] : List api_Pair), eB91 v13, eR44 v17]⟩ ?_
            by_cases c43 : v12.2 = 0
            · replace H := iT c43 H
              rw [eqT c43]
              refine goK hT 5 (K12 111110 12) ⟨51, [(1, .ptr 1 0 0 0), (3, .ptr 3 0 0 0), (5, .own 4 2 0 v17.length), (32, .b ((v17.length : Int) == 1))], [eR42 ([(⟨5, 7⟩ : api_Pair)] : List api_Pair), eB91 v2, eR42 ([(⟨5, 8⟩ : api_Pair)] : List api_Pair), eB91 v13, eR44 v17]⟩ ?_
              by_cases c44 : (v17.length : Int) = 1
              · replace H := iT c44 H
                rw [eqT c44]
                refine goK hT 1 (K12 111110 13) ⟨51, [(1, .ptr 1 0 0 0), (3, .ptr 3 0 0 0), (32, .b true), (33, .own 4 2 0 v17.length)], [eR42 ([(⟨5, 7⟩ : api_Pair)] : List api_Pair), eB91 v2, eR42 ([(⟨5, 8⟩ : api_Pair)] : List api_Pair), eB91 v13, eR44 v17]⟩ ?_
                obtain ⟨h45, H⟩ := iC H
                refine ak_idx hT [1, 3, 32, 34] (i := 0) (n := (v17.length : Int)) h45.1 h45.2 (k' := (K12 111110 14)) (st' := ⟨51, [(1, .ptr 1 0 0 0), (3, .ptr 3 0 0 0), (32, .b true), (34, .ptr 4 2 0 0)], [eR42 ([(⟨5, 7⟩ : api_Pair)] : List api_Pair), eB91 v2, eR42 ([(⟨5, 8⟩ : api_Pair)] : List api_Pair), eB91 v13, eR44 v17]⟩) (by kernel_rfl) ?_
                refine ak_ld hT [1, 3, 32, 35] (i := 0) (n := v17.length) (by omega) (k' := (K12 111110 15)) (st' := ⟨51, [(1, .ptr 1 0 0 0), (3, .ptr 3 0 0 0), (32, .b true), (35, .d (eG44 (v17.getD 0 api_Span.z)))], [eR42 ([(⟨5, 7⟩ : api_Pair)] : List api_Pair), eB91 v2, eR42 ([(⟨5, 8⟩ : api_Pair)] : List api_Pair), eB91 v13, eR44 v17]⟩) (by kernel_rfl) ?_
                refine goK hT 4 (K12 111110 19) ⟨51, [(1, .ptr 1 0 0 0), (3, .ptr 3 0 0 0), (39, .b ((((v17.getD 0 api_Span.z).Lo) == 5) && (((v17.getD 0 api_Span.z).Hi) == 6)))], [eR42 ([(⟨5, 7⟩ : api_Pair)] : List api_Pair), eB91 v2, eR42 ([(⟨5, 8⟩ : api_Pair)] : List api_Pair), eB91 v13, eR44 v17]⟩ ?_
                by_cases c46 : ((v17.getD 0 api_Span.z).Lo) = 5
                · replace H := iT c46 H
                  rw [eqT c46]
                  by_cases c47 : ((v17.getD 0 api_Span.z).Hi) = 6
                  · replace H := iT c47 H
                    rw [eqT c47]
                    refine goK hT 1 (K12 111110 20) ⟨51, [(3, .ptr 3 0 0 0), (39, .b true), (40, .ptr 1 0 0 0)], [eR42 ([(⟨5, 7⟩ : api_Pair)] : List api_Pair), eB91 v2, eR42 ([(⟨5, 8⟩ : api_Pair)] : List api_Pair), eB91 v13, eR44 v17]⟩ ?_
                    refine ak_callP (avs := [.ptr 1 0 0 0]) (dst := some 41) (k' := (K12 111110 21)) [3, 39, 41] [1] hP enters_18 (merkle_Tree_Root.says v2) (by kernel_rfl) (hands_one rfl rfl) (.cons (.same (.ptr 0 0 0 0)) .nil) (st' := ⟨51, [(3, .ptr 3 0 0 0), (39, .b true), (41, .n .u32 (merkle_Tree_Root v2))], [eR42 ([(⟨5, 7⟩ : api_Pair)] : List api_Pair), eB91 v2, eR42 ([(⟨5, 8⟩ : api_Pair)] : List api_Pair), eB91 v13, eR44 v17]⟩) (by kernel_rfl) ?_
                    refine goK hT 1 (K12 111110 22) ⟨51, [(39, .b true), (41, .n .u32 (merkle_Tree_Root v2)), (42, .ptr 3 0 0 0)], [eR42 ([(⟨5, 7⟩ : api_Pair)] : List api_Pair), eB91 v2, eR42 ([(⟨5, 8⟩ : api_Pair)] : List api_Pair), eB91 v13, eR44 v17]⟩ ?_
                    refine ak_callP (avs := [.ptr 3 0 0 0]) (dst := some 43) (k' := (K12 111110 23)) [39, 41, 43] [3] hP enters_18 (merkle_Tree_Root.says v13) (by kernel_rfl) (hands_one rfl rfl) (.cons (.same (.ptr 0 0 0 0)) .nil) (st' := ⟨51, [(39, .b true), (41, .n .u32 (merkle_Tree_Root v2)), (43, .n .u32 (merkle_Tree_Root v13))], [eR42 ([(⟨5, 7⟩ : api_Pair)] : List api_Pair), eB91 v2, eR42 ([(⟨5, 8⟩ : api_Pair)] : List api_Pair), eB91 v13, eR44 v17]⟩) (by kernel_rfl) ?_
                    refine goK hT 3 (K12 111110 26) ⟨51, [(46, .b ((merkle_Tree_Root v2) != (merkle_Tree_Root v13)))], [eR42 ([(⟨5, 7⟩ : api_Pair)] : List api_Pair), eB91 v2, eR42 ([(⟨5, 8⟩ : api_Pair)] : List api_Pair), eB91 v13, eR44 v17]⟩ ?_
                    by_cases c48 : (merkle_Tree_Root v2) = (merkle_Tree_Root v13)
                    · replace H := iT c48 H
                      rw [neF c48]
                      refine goK hT 6 (K12 11111 1) ⟨51, [(0, .b false)], [eR42 ([(⟨5, 7⟩ : api_Pair)] : List api_Pair), eB91 v2, eR42 ([(⟨5, 8⟩ : api_Pair)] : List api_Pair), eB91 v13, eR44 v17]⟩ ?_
                      refine cutK [] ⟨51, [(0, .b false)], []⟩ h0 ?_
                      exact Jj4 false H
                    · replace H := iF c48 H
                      rw [neT c48]
                      refine goK hT 1 (K12 111110 27) ⟨51, [(46, .b true), (47, .d (.agg [.i 0, .b false]))], [eR42 ([(⟨5, 7⟩ : api_Pair)] : List api_Pair), eB91 v2, eR42 ([(⟨5, 8⟩ : api_Pair)] : List api_Pair), eB91 v13, eR44 v17]⟩ ?_
                      obtain ⟨v18, h49, H⟩ := ibC H
                      refine ak_callP (avs := [.d (.agg [.i 0, .b false])]) (dst := some 48) (k' := (K12 111110 28)) [46, 48] [] hP enters_19 (merkle_Number.says (⟨0, false⟩ : api_Cell) h49) (by kernel_rfl) (hands_none _) (.cons (pass_d _) .nil) (st' := ⟨51, [(46, .b true), (48, .n .u32 v18)], [eR42 ([(⟨5, 7⟩ : api_Pair)] : List api_Pair), eB91 v2, eR42 ([(⟨5, 8⟩ : api_Pair)] : List api_Pair), eB91 v13, eR44 v17]⟩) (by kernel_rfl) ?_
                      refine goK hT 4 (K12 11111 1) ⟨51, [(0, .b (v18 == 0))], [eR42 ([(⟨5, 7⟩ : api_Pair)] : List api_Pair), eB91 v2, eR42 ([(⟨5, 8⟩ : api_Pair)] : List api_Pair), eB91 v13, eR44 v17]⟩ ?_
                      refine cutK [] ⟨51, [(0, .b (v18 == 0))], []⟩ h0 ?_
                      exact Jj4 (v18 == 0) H
                  · replace H := iF c47 H
                    rw [eqF c47]
                    refine goK hT 13 (K12 11111 1) ⟨51, [(0, .b false)], [eR42 ([(⟨5, 7⟩ : api_Pair)] : List api_Pair), eB91 v2, eR42 ([(⟨5, 8⟩ : api_Pair)] : List api_Pair), eB91 v13, eR44 v17]⟩ ?_
                    refine cutK [] ⟨51, [(0, .b false)], []⟩ h0 ?_
                    exact Jj4 false H
                · replace H := iF c46 H
                  rw [eqF c46]
                  by_cases c50 : ((v17.getD 0 api_Span.z).Hi) = 6
                  · replace H := iT c50 H
                    rw [eqT c50]
                    refine goK hT 13 (K12 11111 1) ⟨51, [(0, .b false)], [eR42 ([(⟨5, 7⟩ : api_Pair)] : List api_Pair), eB91 v2, eR42 ([(⟨5, 8⟩ : api_Pair)] : List api_Pair), eB91 v13, eR44 v17]⟩ ?_
                    refine cutK [] ⟨51, [(0, .b false)], []⟩ h0 ?_
                    exact Jj4 false H
                  · replace H := iF c50 H
                    rw [eqF c50]
                    refine goK hT 13 (K12 11111 1) ⟨51, [(0, .b false)], [eR42 ([(⟨5, 7⟩ : api_Pair)] : List api_Pair), eB91 v2, eR42 ([(⟨5, 8⟩ : api_Pair)] : List api_Pair), eB91 v13, eR44 v17]⟩ ?_
                    refine cutK [] ⟨51, [(0, .b false)], []⟩ h0 ?_
                    exact Jj4 false H
              · replace H := iF c44 H
                rw [eqF c44]
                refine goK hT 20 (K12 11111 1) ⟨51, [(0, .b false)], [eR42 ([(⟨5, 7⟩ : api_Pair)] : List api_Pair), eB91 v2, eR42 ([(⟨5, 8⟩ : api_Pair)] : List api_Pair), eB91 v13, eR44 v17]⟩ ?_
                refine cutK [] ⟨51, [(0, .b false)], []⟩ h0 ?_
                exact Jj4 false H
            · replace H := iF c43 H
              rw [eqF c43]
              refine goK hT 25 (K12 11111 1) ⟨51, [(0, .b false)], [eR42 ([(⟨5, 7⟩ : api_Pair)] : List api_Pair), eB91 v2, eR42 ([(⟨5, 8⟩ : api_Pair)] : List api_Pair), eB91 v13, eR44 v17]⟩ ?_
              refine cutK [] ⟨51, [(0, .b false)], []⟩ h0 ?_
              exact Jj4 false H
          · replace H := iF c42 H
            rw [eqF c42]
            refine goK hT 29 (K12 11111 1) ⟨51, [(0, .b false)], [eR42 ([(⟨5, 7⟩ : api_Pair)] : List api_Pair), eB91 v2, eR42 ([(⟨5, 8⟩ : api_Pair)] : List api_Pair), eB91 v13, eR44 v17]⟩ ?_
            refine cutK [] ⟨51, [(0, .b false)], []⟩ h0 ?_
            exact Jj4 false H


theorem splicelaw05_Refs.says {t0 : Bool} (a0 : List api_Pair) {r : List spliceref04_Pair} (H : splicelaw05_Refs a0 = some r) : Says Try.prog 22 [] [.d (eL42 t0 a0)] [eR94 r] (.own 0 2 0 r.length) := by
  refine says_of Try.func22 rfl (nt := 19) rfl (Nat.le_of_ble_eq_true rfl) fun X hP h0 hX => ?_
  have hT : TabOk X.P T := hP ▸ tok
  have hf : X.P.funcs[22]? = some Try.f22 := hP ▸ Try.func22
  refine goK hT 15 (K22 111010 0) ⟨19, [(0, .d (eL42 t0 a0)), (3, .ns), (4, .i 0)], []⟩ ?_
  refine ak_nilS [0, 3, 4] 3 2 94 (vec spliceref04_Pair.e spliceref04_Pair.z []) (st' := ⟨19, [(0, .d (eL42 t0 a0)), (3, .own 0 2 0 0), (4, .i 0)], [eR94 ([] : List spliceref04_Pair)]⟩) (by kernel_rfl) (by kernel_rfl) ?_
  have L : ∀ n, (∀ (x1_4 : Int) (x1_r0 : List spliceref04_Pair), iter (splicelaw05_Refs.step a0) n (.l1 x1_4 x1_r0) = some r → AK X 22 ((K22 111010 0)) (Back X [eR94 r] (.own 0 2 0 r.length)) ⟨19, [(0, .d (eL42 t0 a0)), (3, .own 0 2 0 x1_r0.length), (4, .i x1_4)], [eR94 x1_r0]⟩) := by
    intro n
    induction n with
    | zero => exact fun _ _ H => iter0 H
    | succ n ih =>
      · intro x1_4 x1_r0 H
        refine goK hT 8 (K22 11101000 1) ⟨19, [(0, .d (eL42 t0 a0)), (3, .own 0 2 0 x1_r0.length), (4, .i x1_4), (8, .b (decide (x1_4 < (a0.length : Int))))], [eR94 x1_r0]⟩ ?_
        by_cases c1 : x1_4 < (a0.length : Int)
        · replace H := sT c1 H
          rw [decide_eq_true c1]
          refine goK hT 2 (K22 1110100 1) ⟨19, [(0, .d (eL42 t0 a0)), (3, .own 0 2 0 x1_r0.length), (4, .i x1_4)], [eR94 x1_r0]⟩ ?_
          refine goK hT 6 (K22 1110100100 3) ⟨19, [(0, .d (eL42 t0 a0)), (4, .i x1_4), (11, .own 0 2 0 x1_r0.length), (12, .d (eL42 t0 a0)), (13, .i x1_4)], [eR94 x1_r0]⟩ ?_
          obtain ⟨h2, H⟩ := sC H
          refine ak_idx hT [0, 4, 11, 14] (i := x1_4) (n := (a0.length : Int)) h2.1 h2.2 (k' := (K22 1110100100 4)) (st' := ⟨19, [(0, .d (eL42 t0 a0)), (4, .i x1_4), (11, .own 0 2 0 x1_r0.length), (14, .d (eP42 t0 a0 x1_4.toNat 0))], [eR94 x1_r0]⟩) (by kernel_rfl) ?_
          refine goK hT 2 (K22 1110100100 6) ⟨19, [(0, .d (eL42 t0 a0)), (4, .i x1_4), (11, .own 0 2 0 x1_r0.length), (16, .own 1 2 0 1)], [eR94 x1_r0, .flat false 2 94 1 (fun j => [api_Pair.e (a0.getD x1_4.toNat api_Pair.z)].getD j [])]⟩ ?_
          obtain ⟨h3, H⟩ := sC H
          refine ak_append1 (id := 0) (kk := 2) (by' := 16) (t := 53) (e := 94) (z := [.int .i64 0, .int .i64 0]) (dst := some 17) (id2 := 1) (e2 := 94) (fz := false) (k' := (K22 1110100100 7)) hT spliceref04_Pair.e spliceref04_Pair.z x1_r0 (⟨(a0.getD x1_4.toNat api_Pair.z).Key, (a0.getD x1_4.toNat api_Pair.z).Val⟩ : spliceref04_Pair) [0, 4, 17] (by kernel_rfl) (by kernel_rfl) (by kernel_rfl) (by kernel_rfl) (by kernel_rfl) (by kernel_rfl) (by kernel_rfl) h3 (by omega) (st' := ⟨19, [(0, .d (eL42 t0 a0)), (4, .i x1_4), (17, .own 2 2 0 ((x1_r0 ++ [(⟨(a0.getD x1_4.toNat api_Pair.z).Key, (a0.getD x1_4.toNat api_Pair.z).Val⟩ : spliceref04_Pair)]).length))], [.gone, .flat false 2 94 1 (fun j => [api_Pair.e (a0.getD x1_4.toNat api_Pair.z)].getD j []), eR94 (x1_r0 ++ [(⟨(a0.getD x1_4.toNat api_Pair.z).Key, (a0.getD x1_4.toNat api_Pair.z).Val⟩ : spliceref04_Pair)])]⟩) (by kernel_rfl) ?_
          refine goK hT 9 (K22 111010 0) ⟨19, [(0, .d (eL42 t0 a0)), (3, .own 2 2 0 ((x1_r0 ++ [(⟨(a0.getD x1_4.toNat api_Pair.z).Key, (a0.getD x1_4.toNat api_Pair.z).Val⟩ : spliceref04_Pair)]).length)), (4, .i (IntKind.wrap .i64 (x1_4 + 1)))], [.gone, .flat false 2 94 1 (fun j => [api_Pair.e (a0.getD x1_4.toNat api_Pair.z)].getD j []), eR94 (x1_r0 ++ [(⟨(a0.getD x1_4.toNat api_Pair.z).Key, (a0.getD x1_4.toNat api_Pair.z).Val⟩ : spliceref04_Pair)])]⟩ ?_
          refine cutK [2] ⟨19, [(0, .d (eL42 t0 a0)), (3, .own 0 2 0 (x1_r0 ++ [(⟨(a0.getD x1_4.toNat api_Pair.z).Key, (a0.getD x1_4.toNat api_Pair.z).Val⟩ : spliceref04_Pair)]).length), (4, .i (IntKind.wrap .i64 (x1_4 + 1)))], [eR94 (x1_r0 ++ [(⟨(a0.getD x1_4.toNat api_Pair.z).Key, (a0.getD x1_4.toNat api_Pair.z).Val⟩ : spliceref04_Pair)])]⟩ h0 ?_
          exact ih (IntKind.wrap .i64 (x1_4 + 1)) (x1_r0 ++ [(⟨(a0.getD x1_4.toNat api_Pair.z).Key, (a0.getD x1_4.toNat api_Pair.z).Val⟩ : spliceref04_Pair)]) H
        · replace H := sF c1 H
          rw [decide_eq_false c1]
          refine goK hT 7 (K22 1111 1) ⟨19, [(2, .own 0 2 0 x1_r0.length)], [eR94 x1_r0]⟩ ?_
          obtain rfl := retC H
          exact ak_ret hf hX (av := .own 0 2 0 x1_r0.length) (by kernel_rfl) [0] (sel_of_eq (by kernel_rfl)) (by decide) (by rw [h0]; rfl) (by kernel_rfl) (fun _ h => all_cons (nr_vec spliceref04_Pair.nl) (fun _ h => all_nil h) h) (.own _ _ _ _)
  refine cutK [0] ⟨19, [(0, .d (eL42 t0 a0)), (3, .own 0 2 0 ([] : List spliceref04_Pair).length), (4, .i 0)], [eR94 ([] : List spliceref04_Pair)]⟩ h0 ?_
  obtain ⟨n, H⟩ := loopC H
  exact (L n) 0 ([] : List spliceref04_Pair) H


theorem spliceref02_Sum.says (a0 : ByteArray) {r : Int} (H : spliceref02_Sum a0 = some r) : Says Try.prog 41 [] [.s a0] [] (.n .u32 r) := by
  refine says_of Try.func41 rfl (nt := 37) rfl (Nat.le_of_ble_eq_true rfl) fun X hP h0 hX => ?_
  have hT : TabOk X.P T := hP ▸ tok
  have hf : X.P.funcs[41]? = some Try.f41 := hP ▸ Try.func41
  refine goK hT 15 (K41 111010 0) ⟨37, [(0, .s a0), (3, .n .u32 4294967295), (4, .i 0)], []⟩ ?_
  have L : ∀ n, (∀ (x1_3 : Int) (x1_4 : Int), iter (spliceref02_Sum.step a0) n (.l1 x1_3 x1_4) = some r → AK X 41 ((K41 111010 0)) (Back X [] (.n .u32 r)) ⟨37, [(0, .s a0), (3, .n .u32 x1_3), (4, .i x1_4)], []⟩) ∧ (∀ (x2_3 : Int) (x2_4 : Int) (x2_5 : Int), iter (spliceref02_Sum.step a0) n (.l2 x2_3 x2_4 x2_5) = some r → AK X 41 ((K41 111010010010 0)) (Back X [] (.n .u32 r)) ⟨37, [(0, .s a0), (3, .n .u32 x2_3), (4, .i x2_4), (5, .i x2_5)], []⟩) := by
    intro n
    induction n with
    | zero => exact ⟨fun _ _ H => iter0 H, fun _ _ _ H => iter0 H⟩
    | succ n ih =>
      refine ⟨?_, ?_⟩
      · intro x1_3 x1_4 H
        refine goK hT 8 (K41 11101000 1) ⟨37, [(0, .s a0), (3, .n .u32 x1_3), (4, .i x1_4), (11, .b (decide (x1_4 < (a0.size : Int))))], []⟩ ?_
        by_cases c1 : x1_4 < (a0.size : Int)
        · replace H := sT c1 H
          rw [decide_eq_true c1]
          refine goK hT 2 (K41 1110100 1) ⟨37, [(0, .s a0), (3, .n .u32 x1_3), (4, .i x1_4)], []⟩ ?_
          refine goK hT 8 (K41 111010010010 0) ⟨37, [(0, .s a0), (3, .n .u32 x1_3), (4, .i x1_4), (5, .i 0)], []⟩ ?_
          refine cutK [] ⟨37, [(0, .s a0), (3, .n .u32 x1_3), (4, .i x1_4), (5, .i 0)], []⟩ h0 ?_
          exact ih.2 x1_3 x1_4 0 H
        · replace H := sF c1 H
          rw [decide_eq_false c1]
          refine goK hT 8 (K41 1111 1) ⟨37, [(2, .n .u32 (IntKind.wrap .u32 (4294967295 - x1_3)))], []⟩ ?_
          obtain rfl := retC H
          exact ak_ret hf hX (av := .n .u32 (IntKind.wrap .u32 (4294967295 - x1_3))) (by kernel_rfl) [] (sel_of_eq (by kernel_rfl)) (by decide) (by rw [h0]; rfl) (by kernel_rfl) (fun _ h => all_nil h) (.d (.v _))
      · intro x2_3 x2_4 x2_5 H
        refine goK hT 6 (K41 11101001001000 1) ⟨37, [(0, .s a0), (3, .n .u32 x2_3), (4, .i x2_4), (5, .i x2_5), (15, .b (decide (x2_5 < 8)))], []⟩ ?_
        by_cases c2 : x2_5 < 8
        · replace H := sT c2 H
          rw [decide_eq_true c2]
          refine goK hT 2 (K41 1110100100100 1) ⟨37, [(0, .s a0), (3, .n .u32 x2_3), (4, .i x2_4), (5, .i x2_5)], []⟩ ?_
          refine goK hT 6 (K41 11101001001001000 2) ⟨37, [(0, .s a0), (3, .n .u32 x2_3), (4, .i x2_4), (5, .i x2_5), (18, .s a0), (19, .i x2_4)], []⟩ ?_
          obtain ⟨h3, H⟩ := sC H
          refine ak_idx hT [0, 3, 4, 5, 20] (i := x2_4) (n := (a0.size : Int)) h3.1 h3.2 (k' := (K41 11101001001001000 3)) (st' := ⟨37, [(0, .s a0), (3, .n .u32 x2_3), (4, .i x2_4), (5, .i x2_5), (20, .n .u8 (byteAt a0 x2_4))], []⟩) (by kernel_rfl) ?_
          refine goK hT 2 (K41 11101001001001000 5) ⟨37, [(0, .s a0), (3, .n .u32 x2_3), (4, .i x2_4), (5, .i x2_5), (20, .n .u8 (byteAt a0 x2_4)), (22, .n .u64 (IntKind.wrap .u64 x2_5))], []⟩ ?_
          obtain ⟨h4, H⟩ := sC H
          refine ak_bin (op := .shr) (t := 5) (u := .int .u8 (byteAt a0 x2_4)) (v := .int .u64 (IntKind.wrap .u64 x2_5)) (z := .int .u8 (Int.fdiv (byteAt a0 x2_4) (2 ^ (min (IntKind.wrap .u64 x2_5).toNat 8)))) (dst := some 23) (k' := (K41 11101001001001000 6)) hT [0, 3, 4, 5, 23] (by kernel_rfl) (by simp only [binV, if_pos h4]; rfl) (st' := ⟨37, [(0, .s a0), (3, .n .u32 x2_3), (4, .i x2_4), (5, .i x2_5), (23, .n .u8 (Int.fdiv (byteAt a0 x2_4) (2 ^ (min (IntKind.wrap .u64 x2_5).toNat 8))))], []⟩) (by kernel_rfl) ?_
          refine goK hT 3 (K41 11101001001001000 9) ⟨37, [(0, .s a0), (3, .n .u32 x2_3), (4, .i x2_4), (5, .i x2_5), (6, .n .u32 (Int.tmod (IntKind.wrap .u32 (Int.fdiv (byteAt a0 x2_4) (2 ^ (min (IntKind.wrap .u64 x2_5).toNat 8)))) 2))], []⟩ ?_
          obtain ⟨v1, h5, H⟩ := sdC H
          have Jj1 : ∀ (y1_3 : Int), stk (spliceref02_Sum.j1 x2_4 x2_5 y1_3) (iter (spliceref02_Sum.step a0) n) = some r → AK X 41 ((K41 11101001001001 1)) (Back X [] (.n .u32 r)) ⟨37, [(0, .s a0), (3, .n .u32 y1_3), (4, .i x2_4), (5, .i x2_5)], []⟩ := by
            intro y1_3 H
            refine goK hT 6 (K41 111010010010 0) ⟨37, [(0, .s a0), (3, .n .u32 y1_3), (4, .i x2_4), (5, .i (IntKind.wrap .i64 (x2_5 + 1)))], []⟩ ?_
            refine cutK [] ⟨37, [(0, .s a0), (3, .n .u32 y1_3), (4, .i x2_4), (5, .i (IntKind.wrap .i64 (x2_5 + 1)))], []⟩ h0 ?_
            exact ih.2 y1_3 x2_4 (IntKind.wrap .i64 (x2_5 + 1)) H
          rw [← h5]
          refine goK hT 19 (K41 1110100100100100111 1) ⟨37, [(0, .s a0), (3, .n .u32 (IntKind.wrap .u32 (Int.tdiv x2_3 2))), (4, .i x2_4), (5, .i x2_5), (32, .b ((Int.tmod x2_3 2) != v1))], []⟩ ?_
          by_cases c6 : (Int.tmod x2_3 2) = v1
          · replace H := sT c6 H
            rw [neF c6]
            refine goK hT 3 (K41 11101001001001 1) ⟨37, [(0, .s a0), (3, .n .u32 (IntKind.wrap .u32 (Int.tdiv x2_3 2))), (4, .i x2_4), (5, .i x2_5)], []⟩ ?_
            refine cutK [] ⟨37, [(0, .s a0), (3, .n .u32 (IntKind.wrap .u32 (Int.tdiv x2_3 2))), (4, .i x2_4), (5, .i x2_5)], []⟩ h0 ?_
            exact Jj1 (IntKind.wrap .u32 (Int.tdiv x2_3 2)) H
          · replace H := sF c6 H
            rw [neT c6]
            refine goK hT 7 (K41 11101001001001 1) ⟨37, [(0, .s a0), (3, .n .u32 (bXor .u32 (IntKind.wrap .u32 (Int.tdiv x2_3 2)) 3988292384)), (4, .i x2_4), (5, .i x2_5)], []⟩ ?_
            refine cutK [] ⟨37, [(0, .s a0), (3, .n .u32 (bXor .u32 (IntKind.wrap .u32 (Int.tdiv x2_3 2)) 3988292384)), (4, .i x2_4), (5, .i x2_5)], []⟩ h0 ?_
            exact Jj1 (bXor .u32 (IntKind.wrap .u32 (Int.tdiv x2_3 2)) 3988292384) H
        · replace H := sF c2 H
          rw [decide_eq_false c2]
          refine goK hT 9 (K41 111010 0) ⟨37, [(0, .s a0), (3, .n .u32 x2_3), (4, .i (IntKind.wrap .i64 (x2_4 + 1)))], []⟩ ?_
          refine cutK [] ⟨37, [(0, .s a0), (3, .n .u32 x2_3), (4, .i (IntKind.wrap .i64 (x2_4 + 1)))], []⟩ h0 ?_
          exact ih.1 x2_3 (IntKind.wrap .i64 (x2_4 + 1)) H
  refine cutK [] ⟨37, [(0, .s a0), (3, .n .u32 4294967295), (4, .i 0)], []⟩ h0 ?_
  obtain ⟨n, H⟩ := loopC H
  exact (L n).1 4294967295 0 H


theorem spliceref20_Number.says (a0 : spliceref05_Cell) {r : Int} (H : spliceref20_Number a0 = some r) : Says Try.prog 20 [] [.d (eG51 a0)] [] (.n .u32 r) := by
  refine says_of Try.func20 rfl (nt := 29) rfl (Nat.le_of_ble_eq_true rfl) fun X hP h0 hX => ?_
  have hT : TabOk X.P T := hP ▸ tok
  have hf : X.P.funcs[20]? = some Try.f20 := hP ▸ Try.func20
  refine goK hT 12 (K20 110 1) ⟨29, [(1, .ptr 0 0 0 0), (8, .b (!a0.Some))], [.box 51 (eC51 a0)]⟩ ?_
  by_cases c1 : a0.Some = true
  · replace H := iT c1 H
    rw [c1]
    refine goK hT 2 (K20 11 1) ⟨29, [(1, .ptr 0 0 0 0)], [.box 51 (eC51 a0)]⟩ ?_
    refine goK hT 19 (K20 11111010 0) ⟨29, [(3, .n .u64 (IntKind.wrap .u64 a0.Val)), (4, .own 1 1 0 1), (5, .i 7)], [.box 51 (eC51 a0), .flat false 1 5 1 (fun j => [[.n .u8 1]].getD j [])]⟩ ?_
    refine ak_row 1 (kk := 1) (fz := false) (ty := 5) (n := ([1] : List Int).length) (vec (eI .u8) 0 ([1] : List Int)) (by kernel_rfl) vec_lit (st' := ⟨29, [(3, .n .u64 (IntKind.wrap .u64 a0.Val)), (4, .own 1 1 0 (([1] : List Int).length)), (5, .i 7)], [.box 51 (eC51 a0), eR5 ([1] : List Int)]⟩) (by kernel_rfl) ?_
    have L : ∀ n, (∀ (x1_5 : Int) (x1_r0 : List Int), iter (spliceref20_Number.step a0) n (.l1 x1_5 x1_r0) = some r → AK X 20 ((K20 11111010 0)) (Back X [] (.n .u32 r)) ⟨29, [(3, .n .u64 (IntKind.wrap .u64 a0.Val)), (4, .own 0 1 0 x1_r0.length), (5, .i x1_5)], [eR5 x1_r0]⟩) := by
      intro n
      induction n with
      | zero => exact fun _ _ H => iter0 H
      | succ n ih =>
        · intro x1_5 x1_r0 H
          refine goK hT 6 (K20 1111101000 1) ⟨29, [(3, .n .u64 (IntKind.wrap .u64 a0.Val)), (4, .own 0 1 0 x1_r0.length), (5, .i x1_5), (14, .b (decide (x1_5 ≥ 0)))], [eR5 x1_r0]⟩ ?_
          by_cases c2 : x1_5 ≥ 0
          · replace H := sT c2 H
            rw [decide_eq_true c2]
            refine goK hT 2 (K20 111110100 1) ⟨29, [(3, .n .u64 (IntKind.wrap .u64 a0.Val)), (4, .own 0 1 0 x1_r0.length), (5, .i x1_5)], [eR5 x1_r0]⟩ ?_
            refine goK hT 8 (K20 111110100100 5) ⟨29, [(3, .n .u64 (IntKind.wrap .u64 a0.Val)), (5, .i x1_5), (17, .own 0 1 0 x1_r0.length), (18, .n .u64 (IntKind.wrap .u64 a0.Val)), (21, .n .u64 (IntKind.wrap .u64 (IntKind.wrap .i64 (8 * x1_5))))], [eR5 x1_r0]⟩ ?_
            obtain ⟨h4, H⟩ := sC H
            refine ak_bin (op := .shr) (t := 40) (u := .int .u64 (IntKind.wrap .u64 a0.Val)) (v := .int .u64 (IntKind.wrap .u64 (IntKind.wrap .i64 (8 * x1_5)))) (z := .int .u64 (Int.fdiv (IntKind.wrap .u64 a0.Val) (2 ^ (min (IntKind.wrap .u64 (IntKind.wrap .i64 (8 * x1_5))).toNat 64)))) (dst := some 22) (k' := (K20 111110100100 6)) hT [3, 5, 17, 22] (by kernel_rfl) (by simp only [binV, if_pos h4]; rfl) (st' := ⟨29, [(3, .n .u64 (IntKind.wrap .u64 a0.Val)), (5, .i x1_5), (17, .own 0 1 0 x1_r0.length), (22, .n .u64 (Int.fdiv (IntKind.wrap .u64 a0.Val) (2 ^ (min (IntKind.wrap .u64 (IntKind.wrap .i64 (8 * x1_5))).toNat 64))))], [eR5 x1_r0]⟩) (by kernel_rfl) ?_
            refine goK hT 2 (K20 111110100100 8) ⟨29, [(3, .n .u64 (IntKind.wrap .u64 a0.Val)), (5, .i x1_5), (17, .own 0 1 0 x1_r0.length), (24, .own 1 1 0 1)], [eR5 x1_r0, .flat false 1 5 1 (fun j => [[.n .u8 (IntKind.wrap .u8 (Int.fdiv (IntKind.wrap .u64 a0.Val) (2 ^ (min (IntKind.wrap .u64 (IntKind.wrap .i64 (8 * x1_5))).toNat 64))))]].getD j [])]⟩ ?_
            obtain ⟨h5, H⟩ := sC H
            refine ak_append1 (id := 0) (kk := 1) (by' := 1) (t := 92) (e := 5) (z := [.int .u8 0]) (dst := some 25) (id2 := 1) (e2 := 5) (fz := false) (k' := (K20 111110100100 9)) hT (eI .u8) 0 x1_r0 (IntKind.wrap .u8 (Int.fdiv (IntKind.wrap .u64 a0.Val) (2 ^ (min (IntKind.wrap .u64 (IntKind.wrap .i64 (8 * x1_5))).toNat 64)))) [3, 5, 25] (by kernel_rfl) (by kernel_rfl) (by kernel_rfl) (by kernel_rfl) (by kernel_rfl) (by kernel_rfl) (by kernel_rfl) h5 (by omega) (st' := ⟨29, [(3, .n .u64 (IntKind.wrap .u64 a0.Val)), (5, .i x1_5), (25, .own 2 1 0 ((x1_r0 ++ [IntKind.wrap .u8 (Int.fdiv (IntKind.wrap .u64 a0.Val) (2 ^ (min (IntKind.wrap .u64 (IntKind.wrap .i64 (8 * x1_5))).toNat 64)))]).length))], [.gone, .flat false 1 5 1 (fun j => [[.n .u8 (IntKind.wrap .u8 (Int.fdiv (IntKind.wrap .u64 a0.Val) (2 ^ (min (IntKind.wrap .u64 (IntKind.wrap .i64 (8 * x1_5))).toNat 64))))]].getD j []), eR5 (x1_r0 ++ [IntKind.wrap .u8 (Int.fdiv (IntKind.wrap .u64 a0.Val) (2 ^ (min (IntKind.wrap .u64 (IntKind.wrap .i64 (8 * x1_5))).toNat 64)))])]⟩) (by kernel_rfl) ?_
            refine goK hT 9 (K20 11111010 0) ⟨29, [(3, .n .u64 (IntKind.wrap .u64 a0.Val)), (4, .own 2 1 0 ((x1_r0 ++ [IntKind.wrap .u8 (Int.fdiv (IntKind.wrap .u64 a0.Val) (2 ^ (min (IntKind.wrap .u64 (IntKind.wrap .i64 (8 * x1_5))).toNat 64)))]).length)), (5, .i (IntKind.wrap .i64 (x1_5 - 1)))], [.gone, .flat false 1 5 1 (fun j => [[.n .u8 (IntKind.wrap .u8 (Int.fdiv (IntKind.wrap .u64 a0.Val) (2 ^ (min (IntKind.wrap .u64 (IntKind.wrap .i64 (8 * x1_5))).toNat 64))))]].getD j []), eR5 (x1_r0 ++ [IntKind.wrap .u8 (Int.fdiv (IntKind.wrap .u64 a0.Val) (2 ^ (min (IntKind.wrap .u64 (IntKind.wrap .i64 (8 * x1_5))).toNat 64)))])]⟩ ?_
            refine cutK [2] ⟨29, [(3, .n .u64 (IntKind.wrap .u64 a0.Val)), (4, .own 0 1 0 (x1_r0 ++ [IntKind.wrap .u8 (Int.fdiv (IntKind.wrap .u64 a0.Val) (2 ^ (min (IntKind.wrap .u64 (IntKind.wrap .i64 (8 * x1_5))).toNat 64)))]).length), (5, .i (IntKind.wrap .i64 (x1_5 - 1)))], [eR5 (x1_r0 ++ [IntKind.wrap .u8 (Int.fdiv (IntKind.wrap .u64 a0.Val) (2 ^ (min (IntKind.wrap .u64 (IntKind.wrap .i64 (8 * x1_5))).toNat 64)))])]⟩ h0 ?_
            exact ih (IntKind.wrap .i64 (x1_5 - 1)) (x1_r0 ++ [IntKind.wrap .u8 (Int.fdiv (IntKind.wrap .u64 a0.Val) (2 ^ (min (IntKind.wrap .u64 (IntKind.wrap .i64 (8 * x1_5))).toNat 64)))]) H
          · replace H := sF c2 H
            rw [decide_eq_false c2]
            refine goK hT 5 (K20 1111110 1) ⟨29, [(26, .own 0 1 0 x1_r0.length)], [eR5 x1_r0]⟩ ?_
            refine ak_toStr (av := .own 0 1 0 x1_r0.length) (dst := some 27) (k' := (K20 1111110 2)) hT [27] x1_r0 (by kernel_rfl) (.own (fz := false) (e := 5) (by kernel_rfl)) (st' := ⟨29, [(27, .s (strB x1_r0))], [eR5 x1_r0]⟩) (by kernel_rfl) ?_
            obtain ⟨v1, h3, H⟩ := sbC H
            refine ak_callP (avs := [.s (strB x1_r0)]) (dst := some 28) (k' := (K20 1111110 3)) [28] [] hP enters_41 (spliceref02_Sum.says (strB x1_r0) h3) (by kernel_rfl) (hands_none _) (.cons (pass_d _) .nil) (st' := ⟨29, [(28, .n .u32 v1)], [eR5 x1_r0]⟩) (by kernel_rfl) ?_
            refine goK hT 2 (K20 111111 1) ⟨29, [(2, .n .u32 v1)], [eR5 x1_r0]⟩ ?_
            obtain rfl := retC H
            exact ak_ret hf hX (av := .n .u32 v1) (by kernel_rfl) [] (sel_of_eq (by kernel_rfl)) (by decide) (by rw [h0]; rfl) (by kernel_rfl) (fun _ h => all_nil h) (.d (.v _))
    refine cutK [1] ⟨29, [(3, .n .u64 (IntKind.wrap .u64 a0.Val)), (4, .own 0 1 0 ([1] : List Int).length), (5, .i 7)], [eR5 ([1] : List Int)]⟩ h0 ?_
    obtain ⟨n, H⟩ := loopC H
    exact (L n) 7 ([1] : List Int) H
  · replace H := iF c1 H
    rw [boF c1]
    refine goK hT 5 (K20 11010 1) ⟨29, [(2, .n .u32 0)], [.box 51 (eC51 a0)]⟩ ?_
    obtain rfl := retC H
    exact ak_ret hf hX (av := .n .u32 0) (by kernel_rfl) [] (sel_of_eq (by kernel_rfl)) (by decide) (by rw [h0]; rfl) (by kernel_rfl) (fun _ h => all_nil h) (.d (.v _))


theorem spliceref20_Leaves.says {t0 : Bool} (a0 : List spliceref04_Pair) {r : List Int} (H : spliceref20_Leaves a0 = some r) : Says Try.prog 52 [] [.d (eL94 t0 a0)] [eR37 r] (.own 0 1 0 r.length) := by
  refine says_of Try.func52 rfl (nt := 34) rfl (Nat.le_of_ble_eq_true rfl) fun X hP h0 hX => ?_
  have hT : TabOk X.P T := hP ▸ tok
  have hf : X.P.funcs[52]? = some Try.f52 := hP ▸ Try.func52
  refine goK hT 15 (K52 111010 0) ⟨34, [(0, .d (eL94 t0 a0)), (3, .ns), (4, .i 0)], []⟩ ?_
  refine ak_nilS [0, 3, 4] 3 1 37 (vec (eI .u32) 0 []) (st' := ⟨34, [(0, .d (eL94 t0 a0)), (3, .own 0 1 0 0), (4, .i 0)], [eR37 ([] : List Int)]⟩) (by kernel_rfl) (by kernel_rfl) ?_
  have L : ∀ n, (∀ (x1_4 : Int) (x1_r0 : List Int), iter (spliceref20_Leaves.step a0) n (.l1 x1_4 x1_r0) = some r → AK X 52 ((K52 111010 0)) (Back X [eR37 r] (.own 0 1 0 r.length)) ⟨34, [(0, .d (eL94 t0 a0)), (3, .own 0 1 0 x1_r0.length), (4, .i x1_4)], [eR37 x1_r0]⟩) ∧ (∀ (x2_5 : Int) (x2_r0 : List Int), iter (spliceref20_Leaves.step a0) n (.l2 x2_5 x2_r0) = some r → AK X 52 ((K52 1111010 0)) (Back X [eR37 r] (.own 0 1 0 r.length)) ⟨34, [(0, .d (eL94 t0 a0)), (3, .own 0 1 0 x2_r0.length), (5, .i x2_5)], [eR37 x2_r0]⟩) := by
    intro n
    induction n with
    | zero => exact ⟨fun _ _ H => iter0 H, fun _ _ H => iter0 H⟩
    | succ n ih =>
      refine ⟨?_, ?_⟩
      · intro x1_4 x1_r0 H
        refine goK hT 6 (K52 11101000 1) ⟨34, [(0, .d (eL94 t0 a0)), (3, .own 0 1 0 x1_r0.length), (4, .i x1_4), (7, .b (decide (x1_4 < 4096)))], [eR37 x1_r0]⟩ ?_
        by_cases c1 : x1_4 < 4096
        · replace H := sT c1 H
          rw [decide_eq_true c1]
          refine goK hT 2 (K52 1110100 1) ⟨34, [(0, .d (eL94 t0 a0)), (3, .own 0 1 0 x1_r0.length), (4, .i x1_4)], [eR37 x1_r0]⟩ ?_
          refine goK hT 5 (K52 1110100100 2) ⟨34, [(0, .d (eL94 t0 a0)), (4, .i x1_4), (10, .own 0 1 0 x1_r0.length), (11, .own 1 1 0 1)], [eR37 x1_r0, .flat false 1 37 1 (fun j => [[.n .u32 0]].getD j [])]⟩ ?_
          obtain ⟨h2, H⟩ := sC H
          refine ak_append1 (id := 0) (kk := 1) (by' := 4) (t := 57) (e := 37) (z := [.int .u32 0]) (dst := some 12) (id2 := 1) (e2 := 37) (fz := false) (k' := (K52 1110100100 3)) hT (eI .u32) 0 x1_r0 0 [0, 4, 12] (by kernel_rfl) (by kernel_rfl) (by kernel_rfl) (by kernel_rfl) (by kernel_rfl) (by kernel_rfl) (by kernel_rfl) h2 (by omega) (st' := ⟨34, [(0, .d (eL94 t0 a0)), (4, .i x1_4), (12, .own 2 1 0 ((x1_r0 ++ [0]).length))], [.gone, .flat false 1 37 1 (fun j => [[.n .u32 0]].getD j []), eR37 (x1_r0 ++ [0])]⟩) (by kernel_rfl) ?_
          refine goK hT 9 (K52 111010 0) ⟨34, [(0, .d (eL94 t0 a0)), (3, .own 2 1 0 ((x1_r0 ++ [0]).length)), (4, .i (IntKind.wrap .i64 (x1_4 + 1)))], [.gone, .flat false 1 37 1 (fun j => [[.n .u32 0]].getD j []), eR37 (x1_r0 ++ [0])]⟩ ?_
          refine cutK [2] ⟨34, [(0, .d (eL94 t0 a0)), (3, .own 0 1 0 (x1_r0 ++ [0]).length), (4, .i (IntKind.wrap .i64 (x1_4 + 1)))], [eR37 (x1_r0 ++ [0])]⟩ h0 ?_
          exact ih.1 (IntKind.wrap .i64 (x1_4 + 1)) (x1_r0 ++ [0]) H
        · replace H := sF c1 H
          rw [decide_eq_false c1]
          refine goK hT 9 (K52 1111010 0) ⟨34, [(0, .d (eL94 t0 a0)), (3, .own 0 1 0 x1_r0.length), (5, .i 0)], [eR37 x1_r0]⟩ ?_
          refine cutK [0] ⟨34, [(0, .d (eL94 t0 a0)), (3, .own 0 1 0 x1_r0.length), (5, .i 0)], [eR37 x1_r0]⟩ h0 ?_
          exact ih.2 0 x1_r0 H
      · intro x2_5 x2_r0 H
        refine goK hT 8 (K52 111101000 1) ⟨34, [(0, .d (eL94 t0 a0)), (3, .own 0 1 0 x2_r0.length), (5, .i x2_5), (16, .b (decide (x2_5 < (a0.length : Int))))], [eR37 x2_r0]⟩ ?_
        by_cases c3 : x2_5 < (a0.length : Int)
        · replace H := sT c3 H
          rw [decide_eq_true c3]
          refine goK hT 2 (K52 11110100 1) ⟨34, [(0, .d (eL94 t0 a0)), (3, .own 0 1 0 x2_r0.length), (5, .i x2_5)], [eR37 x2_r0]⟩ ?_
          refine goK hT 2 (K52 1111010010 0) ⟨34, [(0, .d (eL94 t0 a0)), (3, .own 0 1 0 x2_r0.length), (5, .i x2_5)], [eR37 x2_r0]⟩ ?_
          obtain ⟨h4, H⟩ := sC H
          obtain ⟨v1, h5, H⟩ := sbC H
          refine drawK (hP ▸ mixed) 13 [0, 3, 5] [some (.own 0 1 0 x2_r0.length), some (.d (eL94 t0 a0)), some (.i x2_5), some (.d (eP94 t0 a0 x2_5.toNat 0)), some (.d (eP94 t0 a0 x2_5.toNat 0)), some (.i ((a0.getD x2_5.toNat spliceref04_Pair.z).Key)), some (.d (eL94 t0 a0)), some (.i x2_5), some (.d (eP94 t0 a0 x2_5.toNat 0)), some (.d (eP94 t0 a0 x2_5.toNat 1)), some (.i ((a0.getD x2_5.toNat spliceref04_Pair.z).Val)), some (.d (.agg [.i ((a0.getD x2_5.toNat spliceref04_Pair.z).Val), .b true])), some (.n .u32 v1)] (opS (opG (opG (opG (opS (opG (opG (opG (opG (opS (opG (opG (opG op0 hT) hT) hT) (fun R rest h => ak_idx0 hT (i := x2_5) (n := (a0.length : Int)) h4.1 h4.2 (by kernel_rfl) h)) hT) hT) hT) hT) (fun R rest h => ak_idx0 hT (i := x2_5) (n := (a0.length : Int)) h4.1 h4.2 (by kernel_rfl) h)) hT) hT) hT) (fun R rest h => ak_callD (avs := [.d (.agg [.i ((a0.getD x2_5.toNat spliceref04_Pair.z).Val), .b true])]) (dst := some 31) hP enters_20 (spliceref20_Number.says (⟨(a0.getD x2_5.toNat spliceref04_Pair.z).Val, true⟩ : spliceref05_Cell) h5) (by kernel_rfl) (.cons (pass_d _) .nil) (by kernel_rfl) h)) ?_
          refine goK hT 0 (K52 11110100100 13) ⟨34, [(0, .d (eL94 t0 a0)), (3, .own 0 1 0 x2_r0.length), (5, .i x2_5), (19, .own 0 1 0 x2_r0.length), (24, .i ((a0.getD x2_5.toNat spliceref04_Pair.z).Key)), (31, .n .u32 v1)], [eR37 x2_r0]⟩ ?_
          obtain ⟨h6, H⟩ := sC H
          refine ak_idx hT [0, 3, 5, 31, 32] (i := (a0.getD x2_5.toNat spliceref04_Pair.z).Key) (n := (x2_r0.length : Int)) h6.1 h6.2 (k' := (K52 11110100100 14)) (st' := ⟨34, [(0, .d (eL94 t0 a0)), (3, .own 0 1 0 x2_r0.length), (5, .i x2_5), (31, .n .u32 v1), (32, .ptr 0 1 (((a0.getD x2_5.toNat spliceref04_Pair.z).Key).toNat) 0)], [eR37 x2_r0]⟩) (by kernel_rfl) ?_
          refine ak_st (id := 0) (kk := 1) (i := (((a0.getD x2_5.toNat spliceref04_Pair.z).Key).toNat)) (off := 0) (s := 1) (n := x2_r0.length) (ty := 37) (ds := [.n .u32 v1]) (g := vec (eI .u32) 0 x2_r0) (k' := (K52 11110100100 15)) hT [0, 3, 5] (vec (eI .u32) 0 (x2_r0.set (((a0.getD x2_5.toNat spliceref04_Pair.z).Key).toNat) v1)) (by kernel_rfl) (by kernel_rfl) (ltN h6.1 h6.2) ((vec_set (ltN h6.1 h6.2)).trans (by kernel_rfl)) vec_set_ne (st' := ⟨34, [(0, .d (.sl t0 a0.length (vec spliceref04_Pair.e spliceref04_Pair.z a0))), (3, .own 0 1 0 (x2_r0.length)), (5, .i x2_5)], [.flat false 1 37 x2_r0.length (vec (eI .u32) 0 (x2_r0.set (((a0.getD x2_5.toNat spliceref04_Pair.z).Key).toNat) v1))]⟩) (by kernel_rfl) ?_
          refine ak_eq (show x2_r0.length = (x2_r0.set (((a0.getD x2_5.toNat spliceref04_Pair.z).Key).toNat) v1).length from (List.length_set ..).symm) (fun nn => ⟨34, [(0, .d (.sl t0 a0.length (vec spliceref04_Pair.e spliceref04_Pair.z a0))), (3, .own 0 1 0 (nn)), (5, .i x2_5)], [.flat false 1 37 nn (vec (eI .u32) 0 (x2_r0.set (((a0.getD x2_5.toNat spliceref04_Pair.z).Key).toNat) v1))]⟩) ?_
          refine goK hT 8 (K52 1111010 0) ⟨34, [(0, .d (eL94 t0 a0)), (3, .own 0 1 0 ((x2_r0.set (((a0.getD x2_5.toNat spliceref04_Pair.z).Key).toNat) v1).length)), (5, .i (IntKind.wrap .i64 (x2_5 + 1)))], [eR37 (x2_r0.set (((a0.getD x2_5.toNat spliceref04_Pair.z).Key).toNat) v1)]⟩ ?_
          refine cutK [0] ⟨34, [(0, .d (eL94 t0 a0)), (3, .own 0 1 0 (x2_r0.set (((a0.getD x2_5.toNat spliceref04_Pair.z).Key).toNat) v1).length), (5, .i (IntKind.wrap .i64 (x2_5 + 1)))], [eR37 (x2_r0.set (((a0.getD x2_5.toNat spliceref04_Pair.z).Key).toNat) v1)]⟩ h0 ?_
          exact ih.2 (IntKind.wrap .i64 (x2_5 + 1)) (x2_r0.set (((a0.getD x2_5.toNat spliceref04_Pair.z).Key).toNat) v1) H
        · replace H := sF c3 H
          rw [decide_eq_false c3]
          refine goK hT 7 (K52 11111 1) ⟨34, [(2, .own 0 1 0 x2_r0.length)], [eR37 x2_r0]⟩ ?_
          obtain rfl := retC H
          exact ak_ret hf hX (av := .own 0 1 0 x2_r0.length) (by kernel_rfl) [0] (sel_of_eq (by kernel_rfl)) (by decide) (by rw [h0]; rfl) (by kernel_rfl) (fun _ h => all_cons (nr_vec (nlI .u32)) (fun _ h => all_nil h) h) (.own _ _ _ _)
  refine cutK [0] ⟨34, [(0, .d (eL94 t0 a0)), (3, .own 0 1 0 ([] : List Int).length), (4, .i 0)], [eR37 ([] : List Int)]⟩ h0 ?_
  obtain ⟨n, H⟩ := loopC H
  exact (L n).1 0 ([] : List Int) H


theorem spliceref20_Over.says {t0 : Bool} (a0 : List Int) {r : Int} (H : spliceref20_Over a0 = some r) : Says Try.prog 47 [] [.d (eL37 t0 a0)] [] (.n .u32 r) := by
  refine says_of Try.func47 rfl (nt := 49) rfl (Nat.le_of_ble_eq_true rfl) fun X hP h0 hX => ?_
  have hT : TabOk X.P T := hP ▸ tok
  have hf : X.P.funcs[47]? = some Try.f47 := hP ▸ Try.func47
  refine goK hT 15 (K47 111010 0) ⟨49, [(0, .d (eL37 t0 a0)), (3, .ns), (4, .i 0)], []⟩ ?_
  refine ak_nilS [0, 3, 4] 3 1 5 (vec (eI .u8) 0 []) (st' := ⟨49, [(0, .d (eL37 t0 a0)), (3, .own 0 1 0 0), (4, .i 0)], [eR5 ([] : List Int)]⟩) (by kernel_rfl) (by kernel_rfl) ?_
  have L : ∀ n, (∀ (x1_4 : Int) (x1_r0 : List Int), iter (spliceref20_Over.step a0) n (.l1 x1_4 x1_r0) = some r → AK X 47 ((K47 111010 0)) (Back X [] (.n .u32 r)) ⟨49, [(0, .d (eL37 t0 a0)), (3, .own 0 1 0 x1_r0.length), (4, .i x1_4)], [eR5 x1_r0]⟩) := by
    intro n
    induction n with
    | zero => exact fun _ _ H => iter0 H
    | succ n ih =>
      · intro x1_4 x1_r0 H
        refine goK hT 8 (K47 11101000 1) ⟨49, [(0, .d (eL37 t0 a0)), (3, .own 0 1 0 x1_r0.length), (4, .i x1_4), (8, .b (decide (x1_4 < (a0.length : Int))))], [eR5 x1_r0]⟩ ?_
        by_cases c1 : x1_4 < (a0.length : Int)
        · replace H := sT c1 H
          rw [decide_eq_true c1]
          refine goK hT 2 (K47 1110100 1) ⟨49, [(0, .d (eL37 t0 a0)), (3, .own 0 1 0 x1_r0.length), (4, .i x1_4)], [eR5 x1_r0]⟩ ?_
          refine goK hT 7 (K47 11101001000 3) ⟨49, [(0, .d (eL37 t0 a0)), (4, .i x1_4), (11, .own 0 1 0 x1_r0.length), (12, .d (eL37 t0 a0)), (13, .i x1_4)], [eR5 x1_r0]⟩ ?_
          obtain ⟨h3, H⟩ := sC H
          refine ak_idx hT [0, 4, 11, 14] (i := x1_4) (n := (a0.length : Int)) h3.1 h3.2 (k' := (K47 11101001000 4)) (st' := ⟨49, [(0, .d (eL37 t0 a0)), (4, .i x1_4), (11, .own 0 1 0 x1_r0.length), (14, .d (eP37 t0 a0 x1_4.toNat 0))], [eR5 x1_r0]⟩) (by kernel_rfl) ?_
          refine goK hT 4 (K47 11101001000 8) ⟨49, [(0, .d (eL37 t0 a0)), (4, .i x1_4), (11, .own 0 1 0 x1_r0.length), (18, .own 1 1 0 1)], [eR5 x1_r0, .flat false 1 5 1 (fun j => [[.n .u8 (IntKind.wrap .u8 (IntKind.wrap .u32 (Int.tdiv (a0.getD x1_4.toNat 0) 16777216)))]].getD j [])]⟩ ?_
          obtain ⟨h4, H⟩ := sC H
          refine ak_append1 (id := 0) (kk := 1) (by' := 1) (t := 92) (e := 5) (z := [.int .u8 0]) (dst := some 19) (id2 := 1) (e2 := 5) (fz := false) (k' := (K47 11101001000 9)) hT (eI .u8) 0 x1_r0 (IntKind.wrap .u8 (IntKind.wrap .u32 (Int.tdiv (a0.getD x1_4.toNat 0) 16777216))) [0, 4, 19] (by kernel_rfl) (by kernel_rfl) (by kernel_rfl) (by kernel_rfl) (by kernel_rfl) (by kernel_rfl) (by kernel_rfl) h4 (by omega) (st' := ⟨49, [(0, .d (eL37 t0 a0)), (4, .i x1_4), (19, .own 2 1 0 ((x1_r0 ++ [IntKind.wrap .u8 (IntKind.wrap .u32 (Int.tdiv (a0.getD x1_4.toNat 0) 16777216))]).length))], [.gone, .flat false 1 5 1 (fun j => [[.n .u8 (IntKind.wrap .u8 (IntKind.wrap .u32 (Int.tdiv (a0.getD x1_4.toNat 0) 16777216)))]].getD j []), eR5 (x1_r0 ++ [IntKind.wrap .u8 (IntKind.wrap .u32 (Int.tdiv (a0.getD x1_4.toNat 0) 16777216))])]⟩) (by kernel_rfl) ?_
          refine goK hT 7 (K47 111010010010 3) ⟨49, [(0, .d (eL37 t0 a0)), (4, .i x1_4), (20, .own 2 1 0 ((x1_r0 ++ [IntKind.wrap .u8 (IntKind.wrap .u32 (Int.tdiv (a0.getD x1_4.toNat 0) 16777216))]).length)), (21, .d (eL37 t0 a0)), (22, .i x1_4)], [.gone, .flat false 1 5 1 (fun j => [[.n .u8 (IntKind.wrap .u8 (IntKind.wrap .u32 (Int.tdiv (a0.getD x1_4.toNat 0) 16777216)))]].getD j []), eR5 (x1_r0 ++ [IntKind.wrap .u8 (IntKind.wrap .u32 (Int.tdiv (a0.getD x1_4.toNat 0) 16777216))])]⟩ ?_
          refine ak_idx hT [0, 4, 20, 23] (i := x1_4) (n := (a0.length : Int)) h3.1 h3.2 (k' := (K47 111010010010 4)) (st' := ⟨49, [(0, .d (eL37 t0 a0)), (4, .i x1_4), (20, .own 2 1 0 ((x1_r0 ++ [IntKind.wrap .u8 (IntKind.wrap .u32 (Int.tdiv (a0.getD x1_4.toNat 0) 16777216))]).length)), (23, .d (eP37 t0 a0 x1_4.toNat 0))], [.gone, .flat false 1 5 1 (fun j => [[.n .u8 (IntKind.wrap .u8 (IntKind.wrap .u32 (Int.tdiv (a0.getD x1_4.toNat 0) 16777216)))]].getD j []), eR5 (x1_r0 ++ [IntKind.wrap .u8 (IntKind.wrap .u32 (Int.tdiv (a0.getD x1_4.toNat 0) 16777216))])]⟩) (by kernel_rfl) ?_
          refine goK hT 4 (K47 111010010010 8) ⟨49, [(0, .d (eL37 t0 a0)), (4, .i x1_4), (20, .own 2 1 0 ((x1_r0 ++ [IntKind.wrap .u8 (IntKind.wrap .u32 (Int.tdiv (a0.getD x1_4.toNat 0) 16777216))]).length)), (27, .own 3 1 0 1)], [.gone, .flat false 1 5 1 (fun j => [[.n .u8 (IntKind.wrap .u8 (IntKind.wrap .u32 (Int.tdiv (a0.getD x1_4.toNat 0) 16777216)))]].getD j []), eR5 (x1_r0 ++ [IntKind.wrap .u8 (IntKind.wrap .u32 (Int.tdiv (a0.getD x1_4.toNat 0) 16777216))]), .flat false 1 5 1 (fun j => [[.n .u8 (IntKind.wrap .u8 (IntKind.wrap .u32 (Int.tdiv (a0.getD x1_4.toNat 0) 65536)))]].getD j [])]⟩ ?_
          obtain ⟨h5, H⟩ := sC H
          refine ak_append1 (id := 2) (kk := 1) (by' := 1) (t := 92) (e := 5) (z := [.int .u8 0]) (dst := some 28) (id2 := 3) (e2 := 5) (fz := false) (k' := (K47 111010010010 9)) hT (eI .u8) 0 (x1_r0 ++ [IntKind.wrap .u8 (IntKind.wrap .u32 (Int.tdiv (a0.getD x1_4.toNat 0) 16777216))]) (IntKind.wrap .u8 (IntKind.wrap .u32 (Int.tdiv (a0.getD x1_4.toNat 0) 65536))) [0, 4, 28] (by kernel_rfl) (by kernel_rfl) (by kernel_rfl) (by kernel_rfl) (by kernel_rfl) (by kernel_rfl) (by kernel_rfl) h5 (by omega) (st' := ⟨49, [(0, .d (eL37 t0 a0)), (4, .i x1_4), (28, .own 4 1 0 (((x1_r0 ++ [IntKind.wrap .u8 (IntKind.wrap .u32 (Int.tdiv (a0.getD x1_4.toNat 0) 16777216))]) ++ [IntKind.wrap .u8 (IntKind.wrap .u32 (Int.tdiv (a0.getD x1_4.toNat 0) 65536))]).length))], [.gone, .flat false 1 5 1 (fun j => [[.n .u8 (IntKind.wrap .u8 (IntKind.wrap .u32 (Int.tdiv (a0.getD x1_4.toNat 0) 16777216)))]].getD j []), .gone, .flat false 1 5 1 (fun j => [[.n .u8 (IntKind.wrap .u8 (IntKind.wrap .u32 (Int.tdiv (a0.getD x1_4.toNat 0) 65536)))]].getD j []), eR5 ((x1_r0 ++ [IntKind.wrap .u8 (IntKind.wrap .u32 (Int.tdiv (a0.getD x1_4.toNat 0) 16777216))]) ++ [IntKind.wrap .u8 (IntKind.wrap .u32 (Int.tdiv (a0.getD x1_4.toNat 0) 65536))])]⟩) (by kernel_rfl) ?_
          refine goK hT 7 (K47 1110100100110 3) ⟨49, [(0, .d (eL37 t0 a0)), (4, .i x1_4), (29, .own 4 1 0 (((x1_r0 ++ [IntKind.wrap .u8 (IntKind.wrap .u32 (Int.tdiv (a0.getD x1_4.toNat 0) 16777216))]) ++ [IntKind.wrap .u8 (IntKind.wrap .u32 (Int.tdiv (a0.getD x1_4.toNat 0) 65536))]).length)), (30, .d (eL37 t0 a0)), (31, .i x1_4)], [.gone, .flat false 1 5 1 (fun j => [[.n .u8 (IntKind.wrap .u8 (IntKind.wrap .u32 (Int.tdiv (a0.getD x1_4.toNat 0) 16777216)))]].getD j []), .gone, .flat false 1 5 1 (fun j => [[.n .u8 (IntKind.wrap .u8 (IntKind.wrap .u32 (Int.tdiv (a0.getD x1_4.toNat 0) 65536)))]].getD j []), eR5 ((x1_r0 ++ [IntKind.wrap .u8 (IntKind.wrap .u32 (Int.tdiv (a0.getD x1_4.toNat 0) 16777216))]) ++ [IntKind.wrap .u8 (IntKind.wrap .u32 (Int.tdiv (a0.getD x1_4.toNat 0) 65536))])]⟩ ?_
          refine ak_idx hT [0, 4, 29, 32] (i := x1_4) (n := (a0.length : Int)) h3.1 h3.2 (k' := (K47 1110100100110 4)) (st' := ⟨49, [(0, .d (eL37 t0 a0)), (4, .i x1_4), (29, .own 4 1 0 (((x1_r0 ++ [IntKind.wrap .u8 (IntKind.wrap .u32 (Int.tdiv (a0.getD x1_4.toNat 0) 16777216))]) ++ [IntKind.wrap .u8 (IntKind.wrap .u32 (Int.tdiv (a0.getD x1_4.toNat 0) 65536))]).length)), (32, .d (eP37 t0 a0 x1_4.toNat 0))], [.gone, .flat false 1 5 1 (fun j => [[.n .u8 (IntKind.wrap .u8 (IntKind.wrap .u32 (Int.tdiv (a0.getD x1_4.toNat 0) 16777216)))]].getD j []), .gone, .flat false 1 5 1 (fun j => [[.n .u8 (IntKind.wrap .u8 (IntKind.wrap .u32 (Int.tdiv (a0.getD x1_4.toNat 0) 65536)))]].getD j []), eR5 ((x1_r0 ++ [IntKind.wrap .u8 (IntKind.wrap .u32 (Int.tdiv (a0.getD x1_4.toNat 0) 16777216))]) ++ [IntKind.wrap .u8 (IntKind.wrap .u32 (Int.tdiv (a0.getD x1_4.toNat 0) 65536))])]⟩) (by kernel_rfl) ?_
          refine goK hT 4 (K47 1110100100110 8) ⟨49, [(0, .d (eL37 t0 a0)), (4, .i x1_4), (29, .own 4 1 0 (((x1_r0 ++ [IntKind.wrap .u8 (IntKind.wrap .u32 (Int.tdiv (a0.getD x1_4.toNat 0) 16777216))]) ++ [IntKind.wrap .u8 (IntKind.wrap .u32 (Int.tdiv (a0.getD x1_4.toNat 0) 65536))]).length)), (36, .own 5 1 0 1)], [.gone, .flat false 1 5 1 (fun j => [[.n .u8 (IntKind.wrap .u8 (IntKind.wrap .u32 (Int.tdiv (a0.getD x1_4.toNat 0) 16777216)))]].getD j []), .gone, .flat false 1 5 1 (fun j => [[.n .u8 (IntKind.wrap .u8 (IntKind.wrap .u32 (Int.tdiv (a0.getD x1_4.toNat 0) 65536)))]].getD j []), eR5 ((x1_r0 ++ [IntKind.wrap .u8 (IntKind.wrap .u32 (Int.tdiv (a0.getD x1_4.toNat 0) 16777216))]) ++ [IntKind.wrap .u8 (IntKind.wrap .u32 (Int.tdiv (a0.getD x1_4.toNat 0) 65536))]), .flat false 1 5 1 (fun j => [[.n .u8 (IntKind.wrap .u8 (IntKind.wrap .u32 (Int.tdiv (a0.getD x1_4.toNat 0) 256)))]].getD j [])]⟩ ?_
          obtain ⟨h6, H⟩ := sC H
          refine ak_append1 (id := 4) (kk := 1) (by' := 1) (t := 92) (e := 5) (z := [.int .u8 0]) (dst := some 37) (id2 := 5) (e2 := 5) (fz := false) (k' := (K47 1110100100110 9)) hT (eI .u8) 0 ((x1_r0 ++ [IntKind.wrap .u8 (IntKind.wrap .u32 (Int.tdiv (a0.getD x1_4.toNat 0) 16777216))]) ++ [IntKind.wrap .u8 (IntKind.wrap .u32 (Int.tdiv (a0.getD x1_4.toNat 0) 65536))]) (IntKind.wrap .u8 (IntKind.wrap .u32 (Int.tdiv (a0.getD x1_4.toNat 0) 256))) [0, 4, 37] (by kernel_rfl) (by kernel_rfl) (by kernel_rfl) (by kernel_rfl) (by kernel_rfl) (by kernel_rfl) (by kernel_rfl) h6 (by omega) (st' := ⟨49, [(0, .d (eL37 t0 a0)), (4, .i x1_4), (37, .own 6 1 0 ((((x1_r0 ++ [IntKind.wrap .u8 (IntKind.wrap .u32 (Int.tdiv (a0.getD x1_4.toNat 0) 16777216))]) ++ [IntKind.wrap .u8 (IntKind.wrap .u32 (Int.tdiv (a0.getD x1_4.toNat 0) 65536))]) ++ [IntKind.wrap .u8 (IntKind.wrap .u32 (Int.tdiv (a0.getD x1_4.toNat 0) 256))]).length))], [.gone, .flat false 1 5 1 (fun j => [[.n .u8 (IntKind.wrap .u8 (IntKind.wrap .u32 (Int.tdiv (a0.getD x1_4.toNat 0) 16777216)))]].getD j []), .gone, .flat false 1 5 1 (fun j => [[.n .u8 (IntKind.wrap .u8 (IntKind.wrap .u32 (Int.tdiv (a0.getD x1_4.toNat 0) 65536)))]].getD j []), .gone, .flat false 1 5 1 (fun j => [[.n .u8 (IntKind.wrap .u8 (IntKind.wrap .u32 (Int.tdiv (a0.getD x1_4.toNat 0) 256)))]].getD j []), eR5 (((x1_r0 ++ [IntKind.wrap .u8 (IntKind.wrap .u32 (Int.tdiv (a0.getD x1_4.toNat 0) 16777216))]) ++ [IntKind.wrap .u8 (IntKind.wrap .u32 (Int.tdiv (a0.getD x1_4.toNat 0) 65536))]) ++ [IntKind.wrap .u8 (IntKind.wrap .u32 (Int.tdiv (a0.getD x1_4.toNat 0) 256))])]⟩) (by kernel_rfl) ?_
          refine goK hT 6 (K47 1110100100111 3) ⟨49, [(0, .d (eL37 t0 a0)), (4, .i x1_4), (38, .own 6 1 0 ((((x1_r0 ++ [IntKind.wrap .u8 (IntKind.wrap .u32 (Int.tdiv (a0.getD x1_4.toNat 0) 16777216))]) ++ [IntKind.wrap .u8 (IntKind.wrap .u32 (Int.tdiv (a0.getD x1_4.toNat 0) 65536))]) ++ [IntKind.wrap .u8 (IntKind.wrap .u32 (Int.tdiv (a0.getD x1_4.toNat 0) 256))]).length)), (39, .d (eL37 t0 a0)), (40, .i x1_4)], [.gone, .flat false 1 5 1 (fun j => [[.n .u8 (IntKind.wrap .u8 (IntKind.wrap .u32 (Int.tdiv (a0.getD x1_4.toNat 0) 16777216)))]].getD j []), .gone, .flat false 1 5 1 (fun j => [[.n .u8 (IntKind.wrap .u8 (IntKind.wrap .u32 (Int.tdiv (a0.getD x1_4.toNat 0) 65536)))]].getD j []), .gone, .flat false 1 5 1 (fun j => [[.n .u8 (IntKind.wrap .u8 (IntKind.wrap .u32 (Int.tdiv (a0.getD x1_4.toNat 0) 256)))]].getD j []), eR5 (((x1_r0 ++ [IntKind.wrap .u8 (IntKind.wrap .u32 (Int.tdiv (a0.getD x1_4.toNat 0) 16777216))]) ++ [IntKind.wrap .u8 (IntKind.wrap .u32 (Int.tdiv (a0.getD x1_4.toNat 0) 65536))]) ++ [IntKind.wrap .u8 (IntKind.wrap .u32 (Int.tdiv (a0.getD x1_4.toNat 0) 256))])]⟩ ?_
          refine ak_idx hT [0, 4, 38, 41] (i := x1_4) (n := (a0.length : Int)) h3.1 h3.2 (k' := (K47 1110100100111 4)) (st' := ⟨49, [(0, .d (eL37 t0 a0)), (4, .i x1_4), (38, .own 6 1 0 ((((x1_r0 ++ [IntKind.wrap .u8 (IntKind.wrap .u32 (Int.tdiv (a0.getD x1_4.toNat 0) 16777216))]) ++ [IntKind.wrap .u8 (IntKind.wrap .u32 (Int.tdiv (a0.getD x1_4.toNat 0) 65536))]) ++ [IntKind.wrap .u8 (IntKind.wrap .u32 (Int.tdiv (a0.getD x1_4.toNat 0) 256))]).length)), (41, .d (eP37 t0 a0 x1_4.toNat 0))], [.gone, .flat false 1 5 1 (fun j => [[.n .u8 (IntKind.wrap .u8 (IntKind.wrap .u32 (Int.tdiv (a0.getD x1_4.toNat 0) 16777216)))]].getD j []), .gone, .flat false 1 5 1 (fun j => [[.n .u8 (IntKind.wrap .u8 (IntKind.wrap .u32 (Int.tdiv (a0.getD x1_4.toNat 0) 65536)))]].getD j []), .gone, .flat false 1 5 1 (fun j => [[.n .u8 (IntKind.wrap .u8 (IntKind.wrap .u32 (Int.tdiv (a0.getD x1_4.toNat 0) 256)))]].getD j []), eR5 (((x1_r0 ++ [IntKind.wrap .u8 (IntKind.wrap .u32 (Int.tdiv (a0.getD x1_4.toNat 0) 16777216))]) ++ [IntKind.wrap .u8 (IntKind.wrap .u32 (Int.tdiv (a0.getD x1_4.toNat 0) 65536))]) ++ [IntKind.wrap .u8 (IntKind.wrap .u32 (Int.tdiv (a0.getD x1_4.toNat 0) 256))])]⟩) (by kernel_rfl) ?_
          refine goK hT 3 (K47 1110100100111 7) ⟨49, [(0, .d (eL37 t0 a0)), (4, .i x1_4), (38, .own 6 1 0 ((((x1_r0 ++ [IntKind.wrap .u8 (IntKind.wrap .u32 (Int.tdiv (a0.getD x1_4.toNat 0) 16777216))]) ++ [IntKind.wrap .u8 (IntKind.wrap .u32 (Int.tdiv (a0.getD x1_4.toNat 0) 65536))]) ++ [IntKind.wrap .u8 (IntKind.wrap .u32 (Int.tdiv (a0.getD x1_4.toNat 0) 256))]).length)), (44, .own 7 1 0 1)], [.gone, .flat false 1 5 1 (fun j => [[.n .u8 (IntKind.wrap .u8 (IntKind.wrap .u32 (Int.tdiv (a0.getD x1_4.toNat 0) 16777216)))]].getD j []), .gone, .flat false 1 5 1 (fun j => [[.n .u8 (IntKind.wrap .u8 (IntKind.wrap .u32 (Int.tdiv (a0.getD x1_4.toNat 0) 65536)))]].getD j []), .gone, .flat false 1 5 1 (fun j => [[.n .u8 (IntKind.wrap .u8 (IntKind.wrap .u32 (Int.tdiv (a0.getD x1_4.toNat 0) 256)))]].getD j []), eR5 (((x1_r0 ++ [IntKind.wrap .u8 (IntKind.wrap .u32 (Int.tdiv (a0.getD x1_4.toNat 0) 16777216))]) ++ [IntKind.wrap .u8 (IntKind.wrap .u32 (Int.tdiv (a0.getD x1_4.toNat 0) 65536))]) ++ [IntKind.wrap .u8 (IntKind.wrap .u32 (Int.tdiv (a0.getD x1_4.toNat 0) 256))]), .flat false 1 5 1 (fun j => [[.n .u8 (IntKind.wrap .u8 (a0.getD x1_4.toNat 0))]].getD j [])]⟩ ?_
          obtain ⟨h7, H⟩ := sC H
          refine ak_append1 (id := 6) (kk := 1) (by' := 1) (t := 92) (e := 5) (z := [.int .u8 0]) (dst := some 45) (id2 := 7) (e2 := 5) (fz := false) (k' := (K47 1110100100111 8)) hT (eI .u8) 0 (((x1_r0 ++ [IntKind.wrap .u8 (IntKind.wrap .u32 (Int.tdiv (a0.getD x1_4.toNat 0) 16777216))]) ++ [IntKind.wrap .u8 (IntKind.wrap .u32 (Int.tdiv (a0.getD x1_4.toNat 0) 65536))]) ++ [IntKind.wrap .u8 (IntKind.wrap .u32 (Int.tdiv (a0.getD x1_4.toNat 0) 256))]) (IntKind.wrap .u8 (a0.getD x1_4.toNat 0)) [0, 4, 45] (by kernel_rfl) (by kernel_rfl) (by kernel_rfl) (by kernel_rfl) (by kernel_rfl) (by kernel_rfl) (by kernel_rfl) h7 (by omega) (st' := ⟨49, [(0, .d (eL37 t0 a0)), (4, .i x1_4), (45, .own 8 1 0 (((((x1_r0 ++ [IntKind.wrap .u8 (IntKind.wrap .u32 (Int.tdiv (a0.getD x1_4.toNat 0) 16777216))]) ++ [IntKind.wrap .u8 (IntKind.wrap .u32 (Int.tdiv (a0.getD x1_4.toNat 0) 65536))]) ++ [IntKind.wrap .u8 (IntKind.wrap .u32 (Int.tdiv (a0.getD x1_4.toNat 0) 256))]) ++ [IntKind.wrap .u8 (a0.getD x1_4.toNat 0)]).length))], [.gone, .flat false 1 5 1 (fun j => [[.n .u8 (IntKind.wrap .u8 (IntKind.wrap .u32 (Int.tdiv (a0.getD x1_4.toNat 0) 16777216)))]].getD j []), .gone, .flat false 1 5 1 (fun j => [[.n .u8 (IntKind.wrap .u8 (IntKind.wrap .u32 (Int.tdiv (a0.getD x1_4.toNat 0) 65536)))]].getD j []), .gone, .flat false 1 5 1 (fun j => [[.n .u8 (IntKind.wrap .u8 (IntKind.wrap .u32 (Int.tdiv (a0.getD x1_4.toNat 0) 256)))]].getD j []), .gone, .flat false 1 5 1 (fun j => [[.n .u8 (IntKind.wrap .u8 (a0.getD x1_4.toNat 0))]].getD j []), eR5 ((((x1_r0 ++ [IntKind.wrap .u8 (IntKind.wrap .u32 (Int.tdiv (a0.getD x1_4.toNat 0) 16777216))]) ++ [IntKind.wrap .u8 (IntKind.wrap .u32 (Int.tdiv (a0.getD x1_4.toNat 0) 65536))]) ++ [IntKind.wrap .u8 (IntKind.wrap .u32 (Int.tdiv (a0.getD x1_4.toNat 0) 256))]) ++ [IntKind.wrap .u8 (a0.getD x1_4.toNat 0)])]⟩) (by kernel_rfl) ?_
          refine goK hT 9 (K47 111010 0) ⟨49, [(0, .d (eL37 t0 a0)), (3, .own 8 1 0 (((((x1_r0 ++ [IntKind.wrap .u8 (IntKind.wrap .u32 (Int.tdiv (a0.getD x1_4.toNat 0) 16777216))]) ++ [IntKind.wrap .u8 (IntKind.wrap .u32 (Int.tdiv (a0.getD x1_4.toNat 0) 65536))]) ++ [IntKind.wrap .u8 (IntKind.wrap .u32 (Int.tdiv (a0.getD x1_4.toNat 0) 256))]) ++ [IntKind.wrap .u8 (a0.getD x1_4.toNat 0)]).length)), (4, .i (IntKind.wrap .i64 (x1_4 + 1)))], [.gone, .flat false 1 5 1 (fun j => [[.n .u8 (IntKind.wrap .u8 (IntKind.wrap .u32 (Int.tdiv (a0.getD x1_4.toNat 0) 16777216)))]].getD j []), .gone, .flat false 1 5 1 (fun j => [[.n .u8 (IntKind.wrap .u8 (IntKind.wrap .u32 (Int.tdiv (a0.getD x1_4.toNat 0) 65536)))]].getD j []), .gone, .flat false 1 5 1 (fun j => [[.n .u8 (IntKind.wrap .u8 (IntKind.wrap .u32 (Int.tdiv (a0.getD x1_4.toNat 0) 256)))]].getD j []), .gone, .flat false 1 5 1 (fun j => [[.n .u8 (IntKind.wrap .u8 (a0.getD x1_4.toNat 0))]].getD j []), eR5 ((((x1_r0 ++ [IntKind.wrap .u8 (IntKind.wrap .u32 (Int.tdiv (a0.getD x1_4.toNat 0) 16777216))]) ++ [IntKind.wrap .u8 (IntKind.wrap .u32 (Int.tdiv (a0.getD x1_4.toNat 0) 65536))]) ++ [IntKind.wrap .u8 (IntKind.wrap .u32 (Int.tdiv (a0.getD x1_4.toNat 0) 256))]) ++ [IntKind.wrap .u8 (a0.getD x1_4.toNat 0)])]⟩ ?_
          refine cutK [8] ⟨49, [(0, .d (eL37 t0 a0)), (3, .own 0 1 0 ((((x1_r0 ++ [IntKind.wrap .u8 (IntKind.wrap .u32 (Int.tdiv (a0.getD x1_4.toNat 0) 16777216))]) ++ [IntKind.wrap .u8 (IntKind.wrap .u32 (Int.tdiv (a0.getD x1_4.toNat 0) 65536))]) ++ [IntKind.wrap .u8 (IntKind.wrap .u32 (Int.tdiv (a0.getD x1_4.toNat 0) 256))]) ++ [IntKind.wrap .u8 (a0.getD x1_4.toNat 0)]).length), (4, .i (IntKind.wrap .i64 (x1_4 + 1)))], [eR5 ((((x1_r0 ++ [IntKind.wrap .u8 (IntKind.wrap .u32 (Int.tdiv (a0.getD x1_4.toNat 0) 16777216))]) ++ [IntKind.wrap .u8 (IntKind.wrap .u32 (Int.tdiv (a0.getD x1_4.toNat 0) 65536))]) ++ [IntKind.wrap .u8 (IntKind.wrap .u32 (Int.tdiv (a0.getD x1_4.toNat 0) 256))]) ++ [IntKind.wrap .u8 (a0.getD x1_4.toNat 0)])]⟩ h0 ?_
          exact ih (IntKind.wrap .i64 (x1_4 + 1)) ((((x1_r0 ++ [IntKind.wrap .u8 (IntKind.wrap .u32 (Int.tdiv (a0.getD x1_4.toNat 0) 16777216))]) ++ [IntKind.wrap .u8 (IntKind.wrap .u32 (Int.tdiv (a0.getD x1_4.toNat 0) 65536))]) ++ [IntKind.wrap .u8 (IntKind.wrap .u32 (Int.tdiv (a0.getD x1_4.toNat 0) 256))]) ++ [IntKind.wrap .u8 (a0.getD x1_4.toNat 0)]) H
        · replace H := sF c1 H
          rw [decide_eq_false c1]
          refine goK hT 5 (K47 11110 1) ⟨49, [(46, .own 0 1 0 x1_r0.length)], [eR5 x1_r0]⟩ ?_
          refine ak_toStr (av := .own 0 1 0 x1_r0.length) (dst := some 47) (k' := (K47 11110 2)) hT [47] x1_r0 (by kernel_rfl) (.own (fz := false) (e := 5) (by kernel_rfl)) (st' := ⟨49, [(47, .s (strB x1_r0))], [eR5 x1_r0]⟩) (by kernel_rfl) ?_
          obtain ⟨v1, h2, H⟩ := sbC H
          refine ak_callP (avs := [.s (strB x1_r0)]) (dst := some 48) (k' := (K47 11110 3)) [48] [] hP enters_41 (spliceref02_Sum.says (strB x1_r0) h2) (by kernel_rfl) (hands_none _) (.cons (pass_d _) .nil) (st' := ⟨49, [(48, .n .u32 v1)], [eR5 x1_r0]⟩) (by kernel_rfl) ?_
          refine goK hT 2 (K47 1111 1) ⟨49, [(2, .n .u32 v1)], [eR5 x1_r0]⟩ ?_
          obtain rfl := retC H
          exact ak_ret hf hX (av := .n .u32 v1) (by kernel_rfl) [] (sel_of_eq (by kernel_rfl)) (by decide) (by rw [h0]; rfl) (by kernel_rfl) (fun _ h => all_nil h) (.d (.v _))
  refine cutK [0] ⟨49, [(0, .d (eL37 t0 a0)), (3, .own 0 1 0 ([] : List Int).length), (4, .i 0)], [eR5 ([] : List Int)]⟩ h0 ?_
  obtain ⟨n, H⟩ := loopC H
  exact (L n) 0 ([] : List Int) H


theorem spliceref20_Above.says {t0 : Bool} (a0 : List Int) {r : List Int} (H : spliceref20_Above a0 = some r) : Says Try.prog 29 [] [.d (eL37 t0 a0)] [eR37 r] (.own 0 1 0 r.length) := by
  refine says_of Try.func29 rfl (nt := 56) rfl (Nat.le_of_ble_eq_true rfl) fun X hP h0 hX => ?_
  have hT : TabOk X.P T := hP ▸ tok
  have hf : X.P.funcs[29]? = some Try.f29 := hP ▸ Try.func29
  refine goK hT 15 (K29 111010 0) ⟨56, [(0, .d (eL37 t0 a0)), (3, .ns), (4, .i 0)], []⟩ ?_
  refine ak_nilS [0, 3, 4] 3 1 37 (vec (eI .u32) 0 []) (st' := ⟨56, [(0, .d (eL37 t0 a0)), (3, .own 0 1 0 0), (4, .i 0)], [eR37 ([] : List Int)]⟩) (by kernel_rfl) (by kernel_rfl) ?_
  have L : ∀ n, (∀ (x1_4 : Int) (x1_r0 : List Int), iter (spliceref20_Above.step a0) n (.l1 x1_4 x1_r0) = some r → AK X 29 ((K29 111010 0)) (Back X [eR37 r] (.own 0 1 0 r.length)) ⟨56, [(0, .d (eL37 t0 a0)), (3, .own 0 1 0 x1_r0.length), (4, .i x1_4)], [eR37 x1_r0]⟩) ∧ (∀ (v1 : Int) (x2_7 : Int) (x2_r0 : List Int), iter (spliceref20_Above.step a0) n (.l2 v1 x2_7 x2_r0) = some r → AK X 29 ((K29 111111010 0)) (Back X [eR37 r] (.own 0 1 0 r.length)) ⟨56, [(0, .d (eL37 t0 a0)), (5, .n .u32 v1), (6, .own 0 1 0 x2_r0.length), (7, .i x2_7)], [eR37 x2_r0]⟩) ∧ (∀ (v1 : Int) (x3_7 : Int) (x3_8 : Bool) (x3_9 : Int) (x3_r0 : List Int), iter (spliceref20_Above.step a0) n (.l3 v1 x3_7 x3_8 x3_9 x3_r0) = some r → AK X 29 ((K29 11111101001001010 0)) (Back X [eR37 r] (.own 0 1 0 r.length)) ⟨56, [(0, .d (eL37 t0 a0)), (5, .n .u32 v1), (6, .own 0 1 0 x3_r0.length), (7, .i x3_7), (8, .b x3_8), (9, .i x3_9)], [eR37 x3_r0]⟩) := by
    intro n
    induction n with
    | zero => exact ⟨fun _ _ H => iter0 H, fun _ _ _ H => iter0 H, fun _ _ _ _ _ H => iter0 H⟩
    | succ n ih =>
      refine ⟨?_, ?_, ?_⟩
      · intro x1_4 x1_r0 H
        refine goK hT 6 (K29 11101000 1) ⟨56, [(0, .d (eL37 t0 a0)), (3, .own 0 1 0 x1_r0.length), (4, .i x1_4), (11, .b (decide (x1_4 < 16)))], [eR37 x1_r0]⟩ ?_
        by_cases c1 : x1_4 < 16
        · replace H := sT c1 H
          rw [decide_eq_true c1]
          refine goK hT 2 (K29 1110100 1) ⟨56, [(0, .d (eL37 t0 a0)), (3, .own 0 1 0 x1_r0.length), (4, .i x1_4)], [eR37 x1_r0]⟩ ?_
          refine goK hT 5 (K29 1110100100 2) ⟨56, [(0, .d (eL37 t0 a0)), (4, .i x1_4), (14, .own 0 1 0 x1_r0.length), (15, .own 1 1 0 1)], [eR37 x1_r0, .flat false 1 37 1 (fun j => [[.n .u32 0]].getD j [])]⟩ ?_
          obtain ⟨h3, H⟩ := sC H
          refine ak_append1 (id := 0) (kk := 1) (by' := 4) (t := 57) (e := 37) (z := [.int .u32 0]) (dst := some 16) (id2 := 1) (e2 := 37) (fz := false) (k' := (K29 1110100100 3)) hT (eI .u32) 0 x1_r0 0 [0, 4, 16] (by kernel_rfl) (by kernel_rfl) (by kernel_rfl) (by kernel_rfl) (by kernel_rfl) (by kernel_rfl) (by kernel_rfl) h3 (by omega) (st' := ⟨56, [(0, .d (eL37 t0 a0)), (4, .i x1_4), (16, .own 2 1 0 ((x1_r0 ++ [0]).length))], [.gone, .flat false 1 37 1 (fun j => [[.n .u32 0]].getD j []), eR37 (x1_r0 ++ [0])]⟩) (by kernel_rfl) ?_
          refine goK hT 9 (K29 111010 0) ⟨56, [(0, .d (eL37 t0 a0)), (3, .own 2 1 0 ((x1_r0 ++ [0]).length)), (4, .i (IntKind.wrap .i64 (x1_4 + 1)))], [.gone, .flat false 1 37 1 (fun j => [[.n .u32 0]].getD j []), eR37 (x1_r0 ++ [0])]⟩ ?_
          refine cutK [2] ⟨56, [(0, .d (eL37 t0 a0)), (3, .own 0 1 0 (x1_r0 ++ [0]).length), (4, .i (IntKind.wrap .i64 (x1_4 + 1)))], [eR37 (x1_r0 ++ [0])]⟩ h0 ?_
          exact ih.1 (IntKind.wrap .i64 (x1_4 + 1)) (x1_r0 ++ [0]) H
        · replace H := sF c1 H
          rw [decide_eq_false c1]
          refine goK hT 5 (K29 11110 1) ⟨56, [(0, .d (eL37 t0 a0)), (17, .own 0 1 0 x1_r0.length)], [eR37 x1_r0]⟩ ?_
          obtain ⟨v1, h2, H⟩ := sbC H
          refine ak_callP (avs := [.own 0 1 0 x1_r0.length]) (dst := some 18) (k' := (K29 11110 2)) [0, 18] [] hP enters_47 (spliceref20_Over.says (t0 := false) x1_r0 h2) (by kernel_rfl) (hands_none _) (.cons (.lend (ty := 37) (by kernel_rfl) rfl) .nil) (st' := ⟨56, [(0, .d (eL37 t0 a0)), (18, .n .u32 v1)], [eR37 x1_r0]⟩) (by kernel_rfl) ?_
          refine goK hT 13 (K29 111111010 0) ⟨56, [(0, .d (eL37 t0 a0)), (5, .n .u32 v1), (6, .ns), (7, .i 0)], [eR37 x1_r0]⟩ ?_
          refine ak_nilS [0, 5, 6, 7] 6 1 37 (vec (eI .u32) 0 []) (st' := ⟨56, [(0, .d (eL37 t0 a0)), (5, .n .u32 v1), (6, .own 1 1 0 0), (7, .i 0)], [eR37 x1_r0, eR37 ([] : List Int)]⟩) (by kernel_rfl) (by kernel_rfl) ?_
          refine cutK [1] ⟨56, [(0, .d (eL37 t0 a0)), (5, .n .u32 v1), (6, .own 0 1 0 ([] : List Int).length), (7, .i 0)], [eR37 ([] : List Int)]⟩ h0 ?_
          exact ih.2.1 v1 0 ([] : List Int) H
      · intro v1 x2_7 x2_r0 H
        refine goK hT 9 (K29 11111101000 1) ⟨56, [(0, .d (eL37 t0 a0)), (5, .n .u32 v1), (6, .own 0 1 0 x2_r0.length), (7, .i x2_7), (23, .b (decide ((IntKind.wrap .i64 (x2_7 + 16)) ≤ (a0.length : Int))))], [eR37 x2_r0]⟩ ?_
        by_cases c4 : (IntKind.wrap .i64 (x2_7 + 16)) ≤ (a0.length : Int)
        · replace H := sT c4 H
          rw [decide_eq_true c4]
          refine goK hT 2 (K29 1111110100 1) ⟨56, [(0, .d (eL37 t0 a0)), (5, .n .u32 v1), (6, .own 0 1 0 x2_r0.length), (7, .i x2_7)], [eR37 x2_r0]⟩ ?_
          refine goK hT 14 (K29 11111101001001010 0) ⟨56, [(0, .d (eL37 t0 a0)), (5, .n .u32 v1), (6, .own 0 1 0 x2_r0.length), (7, .i x2_7), (8, .b true), (9, .i x2_7)], [eR37 x2_r0]⟩ ?_
          refine cutK [0] ⟨56, [(0, .d (eL37 t0 a0)), (5, .n .u32 v1), (6, .own 0 1 0 x2_r0.length), (7, .i x2_7), (8, .b true), (9, .i x2_7)], [eR37 x2_r0]⟩ h0 ?_
          exact ih.2.2 v1 x2_7 true x2_7 x2_r0 H
        · replace H := sF c4 H
          rw [decide_eq_false c4]
          refine goK hT 7 (K29 1111111 1) ⟨56, [(2, .own 0 1 0 x2_r0.length)], [eR37 x2_r0]⟩ ?_
          obtain rfl := retC H
          exact ak_ret hf hX (av := .own 0 1 0 x2_r0.length) (by kernel_rfl) [0] (sel_of_eq (by kernel_rfl)) (by decide) (by rw [h0]; rfl) (by kernel_rfl) (fun _ h => all_cons (nr_vec (nlI .u32)) (fun _ h => all_nil h) h) (.own _ _ _ _)
      · intro v1 x3_7 x3_8 x3_9 x3_r0 H
        refine goK hT 8 (K29 1111110100100101000 1) ⟨56, [(0, .d (eL37 t0 a0)), (5, .n .u32 v1), (6, .own 0 1 0 x3_r0.length), (7, .i x3_7), (8, .b x3_8), (9, .i x3_9), (30, .b (decide (x3_9 < (IntKind.wrap .i64 (x3_7 + 16)))))], [eR37 x3_r0]⟩ ?_
        by_cases c5 : x3_9 < (IntKind.wrap .i64 (x3_7 + 16))
        · replace H := sT c5 H
          have Jj2 : ∀ (y2_8 : Bool), stk (spliceref20_Above.j2 x3_7 x3_9 x3_r0 v1 y2_8) (iter (spliceref20_Above.step a0) n) = some r → AK X 29 ((K29 1111110100100101001 1)) (Back X [eR37 r] (.own 0 1 0 r.length)) ⟨56, [(0, .d (eL37 t0 a0)), (5, .n .u32 v1), (6, .own 0 1 0 x3_r0.length), (7, .i x3_7), (8, .b y2_8), (9, .i x3_9)], [eR37 x3_r0]⟩ := by
            intro y2_8 H
            refine goK hT 6 (K29 11111101001001010 0) ⟨56, [(0, .d (eL37 t0 a0)), (5, .n .u32 v1), (6, .own 0 1 0 x3_r0.length), (7, .i x3_7), (8, .b y2_8), (9, .i (IntKind.wrap .i64 (x3_9 + 1)))], [eR37 x3_r0]⟩ ?_
            refine cutK [0] ⟨56, [(0, .d (eL37 t0 a0)), (5, .n .u32 v1), (6, .own 0 1 0 x3_r0.length), (7, .i x3_7), (8, .b y2_8), (9, .i (IntKind.wrap .i64 (x3_9 + 1)))], [eR37 x3_r0]⟩ h0 ?_
            exact ih.2.2 v1 x3_7 y2_8 (IntKind.wrap .i64 (x3_9 + 1)) x3_r0 H
          rw [decide_eq_true c5]
          refine goK hT 2 (K29 111111010010010100 1) ⟨56, [(0, .d (eL37 t0 a0)), (5, .n .u32 v1), (6, .own 0 1 0 x3_r0.length), (7, .i x3_7), (8, .b x3_8), (9, .i x3_9)], [eR37 x3_r0]⟩ ?_
          refine goK hT 5 (K29 111111010010010100100 2) ⟨56, [(0, .d (eL37 t0 a0)), (5, .n .u32 v1), (6, .own 0 1 0 x3_r0.length), (7, .i x3_7), (9, .i x3_9), (34, .b x3_8)], [eR37 x3_r0]⟩ ?_
          by_cases c11 : x3_8 = true
          · replace H := sT c11 H
            rw [c11]
            refine goK hT 2 (K29 111111010010010100100 4) ⟨56, [(0, .d (eL37 t0 a0)), (5, .n .u32 v1), (6, .own 0 1 0 x3_r0.length), (7, .i x3_7), (9, .i x3_9), (34, .b true), (35, .d (eL37 t0 a0)), (36, .i x3_9)], [eR37 x3_r0]⟩ ?_
            obtain ⟨h12, H⟩ := sC H
            refine ak_idx hT [0, 5, 6, 7, 9, 34, 37] (i := x3_9) (n := (a0.length : Int)) h12.1 h12.2 (k' := (K29 111111010010010100100 5)) (st' := ⟨56, [(0, .d (eL37 t0 a0)), (5, .n .u32 v1), (6, .own 0 1 0 x3_r0.length), (7, .i x3_7), (9, .i x3_9), (34, .b true), (37, .d (eP37 t0 a0 x3_9.toNat 0))], [eR37 x3_r0]⟩) (by kernel_rfl) ?_
            refine goK hT 6 (K29 1111110100100101001 1) ⟨56, [(0, .d (eL37 t0 a0)), (5, .n .u32 v1), (6, .own 0 1 0 x3_r0.length), (7, .i x3_7), (8, .b ((a0.getD x3_9.toNat 0) == 0)), (9, .i x3_9)], [eR37 x3_r0]⟩ ?_
            refine cutK [0] ⟨56, [(0, .d (eL37 t0 a0)), (5, .n .u32 v1), (6, .own 0 1 0 x3_r0.length), (7, .i x3_7), (8, .b ((a0.getD x3_9.toNat 0) == 0)), (9, .i x3_9)], [eR37 x3_r0]⟩ h0 ?_
            exact Jj2 ((a0.getD x3_9.toNat 0) == 0) H
          · replace H := sF c11 H
            rw [boF c11]
            refine goK hT 9 (K29 1111110100100101001 1) ⟨56, [(0, .d (eL37 t0 a0)), (5, .n .u32 v1), (6, .own 0 1 0 x3_r0.length), (7, .i x3_7), (8, .b false), (9, .i x3_9)], [eR37 x3_r0]⟩ ?_
            refine cutK [0] ⟨56, [(0, .d (eL37 t0 a0)), (5, .n .u32 v1), (6, .own 0 1 0 x3_r0.length), (7, .i x3_7), (8, .b false), (9, .i x3_9)], [eR37 x3_r0]⟩ h0 ?_
            exact Jj2 false H
        · replace H := sF c5 H
          have Jj1 : ∀ (y1_r0 : List Int), stk (spliceref20_Above.j1 x3_7 v1 y1_r0) (iter (spliceref20_Above.step a0) n) = some r → AK X 29 ((K29 11111101001 1)) (Back X [eR37 r] (.own 0 1 0 r.length)) ⟨56, [(0, .d (eL37 t0 a0)), (5, .n .u32 v1), (6, .own 0 1 0 y1_r0.length), (7, .i x3_7)], [eR37 y1_r0]⟩ := by
            intro y1_r0 H
            refine goK hT 6 (K29 111111010 0) ⟨56, [(0, .d (eL37 t0 a0)), (5, .n .u32 v1), (6, .own 0 1 0 y1_r0.length), (7, .i (IntKind.wrap .i64 (x3_7 + 16)))], [eR37 y1_r0]⟩ ?_
            refine cutK [0] ⟨56, [(0, .d (eL37 t0 a0)), (5, .n .u32 v1), (6, .own 0 1 0 y1_r0.length), (7, .i (IntKind.wrap .i64 (x3_7 + 16)))], [eR37 y1_r0]⟩ h0 ?_
            exact ih.2.1 v1 (IntKind.wrap .i64 (x3_7 + 16)) y1_r0 H
          rw [decide_eq_false c5]
          refine goK hT 6 (K29 111111010010011 1) ⟨56, [(0, .d (eL37 t0 a0)), (5, .n .u32 v1), (6, .own 0 1 0 x3_r0.length), (7, .i x3_7), (41, .b x3_8)], [eR37 x3_r0]⟩ ?_
          by_cases c6 : x3_8 = true
          · replace H := sT c6 H
            rw [c6]
            refine goK hT 5 (K29 11111101001001110 3) ⟨56, [(0, .d (eL37 t0 a0)), (5, .n .u32 v1), (7, .i x3_7), (42, .own 0 1 0 x3_r0.length), (44, .own 1 1 0 1)], [eR37 x3_r0, .flat false 1 37 1 (fun j => [[.n .u32 v1]].getD j [])]⟩ ?_
            obtain ⟨h7, H⟩ := sC H
            refine ak_append1 (id := 0) (kk := 1) (by' := 4) (t := 57) (e := 37) (z := [.int .u32 0]) (dst := some 45) (id2 := 1) (e2 := 37) (fz := false) (k' := (K29 11111101001001110 4)) hT (eI .u32) 0 x3_r0 v1 [0, 5, 7, 45] (by kernel_rfl) (by kernel_rfl) (by kernel_rfl) (by kernel_rfl) (by kernel_rfl) (by kernel_rfl) (by kernel_rfl) h7 (by omega) (st' := ⟨56, [(0, .d (eL37 t0 a0)), (5, .n .u32 v1), (7, .i x3_7), (45, .own 2 1 0 ((x3_r0 ++ [v1]).length))], [.gone, .flat false 1 37 1 (fun j => [[.n .u32 v1]].getD j []), eR37 (x3_r0 ++ [v1])]⟩) (by kernel_rfl) ?_
            refine goK hT 3 (K29 11111101001 1) ⟨56, [(0, .d (eL37 t0 a0)), (5, .n .u32 v1), (6, .own 2 1 0 ((x3_r0 ++ [v1]).length)), (7, .i x3_7)], [.gone, .flat false 1 37 1 (fun j => [[.n .u32 v1]].getD j []), eR37 (x3_r0 ++ [v1])]⟩ ?_
            refine cutK [2] ⟨56, [(0, .d (eL37 t0 a0)), (5, .n .u32 v1), (6, .own 0 1 0 (x3_r0 ++ [v1]).length), (7, .i x3_7)], [eR37 (x3_r0 ++ [v1])]⟩ h0 ?_
            exact Jj1 (x3_r0 ++ [v1]) H
          · replace H := sF c6 H
            rw [boF c6]
            refine goK hT 7 (K29 11111101001001111 5) ⟨56, [(0, .d (eL37 t0 a0)), (5, .n .u32 v1), (7, .i x3_7), (46, .own 0 1 0 x3_r0.length), (47, .d (eL37 t0 a0)), (48, .i x3_7), (50, .i (IntKind.wrap .i64 (x3_7 + 16)))], [eR37 x3_r0]⟩ ?_
            obtain ⟨h8, H⟩ := sC H
            refine ak_sliceL (tg := t0) (s := 1) (l := (some (.i64, x3_7))) (h := (some (.i64, IntKind.wrap .i64 (x3_7 + 16)))) (dst := some 51) (k' := (K29 11111101001001111 6)) hT [0, 5, 7, 46, 51] (eI .u32) 0 a0 (by kernel_rfl) h8 (fun _ => rfl) (st' := ⟨56, [(0, .d (eL37 t0 a0)), (5, .n .u32 v1), (7, .i x3_7), (46, .own 0 1 0 x3_r0.length), (51, .d (eL37 t0 ((a0.drop x3_7.toNat).take ((IntKind.wrap .i64 (x3_7 + 16)).toNat - x3_7.toNat))))], [eR37 x3_r0]⟩) (by kernel_rfl) ?_
            obtain ⟨v2, h9, H⟩ := sbC H
            refine ak_callP (avs := [.d (eL37 t0 ((a0.drop x3_7.toNat).take ((IntKind.wrap .i64 (x3_7 + 16)).toNat - x3_7.toNat)))]) (dst := some 52) (k' := (K29 11111101001001111 7)) [0, 5, 7, 46, 52] [] hP enters_47 (spliceref20_Over.says (t0 := t0) ((a0.drop x3_7.toNat).take ((IntKind.wrap .i64 (x3_7 + 16)).toNat - x3_7.toNat)) h9) (by kernel_rfl) (hands_none _) (.cons (pass_d _) .nil) (st' := ⟨56, [(0, .d (eL37 t0 a0)), (5, .n .u32 v1), (7, .i x3_7), (46, .own 0 1 0 x3_r0.length), (52, .n .u32 v2)], [eR37 x3_r0]⟩) (by kernel_rfl) ?_
            refine goK hT 1 (K29 11111101001001111 8) ⟨56, [(0, .d (eL37 t0 a0)), (5, .n .u32 v1), (7, .i x3_7), (46, .own 0 1 0 x3_r0.length), (53, .own 1 1 0 1)], [eR37 x3_r0, .flat false 1 37 1 (fun j => [[.n .u32 v2]].getD j [])]⟩ ?_
            obtain ⟨h10, H⟩ := sC H
            refine ak_append1 (id := 0) (kk := 1) (by' := 4) (t := 57) (e := 37) (z := [.int .u32 0]) (dst := some 54) (id2 := 1) (e2 := 37) (fz := false) (k' := (K29 11111101001001111 9)) hT (eI .u32) 0 x3_r0 v2 [0, 5, 7, 54] (by kernel_rfl) (by kernel_rfl) (by kernel_rfl) (by kernel_rfl) (by kernel_rfl) (by kernel_rfl) (by kernel_rfl) h10 (by omega) (st' := ⟨56, [(0, .d (eL37 t0 a0)), (5, .n .u32 v1), (7, .i x3_7), (54, .own 2 1 0 ((x3_r0 ++ [v2]).length))], [.gone, .flat false 1 37 1 (fun j => [[.n .u32 v2]].getD j []), eR37 (x3_r0 ++ [v2])]⟩) (by kernel_rfl) ?_
            refine goK hT 3 (K29 11111101001 1) ⟨56, [(0, .d (eL37 t0 a0)), (5, .n .u32 v1), (6, .own 2 1 0 ((x3_r0 ++ [v2]).length)), (7, .i x3_7)], [.gone, .flat false 1 37 1 (fun j => [[.n .u32 v2]].getD j []), eR37 (x3_r0 ++ [v2])]⟩ ?_
            refine cutK [2] ⟨56, [(0, .d (eL37 t0 a0)), (5, .n .u32 v1), (6, .own 0 1 0 (x3_r0 ++ [v2]).length), (7, .i x3_7)], [eR37 (x3_r0 ++ [v2])]⟩ h0 ?_
            exact Jj1 (x3_r0 ++ [v2]) H
  refine cutK [0] ⟨56, [(0, .d (eL37 t0 a0)), (3, .own 0 1 0 ([] : List Int).length), (4, .i 0)], [eR37 ([] : List Int)]⟩ h0 ?_
  obtain ⟨n, H⟩ := loopC H
  exact (L n).1 0 ([] : List Int) H


theorem spliceref20_Levels.says {t0 : Bool} (a0 : List spliceref04_Pair) {r : List (List Int)} (H : spliceref20_Levels a0 = some r) : Says Try.prog 37 [] [.d (eL94 t0 a0)] [eR57 r] (.own 0 1 0 r.length) := by
  refine says_of Try.func37 rfl (nt := 18) rfl (Nat.le_of_ble_eq_true rfl) fun X hP h0 hX => ?_
  have hT : TabOk X.P T := hP ▸ tok
  have hf : X.P.funcs[37]? = some Try.f37 := hP ▸ Try.func37
  refine goK hT 7 (K37 110 1) ⟨18, [(6, .d (eL94 t0 a0))], []⟩ ?_
  obtain ⟨v1, h1, H⟩ := ibC H
  refine ak_callP (avs := [.d (eL94 t0 a0)]) (dst := some 7) (k' := (K37 110 2)) [7] [] hP enters_52 (spliceref20_Leaves.says (t0 := t0) a0 h1) (by kernel_rfl) (hands_none _) (.cons (pass_d _) .nil) (st' := ⟨18, [(7, .own 0 1 0 v1.length)], [eR37 v1]⟩) (by kernel_rfl) ?_
  refine goK hT 5 (K37 1110 1) ⟨18, [(3, .own 0 1 0 v1.length), (8, .own 0 1 0 v1.length)], [eR37 v1]⟩ ?_
  obtain ⟨v2, h2, H⟩ := ibC H
  refine ak_callP (avs := [.own 0 1 0 v1.length]) (dst := some 9) (k' := (K37 1110 2)) [3, 9] [] hP enters_29 (spliceref20_Above.says (t0 := false) v1 h2) (by kernel_rfl) (hands_none _) (.cons (.lend (ty := 37) (by kernel_rfl) rfl) .nil) (st' := ⟨18, [(3, .own 0 1 0 v1.length), (9, .own 1 1 0 v2.length)], [eR37 v1, eR37 v2]⟩) (by kernel_rfl) ?_
  refine goK hT 5 (K37 11110 1) ⟨18, [(3, .own 0 1 0 v1.length), (4, .own 1 1 0 v2.length), (10, .own 1 1 0 v2.length)], [eR37 v1, eR37 v2]⟩ ?_
  obtain ⟨v3, h3, H⟩ := ibC H
  refine ak_callP (avs := [.own 1 1 0 v2.length]) (dst := some 11) (k' := (K37 11110 2)) [3, 4, 11] [] hP enters_29 (spliceref20_Above.says (t0 := false) v2 h3) (by kernel_rfl) (hands_none _) (.cons (.lend (ty := 37) (by kernel_rfl) rfl) .nil) (st' := ⟨18, [(3, .own 0 1 0 v1.length), (4, .own 1 1 0 v2.length), (11, .own 2 1 0 v3.length)], [eR37 v1, eR37 v2, eR37 v3]⟩) (by kernel_rfl) ?_
  refine goK hT 8 (K37 111110 4) ⟨18, [(12, .own 0 1 0 v1.length), (13, .own 1 1 0 v2.length), (14, .own 2 1 0 v3.length), (15, .own 2 1 0 v3.length)], [eR37 v1, eR37 v2, eR37 v3]⟩ ?_
  obtain ⟨v4, h4, H⟩ := ibC H
  refine ak_callP (avs := [.own 2 1 0 v3.length]) (dst := some 16) (k' := (K37 111110 5)) [12, 13, 14, 16] [] hP enters_29 (spliceref20_Above.says (t0 := false) v3 h4) (by kernel_rfl) (hands_none _) (.cons (.lend (ty := 37) (by kernel_rfl) rfl) .nil) (st' := ⟨18, [(12, .own 0 1 0 v1.length), (13, .own 1 1 0 v2.length), (14, .own 2 1 0 v3.length), (16, .own 3 1 0 v4.length)], [eR37 v1, eR37 v2, eR37 v3, eR37 v4]⟩) (by kernel_rfl) ?_
  refine ak_freeze 0 (kk := 1) (n := v1.length) (ty := 37) (g := vec (eI .u32) 0 v1) (by kernel_rfl) (st' := ⟨18, [(12, .own 0 1 0 v1.length), (13, .own 1 1 0 v2.length), (14, .own 2 1 0 v3.length), (16, .own 3 1 0 v4.length)], [eF37 v1, eR37 v2, eR37 v3, eR37 v4]⟩) (by kernel_rfl) ?_
  refine ak_sealS (av := .own 0 1 0 v1.length) (y := eL37 true v1) [12, 13, 14, 16] 12 (st' := ⟨18, [(12, .d (eL37 true v1)), (13, .own 1 1 0 v2.length), (14, .own 2 1 0 v3.length), (16, .own 3 1 0 v4.length)], [eF37 v1, eR37 v2, eR37 v3, eR37 v4]⟩) (by kernel_rfl) (.own (ty := 37) (k := 1) (by kernel_rfl)) (by kernel_rfl) ?_
  refine ak_freeze 1 (kk := 1) (n := v2.length) (ty := 37) (g := vec (eI .u32) 0 v2) (by kernel_rfl) (st' := ⟨18, [(12, .d (eL37 true v1)), (13, .own 1 1 0 v2.length), (14, .own 2 1 0 v3.length), (16, .own 3 1 0 v4.length)], [eF37 v1, eF37 v2, eR37 v3, eR37 v4]⟩) (by kernel_rfl) ?_
  refine ak_sealS (av := .own 1 1 0 v2.length) (y := eL37 true v2) [12, 13, 14, 16] 13 (st' := ⟨18, [(12, .d (eL37 true v1)), (13, .d (eL37 true v2)), (14, .own 2 1 0 v3.length), (16, .own 3 1 0 v4.length)], [eF37 v1, eF37 v2, eR37 v3, eR37 v4]⟩) (by kernel_rfl) (.own (ty := 37) (k := 1) (by kernel_rfl)) (by kernel_rfl) ?_
  refine ak_freeze 2 (kk := 1) (n := v3.length) (ty := 37) (g := vec (eI .u32) 0 v3) (by kernel_rfl) (st' := ⟨18, [(12, .d (eL37 true v1)), (13, .d (eL37 true v2)), (14, .own 2 1 0 v3.length), (16, .own 3 1 0 v4.length)], [eF37 v1, eF37 v2, eF37 v3, eR37 v4]⟩) (by kernel_rfl) ?_
  refine ak_sealS (av := .own 2 1 0 v3.length) (y := eL37 true v3) [12, 13, 14, 16] 14 (st' := ⟨18, [(12, .d (eL37 true v1)), (13, .d (eL37 true v2)), (14, .d (eL37 true v3)), (16, .own 3 1 0 v4.length)], [eF37 v1, eF37 v2, eF37 v3, eR37 v4]⟩) (by kernel_rfl) (.own (ty := 37) (k := 1) (by kernel_rfl)) (by kernel_rfl) ?_
  refine ak_freeze 3 (kk := 1) (n := v4.length) (ty := 37) (g := vec (eI .u32) 0 v4) (by kernel_rfl) (st' := ⟨18, [(12, .d (eL37 true v1)), (13, .d (eL37 true v2)), (14, .d (eL37 true v3)), (16, .own 3 1 0 v4.length)], [eF37 v1, eF37 v2, eF37 v3, eF37 v4]⟩) (by kernel_rfl) ?_
  refine ak_sealS (av := .own 3 1 0 v4.length) (y := eL37 true v4) [12, 13, 14, 16] 16 (st' := ⟨18, [(12, .d (eL37 true v1)), (13, .d (eL37 true v2)), (14, .d (eL37 true v3)), (16, .d (eL37 true v4))], [eF37 v1, eF37 v2, eF37 v3, eF37 v4]⟩) (by kernel_rfl) (.own (ty := 37) (k := 1) (by kernel_rfl)) (by kernel_rfl) ?_
  refine goK hT 3 (K37 11111 1) ⟨18, [(2, .own 4 1 0 4)], [eF37 v1, eF37 v2, eF37 v3, eF37 v4, .flat false 1 57 4 (fun j => [[eL37 true v1], [eL37 true v2], [eL37 true v3], [eL37 true v4]].getD j [])]⟩ ?_
  refine ak_row 4 (kk := 1) (fz := false) (ty := 57) (n := ([v1, v2, v3, v4] : List (List Int)).length) (vec (eL (eI .u32) 0) [] ([v1, v2, v3, v4] : List (List Int))) (by kernel_rfl) vec_lit (st' := ⟨18, [(2, .own 4 1 0 (([v1, v2, v3, v4] : List (List Int)).length))], [eF37 v1, eF37 v2, eF37 v3, eF37 v4, eR57 ([v1, v2, v3, v4] : List (List Int))]⟩) (by kernel_rfl) ?_
  obtain rfl := retC H
  exact ak_ret hf hX (av := .own 4 1 0 (([v1, v2, v3, v4] : List (List Int)).length)) (by kernel_rfl) [4] (sel_of_eq (by kernel_rfl)) (by decide) (by rw [h0]; rfl) (by kernel_rfl) (fun _ h => all_cons (nr_vec (nlL (nlI .u32))) (fun _ h => all_nil h) h) (.own _ _ _ _)


theorem splicelaw20_levels.says {t0 : Bool} (a0 : List api_Pair) {r : List (List Int)} (H : splicelaw20_levels a0 = some r) : Says Try.prog 13 [] [.d (eL42 t0 a0)] [eR57 r] (.own 0 1 0 r.length) := by
  refine says_of Try.func13 rfl (nt := 6) rfl (Nat.le_of_ble_eq_true rfl) fun X hP h0 hX => ?_
  have hT : TabOk X.P T := hP ▸ tok
  have hf : X.P.funcs[13]? = some Try.f13 := hP ▸ Try.func13
  refine goK hT 7 (K13 110 1) ⟨6, [(3, .d (eL42 t0 a0))], []⟩ ?_
  obtain ⟨v1, h1, H⟩ := ibC H
  refine ak_callP (avs := [.d (eL42 t0 a0)]) (dst := some 4) (k' := (K13 110 2)) [4] [] hP enters_22 (splicelaw05_Refs.says (t0 := t0) a0 h1) (by kernel_rfl) (hands_none _) (.cons (pass_d _) .nil) (st' := ⟨6, [(4, .own 0 2 0 v1.length)], [eR94 v1]⟩) (by kernel_rfl) ?_
  obtain ⟨v2, h2, H⟩ := ibC H
  refine ak_callP (avs := [.own 0 2 0 v1.length]) (dst := some 5) (k' := (K13 110 3)) [5] [] hP enters_37 (spliceref20_Levels.says (t0 := false) v1 h2) (by kernel_rfl) (hands_none _) (.cons (.lend (ty := 94) (by kernel_rfl) rfl) .nil) (st' := ⟨6, [(5, .own 1 1 0 v2.length)], [eR94 v1, eR57 v2]⟩) (by kernel_rfl) ?_
  refine goK hT 2 (K13 11 1) ⟨6, [(2, .own 1 1 0 v2.length)], [eR94 v1, eR57 v2]⟩ ?_
  obtain rfl := retC H
  exact ak_ret hf hX (av := .own 1 1 0 v2.length) (by kernel_rfl) [1] (sel_of_eq (by kernel_rfl)) (by decide) (by rw [h0]; rfl) (by kernel_rfl) (fun _ h => all_cons (nr_vec (nlL (nlI .u32))) (fun _ h => all_nil h) h) (.own _ _ _ _)


theorem splicelaw03_Refs.says {t0 : Bool} (a0 : List api_Span) {r : List spliceref03_Span} (H : splicelaw03_Refs a0 = some r) : Says Try.prog 16 [] [.d (eL44 t0 a0)] [eR69 r] (.own 0 2 0 r.length) := by
  refine says_of Try.func16 rfl (nt := 19) rfl (Nat.le_of_ble_eq_true rfl) fun X hP h0 hX => ?_
  have hT : TabOk X.P T := hP ▸ tok
  have hf : X.P.funcs[16]? = some Try.f16 := hP ▸ Try.func16
  refine goK hT 15 (K16 111010 0) ⟨19, [(0, .d (eL44 t0 a0)), (3, .ns), (4, .i 0)], []⟩ ?_
  refine ak_nilS [0, 3, 4] 3 2 69 (vec spliceref03_Span.e spliceref03_Span.z []) (st' := ⟨19, [(0, .d (eL44 t0 a0)), (3, .own 0 2 0 0), (4, .i 0)], [eR69 ([] : List spliceref03_Span)]⟩) (by kernel_rfl) (by kernel_rfl) ?_
  have L : ∀ n, (∀ (x1_4 : Int) (x1_r0 : List spliceref03_Span), iter (splicelaw03_Refs.step a0) n (.l1 x1_4 x1_r0) = some r → AK X 16 ((K16 111010 0)) (Back X [eR69 r] (.own 0 2 0 r.length)) ⟨19, [(0, .d (eL44 t0 a0)), (3, .own 0 2 0 x1_r0.length), (4, .i x1_4)], [eR69 x1_r0]⟩) := by
    intro n
    induction n with
    | zero => exact fun _ _ H => iter0 H
    | succ n ih =>
      · intro x1_4 x1_r0 H
        refine goK hT 8 (K16 11101000 1) ⟨19, [(0, .d (eL44 t0 a0)), (3, .own 0 2 0 x1_r0.length), (4, .i x1_4), (8, .b (decide (x1_4 < (a0.length : Int))))], [eR69 x1_r0]⟩ ?_
        by_cases c1 : x1_4 < (a0.length : Int)
        · replace H := sT c1 H
          rw [decide_eq_true c1]
          refine goK hT 2 (K16 1110100 1) ⟨19, [(0, .d (eL44 t0 a0)), (3, .own 0 2 0 x1_r0.length), (4, .i x1_4)], [eR69 x1_r0]⟩ ?_
          refine goK hT 6 (K16 1110100100 3) ⟨19, [(0, .d (eL44 t0 a0)), (4, .i x1_4), (11, .own 0 2 0 x1_r0.length), (12, .d (eL44 t0 a0)), (13, .i x1_4)], [eR69 x1_r0]⟩ ?_
          obtain ⟨h2, H⟩ := sC H
          refine ak_idx hT [0, 4, 11, 14] (i := x1_4) (n := (a0.length : Int)) h2.1 h2.2 (k' := (K16 1110100100 4)) (st' := ⟨19, [(0, .d (eL44 t0 a0)), (4, .i x1_4), (11, .own 0 2 0 x1_r0.length), (14, .d (eP44 t0 a0 x1_4.toNat 0))], [eR69 x1_r0]⟩) (by kernel_rfl) ?_
          refine goK hT 2 (K16 1110100100 6) ⟨19, [(0, .d (eL44 t0 a0)), (4, .i x1_4), (11, .own 0 2 0 x1_r0.length), (16, .own 1 2 0 1)], [eR69 x1_r0, .flat false 2 69 1 (fun j => [api_Span.e (a0.getD x1_4.toNat api_Span.z)].getD j [])]⟩ ?_
          obtain ⟨h3, H⟩ := sC H
          refine ak_append1 (id := 0) (kk := 2) (by' := 16) (t := 34) (e := 69) (z := [.int .i64 0, .int .i64 0]) (dst := some 17) (id2 := 1) (e2 := 69) (fz := false) (k' := (K16 1110100100 7)) hT spliceref03_Span.e spliceref03_Span.z x1_r0 (⟨(a0.getD x1_4.toNat api_Span.z).Lo, (a0.getD x1_4.toNat api_Span.z).Hi⟩ : spliceref03_Span) [0, 4, 17] (by kernel_rfl) (by kernel_rfl) (by kernel_rfl) (by kernel_rfl) (by kernel_rfl) (by kernel_rfl) (by kernel_rfl) h3 (by omega) (st' := ⟨19, [(0, .d (eL44 t0 a0)), (4, .i x1_4), (17, .own 2 2 0 ((x1_r0 ++ [(⟨(a0.getD x1_4.toNat api_Span.z).Lo, (a0.getD x1_4.toNat api_Span.z).Hi⟩ : spliceref03_Span)]).length))], [.gone, .flat false 2 69 1 (fun j => [api_Span.e (a0.getD x1_4.toNat api_Span.z)].getD j []), eR69 (x1_r0 ++ [(⟨(a0.getD x1_4.toNat api_Span.z).Lo, (a0.getD x1_4.toNat api_Span.z).Hi⟩ : spliceref03_Span)])]⟩) (by kernel_rfl) ?_
          refine goK hT 9 (K16 111010 0) ⟨19, [(0, .d (eL44 t0 a0)), (3, .own 2 2 0 ((x1_r0 ++ [(⟨(a0.getD x1_4.toNat api_Span.z).Lo, (a0.getD x1_4.toNat api_Span.z).Hi⟩ : spliceref03_Span)]).length)), (4, .i (IntKind.wrap .i64 (x1_4 + 1)))], [.gone, .flat false 2 69 1 (fun j => [api_Span.e (a0.getD x1_4.toNat api_Span.z)].getD j []), eR69 (x1_r0 ++ [(⟨(a0.getD x1_4.toNat api_Span.z).Lo, (a0.getD x1_4.toNat api_Span.z).Hi⟩ : spliceref03_Span)])]⟩ ?_
          refine cutK [2] ⟨19, [(0, .d (eL44 t0 a0)), (3, .own 0 2 0 (x1_r0 ++ [(⟨(a0.getD x1_4.toNat api_Span.z).Lo, (a0.getD x1_4.toNat api_Span.z).Hi⟩ : spliceref03_Span)]).length), (4, .i (IntKind.wrap .i64 (x1_4 + 1)))], [eR69 (x1_r0 ++ [(⟨(a0.getD x1_4.toNat api_Span.z).Lo, (a0.getD x1_4.toNat api_Span.z).Hi⟩ : spliceref03_Span)])]⟩ h0 ?_
          exact ih (IntKind.wrap .i64 (x1_4 + 1)) (x1_r0 ++ [(⟨(a0.getD x1_4.toNat api_Span.z).Lo, (a0.getD x1_4.toNat api_Span.z).Hi⟩ : spliceref03_Span)]) H
        · replace H := sF c1 H
          rw [decide_eq_false c1]
          refine goK hT 7 (K16 1111 1) ⟨19, [(2, .own 0 2 0 x1_r0.length)], [eR69 x1_r0]⟩ ?_
          obtain rfl := retC H
          exact ak_ret hf hX (av := .own 0 2 0 x1_r0.length) (by kernel_rfl) [0] (sel_of_eq (by kernel_rfl)) (by decide) (by rw [h0]; rfl) (by kernel_rfl) (fun _ h => all_cons (nr_vec spliceref03_Span.nl) (fun _ h => all_nil h) h) (.own _ _ _ _)
  refine cutK [0] ⟨19, [(0, .d (eL44 t0 a0)), (3, .own 0 2 0 ([] : List spliceref03_Span).length), (4, .i 0)], [eR69 ([] : List spliceref03_Span)]⟩ h0 ?_
  obtain ⟨n, H⟩ := loopC H
  exact (L n) 0 ([] : List spliceref03_Span) H


theorem spliceref20_Diff.says {t0 : Bool} {t1 : Bool} (a0 : List (List Int)) (a1 : List (List Int)) {r : List spliceref03_Span} (H : spliceref20_Diff a0 a1 = some r) : Says Try.prog 17 [] [.d (eL57 t0 a0), .d (eL57 t1 a1)] [eR69 r] (.own 0 2 0 r.length) := by
  refine says_of Try.func17 rfl (nt := 122) rfl (Nat.le_of_ble_eq_true rfl) fun X hP h0 hX => ?_
  have hT : TabOk X.P T := hP ▸ tok
  have hf : X.P.funcs[17]? = some Try.f17 := hP ▸ Try.func17
  refine goK hT 15 (K17 111010 0) ⟨122, [(0, .d (eL57 t0 a0)), (1, .d (eL57 t1 a1)), (5, .ns), (6, .i 0)], []⟩ ?_
  refine ak_nilS [0, 1, 5, 6] 5 2 69 (vec spliceref03_Span.e spliceref03_Span.z []) (st' := ⟨122, [(0, .d (eL57 t0 a0)), (1, .d (eL57 t1 a1)), (5, .own 0 2 0 0), (6, .i 0)], [eR69 ([] : List spliceref03_Span)]⟩) (by kernel_rfl) (by kernel_rfl) ?_
  have L : ∀ n, (∀ (x1_6 : Int) (x1_r0 : List spliceref03_Span), iter (spliceref20_Diff.step a0 a1) n (.l1 x1_6 x1_r0) = some r → AK X 17 ((K17 111010 0)) (Back X [eR69 r] (.own 0 2 0 r.length)) ⟨122, [(0, .d (eL57 t0 a0)), (1, .d (eL57 t1 a1)), (5, .own 0 2 0 x1_r0.length), (6, .i x1_6)], [eR69 x1_r0]⟩) ∧ (∀ (x2_r0 : List spliceref03_Span), iter (spliceref20_Diff.step a0 a1) n (.l2 x2_r0) = some r → AK X 17 ((K17 111100 0)) (Back X [eR69 r] (.own 0 2 0 r.length)) ⟨122, [(5, .own 0 2 0 x2_r0.length)], [eR69 x2_r0]⟩) := by
    intro n
    induction n with
    | zero => exact ⟨fun _ _ H => iter0 H, fun _ H => iter0 H⟩
    | succ n ih =>
      refine ⟨?_, ?_⟩
      · intro x1_6 x1_r0 H
        refine goK hT 6 (K17 11101000 1) ⟨122, [(0, .d (eL57 t0 a0)), (1, .d (eL57 t1 a1)), (5, .own 0 2 0 x1_r0.length), (6, .i x1_6), (10, .b (decide (x1_6 < 4096)))], [eR69 x1_r0]⟩ ?_
        by_cases c1 : x1_6 < 4096
        · replace H := sT c1 H
          rw [decide_eq_true c1]
          refine goK hT 2 (K17 1110100 1) ⟨122, [(0, .d (eL57 t0 a0)), (1, .d (eL57 t1 a1)), (5, .own 0 2 0 x1_r0.length), (6, .i x1_6)], [eR69 x1_r0]⟩ ?_
          refine goK hT 4 (K17 11101001000 0) ⟨122, [(0, .d (eL57 t0 a0)), (1, .d (eL57 t1 a1)), (5, .own 0 2 0 x1_r0.length), (6, .i x1_6)], [eR69 x1_r0]⟩ ?_
          obtain ⟨h2, H⟩ := sC H
          obtain ⟨h3, H⟩ := sC H
          obtain ⟨h4, H⟩ := sC H
          obtain ⟨h5, H⟩ := sC H
          have Jj1 : ∀ (y1_72 : Bool), stk (spliceref20_Diff.j1 x1_6 x1_r0 y1_72) (iter (spliceref20_Diff.step a0 a1) n) = some r → AK X 17 ((K17 11101001000 1)) (Back X [eR69 r] (.own 0 2 0 r.length)) ⟨122, [(0, .d (eL57 t0 a0)), (1, .d (eL57 t1 a1)), (5, .own 0 2 0 x1_r0.length), (6, .i x1_6), (72, .b y1_72)], [eR69 x1_r0]⟩ := by
            intro y1_72 H
            by_cases c21 : y1_72 = true
            · replace H := sT c21 H
              rw [c21]
              refine goK hT 8 (K17 111010 0) ⟨122, [(0, .d (eL57 t0 a0)), (1, .d (eL57 t1 a1)), (5, .own 0 2 0 x1_r0.length), (6, .i (IntKind.wrap .i64 (x1_6 + 1)))], [eR69 x1_r0]⟩ ?_
              refine cutK [0] ⟨122, [(0, .d (eL57 t0 a0)), (1, .d (eL57 t1 a1)), (5, .own 0 2 0 x1_r0.length), (6, .i (IntKind.wrap .i64 (x1_6 + 1)))], [eR69 x1_r0]⟩ h0 ?_
              exact ih.1 (IntKind.wrap .i64 (x1_6 + 1)) x1_r0 H
            · replace H := sF c21 H
              have Jj2 : ∀ (y2_86 : Bool), stk (spliceref20_Diff.j2 x1_6 x1_r0 y2_86) (iter (spliceref20_Diff.step a0 a1) n) = some r → AK X 17 ((K17 111010010011 1)) (Back X [eR69 r] (.own 0 2 0 r.length)) ⟨122, [(0, .d (eL57 t0 a0)), (1, .d (eL57 t1 a1)), (5, .own 0 2 0 x1_r0.length), (6, .i x1_6), (7, .i (x1_r0.length : Int)), (86, .b y2_86)], [eR69 x1_r0]⟩ := by
                intro y2_86 H
                have Jj3 : ∀ (y3_r0 : List spliceref03_Span), stk (spliceref20_Diff.j3 x1_6 y3_r0) (iter (spliceref20_Diff.step a0 a1) n) = some r → AK X 17 ((K17 11101001 1)) (Back X [eR69 r] (.own 0 2 0 r.length)) ⟨122, [(0, .d (eL57 t0 a0)), (1, .d (eL57 t1 a1)), (5, .own 0 2 0 y3_r0.length), (6, .i x1_6)], [eR69 y3_r0]⟩ := by
                  intro y3_r0 H
                  refine goK hT 6 (K17 111010 0) ⟨122, [(0, .d (eL57 t0 a0)), (1, .d (eL57 t1 a1)), (5, .own 0 2 0 y3_r0.length), (6, .i (IntKind.wrap .i64 (x1_6 + 1)))], [eR69 y3_r0]⟩ ?_
                  refine cutK [0] ⟨122, [(0, .d (eL57 t0 a0)), (1, .d (eL57 t1 a1)), (5, .own 0 2 0 y3_r0.length), (6, .i (IntKind.wrap .i64 (x1_6 + 1)))], [eR69 y3_r0]⟩ h0 ?_
                  exact ih.1 (IntKind.wrap .i64 (x1_6 + 1)) y3_r0 H
                by_cases c24 : y2_86 = true
                · replace H := sT c24 H
                  rw [c24]
                  refine goK hT 7 (K17 11101001001110 5) ⟨122, [(0, .d (eL57 t0 a0)), (1, .d (eL57 t1 a1)), (5, .own 0 2 0 x1_r0.length), (6, .i x1_6), (87, .own 0 2 0 x1_r0.length), (89, .i (IntKind.wrap .i64 ((x1_r0.length : Int) - 1))), (91, .i (IntKind.wrap .i64 (x1_6 + 1)))], [eR69 x1_r0]⟩ ?_
                  obtain ⟨h25, H⟩ := sC H
                  refine ak_idx hT [0, 1, 5, 6, 91, 92] (i := IntKind.wrap .i64 ((x1_r0.length : Int) - 1)) (n := (x1_r0.length : Int)) h25.1 h25.2 (k' := (K17 11101001001110 6)) (st' := ⟨122, [(0, .d (eL57 t0 a0)), (1, .d (eL57 t1 a1)), (5, .own 0 2 0 x1_r0.length), (6, .i x1_6), (91, .i (IntKind.wrap .i64 (x1_6 + 1))), (92, .ptr 0 2 ((IntKind.wrap .i64 ((x1_r0.length : Int) - 1)).toNat) 0)], [eR69 x1_r0]⟩) (by kernel_rfl) ?_
                  refine goK hT 1 (K17 11101001001110 7) ⟨122, [(0, .d (eL57 t0 a0)), (1, .d (eL57 t1 a1)), (5, .own 0 2 0 x1_r0.length), (6, .i x1_6), (91, .i (IntKind.wrap .i64 (x1_6 + 1))), (93, .ptr 0 2 ((IntKind.wrap .i64 ((x1_r0.length : Int) - 1)).toNat) 1)], [eR69 x1_r0]⟩ ?_
                  refine ak_st (id := 0) (kk := 2) (i := ((IntKind.wrap .i64 ((x1_r0.length : Int) - 1)).toNat)) (off := 1) (s := 1) (n := x1_r0.length) (ty := 69) (ds := [.i (IntKind.wrap .i64 (x1_6 + 1))]) (g := vec spliceref03_Span.e spliceref03_Span.z x1_r0) (k' := (K17 11101001001110 8)) hT [0, 1, 5, 6] (vec spliceref03_Span.e spliceref03_Span.z (x1_r0.set ((IntKind.wrap .i64 ((x1_r0.length : Int) - 1)).toNat) (⟨(x1_r0.getD ((IntKind.wrap .i64 ((x1_r0.length : Int) - 1)).toNat) spliceref03_Span.z).Lo, IntKind.wrap .i64 (x1_6 + 1)⟩ : spliceref03_Span))) (by kernel_rfl) (by kernel_rfl) (ltN h25.1 h25.2) ((vec_set (ltN h25.1 h25.2)).trans (by kernel_rfl)) vec_set_ne (st' := ⟨122, [(0, .d (.sl t0 a0.length (vec (eL (eI .u32) 0) [] a0))), (1, .d (.sl t1 a1.length (vec (eL (eI .u32) 0) [] a1))), (5, .own 0 2 0 (x1_r0.length)), (6, .i x1_6)], [.flat false 2 69 x1_r0.length (vec spliceref03_Span.e spliceref03_Span.z (x1_r0.set ((IntKind.wrap .i64 ((x1_r0.length : Int) - 1)).toNat) (⟨(x1_r0.getD ((IntKind.wrap .i64 ((x1_r0.length : Int) - 1)).toNat) spliceref03_Span.z).Lo, IntKind.wrap .i64 (x1_6 + 1)⟩ : spliceref03_Span)))]⟩) (by kernel_rfl) ?_
                  refine ak_eq (show x1_r0.length = (x1_r0.set ((IntKind.wrap .i64 ((x1_r0.length : Int) - 1)).toNat) (⟨(x1_r0.getD ((IntKind.wrap .i64 ((x1_r0.length : Int) - 1)).toNat) spliceref03_Span.z).Lo, IntKind.wrap .i64 (x1_6 + 1)⟩ : spliceref03_Span)).length from (List.length_set ..).symm) (fun nn => ⟨122, [(0, .d (.sl t0 a0.length (vec (eL (eI .u32) 0) [] a0))), (1, .d (.sl t1 a1.length (vec (eL (eI .u32) 0) [] a1))), (5, .own 0 2 0 (nn)), (6, .i x1_6)], [.flat false 2 69 nn (vec spliceref03_Span.e spliceref03_Span.z (x1_r0.set ((IntKind.wrap .i64 ((x1_r0.length : Int) - 1)).toNat) (⟨(x1_r0.getD ((IntKind.wrap .i64 ((x1_r0.length : Int) - 1)).toNat) spliceref03_Span.z).Lo, IntKind.wrap .i64 (x1_6 + 1)⟩ : spliceref03_Span)))]⟩) ?_
                  refine goK hT 2 (K17 11101001 1) ⟨122, [(0, .d (eL57 t0 a0)), (1, .d (eL57 t1 a1)), (5, .own 0 2 0 ((x1_r0.set ((IntKind.wrap .i64 ((x1_r0.length : Int) - 1)).toNat) (⟨(x1_r0.getD ((IntKind.wrap .i64 ((x1_r0.length : Int) - 1)).toNat) spliceref03_Span.z).Lo, IntKind.wrap .i64 (x1_6 + 1)⟩ : spliceref03_Span)).length)), (6, .i x1_6)], [eR69 (x1_r0.set ((IntKind.wrap .i64 ((x1_r0.length : Int) - 1)).toNat) (⟨(x1_r0.getD ((IntKind.wrap .i64 ((x1_r0.length : Int) - 1)).toNat) spliceref03_Span.z).Lo, IntKind.wrap .i64 (x1_6 + 1)⟩ : spliceref03_Span))]⟩ ?_
                  refine cutK [0] ⟨122, [(0, .d (eL57 t0 a0)), (1, .d (eL57 t1 a1)), (5, .own 0 2 0 (x1_r0.set ((IntKind.wrap .i64 ((x1_r0.length : Int) - 1)).toNat) (⟨(x1_r0.getD ((IntKind.wrap .i64 ((x1_r0.length : Int) - 1)).toNat) spliceref03_Span.z).Lo, IntKind.wrap .i64 (x1_6 + 1)⟩ : spliceref03_Span)).length), (6, .i x1_6)], [eR69 (x1_r0.set ((IntKind.wrap .i64 ((x1_r0.length : Int) - 1)).toNat) (⟨(x1_r0.getD ((IntKind.wrap .i64 ((x1_r0.length : Int) - 1)).toNat) spliceref03_Span.z).Lo, IntKind.wrap .i64 (x1_6 + 1)⟩ : spliceref03_Span))]⟩ h0 ?_
                  exact Jj3 (x1_r0.set ((IntKind.wrap .i64 ((x1_r0.length : Int) - 1)).toNat) (⟨(x1_r0.getD ((IntKind.wrap .i64 ((x1_r0.length : Int) - 1)).toNat) spliceref03_Span.z).Lo, IntKind.wrap .i64 (x1_6 + 1)⟩ : spliceref03_Span)) H
                · replace H := sF c24 H
                  rw [boF c24]
                  refine goK hT 8 (K17 11101001001111 6) ⟨122, [(0, .d (eL57 t0 a0)), (1, .d (eL57 t1 a1)), (6, .i x1_6), (94, .own 0 2 0 x1_r0.length), (99, .own 1 2 0 1)], [eR69 x1_r0, .flat false 2 69 1 (fun j => [[.i x1_6, .i (IntKind.wrap .i64 (x1_6 + 1))]].getD j [])]⟩ ?_
                  obtain ⟨h26, H⟩ := sC H
                  refine ak_append1 (id := 0) (kk := 2) (by' := 16) (t := 34) (e := 69) (z := [.int .i64 0, .int .i64 0]) (dst := some 100) (id2 := 1) (e2 := 69) (fz := false) (k' := (K17 11101001001111 7)) hT spliceref03_Span.e spliceref03_Span.z x1_r0 (⟨x1_6, IntKind.wrap .i64 (x1_6 + 1)⟩ : spliceref03_Span) [0, 1, 6, 100] (by kernel_rfl) (by kernel_rfl) (by kernel_rfl) (by kernel_rfl) (by kernel_rfl) (by kernel_rfl) (by kernel_rfl) h26 (by omega) (st' := ⟨122, [(0, .d (eL57 t0 a0)), (1, .d (eL57 t1 a1)), (6, .i x1_6), (100, .own 2 2 0 ((x1_r0 ++ [(⟨x1_6, IntKind.wrap .i64 (x1_6 + 1)⟩ : spliceref03_Span)]).length))], [.gone, .flat false 2 69 1 (fun j => [[.i x1_6, .i (IntKind.wrap .i64 (x1_6 + 1))]].getD j []), eR69 (x1_r0 ++ [(⟨x1_6, IntKind.wrap .i64 (x1_6 + 1)⟩ : spliceref03_Span)])]⟩) (by kernel_rfl) ?_
                  refine goK hT 3 (K17 11101001 1) ⟨122, [(0, .d (eL57 t0 a0)), (1, .d (eL57 t1 a1)), (5, .own 2 2 0 ((x1_r0 ++ [(⟨x1_6, IntKind.wrap .i64 (x1_6 + 1)⟩ : spliceref03_Span)]).length)), (6, .i x1_6)], [.gone, .flat false 2 69 1 (fun j => [[.i x1_6, .i (IntKind.wrap .i64 (x1_6 + 1))]].getD j []), eR69 (x1_r0 ++ [(⟨x1_6, IntKind.wrap .i64 (x1_6 + 1)⟩ : spliceref03_Span)])]⟩ ?_
                  refine cutK [2] ⟨122, [(0, .d (eL57 t0 a0)), (1, .d (eL57 t1 a1)), (5, .own 0 2 0 (x1_r0 ++ [(⟨x1_6, IntKind.wrap .i64 (x1_6 + 1)⟩ : spliceref03_Span)]).length), (6, .i x1_6)], [eR69 (x1_r0 ++ [(⟨x1_6, IntKind.wrap .i64 (x1_6 + 1)⟩ : spliceref03_Span)])]⟩ h0 ?_
                  exact Jj3 (x1_r0 ++ [(⟨x1_6, IntKind.wrap .i64 (x1_6 + 1)⟩ : spliceref03_Span)]) H
              rw [boF c21]
              refine goK hT 2 (K17 1110100100 1) ⟨122, [(0, .d (eL57 t0 a0)), (1, .d (eL57 t1 a1)), (5, .own 0 2 0 x1_r0.length), (6, .i x1_6)], [eR69 x1_r0]⟩ ?_
              refine goK hT 11 (K17 1110100100110 3) ⟨122, [(0, .d (eL57 t0 a0)), (1, .d (eL57 t1 a1)), (5, .own 0 2 0 x1_r0.length), (6, .i x1_6), (7, .i (x1_r0.length : Int)), (77, .b (decide ((x1_r0.length : Int) > 0)))], [eR69 x1_r0]⟩ ?_
              by_cases c22 : (x1_r0.length : Int) > 0
              · replace H := sT c22 H
                rw [decide_eq_true c22]
                refine goK hT 3 (K17 1110100100110 6) ⟨122, [(0, .d (eL57 t0 a0)), (1, .d (eL57 t1 a1)), (5, .own 0 2 0 x1_r0.length), (6, .i x1_6), (7, .i (x1_r0.length : Int)), (77, .b true), (78, .own 0 2 0 x1_r0.length), (80, .i (IntKind.wrap .i64 ((x1_r0.length : Int) - 1)))], [eR69 x1_r0]⟩ ?_
                obtain ⟨h23, H⟩ := sC H
                refine ak_idx hT [0, 1, 5, 6, 7, 77, 81] (i := IntKind.wrap .i64 ((x1_r0.length : Int) - 1)) (n := (x1_r0.length : Int)) h23.1 h23.2 (k' := (K17 1110100100110 7)) (st' := ⟨122, [(0, .d (eL57 t0 a0)), (1, .d (eL57 t1 a1)), (5, .own 0 2 0 x1_r0.length), (6, .i x1_6), (7, .i (x1_r0.length : Int)), (77, .b true), (81, .ptr 0 2 ((IntKind.wrap .i64 ((x1_r0.length : Int) - 1)).toNat) 0)], [eR69 x1_r0]⟩) (by kernel_rfl) ?_
                refine goK hT 1 (K17 1110100100110 8) ⟨122, [(0, .d (eL57 t0 a0)), (1, .d (eL57 t1 a1)), (5, .own 0 2 0 x1_r0.length), (6, .i x1_6), (7, .i (x1_r0.length : Int)), (77, .b true), (82, .ptr 0 2 ((IntKind.wrap .i64 ((x1_r0.length : Int) - 1)).toNat) 1)], [eR69 x1_r0]⟩ ?_
                refine ak_ld hT [0, 1, 5, 6, 7, 77, 83] (i := (IntKind.wrap .i64 ((x1_r0.length : Int) - 1)).toNat) (n := x1_r0.length) (ltN h23.1 h23.2) (k' := (K17 1110100100110 9)) (st' := ⟨122, [(0, .d (eL57 t0 a0)), (1, .d (eL57 t1 a1)), (5, .own 0 2 0 x1_r0.length), (6, .i x1_6), (7, .i (x1_r0.length : Int)), (77, .b true), (83, .i ((x1_r0.getD ((IntKind.wrap .i64 ((x1_r0.length : Int) - 1)).toNat) spliceref03_Span.z).Hi))], [eR69 x1_r0]⟩) (by kernel_rfl) ?_
                refine goK hT 4 (K17 111010010011 1) ⟨122, [(0, .d (eL57 t0 a0)), (1, .d (eL57 t1 a1)), (5, .own 0 2 0 x1_r0.length), (6, .i x1_6), (7, .i (x1_r0.length : Int)), (86, .b (((x1_r0.getD ((IntKind.wrap .i64 ((x1_r0.length : Int) - 1)).toNat) spliceref03_Span.z).Hi) == x1_6))], [eR69 x1_r0]⟩ ?_
                refine cutK [0] ⟨122, [(0, .d (eL57 t0 a0)), (1, .d (eL57 t1 a1)), (5, .own 0 2 0 x1_r0.length), (6, .i x1_6), (7, .i (x1_r0.length : Int)), (86, .b (((x1_r0.getD ((IntKind.wrap .i64 ((x1_r0.length : Int) - 1)).toNat) spliceref03_Span.z).Hi) == x1_6))], [eR69 x1_r0]⟩ h0 ?_
                exact Jj2 (((x1_r0.getD ((IntKind.wrap .i64 ((x1_r0.length : Int) - 1)).toNat) spliceref03_Span.z).Hi) == x1_6) H
              · replace H := sF c22 H
                rw [decide_eq_false c22]
                refine goK hT 10 (K17 111010010011 1) ⟨122, [(0, .d (eL57 t0 a0)), (1, .d (eL57 t1 a1)), (5, .own 0 2 0 x1_r0.length), (6, .i x1_6), (7, .i (x1_r0.length : Int)), (86, .b false)], [eR69 x1_r0]⟩ ?_
                refine cutK [0] ⟨122, [(0, .d (eL57 t0 a0)), (1, .d (eL57 t1 a1)), (5, .own 0 2 0 x1_r0.length), (6, .i x1_6), (7, .i (x1_r0.length : Int)), (86, .b false)], [eR69 x1_r0]⟩ h0 ?_
                exact Jj2 false H
          by_cases c6 : ((a0.getD 3 []).getD 0 0) = ((a1.getD 3 []).getD 0 0)
          · replace H := sT c6 H
            refine drawK (hP ▸ mixed) 60 [0, 1, 5, 6] [some (.d (eL57 t0 a0)), some (.d (eP57 t0 a0 3 0)), some (.d (eL37 true (a0.getD 3 []))), some (.d (eP37 true (a0.getD 3 []) 0 0)), some (.n .u32 ((a0.getD 3 []).getD 0 0)), some (.d (eL57 t1 a1)), some (.d (eP57 t1 a1 3 0)), some (.d (eL37 true (a1.getD 3 []))), some (.d (eP37 true (a1.getD 3 []) 0 0)), some (.n .u32 ((a1.getD 3 []).getD 0 0)), some (.b true), some (.b true), some (.tup []), some (.tup []), some (.tup []), some (.tup []), some (.tup []), some (.tup []), some (.tup []), some (.tup []), some (.tup []), some (.tup []), some (.tup []), some (.tup []), some (.tup []), some (.tup []), some (.tup []), some (.b true), some (.b true), some (.tup []), some (.tup []), some (.tup []), some (.tup []), some (.tup []), some (.tup []), some (.tup []), some (.tup []), some (.tup []), some (.tup []), some (.tup []), some (.tup []), some (.tup []), some (.tup []), some (.tup []), some (.b true), some (.b true), some (.tup []), some (.tup []), some (.tup []), some (.tup []), some (.tup []), some (.tup []), some (.tup []), some (.tup []), some (.tup []), some (.tup []), some (.tup []), some (.tup []), some (.tup []), some (.b true)] (opG (opG (opG (opG (opG (opG (opG (opG (opG (opG (opG (opG (opG (opG (opG (opG (opG (opG (opG (opG (opG (opG (opG (opG (opG (opG (opG (opG (opG (opG (opG (opG (opG (opG (opG (opG (opG (opG (opG (opG (opG (opG (opG (opG (opG (opG (opG (opG (opG (opV (opG (opS (opG (opS (opG (opG (opS (opG (opS (opG op0 hT) (fun R rest h => ak_idx0 hT (i := 3) (n := (a0.length : Int)) h2.1 h2.2 (by kernel_rfl) h)) hT) (fun R rest h => ak_idx0 hT (i := 0) (n := ((a0.getD 3 []).length : Int)) h3.1 h3.2 (by kernel_rfl) h)) hT) hT) (fun R rest h => ak_idx0 hT (i := 3) (n := (a1.length : Int)) h4.1 h4.2 (by kernel_rfl) h)) hT) (fun R rest h => ak_idx0 hT (i := 0) (n := ((a1.getD 3 []).length : Int)) h5.1 h5.2 (by kernel_rfl) h)) hT) hT 23 (.b (((a0.getD 3 []).getD 0 0) == ((a1.getD 3 []).getD 0 0))) (.b true) (by rw [eqT c6] <;> rfl)) hT) hT) hT) hT) hT) hT) hT) hT) hT) hT) hT) hT) hT) hT) hT) hT) hT) hT) hT) hT) hT) hT) hT) hT) hT) hT) hT) hT) hT) hT) hT) hT) hT) hT) hT) hT) hT) hT) hT) hT) hT) hT) hT) hT) hT) hT) hT) hT) hT) ?_
            refine goK hT 1 (K17 11101001000 1) ⟨122, [(0, .d (eL57 t0 a0)), (1, .d (eL57 t1 a1)), (5, .own 0 2 0 x1_r0.length), (6, .i x1_6), (72, .b true)], [eR69 x1_r0]⟩ ?_
            refine cutK [0] ⟨122, [(0, .d (eL57 t0 a0)), (1, .d (eL57 t1 a1)), (5, .own 0 2 0 x1_r0.length), (6, .i x1_6), (72, .b true)], [eR69 x1_r0]⟩ h0 ?_
            exact Jj1 true H
          · replace H := sF c6 H
            obtain ⟨h7, H⟩ := sC H
            obtain ⟨h8, H⟩ := sC H
            obtain ⟨h9, H⟩ := sC H
            obtain ⟨h10, H⟩ := sC H
            by_cases c11 : ((a0.getD 2 []).getD ((IntKind.wrap .i64 (Int.tdiv x1_6 256)).toNat) 0) = ((a1.getD 2 []).getD ((IntKind.wrap .i64 (Int.tdiv x1_6 256)).toNat) 0)
            · replace H := sT c11 H
              refine drawK (hP ▸ mixed) 60 [0, 1, 5, 6] [some (.d (eL57 t0 a0)), some (.d (eP57 t0 a0 3 0)), some (.d (eL37 true (a0.getD 3 []))), some (.d (eP37 true (a0.getD 3 []) 0 0)), some (.n .u32 ((a0.getD 3 []).getD 0 0)), some (.d (eL57 t1 a1)), some (.d (eP57 t1 a1 3 0)), some (.d (eL37 true (a1.getD 3 []))), some (.d (eP37 true (a1.getD 3 []) 0 0)), some (.n .u32 ((a1.getD 3 []).getD 0 0)), some (.b false), some (.b false), some (.d (eL57 t0 a0)), some (.d (eP57 t0 a0 2 0)), some (.d (eL37 true (a0.getD 2 []))), some (.i x1_6), some (.i (IntKind.wrap .i64 (Int.tdiv x1_6 256))), some (.d (eP37 true (a0.getD 2 []) ((IntKind.wrap .i64 (Int.tdiv x1_6 256)).toNat) 0)), some (.n .u32 ((a0.getD 2 []).getD ((IntKind.wrap .i64 (Int.tdiv x1_6 256)).toNat) 0)), some (.d (eL57 t1 a1)), some (.d (eP57 t1 a1 2 0)), some (.d (eL37 true (a1.getD 2 []))), some (.i x1_6), some (.i (IntKind.wrap .i64 (Int.tdiv x1_6 256))), some (.d (eP37 true (a1.getD 2 []) ((IntKind.wrap .i64 (Int.tdiv x1_6 256)).toNat) 0)), some (.n .u32 ((a1.getD 2 []).getD ((IntKind.wrap .i64 (Int.tdiv x1_6 256)).toNat) 0)), some (.b true), some (.b true), some (.b true), some (.tup []), some (.tup []), some (.tup []), some (.tup []), some (.tup []), some (.tup []), some (.tup []), some (.tup []), some (.tup []), some (.tup []), some (.tup []), some (.tup []), some (.tup []), some (.tup []), some (.tup []), some (.b true), some (.b true), some (.tup []), some (.tup []), some (.tup []), some (.tup []), some (.tup []), some (.tup []), some (.tup []), some (.tup []), some (.tup []), some (.tup []), some (.tup []), some (.tup []), some (.tup []), some (.b true)] (opG (opG (opG (opG (opG (opG (opG (opG (opG (opG (opG (opG (opG (opG (opG (opG (opG (opG (opG (opG (opG (opG (opG (opG (opG (opG (opG (opG (opG (opG (opG (opG (opG (opV (opG (opS (opG (opG (opG (opS (opG (opG (opS (opG (opG (opG (opS (opG (opG (opV (opG (opS (opG (opS (opG (opG (opS (opG (opS (opG op0 hT) (fun R rest h => ak_idx0 hT (i := 3) (n := (a0.length : Int)) h2.1 h2.2 (by kernel_rfl) h)) hT) (fun R rest h => ak_idx0 hT (i := 0) (n := ((a0.getD 3 []).length : Int)) h3.1 h3.2 (by kernel_rfl) h)) hT) hT) (fun R rest h => ak_idx0 hT (i := 3) (n := (a1.length : Int)) h4.1 h4.2 (by kernel_rfl) h)) hT) (fun R rest h => ak_idx0 hT (i := 0) (n := ((a1.getD 3 []).length : Int)) h5.1 h5.2 (by kernel_rfl) h)) hT) hT 23 (.b (((a0.getD 3 []).getD 0 0) == ((a1.getD 3 []).getD 0 0))) (.b false) (by rw [eqF c6] <;> rfl)) hT) hT) (fun R rest h => ak_idx0 hT (i := 2) (n := (a0.length : Int)) h7.1 h7.2 (by kernel_rfl) h)) hT) hT) hT) (fun R rest h => ak_idx0 hT (i := IntKind.wrap .i64 (Int.tdiv x1_6 256)) (n := ((a0.getD 2 []).length : Int)) h8.1 h8.2 (by kernel_rfl) h)) hT) hT) (fun R rest h => ak_idx0 hT (i := 2) (n := (a1.length : Int)) h9.1 h9.2 (by kernel_rfl) h)) hT) hT) hT) (fun R rest h => ak_idx0 hT (i := IntKind.wrap .i64 (Int.tdiv x1_6 256)) (n := ((a1.getD 2 []).length : Int)) h10.1 h10.2 (by kernel_rfl) h)) hT) hT 39 (.b (((a0.getD 2 []).getD ((IntKind.wrap .i64 (Int.tdiv x1_6 256)).toNat) 0) == ((a1.getD 2 []).getD ((IntKind.wrap .i64 (Int.tdiv x1_6 256)).toNat) 0))) (.b true) (by rw [eqT c11] <;> rfl)) hT) hT) hT) hT) hT) hT) hT) hT) hT) hT) hT) hT) hT) hT) hT) hT) hT) hT) hT) hT) hT) hT) hT) hT) hT) hT) hT) hT) hT) hT) hT) hT) hT) ?_
              refine goK hT 1 (K17 11101001000 1) ⟨122, [(0, .d (eL57 t0 a0)), (1, .d (eL57 t1 a1)), (5, .own 0 2 0 x1_r0.length), (6, .i x1_6), (72, .b true)], [eR69 x1_r0]⟩ ?_
              refine cutK [0] ⟨122, [(0, .d (eL57 t0 a0)), (1, .d (eL57 t1 a1)), (5, .own 0 2 0 x1_r0.length), (6, .i x1_6), (72, .b true)], [eR69 x1_r0]⟩ h0 ?_
              exact Jj1 true H
            · replace H := sF c11 H
              obtain ⟨h12, H⟩ := sC H
              obtain ⟨h13, H⟩ := sC H
              obtain ⟨h14, H⟩ := sC H
              obtain ⟨h15, H⟩ := sC H
              by_cases c16 : ((a0.getD 1 []).getD ((IntKind.wrap .i64 (Int.tdiv x1_6 16)).toNat) 0) = ((a1.getD 1 []).getD ((IntKind.wrap .i64 (Int.tdiv x1_6 16)).toNat) 0)
              · replace H := sT c16 H
                refine drawK (hP ▸ mixed) 60 [0, 1, 5, 6] [some (.d (eL57 t0 a0)), some (.d (eP57 t0 a0 3 0)), some (.d (eL37 true (a0.getD 3 []))), some (.d (eP37 true (a0.getD 3 []) 0 0)), some (.n .u32 ((a0.getD 3 []).getD 0 0)), some (.d (eL57 t1 a1)), some (.d (eP57 t1 a1 3 0)), some (.d (eL37 true (a1.getD 3 []))), some (.d (eP37 true (a1.getD 3 []) 0 0)), some (.n .u32 ((a1.getD 3 []).getD 0 0)), some (.b false), some (.b false), some (.d (eL57 t0 a0)), some (.d (eP57 t0 a0 2 0)), some (.d (eL37 true (a0.getD 2 []))), some (.i x1_6), some (.i (IntKind.wrap .i64 (Int.tdiv x1_6 256))), some (.d (eP37 true (a0.getD 2 []) ((IntKind.wrap .i64 (Int.tdiv x1_6 256)).toNat) 0)), some (.n .u32 ((a0.getD 2 []).getD ((IntKind.wrap .i64 (Int.tdiv x1_6 256)).toNat) 0)), some (.d (eL57 t1 a1)), some (.d (eP57 t1 a1 2 0)), some (.d (eL37 true (a1.getD 2 []))), some (.i x1_6), some (.i (IntKind.wrap .i64 (Int.tdiv x1_6 256))), some (.d (eP37 true (a1.getD 2 []) ((IntKind.wrap .i64 (Int.tdiv x1_6 256)).toNat) 0)), some (.n .u32 ((a1.getD 2 []).getD ((IntKind.wrap .i64 (Int.tdiv x1_6 256)).toNat) 0)), some (.b false), some (.b false), some (.b false), some (.d (eL57 t0 a0)), some (.d (eP57 t0 a0 1 0)), some (.d (eL37 true (a0.getD 1 []))), some (.i x1_6), some (.i (IntKind.wrap .i64 (Int.tdiv x1_6 16))), some (.d (eP37 true (a0.getD 1 []) ((IntKind.wrap .i64 (Int.tdiv x1_6 16)).toNat) 0)), some (.n .u32 ((a0.getD 1 []).getD ((IntKind.wrap .i64 (Int.tdiv x1_6 16)).toNat) 0)), some (.d (eL57 t1 a1)), some (.d (eP57 t1 a1 1 0)), some (.d (eL37 true (a1.getD 1 []))), some (.i x1_6), some (.i (IntKind.wrap .i64 (Int.tdiv x1_6 16))), some (.d (eP37 true (a1.getD 1 []) ((IntKind.wrap .i64 (Int.tdiv x1_6 16)).toNat) 0)), some (.n .u32 ((a1.getD 1 []).getD ((IntKind.wrap .i64 (Int.tdiv x1_6 16)).toNat) 0)), some (.b true), some (.b true), some (.b true), some (.tup []), some (.tup []), some (.tup []), some (.tup []), some (.tup []), some (.tup []), some (.tup []), some (.tup []), some (.tup []), some (.tup []), some (.tup []), some (.tup []), some (.tup []), some (.b true)] (opG (opG (opG (opG (opG (opG (opG (opG (opG (opG (opG (opG (opG (opG (opG (opG (opV (opG (opS (opG (opG (opG (opS (opG (opG (opS (opG (opG (opG (opS (opG (opG (opG (opV (opG (opS (opG (opG (opG (opS (opG (opG (opS (opG (opG (opG (opS (opG (opG (opV (opG (opS (opG (opS (opG (opG (opS (opG (opS (opG op0 hT) (fun R rest h => ak_idx0 hT (i := 3) (n := (a0.length : Int)) h2.1 h2.2 (by kernel_rfl) h)) hT) (fun R rest h => ak_idx0 hT (i := 0) (n := ((a0.getD 3 []).length : Int)) h3.1 h3.2 (by kernel_rfl) h)) hT) hT) (fun R rest h => ak_idx0 hT (i := 3) (n := (a1.length : Int)) h4.1 h4.2 (by kernel_rfl) h)) hT) (fun R rest h => ak_idx0 hT (i := 0) (n := ((a1.getD 3 []).length : Int)) h5.1 h5.2 (by kernel_rfl) h)) hT) hT 23 (.b (((a0.getD 3 []).getD 0 0) == ((a1.getD 3 []).getD 0 0))) (.b false) (by rw [eqF c6] <;> rfl)) hT) hT) (fun R rest h => ak_idx0 hT (i := 2) (n := (a0.length : Int)) h7.1 h7.2 (by kernel_rfl) h)) hT) hT) hT) (fun R rest h => ak_idx0 hT (i := IntKind.wrap .i64 (Int.tdiv x1_6 256)) (n := ((a0.getD 2 []).length : Int)) h8.1 h8.2 (by kernel_rfl) h)) hT) hT) (fun R rest h => ak_idx0 hT (i := 2) (n := (a1.length : Int)) h9.1 h9.2 (by kernel_rfl) h)) hT) hT) hT) (fun R rest h => ak_idx0 hT (i := IntKind.wrap .i64 (Int.tdiv x1_6 256)) (n := ((a1.getD 2 []).length : Int)) h10.1 h10.2 (by kernel_rfl) h)) hT) hT 39 (.b (((a0.getD 2 []).getD ((IntKind.wrap .i64 (Int.tdiv x1_6 256)).toNat) 0) == ((a1.getD 2 []).getD ((IntKind.wrap .i64 (Int.tdiv x1_6 256)).toNat) 0))) (.b false) (by rw [eqF c11] <;> rfl)) hT) hT) hT) (fun R rest h => ak_idx0 hT (i := 1) (n := (a0.length : Int)) h12.1 h12.2 (by kernel_rfl) h)) hT) hT) hT) (fun R rest h => ak_idx0 hT (i := IntKind.wrap .i64 (Int.tdiv x1_6 16)) (n := ((a0.getD 1 []).length : Int)) h13.1 h13.2 (by kernel_rfl) h)) hT) hT) (fun R rest h => ak_idx0 hT (i := 1) (n := (a1.length : Int)) h14.1 h14.2 (by kernel_rfl) h)) hT) hT) hT) (fun R rest h => ak_idx0 hT (i := IntKind.wrap .i64 (Int.tdiv x1_6 16)) (n := ((a1.getD 1 []).length : Int)) h15.1 h15.2 (by kernel_rfl) h)) hT) hT 56 (.b (((a0.getD 1 []).getD ((IntKind.wrap .i64 (Int.tdiv x1_6 16)).toNat) 0) == ((a1.getD 1 []).getD ((IntKind.wrap .i64 (Int.tdiv x1_6 16)).toNat) 0))) (.b true) (by rw [eqT c16] <;> rfl)) hT) hT) hT) hT) hT) hT) hT) hT) hT) hT) hT) hT) hT) hT) hT) hT) ?_
                refine goK hT 1 (K17 11101001000 1) ⟨122, [(0, .d (eL57 t0 a0)), (1, .d (eL57 t1 a1)), (5, .own 0 2 0 x1_r0.length), (6, .i x1_6), (72, .b true)], [eR69 x1_r0]⟩ ?_
                refine cutK [0] ⟨122, [(0, .d (eL57 t0 a0)), (1, .d (eL57 t1 a1)), (5, .own 0 2 0 x1_r0.length), (6, .i x1_6), (72, .b true)], [eR69 x1_r0]⟩ h0 ?_
                exact Jj1 true H
              · replace H := sF c16 H
                obtain ⟨h17, H⟩ := sC H
                obtain ⟨h18, H⟩ := sC H
                obtain ⟨h19, H⟩ := sC H
                obtain ⟨h20, H⟩ := sC H
                refine drawK (hP ▸ mixed) 60 [0, 1, 5, 6] [some (.d (eL57 t0 a0)), some (.d (eP57 t0 a0 3 0)), some (.d (eL37 true (a0.getD 3 []))), some (.d (eP37 true (a0.getD 3 []) 0 0)), some (.n .u32 ((a0.getD 3 []).getD 0 0)), some (.d (eL57 t1 a1)), some (.d (eP57 t1 a1 3 0)), some (.d (eL37 true (a1.getD 3 []))), some (.d (eP37 true (a1.getD 3 []) 0 0)), some (.n .u32 ((a1.getD 3 []).getD 0 0)), some (.b false), some (.b false), some (.d (eL57 t0 a0)), some (.d (eP57 t0 a0 2 0)), some (.d (eL37 true (a0.getD 2 []))), some (.i x1_6), some (.i (IntKind.wrap .i64 (Int.tdiv x1_6 256))), some (.d (eP37 true (a0.getD 2 []) ((IntKind.wrap .i64 (Int.tdiv x1_6 256)).toNat) 0)), some (.n .u32 ((a0.getD 2 []).getD ((IntKind.wrap .i64 (Int.tdiv x1_6 256)).toNat) 0)), some (.d (eL57 t1 a1)), some (.d (eP57 t1 a1 2 0)), some (.d (eL37 true (a1.getD 2 []))), some (.i x1_6), some (.i (IntKind.wrap .i64 (Int.tdiv x1_6 256))), some (.d (eP37 true (a1.getD 2 []) ((IntKind.wrap .i64 (Int.tdiv x1_6 256)).toNat) 0)), some (.n .u32 ((a1.getD 2 []).getD ((IntKind.wrap .i64 (Int.tdiv x1_6 256)).toNat) 0)), some (.b false), some (.b false), some (.b false), some (.d (eL57 t0 a0)), some (.d (eP57 t0 a0 1 0)), some (.d (eL37 true (a0.getD 1 []))), some (.i x1_6), some (.i (IntKind.wrap .i64 (Int.tdiv x1_6 16))), some (.d (eP37 true (a0.getD 1 []) ((IntKind.wrap .i64 (Int.tdiv x1_6 16)).toNat) 0)), some (.n .u32 ((a0.getD 1 []).getD ((IntKind.wrap .i64 (Int.tdiv x1_6 16)).toNat) 0)), some (.d (eL57 t1 a1)), some (.d (eP57 t1 a1 1 0)), some (.d (eL37 true (a1.getD 1 []))), some (.i x1_6), some (.i (IntKind.wrap .i64 (Int.tdiv x1_6 16))), some (.d (eP37 true (a1.getD 1 []) ((IntKind.wrap .i64 (Int.tdiv x1_6 16)).toNat) 0)), some (.n .u32 ((a1.getD 1 []).getD ((IntKind.wrap .i64 (Int.tdiv x1_6 16)).toNat) 0)), some (.b false), some (.b false), some (.b false), some (.d (eL57 t0 a0)), some (.d (eP57 t0 a0 0 0)), some (.d (eL37 true (a0.getD 0 []))), some (.i x1_6), some (.d (eP37 true (a0.getD 0 []) x1_6.toNat 0)), some (.n .u32 ((a0.getD 0 []).getD x1_6.toNat 0)), some (.d (eL57 t1 a1)), some (.d (eP57 t1 a1 0 0)), some (.d (eL37 true (a1.getD 0 []))), some (.i x1_6), some (.d (eP37 true (a1.getD 0 []) x1_6.toNat 0)), some (.n .u32 ((a1.getD 0 []).getD x1_6.toNat 0)), some (.b (((a0.getD 0 []).getD x1_6.toNat 0) == ((a1.getD 0 []).getD x1_6.toNat 0))), some (.b (((a0.getD 0 []).getD x1_6.toNat 0) == ((a1.getD 0 []).getD x1_6.toNat 0)))] (opG (opG (opG (opS (opG (opG (opS (opG (opG (opS (opG (opG (opS (opG (opG (opG (opV (opG (opS (opG (opG (opG (opS (opG (opG (opS (opG (opG (opG (opS (opG (opG (opG (opV (opG (opS (opG (opG (opG (opS (opG (opG (opS (opG (opG (opG (opS (opG (opG (opV (opG (opS (opG (opS (opG (opG (opS (opG (opS (opG op0 hT) (fun R rest h => ak_idx0 hT (i := 3) (n := (a0.length : Int)) h2.1 h2.2 (by kernel_rfl) h)) hT) (fun R rest h => ak_idx0 hT (i := 0) (n := ((a0.getD 3 []).length : Int)) h3.1 h3.2 (by kernel_rfl) h)) hT) hT) (fun R rest h => ak_idx0 hT (i := 3) (n := (a1.length : Int)) h4.1 h4.2 (by kernel_rfl) h)) hT) (fun R rest h => ak_idx0 hT (i := 0) (n := ((a1.getD 3 []).length : Int)) h5.1 h5.2 (by kernel_rfl) h)) hT) hT 23 (.b (((a0.getD 3 []).getD 0 0) == ((a1.getD 3 []).getD 0 0))) (.b false) (by rw [eqF c6] <;> rfl)) hT) hT) (fun R rest h => ak_idx0 hT (i := 2) (n := (a0.length : Int)) h7.1 h7.2 (by kernel_rfl) h)) hT) hT) hT) (fun R rest h => ak_idx0 hT (i := IntKind.wrap .i64 (Int.tdiv x1_6 256)) (n := ((a0.getD 2 []).length : Int)) h8.1 h8.2 (by kernel_rfl) h)) hT) hT) (fun R rest h => ak_idx0 hT (i := 2) (n := (a1.length : Int)) h9.1 h9.2 (by kernel_rfl) h)) hT) hT) hT) (fun R rest h => ak_idx0 hT (i := IntKind.wrap .i64 (Int.tdiv x1_6 256)) (n := ((a1.getD 2 []).length : Int)) h10.1 h10.2 (by kernel_rfl) h)) hT) hT 39 (.b (((a0.getD 2 []).getD ((IntKind.wrap .i64 (Int.tdiv x1_6 256)).toNat) 0) == ((a1.getD 2 []).getD ((IntKind.wrap .i64 (Int.tdiv x1_6 256)).toNat) 0))) (.b false) (by rw [eqF c11] <;> rfl)) hT) hT) hT) (fun R rest h => ak_idx0 hT (i := 1) (n := (a0.length : Int)) h12.1 h12.2 (by kernel_rfl) h)) hT) hT) hT) (fun R rest h => ak_idx0 hT (i := IntKind.wrap .i64 (Int.tdiv x1_6 16)) (n := ((a0.getD 1 []).length : Int)) h13.1 h13.2 (by kernel_rfl) h)) hT) hT) (fun R rest h => ak_idx0 hT (i := 1) (n := (a1.length : Int)) h14.1 h14.2 (by kernel_rfl) h)) hT) hT) hT) (fun R rest h => ak_idx0 hT (i := IntKind.wrap .i64 (Int.tdiv x1_6 16)) (n := ((a1.getD 1 []).length : Int)) h15.1 h15.2 (by kernel_rfl) h)) hT) hT 56 (.b (((a0.getD 1 []).getD ((IntKind.wrap .i64 (Int.tdiv x1_6 16)).toNat) 0) == ((a1.getD 1 []).getD ((IntKind.wrap .i64 (Int.tdiv x1_6 16)).toNat) 0))) (.b false) (by rw [eqF c16] <;> rfl)) hT) hT) hT) (fun R rest h => ak_idx0 hT (i := 0) (n := (a0.length : Int)) h17.1 h17.2 (by kernel_rfl) h)) hT) hT) (fun R rest h => ak_idx0 hT (i := x1_6) (n := ((a0.getD 0 []).length : Int)) h18.1 h18.2 (by kernel_rfl) h)) hT) hT) (fun R rest h => ak_idx0 hT (i := 0) (n := (a1.length : Int)) h19.1 h19.2 (by kernel_rfl) h)) hT) hT) (fun R rest h => ak_idx0 hT (i := x1_6) (n := ((a1.getD 0 []).length : Int)) h20.1 h20.2 (by kernel_rfl) h)) hT) hT) hT) ?_
                refine goK hT 1 (K17 11101001000 1) ⟨122, [(0, .d (eL57 t0 a0)), (1, .d (eL57 t1 a1)), (5, .own 0 2 0 x1_r0.length), (6, .i x1_6), (72, .b (((a0.getD 0 []).getD x1_6.toNat 0) == ((a1.getD 0 []).getD x1_6.toNat 0)))], [eR69 x1_r0]⟩ ?_
                refine cutK [0] ⟨122, [(0, .d (eL57 t0 a0)), (1, .d (eL57 t1 a1)), (5, .own 0 2 0 x1_r0.length), (6, .i x1_6), (72, .b (((a0.getD 0 []).getD x1_6.toNat 0) == ((a1.getD 0 []).getD x1_6.toNat 0)))], [eR69 x1_r0]⟩ h0 ?_
                exact Jj1 (((a0.getD 0 []).getD x1_6.toNat 0) == ((a1.getD 0 []).getD x1_6.toNat 0)) H
        · replace H := sF c1 H
          rw [decide_eq_false c1]
          refine goK hT 5 (K17 111100 0) ⟨122, [(5, .own 0 2 0 x1_r0.length)], [eR69 x1_r0]⟩ ?_
          refine cutK [0] ⟨122, [(5, .own 0 2 0 x1_r0.length)], [eR69 x1_r0]⟩ h0 ?_
          exact ih.2 x1_r0 H
      · intro x2_r0 H
        refine goK hT 7 (K17 11110000 1) ⟨122, [(5, .own 0 2 0 x2_r0.length), (103, .b (decide ((x2_r0.length : Int) > 64)))], [eR69 x2_r0]⟩ ?_
        by_cases c27 : (x2_r0.length : Int) > 64
        · replace H := sT c27 H
          rw [decide_eq_true c27]
          refine goK hT 2 (K17 1111000 1) ⟨122, [(5, .own 0 2 0 x2_r0.length)], [eR69 x2_r0]⟩ ?_
          refine goK hT 15 (K17 11110001010 6) ⟨122, [(5, .own 0 2 0 x2_r0.length), (8, .i (x2_r0.length : Int)), (106, .own 0 2 0 x2_r0.length), (108, .i (IntKind.wrap .i64 ((x2_r0.length : Int) - 2))), (109, .own 0 2 0 x2_r0.length), (111, .i (IntKind.wrap .i64 ((x2_r0.length : Int) - 1)))], [eR69 x2_r0]⟩ ?_
          obtain ⟨h28, H⟩ := sC H
          refine ak_idx hT [5, 8, 106, 108, 112] (i := IntKind.wrap .i64 ((x2_r0.length : Int) - 1)) (n := (x2_r0.length : Int)) h28.1 h28.2 (k' := (K17 11110001010 7)) (st' := ⟨122, [(5, .own 0 2 0 x2_r0.length), (8, .i (x2_r0.length : Int)), (106, .own 0 2 0 x2_r0.length), (108, .i (IntKind.wrap .i64 ((x2_r0.length : Int) - 2))), (112, .ptr 0 2 ((IntKind.wrap .i64 ((x2_r0.length : Int) - 1)).toNat) 0)], [eR69 x2_r0]⟩) (by kernel_rfl) ?_
          refine goK hT 1 (K17 11110001010 8) ⟨122, [(5, .own 0 2 0 x2_r0.length), (8, .i (x2_r0.length : Int)), (106, .own 0 2 0 x2_r0.length), (108, .i (IntKind.wrap .i64 ((x2_r0.length : Int) - 2))), (113, .ptr 0 2 ((IntKind.wrap .i64 ((x2_r0.length : Int) - 1)).toNat) 1)], [eR69 x2_r0]⟩ ?_
          refine ak_ld hT [5, 8, 106, 108, 114] (i := (IntKind.wrap .i64 ((x2_r0.length : Int) - 1)).toNat) (n := x2_r0.length) (ltN h28.1 h28.2) (k' := (K17 11110001010 9)) (st' := ⟨122, [(5, .own 0 2 0 x2_r0.length), (8, .i (x2_r0.length : Int)), (106, .own 0 2 0 x2_r0.length), (108, .i (IntKind.wrap .i64 ((x2_r0.length : Int) - 2))), (114, .i ((x2_r0.getD ((IntKind.wrap .i64 ((x2_r0.length : Int) - 1)).toNat) spliceref03_Span.z).Hi))], [eR69 x2_r0]⟩) (by kernel_rfl) ?_
          obtain ⟨h29, H⟩ := sC H
          refine ak_idx hT [5, 8, 114, 115] (i := IntKind.wrap .i64 ((x2_r0.length : Int) - 2)) (n := (x2_r0.length : Int)) h29.1 h29.2 (k' := (K17 11110001010 10)) (st' := ⟨122, [(5, .own 0 2 0 x2_r0.length), (8, .i (x2_r0.length : Int)), (114, .i ((x2_r0.getD ((IntKind.wrap .i64 ((x2_r0.length : Int) - 1)).toNat) spliceref03_Span.z).Hi)), (115, .ptr 0 2 ((IntKind.wrap .i64 ((x2_r0.length : Int) - 2)).toNat) 0)], [eR69 x2_r0]⟩) (by kernel_rfl) ?_
          refine goK hT 1 (K17 11110001010 11) ⟨122, [(5, .own 0 2 0 x2_r0.length), (8, .i (x2_r0.length : Int)), (114, .i ((x2_r0.getD ((IntKind.wrap .i64 ((x2_r0.length : Int) - 1)).toNat) spliceref03_Span.z).Hi)), (116, .ptr 0 2 ((IntKind.wrap .i64 ((x2_r0.length : Int) - 2)).toNat) 1)], [eR69 x2_r0]⟩ ?_
          refine ak_st (id := 0) (kk := 2) (i := ((IntKind.wrap .i64 ((x2_r0.length : Int) - 2)).toNat)) (off := 1) (s := 1) (n := x2_r0.length) (ty := 69) (ds := [.i ((x2_r0.getD ((IntKind.wrap .i64 ((x2_r0.length : Int) - 1)).toNat) spliceref03_Span.z).Hi)]) (g := vec spliceref03_Span.e spliceref03_Span.z x2_r0) (k' := (K17 11110001010 12)) hT [5, 8] (vec spliceref03_Span.e spliceref03_Span.z (x2_r0.set ((IntKind.wrap .i64 ((x2_r0.length : Int) - 2)).toNat) (⟨(x2_r0.getD ((IntKind.wrap .i64 ((x2_r0.length : Int) - 2)).toNat) spliceref03_Span.z).Lo, (x2_r0.getD ((IntKind.wrap .i64 ((x2_r0.length : Int) - 1)).toNat) spliceref03_Span.z).Hi⟩ : spliceref03_Span))) (by kernel_rfl) (by kernel_rfl) (ltN h29.1 h29.2) ((vec_set (ltN h29.1 h29.2)).trans (by kernel_rfl)) vec_set_ne (st' := ⟨122, [(5, .own 0 2 0 (x2_r0.length)), (8, .i (x2_r0.length : Int))], [.flat false 2 69 x2_r0.length (vec spliceref03_Span.e spliceref03_Span.z (x2_r0.set ((IntKind.wrap .i64 ((x2_r0.length : Int) - 2)).toNat) (⟨(x2_r0.getD ((IntKind.wrap .i64 ((x2_r0.length : Int) - 2)).toNat) spliceref03_Span.z).Lo, (x2_r0.getD ((IntKind.wrap .i64 ((x2_r0.length : Int) - 1)).toNat) spliceref03_Span.z).Hi⟩ : spliceref03_Span)))]⟩) (by kernel_rfl) ?_
          refine ak_eq (show x2_r0.length = (x2_r0.set ((IntKind.wrap .i64 ((x2_r0.length : Int) - 2)).toNat) (⟨(x2_r0.getD ((IntKind.wrap .i64 ((x2_r0.length : Int) - 2)).toNat) spliceref03_Span.z).Lo, (x2_r0.getD ((IntKind.wrap .i64 ((x2_r0.length : Int) - 1)).toNat) spliceref03_Span.z).Hi⟩ : spliceref03_Span)).length from (List.length_set ..).symm) (fun nn => ⟨122, [(5, .own 0 2 0 (nn)), (8, .i (x2_r0.length : Int))], [.flat false 2 69 nn (vec spliceref03_Span.e spliceref03_Span.z (x2_r0.set ((IntKind.wrap .i64 ((x2_r0.length : Int) - 2)).toNat) (⟨(x2_r0.getD ((IntKind.wrap .i64 ((x2_r0.length : Int) - 2)).toNat) spliceref03_Span.z).Lo, (x2_r0.getD ((IntKind.wrap .i64 ((x2_r0.length : Int) - 1)).toNat) spliceref03_Span.z).Hi⟩ : spliceref03_Span)))]⟩) ?_
          refine goK hT 5 (K17 11110001011 3) ⟨122, [(117, .own 0 2 0 ((x2_r0.set ((IntKind.wrap .i64 ((x2_r0.length : Int) - 2)).toNat) (⟨(x2_r0.getD ((IntKind.wrap .i64 ((x2_r0.length : Int) - 2)).toNat) spliceref03_Span.z).Lo, (x2_r0.getD ((IntKind.wrap .i64 ((x2_r0.length : Int) - 1)).toNat) spliceref03_Span.z).Hi⟩ : spliceref03_Span)).length)), (119, .i (IntKind.wrap .i64 ((x2_r0.length : Int) - 1)))], [eR69 (x2_r0.set ((IntKind.wrap .i64 ((x2_r0.length : Int) - 2)).toNat) (⟨(x2_r0.getD ((IntKind.wrap .i64 ((x2_r0.length : Int) - 2)).toNat) spliceref03_Span.z).Lo, (x2_r0.getD ((IntKind.wrap .i64 ((x2_r0.length : Int) - 1)).toNat) spliceref03_Span.z).Hi⟩ : spliceref03_Span))]⟩ ?_
          obtain ⟨h30, H⟩ := sC H
          refine ak_sliceO (id := 0) (s := 2) (off := 0) (n := ((x2_r0.set ((IntKind.wrap .i64 ((x2_r0.length : Int) - 2)).toNat) (⟨(x2_r0.getD ((IntKind.wrap .i64 ((x2_r0.length : Int) - 2)).toNat) spliceref03_Span.z).Lo, (x2_r0.getD ((IntKind.wrap .i64 ((x2_r0.length : Int) - 1)).toNat) spliceref03_Span.z).Hi⟩ : spliceref03_Span)).length)) (kk := .i64) (i := IntKind.wrap .i64 ((x2_r0.length : Int) - 1)) (dst := some 120) (k' := (K17 11110001011 4)) hT [120] (by kernel_rfl) h30.1 h30.2 (st' := ⟨122, [(120, .own 0 2 0 ((IntKind.wrap .i64 ((x2_r0.length : Int) - 1)).toNat))], [eR69 (x2_r0.set ((IntKind.wrap .i64 ((x2_r0.length : Int) - 2)).toNat) (⟨(x2_r0.getD ((IntKind.wrap .i64 ((x2_r0.length : Int) - 2)).toNat) spliceref03_Span.z).Lo, (x2_r0.getD ((IntKind.wrap .i64 ((x2_r0.length : Int) - 1)).toNat) spliceref03_Span.z).Hi⟩ : spliceref03_Span))]⟩) (by kernel_rfl) ?_
          refine ak_eq (show (IntKind.wrap .i64 ((x2_r0.length : Int) - 1)).toNat = ((x2_r0.set ((IntKind.wrap .i64 ((x2_r0.length : Int) - 2)).toNat) (⟨(x2_r0.getD ((IntKind.wrap .i64 ((x2_r0.length : Int) - 2)).toNat) spliceref03_Span.z).Lo, (x2_r0.getD ((IntKind.wrap .i64 ((x2_r0.length : Int) - 1)).toNat) spliceref03_Span.z).Hi⟩ : spliceref03_Span)).take (IntKind.wrap .i64 ((x2_r0.length : Int) - 1)).toNat).length from by simp only [List.length_take]; omega) (fun nn => ⟨122, [(120, .own 0 2 0 nn)], [eR69 (x2_r0.set ((IntKind.wrap .i64 ((x2_r0.length : Int) - 2)).toNat) (⟨(x2_r0.getD ((IntKind.wrap .i64 ((x2_r0.length : Int) - 2)).toNat) spliceref03_Span.z).Lo, (x2_r0.getD ((IntKind.wrap .i64 ((x2_r0.length : Int) - 1)).toNat) spliceref03_Span.z).Hi⟩ : spliceref03_Span))]⟩) ?_
          refine ak_trunc 0 (kk := 2) (n := (x2_r0.set ((IntKind.wrap .i64 ((x2_r0.length : Int) - 2)).toNat) (⟨(x2_r0.getD ((IntKind.wrap .i64 ((x2_r0.length : Int) - 2)).toNat) spliceref03_Span.z).Lo, (x2_r0.getD ((IntKind.wrap .i64 ((x2_r0.length : Int) - 1)).toNat) spliceref03_Span.z).Hi⟩ : spliceref03_Span)).length) (m := ((x2_r0.set ((IntKind.wrap .i64 ((x2_r0.length : Int) - 2)).toNat) (⟨(x2_r0.getD ((IntKind.wrap .i64 ((x2_r0.length : Int) - 2)).toNat) spliceref03_Span.z).Lo, (x2_r0.getD ((IntKind.wrap .i64 ((x2_r0.length : Int) - 1)).toNat) spliceref03_Span.z).Hi⟩ : spliceref03_Span)).take (IntKind.wrap .i64 ((x2_r0.length : Int) - 1)).toNat).length) (fz := false) (ty := 69) (g := vec spliceref03_Span.e spliceref03_Span.z (x2_r0.set ((IntKind.wrap .i64 ((x2_r0.length : Int) - 2)).toNat) (⟨(x2_r0.getD ((IntKind.wrap .i64 ((x2_r0.length : Int) - 2)).toNat) spliceref03_Span.z).Lo, (x2_r0.getD ((IntKind.wrap .i64 ((x2_r0.length : Int) - 1)).toNat) spliceref03_Span.z).Hi⟩ : spliceref03_Span))) (vec spliceref03_Span.e spliceref03_Span.z ((x2_r0.set ((IntKind.wrap .i64 ((x2_r0.length : Int) - 2)).toNat) (⟨(x2_r0.getD ((IntKind.wrap .i64 ((x2_r0.length : Int) - 2)).toNat) spliceref03_Span.z).Lo, (x2_r0.getD ((IntKind.wrap .i64 ((x2_r0.length : Int) - 1)).toNat) spliceref03_Span.z).Hi⟩ : spliceref03_Span)).take (IntKind.wrap .i64 ((x2_r0.length : Int) - 1)).toNat)) (by kernel_rfl) (by simp only [List.length_take]; omega) vec_take (st' := ⟨122, [(120, .own 0 2 0 (((x2_r0.set ((IntKind.wrap .i64 ((x2_r0.length : Int) - 2)).toNat) (⟨(x2_r0.getD ((IntKind.wrap .i64 ((x2_r0.length : Int) - 2)).toNat) spliceref03_Span.z).Lo, (x2_r0.getD ((IntKind.wrap .i64 ((x2_r0.length : Int) - 1)).toNat) spliceref03_Span.z).Hi⟩ : spliceref03_Span)).take (IntKind.wrap .i64 ((x2_r0.length : Int) - 1)).toNat).length))], [eR69 ((x2_r0.set ((IntKind.wrap .i64 ((x2_r0.length : Int) - 2)).toNat) (⟨(x2_r0.getD ((IntKind.wrap .i64 ((x2_r0.length : Int) - 2)).toNat) spliceref03_Span.z).Lo, (x2_r0.getD ((IntKind.wrap .i64 ((x2_r0.length : Int) - 1)).toNat) spliceref03_Span.z).Hi⟩ : spliceref03_Span)).take (IntKind.wrap .i64 ((x2_r0.length : Int) - 1)).toNat)]⟩) (by kernel_rfl) ?_
          refine goK hT 4 (K17 111100 0) ⟨122, [(5, .own 0 2 0 (((x2_r0.set ((IntKind.wrap .i64 ((x2_r0.length : Int) - 2)).toNat) (⟨(x2_r0.getD ((IntKind.wrap .i64 ((x2_r0.length : Int) - 2)).toNat) spliceref03_Span.z).Lo, (x2_r0.getD ((IntKind.wrap .i64 ((x2_r0.length : Int) - 1)).toNat) spliceref03_Span.z).Hi⟩ : spliceref03_Span)).take (IntKind.wrap .i64 ((x2_r0.length : Int) - 1)).toNat).length))], [eR69 ((x2_r0.set ((IntKind.wrap .i64 ((x2_r0.length : Int) - 2)).toNat) (⟨(x2_r0.getD ((IntKind.wrap .i64 ((x2_r0.length : Int) - 2)).toNat) spliceref03_Span.z).Lo, (x2_r0.getD ((IntKind.wrap .i64 ((x2_r0.length : Int) - 1)).toNat) spliceref03_Span.z).Hi⟩ : spliceref03_Span)).take (IntKind.wrap .i64 ((x2_r0.length : Int) - 1)).toNat)]⟩ ?_
          refine cutK [0] ⟨122, [(5, .own 0 2 0 ((x2_r0.set ((IntKind.wrap .i64 ((x2_r0.length : Int) - 2)).toNat) (⟨(x2_r0.getD ((IntKind.wrap .i64 ((x2_r0.length : Int) - 2)).toNat) spliceref03_Span.z).Lo, (x2_r0.getD ((IntKind.wrap .i64 ((x2_r0.length : Int) - 1)).toNat) spliceref03_Span.z).Hi⟩ : spliceref03_Span)).take (IntKind.wrap .i64 ((x2_r0.length : Int) - 1)).toNat).length)], [eR69 ((x2_r0.set ((IntKind.wrap .i64 ((x2_r0.length : Int) - 2)).toNat) (⟨(x2_r0.getD ((IntKind.wrap .i64 ((x2_r0.length : Int) - 2)).toNat) spliceref03_Span.z).Lo, (x2_r0.getD ((IntKind.wrap .i64 ((x2_r0.length : Int) - 1)).toNat) spliceref03_Span.z).Hi⟩ : spliceref03_Span)).take (IntKind.wrap .i64 ((x2_r0.length : Int) - 1)).toNat)]⟩ h0 ?_
          exact ih.2 ((x2_r0.set ((IntKind.wrap .i64 ((x2_r0.length : Int) - 2)).toNat) (⟨(x2_r0.getD ((IntKind.wrap .i64 ((x2_r0.length : Int) - 2)).toNat) spliceref03_Span.z).Lo, (x2_r0.getD ((IntKind.wrap .i64 ((x2_r0.length : Int) - 1)).toNat) spliceref03_Span.z).Hi⟩ : spliceref03_Span)).take (IntKind.wrap .i64 ((x2_r0.length : Int) - 1)).toNat) H
        · replace H := sF c27 H
          rw [decide_eq_false c27]
          refine goK hT 7 (K17 11111 1) ⟨122, [(4, .own 0 2 0 x2_r0.length)], [eR69 x2_r0]⟩ ?_
          obtain rfl := retC H
          exact ak_ret hf hX (av := .own 0 2 0 x2_r0.length) (by kernel_rfl) [0] (sel_of_eq (by kernel_rfl)) (by decide) (by rw [h0]; rfl) (by kernel_rfl) (fun _ h => all_cons (nr_vec spliceref03_Span.nl) (fun _ h => all_nil h) h) (.own _ _ _ _)
  refine cutK [0] ⟨122, [(0, .d (eL57 t0 a0)), (1, .d (eL57 t1 a1)), (5, .own 0 2 0 ([] : List spliceref03_Span).length), (6, .i 0)], [eR69 ([] : List spliceref03_Span)]⟩ h0 ?_
  obtain ⟨n, H⟩ := loopC H
  exact (L n).1 0 ([] : List spliceref03_Span) H


theorem spliceref03_Same.says {t0 : Bool} {t1 : Bool} (a0 : List spliceref03_Span) (a1 : List spliceref03_Span) {r : Bool} (H : spliceref03_Same a0 a1 = some r) : Says Try.prog 15 [] [.d (eL69 t0 a0), .d (eL69 t1 a1)] [] (.b r) := by
  refine says_of Try.func15 rfl (nt := 26) rfl (Nat.le_of_ble_eq_true rfl) fun X hP h0 hX => ?_
  have hT : TabOk X.P T := hP ▸ tok
  have hf : X.P.funcs[15]? = some Try.f15 := hP ▸ Try.func15
  refine goK hT 13 (K15 110 1) ⟨26, [(0, .d (eL69 t0 a0)), (1, .d (eL69 t1 a1)), (10, .b ((a0.length : Int) != (a1.length : Int)))], []⟩ ?_
  by_cases c1 : (a0.length : Int) = (a1.length : Int)
  · replace H := iT c1 H
    rw [neF c1]
    refine goK hT 2 (K15 11 1) ⟨26, [(0, .d (eL69 t0 a0)), (1, .d (eL69 t1 a1))], []⟩ ?_
    refine goK hT 7 (K15 111010 0) ⟨26, [(0, .d (eL69 t0 a0)), (1, .d (eL69 t1 a1)), (5, .i 0)], []⟩ ?_
    have L : ∀ n, (∀ (x1_5 : Int), iter (spliceref03_Same.step a0 a1) n (.l1 x1_5) = some r → AK X 15 ((K15 111010 0)) (Back X [] (.b r)) ⟨26, [(0, .d (eL69 t0 a0)), (1, .d (eL69 t1 a1)), (5, .i x1_5)], []⟩) := by
      intro n
      induction n with
      | zero => exact fun _ H => iter0 H
      | succ n ih =>
        · intro x1_5 H
          refine goK hT 8 (K15 11101000 1) ⟨26, [(0, .d (eL69 t0 a0)), (1, .d (eL69 t1 a1)), (5, .i x1_5), (14, .b (decide (x1_5 < (a0.length : Int))))], []⟩ ?_
          by_cases c2 : x1_5 < (a0.length : Int)
          · replace H := sT c2 H
            rw [decide_eq_true c2]
            refine goK hT 2 (K15 1110100 1) ⟨26, [(0, .d (eL69 t0 a0)), (1, .d (eL69 t1 a1)), (5, .i x1_5)], []⟩ ?_
            refine goK hT 3 (K15 1110100100 0) ⟨26, [(0, .d (eL69 t0 a0)), (1, .d (eL69 t1 a1)), (5, .i x1_5)], []⟩ ?_
            obtain ⟨h3, H⟩ := sC H
            obtain ⟨h4, H⟩ := sC H
            refine drawK (hP ▸ mixed) 9 [0, 1, 5] [some (.d (eL69 t0 a0)), some (.i x1_5), some (.d (eP69 t0 a0 x1_5.toNat 0)), some (.d (eG69 (a0.getD x1_5.toNat spliceref03_Span.z))), some (.d (eL69 t1 a1)), some (.i x1_5), some (.d (eP69 t1 a1 x1_5.toNat 0)), some (.d (eG69 (a1.getD x1_5.toNat spliceref03_Span.z))), some (.b (!((((a0.getD x1_5.toNat spliceref03_Span.z).Lo) == ((a1.getD x1_5.toNat spliceref03_Span.z).Lo)) && (((a0.getD x1_5.toNat spliceref03_Span.z).Hi) == ((a1.getD x1_5.toNat spliceref03_Span.z).Hi)))))] (opG (opG (opS (opG (opG (opG (opS (opG (opG op0 hT) hT) (fun R rest h => ak_idx0 hT (i := x1_5) (n := (a0.length : Int)) h3.1 h3.2 (by kernel_rfl) h)) hT) hT) hT) (fun R rest h => ak_idx0 hT (i := x1_5) (n := (a1.length : Int)) h4.1 h4.2 (by kernel_rfl) h)) hT) hT) ?_
            refine goK hT 1 (K15 1110100100 1) ⟨26, [(0, .d (eL69 t0 a0)), (1, .d (eL69 t1 a1)), (5, .i x1_5), (25, .b (!((((a0.getD x1_5.toNat spliceref03_Span.z).Lo) == ((a1.getD x1_5.toNat spliceref03_Span.z).Lo)) && (((a0.getD x1_5.toNat spliceref03_Span.z).Hi) == ((a1.getD x1_5.toNat spliceref03_Span.z).Hi)))))], []⟩ ?_
            by_cases c5 : ((a0.getD x1_5.toNat spliceref03_Span.z).Lo) = ((a1.getD x1_5.toNat spliceref03_Span.z).Lo)
            · replace H := sT c5 H
              rw [eqT c5]
              by_cases c6 : ((a0.getD x1_5.toNat spliceref03_Span.z).Hi) = ((a1.getD x1_5.toNat spliceref03_Span.z).Hi)
              · replace H := sT c6 H
                rw [eqT c6]
                refine goK hT 3 (K15 11101001 1) ⟨26, [(0, .d (eL69 t0 a0)), (1, .d (eL69 t1 a1)), (5, .i x1_5)], []⟩ ?_
                refine goK hT 6 (K15 111010 0) ⟨26, [(0, .d (eL69 t0 a0)), (1, .d (eL69 t1 a1)), (5, .i (IntKind.wrap .i64 (x1_5 + 1)))], []⟩ ?_
                refine cutK [] ⟨26, [(0, .d (eL69 t0 a0)), (1, .d (eL69 t1 a1)), (5, .i (IntKind.wrap .i64 (x1_5 + 1)))], []⟩ h0 ?_
                exact ih (IntKind.wrap .i64 (x1_5 + 1)) H
              · replace H := sF c6 H
                rw [eqF c6]
                refine goK hT 5 (K15 111010010010 1) ⟨26, [(4, .b false)], []⟩ ?_
                obtain rfl := retC H
                exact ak_ret hf hX (av := .b false) (by kernel_rfl) [] (sel_of_eq (by kernel_rfl)) (by decide) (by rw [h0]; rfl) (by kernel_rfl) (fun _ h => all_nil h) (.d (.v _))
            · replace H := sF c5 H
              rw [eqF c5]
              by_cases c7 : ((a0.getD x1_5.toNat spliceref03_Span.z).Hi) = ((a1.getD x1_5.toNat spliceref03_Span.z).Hi)
              · replace H := sT c7 H
                rw [eqT c7]
                refine goK hT 5 (K15 111010010010 1) ⟨26, [(4, .b false)], []⟩ ?_
                obtain rfl := retC H
                exact ak_ret hf hX (av := .b false) (by kernel_rfl) [] (sel_of_eq (by kernel_rfl)) (by decide) (by rw [h0]; rfl) (by kernel_rfl) (fun _ h => all_nil h) (.d (.v _))
              · replace H := sF c7 H
                rw [eqF c7]
                refine goK hT 5 (K15 111010010010 1) ⟨26, [(4, .b false)], []⟩ ?_
                obtain rfl := retC H
                exact ak_ret hf hX (av := .b false) (by kernel_rfl) [] (sel_of_eq (by kernel_rfl)) (by decide) (by rw [h0]; rfl) (by kernel_rfl) (fun _ h => all_nil h) (.d (.v _))
          · replace H := sF c2 H
            rw [decide_eq_false c2]
            refine goK hT 6 (K15 1111 1) ⟨26, [(4, .b true)], []⟩ ?_
            obtain rfl := retC H
            exact ak_ret hf hX (av := .b true) (by kernel_rfl) [] (sel_of_eq (by kernel_rfl)) (by decide) (by rw [h0]; rfl) (by kernel_rfl) (fun _ h => all_nil h) (.d (.v _))
    refine cutK [] ⟨26, [(0, .d (eL69 t0 a0)), (1, .d (eL69 t1 a1)), (5, .i 0)], []⟩ h0 ?_
    obtain ⟨n, H⟩ := loopC H
    exact (L n) 0 H
  · replace H := iF c1 H
    rw [neT c1]
    refine goK hT 5 (K15 11010 1) ⟨26, [(4, .b false)], []⟩ ?_
    obtain rfl := retC H
    exact ak_ret hf hX (av := .b false) (by kernel_rfl) [] (sel_of_eq (by kernel_rfl)) (by decide) (by rw [h0]; rfl) (by kernel_rfl) (fun _ h => all_nil h) (.d (.v _))


theorem splicelaw20_MerkleDiffs.says {t0 : Bool} {t1 : Bool} (a0 : List api_Pair) (a1 : List api_Pair) {r : Bool} (H : splicelaw20_MerkleDiffs a0 a1 = some r) : Says Try.prog 3 [] [.d (eL42 t0 a0), .d (eL42 t1 a1)] [] (.b r) := by
  refine says_of Try.func3 rfl (nt := 91) rfl (Nat.le_of_ble_eq_true rfl) fun X hP h0 hX => ?_
  have hT : TabOk X.P T := hP ▸ tok
  have hf : X.P.funcs[3]? = some Try.f3 := hP ▸ Try.func3
  refine goK hT 7 (K3 110 1) ⟨91, [(0, .d (eL42 t0 a0)), (1, .d (eL42 t1 a1)), (13, .d (eL42 t0 a0))], []⟩ ?_
  obtain ⟨v1, h1, H⟩ := ibC H
  cases q2 : v1.1 with
  | none =>
      rw [q2] at H
      replace H := ioptN H
      have Sq2 := merkle_New.says (t0 := t0) a0 h1
      rw [q2] at Sq2
      refine ak_callP (avs := [.d (eL42 t0 a0)]) (dst := some 14) (k' := (K3 110 2)) [0, 1, 14] [] hP enters_10 (Sq2) (by kernel_rfl) (hands_none _) (.cons (pass_d _) .nil) (st' := ⟨91, [(0, .d (eL42 t0 a0)), (1, .d (eL42 t1 a1)), (14, .tup [.d .np, .i v1.2])], []⟩) (by kernel_rfl) ?_
      refine goK hT 9 (K3 1110 1) ⟨91, [(0, .d (eL42 t0 a0)), (1, .d (eL42 t1 a1)), (5, .d .np), (6, .i v1.2), (18, .d (eL42 t1 a1))], []⟩ ?_
      obtain ⟨v3, h3, H⟩ := ibC H
      cases q4 : v3.1 with
      | none =>
          rw [q4] at H
          replace H := ioptN H
          have Jj1 : (splicelaw20_MerkleDiffs.j1) = some r → AK X 3 ((K3 11110 1)) (Back X [] (.b r)) ⟨91, [(0, .d (eL42 t0 a0)), (1, .d (eL42 t1 a1)), (5, .d .np), (7, .d .np), (45, .b true)], []⟩ := by
            intro H
            refine goK hT 3 (K3 11110100 0) ⟨91, [], []⟩ ?_
            obtain ⟨v5, h9, H⟩ := ibC H
            refine ak_callP (avs := []) (dst := some 46) (k' := (K3 11110100 1)) [46] [] hP enters_12 (splicelaw20_awake.says h9) (by kernel_rfl) (hands_none _) .nil (st' := ⟨91, [(46, .b v5)], []⟩) (by kernel_rfl) ?_
            refine goK hT 2 (K3 1111010 1) ⟨91, [(4, .b v5)], []⟩ ?_
            obtain rfl := retC H
            exact ak_ret hf hX (av := .b v5) (by kernel_rfl) [] (sel_of_eq (by kernel_rfl)) (by decide) (by rw [h0]; rfl) (by kernel_rfl) (fun _ h => all_nil h) (.d (.v _))
          have Sq4 := merkle_New.says (t0 := t1) a1 h3
          rw [q4] at Sq4
          refine ak_callP (avs := [.d (eL42 t1 a1)]) (dst := some 19) (k' := (K3 1110 2)) [0, 1, 5, 6, 19] [] hP enters_10 (Sq4) (by kernel_rfl) (hands_none _) (.cons (pass_d _) .nil) (st' := ⟨91, [(0, .d (eL42 t0 a0)), (1, .d (eL42 t1 a1)), (5, .d .np), (6, .i v1.2), (19, .tup [.d .np, .i v3.2])], []⟩) (by kernel_rfl) ?_
          refine goK hT 10 (K3 111100 1) ⟨91, [(0, .d (eL42 t0 a0)), (1, .d (eL42 t1 a1)), (5, .d .np), (6, .i v1.2), (7, .d .np), (8, .i v3.2), (22, .d (eL42 t0 a0))], []⟩ ?_
          refine ak_callP (avs := [.d (eL42 t0 a0)]) (dst := some 23) (k' := (K3 111100 2)) [0, 1, 5, 6, 7, 8, 23] [] hP enters_11 (splicelaw20_few.says (t0 := t0) a0) (by kernel_rfl) (hands_none _) (.cons (pass_d _) .nil) (st' := ⟨91, [(0, .d (eL42 t0 a0)), (1, .d (eL42 t1 a1)), (5, .d .np), (6, .i v1.2), (7, .d .np), (8, .i v3.2), (23, .b (splicelaw20_few a0))], []⟩) (by kernel_rfl) ?_
          refine goK hT 2 (K3 111100 4) ⟨91, [(0, .d (eL42 t0 a0)), (1, .d (eL42 t1 a1)), (5, .d .np), (6, .i v1.2), (7, .d .np), (8, .i v3.2), (25, .b (!(splicelaw20_few a0)))], []⟩ ?_
          by_cases c5 : (splicelaw20_few a0) = true
          · replace H := iT c5 H
            rw [c5]
            refine goK hT 1 (K3 111100 5) ⟨91, [(0, .d (eL42 t0 a0)), (1, .d (eL42 t1 a1)), (5, .d .np), (6, .i v1.2), (7, .d .np), (8, .i v3.2), (25, .b false), (26, .d (eL42 t1 a1))], []⟩ ?_
            refine ak_callP (avs := [.d (eL42 t1 a1)]) (dst := some 27) (k' := (K3 111100 6)) [0, 1, 5, 6, 7, 8, 25, 27] [] hP enters_11 (splicelaw20_few.says (t0 := t1) a1) (by kernel_rfl) (hands_none _) (.cons (pass_d _) .nil) (st' := ⟨91, [(0, .d (eL42 t0 a0)), (1, .d (eL42 t1 a1)), (5, .d .np), (6, .i v1.2), (7, .d .np), (8, .i v3.2), (25, .b false), (27, .b (splicelaw20_few a1))], []⟩) (by kernel_rfl) ?_
            refine goK hT 3 (K3 111100 9) ⟨91, [(0, .d (eL42 t0 a0)), (1, .d (eL42 t1 a1)), (5, .d .np), (6, .i v1.2), (7, .d .np), (8, .i v3.2), (30, .b (!(splicelaw20_few a1)))], []⟩ ?_
            by_cases c6 : (splicelaw20_few a1) = true
            · replace H := iT c6 H
              rw [c6]
              refine goK hT 4 (K3 111100 13) ⟨91, [(0, .d (eL42 t0 a0)), (1, .d (eL42 t1 a1)), (5, .d .np), (7, .d .np), (8, .i v3.2), (34, .b (v1.2 != 0))], []⟩ ?_
              by_cases c7 : v1.2 = 0
              · replace H := iT c7 H
                rw [neF c7]
                refine goK hT 4 (K3 111100 17) ⟨91, [(0, .d (eL42 t0 a0)), (1, .d (eL42 t1 a1)), (5, .d .np), (7, .d .np), (38, .b (v3.2 != 0))], []⟩ ?_
                by_cases c8 : v3.2 = 0
                · replace H := iT c8 H
                  rw [neF c8]
                  refine goK hT 8 (K3 11110 1) ⟨91, [(0, .d (eL42 t0 a0)), (1, .d (eL42 t1 a1)), (5, .d .np), (7, .d .np), (45, .b true)], []⟩ ?_
                  refine cutK [] ⟨91, [(0, .d (eL42 t0 a0)), (1, .d (eL42 t1 a1)), (5, .d .np), (7, .d .np), (45, .b true)], []⟩ h0 ?_
                  exact Jj1 H
                · replace H := iF c8 H
                  rw [neT c8]
                  refine goK hT 8 (K3 11110 1) ⟨91, [(0, .d (eL42 t0 a0)), (1, .d (eL42 t1 a1)), (5, .d .np), (7, .d .np), (45, .b true)], []⟩ ?_
                  refine cutK [] ⟨91, [(0, .d (eL42 t0 a0)), (1, .d (eL42 t1 a1)), (5, .d .np), (7, .d .np), (45, .b true)], []⟩ h0 ?_
                  exact Jj1 H
              · replace H := iF c7 H
                rw [neT c7]
                refine goK hT 12 (K3 11110 1) ⟨91, [(0, .d (eL42 t0 a0)), (1, .d (eL42 t1 a1)), (5, .d .np), (7, .d .np), (45, .b true)], []⟩ ?_
                refine cutK [] ⟨91, [(0, .d (eL42 t0 a0)), (1, .d (eL42 t1 a1)), (5, .d .np), (7, .d .np), (45, .b true)], []⟩ h0 ?_
                exact Jj1 H
            · replace H := iF c6 H
              rw [boF c6]
              refine goK hT 16 (K3 11110 1) ⟨91, [(0, .d (eL42 t0 a0)), (1, .d (eL42 t1 a1)), (5, .d .np), (7, .d .np), (45, .b true)], []⟩ ?_
              refine cutK [] ⟨91, [(0, .d (eL42 t0 a0)), (1, .d (eL42 t1 a1)), (5, .d .np), (7, .d .np), (45, .b true)], []⟩ h0 ?_
              exact Jj1 H
          · replace H := iF c5 H
            rw [boF c5]
            refine goK hT 21 (K3 11110 1) ⟨91, [(0, .d (eL42 t0 a0)), (1, .d (eL42 t1 a1)), (5, .d .np), (7, .d .np), (45, .b true)], []⟩ ?_
            refine cutK [] ⟨91, [(0, .d (eL42 t0 a0)), (1, .d (eL42 t1 a1)), (5, .d .np), (7, .d .np), (45, .b true)], []⟩ h0 ?_
            exact Jj1 H
      | some v4 =>
          rw [q4] at H
          replace H := ioptS H
          have Jj2 : (splicelaw20_MerkleDiffs.j2) = some r → AK X 3 ((K3 11110 1)) (Back X [] (.b r)) ⟨91, [(0, .d (eL42 t0 a0)), (1, .d (eL42 t1 a1)), (5, .d .np), (7, .ptr 0 0 0 0), (45, .b true)], [eB91 v4]⟩ := by
            intro H
            refine goK hT 3 (K3 11110100 0) ⟨91, [], [eB91 v4]⟩ ?_
            obtain ⟨v6, h14, H⟩ := ibC H
            refine ak_callP (avs := []) (dst := some 46) (k' := (K3 11110100 1)) [46] [] hP enters_12 (splicelaw20_awake.says h14) (by kernel_rfl) (hands_none _) .nil (st' := ⟨91, [(46, .b v6)], [eB91 v4]⟩) (by kernel_rfl) ?_
            refine goK hT 2 (K3 1111010 1) ⟨91, [(4, .b v6)], [eB91 v4]⟩ ?_
            obtain rfl := retC H
            exact ak_ret hf hX (av := .b v6) (by kernel_rfl) [] (sel_of_eq (by kernel_rfl)) (by decide) (by rw [h0]; rfl) (by kernel_rfl) (fun _ h => all_nil h) (.d (.v _))
          have Sq4 := merkle_New.says (t0 := t1) a1 h3
          rw [q4] at Sq4
          refine ak_callP (avs := [.d (eL42 t1 a1)]) (dst := some 19) (k' := (K3 1110 2)) [0, 1, 5, 6, 19] [] hP enters_10 (Sq4) (by kernel_rfl) (hands_none _) (.cons (pass_d _) .nil) (st' := ⟨91, [(0, .d (eL42 t0 a0)), (1, .d (eL42 t1 a1)), (5, .d .np), (6, .i v1.2), (19, .tup [.ptr 0 0 0 0, .i v3.2])], [eB91 v4]⟩) (by kernel_rfl) ?_
          refine goK hT 10 (K3 111100 1) ⟨91, [(0, .d (eL42 t0 a0)), (1, .d (eL42 t1 a1)), (5, .d .np), (6, .i v1.2), (7, .ptr 0 0 0 0), (8, .i v3.2), (22, .d (eL42 t0 a0))], [eB91 v4]⟩ ?_
          refine ak_callP (avs := [.d (eL42 t0 a0)]) (dst := some 23) (k' := (K3 111100 2)) [0, 1, 5, 6, 7, 8, 23] [] hP enters_11 (splicelaw20_few.says (t0 := t0) a0) (by kernel_rfl) (hands_none _) (.cons (pass_d _) .nil) (st' := ⟨91, [(0, .d (eL42 t0 a0)), (1, .d (eL42 t1 a1)), (5, .d .np), (6, .i v1.2), (7, .ptr 0 0 0 0), (8, .i v3.2), (23, .b (splicelaw20_few a0))], [eB91 v4]⟩) (by kernel_rfl) ?_
          refine goK hT 2 (K3 111100 4) ⟨91, [(0, .d (eL42 t0 a0)), (1, .d (eL42 t1 a1)), (5, .d .np), (6, .i v1.2), (7, .ptr 0 0 0 0), (8, .i v3.2), (25, .b (!(splicelaw20_few a0)))], [eB91 v4]⟩ ?_
          by_cases c10 : (splicelaw20_few a0) = true
          · replace H := iT c10 H
            rw [c10]
            refine goK hT 1 (K3 111100 5) ⟨91, [(0, .d (eL42 t0 a0)), (1, .d (eL42 t1 a1)), (5, .d .np), (6, .i v1.2), (7, .ptr 0 0 0 0), (8, .i v3.2), (25, .b false), (26, .d (eL42 t1 a1))], [eB91 v4]⟩ ?_
            refine ak_callP (avs := [.d (eL42 t1 a1)]) (dst := some 27) (k' := (K3 111100 6)) [0, 1, 5, 6, 7, 8, 25, 27] [] hP enters_11 (splicelaw20_few.says (t0 := t1) a1) (by kernel_rfl) (hands_none _) (.cons (pass_d _) .nil) (st' := ⟨91, [(0, .d (eL42 t0 a0)), (1, .d (eL42 t1 a1)), (5, .d .np), (6, .i v1.2), (7, .ptr 0 0 0 0), (8, .i v3.2), (25, .b false), (27, .b (splicelaw20_few a1))], [eB91 v4]⟩) (by kernel_rfl) ?_
            refine goK hT 3 (K3 111100 9) ⟨91, [(0, .d (eL42 t0 a0)), (1, .d (eL42 t1 a1)), (5, .d .np), (6, .i v1.2), (7, .ptr 0 0 0 0), (8, .i v3.2), (30, .b (!(splicelaw20_few a1)))], [eB91 v4]⟩ ?_
            by_cases c11 : (splicelaw20_few a1) = true
            · replace H := iT c11 H
              rw [c11]
              refine goK hT 4 (K3 111100 13) ⟨91, [(0, .d (eL42 t0 a0)), (1, .d (eL42 t1 a1)), (5, .d .np), (7, .ptr 0 0 0 0), (8, .i v3.2), (34, .b (v1.2 != 0))], [eB91 v4]⟩ ?_
              by_cases c12 : v1.2 = 0
              · replace H := iT c12 H
                rw [neF c12]
                refine goK hT 4 (K3 111100 17) ⟨91, [(0, .d (eL42 t0 a0)), (1, .d (eL42 t1 a1)), (5, .d .np), (7, .ptr 0 0 0 0), (38, .b (v3.2 != 0))], [eB91 v4]⟩ ?_
                by_cases c13 : v3.2 = 0
                · replace H := iT c13 H
                  rw [neF c13]
                  refine goK hT 8 (K3 11110 1) ⟨91, [(0, .d (eL42 t0 a0)), (1, .d (eL42 t1 a1)), (5, .d .np), (7, .ptr 0 0 0 0), (45, .b true)], [eB91 v4]⟩ ?_
                  refine cutK [0] ⟨91, [(0, .d (eL42 t0 a0)), (1, .d (eL42 t1 a1)), (5, .d .np), (7, .ptr 0 0 0 0), (45, .b true)], [eB91 v4]⟩ h0 ?_
                  exact Jj2 H
                · replace H := iF c13 H
                  rw [neT c13]
                  refine goK hT 8 (K3 11110 1) ⟨91, [(0, .d (eL42 t0 a0)), (1, .d (eL42 t1 a1)), (5, .d .np), (7, .ptr 0 0 0 0), (45, .b true)], [eB91 v4]⟩ ?_
                  refine cutK [0] ⟨91, [(0, .d (eL42 t0 a0)), (1, .d (eL42 t1 a1)), (5, .d .np), (7, .ptr 0 0 0 0), (45, .b true)], [eB91 v4]⟩ h0 ?_
                  exact Jj2 H
              · replace H := iF c12 H
                rw [neT c12]
                refine goK hT 12 (K3 11110 1) ⟨91, [(0, .d (eL42 t0 a0)), (1, .d (eL42 t1 a1)), (5, .d .np), (7, .ptr 0 0 0 0), (45, .b true)], [eB91 v4]⟩ ?_
                refine cutK [0] ⟨91, [(0, .d (eL42 t0 a0)), (1, .d (eL42 t1 a1)), (5, .d .np), (7, .ptr 0 0 0 0), (45, .b true)], [eB91 v4]⟩ h0 ?_
                exact Jj2 H
            · replace H := iF c11 H
              rw [boF c11]
              refine goK hT 16 (K3 11110 1) ⟨91, [(0, .d (eL42 t0 a0)), (1, .d (eL42 t1 a1)), (5, .d .np), (7, .ptr 0 0 0 0), (45, .b true)], [eB91 v4]⟩ ?_
              refine cutK [0] ⟨91, [(0, .d (eL42 t0 a0)), (1, .d (eL42 t1 a1)), (5, .d .np), (7, .ptr 0 0 0 0), (45, .b true)], [eB91 v4]⟩ h0 ?_
              exact Jj2 H
          · replace H := iF c10 H
            rw [boF c10]
            refine goK hT 21 (K3 11110 1) ⟨91, [(0, .d (eL42 t0 a0)), (1, .d (eL42 t1 a1)), (5, .d .np), (7, .ptr 0 0 0 0), (45, .b true)], [eB91 v4]⟩ ?_
            refine cutK [0] ⟨91, [(0, .d (eL42 t0 a0)), (1, .d (eL42 t1 a1)), (5, .d .np), (7, .ptr 0 0 0 0), (45, .b true)], [eB91 v4]⟩ h0 ?_
            exact Jj2 H
  | some v2 =>
      rw [q2] at H
      replace H := ioptS H
      have Sq2 := merkle_New.says (t0 := t0) a0 h1
      rw [q2] at Sq2
      refine ak_callP (avs := [.d (eL42 t0 a0)]) (dst := some 14) (k' := (K3 110 2)) [0, 1, 14] [] hP enters_10 (Sq2) (by kernel_rfl) (hands_none _) (.cons (pass_d _) .nil) (st' := ⟨91, [(0, .d (eL42 t0 a0)), (1, .d (eL42 t1 a1)), (14, .tup [.ptr 0 0 0 0, .i v1.2])], [eB91 v2]⟩) (by kernel_rfl) ?_
      refine goK hT 9 (K3 1110 1) ⟨91, [(0, .d (eL42 t0 a0)), (1, .d (eL42 t1 a1)), (5, .ptr 0 0 0 0), (6, .i v1.2), (18, .d (eL42 t1 a1))], [eB91 v2]⟩ ?_
      obtain ⟨v7, h15, H⟩ := ibC H
      cases q16 : v7.1 with
      | none =>
          rw [q16] at H
          replace H := ioptN H
          have Jj3 : (splicelaw20_MerkleDiffs.j3) = some r → AK X 3 ((K3 11110 1)) (Back X [] (.b r)) ⟨91, [(0, .d (eL42 t0 a0)), (1, .d (eL42 t1 a1)), (5, .ptr 0 0 0 0), (7, .d .np), (45, .b true)], [eB91 v2]⟩ := by
            intro H
            refine goK hT 3 (K3 11110100 0) ⟨91, [], [eB91 v2]⟩ ?_
            obtain ⟨v9, h21, H⟩ := ibC H
            refine ak_callP (avs := []) (dst := some 46) (k' := (K3 11110100 1)) [46] [] hP enters_12 (splicelaw20_awake.says h21) (by kernel_rfl) (hands_none _) .nil (st' := ⟨91, [(46, .b v9)], [eB91 v2]⟩) (by kernel_rfl) ?_
            refine goK hT 2 (K3 1111010 1) ⟨91, [(4, .b v9)], [eB91 v2]⟩ ?_
            obtain rfl := retC H
            exact ak_ret hf hX (av := .b v9) (by kernel_rfl) [] (sel_of_eq (by kernel_rfl)) (by decide) (by rw [h0]; rfl) (by kernel_rfl) (fun _ h => all_nil h) (.d (.v _))
          have Sq16 := merkle_New.says (t0 := t1) a1 h15
          rw [q16] at Sq16
          refine ak_callP (avs := [.d (eL42 t1 a1)]) (dst := some 19) (k' := (K3 1110 2)) [0, 1, 5, 6, 19] [] hP enters_10 (Sq16) (by kernel_rfl) (hands_none _) (.cons (pass_d _) .nil) (st' := ⟨91, [(0, .d (eL42 t0 a0)), (1, .d (eL42 t1 a1)), (5, .ptr 0 0 0 0), (6, .i v1.2), (19, .tup [.d .np, .i v7.2])], [eB91 v2]⟩) (by kernel_rfl) ?_
          refine goK hT 10 (K3 111100 1) ⟨91, [(0, .d (eL42 t0 a0)), (1, .d (eL42 t1 a1)), (5, .ptr 0 0 0 0), (6, .i v1.2), (7, .d .np), (8, .i v7.2), (22, .d (eL42 t0 a0))], [eB91 v2]⟩ ?_
          refine ak_callP (avs := [.d (eL42 t0 a0)]) (dst := some 23) (k' := (K3 111100 2)) [0, 1, 5, 6, 7, 8, 23] [] hP enters_11 (splicelaw20_few.says (t0 := t0) a0) (by kernel_rfl) (hands_none _) (.cons (pass_d _) .nil) (st' := ⟨91, [(0, .d (eL42 t0 a0)), (1, .d (eL42 t1 a1)), (5, .ptr 0 0 0 0), (6, .i v1.2), (7, .d .np), (8, .i v7.2), (23, .b (splicelaw20_few a0))], [eB91 v2]⟩) (by kernel_rfl) ?_
          refine goK hT 2 (K3 111100 4) ⟨91, [(0, .d (eL42 t0 a0)), (1, .d (eL42 t1 a1)), (5, .ptr 0 0 0 0), (6, .i v1.2), (7, .d .np), (8, .i v7.2), (25, .b (!(splicelaw20_few a0)))], [eB91 v2]⟩ ?_
          by_cases c17 : (splicelaw20_few a0) = true
          · replace H := iT c17 H
            rw [c17]
            refine goK hT 1 (K3 111100 5) ⟨91, [(0, .d (eL42 t0 a0)), (1, .d (eL42 t1 a1)), (5, .ptr 0 0 0 0), (6, .i v1.2), (7, .d .np), (8, .i v7.2), (25, .b false), (26, .d (eL42 t1 a1))], [eB91 v2]⟩ ?_
            refine ak_callP (avs := [.d (eL42 t1 a1)]) (dst := some 27) (k' := (K3 111100 6)) [0, 1, 5, 6, 7, 8, 25, 27] [] hP enters_11 (splicelaw20_few.says (t0 := t1) a1) (by kernel_rfl) (hands_none _) (.cons (pass_d _) .nil) (st' := ⟨91, [(0, .d (eL42 t0 a0)), (1, .d (eL42 t1 a1)), (5, .ptr 0 0 0 0), (6, .i v1.2), (7, .d .np), (8, .i v7.2), (25, .b false), (27, .b (splicelaw20_few a1))], [eB91 v2]⟩) (by kernel_rfl) ?_
            refine goK hT 3 (K3 111100 9) ⟨91, [(0, .d (eL42 t0 a0)), (1, .d (eL42 t1 a1)), (5, .ptr 0 0 0 0), (6, .i v1.2), (7, .d .np), (8, .i v7.2), (30, .b (!(splicelaw20_few a1)))], [eB91 v2]⟩ ?_
            by_cases c18 : (splicelaw20_few a1) = true
            · replace H := iT c18 H
              rw [c18]
              refine goK hT 4 (K3 111100 13) ⟨91, [(0, .d (eL42 t0 a0)), (1, .d (eL42 t1 a1)), (5, .ptr 0 0 0 0), (7, .d .np), (8, .i v7.2), (34, .b (v1.2 != 0))], [eB91 v2]⟩ ?_
              by_cases c19 : v1.2 = 0
              · replace H := iT c19 H
                rw [neF c19]
                refine goK hT 4 (K3 111100 17) ⟨91, [(0, .d (eL42 t0 a0)), (1, .d (eL42 t1 a1)), (5, .ptr 0 0 0 0), (7, .d .np), (38, .b (v7.2 != 0))], [eB91 v2]⟩ ?_
                by_cases c20 : v7.2 = 0
                · replace H := iT c20 H
                  rw [neF c20]
                  refine goK hT 8 (K3 11110 1) ⟨91, [(0, .d (eL42 t0 a0)), (1, .d (eL42 t1 a1)), (5, .ptr 0 0 0 0), (7, .d .np), (45, .b true)], [eB91 v2]⟩ ?_
                  refine cutK [0] ⟨91, [(0, .d (eL42 t0 a0)), (1, .d (eL42 t1 a1)), (5, .ptr 0 0 0 0), (7, .d .np), (45, .b true)], [eB91 v2]⟩ h0 ?_
                  exact Jj3 H
                · replace H := iF c20 H
                  rw [neT c20]
                  refine goK hT 8 (K3 11110 1) ⟨91, [(0, .d (eL42 t0 a0)), (1, .d (eL42 t1 a1)), (5, .ptr 0 0 0 0), (7, .d .np), (45, .b true)], [eB91 v2]⟩ ?_
                  refine cutK [0] ⟨91, [(0, .d (eL42 t0 a0)), (1, .d (eL42 t1 a1)), (5, .ptr 0 0 0 0), (7, .d .np), (45, .b true)], [eB91 v2]⟩ h0 ?_
                  exact Jj3 H
              · replace H := iF c19 H
                rw [neT c19]
                refine goK hT 12 (K3 11110 1) ⟨91, [(0, .d (eL42 t0 a0)), (1, .d (eL42 t1 a1)), (5, .ptr 0 0 0 0), (7, .d .np), (45, .b true)], [eB91 v2]⟩ ?_
                refine cutK [0] ⟨91, [(0, .d (eL42 t0 a0)), (1, .d (eL42 t1 a1)), (5, .ptr 0 0 0 0), (7, .d .np), (45, .b true)], [eB91 v2]⟩ h0 ?_
                exact Jj3 H
            · replace H := iF c18 H
              rw [boF c18]
              refine goK hT 16 (K3 11110 1) ⟨91, [(0, .d (eL42 t0 a0)), (1, .d (eL42 t1 a1)), (5, .ptr 0 0 0 0), (7, .d .np), (45, .b true)], [eB91 v2]⟩ ?_
              refine cutK [0] ⟨91, [(0, .d (eL42 t0 a0)), (1, .d (eL42 t1 a1)), (5, .ptr 0 0 0 0), (7, .d .np), (45, .b true)], [eB91 v2]⟩ h0 ?_
              exact Jj3 H
          · replace H := iF c17 H
            rw [boF c17]
            refine goK hT 21 (K3 11110 1) ⟨91, [(0, .d (eL42 t0 a0)), (1, .d (eL42 t1 a1)), (5, .ptr 0 0 0 0), (7, .d .np), (45, .b true)], [eB91 v2]⟩ ?_
            refine cutK [0] ⟨91, [(0, .d (eL42 t0 a0)), (1, .d (eL42 t1 a1)), (5, .ptr 0 0 0 0), (7, .d .np), (45, .b true)], [eB91 v2]⟩ h0 ?_
            exact Jj3 H
      | some v8 =>
          rw [q16] at H
          replace H := ioptS H
          have Jj4 : ∀ (y4_45 : Bool), (splicelaw20_MerkleDiffs.j4 a0 a1 v2 v8 y4_45) = some r → AK X 3 ((K3 11110 1)) (Back X [] (.b r)) ⟨91, [(0, .d (eL42 t0 a0)), (1, .d (eL42 t1 a1)), (5, .ptr 0 0 0 0), (7, .ptr 1 0 0 0), (45, .b y4_45)], [eB91 v2, eB91 v8]⟩ := by
            intro y4_45 H
            by_cases c26 : y4_45 = true
            · replace H := iT c26 H
              rw [c26]
              refine goK hT 3 (K3 11110100 0) ⟨91, [], [eB91 v2, eB91 v8]⟩ ?_
              obtain ⟨v10, h27, H⟩ := ibC H
              refine ak_callP (avs := []) (dst := some 46) (k' := (K3 11110100 1)) [46] [] hP enters_12 (splicelaw20_awake.says h27) (by kernel_rfl) (hands_none _) .nil (st' := ⟨91, [(46, .b v10)], [eB91 v2, eB91 v8]⟩) (by kernel_rfl) ?_
              refine goK hT 2 (K3 1111010 1) ⟨91, [(4, .b v10)], [eB91 v2, eB91 v8]⟩ ?_
              obtain rfl := retC H
              exact ak_ret hf hX (av := .b v10) (by kernel_rfl) [] (sel_of_eq (by kernel_rfl)) (by decide) (by rw [h0]; rfl) (by kernel_rfl) (fun _ h => all_nil h) (.d (.v _))
            · replace H := iF c26 H
              rw [boF c26]
              refine goK hT 2 (K3 1111 1) ⟨91, [(0, .d (eL42 t0 a0)), (1, .d (eL42 t1 a1)), (5, .ptr 0 0 0 0), (7, .ptr 1 0 0 0)], [eB91 v2, eB91 v8]⟩ ?_
              refine goK hT 3 (K3 111110 1) ⟨91, [(1, .d (eL42 t1 a1)), (5, .ptr 0 0 0 0), (7, .ptr 1 0 0 0), (47, .d (eL42 t0 a0))], [eB91 v2, eB91 v8]⟩ ?_
              obtain ⟨v11, h28, H⟩ := ibC H
              refine ak_callP (avs := [.d (eL42 t0 a0)]) (dst := some 48) (k' := (K3 111110 2)) [1, 5, 7, 48] [] hP enters_13 (splicelaw20_levels.says (t0 := t0) a0 h28) (by kernel_rfl) (hands_none _) (.cons (pass_d _) .nil) (st' := ⟨91, [(1, .d (eL42 t1 a1)), (5, .ptr 0 0 0 0), (7, .ptr 1 0 0 0), (48, .own 2 1 0 v11.length)], [eB91 v2, eB91 v8, eR57 v11]⟩) (by kernel_rfl) ?_
              refine goK hT 1 (K3 111110 3) ⟨91, [(5, .ptr 0 0 0 0), (7, .ptr 1 0 0 0), (48, .own 2 1 0 v11.length), (49, .d (eL42 t1 a1))], [eB91 v2, eB91 v8, eR57 v11]⟩ ?_
              obtain ⟨v12, h29, H⟩ := ibC H
              refine ak_callP (avs := [.d (eL42 t1 a1)]) (dst := some 50) (k' := (K3 111110 4)) [5, 7, 48, 50] [] hP enters_13 (splicelaw20_levels.says (t0 := t1) a1 h29) (by kernel_rfl) (hands_none _) (.cons (pass_d _) .nil) (st' := ⟨91, [(5, .ptr 0 0 0 0), (7, .ptr 1 0 0 0), (48, .own 2 1 0 v11.length), (50, .own 3 1 0 v12.length)], [eB91 v2, eB91 v8, eR57 v11, eR57 v12]⟩) (by kernel_rfl) ?_
              refine goK hT 7 (K3 1111110 2) ⟨91, [(5, .ptr 0 0 0 0), (7, .ptr 1 0 0 0), (9, .own 2 1 0 v11.length), (10, .own 3 1 0 v12.length), (51, .ptr 0 0 0 0), (52, .ptr 1 0 0 0)], [eB91 v2, eB91 v8, eR57 v11, eR57 v12]⟩ ?_
              obtain ⟨v13, h30, H⟩ := ibC H
              refine ak_callP (avs := [.ptr 0 0 0 0, .ptr 1 0 0 0]) (dst := some 53) (k' := (K3 1111110 3)) [5, 7, 9, 10, 53] [0, 1] hP enters_14 (merkle_Diff.says v2 v8 h30) (by kernel_rfl) (hands_two rfl rfl rfl rfl (by decide)) (.cons (.same (.ptr 0 0 0 0)) (.cons (.same (.ptr 1 0 0 0)) .nil)) (st' := ⟨91, [(5, .ptr 0 0 0 0), (7, .ptr 1 0 0 0), (9, .own 2 1 0 v11.length), (10, .own 3 1 0 v12.length), (53, .own 4 2 0 v13.length)], [eB91 v2, eB91 v8, eR57 v11, eR57 v12, eR44 v13]⟩) (by kernel_rfl) ?_
              refine goK hT 6 (K3 111111100 1) ⟨91, [(5, .ptr 0 0 0 0), (7, .ptr 1 0 0 0), (9, .own 2 1 0 v11.length), (10, .own 3 1 0 v12.length), (11, .own 4 2 0 v13.length), (54, .own 4 2 0 v13.length)], [eB91 v2, eB91 v8, eR57 v11, eR57 v12, eR44 v13]⟩ ?_
              obtain ⟨v14, h31, H⟩ := ibC H
              refine ak_callP (avs := [.own 4 2 0 v13.length]) (dst := some 55) (k' := (K3 111111100 2)) [5, 7, 9, 10, 11, 55] [] hP enters_16 (splicelaw03_Refs.says (t0 := false) v13 h31) (by kernel_rfl) (hands_none _) (.cons (.lend (ty := 44) (by kernel_rfl) rfl) .nil) (st' := ⟨91, [(5, .ptr 0 0 0 0), (7, .ptr 1 0 0 0), (9, .own 2 1 0 v11.length), (10, .own 3 1 0 v12.length), (11, .own 4 2 0 v13.length), (55, .own 5 2 0 v14.length)], [eB91 v2, eB91 v8, eR57 v11, eR57 v12, eR44 v13, eR69 v14]⟩) (by kernel_rfl) ?_
              refine goK hT 2 (K3 111111100 4) ⟨91, [(5, .ptr 0 0 0 0), (7, .ptr 1 0 0 0), (9, .own 2 1 0 v11.length), (10, .own 3 1 0 v12.length), (11, .own 4 2 0 v13.length), (55, .own 5 2 0 v14.length), (56, .own 2 1 0 v11.length), (57, .own 3 1 0 v12.length)], [eB91 v2, eB91 v8, eR57 v11, eR57 v12, eR44 v13, eR69 v14]⟩ ?_
              obtain ⟨v15, h32, H⟩ := ibC H
              refine ak_callP (avs := [.own 2 1 0 v11.length, .own 3 1 0 v12.length]) (dst := some 58) (k' := (K3 111111100 5)) [5, 7, 9, 10, 11, 55, 58] [] hP enters_17 (spliceref20_Diff.says (t0 := false) (t1 := false) v11 v12 h32) (by kernel_rfl) (hands_none _) (.cons (.lend (ty := 57) (by kernel_rfl) rfl) (.cons (.lend (ty := 57) (by kernel_rfl) rfl) .nil)) (st' := ⟨91, [(5, .ptr 0 0 0 0), (7, .ptr 1 0 0 0), (9, .own 2 1 0 v11.length), (10, .own 3 1 0 v12.length), (11, .own 4 2 0 v13.length), (55, .own 5 2 0 v14.length), (58, .own 6 2 0 v15.length)], [eB91 v2, eB91 v8, eR57 v11, eR57 v12, eR44 v13, eR69 v14, eR69 v15]⟩) (by kernel_rfl) ?_
              obtain ⟨v16, h33, H⟩ := ibC H
              have Jj5 : ∀ (y5_70 : Bool), (splicelaw20_MerkleDiffs.j5 v2 v8 v11 v12 v13 y5_70) = some r → AK X 3 ((K3 11111110 1)) (Back X [] (.b r)) ⟨91, [(5, .ptr 0 0 0 0), (7, .ptr 1 0 0 0), (9, .own 2 1 0 v11.length), (10, .own 3 1 0 v12.length), (11, .own 4 2 0 v13.length), (70, .b y5_70)], [eB91 v2, eB91 v8, eR57 v11, eR57 v12, eR44 v13]⟩ := by
                intro y5_70 H
                by_cases c39 : y5_70 = true
                · replace H := iT c39 H
                  rw [c39]
                  refine goK hT 5 (K3 1111111010 1) ⟨91, [(4, .b false)], [eB91 v2, eB91 v8, eR57 v11, eR57 v12, eR44 v13]⟩ ?_
                  obtain rfl := retC H
                  exact ak_ret hf hX (av := .b false) (by kernel_rfl) [] (sel_of_eq (by kernel_rfl)) (by decide) (by rw [h0]; rfl) (by kernel_rfl) (fun _ h => all_nil h) (.d (.v _))
                · replace H := iF c39 H
                  rw [boF c39]
                  refine goK hT 2 (K3 1111111 1) ⟨91, [(5, .ptr 0 0 0 0), (7, .ptr 1 0 0 0), (9, .own 2 1 0 v11.length), (10, .own 3 1 0 v12.length), (11, .own 4 2 0 v13.length)], [eB91 v2, eB91 v8, eR57 v11, eR57 v12, eR44 v13]⟩ ?_
                  refine goK hT 2 (K3 111111110 0) ⟨91, [(5, .ptr 0 0 0 0), (7, .ptr 1 0 0 0), (9, .own 2 1 0 v11.length), (10, .own 3 1 0 v12.length), (11, .own 4 2 0 v13.length)], [eB91 v2, eB91 v8, eR57 v11, eR57 v12, eR44 v13]⟩ ?_
                  obtain ⟨v21, h40, H⟩ := ibC H
                  have Jj6 : ∀ (y6_4 : Bool), (splicelaw20_MerkleDiffs.j6 y6_4) = some r → AK X 3 ((K3 11111111 1)) (Back X [] (.b r)) ⟨91, [(4, .b y6_4)], []⟩ := by
                    intro y6_4 H
                    obtain rfl := retC H
                    exact ak_ret hf hX (av := .b y6_4) (by kernel_rfl) [] (sel_of_eq (by kernel_rfl)) (by decide) (by rw [h0]; rfl) (by kernel_rfl) (fun _ h => all_nil h) (.d (.v _))
                  refine ak_callP (avs := []) (dst := some 71) (k' := (K3 111111110 1)) [5, 7, 9, 10, 11, 71] [] hP enters_12 (splicelaw20_awake.says h40) (by kernel_rfl) (hands_none _) .nil (st' := ⟨91, [(5, .ptr 0 0 0 0), (7, .ptr 1 0 0 0), (9, .own 2 1 0 v11.length), (10, .own 3 1 0 v12.length), (11, .own 4 2 0 v13.length), (71, .b v21)], [eB91 v2, eB91 v8, eR57 v11, eR57 v12, eR44 v13]⟩) (by kernel_rfl) ?_
                  refine goK hT 1 (K3 111111110 2) ⟨91, [(5, .ptr 0 0 0 0), (7, .ptr 1 0 0 0), (9, .own 2 1 0 v11.length), (10, .own 3 1 0 v12.length), (11, .own 4 2 0 v13.length), (72, .b v21)], [eB91 v2, eB91 v8, eR57 v11, eR57 v12, eR44 v13]⟩ ?_
                  by_cases c41 : v21 = true
                  · replace H := iT c41 H
                    rw [c41]
                    refine goK hT 4 (K3 111111110 6) ⟨91, [(5, .ptr 0 0 0 0), (7, .ptr 1 0 0 0), (9, .own 2 1 0 v11.length), (10, .own 3 1 0 v12.length), (72, .b true), (76, .b (decide ((v13.length : Int) > 0)))], [eB91 v2, eB91 v8, eR57 v11, eR57 v12, eR44 v13]⟩ ?_
                    by_cases c42 : (v13.length : Int) > 0
                    · replace H := iT c42 H
                      rw [decide_eq_true c42]
                      refine goK hT 16 (K3 11111111 1) ⟨91, [(4, .b true)], [eB91 v2, eB91 v8, eR57 v11, eR57 v12, eR44 v13]⟩ ?_
                      refine cutK [] ⟨91, [(4, .b true)], []⟩ h0 ?_
                      exact Jj6 true H
                    · replace H := iF c42 H
                      rw [decide_eq_false c42]
                      refine goK hT 1 (K3 111111110 7) ⟨91, [(7, .ptr 1 0 0 0), (9, .own 2 1 0 v11.length), (10, .own 3 1 0 v12.length), (72, .b true), (76, .b false), (77, .ptr 0 0 0 0)], [eB91 v2, eB91 v8, eR57 v11, eR57 v12, eR44 v13]⟩ ?_
                      refine ak_callP (avs := [.ptr 0 0 0 0]) (dst := some 78) (k' := (K3 111111110 8)) [7, 9, 10, 72, 76, 78] [0] hP enters_18 (merkle_Tree_Root.says v2) (by kernel_rfl) (hands_one rfl rfl) (.cons (.same (.ptr 0 0 0 0)) .nil) (st' := ⟨91, [(7, .ptr 1 0 0 0), (9, .own 2 1 0 v11.length), (10, .own 3 1 0 v12.length), (72, .b true), (76, .b false), (78, .n .u32 (merkle_Tree_Root v2))], [eB91 v2, eB91 v8, eR57 v11, eR57 v12, eR44 v13]⟩) (by kernel_rfl) ?_
                      refine goK hT 1 (K3 111111110 9) ⟨91, [(9, .own 2 1 0 v11.length), (10, .own 3 1 0 v12.length), (72, .b true), (76, .b false), (78, .n .u32 (merkle_Tree_Root v2)), (79, .ptr 1 0 0 0)], [eB91 v2, eB91 v8, eR57 v11, eR57 v12, eR44 v13]⟩ ?_
                      refine ak_callP (avs := [.ptr 1 0 0 0]) (dst := some 80) (k' := (K3 111111110 10)) [9, 10, 72, 76, 78, 80] [1] hP enters_18 (merkle_Tree_Root.says v8) (by kernel_rfl) (hands_one rfl rfl) (.cons (.same (.ptr 0 0 0 0)) .nil) (st' := ⟨91, [(9, .own 2 1 0 v11.length), (10, .own 3 1 0 v12.length), (72, .b true), (76, .b false), (78, .n .u32 (merkle_Tree_Root v2)), (80, .n .u32 (merkle_Tree_Root v8))], [eB91 v2, eB91 v8, eR57 v11, eR57 v12, eR44 v13]⟩) (by kernel_rfl) ?_
                      refine goK hT 3 (K3 111111110 13) ⟨91, [(9, .own 2 1 0 v11.length), (10, .own 3 1 0 v12.length), (72, .b true), (83, .b ((merkle_Tree_Root v2) == (merkle_Tree_Root v8)))], [eB91 v2, eB91 v8, eR57 v11, eR57 v12, eR44 v13]⟩ ?_
                      by_cases c43 : (merkle_Tree_Root v2) = (merkle_Tree_Root v8)
                      · replace H := iT c43 H
                        rw [eqT c43]
                        refine goK hT 9 (K3 11111111 1) ⟨91, [(4, .b true)], [eB91 v2, eB91 v8, eR57 v11, eR57 v12, eR44 v13]⟩ ?_
                        refine cutK [] ⟨91, [(4, .b true)], []⟩ h0 ?_
                        exact Jj6 true H
                      · replace H := iF c43 H
                        rw [eqF c43]
                        refine goK hT 2 (K3 111111110 15) ⟨91, [(72, .b true), (83, .b false), (84, .own 2 1 0 v11.length), (85, .own 3 1 0 v12.length)], [eB91 v2, eB91 v8, eR57 v11, eR57 v12, eR44 v13]⟩ ?_
                        obtain ⟨v22, h44, H⟩ := ibC H
                        refine ak_callP (avs := [.own 2 1 0 v11.length, .own 3 1 0 v12.length]) (dst := some 86) (k' := (K3 111111110 16)) [72, 83, 86] [] hP enters_17 (spliceref20_Diff.says (t0 := false) (t1 := false) v11 v12 h44) (by kernel_rfl) (hands_none _) (.cons (.lend (ty := 57) (by kernel_rfl) rfl) (.cons (.lend (ty := 57) (by kernel_rfl) rfl) .nil)) (st' := ⟨91, [(72, .b true), (83, .b false), (86, .own 5 2 0 v22.length)], [eB91 v2, eB91 v8, eR57 v11, eR57 v12, eR44 v13, eR69 v22]⟩) (by kernel_rfl) ?_
                        refine goK hT 6 (K3 11111111 1) ⟨91, [(4, .b ((v22.length : Int) == 0))], [eB91 v2, eB91 v8, eR57 v11, eR57 v12, eR44 v13, eR69 v22]⟩ ?_
                        refine cutK [] ⟨91, [(4, .b ((v22.length : Int) == 0))], []⟩ h0 ?_
                        exact Jj6 ((v22.length : Int) == 0) H
                  · replace H := iF c41 H
                    rw [boF c41]
                    refine goK hT 20 (K3 11111111 1) ⟨91, [(4, .b false)], [eB91 v2, eB91 v8, eR57 v11, eR57 v12, eR44 v13]⟩ ?_
                    refine cutK [] ⟨91, [(4, .b false)], []⟩ h0 ?_
                    exact Jj6 false H
              refine ak_callP (avs := [.own 5 2 0 v14.length, .own 6 2 0 v15.length]) (dst := some 59) (k' := (K3 111111100 6)) [5, 7, 9, 10, 11, 59] [] hP enters_15 (spliceref03_Same.says (t0 := false) (t1 := false) v14 v15 h33) (by kernel_rfl) (hands_none _) (.cons (.lend (ty := 69) (by kernel_rfl) rfl) (.cons (.lend (ty := 69) (by kernel_rfl) rfl) .nil)) (st' := ⟨91, [(5, .ptr 0 0 0 0), (7, .ptr 1 0 0 0), (9, .own 2 1 0 v11.length), (10, .own 3 1 0 v12.length), (11, .own 4 2 0 v13.length), (59, .b v16)], [eB91 v2, eB91 v8, eR57 v11, eR57 v12, eR44 v13, eR69 v14, eR69 v15]⟩) (by kernel_rfl) ?_
              refine goK hT 2 (K3 111111100 8) ⟨91, [(5, .ptr 0 0 0 0), (7, .ptr 1 0 0 0), (9, .own 2 1 0 v11.length), (10, .own 3 1 0 v12.length), (11, .own 4 2 0 v13.length), (61, .b (!v16))], [eB91 v2, eB91 v8, eR57 v11, eR57 v12, eR44 v13, eR69 v14, eR69 v15]⟩ ?_
              by_cases c34 : v16 = true
              · replace H := iT c34 H
                rw [c34]
                refine goK hT 1 (K3 111111100 9) ⟨91, [(5, .ptr 0 0 0 0), (7, .ptr 1 0 0 0), (9, .own 2 1 0 v11.length), (10, .own 3 1 0 v12.length), (11, .own 4 2 0 v13.length), (61, .b false), (62, .own 4 2 0 v13.length)], [eB91 v2, eB91 v8, eR57 v11, eR57 v12, eR44 v13, eR69 v14, eR69 v15]⟩ ?_
                obtain ⟨v17, h35, H⟩ := ibC H
                refine ak_callP (avs := [.own 4 2 0 v13.length]) (dst := some 63) (k' := (K3 111111100 10)) [5, 7, 9, 10, 11, 61, 63] [] hP enters_16 (splicelaw03_Refs.says (t0 := false) v13 h35) (by kernel_rfl) (hands_none _) (.cons (.lend (ty := 44) (by kernel_rfl) rfl) .nil) (st' := ⟨91, [(5, .ptr 0 0 0 0), (7, .ptr 1 0 0 0), (9, .own 2 1 0 v11.length), (10, .own 3 1 0 v12.length), (11, .own 4 2 0 v13.length), (61, .b false), (63, .own 7 2 0 v17.length)], [eB91 v2, eB91 v8, eR57 v11, eR57 v12, eR44 v13, eR69 v14, eR69 v15, eR69 v17]⟩) (by kernel_rfl) ?_
                refine goK hT 2 (K3 111111100 12) ⟨91, [(5, .ptr 0 0 0 0), (7, .ptr 1 0 0 0), (9, .own 2 1 0 v11.length), (10, .own 3 1 0 v12.length), (11, .own 4 2 0 v13.length), (61, .b false), (63, .own 7 2 0 v17.length), (64, .ptr 1 0 0 0), (65, .ptr 0 0 0 0)], [eB91 v2, eB91 v8, eR57 v11, eR57 v12, eR44 v13, eR69 v14, eR69 v15, eR69 v17]⟩ ?_
                obtain ⟨v18, h36, H⟩ := ibC H
                refine ak_callP (avs := [.ptr 1 0 0 0, .ptr 0 0 0 0]) (dst := some 66) (k' := (K3 111111100 13)) [5, 7, 9, 10, 11, 61, 63, 66] [1, 0] hP enters_14 (merkle_Diff.says v8 v2 h36) (by kernel_rfl) (hands_two rfl rfl rfl rfl (by decide)) (.cons (.same (.ptr 0 0 0 0)) (.cons (.same (.ptr 1 0 0 0)) .nil)) (st' := ⟨91, [(5, .ptr 0 0 0 0), (7, .ptr 1 0 0 0), (9, .own 2 1 0 v11.length), (10, .own 3 1 0 v12.length), (11, .own 4 2 0 v13.length), (61, .b false), (63, .own 7 2 0 v17.length), (66, .own 8 2 0 v18.length)], [eB91 v2, eB91 v8, eR57 v11, eR57 v12, eR44 v13, eR69 v14, eR69 v15, eR69 v17, eR44 v18]⟩) (by kernel_rfl) ?_
                obtain ⟨v19, h37, H⟩ := ibC H
                refine ak_callP (avs := [.own 8 2 0 v18.length]) (dst := some 67) (k' := (K3 111111100 14)) [5, 7, 9, 10, 11, 61, 63, 67] [] hP enters_16 (splicelaw03_Refs.says (t0 := false) v18 h37) (by kernel_rfl) (hands_none _) (.cons (.lend (ty := 44) (by kernel_rfl) rfl) .nil) (st' := ⟨91, [(5, .ptr 0 0 0 0), (7, .ptr 1 0 0 0), (9, .own 2 1 0 v11.length), (10, .own 3 1 0 v12.length), (11, .own 4 2 0 v13.length), (61, .b false), (63, .own 7 2 0 v17.length), (67, .own 9 2 0 v19.length)], [eB91 v2, eB91 v8, eR57 v11, eR57 v12, eR44 v13, eR69 v14, eR69 v15, eR69 v17, eR44 v18, eR69 v19]⟩) (by kernel_rfl) ?_
                obtain ⟨v20, h38, H⟩ := ibC H
                refine ak_callP (avs := [.own 7 2 0 v17.length, .own 9 2 0 v19.length]) (dst := some 68) (k' := (K3 111111100 15)) [5, 7, 9, 10, 11, 61, 68] [] hP enters_15 (spliceref03_Same.says (t0 := false) (t1 := false) v17 v19 h38) (by kernel_rfl) (hands_none _) (.cons (.lend (ty := 69) (by kernel_rfl) rfl) (.cons (.lend (ty := 69) (by kernel_rfl) rfl) .nil)) (st' := ⟨91, [(5, .ptr 0 0 0 0), (7, .ptr 1 0 0 0), (9, .own 2 1 0 v11.length), (10, .own 3 1 0 v12.length), (11, .own 4 2 0 v13.length), (61, .b false), (68, .b v20)], [eB91 v2, eB91 v8, eR57 v11, eR57 v12, eR44 v13, eR69 v14, eR69 v15, eR69 v17, eR44 v18, eR69 v19]⟩) (by kernel_rfl) ?_
                refine goK hT 3 (K3 11111110 1) ⟨91, [(5, .ptr 0 0 0 0), (7, .ptr 1 0 0 0), (9, .own 2 1 0 v11.length), (10, .own 3 1 0 v12.length), (11, .own 4 2 0 v13.length), (70, .b (!v20))], [eB91 v2, eB91 v8, eR57 v11, eR57 v12, eR44 v13, eR69 v14, eR69 v15, eR69 v17, eR44 v18, eR69 v19]⟩ ?_
                refine cutK [0, 1, 2, 3, 4] ⟨91, [(5, .ptr 0 0 0 0), (7, .ptr 1 0 0 0), (9, .own 2 1 0 v11.length), (10, .own 3 1 0 v12.length), (11, .own 4 2 0 v13.length), (70, .b (!v20))], [eB91 v2, eB91 v8, eR57 v11, eR57 v12, eR44 v13]⟩ h0 ?_
                exact Jj5 (!v20) H
              · replace H := iF c34 H
                rw [boF c34]
                refine goK hT 10 (K3 11111110 1) ⟨91, [(5, .ptr 0 0 0 0), (7, .ptr 1 0 0 0), (9, .own 2 1 0 v11.length), (10, .own 3 1 0 v12.length), (11, .own 4 2 0 v13.length), (70, .b true)], [eB91 v2, eB91 v8, eR57 v11, eR57 v12, eR44 v13, eR69 v14, eR69 v15]⟩ ?_
                refine cutK [0, 1, 2, 3, 4] ⟨91, [(5, .ptr 0 0 0 0), (7, .ptr 1 0 0 0), (9, .own 2 1 0 v11.length), (10, .own 3 1 0 v12.length), (11, .own 4 2 0 v13.length), (70, .b true)], [eB91 v2, eB91 v8, eR57 v11, eR57 v12, eR44 v13]⟩ h0 ?_
                exact Jj5 true H
          have Sq16 := merkle_New.says (t0 := t1) a1 h15
          rw [q16] at Sq16
          refine ak_callP (avs := [.d (eL42 t1 a1)]) (dst := some 19) (k' := (K3 1110 2)) [0, 1, 5, 6, 19] [] hP enters_10 (Sq16) (by kernel_rfl) (hands_none _) (.cons (pass_d _) .nil) (st' := ⟨91, [(0, .d (eL42 t0 a0)), (1, .d (eL42 t1 a1)), (5, .ptr 0 0 0 0), (6, .i v1.2), (19, .tup [.ptr 1 0 0 0, .i v7.2])], [eB91 v2, eB91 v8]⟩) (by kernel_rfl) ?_
          refine goK hT 10 (K3 111100 1) ⟨91, [(0, .d (eL42 t0 a0)), (1, .d (eL42 t1 a1)), (5, .ptr 0 0 0 0), (6, .i v1.2), (7, .ptr 1 0 0 0), (8, .i v7.2), (22, .d (eL42 t0 a0))], [eB91 v2, eB91 v8]⟩ ?_
          refine ak_callP (avs := [.d (eL42 t0 a0)]) (dst := some 23) (k' := (K3 111100 2)) [0, 1, 5, 6, 7, 8, 23] [] hP enters_11 (splicelaw20_few.says (t0 := t0) a0) (by kernel_rfl) (hands_none _) (.cons (pass_d _) .nil) (st' := ⟨91, [(0, .d (eL42 t0 a0)), (1, .d (eL42 t1 a1)), (5, .ptr 0 0 0 0), (6, .i v1.2), (7, .ptr 1 0 0 0), (8, .i v7.2), (23, .b (splicelaw20_few a0))], [eB91 v2, eB91 v8]⟩) (by kernel_rfl) ?_
          refine goK hT 2 (K3 111100 4) ⟨91, [(0, .d (eL42 t0 a0)), (1, .d (eL42 t1 a1)), (5, .ptr 0 0 0 0), (6, .i v1.2), (7, .ptr 1 0 0 0), (8, .i v7.2), (25, .b (!(splicelaw20_few a0)))], [eB91 v2, eB91 v8]⟩ ?_
          by_cases c22 : (splicelaw20_few a0) = true
          · replace H := iT c22 H
            rw [c22]
            refine goK hT 1 (K3 111100 5) ⟨91, [(0, .d (eL42 t0 a0)), (1, .d (eL42 t1 a1)), (5, .ptr 0 0 0 0), (6, .i v1.2), (7, .ptr 1 0 0 0), (8, .i v7.2), (25, .b false), (26, .d (eL42 t1 a1))], [eB91 v2, eB91 v8]⟩ ?_
            refine ak_callP (avs := [.d (eL42 t1 a1)]) (dst := some 27) (k' := (K3 111100 6)) [0, 1, 5, 6, 7, 8, 25, 27] [] hP enters_11 (splicelaw20_few.says (t0 := t1) a1) (by kernel_rfl) (hands_none _) (.cons (pass_d _) .nil) (st' := ⟨91, [(0, .d (eL42 t0 a0)), (1, .d (eL42 t1 a1)), (5, .ptr 0 0 0 0), (6, .i v1.2), (7, .ptr 1 0 0 0), (8, .i v7.2), (25, .b false), (27, .b (splicelaw20_few a1))], [eB91 v2, eB91 v8]⟩) (by kernel_rfl) ?_
            refine goK hT 3 (K3 111100 9) ⟨91, [(0, .d (eL42 t0 a0)), (1, .d (eL42 t1 a1)), (5, .ptr 0 0 0 0), (6, .i v1.2), (7, .ptr 1 0 0 0), (8, .i v7.2), (30, .b (!(splicelaw20_few a1)))], [eB91 v2, eB91 v8]⟩ ?_
            by_cases c23 : (splicelaw20_few a1) = true
            · replace H := iT c23 H
              rw [c23]
              refine goK hT 4 (K3 111100 13) ⟨91, [(0, .d (eL42 t0 a0)), (1, .d (eL42 t1 a1)), (5, .ptr 0 0 0 0), (7, .ptr 1 0 0 0), (8, .i v7.2), (34, .b (v1.2 != 0))], [eB91 v2, eB91 v8]⟩ ?_
              by_cases c24 : v1.2 = 0
              · replace H := iT c24 H
                rw [neF c24]
                refine goK hT 4 (K3 111100 17) ⟨91, [(0, .d (eL42 t0 a0)), (1, .d (eL42 t1 a1)), (5, .ptr 0 0 0 0), (7, .ptr 1 0 0 0), (38, .b (v7.2 != 0))], [eB91 v2, eB91 v8]⟩ ?_
                by_cases c25 : v7.2 = 0
                · replace H := iT c25 H
                  rw [neF c25]
                  refine goK hT 8 (K3 11110 1) ⟨91, [(0, .d (eL42 t0 a0)), (1, .d (eL42 t1 a1)), (5, .ptr 0 0 0 0), (7, .ptr 1 0 0 0), (45, .b false)], [eB91 v2, eB91 v8]⟩ ?_
                  refine cutK [0, 1] ⟨91, [(0, .d (eL42 t0 a0)), (1, .d (eL42 t1 a1)), (5, .ptr 0 0 0 0), (7, .ptr 1 0 0 0), (45, .b false)], [eB91 v2, eB91 v8]⟩ h0 ?_
                  exact Jj4 false H
                · replace H := iF c25 H
                  rw [neT c25]
                  refine goK hT 8 (K3 11110 1) ⟨91, [(0, .d (eL42 t0 a0)), (1, .d (eL42 t1 a1)), (5, .ptr 0 0 0 0), (7, .ptr 1 0 0 0), (45, .b true)], [eB91 v2, eB91 v8]⟩ ?_
                  refine cutK [0, 1] ⟨91, [(0, .d (eL42 t0 a0)), (1, .d (eL42 t1 a1)), (5, .ptr 0 0 0 0), (7, .ptr 1 0 0 0), (45, .b true)], [eB91 v2, eB91 v8]⟩ h0 ?_
                  exact Jj4 true H
              · replace H := iF c24 H
                rw [neT c24]
                refine goK hT 12 (K3 11110 1) ⟨91, [(0, .d (eL42 t0 a0)), (1, .d (eL42 t1 a1)), (5, .ptr 0 0 0 0), (7, .ptr 1 0 0 0), (45, .b true)], [eB91 v2, eB91 v8]⟩ ?_
                refine cutK [0, 1] ⟨91, [(0, .d (eL42 t0 a0)), (1, .d (eL42 t1 a1)), (5, .ptr 0 0 0 0), (7, .ptr 1 0 0 0), (45, .b true)], [eB91 v2, eB91 v8]⟩ h0 ?_
                exact Jj4 true H
            · replace H := iF c23 H
              rw [boF c23]
              refine goK hT 16 (K3 11110 1) ⟨91, [(0, .d (eL42 t0 a0)), (1, .d (eL42 t1 a1)), (5, .ptr 0 0 0 0), (7, .ptr 1 0 0 0), (45, .b true)], [eB91 v2, eB91 v8]⟩ ?_
              refine cutK [0, 1] ⟨91, [(0, .d (eL42 t0 a0)), (1, .d (eL42 t1 a1)), (5, .ptr 0 0 0 0), (7, .ptr 1 0 0 0), (45, .b true)], [eB91 v2, eB91 v8]⟩ h0 ?_
              exact Jj4 true H
          · replace H := iF c22 H
            rw [boF c22]
            refine goK hT 21 (K3 11110 1) ⟨91, [(0, .d (eL42 t0 a0)), (1, .d (eL42 t1 a1)), (5, .ptr 0 0 0 0), (7, .ptr 1 0 0 0), (45, .b true)], [eB91 v2, eB91 v8]⟩ ?_
            refine cutK [0, 1] ⟨91, [(0, .d (eL42 t0 a0)), (1, .d (eL42 t1 a1)), (5, .ptr 0 0 0 0), (7, .ptr 1 0 0 0), (45, .b true)], [eB91 v2, eB91 v8]⟩ h0 ?_
            exact Jj4 true H
end Go.SyP
