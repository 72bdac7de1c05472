/- Certificates, printed by gen.py. -/
import Derived.Test.YtckflmadcnfpeaaG20Cp0
set_option linter.unusedVariables false
set_option linter.unusedSimpArgs false
namespace Go.SyP
open Go Go.Sy Go.Proofs


theorem splicelaw20_awake.says {r : Bool} (H : splicelaw20_awake = some r) : Says Try.prog 12 [] [] [] (.b r) := by
  refine says_of Try.func12 rfl (nt := 51) rfl (Nat.le_of_ble_eq_true rfl) fun X hP h0 hX => ?_
  have hT : TabOk X.P T := hP ▸ tok
  have hf : X.P.funcs[12]? = some Try.f12 := hP ▸ Try.func12
  refine goK hT 8 (K12 110 2) ⟨51, [(8, .own 0 2 0 1)], [.flat false 2 42 1 (fun j => [[.i 5, .i 7]].getD j [])]⟩ ?_
  refine ak_row 0 (kk := 2) (fz := false) (ty := 42) (n := ([(⟨5, 7⟩ : api_Pair)] : List api_Pair).length) (vec api_Pair.e api_Pair.z ([(⟨5, 7⟩ : api_Pair)] : List api_Pair)) (by kernel_rfl) vec_lit (st' := ⟨51, [(8, .own 0 2 0 (([(⟨5, 7⟩ : api_Pair)] : List api_Pair).length))], [eR42 ([(⟨5, 7⟩ : api_Pair)] : List api_Pair)]⟩) (by kernel_rfl) ?_
  obtain ⟨v1, h1, H⟩ := ibC H
  cases q2 : v1.1 with
  | none =>
      rw [q2] at H
      replace H := ioptN H
      have Sq2 := merkle_New.says (t0 := false) ([(⟨5, 7⟩ : api_Pair)] : List api_Pair) h1
      rw [q2] at Sq2
      refine ak_callP (avs := [.own 0 2 0 (([(⟨5, 7⟩ : api_Pair)] : List api_Pair).length)]) (dst := some 9) (k' := (K12 110 3)) [9] [] hP enters_10 (Sq2) (by kernel_rfl) (hands_none _) (.cons (.lend (ty := 42) (by kernel_rfl) rfl) .nil) (st' := ⟨51, [(9, .tup [.d .np, .i v1.2])], [eR42 ([(⟨5, 7⟩ : api_Pair)] : List api_Pair)]⟩) (by kernel_rfl) ?_
      refine goK hT 10 (K12 1110 2) ⟨51, [(1, .d .np), (2, .i v1.2), (14, .own 1 2 0 1)], [eR42 ([(⟨5, 7⟩ : api_Pair)] : List api_Pair), .flat false 2 42 1 (fun j => [[.i 5, .i 8]].getD j [])]⟩ ?_
      refine ak_row 1 (kk := 2) (fz := false) (ty := 42) (n := ([(⟨5, 8⟩ : api_Pair)] : List api_Pair).length) (vec api_Pair.e api_Pair.z ([(⟨5, 8⟩ : api_Pair)] : List api_Pair)) (by kernel_rfl) vec_lit (st' := ⟨51, [(1, .d .np), (2, .i v1.2), (14, .own 1 2 0 (([(⟨5, 8⟩ : api_Pair)] : List api_Pair).length))], [eR42 ([(⟨5, 7⟩ : api_Pair)] : List api_Pair), eR42 ([(⟨5, 8⟩ : api_Pair)] : List api_Pair)]⟩) (by kernel_rfl) ?_
      obtain ⟨v3, h3, H⟩ := ibC H
      cases q4 : v3.1 with
      | none =>
          rw [q4] at H
          replace H := ioptN H
          have Sq4 := merkle_New.says (t0 := false) ([(⟨5, 8⟩ : api_Pair)] : List api_Pair) h3
          rw [q4] at Sq4
          refine ak_callP (avs := [.own 1 2 0 (([(⟨5, 8⟩ : api_Pair)] : List api_Pair).length)]) (dst := some 15) (k' := (K12 1110 3)) [1, 2, 15] [] hP enters_10 (Sq4) (by kernel_rfl) (hands_none _) (.cons (.lend (ty := 42) (by kernel_rfl) rfl) .nil) (st' := ⟨51, [(1, .d .np), (2, .i v1.2), (15, .tup [.d .np, .i v3.2])], [eR42 ([(⟨5, 7⟩ : api_Pair)] : List api_Pair), eR42 ([(⟨5, 8⟩ : api_Pair)] : List api_Pair)]⟩) (by kernel_rfl) ?_
          refine goK hT 10 (K12 11110 2) ⟨51, [(1, .d .np), (2, .i v1.2), (3, .d .np), (4, .i v3.2), (18, .d .np), (19, .d .np)], [eR42 ([(⟨5, 7⟩ : api_Pair)] : List api_Pair), eR42 ([(⟨5, 8⟩ : api_Pair)] : List api_Pair)]⟩ ?_
          obtain ⟨v5, h5, H⟩ := ibC H
          have Jj1 : ∀ (y1_0 : Bool), (splicelaw20_awake.j1 y1_0) = some r → AK X 12 ((K12 11111 1)) (Back X [] (.b r)) ⟨51, [(0, .b y1_0)], []⟩ := by
            intro y1_0 H
            obtain rfl := retC H
            exact ak_ret hf hX (av := .b y1_0) (by kernel_rfl) [] (sel_of_eq (by kernel_rfl)) (by decide) (by rw [h0]; rfl) (by kernel_rfl) (fun _ h => all_nil h) (.d (.v _))
          refine ak_callP (avs := [.d .np, .d .np]) (dst := some 20) (k' := (K12 11110 3)) [1, 2, 3, 4, 20] [] hP enters_14 (merkle_Diff_n01.says h5) (by kernel_rfl) (hands_none _) (.cons (pass_d _) (.cons (pass_d _) .nil)) (st' := ⟨51, [(1, .d .np), (2, .i v1.2), (3, .d .np), (4, .i v3.2), (20, .own 2 2 0 v5.length)], [eR42 ([(⟨5, 7⟩ : api_Pair)] : List api_Pair), eR42 ([(⟨5, 8⟩ : api_Pair)] : List api_Pair), eR44 v5]⟩) (by kernel_rfl) ?_
          refine goK hT 7 (K12 111110 3) ⟨51, [(1, .d .np), (3, .d .np), (4, .i v3.2), (5, .own 2 2 0 v5.length), (23, .b (v1.2 == 0))], [eR42 ([(⟨5, 7⟩ : api_Pair)] : List api_Pair), eR42 ([(⟨5, 8⟩ : api_Pair)] : List api_Pair), eR44 v5]⟩ ?_
          by_cases c6 : v1.2 = 0
          · replace H := iT c6 H
            rw [eqT c6]
            refine goK hT 4 (K12 111110 7) ⟨51, [(1, .d .np), (3, .d .np), (5, .own 2 2 0 v5.length), (27, .b (v3.2 == 0))], [eR42 ([(⟨5, 7⟩ : api_Pair)] : List api_Pair), eR42 ([(⟨5, 8⟩ : api_Pair)] : List api_Pair), eR44 v5]⟩ ?_
            by_cases c7 : v3.2 = 0
            · replace H := iT c7 H
              rw [eqT c7]
              refine goK hT 5 (K12 111110 12) ⟨51, [(1, .d .np), (3, .d .np), (5, .own 2 2 0 v5.length), (32, .b ((v5.length : Int) == 1))], [eR42 ([(⟨5, 7⟩ : api_Pair)] : List api_Pair), eR42 ([(⟨5, 8⟩ : api_Pair)] : List api_Pair), eR44 v5]⟩ ?_
              by_cases c8 : (v5.length : Int) = 1
              · replace H := iT c8 H
                rw [eqT c8]
                refine goK hT 1 (K12 111110 13) ⟨51, [(1, .d .np), (3, .d .np), (32, .b true), (33, .own 2 2 0 v5.length)], [eR42 ([(⟨5, 7⟩ : api_Pair)] : List api_Pair), eR42 ([(⟨5, 8⟩ : api_Pair)] : List api_Pair), eR44 v5]⟩ ?_
                obtain ⟨h9, H⟩ := iC H
                refine ak_idx hT [1, 3, 32, 34] (i := 0) (n := (v5.length : Int)) h9.1 h9.2 (k' := (K12 111110 14)) (st' := ⟨51, [(1, .d .np), (3, .d .np), (32, .b true), (34, .ptr 2 2 0 0)], [eR42 ([(⟨5, 7⟩ : api_Pair)] : List api_Pair), eR42 ([(⟨5, 8⟩ : api_Pair)] : List api_Pair), eR44 v5]⟩) (by kernel_rfl) ?_
                refine ak_ld hT [1, 3, 32, 35] (i := 0) (n := v5.length) (by omega) (k' := (K12 111110 15)) (st' := ⟨51, [(1, .d .np), (3, .d .np), (32, .b true), (35, .d (eG44 (v5.getD 0 api_Span.z)))], [eR42 ([(⟨5, 7⟩ : api_Pair)] : List api_Pair), eR42 ([(⟨5, 8⟩ : api_Pair)] : List api_Pair), eR44 v5]⟩) (by kernel_rfl) ?_
                refine goK hT 4 (K12 111110 19) ⟨51, [(1, .d .np), (3, .d .np), (39, .b ((((v5.getD 0 api_Span.z).Lo) == 5) && (((v5.getD 0 api_Span.z).Hi) == 6)))], [eR42 ([(⟨5, 7⟩ : api_Pair)] : List api_Pair), eR42 ([(⟨5, 8⟩ : api_Pair)] : List api_Pair), eR44 v5]⟩ ?_
                by_cases c10 : ((v5.getD 0 api_Span.z).Lo) = 5
                · replace H := iT c10 H
                  rw [eqT c10]
                  by_cases c11 : ((v5.getD 0 api_Span.z).Hi) = 6
                  · replace H := iT c11 H
                    rw [eqT c11]
                    refine goK hT 1 (K12 111110 20) ⟨51, [(3, .d .np), (39, .b true), (40, .d .np)], [eR42 ([(⟨5, 7⟩ : api_Pair)] : List api_Pair), eR42 ([(⟨5, 8⟩ : api_Pair)] : List api_Pair), eR44 v5]⟩ ?_
                    obtain ⟨v6, h12, H⟩ := ibC H
                    refine ak_callP (avs := [.d .np]) (dst := some 41) (k' := (K12 111110 21)) [3, 39, 41] [] hP enters_18 (merkle_Tree_Root_n0.says h12) (by kernel_rfl) (hands_none _) (.cons (pass_d _) .nil) (st' := ⟨51, [(3, .d .np), (39, .b true), (41, .n .u32 v6)], [eR42 ([(⟨5, 7⟩ : api_Pair)] : List api_Pair), eR42 ([(⟨5, 8⟩ : api_Pair)] : List api_Pair), eR44 v5]⟩) (by kernel_rfl) ?_
                    refine goK hT 1 (K12 111110 22) ⟨51, [(39, .b true), (41, .n .u32 v6), (42, .d .np)], [eR42 ([(⟨5, 7⟩ : api_Pair)] : List api_Pair), eR42 ([(⟨5, 8⟩ : api_Pair)] : List api_Pair), eR44 v5]⟩ ?_
                    obtain ⟨v7, h13, H⟩ := ibC H
                    refine ak_callP (avs := [.d .np]) (dst := some 43) (k' := (K12 111110 23)) [39, 41, 43] [] hP enters_18 (merkle_Tree_Root_n0.says h13) (by kernel_rfl) (hands_none _) (.cons (pass_d _) .nil) (st' := ⟨51, [(39, .b true), (41, .n .u32 v6), (43, .n .u32 v7)], [eR42 ([(⟨5, 7⟩ : api_Pair)] : List api_Pair), eR42 ([(⟨5, 8⟩ : api_Pair)] : List api_Pair), eR44 v5]⟩) (by kernel_rfl) ?_
                    refine goK hT 3 (K12 111110 26) ⟨51, [(46, .b (v6 != v7))], [eR42 ([(⟨5, 7⟩ : api_Pair)] : List api_Pair), eR42 ([(⟨5, 8⟩ : api_Pair)] : List api_Pair), eR44 v5]⟩ ?_
                    by_cases c14 : v6 = v7
                    · replace H := iT c14 H
                      rw [neF c14]
                      refine goK hT 6 (K12 11111 1) ⟨51, [(0, .b false)], [eR42 ([(⟨5, 7⟩ : api_Pair)] : List api_Pair), eR42 ([(⟨5, 8⟩ : api_Pair)] : List api_Pair), eR44 v5]⟩ ?_
                      refine cutK [] ⟨51, [(0, .b false)], []⟩ h0 ?_
                      exact Jj1 false H
                    · replace H := iF c14 H
                      rw [neT c14]
                      refine goK hT 1 (K12 111110 27) ⟨51, [(46, .b true), (47, .d (.agg [.i 0, .b false]))], [eR42 ([(⟨5, 7⟩ : api_Pair)] : List api_Pair), eR42 ([(⟨5, 8⟩ : api_Pair)] : List api_Pair), eR44 v5]⟩ ?_
                      obtain ⟨v8, h15, H⟩ := ibC H
                      refine ak_callP (avs := [.d (.agg [.i 0, .b false])]) (dst := some 48) (k' := (K12 111110 28)) [46, 48] [] hP enters_19 (merkle_Number.says (⟨0, false⟩ : api_Cell) h15) (by kernel_rfl) (hands_none _) (.cons (pass_d _) .nil) (st' := ⟨51, [(46, .b true), (48, .n .u32 v8)], [eR42 ([(⟨5, 7⟩ : api_Pair)] : List api_Pair), eR42 ([(⟨5, 8⟩ : api_Pair)] : List api_Pair), eR44 v5]⟩) (by kernel_rfl) ?_
                      refine goK hT 4 (K12 11111 1) ⟨51, [(0, .b (v8 == 0))], [eR42 ([(⟨5, 7⟩ : api_Pair)] : List api_Pair), eR42 ([(⟨5, 8⟩ : api_Pair)] : List api_Pair), eR44 v5]⟩ ?_
                      refine cutK [] ⟨51, [(0, .b (v8 == 0))], []⟩ h0 ?_
                      exact Jj1 (v8 == 0) H
                  · replace H := iF c11 H
                    rw [eqF c11]
                    refine goK hT 13 (K12 11111 1) ⟨51, [(0, .b false)], [eR42 ([(⟨5, 7⟩ : api_Pair)] : List api_Pair), eR42 ([(⟨5, 8⟩ : api_Pair)] : List api_Pair), eR44 v5]⟩ ?_
                    refine cutK [] ⟨51, [(0, .b false)], []⟩ h0 ?_
                    exact Jj1 false H
                · replace H := iF c10 H
                  rw [eqF c10]
                  by_cases c16 : ((v5.getD 0 api_Span.z).Hi) = 6
                  · replace H := iT c16 H
                    rw [eqT c16]
                    refine goK hT 13 (K12 11111 1) ⟨51, [(0, .b false)], [eR42 ([(⟨5, 7⟩ : api_Pair)] : List api_Pair), eR42 ([(⟨5, 8⟩ : api_Pair)] : List api_Pair), eR44 v5]⟩ ?_
                    refine cutK [] ⟨51, [(0, .b false)], []⟩ h0 ?_
                    exact Jj1 false H
                  · replace H := iF c16 H
                    rw [eqF c16]
                    refine goK hT 13 (K12 11111 1) ⟨51, [(0, .b false)], [eR42 ([(⟨5, 7⟩ : api_Pair)] : List api_Pair), eR42 ([(⟨5, 8⟩ : api_Pair)] : List api_Pair), eR44 v5]⟩ ?_
                    refine cutK [] ⟨51, [(0, .b false)], []⟩ h0 ?_
                    exact Jj1 false H
              · replace H := iF c8 H
                rw [eqF c8]
                refine goK hT 20 (K12 11111 1) ⟨51, [(0, .b false)], [eR42 ([(⟨5, 7⟩ : api_Pair)] : List api_Pair), eR42 ([(⟨5, 8⟩ : api_Pair)] : List api_Pair), eR44 v5]⟩ ?_
                refine cutK [] ⟨51, [(0, .b false)], []⟩ h0 ?_
                exact Jj1 false H
            · replace H := iF c7 H
              rw [eqF c7]
              refine goK hT 25 (K12 11111 1) ⟨51, [(0, .b false)], [eR42 ([(⟨5, 7⟩ : api_Pair)] : List api_Pair), eR42 ([(⟨5, 8⟩ : api_Pair)] : List api_Pair), eR44 v5]⟩ ?_
              refine cutK [] ⟨51, [(0, .b false)], []⟩ h0 ?_
              exact Jj1 false H
          · replace H := iF c6 H
            rw [eqF c6]
            refine goK hT 29 (K12 11111 1) ⟨51, [(0, .b false)], [eR42 ([(⟨5, 7⟩ : api_Pair)] : List api_Pair), eR42 ([(⟨5, 8⟩ : api_Pair)] : List api_Pair), eR44 v5]⟩ ?_
            refine cutK [] ⟨51, [(0, .b false)], []⟩ h0 ?_
            exact Jj1 false H
      | some v4 =>
          rw [q4] at H
          replace H := ioptS H
          have Sq4 := merkle_New.says (t0 := false) ([(⟨5, 8⟩ : api_Pair)] : List api_Pair) h3
          rw [q4] at Sq4
          refine ak_callP (avs := [.own 1 2 0 (([(⟨5, 8⟩ : api_Pair)] : List api_Pair).length)]) (dst := some 15) (k' := (K12 1110 3)) [1, 2, 15] [] hP enters_10 (Sq4) (by kernel_rfl) (hands_none _) (.cons (.lend (ty := 42) (by kernel_rfl) rfl) .nil) (st' := ⟨51, [(1, .d .np), (2, .i v1.2), (15, .tup [.ptr 2 0 0 0, .i v3.2])], [eR42 ([(⟨5, 7⟩ : api_Pair)] : List api_Pair), eR42 ([(⟨5, 8⟩ : api_Pair)] : List api_Pair), eB91 v4]⟩) (by kernel_rfl) ?_
          refine goK hT 10 (K12 11110 2) ⟨51, [(1, .d .np), (2, .i v1.2), (3, .ptr 2 0 0 0), (4, .i v3.2), (18, .d .np), (19, .ptr 2 0 0 0)], [eR42 ([(⟨5, 7⟩ : api_Pair)] : List api_Pair), eR42 ([(⟨5, 8⟩ : api_Pair)] : List api_Pair), eB91 v4]⟩ ?_
          obtain ⟨v9, h17, H⟩ := ibC H
          have Jj2 : ∀ (y2_0 : Bool), (splicelaw20_awake.j2 y2_0) = some r → AK X 12 ((K12 11111 1)) (Back X [] (.b r)) ⟨51, [(0, .b y2_0)], []⟩ := by
            intro y2_0 H
            obtain rfl := retC H
            exact ak_ret hf hX (av := .b y2_0) (by kernel_rfl) [] (sel_of_eq (by kernel_rfl)) (by decide) (by rw [h0]; rfl) (by kernel_rfl) (fun _ h => all_nil h) (.d (.v _))
          refine ak_callP (avs := [.d .np, .ptr 2 0 0 0]) (dst := some 20) (k' := (K12 11110 3)) [1, 2, 3, 4, 20] [2] hP enters_14 (merkle_Diff_n0.says v4 h17) (by kernel_rfl) (hands_one rfl rfl) (.cons (pass_d _) (.cons (.same (.ptr 0 0 0 0)) .nil)) (st' := ⟨51, [(1, .d .np), (2, .i v1.2), (3, .ptr 2 0 0 0), (4, .i v3.2), (20, .own 3 2 0 v9.length)], [eR42 ([(⟨5, 7⟩ : api_Pair)] : List api_Pair), eR42 ([(⟨5, 8⟩ : api_Pair)] : List api_Pair), eB91 v4, eR44 v9]⟩) (by kernel_rfl) ?_
          refine goK hT 7 (K12 111110 3) ⟨51, [(1, .d .np), (3, .ptr 2 0 0 0), (4, .i v3.2), (5, .own 3 2 0 v9.length), (23, .b (v1.2 == 0))], [eR42 ([(⟨5, 7⟩ : api_Pair)] : List api_Pair), eR42 ([(⟨5, 8⟩ : api_Pair)] : List api_Pair), eB91 v4, eR44 v9]⟩ ?_
          by_cases c18 : v1.2 = 0
          · replace H := iT c18 H
            rw [eqT c18]
            refine goK hT 4 (K12 111110 7) ⟨51, [(1, .d .np), (3, .ptr 2 0 0 0), (5, .own 3 2 0 v9.length), (27, .b (v3.2 == 0))], [eR42 ([(⟨5, 7⟩ : api_Pair)] : List api_Pair), eR42 ([(⟨5, 8⟩ : api_Pair)] : List api_Pair), eB91 v4, eR44 v9]⟩ ?_
            by_cases c19 : v3.2 = 0
            · replace H := iT c19 H
              rw [eqT c19]
              refine goK hT 5 (K12 111110 12) ⟨51, [(1, .d .np), (3, .ptr 2 0 0 0), (5, .own 3 2 0 v9.length), (32, .b ((v9.length : Int) == 1))], [eR42 ([(⟨5, 7⟩ : api_Pair)] : List api_Pair), eR42 ([(⟨5, 8⟩ : api_Pair)] : List api_Pair), eB91 v4, eR44 v9]⟩ ?_
              by_cases c20 : (v9.length : Int) = 1
              · replace H := iT c20 H
                rw [eqT c20]
                refine goK hT 1 (K12 111110 13) ⟨51, [(1, .d .np), (3, .ptr 2 0 0 0), (32, .b true), (33, .own 3 2 0 v9.length)], [eR42 ([(⟨5, 7⟩ : api_Pair)] : List api_Pair), eR42 ([(⟨5, 8⟩ : api_Pair)] : List api_Pair), eB91 v4, eR44 v9]⟩ ?_
                obtain ⟨h21, H⟩ := iC H
                refine ak_idx hT [1, 3, 32, 34] (i := 0) (n := (v9.length : Int)) h21.1 h21.2 (k' := (K12 111110 14)) (st' := ⟨51, [(1, .d .np), (3, .ptr 2 0 0 0), (32, .b true), (34, .ptr 3 2 0 0)], [eR42 ([(⟨5, 7⟩ : api_Pair)] : List api_Pair), eR42 ([(⟨5, 8⟩ : api_Pair)] : List api_Pair), eB91 v4, eR44 v9]⟩) (by kernel_rfl) ?_
                refine ak_ld hT [1, 3, 32, 35] (i := 0) (n := v9.length) (by omega) (k' := (K12 111110 15)) (st' := ⟨51, [(1, .d .np), (3, .ptr 2 0 0 0), (32, .b true), (35, .d (eG44 (v9.getD 0 api_Span.z)))], [eR42 ([(⟨5, 7⟩ : api_Pair)] : List api_Pair), eR42 ([(⟨5, 8⟩ : api_Pair)] : List api_Pair), eB91 v4, eR44 v9]⟩) (by kernel_rfl) ?_
                refine goK hT 4 (K12 111110 19) ⟨51, [(1, .d .np), (3, .ptr 2 0 0 0), (39, .b ((((v9.getD 0 api_Span.z).Lo) == 5) && (((v9.getD 0 api_Span.z).Hi) == 6)))], [eR42 ([(⟨5, 7⟩ : api_Pair)] : List api_Pair), eR42 ([(⟨5, 8⟩ : api_Pair)] : List api_Pair), eB91 v4, eR44 v9]⟩ ?_
                by_cases c22 : ((v9.getD 0 api_Span.z).Lo) = 5
                · replace H := iT c22 H
                  rw [eqT c22]
                  by_cases c23 : ((v9.getD 0 api_Span.z).Hi) = 6
                  · replace H := iT c23 H
                    rw [eqT c23]
                    refine goK hT 1 (K12 111110 20) ⟨51, [(3, .ptr 2 0 0 0), (39, .b true), (40, .d .np)], [eR42 ([(⟨5, 7⟩ : api_Pair)] : List api_Pair), eR42 ([(⟨5, 8⟩ : api_Pair)] : List api_Pair), eB91 v4, eR44 v9]⟩ ?_
                    obtain ⟨v10, h24, H⟩ := ibC H
                    refine ak_callP (avs := [.d .np]) (dst := some 41) (k' := (K12 111110 21)) [3, 39, 41] [] hP enters_18 (merkle_Tree_Root_n0.says h24) (by kernel_rfl) (hands_none _) (.cons (pass_d _) .nil) (st' := ⟨51, [(3, .ptr 2 0 0 0), (39, .b true), (41, .n .u32 v10)], [eR42 ([(⟨5, 7⟩ : api_Pair)] : List api_Pair), eR42 ([(⟨5, 8⟩ : api_Pair)] : List api_Pair), eB91 v4, eR44 v9]⟩) (by kernel_rfl) ?_
                    refine goK hT 1 (K12 111110 22) ⟨51, [(39, .b true), (41, .n .u32 v10), (42, .ptr 2 0 0 0)], [eR42 ([(⟨5, 7⟩ : api_Pair)] : List api_Pair), eR42 ([(⟨5, 8⟩ : api_Pair)] : List api_Pair), eB91 v4, eR44 v9]⟩ ?_
                    refine ak_callP (avs := [.ptr 2 0 0 0]) (dst := some 43) (k' := (K12 111110 23)) [39, 41, 43] [2] hP enters_18 (merkle_Tree_Root.says v4) (by kernel_rfl) (hands_one rfl rfl) (.cons (.same (.ptr 0 0 0 0)) .nil) (st' := ⟨51, [(39, .b true), (41, .n .u32 v10), (43, .n .u32 (merkle_Tree_Root v4))], [eR42 ([(⟨5, 7⟩ : api_Pair)] : List api_Pair), eR42 ([(⟨5, 8⟩ : api_Pair)] : List api_Pair), eB91 v4, eR44 v9]⟩) (by kernel_rfl) ?_
                    refine goK hT 3 (K12 111110 26) ⟨51, [(46, .b (v10 != (merkle_Tree_Root v4)))], [eR42 ([(⟨5, 7⟩ : api_Pair)] : List api_Pair), eR42 ([(⟨5, 8⟩ : api_Pair)] : List api_Pair), eB91 v4, eR44 v9]⟩ ?_
                    by_cases c25 : v10 = (merkle_Tree_Root v4)
                    · replace H := iT c25 H
                      rw [neF c25]
                      refine goK hT 6 (K12 11111 1) ⟨51, [(0, .b false)], [eR42 ([(⟨5, 7⟩ : api_Pair)] : List api_Pair), eR42 ([(⟨5, 8⟩ : api_Pair)] : List api_Pair), eB91 v4, eR44 v9]⟩ ?_
                      refine cutK [] ⟨51, [(0, .b false)], []⟩ h0 ?_
                      exact Jj2 false H
                    · replace H := iF c25 H
                      rw [neT c25]
                      refine goK hT 1 (K12 111110 27) ⟨51, [(46, .b true), (47, .d (.agg [.i 0, .b false]))], [eR42 ([(⟨5, 7⟩ : api_Pair)] : List api_Pair), eR42 ([(⟨5, 8⟩ : api_Pair)] : List api_Pair), eB91 v4, eR44 v9]⟩ ?_
                      obtain ⟨v11, h26, H⟩ := ibC H
                      refine ak_callP (avs := [.d (.agg [.i 0, .b false])]) (dst := some 48) (k' := (K12 111110 28)) [46, 48] [] hP enters_19 (merkle_Number.says (⟨0, false⟩ : api_Cell) h26) (by kernel_rfl) (hands_none _) (.cons (pass_d _) .nil) (st' := ⟨51, [(46, .b true), (48, .n .u32 v11)], [eR42 ([(⟨5, 7⟩ : api_Pair)] : List api_Pair), eR42 ([(⟨5, 8⟩ : api_Pair)] : List api_Pair), eB91 v4, eR44 v9]⟩) (by kernel_rfl) ?_
                      refine goK hT 4 (K12 11111 1) ⟨51, [(0, .b (v11 == 0))], [eR42 ([(⟨5, 7⟩ : api_Pair)] : List api_Pair), eR42 ([(⟨5, 8⟩ : api_Pair)] : List api_Pair), eB91 v4, eR44 v9]⟩ ?_
                      refine cutK [] ⟨51, [(0, .b (v11 == 0))], []⟩ h0 ?_
                      exact Jj2 (v11 == 0) H
                  · replace H := iF c23 H
                    rw [eqF c23]
                    refine goK hT 13 (K12 11111 1) ⟨51, [(0, .b false)], [eR42 ([(⟨5, 7⟩ : api_Pair)] : List api_Pair), eR42 ([(⟨5, 8⟩ : api_Pair)] : List api_Pair), eB91 v4, eR44 v9]⟩ ?_
                    refine cutK [] ⟨51, [(0, .b false)], []⟩ h0 ?_
                    exact Jj2 false H
                · replace H := iF c22 H
                  rw [eqF c22]
                  by_cases c27 : ((v9.getD 0 api_Span.z).Hi) = 6
                  · replace H := iT c27 H
                    rw [eqT c27]
                    refine goK hT 13 (K12 11111 1) ⟨51, [(0, .b false)], [eR42 ([(⟨5, 7⟩ : api_Pair)] : List api_Pair), eR42 ([(⟨5, 8⟩ : api_Pair)] : List api_Pair), eB91 v4, eR44 v9]⟩ ?_
                    refine cutK [] ⟨51, [(0, .b false)], []⟩ h0 ?_
                    exact Jj2 false H
                  · replace H := iF c27 H
                    rw [eqF c27]
                    refine goK hT 13 (K12 11111 1) ⟨51, [(0, .b false)], [eR42 ([(⟨5, 7⟩ : api_Pair)] : List api_Pair), eR42 ([(⟨5, 8⟩ : api_Pair)] : List api_Pair), eB91 v4, eR44 v9]⟩ ?_
                    refine cutK [] ⟨51, [(0, .b false)], []⟩ h0 ?_
                    exact Jj2 false H
              · replace H := iF c20 H
                rw [eqF c20]
                refine goK hT 20 (K12 11111 1) ⟨51, [(0, .b false)], [eR42 ([(⟨5, 7⟩ : api_Pair)] : List api_Pair), eR42 ([(⟨5, 8⟩ : api_Pair)] : List api_Pair), eB91 v4, eR44 v9]⟩ ?_
                refine cutK [] ⟨51, [(0, .b false)], []⟩ h0 ?_
                exact Jj2 false H
            · replace H := iF c19 H
              rw [eqF c19]
              refine goK hT 25 (K12 11111 1) ⟨51, [(0, .b false)], [eR42 ([(⟨5, 7⟩ : api_Pair)] : List api_Pair), eR42 ([(⟨5, 8⟩ : api_Pair)] : List api_Pair), eB91 v4, eR44 v9]⟩ ?_
              refine cutK [] ⟨51, [(0, .b false)], []⟩ h0 ?_
              exact Jj2 false H
          · replace H := iF c18 H
            rw [eqF c18]
            refine goK hT 29 (K12 11111 1) ⟨51, [(0, .b false)], [eR42 ([(⟨5, 7⟩ : api_Pair)] : List api_Pair), eR42 ([(⟨5, 8⟩ : api_Pair)] : List api_Pair), eB91 v4, eR44 v9]⟩ ?_
            refine cutK [] ⟨51, [(0, .b false)], []⟩ h0 ?_
            exact Jj2 false H
  | some v2 =>
      rw [q2] at H
      replace H := ioptS H
      have Sq2 := merkle_New.says (t0 := false) ([(⟨5, 7⟩ : api_Pair)] : List api_Pair) h1
      rw [q2] at Sq2
      refine ak_callP (avs := [.own 0 2 0 (([(⟨5, 7⟩ : api_Pair)] : List api_Pair).length)]) (dst := some 9) (k' := (K12 110 3)) [9] [] hP enters_10 (Sq2) (by kernel_rfl) (hands_none _) (.cons (.lend (ty := 42) (by kernel_rfl) rfl) .nil) (st' := ⟨51, [(9, .tup [.ptr 1 0 0 0, .i v1.2])], [eR42 ([(⟨5, 7⟩ : api_Pair)] : List api_Pair), eB91 v2]⟩) (by kernel_rfl) ?_
      refine goK hT 10 (K12 1110 2) ⟨51, [(1, .ptr 1 0 0 0), (2, .i v1.2), (14, .own 2 2 0 1)], [eR42 ([(⟨5, 7⟩ : api_Pair)] : List api_Pair), eB91 v2, .flat false 2 42 1 (fun j => [[.i 5, .i 8]].getD j [])]⟩ ?_
      refine ak_row 2 (kk := 2) (fz := false) (ty := 42) (n := ([(⟨5, 8⟩ : api_Pair)] : List api_Pair).length) (vec api_Pair.e api_Pair.z ([(⟨5, 8⟩ : api_Pair)] : List api_Pair)) (by kernel_rfl) vec_lit (st' := ⟨51, [(1, .ptr 1 0 0 0), (2, .i v1.2), (14, .own 2 2 0 (([(⟨5, 8⟩ : api_Pair)] : List api_Pair).length))], [eR42 ([(⟨5, 7⟩ : api_Pair)] : List api_Pair), eB91 v2, eR42 ([(⟨5, 8⟩ : api_Pair)] : List api_Pair)]⟩) (by kernel_rfl) ?_
      obtain ⟨v12, h28, H⟩ := ibC H
      cases q29 : v12.1 with
      | none =>
          rw [q29] at H
          replace H := ioptN H
          have Sq29 := merkle_New.says (t0 := false) ([(⟨5, 8⟩ : api_Pair)] : List api_Pair) h28
          rw [q29] at Sq29
          refine ak_callP (avs := [.own 2 2 0 (([(⟨5, 8⟩ : api_Pair)] : List api_Pair).length)]) (dst := some 15) (k' := (K12 1110 3)) [1, 2, 15] [] hP enters_10 (Sq29) (by kernel_rfl) (hands_none _) (.cons (.lend (ty := 42) (by kernel_rfl) rfl) .nil) (st' := ⟨51, [(1, .ptr 1 0 0 0), (2, .i v1.2), (15, .tup [.d .np, .i v12.2])], [eR42 ([(⟨5, 7⟩ : api_Pair)] : List api_Pair), eB91 v2, eR42 ([(⟨5, 8⟩ : api_Pair)] : List api_Pair)]⟩) (by kernel_rfl) ?_
          refine goK hT 10 (K12 11110 2) ⟨51, [(1, .ptr 1 0 0 0), (2, .i v1.2), (3, .d .np), (4, .i v12.2), (18, .ptr 1 0 0 0), (19, .d .np)], [eR42 ([(⟨5, 7⟩ : api_Pair)] : List api_Pair), eB91 v2, eR42 ([(⟨5, 8⟩ : api_Pair)] : List api_Pair)]⟩ ?_
          obtain ⟨v14, h30, H⟩ := ibC H
          have Jj3 : ∀ (y3_0 : Bool), (splicelaw20_awake.j3 y3_0) = some r → AK X 12 ((K12 11111 1)) (Back X [] (.b r)) ⟨51, [(0, .b y3_0)], []⟩ := by
            intro y3_0 H
            obtain rfl := retC H
            exact ak_ret hf hX (av := .b y3_0) (by kernel_rfl) [] (sel_of_eq (by kernel_rfl)) (by decide) (by rw [h0]; rfl) (by kernel_rfl) (fun _ h => all_nil h) (.d (.v _))
          refine ak_callP (avs := [.ptr 1 0 0 0, .d .np]) (dst := some 20) (k' := (K12 11110 3)) [1, 2, 3, 4, 20] [1] hP enters_14 (merkle_Diff_n1.says v2 h30) (by kernel_rfl) (hands_one rfl rfl) (.cons (.same (.ptr 0 0 0 0)) (.cons (pass_d _) .nil)) (st' := ⟨51, [(1, .ptr 1 0 0 0), (2, .i v1.2), (3, .d .np), (4, .i v12.2), (20, .own 3 2 0 v14.length)], [eR42 ([(⟨5, 7⟩ : api_Pair)] : List api_Pair), eB91 v2, eR42 ([(⟨5, 8⟩ : api_Pair)] : List api_Pair), eR44 v14]⟩) (by kernel_rfl) ?_
          refine goK hT 7 (K12 111110 3) ⟨51, [(1, .ptr 1 0 0 0), (3, .d .np), (4, .i v12.2), (5, .own 3 2 0 v14.length), (23, .b (v1.2 == 0))], [eR42 ([(⟨5, 7⟩ : api_Pair)] : List api_Pair), eB91 v2, eR42 ([(⟨5, 8⟩ : api_Pair)] : List api_Pair), eR44 v14]⟩ ?_
          by_cases c31 : v1.2 = 0
          · replace H := iT c31 H
            rw [eqT c31]
            refine goK hT 4 (K12 111110 7) ⟨51, [(1, .ptr 1 0 0 0), (3, .d .np), (5, .own 3 2 0 v14.length), (27, .b (v12.2 == 0))], [eR42 ([(⟨5, 7⟩ : api_Pair)] : List api_Pair), eB91 v2, eR42 ([(⟨5, 8⟩ : api_Pair)] : List api_Pair), eR44 v14]⟩ ?_
            by_cases c32 : v12.2 = 0
            · replace H := iT c32 H
              rw [eqT c32]
              refine goK hT 5 (K12 111110 12) ⟨51, [(1, .ptr 1 0 0 0), (3, .d .np), (5, .own 3 2 0 v14.length), (32, .b ((v14.length : Int) == 1))], [eR42 ([(⟨5, 7⟩ : api_Pair)] : List api_Pair), eB91 v2, eR42 ([(⟨5, 8⟩ : api_Pair)] : List api_Pair), eR44 v14]⟩ ?_
              by_cases c33 : (v14.length : Int) = 1
              · replace H := iT c33 H
                rw [eqT c33]
                refine goK hT 1 (K12 111110 13) ⟨51, [(1, .ptr 1 0 0 0), (3, .d .np), (32, .b true), (33, .own 3 2 0 v14.length)], [eR42 ([(⟨5, 7⟩ : api_Pair)] : List api_Pair), eB91 v2, eR42 ([(⟨5, 8⟩ : api_Pair)] : List api_Pair), eR44 v14]⟩ ?_
                obtain ⟨h34, H⟩ := iC H
                refine ak_idx hT [1, 3, 32, 34] (i := 0) (n := (v14.length : Int)) h34.1 h34.2 (k' := (K12 111110 14)) (st' := ⟨51, [(1, .ptr 1 0 0 0), (3, .d .np), (32, .b true), (34, .ptr 3 2 0 0)], [eR42 ([(⟨5, 7⟩ : api_Pair)] : List api_Pair), eB91 v2, eR42 ([(⟨5, 8⟩ : api_Pair)] : List api_Pair), eR44 v14]⟩) (by kernel_rfl) ?_
                refine ak_ld hT [1, 3, 32, 35] (i := 0) (n := v14.length) (by omega) (k' := (K12 111110 15)) (st' := ⟨51, [(1, .ptr 1 0 0 0), (3, .d .np), (32, .b true), (35, .d (eG44 (v14.getD 0 api_Span.z)))], [eR42 ([(⟨5, 7⟩ : api_Pair)] : List api_Pair), eB91 v2, eR42 ([(⟨5, 8⟩ : api_Pair)] : List api_Pair), eR44 v14]⟩) (by kernel_rfl) ?_
                refine goK hT 4 (K12 111110 19) ⟨51, [(1, .ptr 1 0 0 0), (3, .d .np), (39, .b ((((v14.getD 0 api_Span.z).Lo) == 5) && (((v14.getD 0 api_Span.z).Hi) == 6)))], [eR42 ([(⟨5, 7⟩ : api_Pair)] : List api_Pair), eB91 v2, eR42 ([(⟨5, 8⟩ : api_Pair)] : List api_Pair), eR44 v14]⟩ ?_
                by_cases c35 : ((v14.getD 0 api_Span.z).Lo) = 5
                · replace H := iT c35 H
                  rw [eqT c35]
                  by_cases c36 : ((v14.getD 0 api_Span.z).Hi) = 6
                  · replace H := iT c36 H
                    rw [eqT c36]
                    refine goK hT 1 (K12 111110 20) ⟨51, [(3, .d .np), (39, .b true), (40, .ptr 1 0 0 0)], [eR42 ([(⟨5, 7⟩ : api_Pair)] : List api_Pair), eB91 v2, eR42 ([(⟨5, 8⟩ : api_Pair)] : List api_Pair), eR44 v14]⟩ ?_
                    refine ak_callP (avs := [.ptr 1 0 0 0]) (dst := some 41) (k' := (K12 111110 21)) [3, 39, 41] [1] hP enters_18 (merkle_Tree_Root.says v2) (by kernel_rfl) (hands_one rfl rfl) (.cons (.same (.ptr 0 0 0 0)) .nil) (st' := ⟨51, [(3, .d .np), (39, .b true), (41, .n .u32 (merkle_Tree_Root v2))], [eR42 ([(⟨5, 7⟩ : api_Pair)] : List api_Pair), eB91 v2, eR42 ([(⟨5, 8⟩ : api_Pair)] : List api_Pair), eR44 v14]⟩) (by kernel_rfl) ?_
                    refine goK hT 1 (K12 111110 22) ⟨51, [(39, .b true), (41, .n .u32 (merkle_Tree_Root v2)), (42, .d .np)], [eR42 ([(⟨5, 7⟩ : api_Pair)] : List api_Pair), eB91 v2, eR42 ([(⟨5, 8⟩ : api_Pair)] : List api_Pair), eR44 v14]⟩ ?_
                    obtain ⟨v15, h37, H⟩ := ibC H
                    refine ak_callP (avs := [.d .np]) (dst := some 43) (k' := (K12 111110 23)) [39, 41, 43] [] hP enters_18 (merkle_Tree_Root_n0.says h37) (by kernel_rfl) (hands_none _) (.cons (pass_d _) .nil) (st' := ⟨51, [(39, .b true), (41, .n .u32 (merkle_Tree_Root v2)), (43, .n .u32 v15)], [eR42 ([(⟨5, 7⟩ : api_Pair)] : List api_Pair), eB91 v2, eR42 ([(⟨5, 8⟩ : api_Pair)] : List api_Pair), eR44 v14]⟩) (by kernel_rfl) ?_
                    refine goK hT 3 (K12 111110 26) ⟨51, [(46, .b ((merkle_Tree_Root v2) != v15))], [eR42 ([(⟨5, 7⟩ : api_Pair)] : List api_Pair), eB91 v2, eR42 ([(⟨5, 8⟩ : api_Pair)] : List api_Pair), eR44 v14]⟩ ?_
                    by_cases c38 : (merkle_Tree_Root v2) = v15
                    · replace H := iT c38 H
                      rw [neF c38]
                      refine goK hT 6 (K12 11111 1) ⟨51, [(0, .b false)], [eR42 ([(⟨5, 7⟩ : api_Pair)] : List api_Pair), eB91 v2, eR42 ([(⟨5, 8⟩ : api_Pair)] : List api_Pair), eR44 v14]⟩ ?_
                      refine cutK [] ⟨51, [(0, .b false)], []⟩ h0 ?_
                      exact Jj3 false H
                    · replace H := iF c38 H
                      rw [neT c38]
                      refine goK hT 1 (K12 111110 27) ⟨51, [(46, .b true), (47, .d (.agg [.i 0, .b false]))], [eR42 ([(⟨5, 7⟩ : api_Pair)] : List api_Pair), eB91 v2, eR42 ([(⟨5, 8⟩ : api_Pair)] : List api_Pair), eR44 v14]⟩ ?_
                      obtain ⟨v16, h39, H⟩ := ibC H
                      refine ak_callP (avs := [.d (.agg [.i 0, .b false])]) (dst := some 48) (k' := (K12 111110 28)) [46, 48] [] hP enters_19 (merkle_Number.says (⟨0, false⟩ : api_Cell) h39) (by kernel_rfl) (hands_none _) (.cons (pass_d _) .nil) (st' := ⟨51, [(46, .b true), (48, .n .u32 v16)], [eR42 ([(⟨5, 7⟩ : api_Pair)] : List api_Pair), eB91 v2, eR42 ([(⟨5, 8⟩ : api_Pair)] : List api_Pair), eR44 v14]⟩) (by kernel_rfl) ?_
                      refine goK hT 4 (K12 11111 1) ⟨51, [(0, .b (v16 == 0))], [eR42 ([(⟨5, 7⟩ : api_Pair)] : List api_Pair), eB91 v2, eR42 ([(⟨5, 8⟩ : api_Pair)] : List api_Pair), eR44 v14]⟩ ?_
                      refine cutK [] ⟨51, [(0, .b (v16 == 0))], []⟩ h0 ?_
                      exact Jj3 (v16 == 0) H
                  · replace H := iF c36 H
                    rw [eqF c36]
                    refine goK hT 13 (K12 11111 1) ⟨51, [(0, .b false)], [eR42 ([(⟨5, 7⟩ : api_Pair)] : List api_Pair), eB91 v2, eR42 ([(⟨5, 8⟩ : api_Pair)] : List api_Pair), eR44 v14]⟩ ?_
                    refine cutK [] ⟨51, [(0, .b false)], []⟩ h0 ?_
                    exact Jj3 false H
                · replace H := iF c35 H
                  rw [eqF c35]
                  by_cases c40 : ((v14.getD 0 api_Span.z).Hi) = 6
                  · replace H := iT c40 H
                    rw [eqT c40]
                    refine goK hT 13 (K12 11111 1) ⟨51, [(0, .b false)], [eR42 ([(⟨5, 7⟩ : api_Pair)] : List api_Pair), eB91 v2, eR42 ([(⟨5, 8⟩ : api_Pair)] : List api_Pair), eR44 v14]⟩ ?_
                    refine cutK [] ⟨51, [(0, .b false)], []⟩ h0 ?_
                    exact Jj3 false H
                  · replace H := iF c40 H
                    rw [eqF c40]
                    refine goK hT 13 (K12 11111 1) ⟨51, [(0, .b false)], [eR42 ([(⟨5, 7⟩ : api_Pair)] : List api_Pair), eB91 v2, eR42 ([(⟨5, 8⟩ : api_Pair)] : List api_Pair), eR44 v14]⟩ ?_
                    refine cutK [] ⟨51, [(0, .b false)], []⟩ h0 ?_
                    exact Jj3 false H
              · replace H := iF c33 H
                rw [eqF c33]
                refine goK hT 20 (K12 11111 1) ⟨51, [(0, .b false)], [eR42 ([(⟨5, 7⟩ : api_Pair)] : List api_Pair), eB91 v2, eR42 ([(⟨5, 8⟩ : api_Pair)] : List api_Pair), eR44 v14]⟩ ?_
                refine cutK [] ⟨51, [(0, .b false)], []⟩ h0 ?_
                exact Jj3 false H
            · replace H := iF c32 H
              rw [eqF c32]
              refine goK hT 25 (K12 11111 1) ⟨51, [(0, .b false)], [eR42 ([(⟨5, 7⟩ : api_Pair)] : List api_Pair), eB91 v2, eR42 ([(⟨5, 8⟩ : api_Pair)] : List api_Pair), eR44 v14]⟩ ?_
              refine cutK [] ⟨51, [(0, .b false)], []⟩ h0 ?_
              exact Jj3 false H
          · replace H := iF c31 H
            rw [eqF c31]
            refine goK hT 29 (K12 11111 1) ⟨51, [(0, .b false)], [eR42 ([(⟨5, 7⟩ : api_Pair)] : List api_Pair), eB91 v2, eR42 ([(⟨5, 8⟩ : api_Pair)] : List api_Pair), eR44 v14]⟩ ?_
            refine cutK [] ⟨51, [(0, .b false)], []⟩ h0 ?_
            exact Jj3 false H
      | some v13 =>
          rw [q29] at H
          replace H := ioptS H
          have Sq29 := merkle_New.says (t0 := false) ([(⟨5, 8⟩ : api_Pair)] : List api_Pair) h28
          rw [q29] at Sq29
          refine ak_callP (avs := [.own 2 2 0 (([(⟨5, 8⟩ : api_Pair)] : List api_Pair).length)]) (dst := some 15) (k' := (K12 1110 3)) [1, 2, 15] [] hP enters_10 (Sq29) (by kernel_rfl) (hands_none _) (.cons (.lend (ty := 42) (by kernel_rfl) rfl) .nil) (st' := ⟨51, [(1, .ptr 1 0 0 0), (2, .i v1.2), (15, .tup [.ptr 3 0 0 0, .i v12.2])], [eR42 ([(⟨5, 7⟩ : api_Pair)] : List api_Pair), eB91 v2, eR42 ([(⟨5, 8⟩ : api_Pair)] : List api_Pair), eB91 v13]⟩) (by kernel_rfl) ?_
          refine goK hT 10 (K12 11110 2) ⟨51, [(1, .ptr 1 0 0 0), (2, .i v1.2), (3, .ptr 3 0 0 0), (4, .i v12.2), (18, .ptr 1 0 0 0), (19, .ptr 3 0 0 0)], [eR42 ([(⟨5, 7⟩ : api_Pair)] : List api_Pair), eB91 v2, eR42 ([(⟨5, 8⟩ : api_Pair)] : List api_Pair), eB91 v13]⟩ ?_
          obtain ⟨v17, h41, H⟩ := ibC H
          have Jj4 : ∀ (y4_0 : Bool), (splicelaw20_awake.j4 y4_0) = some r → AK X 12 ((K12 11111 1)) (Back X [] (.b r)) ⟨51, [(0, .b y4_0)], []⟩ := by
            intro y4_0 H
            obtain rfl := retC H
            exact ak_ret hf hX (av := .b y4_0) (by kernel_rfl) [] (sel_of_eq (by kernel_rfl)) (by decide) (by rw [h0]; rfl) (by kernel_rfl) (fun _ h => all_nil h) (.d (.v _))
          refine ak_callP (avs := [.ptr 1 0 0 0, .ptr 3 0 0 0]) (dst := some 20) (k' := (K12 11110 3)) [1, 2, 3, 4, 20] [1, 3] hP enters_14 (merkle_Diff.says v2 v13 h41) (by kernel_rfl) (hands_two rfl rfl rfl rfl (by decide)) (.cons (.same (.ptr 0 0 0 0)) (.cons (.same (.ptr 1 0 0 0)) .nil)) (st' := ⟨51, [(1, .ptr 1 0 0 0), (2, .i v1.2), (3, .ptr 3 0 0 0), (4, .i v12.2), (20, .own 4 2 0 v17.length)], [eR42 ([(⟨5, 7⟩ : api_Pair)] : List api_Pair), eB91 v2, eR42 ([(⟨5, 8⟩ : api_Pair)] : List api_Pair), eB91 v13, eR44 v17]⟩) (by kernel_rfl) ?_
          refine goK hT 7 (K12 111110 3) ⟨51, [(1, .ptr 1 0 0 0), (3, .ptr 3 0 0 0), (4, .i v12.2), (5, .own 4 2 0 v17.length), (23, .b (v1.2 == 0))], [eR42 ([(⟨5, 7⟩ : api_Pair)] : List api_Pair), eB91 v2, eR42 ([(⟨5, 8⟩ : api_Pair)] : List api_Pair), eB91 v13, eR44 v17]⟩ ?_
          by_cases c42 : v1.2 = 0
          · replace H := iT c42 H
            rw [eqT c42]
            refine goK hT 4 (K12 111110 7) ⟨51, [(1, .ptr 1 0 0 0), (3, .ptr 3 0 0 0), (5, .own 4 2 0 v17.length), (27, .b (v12.2 == 0))], [eR42 ([(⟨5, 7⟩ : api_Pair)] : List api_Pair), eB91 v2, eR42 ([(⟨5, 8⟩ : api_Pair)] : List api_Pair), eB91 v13, eR44 v17]⟩ ?_
            by_cases c43 : v12.2 = 0
            · replace H := iT c43 H
              rw [eqT c43]
              refine goK hT 5 (K12 111110 12) ⟨51, [(1, .ptr 1 0 0 0), (3, .ptr 3 0 0 0), (5, .own 4 2 0 v17.length), (32, .b ((v17.length : Int) == 1))], [eR42 ([(⟨5, 7⟩ : api_Pair)] : List api_Pair), eB91 v2, eR42 ([(⟨5, 8⟩ : api_Pair)] : List api_Pair), eB91 v13, eR44 v17]⟩ ?_
              by_cases c44 : (v17.length : Int) = 1
              · replace H := iT c44 H
                rw [eqT c44]
                refine goK hT 1 (K12 111110 13) ⟨51, [(1, .ptr 1 0 0 0), (3, .ptr 3 0 0 0), (32, .b true), (33, .own 4 2 0 v17.length)], [eR42 ([(⟨5, 7⟩ : api_Pair)] : List api_Pair), eB91 v2, eR42 ([(⟨5, 8⟩ : api_Pair)] : List api_Pair), eB91 v13, eR44 v17]⟩ ?_
                obtain ⟨h45, H⟩ := iC H
                refine ak_idx hT [1, 3, 32, 34] (i := 0) (n := (v17.length : Int)) h45.1 h45.2 (k' := (K12 111110 14)) (st' := ⟨51, [(1, .ptr 1 0 0 0), (3, .ptr 3 0 0 0), (32, .b true), (34, .ptr 4 2 0 0)], [eR42 ([(⟨5, 7⟩ : api_Pair)] : List api_Pair), eB91 v2, eR42 ([(⟨5, 8⟩ : api_Pair)] : List api_Pair), eB91 v13, eR44 v17]⟩) (by kernel_rfl) ?_
                refine ak_ld hT [1, 3, 32, 35] (i := 0) (n := v17.length) (by omega) (k' := (K12 111110 15)) (st' := ⟨51, [(1, .ptr 1 0 0 0), (3, .ptr 3 0 0 0), (32, .b true), (35, .d (eG44 (v17.getD 0 api_Span.z)))], [eR42 ([(⟨5, 7⟩ : api_Pair)] : List api_Pair), eB91 v2, eR42 ([(⟨5, 8⟩ : api_Pair)] : List api_Pair), eB91 v13, eR44 v17]⟩) (by kernel_rfl) ?_
                refine goK hT 4 (K12 111110 19) ⟨51, [(1, .ptr 1 0 0 0), (3, .ptr 3 0 0 0), (39, .b ((((v17.getD 0 api_Span.z).Lo) == 5) && (((v17.getD 0 api_Span.z).Hi) == 6)))], [eR42 ([(⟨5, 7⟩ : api_Pair)] : List api_Pair), eB91 v2, eR42 ([(⟨5, 8⟩ : api_Pair)] : List api_Pair), eB91 v13, eR44 v17]⟩ ?_
                by_cases c46 : ((v17.getD 0 api_Span.z).Lo) = 5
                · replace H := iT c46 H
                  rw [eqT c46]
                  by_cases c47 : ((v17.getD 0 api_Span.z).Hi) = 6
                  · replace H := iT c47 H
                    rw [eqT c47]
                    refine goK hT 1 (K12 111110 20) ⟨51, [(3, .ptr 3 0 0 0), (39, .b true), (40, .ptr 1 0 0 0)], [eR42 ([(⟨5, 7⟩ : api_Pair)] : List api_Pair), eB91 v2, eR42 ([(⟨5, 8⟩ : api_Pair)] : List api_Pair), eB91 v13, eR44 v17]⟩ ?_
                    refine ak_callP (avs := [.ptr 1 0 0 0]) (dst := some 41) (k' := (K12 111110 21)) [3, 39, 41] [1] hP enters_18 (merkle_Tree_Root.says v2) (by kernel_rfl) (hands_one rfl rfl) (.cons (.same (.ptr 0 0 0 0)) .nil) (st' := ⟨51, [(3, .ptr 3 0 0 0), (39, .b true), (41, .n .u32 (merkle_Tree_Root v2))], [eR42 ([(⟨5, 7⟩ : api_Pair)] : List api_Pair), eB91 v2, eR42 ([(⟨5, 8⟩ : api_Pair)] : List api_Pair), eB91 v13, eR44 v17]⟩) (by kernel_rfl) ?_
                    refine goK hT 1 (K12 111110 22) ⟨51, [(39, .b true), (41, .n .u32 (merkle_Tree_Root v2)), (42, .ptr 3 0 0 0)], [eR42 ([(⟨5, 7⟩ : api_Pair)] : List api_Pair), eB91 v2, eR42 ([(⟨5, 8⟩ : api_Pair)] : List api_Pair), eB91 v13, eR44 v17]⟩ ?_
                    refine ak_callP (avs := [.ptr 3 0 0 0]) (dst := some 43) (k' := (K12 111110 23)) [39, 41, 43] [3] hP enters_18 (merkle_Tree_Root.says v13) (by kernel_rfl) (hands_one rfl rfl) (.cons (.same (.ptr 0 0 0 0)) .nil) (st' := ⟨51, [(39, .b true), (41, .n .u32 (merkle_Tree_Root v2)), (43, .n .u32 (merkle_Tree_Root v13))], [eR42 ([(⟨5, 7⟩ : api_Pair)] : List api_Pair), eB91 v2, eR42 ([(⟨5, 8⟩ : api_Pair)] : List api_Pair), eB91 v13, eR44 v17]⟩) (by kernel_rfl) ?_
                    refine goK hT 3 (K12 111110 26) ⟨51, [(46, .b ((merkle_Tree_Root v2) != (merkle_Tree_Root v13)))], [eR42 ([(⟨5, 7⟩ : api_Pair)] : List api_Pair), eB91 v2, eR42 ([(⟨5, 8⟩ : api_Pair)] : List api_Pair), eB91 v13, eR44 v17]⟩ ?_
                    by_cases c48 : (merkle_Tree_Root v2) = (merkle_Tree_Root v13)
                    · replace H := iT c48 H
                      rw [neF c48]
                      refine goK hT 6 (K12 11111 1) ⟨51, [(0, .b false)], [eR42 ([(⟨5, 7⟩ : api_Pair)] : List api_Pair), eB91 v2, eR42 ([(⟨5, 8⟩ : api_Pair)] : List api_Pair), eB91 v13, eR44 v17]⟩ ?_
                      refine cutK [] ⟨51, [(0, .b false)], []⟩ h0 ?_
                      exact Jj4 false H
                    · replace H := iF c48 H
                      rw [neT c48]
                      refine goK hT 1 (K12 111110 27) ⟨51, [(46, .b true), (47, .d (.agg [.i 0, .b false]))], [eR42 ([(⟨5, 7⟩ : api_Pair)] : List api_Pair), eB91 v2, eR42 ([(⟨5, 8⟩ : api_Pair)] : List api_Pair), eB91 v13, eR44 v17]⟩ ?_
                      obtain ⟨v18, h49, H⟩ := ibC H
                      refine ak_callP (avs := [.d (.agg [.i 0, .b false])]) (dst := some 48) (k' := (K12 111110 28)) [46, 48] [] hP enters_19 (merkle_Number.says (⟨0, false⟩ : api_Cell) h49) (by kernel_rfl) (hands_none _) (.cons (pass_d _) .nil) (st' := ⟨51, [(46, .b true), (48, .n .u32 v18)], [eR42 ([(⟨5, 7⟩ : api_Pair)] : List api_Pair), eB91 v2, eR42 ([(⟨5, 8⟩ : api_Pair)] : List api_Pair), eB91 v13, eR44 v17]⟩) (by kernel_rfl) ?_
                      refine goK hT 4 (K12 11111 1) ⟨51, [(0, .b (v18 == 0))], [eR42 ([(⟨5, 7⟩ : api_Pair)] : List api_Pair), eB91 v2, eR42 ([(⟨5, 8⟩ : api_Pair)] : List api_Pair), eB91 v13, eR44 v17]⟩ ?_
                      refine cutK [] ⟨51, [(0, .b (v18 == 0))], []⟩ h0 ?_
                      exact Jj4 (v18 == 0) H
                  · replace H := iF c47 H
                    rw [eqF c47]
                    refine goK hT 13 (K12 11111 1) ⟨51, [(0, .b false)], [eR42 ([(⟨5, 7⟩ : api_Pair)] : List api_Pair), eB91 v2, eR42 ([(⟨5, 8⟩ : api_Pair)] : List api_Pair), eB91 v13, eR44 v17]⟩ ?_
                    refine cutK [] ⟨51, [(0, .b false)], []⟩ h0 ?_
                    exact Jj4 false H
                · replace H := iF c46 H
                  rw [eqF c46]
                  by_cases c50 : ((v17.getD 0 api_Span.z).Hi) = 6
                  · replace H := iT c50 H
                    rw [eqT c50]
                    refine goK hT 13 (K12 11111 1) ⟨51, [(0, .b false)], [eR42 ([(⟨5, 7⟩ : api_Pair)] : List api_Pair), eB91 v2, eR42 ([(⟨5, 8⟩ : api_Pair)] : List api_Pair), eB91 v13, eR44 v17]⟩ ?_
                    refine cutK [] ⟨51, [(0, .b false)], []⟩ h0 ?_
                    exact Jj4 false H
                  · replace H := iF c50 H
                    rw [eqF c50]
                    refine goK hT 13 (K12 11111 1) ⟨51, [(0, .b false)], [eR42 ([(⟨5, 7⟩ : api_Pair)] : List api_Pair), eB91 v2, eR42 ([(⟨5, 8⟩ : api_Pair)] : List api_Pair), eB91 v13, eR44 v17]⟩ ?_
                    refine cutK [] ⟨51, [(0, .b false)], []⟩ h0 ?_
                    exact Jj4 false H
              · replace H := iF c44 H
                rw [eqF c44]
                refine goK hT 20 (K12 11111 1) ⟨51, [(0, .b false)], [eR42 ([(⟨5, 7⟩ : api_Pair)] : List api_Pair), eB91 v2, eR42 ([(⟨5, 8⟩ : api_Pair)] : List api_Pair), eB91 v13, eR44 v17]⟩ ?_
                refine cutK [] ⟨51, [(0, .b false)], []⟩ h0 ?_
                exact Jj4 false H
            · replace H := iF c43 H
              rw [eqF c43]
              refine goK hT 25 (K12 11111 1) ⟨51, [(0, .b false)], [eR42 ([(⟨5, 7⟩ : api_Pair)] : List api_Pair), eB91 v2, eR42 ([(⟨5, 8⟩ : api_Pair)] : List api_Pair), eB91 v13, eR44 v17]⟩ ?_
              refine cutK [] ⟨51, [(0, .b false)], []⟩ h0 ?_
              exact Jj4 false H
          · replace H := iF c42 H
            rw [eqF c42]
            refine goK hT 29 (K12 11111 1) ⟨51, [(0, .b false)], [eR42 ([(⟨5, 7⟩ : api_Pair)] : List api_Pair), eB91 v2, eR42 ([(⟨5, 8⟩ : api_Pair)] : List api_Pair), eB91 v13, eR44 v17]⟩ ?_
            refine cutK [] ⟨51, [(0, .b false)], []⟩ h0 ?_
            exact Jj4 false H


theorem merkle_isKey.says (a0 : Int) : Says Try.prog 43 [] [.i a0] [] (.b (merkle_isKey a0)) := by
  obtain ⟨r, H⟩ : ∃ r, merkle_isKey a0 = r := ⟨_, rfl⟩
  rw [H]
  refine says_of Try.func43 rfl (nt := 9) rfl (Nat.le_of_ble_eq_true rfl) fun X hP h0 hX => ?_
  have hT : TabOk X.P T := hP ▸ tok
  have hf : X.P.funcs[43]? = some Try.f43 := hP ▸ Try.func43
  have Jj1 : ∀ (y1_2 : Bool), (merkle_isKey.j1 y1_2) = r → AK X 43 ((K43 11 1)) (Back X [] (.b r)) ⟨9, [(2, .b y1_2)], []⟩ := by
    intro y1_2 H
    obtain rfl := H
    exact ak_ret hf hX (av := .b y1_2) (by kernel_rfl) [] (sel_of_eq (by kernel_rfl)) (by decide) (by rw [h0]; rfl) (by kernel_rfl) (fun _ h => all_nil h) (.d (.v _))
  refine goK hT 9 (K43 110 3) ⟨9, [(0, .i a0), (5, .b (decide (a0 ≥ 0)))], []⟩ ?_
  by_cases c1 : a0 ≥ 0
  · replace H := iT c1 H
    rw [decide_eq_true c1]
    refine goK hT 5 (K43 11 1) ⟨9, [(2, .b (decide (a0 < 4096)))], []⟩ ?_
    refine cutK [] ⟨9, [(2, .b (decide (a0 < 4096)))], []⟩ h0 ?_
    exact Jj1 (decide (a0 < 4096)) H
  · replace H := iF c1 H
    rw [decide_eq_false c1]
    refine goK hT 5 (K43 11 1) ⟨9, [(2, .b false)], []⟩ ?_
    refine cutK [] ⟨9, [(2, .b false)], []⟩ h0 ?_
    exact Jj1 false H


theorem merkle_Tree_kids.says0 (a0 : merkle_Tree) (a1 : Int) (a2 : Int) (c1 : a1 = 0) (h2 : 0 ≤ (IntKind.wrap .i64 ((IntKind.wrap .i64 (Int.tdiv a2 16)) * 16)) ∧ (IntKind.wrap .i64 ((IntKind.wrap .i64 (Int.tdiv a2 16)) * 16)) ≤ (IntKind.wrap .i64 ((IntKind.wrap .i64 ((IntKind.wrap .i64 (Int.tdiv a2 16)) + 1)) * 16)) ∧ (IntKind.wrap .i64 ((IntKind.wrap .i64 ((IntKind.wrap .i64 (Int.tdiv a2 16)) + 1)) * 16)) ≤ 4096 ∧ (IntKind.wrap .i64 ((IntKind.wrap .i64 (Int.tdiv a2 16)) * 16)) < 4096) : Says Try.prog 45 [eB91 a0] [.ptr 0 0 0 0, .i a1, .i a2] [eB91 a0] (.win 0 (8192 + (IntKind.wrap .i64 ((IntKind.wrap .i64 (Int.tdiv a2 16)) * 16)).toNat) ((IntKind.wrap .i64 ((IntKind.wrap .i64 ((IntKind.wrap .i64 (Int.tdiv a2 16)) + 1)) * 16)).toNat - (IntKind.wrap .i64 ((IntKind.wrap .i64 (Int.tdiv a2 16)) * 16)).toNat)) := by
  refine says_of Try.func45 rfl (nt := 41) rfl (Nat.le_of_ble_eq_true rfl) fun X hP h0 hX => ?_
  have hT : TabOk X.P T := hP ▸ tok
  have hf : X.P.funcs[45]? = some Try.f45 := hP ▸ Try.func45
  refine goK hT 15 (K45 11010 1) ⟨41, [(0, .ptr 0 0 0 0), (2, .i a2), (9, .i a1), (10, .b (a1 == 0))], [eB91 a0]⟩ ?_
  rw [eqT c1]
  refine goK hT 17 (K45 110101010 8) ⟨41, [(16, .ptr 0 0 0 8192), (18, .i (IntKind.wrap .i64 ((IntKind.wrap .i64 (Int.tdiv a2 16)) * 16))), (21, .i (IntKind.wrap .i64 ((IntKind.wrap .i64 ((IntKind.wrap .i64 (Int.tdiv a2 16)) + 1)) * 16)))], [eB91 a0]⟩ ?_
  refine ak_win hT [22] (id := 0) (A := 0 * 0 + 8192) (len := 4096) (m := ((IntKind.wrap .i64 ((IntKind.wrap .i64 ((IntKind.wrap .i64 (Int.tdiv a2 16)) + 1)) * 16)).toNat - (IntKind.wrap .i64 ((IntKind.wrap .i64 (Int.tdiv a2 16)) * 16)).toNat)) (q := (8192 + (IntKind.wrap .i64 ((IntKind.wrap .i64 (Int.tdiv a2 16)) * 16)).toNat)) (l := (some (.i64, (IntKind.wrap .i64 ((IntKind.wrap .i64 (Int.tdiv a2 16)) * 16))))) (h := (some (.i64, (IntKind.wrap .i64 ((IntKind.wrap .i64 ((IntKind.wrap .i64 (Int.tdiv a2 16)) + 1)) * 16))))) (dst := some 22) (by kernel_rfl) h2.1 h2.2.1 h2.2.2.1 h2.2.2.2 rfl (by show (8192 + (IntKind.wrap .i64 ((IntKind.wrap .i64 (Int.tdiv a2 16)) * 16)).toNat) = 0 * 0 + 8192 + _; first | rfl | omega) (k' := (K45 110101010 9)) (st' := ⟨41, [(22, .win 0 (8192 + (IntKind.wrap .i64 ((IntKind.wrap .i64 (Int.tdiv a2 16)) * 16)).toNat) ((IntKind.wrap .i64 ((IntKind.wrap .i64 ((IntKind.wrap .i64 (Int.tdiv a2 16)) + 1)) * 16)).toNat - (IntKind.wrap .i64 ((IntKind.wrap .i64 (Int.tdiv a2 16)) * 16)).toNat))], [eB91 a0]⟩) (by kernel_rfl) ?_
  refine goK hT 2 (K45 11010101 1) ⟨41, [(6, .win 0 (8192 + (IntKind.wrap .i64 ((IntKind.wrap .i64 (Int.tdiv a2 16)) * 16)).toNat) ((IntKind.wrap .i64 ((IntKind.wrap .i64 ((IntKind.wrap .i64 (Int.tdiv a2 16)) + 1)) * 16)).toNat - (IntKind.wrap .i64 ((IntKind.wrap .i64 (Int.tdiv a2 16)) * 16)).toNat))], [eB91 a0]⟩ ?_
  exact ak_ret hf hX (av := .win 0 (8192 + (IntKind.wrap .i64 ((IntKind.wrap .i64 (Int.tdiv a2 16)) * 16)).toNat) ((IntKind.wrap .i64 ((IntKind.wrap .i64 ((IntKind.wrap .i64 (Int.tdiv a2 16)) + 1)) * 16)).toNat - (IntKind.wrap .i64 ((IntKind.wrap .i64 (Int.tdiv a2 16)) * 16)).toNat)) (by kernel_rfl) [0] (sel_of_eq (by kernel_rfl)) (by decide) (by rw [h0]; rfl) (by kernel_rfl) (fun _ h => all_cons (.flat fun _ _ => merkle_Tree.gnl _ _) (fun _ h => all_nil h) h) (.win _ _ _)


theorem merkle_Tree_kids.says1 (a0 : merkle_Tree) (a1 : Int) (a2 : Int) (c1 : ¬ (a1 = 0)) (c3 : a1 = 1) (h4 : 0 ≤ (IntKind.wrap .i64 ((IntKind.wrap .i64 (Int.tdiv (IntKind.wrap .i64 (Int.tdiv a2 16)) 16)) * 16)) ∧ (IntKind.wrap .i64 ((IntKind.wrap .i64 (Int.tdiv (IntKind.wrap .i64 (Int.tdiv a2 16)) 16)) * 16)) ≤ (IntKind.wrap .i64 ((IntKind.wrap .i64 ((IntKind.wrap .i64 (Int.tdiv (IntKind.wrap .i64 (Int.tdiv a2 16)) 16)) + 1)) * 16)) ∧ (IntKind.wrap .i64 ((IntKind.wrap .i64 ((IntKind.wrap .i64 (Int.tdiv (IntKind.wrap .i64 (Int.tdiv a2 16)) 16)) + 1)) * 16)) ≤ 256 ∧ (IntKind.wrap .i64 ((IntKind.wrap .i64 (Int.tdiv (IntKind.wrap .i64 (Int.tdiv a2 16)) 16)) * 16)) < 256) : Says Try.prog 45 [eB91 a0] [.ptr 0 0 0 0, .i a1, .i a2] [eB91 a0] (.win 0 (12288 + (IntKind.wrap .i64 ((IntKind.wrap .i64 (Int.tdiv (IntKind.wrap .i64 (Int.tdiv a2 16)) 16)) * 16)).toNat) ((IntKind.wrap .i64 ((IntKind.wrap .i64 ((IntKind.wrap .i64 (Int.tdiv (IntKind.wrap .i64 (Int.tdiv a2 16)) 16)) + 1)) * 16)).toNat - (IntKind.wrap .i64 ((IntKind.wrap .i64 (Int.tdiv (IntKind.wrap .i64 (Int.tdiv a2 16)) 16)) * 16)).toNat)) := by
  refine says_of Try.func45 rfl (nt := 41) rfl (Nat.le_of_ble_eq_true rfl) fun X hP h0 hX => ?_
  have hT : TabOk X.P T := hP ▸ tok
  have hf : X.P.funcs[45]? = some Try.f45 := hP ▸ Try.func45
  refine goK hT 15 (K45 11010 1) ⟨41, [(0, .ptr 0 0 0 0), (2, .i a2), (9, .i a1), (10, .b (a1 == 0))], [eB91 a0]⟩ ?_
  rw [eqF c1]
  refine goK hT 6 (K45 1101011 1) ⟨41, [(0, .ptr 0 0 0 0), (2, .i a2), (23, .b (a1 == 1))], [eB91 a0]⟩ ?_
  rw [eqT c3]
  refine goK hT 18 (K45 11010111010 8) ⟨41, [(30, .ptr 0 0 0 12288), (32, .i (IntKind.wrap .i64 ((IntKind.wrap .i64 (Int.tdiv (IntKind.wrap .i64 (Int.tdiv a2 16)) 16)) * 16))), (35, .i (IntKind.wrap .i64 ((IntKind.wrap .i64 ((IntKind.wrap .i64 (Int.tdiv (IntKind.wrap .i64 (Int.tdiv a2 16)) 16)) + 1)) * 16)))], [eB91 a0]⟩ ?_
  refine ak_win hT [36] (id := 0) (A := 0 * 0 + 12288) (len := 256) (m := ((IntKind.wrap .i64 ((IntKind.wrap .i64 ((IntKind.wrap .i64 (Int.tdiv (IntKind.wrap .i64 (Int.tdiv a2 16)) 16)) + 1)) * 16)).toNat - (IntKind.wrap .i64 ((IntKind.wrap .i64 (Int.tdiv (IntKind.wrap .i64 (Int.tdiv a2 16)) 16)) * 16)).toNat)) (q := (12288 + (IntKind.wrap .i64 ((IntKind.wrap .i64 (Int.tdiv (IntKind.wrap .i64 (Int.tdiv a2 16)) 16)) * 16)).toNat)) (l := (some (.i64, (IntKind.wrap .i64 ((IntKind.wrap .i64 (Int.tdiv (IntKind.wrap .i64 (Int.tdiv a2 16)) 16)) * 16))))) (h := (some (.i64, (IntKind.wrap .i64 ((IntKind.wrap .i64 ((IntKind.wrap .i64 (Int.tdiv (IntKind.wrap .i64 (Int.tdiv a2 16)) 16)) + 1)) * 16))))) (dst := some 36) (by kernel_rfl) h4.1 h4.2.1 h4.2.2.1 h4.2.2.2 rfl (by show (12288 + (IntKind.wrap .i64 ((IntKind.wrap .i64 (Int.tdiv (IntKind.wrap .i64 (Int.tdiv a2 16)) 16)) * 16)).toNat) = 0 * 0 + 12288 + _; first | rfl | omega) (k' := (K45 11010111010 9)) (st' := ⟨41, [(36, .win 0 (12288 + (IntKind.wrap .i64 ((IntKind.wrap .i64 (Int.tdiv (IntKind.wrap .i64 (Int.tdiv a2 16)) 16)) * 16)).toNat) ((IntKind.wrap .i64 ((IntKind.wrap .i64 ((IntKind.wrap .i64 (Int.tdiv (IntKind.wrap .i64 (Int.tdiv a2 16)) 16)) + 1)) * 16)).toNat - (IntKind.wrap .i64 ((IntKind.wrap .i64 (Int.tdiv (IntKind.wrap .i64 (Int.tdiv a2 16)) 16)) * 16)).toNat))], [eB91 a0]⟩) (by kernel_rfl) ?_
  refine goK hT 2 (K45 1101011101 1) ⟨41, [(6, .win 0 (12288 + (IntKind.wrap .i64 ((IntKind.wrap .i64 (Int.tdiv (IntKind.wrap .i64 (Int.tdiv a2 16)) 16)) * 16)).toNat) ((IntKind.wrap .i64 ((IntKind.wrap .i64 ((IntKind.wrap .i64 (Int.tdiv (IntKind.wrap .i64 (Int.tdiv a2 16)) 16)) + 1)) * 16)).toNat - (IntKind.wrap .i64 ((IntKind.wrap .i64 (Int.tdiv (IntKind.wrap .i64 (Int.tdiv a2 16)) 16)) * 16)).toNat))], [eB91 a0]⟩ ?_
  exact ak_ret hf hX (av := .win 0 (12288 + (IntKind.wrap .i64 ((IntKind.wrap .i64 (Int.tdiv (IntKind.wrap .i64 (Int.tdiv a2 16)) 16)) * 16)).toNat) ((IntKind.wrap .i64 ((IntKind.wrap .i64 ((IntKind.wrap .i64 (Int.tdiv (IntKind.wrap .i64 (Int.tdiv a2 16)) 16)) + 1)) * 16)).toNat - (IntKind.wrap .i64 ((IntKind.wrap .i64 (Int.tdiv (IntKind.wrap .i64 (Int.tdiv a2 16)) 16)) * 16)).toNat)) (by kernel_rfl) [0] (sel_of_eq (by kernel_rfl)) (by decide) (by rw [h0]; rfl) (by kernel_rfl) (fun _ h => all_cons (.flat fun _ _ => merkle_Tree.gnl _ _) (fun _ h => all_nil h) h) (.win _ _ _)


theorem merkle_Tree_kids.says2 (a0 : merkle_Tree) (a1 : Int) (a2 : Int) (c1 : ¬ (a1 = 0)) (c3 : ¬ (a1 = 1)) : Says Try.prog 45 [eB91 a0] [.ptr 0 0 0 0, .i a1, .i a2] [eB91 a0] (.win 0 12544 16) := by
  refine says_of Try.func45 rfl (nt := 41) rfl (Nat.le_of_ble_eq_true rfl) fun X hP h0 hX => ?_
  have hT : TabOk X.P T := hP ▸ tok
  have hf : X.P.funcs[45]? = some Try.f45 := hP ▸ Try.func45
  refine goK hT 15 (K45 11010 1) ⟨41, [(0, .ptr 0 0 0 0), (2, .i a2), (9, .i a1), (10, .b (a1 == 0))], [eB91 a0]⟩ ?_
  rw [eqF c1]
  refine goK hT 6 (K45 1101011 1) ⟨41, [(0, .ptr 0 0 0 0), (2, .i a2), (23, .b (a1 == 1))], [eB91 a0]⟩ ?_
  rw [eqF c3]
  refine goK hT 3 (K45 11 1) ⟨41, [(0, .ptr 0 0 0 0)], [eB91 a0]⟩ ?_
  refine goK hT 5 (K45 1110 3) ⟨41, [(39, .ptr 0 0 0 12544)], [eB91 a0]⟩ ?_
  refine ak_win hT [40] (id := 0) (A := 0 * 0 + 12544) (len := 16) (m := 16) (q := 12544) (l := none) (h := none) (dst := some 40) (by kernel_rfl) (by decide) (by decide) (by decide) (by decide) rfl (by show 12544 = 0 * 0 + 12544 + _; first | rfl | omega) (k' := (K45 1110 4)) (st' := ⟨41, [(40, .win 0 12544 16)], [eB91 a0]⟩) (by kernel_rfl) ?_
  refine goK hT 2 (K45 111 1) ⟨41, [(6, .win 0 12544 16)], [eB91 a0]⟩ ?_
  exact ak_ret hf hX (av := .win 0 12544 16) (by kernel_rfl) [0] (sel_of_eq (by kernel_rfl)) (by decide) (by rw [h0]; rfl) (by kernel_rfl) (fun _ h => all_cons (.flat fun _ _ => merkle_Tree.gnl _ _) (fun _ h => all_nil h) h) (.win _ _ _)


theorem merkle_place.says (a0 : Int) (a1 : Int) {r : Int} (H : merkle_place a0 a1 = some r) : Says Try.prog 46 [] [.i a0, .i a1] [] (.i r) := by
  refine says_of Try.func46 rfl (nt := 13) rfl (Nat.le_of_ble_eq_true rfl) fun X hP h0 hX => ?_
  have hT : TabOk X.P T := hP ▸ tok
  have hf : X.P.funcs[46]? = some Try.f46 := hP ▸ Try.func46
  refine goK hT 12 (K46 11010 0) ⟨13, [(1, .i a1), (5, .i a0), (6, .i 0)], []⟩ ?_
  have L : ∀ n, (∀ (x1_1 : Int) (x1_6 : Int), iter (merkle_place.step a0) n (.l1 x1_1 x1_6) = some r → AK X 46 ((K46 11010 0)) (Back X [] (.i r)) ⟨13, [(1, .i x1_1), (5, .i a0), (6, .i x1_6)], []⟩) := by
    intro n
    induction n with
    | zero => exact fun _ _ H => iter0 H
    | succ n ih =>
      · intro x1_1 x1_6 H
        refine goK hT 5 (K46 1101001 0) ⟨13, [(1, .i x1_1), (5, .i a0), (6, .i x1_6), (7, .b (decide (x1_6 < a0)))], []⟩ ?_
        by_cases c1 : x1_6 < a0
        · replace H := sT c1 H
          rw [decide_eq_true c1]
          refine goK hT 2 (K46 1101001 1) ⟨13, [(1, .i x1_1), (5, .i a0), (6, .i x1_6)], []⟩ ?_
          refine goK hT 13 (K46 11010 0) ⟨13, [(1, .i (IntKind.wrap .i64 (Int.tdiv x1_1 16))), (5, .i a0), (6, .i (IntKind.wrap .i64 (x1_6 + 1)))], []⟩ ?_
          refine cutK [] ⟨13, [(1, .i (IntKind.wrap .i64 (Int.tdiv x1_1 16))), (5, .i a0), (6, .i (IntKind.wrap .i64 (x1_6 + 1)))], []⟩ h0 ?_
          exact ih (IntKind.wrap .i64 (Int.tdiv x1_1 16)) (IntKind.wrap .i64 (x1_6 + 1)) H
        · replace H := sF c1 H
          rw [decide_eq_false c1]
          refine goK hT 8 (K46 111 1) ⟨13, [(4, .i (Int.tmod x1_1 16))], []⟩ ?_
          obtain rfl := retC H
          exact ak_ret hf hX (av := .i (Int.tmod x1_1 16)) (by kernel_rfl) [] (sel_of_eq (by kernel_rfl)) (by decide) (by rw [h0]; rfl) (by kernel_rfl) (fun _ h => all_nil h) (.d (.v _))
  refine cutK [] ⟨13, [(1, .i a1), (5, .i a0), (6, .i 0)], []⟩ h0 ?_
  obtain ⟨n, H⟩ := loopC H
  exact (L n) a1 0 H


theorem merkle_Tree_Prove.says (a0 : merkle_Tree) (a1 : Int) {r : (List Int) × Int} (H : merkle_Tree_Prove a0 a1 = some r) : Says Try.prog 28 [eB91 a0] [.ptr 0 0 0 0, .i a1] [eB91 a0, eR37 r.1] (.tup [.own 1 1 0 r.1.length, .i r.2]) := by
  refine says_of Try.func28 rfl (nt := 42) rfl (Nat.le_of_ble_eq_true rfl) fun X hP h0 hX => ?_
  have hT : TabOk X.P T := hP ▸ tok
  have hf : X.P.funcs[28]? = some Try.f28 := hP ▸ Try.func28
  refine goK hT 12 (K28 1100 4) ⟨42, [(0, .ptr 0 0 0 0), (1, .i a1), (12, .b false), (13, .i a1)], [eB91 a0]⟩ ?_
  refine ak_callP (avs := [.i a1]) (dst := some 14) (k' := (K28 1100 5)) [0, 1, 12, 14] [] hP enters_43 (merkle_isKey.says a1) (by kernel_rfl) (hands_none _) (.cons (pass_d _) .nil) (st' := ⟨42, [(0, .ptr 0 0 0 0), (1, .i a1), (12, .b false), (14, .b (merkle_isKey a1))], [eB91 a0]⟩) (by kernel_rfl) ?_
  refine goK hT 3 (K28 110 1) ⟨42, [(0, .ptr 0 0 0 0), (1, .i a1), (16, .b (!(merkle_isKey a1)))], [eB91 a0]⟩ ?_
  by_cases c1 : (merkle_isKey a1) = true
  · replace H := iT c1 H
    rw [c1]
    refine goK hT 2 (K28 11 1) ⟨42, [(0, .ptr 0 0 0 0), (1, .i a1)], [eB91 a0]⟩ ?_
    refine goK hT 30 (K28 11110100110010 3) ⟨42, [(0, .ptr 0 0 0 0), (1, .i a1), (6, .ns), (7, .i 0), (17, .i 0), (20, .ptr 0 0 0 0), (21, .i 0), (22, .i a1)], [eB91 a0]⟩ ?_
    obtain ⟨h2, H⟩ := iC H
    refine ak_callP (avs := [.ptr 0 0 0 0, .i 0, .i a1]) (dst := some 23) (k' := (K28 11110100110010 4)) [0, 1, 6, 7, 17, 23] [0] hP enters_45 (merkle_Tree_kids.says0 a0 0 a1 (by decide) h2) (by kernel_rfl) (hands_one rfl rfl) (.cons (.same (.ptr 0 0 0 0)) (.cons (pass_d _) (.cons (pass_d _) .nil))) (st' := ⟨42, [(0, .ptr 0 0 0 0), (1, .i a1), (6, .ns), (7, .i 0), (17, .i 0), (23, .win 0 (8192 + (IntKind.wrap .i64 ((IntKind.wrap .i64 (Int.tdiv a1 16)) * 16)).toNat) ((IntKind.wrap .i64 ((IntKind.wrap .i64 ((IntKind.wrap .i64 (Int.tdiv a1 16)) + 1)) * 16)).toNat - (IntKind.wrap .i64 ((IntKind.wrap .i64 (Int.tdiv a1 16)) * 16)).toNat))], [eB91 a0]⟩) (by kernel_rfl) ?_
    refine goK hT 5 (K28 111101001100110 0) ⟨42, [(0, .ptr 0 0 0 0), (1, .i a1), (6, .ns), (7, .i 0), (17, .i 0), (23, .win 0 (8192 + (IntKind.wrap .i64 ((IntKind.wrap .i64 (Int.tdiv a1 16)) * 16)).toNat) ((IntKind.wrap .i64 ((IntKind.wrap .i64 ((IntKind.wrap .i64 (Int.tdiv a1 16)) + 1)) * 16)).toNat - (IntKind.wrap .i64 ((IntKind.wrap .i64 (Int.tdiv a1 16)) * 16)).toNat)), (24, .i ((((IntKind.wrap .i64 ((IntKind.wrap .i64 ((IntKind.wrap .i64 (Int.tdiv a1 16)) + 1)) * 16)).toNat - (IntKind.wrap .i64 ((IntKind.wrap .i64 (Int.tdiv a1 16)) * 16)).toNat) : Nat) : Int)), (25, .i 0)], [eB91 a0]⟩ ?_
    refine ak_nilS [0, 1, 6, 7, 17, 23, 24, 25] 6 1 37 (vec (eI .u32) 0 []) (st' := ⟨42, [(0, .ptr 0 0 0 0), (1, .i a1), (6, .own 1 1 0 0), (7, .i 0), (17, .i 0), (23, .win 0 (8192 + (IntKind.wrap .i64 ((IntKind.wrap .i64 (Int.tdiv a1 16)) * 16)).toNat) ((IntKind.wrap .i64 ((IntKind.wrap .i64 ((IntKind.wrap .i64 (Int.tdiv a1 16)) + 1)) * 16)).toNat - (IntKind.wrap .i64 ((IntKind.wrap .i64 (Int.tdiv a1 16)) * 16)).toNat)), (24, .i ((((IntKind.wrap .i64 ((IntKind.wrap .i64 ((IntKind.wrap .i64 (Int.tdiv a1 16)) + 1)) * 16)).toNat - (IntKind.wrap .i64 ((IntKind.wrap .i64 (Int.tdiv a1 16)) * 16)).toNat) : Nat) : Int)), (25, .i 0)], [eB91 a0, eR37 ([] : List Int)]⟩) (by kernel_rfl) (by kernel_rfl) ?_
    have L : ∀ n, (∀ (x1_25 : Int) (x1_r1 : List Int), iter (merkle_Tree_Prove.step a0 a1) n (.l1 x1_25 x1_r1) = some r → AK X 28 ((K28 111101001100110 0)) (Back X [eB91 a0, eR37 r.1] (.tup [.own 1 1 0 r.1.length, .i r.2])) ⟨42, [(0, .ptr 0 0 0 0), (1, .i a1), (6, .own 1 1 0 x1_r1.length), (7, .i 0), (17, .i 0), (23, .win 0 (8192 + (IntKind.wrap .i64 ((IntKind.wrap .i64 (Int.tdiv a1 16)) * 16)).toNat) ((IntKind.wrap .i64 ((IntKind.wrap .i64 ((IntKind.wrap .i64 (Int.tdiv a1 16)) + 1)) * 16)).toNat - (IntKind.wrap .i64 ((IntKind.wrap .i64 (Int.tdiv a1 16)) * 16)).toNat)), (24, .i ((((IntKind.wrap .i64 ((IntKind.wrap .i64 ((IntKind.wrap .i64 (Int.tdiv a1 16)) + 1)) * 16)).toNat - (IntKind.wrap .i64 ((IntKind.wrap .i64 (Int.tdiv a1 16)) * 16)).toNat) : Nat) : Int)), (25, .i x1_25)], [eB91 a0, eR37 x1_r1]⟩) ∧ (∀ (x2_25 : Int) (x2_r1 : List Int), iter (merkle_Tree_Prove.step a0 a1) n (.l2 x2_25 x2_r1) = some r → AK X 28 ((K28 111101001100110 0)) (Back X [eB91 a0, eR37 r.1] (.tup [.own 1 1 0 r.1.length, .i r.2])) ⟨42, [(0, .ptr 0 0 0 0), (1, .i a1), (6, .own 1 1 0 x2_r1.length), (7, .i 1), (17, .i 1), (23, .win 0 (12288 + (IntKind.wrap .i64 ((IntKind.wrap .i64 (Int.tdiv (IntKind.wrap .i64 (Int.tdiv a1 16)) 16)) * 16)).toNat) ((IntKind.wrap .i64 ((IntKind.wrap .i64 ((IntKind.wrap .i64 (Int.tdiv (IntKind.wrap .i64 (Int.tdiv a1 16)) 16)) + 1)) * 16)).toNat - (IntKind.wrap .i64 ((IntKind.wrap .i64 (Int.tdiv (IntKind.wrap .i64 (Int.tdiv a1 16)) 16)) * 16)).toNat)), (24, .i ((((IntKind.wrap .i64 ((IntKind.wrap .i64 ((IntKind.wrap .i64 (Int.tdiv (IntKind.wrap .i64 (Int.tdiv a1 16)) 16)) + 1)) * 16)).toNat - (IntKind.wrap .i64 ((IntKind.wrap .i64 (Int.tdiv (IntKind.wrap .i64 (Int.tdiv a1 16)) 16)) * 16)).toNat) : Nat) : Int)), (25, .i x2_25)], [eB91 a0, eR37 x2_r1]⟩) ∧ (∀ (x3_25 : Int) (x3_r1 : List Int), iter (merkle_Tree_Prove.step a0 a1) n (.l3 x3_25 x3_r1) = some r → AK X 28 ((K28 111101001100110 0)) (Back X [eB91 a0, eR37 r.1] (.tup [.own 1 1 0 r.1.length, .i r.2])) ⟨42, [(0, .ptr 0 0 0 0), (1, .i a1), (6, .own 1 1 0 x3_r1.length), (7, .i 2), (17, .i 2), (23, .win 0 12544 16), (24, .i 16), (25, .i x3_25)], [eB91 a0, eR37 x3_r1]⟩) := by
      intro n
      induction n with
      | zero => exact ⟨fun _ _ H => iter0 H, fun _ _ H => iter0 H, fun _ _ H => iter0 H⟩
      | succ n ih =>
        refine ⟨?_, ?_, ?_⟩
        · intro x1_25 x1_r1 H
          refine goK hT 5 (K28 11110100110011001 0) ⟨42, [(0, .ptr 0 0 0 0), (1, .i a1), (6, .own 1 1 0 x1_r1.length), (7, .i 0), (17, .i 0), (23, .win 0 (8192 + (IntKind.wrap .i64 ((IntKind.wrap .i64 (Int.tdiv a1 16)) * 16)).toNat) ((IntKind.wrap .i64 ((IntKind.wrap .i64 ((IntKind.wrap .i64 (Int.tdiv a1 16)) + 1)) * 16)).toNat - (IntKind.wrap .i64 ((IntKind.wrap .i64 (Int.tdiv a1 16)) * 16)).toNat)), (24, .i ((((IntKind.wrap .i64 ((IntKind.wrap .i64 ((IntKind.wrap .i64 (Int.tdiv a1 16)) + 1)) * 16)).toNat - (IntKind.wrap .i64 ((IntKind.wrap .i64 (Int.tdiv a1 16)) * 16)).toNat) : Nat) : Int)), (25, .i x1_25), (26, .b (decide (x1_25 < ((((IntKind.wrap .i64 ((IntKind.wrap .i64 ((IntKind.wrap .i64 (Int.tdiv a1 16)) + 1)) * 16)).toNat - (IntKind.wrap .i64 ((IntKind.wrap .i64 (Int.tdiv a1 16)) * 16)).toNat) : Nat) : Int))))], [eB91 a0, eR37 x1_r1]⟩ ?_
          by_cases c3 : x1_25 < ((((IntKind.wrap .i64 ((IntKind.wrap .i64 ((IntKind.wrap .i64 (Int.tdiv a1 16)) + 1)) * 16)).toNat - (IntKind.wrap .i64 ((IntKind.wrap .i64 (Int.tdiv a1 16)) * 16)).toNat) : Nat) : Int)
          · replace H := sT c3 H
            rw [decide_eq_true c3]
            refine goK hT 2 (K28 11110100110011001 1) ⟨42, [(0, .ptr 0 0 0 0), (1, .i a1), (6, .own 1 1 0 x1_r1.length), (7, .i 0), (17, .i 0), (23, .win 0 (8192 + (IntKind.wrap .i64 ((IntKind.wrap .i64 (Int.tdiv a1 16)) * 16)).toNat) ((IntKind.wrap .i64 ((IntKind.wrap .i64 ((IntKind.wrap .i64 (Int.tdiv a1 16)) + 1)) * 16)).toNat - (IntKind.wrap .i64 ((IntKind.wrap .i64 (Int.tdiv a1 16)) * 16)).toNat)), (24, .i ((((IntKind.wrap .i64 ((IntKind.wrap .i64 ((IntKind.wrap .i64 (Int.tdiv a1 16)) + 1)) * 16)).toNat - (IntKind.wrap .i64 ((IntKind.wrap .i64 (Int.tdiv a1 16)) * 16)).toNat) : Nat) : Int)), (25, .i x1_25)], [eB91 a0, eR37 x1_r1]⟩ ?_
            refine goK hT 5 (K28 111101001100110011000 1) ⟨42, [(0, .ptr 0 0 0 0), (1, .i a1), (6, .own 1 1 0 x1_r1.length), (7, .i 0), (17, .i 0), (23, .win 0 (8192 + (IntKind.wrap .i64 ((IntKind.wrap .i64 (Int.tdiv a1 16)) * 16)).toNat) ((IntKind.wrap .i64 ((IntKind.wrap .i64 ((IntKind.wrap .i64 (Int.tdiv a1 16)) + 1)) * 16)).toNat - (IntKind.wrap .i64 ((IntKind.wrap .i64 (Int.tdiv a1 16)) * 16)).toNat)), (24, .i ((((IntKind.wrap .i64 ((IntKind.wrap .i64 ((IntKind.wrap .i64 (Int.tdiv a1 16)) + 1)) * 16)).toNat - (IntKind.wrap .i64 ((IntKind.wrap .i64 (Int.tdiv a1 16)) * 16)).toNat) : Nat) : Int)), (25, .i x1_25), (27, .i x1_25)], [eB91 a0, eR37 x1_r1]⟩ ?_
            obtain ⟨h5, H⟩ := sC H
            obtain ⟨h6, H⟩ := sC H
            refine ak_idx hT [0, 1, 6, 7, 17, 23, 24, 25, 27, 28] (i := x1_25) (n := ((((IntKind.wrap .i64 ((IntKind.wrap .i64 ((IntKind.wrap .i64 (Int.tdiv a1 16)) + 1)) * 16)).toNat - (IntKind.wrap .i64 ((IntKind.wrap .i64 (Int.tdiv a1 16)) * 16)).toNat) : Nat) : Int)) h6.1 h6.2 (k' := (K28 111101001100110011000 2)) (st' := ⟨42, [(0, .ptr 0 0 0 0), (1, .i a1), (6, .own 1 1 0 x1_r1.length), (7, .i 0), (17, .i 0), (23, .win 0 (8192 + (IntKind.wrap .i64 ((IntKind.wrap .i64 (Int.tdiv a1 16)) * 16)).toNat) ((IntKind.wrap .i64 ((IntKind.wrap .i64 ((IntKind.wrap .i64 (Int.tdiv a1 16)) + 1)) * 16)).toNat - (IntKind.wrap .i64 ((IntKind.wrap .i64 (Int.tdiv a1 16)) * 16)).toNat)), (24, .i ((((IntKind.wrap .i64 ((IntKind.wrap .i64 ((IntKind.wrap .i64 (Int.tdiv a1 16)) + 1)) * 16)).toNat - (IntKind.wrap .i64 ((IntKind.wrap .i64 (Int.tdiv a1 16)) * 16)).toNat) : Nat) : Int)), (25, .i x1_25), (27, .i x1_25), (28, .ptr 0 0 0 ((8192 + (IntKind.wrap .i64 ((IntKind.wrap .i64 (Int.tdiv a1 16)) * 16)).toNat) + x1_25.toNat))], [eB91 a0, eR37 x1_r1]⟩) (by kernel_rfl) ?_
            refine ak_bld hT [0, 1, 6, 7, 17, 23, 24, 25, 27, 29] (A := 0 * 0 + ((8192 + (IntKind.wrap .i64 ((IntKind.wrap .i64 (Int.tdiv a1 16)) * 16)).toNat) + x1_25.toNat)) (s := 1) (n := 12561) (agg := false) (g := merkle_Tree.g a0) (dst := some 29) (k' := (K28 111101001100110011000 3)) ((eI .u32) (a0.leaf ((IntKind.wrap .i64 ((IntKind.wrap .i64 (Int.tdiv a1 16)) * 16)).toNat + x1_25.toNat))) (by kernel_rfl) (by omega) rfl (fun _ => rfl) (fun j hj => merkle_Tree.g_leaf a0 (i := ((IntKind.wrap .i64 ((IntKind.wrap .i64 (Int.tdiv a1 16)) * 16)).toNat + x1_25.toNat)) (by omega) (by omega) hj) (st' := ⟨42, [(0, .ptr 0 0 0 0), (1, .i a1), (6, .own 1 1 0 x1_r1.length), (7, .i 0), (17, .i 0), (23, .win 0 (8192 + (IntKind.wrap .i64 ((IntKind.wrap .i64 (Int.tdiv a1 16)) * 16)).toNat) ((IntKind.wrap .i64 ((IntKind.wrap .i64 ((IntKind.wrap .i64 (Int.tdiv a1 16)) + 1)) * 16)).toNat - (IntKind.wrap .i64 ((IntKind.wrap .i64 (Int.tdiv a1 16)) * 16)).toNat)), (24, .i ((((IntKind.wrap .i64 ((IntKind.wrap .i64 ((IntKind.wrap .i64 (Int.tdiv a1 16)) + 1)) * 16)).toNat - (IntKind.wrap .i64 ((IntKind.wrap .i64 (Int.tdiv a1 16)) * 16)).toNat) : Nat) : Int)), (25, .i x1_25), (27, .i x1_25), (29, .n .u32 (a0.leaf ((IntKind.wrap .i64 ((IntKind.wrap .i64 (Int.tdiv a1 16)) * 16)).toNat + x1_25.toNat)))], [eB91 a0, eR37 x1_r1]⟩) (by kernel_rfl) ?_
            refine goK hT 2 (K28 111101001100110011000 5) ⟨42, [(0, .ptr 0 0 0 0), (1, .i a1), (6, .own 1 1 0 x1_r1.length), (7, .i 0), (8, .i x1_25), (9, .n .u32 (a0.leaf ((IntKind.wrap .i64 ((IntKind.wrap .i64 (Int.tdiv a1 16)) * 16)).toNat + x1_25.toNat))), (17, .i 0), (23, .win 0 (8192 + (IntKind.wrap .i64 ((IntKind.wrap .i64 (Int.tdiv a1 16)) * 16)).toNat) ((IntKind.wrap .i64 ((IntKind.wrap .i64 ((IntKind.wrap .i64 (Int.tdiv a1 16)) + 1)) * 16)).toNat - (IntKind.wrap .i64 ((IntKind.wrap .i64 (Int.tdiv a1 16)) * 16)).toNat)), (24, .i ((((IntKind.wrap .i64 ((IntKind.wrap .i64 ((IntKind.wrap .i64 (Int.tdiv a1 16)) + 1)) * 16)).toNat - (IntKind.wrap .i64 ((IntKind.wrap .i64 (Int.tdiv a1 16)) * 16)).toNat) : Nat) : Int)), (25, .i x1_25)], [eB91 a0, eR37 x1_r1]⟩ ?_
            obtain ⟨v1, h7, H⟩ := sdC H
            rw [← h7]
            refine goK hT 6 (K28 1111010011001100110010 3) ⟨42, [(0, .ptr 0 0 0 0), (1, .i a1), (6, .own 1 1 0 x1_r1.length), (7, .i 0), (9, .n .u32 v1), (17, .i 0), (23, .win 0 (8192 + (IntKind.wrap .i64 ((IntKind.wrap .i64 (Int.tdiv a1 16)) * 16)).toNat) ((IntKind.wrap .i64 ((IntKind.wrap .i64 ((IntKind.wrap .i64 (Int.tdiv a1 16)) + 1)) * 16)).toNat - (IntKind.wrap .i64 ((IntKind.wrap .i64 (Int.tdiv a1 16)) * 16)).toNat)), (24, .i ((((IntKind.wrap .i64 ((IntKind.wrap .i64 ((IntKind.wrap .i64 (Int.tdiv a1 16)) + 1)) * 16)).toNat - (IntKind.wrap .i64 ((IntKind.wrap .i64 (Int.tdiv a1 16)) * 16)).toNat) : Nat) : Int)), (25, .i x1_25), (30, .i x1_25), (31, .i 0), (32, .i a1)], [eB91 a0, eR37 x1_r1]⟩ ?_
            obtain ⟨v2, h8, H⟩ := sbC H
            have Jj1 : ∀ (y1_r1 : List Int), stk (merkle_Tree_Prove.j1 x1_25 y1_r1) (iter (merkle_Tree_Prove.step a0 a1) n) = some r → AK X 28 ((K28 111101001100110011 1)) (Back X [eB91 a0, eR37 r.1] (.tup [.own 1 1 0 r.1.length, .i r.2])) ⟨42, [(0, .ptr 0 0 0 0), (1, .i a1), (6, .own 1 1 0 y1_r1.length), (7, .i 0), (17, .i 0), (23, .win 0 (8192 + (IntKind.wrap .i64 ((IntKind.wrap .i64 (Int.tdiv a1 16)) * 16)).toNat) ((IntKind.wrap .i64 ((IntKind.wrap .i64 ((IntKind.wrap .i64 (Int.tdiv a1 16)) + 1)) * 16)).toNat - (IntKind.wrap .i64 ((IntKind.wrap .i64 (Int.tdiv a1 16)) * 16)).toNat)), (24, .i ((((IntKind.wrap .i64 ((IntKind.wrap .i64 ((IntKind.wrap .i64 (Int.tdiv a1 16)) + 1)) * 16)).toNat - (IntKind.wrap .i64 ((IntKind.wrap .i64 (Int.tdiv a1 16)) * 16)).toNat) : Nat) : Int)), (25, .i x1_25)], [eB91 a0, eR37 y1_r1]⟩ := by
              intro y1_r1 H
              refine goK hT 5 (K28 111101001100110 0) ⟨42, [(0, .ptr 0 0 0 0), (1, .i a1), (6, .own 1 1 0 y1_r1.length), (7, .i 0), (17, .i 0), (23, .win 0 (8192 + (IntKind.wrap .i64 ((IntKind.wrap .i64 (Int.tdiv a1 16)) * 16)).toNat) ((IntKind.wrap .i64 ((IntKind.wrap .i64 ((IntKind.wrap .i64 (Int.tdiv a1 16)) + 1)) * 16)).toNat - (IntKind.wrap .i64 ((IntKind.wrap .i64 (Int.tdiv a1 16)) * 16)).toNat)), (24, .i ((((IntKind.wrap .i64 ((IntKind.wrap .i64 ((IntKind.wrap .i64 (Int.tdiv a1 16)) + 1)) * 16)).toNat - (IntKind.wrap .i64 ((IntKind.wrap .i64 (Int.tdiv a1 16)) * 16)).toNat) : Nat) : Int)), (25, .i (IntKind.wrap .i64 (x1_25 + 1)))], [eB91 a0, eR37 y1_r1]⟩ ?_
              refine cutK [0, 1] ⟨42, [(0, .ptr 0 0 0 0), (1, .i a1), (6, .own 1 1 0 y1_r1.length), (7, .i 0), (17, .i 0), (23, .win 0 (8192 + (IntKind.wrap .i64 ((IntKind.wrap .i64 (Int.tdiv a1 16)) * 16)).toNat) ((IntKind.wrap .i64 ((IntKind.wrap .i64 ((IntKind.wrap .i64 (Int.tdiv a1 16)) + 1)) * 16)).toNat - (IntKind.wrap .i64 ((IntKind.wrap .i64 (Int.tdiv a1 16)) * 16)).toNat)), (24, .i ((((IntKind.wrap .i64 ((IntKind.wrap .i64 ((IntKind.wrap .i64 (Int.tdiv a1 16)) + 1)) * 16)).toNat - (IntKind.wrap .i64 ((IntKind.wrap .i64 (Int.tdiv a1 16)) * 16)).toNat) : Nat) : Int)), (25, .i (IntKind.wrap .i64 (x1_25 + 1)))], [eB91 a0, eR37 y1_r1]⟩ h0 ?_
              exact ih.1 (IntKind.wrap .i64 (x1_25 + 1)) y1_r1 H
            refine ak_callP (avs := [.i 0, .i a1]) (dst := some 33) (k' := (K28 1111010011001100110010 4)) [0, 1, 6, 7, 9, 17, 23, 24, 25, 30, 33] [] hP enters_46 (merkle_place.says 0 a1 h8) (by kernel_rfl) (hands_none _) (.cons (pass_d _) (.cons (pass_d _) .nil)) (st' := ⟨42, [(0, .ptr 0 0 0 0), (1, .i a1), (6, .own 1 1 0 x1_r1.length), (7, .i 0), (9, .n .u32 v1), (17, .i 0), (23, .win 0 (8192 + (IntKind.wrap .i64 ((IntKind.wrap .i64 (Int.tdiv a1 16)) * 16)).toNat) ((IntKind.wrap .i64 ((IntKind.wrap .i64 ((IntKind.wrap .i64 (Int.tdiv a1 16)) + 1)) * 16)).toNat - (IntKind.wrap .i64 ((IntKind.wrap .i64 (Int.tdiv a1 16)) * 16)).toNat)), (24, .i ((((IntKind.wrap .i64 ((IntKind.wrap .i64 ((IntKind.wrap .i64 (Int.tdiv a1 16)) + 1)) * 16)).toNat - (IntKind.wrap .i64 ((IntKind.wrap .i64 (Int.tdiv a1 16)) * 16)).toNat) : Nat) : Int)), (25, .i x1_25), (30, .i x1_25), (33, .i v2)], [eB91 a0, eR37 x1_r1]⟩) (by kernel_rfl) ?_
            refine goK hT 2 (K28 111101001100110011001 1) ⟨42, [(0, .ptr 0 0 0 0), (1, .i a1), (6, .own 1 1 0 x1_r1.length), (7, .i 0), (9, .n .u32 v1), (17, .i 0), (23, .win 0 (8192 + (IntKind.wrap .i64 ((IntKind.wrap .i64 (Int.tdiv a1 16)) * 16)).toNat) ((IntKind.wrap .i64 ((IntKind.wrap .i64 ((IntKind.wrap .i64 (Int.tdiv a1 16)) + 1)) * 16)).toNat - (IntKind.wrap .i64 ((IntKind.wrap .i64 (Int.tdiv a1 16)) * 16)).toNat)), (24, .i ((((IntKind.wrap .i64 ((IntKind.wrap .i64 ((IntKind.wrap .i64 (Int.tdiv a1 16)) + 1)) * 16)).toNat - (IntKind.wrap .i64 ((IntKind.wrap .i64 (Int.tdiv a1 16)) * 16)).toNat) : Nat) : Int)), (25, .i x1_25), (34, .b (x1_25 != v2))], [eB91 a0, eR37 x1_r1]⟩ ?_
            by_cases c9 : x1_25 = v2
            · replace H := sT c9 H
              rw [neF c9]
              refine goK hT 3 (K28 111101001100110011 1) ⟨42, [(0, .ptr 0 0 0 0), (1, .i a1), (6, .own 1 1 0 x1_r1.length), (7, .i 0), (17, .i 0), (23, .win 0 (8192 + (IntKind.wrap .i64 ((IntKind.wrap .i64 (Int.tdiv a1 16)) * 16)).toNat) ((IntKind.wrap .i64 ((IntKind.wrap .i64 ((IntKind.wrap .i64 (Int.tdiv a1 16)) + 1)) * 16)).toNat - (IntKind.wrap .i64 ((IntKind.wrap .i64 (Int.tdiv a1 16)) * 16)).toNat)), (24, .i ((((IntKind.wrap .i64 ((IntKind.wrap .i64 ((IntKind.wrap .i64 (Int.tdiv a1 16)) + 1)) * 16)).toNat - (IntKind.wrap .i64 ((IntKind.wrap .i64 (Int.tdiv a1 16)) * 16)).toNat) : Nat) : Int)), (25, .i x1_25)], [eB91 a0, eR37 x1_r1]⟩ ?_
              refine cutK [0, 1] ⟨42, [(0, .ptr 0 0 0 0), (1, .i a1), (6, .own 1 1 0 x1_r1.length), (7, .i 0), (17, .i 0), (23, .win 0 (8192 + (IntKind.wrap .i64 ((IntKind.wrap .i64 (Int.tdiv a1 16)) * 16)).toNat) ((IntKind.wrap .i64 ((IntKind.wrap .i64 ((IntKind.wrap .i64 (Int.tdiv a1 16)) + 1)) * 16)).toNat - (IntKind.wrap .i64 ((IntKind.wrap .i64 (Int.tdiv a1 16)) * 16)).toNat)), (24, .i ((((IntKind.wrap .i64 ((IntKind.wrap .i64 ((IntKind.wrap .i64 (Int.tdiv a1 16)) + 1)) * 16)).toNat - (IntKind.wrap .i64 ((IntKind.wrap .i64 (Int.tdiv a1 16)) * 16)).toNat) : Nat) : Int)), (25, .i x1_25)], [eB91 a0, eR37 x1_r1]⟩ h0 ?_
              exact Jj1 x1_r1 H
            · replace H := sF c9 H
              rw [neT c9]
              refine goK hT 5 (K28 11110100110011001100110 3) ⟨42, [(0, .ptr 0 0 0 0), (1, .i a1), (7, .i 0), (17, .i 0), (23, .win 0 (8192 + (IntKind.wrap .i64 ((IntKind.wrap .i64 (Int.tdiv a1 16)) * 16)).toNat) ((IntKind.wrap .i64 ((IntKind.wrap .i64 ((IntKind.wrap .i64 (Int.tdiv a1 16)) + 1)) * 16)).toNat - (IntKind.wrap .i64 ((IntKind.wrap .i64 (Int.tdiv a1 16)) * 16)).toNat)), (24, .i ((((IntKind.wrap .i64 ((IntKind.wrap .i64 ((IntKind.wrap .i64 (Int.tdiv a1 16)) + 1)) * 16)).toNat - (IntKind.wrap .i64 ((IntKind.wrap .i64 (Int.tdiv a1 16)) * 16)).toNat) : Nat) : Int)), (25, .i x1_25), (35, .own 1 1 0 x1_r1.length), (37, .own 2 1 0 1)], [eB91 a0, eR37 x1_r1, .flat false 1 37 1 (fun j => [[.n .u32 v1]].getD j [])]⟩ ?_
              obtain ⟨h10, H⟩ := sC H
              refine ak_append1 (id := 1) (kk := 1) (by' := 4) (t := 57) (e := 37) (z := [.int .u32 0]) (dst := some 38) (id2 := 2) (e2 := 37) (fz := false) (k' := (K28 11110100110011001100110 4)) hT (eI .u32) 0 x1_r1 v1 [0, 1, 7, 17, 23, 24, 25, 38] (by kernel_rfl) (by kernel_rfl) (by kernel_rfl) (by kernel_rfl) (by kernel_rfl) (by kernel_rfl) (by kernel_rfl) h10 (by omega) (st' := ⟨42, [(0, .ptr 0 0 0 0), (1, .i a1), (7, .i 0), (17, .i 0), (23, .win 0 (8192 + (IntKind.wrap .i64 ((IntKind.wrap .i64 (Int.tdiv a1 16)) * 16)).toNat) ((IntKind.wrap .i64 ((IntKind.wrap .i64 ((IntKind.wrap .i64 (Int.tdiv a1 16)) + 1)) * 16)).toNat - (IntKind.wrap .i64 ((IntKind.wrap .i64 (Int.tdiv a1 16)) * 16)).toNat)), (24, .i ((((IntKind.wrap .i64 ((IntKind.wrap .i64 ((IntKind.wrap .i64 (Int.tdiv a1 16)) + 1)) * 16)).toNat - (IntKind.wrap .i64 ((IntKind.wrap .i64 (Int.tdiv a1 16)) * 16)).toNat) : Nat) : Int)), (25, .i x1_25), (38, .own 3 1 0 ((x1_r1 ++ [v1]).length))], [eB91 a0, .gone, .flat false 1 37 1 (fun j => [[.n .u32 v1]].getD j []), eR37 (x1_r1 ++ [v1])]⟩) (by kernel_rfl) ?_
              refine goK hT 3 (K28 111101001100110011 1) ⟨42, [(0, .ptr 0 0 0 0), (1, .i a1), (6, .own 3 1 0 ((x1_r1 ++ [v1]).length)), (7, .i 0), (17, .i 0), (23, .win 0 (8192 + (IntKind.wrap .i64 ((IntKind.wrap .i64 (Int.tdiv a1 16)) * 16)).toNat) ((IntKind.wrap .i64 ((IntKind.wrap .i64 ((IntKind.wrap .i64 (Int.tdiv a1 16)) + 1)) * 16)).toNat - (IntKind.wrap .i64 ((IntKind.wrap .i64 (Int.tdiv a1 16)) * 16)).toNat)), (24, .i ((((IntKind.wrap .i64 ((IntKind.wrap .i64 ((IntKind.wrap .i64 (Int.tdiv a1 16)) + 1)) * 16)).toNat - (IntKind.wrap .i64 ((IntKind.wrap .i64 (Int.tdiv a1 16)) * 16)).toNat) : Nat) : Int)), (25, .i x1_25)], [eB91 a0, .gone, .flat false 1 37 1 (fun j => [[.n .u32 v1]].getD j []), eR37 (x1_r1 ++ [v1])]⟩ ?_
              refine cutK [0, 3] ⟨42, [(0, .ptr 0 0 0 0), (1, .i a1), (6, .own 1 1 0 (x1_r1 ++ [v1]).length), (7, .i 0), (17, .i 0), (23, .win 0 (8192 + (IntKind.wrap .i64 ((IntKind.wrap .i64 (Int.tdiv a1 16)) * 16)).toNat) ((IntKind.wrap .i64 ((IntKind.wrap .i64 ((IntKind.wrap .i64 (Int.tdiv a1 16)) + 1)) * 16)).toNat - (IntKind.wrap .i64 ((IntKind.wrap .i64 (Int.tdiv a1 16)) * 16)).toNat)), (24, .i ((((IntKind.wrap .i64 ((IntKind.wrap .i64 ((IntKind.wrap .i64 (Int.tdiv a1 16)) + 1)) * 16)).toNat - (IntKind.wrap .i64 ((IntKind.wrap .i64 (Int.tdiv a1 16)) * 16)).toNat) : Nat) : Int)), (25, .i x1_25)], [eB91 a0, eR37 (x1_r1 ++ [v1])]⟩ h0 ?_
              exact Jj1 (x1_r1 ++ [v1]) H
          · replace H := sF c3 H
            rw [decide_eq_false c3]
            refine goK hT 27 (K28 11110100110010 3) ⟨42, [(0, .ptr 0 0 0 0), (1, .i a1), (6, .own 1 1 0 x1_r1.length), (7, .i 1), (17, .i 1), (20, .ptr 0 0 0 0), (21, .i 1), (22, .i a1)], [eB91 a0, eR37 x1_r1]⟩ ?_
            obtain ⟨h4, H⟩ := sC H
            refine ak_callP (avs := [.ptr 0 0 0 0, .i 1, .i a1]) (dst := some 23) (k' := (K28 11110100110010 4)) [0, 1, 6, 7, 17, 23] [0] hP enters_45 (merkle_Tree_kids.says1 a0 1 a1 (by decide) (by decide) h4) (by kernel_rfl) (hands_one rfl rfl) (.cons (.same (.ptr 0 0 0 0)) (.cons (pass_d _) (.cons (pass_d _) .nil))) (st' := ⟨42, [(0, .ptr 0 0 0 0), (1, .i a1), (6, .own 1 1 0 x1_r1.length), (7, .i 1), (17, .i 1), (23, .win 0 (12288 + (IntKind.wrap .i64 ((IntKind.wrap .i64 (Int.tdiv (IntKind.wrap .i64 (Int.tdiv a1 16)) 16)) * 16)).toNat) ((IntKind.wrap .i64 ((IntKind.wrap .i64 ((IntKind.wrap .i64 (Int.tdiv (IntKind.wrap .i64 (Int.tdiv a1 16)) 16)) + 1)) * 16)).toNat - (IntKind.wrap .i64 ((IntKind.wrap .i64 (Int.tdiv (IntKind.wrap .i64 (Int.tdiv a1 16)) 16)) * 16)).toNat))], [eB91 a0, eR37 x1_r1]⟩) (by kernel_rfl) ?_
            refine goK hT 5 (K28 111101001100110 0) ⟨42, [(0, .ptr 0 0 0 0), (1, .i a1), (6, .own 1 1 0 x1_r1.length), (7, .i 1), (17, .i 1), (23, .win 0 (12288 + (IntKind.wrap .i64 ((IntKind.wrap .i64 (Int.tdiv (IntKind.wrap .i64 (Int.tdiv a1 16)) 16)) * 16)).toNat) ((IntKind.wrap .i64 ((IntKind.wrap .i64 ((IntKind.wrap .i64 (Int.tdiv (IntKind.wrap .i64 (Int.tdiv a1 16)) 16)) + 1)) * 16)).toNat - (IntKind.wrap .i64 ((IntKind.wrap .i64 (Int.tdiv (IntKind.wrap .i64 (Int.tdiv a1 16)) 16)) * 16)).toNat)), (24, .i ((((IntKind.wrap .i64 ((IntKind.wrap .i64 ((IntKind.wrap .i64 (Int.tdiv (IntKind.wrap .i64 (Int.tdiv a1 16)) 16)) + 1)) * 16)).toNat - (IntKind.wrap .i64 ((IntKind.wrap .i64 (Int.tdiv (IntKind.wrap .i64 (Int.tdiv a1 16)) 16)) * 16)).toNat) : Nat) : Int)), (25, .i 0)], [eB91 a0, eR37 x1_r1]⟩ ?_
            refine cutK [0, 1] ⟨42, [(0, .ptr 0 0 0 0), (1, .i a1), (6, .own 1 1 0 x1_r1.length), (7, .i 1), (17, .i 1), (23, .win 0 (12288 + (IntKind.wrap .i64 ((IntKind.wrap .i64 (Int.tdiv (IntKind.wrap .i64 (Int.tdiv a1 16)) 16)) * 16)).toNat) ((IntKind.wrap .i64 ((IntKind.wrap .i64 ((IntKind.wrap .i64 (Int.tdiv (IntKind.wrap .i64 (Int.tdiv a1 16)) 16)) + 1)) * 16)).toNat - (IntKind.wrap .i64 ((IntKind.wrap .i64 (Int.tdiv (IntKind.wrap .i64 (Int.tdiv a1 16)) 16)) * 16)).toNat)), (24, .i ((((IntKind.wrap .i64 ((IntKind.wrap .i64 ((IntKind.wrap .i64 (Int.tdiv (IntKind.wrap .i64 (Int.tdiv a1 16)) 16)) + 1)) * 16)).toNat - (IntKind.wrap .i64 ((IntKind.wrap .i64 (Int.tdiv (IntKind.wrap .i64 (Int.tdiv a1 16)) 16)) * 16)).toNat) : Nat) : Int)), (25, .i 0)], [eB91 a0, eR37 x1_r1]⟩ h0 ?_
            exact ih.2.1 0 x1_r1 H
        · intro x2_25 x2_r1 H
          refine goK hT 5 (K28 11110100110011001 0) ⟨42, [(0, .ptr 0 0 0 0), (1, .i a1), (6, .own 1 1 0 x2_r1.length), (7, .i 1), (17, .i 1), (23, .win 0 (12288 + (IntKind.wrap .i64 ((IntKind.wrap .i64 (Int.tdiv (IntKind.wrap .i64 (Int.tdiv a1 16)) 16)) * 16)).toNat) ((IntKind.wrap .i64 ((IntKind.wrap .i64 ((IntKind.wrap .i64 (Int.tdiv (IntKind.wrap .i64 (Int.tdiv a1 16)) 16)) + 1)) * 16)).toNat - (IntKind.wrap .i64 ((IntKind.wrap .i64 (Int.tdiv (IntKind.wrap .i64 (Int.tdiv a1 16)) 16)) * 16)).toNat)), (24, .i ((((IntKind.wrap .i64 ((IntKind.wrap .i64 ((IntKind.wrap .i64 (Int.tdiv (IntKind.wrap .i64 (Int.tdiv a1 16)) 16)) + 1)) * 16)).toNat - (IntKind.wrap .i64 ((IntKind.wrap .i64 (Int.tdiv (IntKind.wrap .i64 (Int.tdiv a1 16)) 16)) * 16)).toNat) : Nat) : Int)), (25, .i x2_25), (26, .b (decide (x2_25 < ((((IntKind.wrap .i64 ((IntKind.wrap .i64 ((IntKind.wrap .i64 (Int.tdiv (IntKind.wrap .i64 (Int.tdiv a1 16)) 16)) + 1)) * 16)).toNat - (IntKind.wrap .i64 ((IntKind.wrap .i64 (Int.tdiv (IntKind.wrap .i64 (Int.tdiv a1 16)) 16)) * 16)).toNat) : Nat) : Int))))], [eB91 a0, eR37 x2_r1]⟩ ?_
          by_cases c11 : x2_25 < ((((IntKind.wrap .i64 ((IntKind.wrap .i64 ((IntKind.wrap .i64 (Int.tdiv (IntKind.wrap .i64 (Int.tdiv a1 16)) 16)) + 1)) * 16)).toNat - (IntKind.wrap .i64 ((IntKind.wrap .i64 (Int.tdiv (IntKind.wrap .i64 (Int.tdiv a1 16)) 16)) * 16)).toNat) : Nat) : Int)
          · replace H := sT c11 H
            rw [decide_eq_true c11]
            refine goK hT 2 (K28 11110100110011001 1) ⟨42, [(0, .ptr 0 0 0 0), (1, .i a1), (6, .own 1 1 0 x2_r1.length), (7, .i 1), (17, .i 1), (23, .win 0 (12288 + (IntKind.wrap .i64 ((IntKind.wrap .i64 (Int.tdiv (IntKind.wrap .i64 (Int.tdiv a1 16)) 16)) * 16)).toNat) ((IntKind.wrap .i64 ((IntKind.wrap .i64 ((IntKind.wrap .i64 (Int.tdiv (IntKind.wrap .i64 (Int.tdiv a1 16)) 16)) + 1)) * 16)).toNat - (IntKind.wrap .i64 ((IntKind.wrap .i64 (Int.tdiv (IntKind.wrap .i64 (Int.tdiv a1 16)) 16)) * 16)).toNat)), (24, .i ((((IntKind.wrap .i64 ((IntKind.wrap .i64 ((IntKind.wrap .i64 (Int.tdiv (IntKind.wrap .i64 (Int.tdiv a1 16)) 16)) + 1)) * 16)).toNat - (IntKind.wrap .i64 ((IntKind.wrap .i64 (Int.tdiv (IntKind.wrap .i64 (Int.tdiv a1 16)) 16)) * 16)).toNat) : Nat) : Int)), (25, .i x2_25)], [eB91 a0, eR37 x2_r1]⟩ ?_
            refine goK hT 5 (K28 111101001100110011000 1) ⟨42, [(0, .ptr 0 0 0 0), (1, .i a1), (6, .own 1 1 0 x2_r1.length), (7, .i 1), (17, .i 1), (23, .win 0 (12288 + (IntKind.wrap .i64 ((IntKind.wrap .i64 (Int.tdiv (IntKind.wrap .i64 (Int.tdiv a1 16)) 16)) * 16)).toNat) ((IntKind.wrap .i64 ((IntKind.wrap .i64 ((IntKind.wrap .i64 (Int.tdiv (IntKind.wrap .i64 (Int.tdiv a1 16)) 16)) + 1)) * 16)).toNat - (IntKind.wrap .i64 ((IntKind.wrap .i64 (Int.tdiv (IntKind.wrap .i64 (Int.tdiv a1 16)) 16)) * 16)).toNat)), (24, .i ((((IntKind.wrap .i64 ((IntKind.wrap .i64 ((IntKind.wrap .i64 (Int.tdiv (IntKind.wrap .i64 (Int.tdiv a1 16)) 16)) + 1)) * 16)).toNat - (IntKind.wrap .i64 ((IntKind.wrap .i64 (Int.tdiv (IntKind.wrap .i64 (Int.tdiv a1 16)) 16)) * 16)).toNat) : Nat) : Int)), (25, .i x2_25), (27, .i x2_25)], [eB91 a0, eR37 x2_r1]⟩ ?_
            obtain ⟨h12, H⟩ := sC H
            obtain ⟨h13, H⟩ := sC H
            refine ak_idx hT [0, 1, 6, 7, 17, 23, 24, 25, 27, 28] (i := x2_25) (n := ((((IntKind.wrap .i64 ((IntKind.wrap .i64 ((IntKind.wrap .i64 (Int.tdiv (IntKind.wrap .i64 (Int.tdiv a1 16)) 16)) + 1)) * 16)).toNat - (IntKind.wrap .i64 ((IntKind.wrap .i64 (Int.tdiv (IntKind.wrap .i64 (Int.tdiv a1 16)) 16)) * 16)).toNat) : Nat) : Int)) h13.1 h13.2 (k' := (K28 111101001100110011000 2)) (st' := ⟨42, [(0, .ptr 0 0 0 0), (1, .i a1), (6, .own 1 1 0 x2_r1.length), (7, .i 1), (17, .i 1), (23, .win 0 (12288 + (IntKind.wrap .i64 ((IntKind.wrap .i64 (Int.tdiv (IntKind.wrap .i64 (Int.tdiv a1 16)) 16)) * 16)).toNat) ((IntKind.wrap .i64 ((IntKind.wrap .i64 ((IntKind.wrap .i64 (Int.tdiv (IntKind.wrap .i64 (Int.tdiv a1 16)) 16)) + 1)) * 16)).toNat - (IntKind.wrap .i64 ((IntKind.wrap .i64 (Int.tdiv (IntKind.wrap .i64 (Int.tdiv a1 16)) 16)) * 16)).toNat)), (24, .i ((((IntKind.wrap .i64 ((IntKind.wrap .i64 ((IntKind.wrap .i64 (Int.tdiv (IntKind.wrap .i64 (Int.tdiv a1 16)) 16)) + 1)) * 16)).toNat - (IntKind.wrap .i64 ((IntKind.wrap .i64 (Int.tdiv (IntKind.wrap .i64 (Int.tdiv a1 16)) 16)) * 16)).toNat) : Nat) : Int)), (25, .i x2_25), (27, .i x2_25), (28, .ptr 0 0 0 ((12288 + (IntKind.wrap .i64 ((IntKind.wrap .i64 (Int.tdiv (IntKind.wrap .i64 (Int.tdiv a1 16)) 16)) * 16)).toNat) + x2_25.toNat))], [eB91 a0, eR37 x2_r1]⟩) (by kernel_rfl) ?_
            refine ak_bld hT [0, 1, 6, 7, 17, 23, 24, 25, 27, 29] (A := 0 * 0 + ((12288 + (IntKind.wrap .i64 ((IntKind.wrap .i64 (Int.tdiv (IntKind.wrap .i64 (Int.tdiv a1 16)) 16)) * 16)).toNat) + x2_25.toNat)) (s := 1) (n := 12561) (agg := false) (g := merkle_Tree.g a0) (dst := some 29) (k' := (K28 111101001100110011000 3)) ((eI .u32) (a0.low ((IntKind.wrap .i64 ((IntKind.wrap .i64 (Int.tdiv (IntKind.wrap .i64 (Int.tdiv a1 16)) 16)) * 16)).toNat + x2_25.toNat))) (by kernel_rfl) (by omega) rfl (fun _ => rfl) (fun j hj => merkle_Tree.g_low a0 (i := ((IntKind.wrap .i64 ((IntKind.wrap .i64 (Int.tdiv (IntKind.wrap .i64 (Int.tdiv a1 16)) 16)) * 16)).toNat + x2_25.toNat)) (by omega) (by omega) hj) (st' := ⟨42, [(0, .ptr 0 0 0 0), (1, .i a1), (6, .own 1 1 0 x2_r1.length), (7, .i 1), (17, .i 1), (23, .win 0 (12288 + (IntKind.wrap .i64 ((IntKind.wrap .i64 (Int.tdiv (IntKind.wrap .i64 (Int.tdiv a1 16)) 16)) * 16)).toNat) ((IntKind.wrap .i64 ((IntKind.wrap .i64 ((IntKind.wrap .i64 (Int.tdiv (IntKind.wrap .i64 (Int.tdiv a1 16)) 16)) + 1)) * 16)).toNat - (IntKind.wrap .i64 ((IntKind.wrap .i64 (Int.tdiv (IntKind.wrap .i64 (Int.tdiv a1 16)) 16)) * 16)).toNat)), (24, .i ((((IntKind.wrap .i64 ((IntKind.wrap .i64 ((IntKind.wrap .i64 (Int.tdiv (IntKind.wrap .i64 (Int.tdiv a1 16)) 16)) + 1)) * 16)).toNat - (IntKind.wrap .i64 ((IntKind.wrap .i64 (Int.tdiv (IntKind.wrap .i64 (Int.tdiv a1 16)) 16)) * 16)).toNat) : Nat) : Int)), (25, .i x2_25), (27, .i x2_25), (29, .n .u32 (a0.low ((IntKind.wrap .i64 ((IntKind.wrap .i64 (Int.tdiv (IntKind.wrap .i64 (Int.tdiv a1 16)) 16)) * 16)).toNat + x2_25.toNat)))], [eB91 a0, eR37 x2_r1]⟩) (by kernel_rfl) ?_
            refine goK hT 2 (K28 111101001100110011000 5) ⟨42, [(0, .ptr 0 0 0 0), (1, .i a1), (6, .own 1 1 0 x2_r1.length), (7, .i 1), (8, .i x2_25), (9, .n .u32 (a0.low ((IntKind.wrap .i64 ((IntKind.wrap .i64 (Int.tdiv (IntKind.wrap .i64 (Int.tdiv a1 16)) 16)) * 16)).toNat + x2_25.toNat))), (17, .i 1), (23, .win 0 (12288 + (IntKind.wrap .i64 ((IntKind.wrap .i64 (Int.tdiv (IntKind.wrap .i64 (Int.tdiv a1 16)) 16)) * 16)).toNat) ((IntKind.wrap .i64 ((IntKind.wrap .i64 ((IntKind.wrap .i64 (Int.tdiv (IntKind.wrap .i64 (Int.tdiv a1 16)) 16)) + 1)) * 16)).toNat - (IntKind.wrap .i64 ((IntKind.wrap .i64 (Int.tdiv (IntKind.wrap .i64 (Int.tdiv a1 16)) 16)) * 16)).toNat)), (24, .i ((((IntKind.wrap .i64 ((IntKind.wrap .i64 ((IntKind.wrap .i64 (Int.tdiv (IntKind.wrap .i64 (Int.tdiv a1 16)) 16)) + 1)) * 16)).toNat - (IntKind.wrap .i64 ((IntKind.wrap .i64 (Int.tdiv (IntKind.wrap .i64 (Int.tdiv a1 16)) 16)) * 16)).toNat) : Nat) : Int)), (25, .i x2_25)], [eB91 a0, eR37 x2_r1]⟩ ?_
            obtain ⟨v3, h14, H⟩ := sdC H
            rw [← h14]
            refine goK hT 6 (K28 1111010011001100110010 3) ⟨42, [(0, .ptr 0 0 0 0), (1, .i a1), (6, .own 1 1 0 x2_r1.length), (7, .i 1), (9, .n .u32 v3), (17, .i 1), (23, .win 0 (12288 + (IntKind.wrap .i64 ((IntKind.wrap .i64 (Int.tdiv (IntKind.wrap .i64 (Int.tdiv a1 16)) 16)) * 16)).toNat) ((IntKind.wrap .i64 ((IntKind.wrap .i64 ((IntKind.wrap .i64 (Int.tdiv (IntKind.wrap .i64 (Int.tdiv a1 16)) 16)) + 1)) * 16)).toNat - (IntKind.wrap .i64 ((IntKind.wrap .i64 (Int.tdiv (IntKind.wrap .i64 (Int.tdiv a1 16)) 16)) * 16)).toNat)), (24, .i ((((IntKind.wrap .i64 ((IntKind.wrap .i64 ((IntKind.wrap .i64 (Int.tdiv (IntKind.wrap .i64 (Int.tdiv a1 16)) 16)) + 1)) * 16)).toNat - (IntKind.wrap .i64 ((IntKind.wrap .i64 (Int.tdiv (IntKind.wrap .i64 (Int.tdiv a1 16)) 16)) * 16)).toNat) : Nat) : Int)), (25, .i x2_25), (30, .i x2_25), (31, .i 1), (32, .i a1)], [eB91 a0, eR37 x2_r1]⟩ ?_
            obtain ⟨v4, h15, H⟩ := sbC H
            have Jj2 : ∀ (y2_r1 : List Int), stk (merkle_Tree_Prove.j2 x2_25 y2_r1) (iter (merkle_Tree_Prove.step a0 a1) n) = some r → AK X 28 ((K28 111101001100110011 1)) (Back X [eB91 a0, eR37 r.1] (.tup [.own 1 1 0 r.1.length, .i r.2])) ⟨42, [(0, .ptr 0 0 0 0), (1, .i a1), (6, .own 1 1 0 y2_r1.length), (7, .i 1), (17, .i 1), (23, .win 0 (12288 + (IntKind.wrap .i64 ((IntKind.wrap .i64 (Int.tdiv (IntKind.wrap .i64 (Int.tdiv a1 16)) 16)) * 16)).toNat) ((IntKind.wrap .i64 ((IntKind.wrap .i64 ((IntKind.wrap .i64 (Int.tdiv (IntKind.wrap .i64 (Int.tdiv a1 16)) 16)) + 1)) * 16)).toNat - (IntKind.wrap .i64 ((IntKind.wrap .i64 (Int.tdiv (IntKind.wrap .i64 (Int.tdiv a1 16)) 16)) * 16)).toNat)), (24, .i ((((IntKind.wrap .i64 ((IntKind.wrap .i64 ((IntKind.wrap .i64 (Int.tdiv (IntKind.wrap .i64 (Int.tdiv a1 16)) 16)) + 1)) * 16)).toNat - (IntKind.wrap .i64 ((IntKind.wrap .i64 (Int.tdiv (IntKind.wrap .i64 (Int.tdiv a1 16)) 16)) * 16)).toNat) : Nat) : Int)), (25, .i x2_25)], [eB91 a0, eR37 y2_r1]⟩ := by
              intro y2_r1 H
              refine goK hT 5 (K28 111101001100110 0) ⟨42, [(0, .ptr 0 0 0 0), (1, .i a1), (6, .own 1 1 0 y2_r1.length), (7, .i 1), (17, .i 1), (23, .win 0 (12288 + (IntKind.wrap .i64 ((IntKind.wrap .i64 (Int.tdiv (IntKind.wrap .i64 (Int.tdiv a1 16)) 16)) * 16)).toNat) ((IntKind.wrap .i64 ((IntKind.wrap .i64 ((IntKind.wrap .i64 (Int.tdiv (IntKind.wrap .i64 (Int.tdiv a1 16)) 16)) + 1)) * 16)).toNat - (IntKind.wrap .i64 ((IntKind.wrap .i64 (Int.tdiv (IntKind.wrap .i64 (Int.tdiv a1 16)) 16)) * 16)).toNat)), (24, .i ((((IntKind.wrap .i64 ((IntKind.wrap .i64 ((IntKind.wrap .i64 (Int.tdiv (IntKind.wrap .i64 (Int.tdiv a1 16)) 16)) + 1)) * 16)).toNat - (IntKind.wrap .i64 ((IntKind.wrap .i64 (Int.tdiv (IntKind.wrap .i64 (Int.tdiv a1 16)) 16)) * 16)).toNat) : Nat) : Int)), (25, .i (IntKind.wrap .i64 (x2_25 + 1)))], [eB91 a0, eR37 y2_r1]⟩ ?_
              refine cutK [0, 1] ⟨42, [(0, .ptr 0 0 0 0), (1, .i a1), (6, .own 1 1 0 y2_r1.length), (7, .i 1), (17, .i 1), (23, .win 0 (12288 + (IntKind.wrap .i64 ((IntKind.wrap .i64 (Int.tdiv (IntKind.wrap .i64 (Int.tdiv a1 16)) 16)) * 16)).toNat) ((IntKind.wrap .i64 ((IntKind.wrap .i64 ((IntKind.wrap .i64 (Int.tdiv (IntKind.wrap .i64 (Int.tdiv a1 16)) 16)) + 1)) * 16)).toNat - (IntKind.wrap .i64 ((IntKind.wrap .i64 (Int.tdiv (IntKind.wrap .i64 (Int.tdiv a1 16)) 16)) * 16)).toNat)), (24, .i ((((IntKind.wrap .i64 ((IntKind.wrap .i64 ((IntKind.wrap .i64 (Int.tdiv (IntKind.wrap .i64 (Int.tdiv a1 16)) 16)) + 1)) * 16)).toNat - (IntKind.wrap .i64 ((IntKind.wrap .i64 (Int.tdiv (IntKind.wrap .i64 (Int.tdiv a1 16)) 16)) * 16)).toNat) : Nat) : Int)), (25, .i (IntKind.wrap .i64 (x2_25 + 1)))], [eB91 a0, eR37 y2_r1]⟩ h0 ?_
              exact ih.2.1 (IntKind.wrap .i64 (x2_25 + 1)) y2_r1 H
            refine ak_callP (avs := [.i 1, .i a1]) (dst := some 33) (k' := (K28 1111010011001100110010 4)) [0, 1, 6, 7, 9, 17, 23, 24, 25, 30, 33] [] hP enters_46 (merkle_place.says 1 a1 h15) (by kernel_rfl) (hands_none _) (.cons (pass_d _) (.cons (pass_d _) .nil)) (st' := ⟨42, [(0, .ptr 0 0 0 0), (1, .i a1), (6, .own 1 1 0 x2_r1.length), (7, .i 1), (9, .n .u32 v3), (17, .i 1), (23, .win 0 (12288 + (IntKind.wrap .i64 ((IntKind.wrap .i64 (Int.tdiv (IntKind.wrap .i64 (Int.tdiv a1 16)) 16)) * 16)).toNat) ((IntKind.wrap .i64 ((IntKind.wrap .i64 ((IntKind.wrap .i64 (Int.tdiv (IntKind.wrap .i64 (Int.tdiv a1 16)) 16)) + 1)) * 16)).toNat - (IntKind.wrap .i64 ((IntKind.wrap .i64 (Int.tdiv (IntKind.wrap .i64 (Int.tdiv a1 16)) 16)) * 16)).toNat)), (24, .i ((((IntKind.wrap .i64 ((IntKind.wrap .i64 ((IntKind.wrap .i64 (Int.tdiv (IntKind.wrap .i64 (Int.tdiv a1 16)) 16)) + 1)) * 16)).toNat - (IntKind.wrap .i64 ((IntKind.wrap .i64 (Int.tdiv (IntKind.wrap .i64 (Int.tdiv a1 16)) 16)) * 16)).toNat) : Nat) : Int)), (25, .i x2_25), (30, .i x2_25), (33, .i v4)], [eB91 a0, eR37 x2_r1]⟩) (by kernel_rfl) ?_
            refine goK hT 2 (K28 111101001100110011001 1) ⟨42, [(0, .ptr 0 0 0 0), (1, .i a1), (6, .own 1 1 0 x2_r1.length), (7, .i 1), (9, .n .u32 v3), (17, .i 1), (23, .win 0 (12288 + (IntKind.wrap .i64 ((IntKind.wrap .i64 (Int.tdiv (IntKind.wrap .i64 (Int.tdiv a1 16)) 16)) * 16)).toNat) ((IntKind.wrap .i64 ((IntKind.wrap .i64 ((IntKind.wrap .i64 (Int.tdiv (IntKind.wrap .i64 (Int.tdiv a1 16)) 16)) + 1)) * 16)).toNat - (IntKind.wrap .i64 ((IntKind.wrap .i64 (Int.tdiv (IntKind.wrap .i64 (Int.tdiv a1 16)) 16)) * 16)).toNat)), (24, .i ((((IntKind.wrap .i64 ((IntKind.wrap .i64 ((IntKind.wrap .i64 (Int.tdiv (IntKind.wrap .i64 (Int.tdiv a1 16)) 16)) + 1)) * 16)).toNat - (IntKind.wrap .i64 ((IntKind.wrap .i64 (Int.tdiv (IntKind.wrap .i64 (Int.tdiv a1 16)) 16)) * 16)).toNat) : Nat) : Int)), (25, .i x2_25), (34, .b (x2_25 != v4))], [eB91 a0, eR37 x2_r1]⟩ ?_
            by_cases c16 : x2_25 = v4
            · replace H := sT c16 H
              rw [neF c16]
              refine goK hT 3 (K28 111101001100110011 1) ⟨42, [(0, .ptr 0 0 0 0), (1, .i a1), (6, .own 1 1 0 x2_r1.length), (7, .i 1), (17, .i 1), (23, .win 0 (12288 + (IntKind.wrap .i64 ((IntKind.wrap .i64 (Int.tdiv (IntKind.wrap .i64 (Int.tdiv a1 16)) 16)) * 16)).toNat) ((IntKind.wrap .i64 ((IntKind.wrap .i64 ((IntKind.wrap .i64 (Int.tdiv (IntKind.wrap .i64 (Int.tdiv a1 16)) 16)) + 1)) * 16)).toNat - (IntKind.wrap .i64 ((IntKind.wrap .i64 (Int.tdiv (IntKind.wrap .i64 (Int.tdiv a1 16)) 16)) * 16)).toNat)), (24, .i ((((IntKind.wrap .i64 ((IntKind.wrap .i64 ((IntKind.wrap .i64 (Int.tdiv (IntKind.wrap .i64 (Int.tdiv a1 16)) 16)) + 1)) * 16)).toNat - (IntKind.wrap .i64 ((IntKind.wrap .i64 (Int.tdiv (IntKind.wrap .i64 (Int.tdiv a1 16)) 16)) * 16)).toNat) : Nat) : Int)), (25, .i x2_25)], [eB91 a0, eR37 x2_r1]⟩ ?_
              refine cutK [0, 1] ⟨42, [(0, .ptr 0 0 0 0), (1, .i a1), (6, .own 1 1 0 x2_r1.length), (7, .i 1), (17, .i 1), (23, .win 0 (12288 + (IntKind.wrap .i64 ((IntKind.wrap .i64 (Int.tdiv (IntKind.wrap .i64 (Int.tdiv a1 16)) 16)) * 16)).toNat) ((IntKind.wrap .i64 ((IntKind.wrap .i64 ((IntKind.wrap .i64 (Int.tdiv (IntKind.wrap .i64 (Int.tdiv a1 16)) 16)) + 1)) * 16)).toNat - (IntKind.wrap .i64 ((IntKind.wrap .i64 (Int.tdiv (IntKind.wrap .i64 (Int.tdiv a1 16)) 16)) * 16)).toNat)), (24, .i ((((IntKind.wrap .i64 ((IntKind.wrap .i64 ((IntKind.wrap .i64 (Int.tdiv (IntKind.wrap .i64 (Int.tdiv a1 16)) 16)) + 1)) * 16)).toNat - (IntKind.wrap .i64 ((IntKind.wrap .i64 (Int.tdiv (IntKind.wrap .i64 (Int.tdiv a1 16)) 16)) * 16)).toNat) : Nat) : Int)), (25, .i x2_25)], [eB91 a0, eR37 x2_r1]⟩ h0 ?_
              exact Jj2 x2_r1 H
            · replace H := sF c16 H
              rw [neT c16]
              refine goK hT 5 (K28 11110100110011001100110 3) ⟨42, [(0, .ptr 0 0 0 0), (1, .i a1), (7, .i 1), (17, .i 1), (23, .win 0 (12288 + (IntKind.wrap .i64 ((IntKind.wrap .i64 (Int.tdiv (IntKind.wrap .i64 (Int.tdiv a1 16)) 16)) * 16)).toNat) ((IntKind.wrap .i64 ((IntKind.wrap .i64 ((IntKind.wrap .i64 (Int.tdiv (IntKind.wrap .i64 (Int.tdiv a1 16)) 16)) + 1)) * 16)).toNat - (IntKind.wrap .i64 ((IntKind.wrap .i64 (Int.tdiv (IntKind.wrap .i64 (Int.tdiv a1 16)) 16)) * 16)).toNat)), (24, .i ((((IntKind.wrap .i64 ((IntKind.wrap .i64 ((IntKind.wrap .i64 (Int.tdiv (IntKind.wrap .i64 (Int.tdiv a1 16)) 16)) + 1)) * 16)).toNat - (IntKind.wrap .i64 ((IntKind.wrap .i64 (Int.tdiv (IntKind.wrap .i64 (Int.tdiv a1 16)) 16)) * 16)).toNat) : Nat) : Int)), (25, .i x2_25), (35, .own 1 1 0 x2_r1.length), (37, .own 2 1 0 1)], [eB91 a0, eR37 x2_r1, .flat false 1 37 1 (fun j => [[.n .u32 v3]].getD j [])]⟩ ?_
              obtain ⟨h17, H⟩ := sC H
              refine ak_append1 (id := 1) (kk := 1) (by' := 4) (t := 57) (e := 37) (z := [.int .u32 0]) (dst := some 38) (id2 := 2) (e2 := 37) (fz := false) (k' := (K28 11110100110011001100110 4)) hT (eI .u32) 0 x2_r1 v3 [0, 1, 7, 17, 23, 24, 25, 38] (by kernel_rfl) (by kernel_rfl) (by kernel_rfl) (by kernel_rfl) (by kernel_rfl) (by kernel_rfl) (by kernel_rfl) h17 (by omega) (st' := ⟨42, [(0, .ptr 0 0 0 0), (1, .i a1), (7, .i 1), (17, .i 1), (23, .win 0 (12288 + (IntKind.wrap .i64 ((IntKind.wrap .i64 (Int.tdiv (IntKind.wrap .i64 (Int.tdiv a1 16)) 16)) * 16)).toNat) ((IntKind.wrap .i64 ((IntKind.wrap .i64 ((IntKind.wrap .i64 (Int.tdiv (IntKind.wrap .i64 (Int.tdiv a1 16)) 16)) + 1)) * 16)).toNat - (IntKind.wrap .i64 ((IntKind.wrap .i64 (Int.tdiv (IntKind.wrap .i64 (Int.tdiv a1 16)) 16)) * 16)).toNat)), (24, .i ((((IntKind.wrap .i64 ((IntKind.wrap .i64 ((IntKind.wrap .i64 (Int.tdiv (IntKind.wrap .i64 (Int.tdiv a1 16)) 16)) + 1)) * 16)).toNat - (IntKind.wrap .i64 ((IntKind.wrap .i64 (Int.tdiv (IntKind.wrap .i64 (Int.tdiv a1 16)) 16)) * 16)).toNat) : Nat) : Int)), (25, .i x2_25), (38, .own 3 1 0 ((x2_r1 ++ [v3]).length))], [eB91 a0, .gone, .flat false 1 37 1 (fun j => [[.n .u32 v3]].getD j []), eR37 (x2_r1 ++ [v3])]⟩) (by kernel_rfl) ?_
              refine goK hT 3 (K28 111101001100110011 1) ⟨42, [(0, .ptr 0 0 0 0), (1, .i a1), (6, .own 3 1 0 ((x2_r1 ++ [v3]).length)), (7, .i 1), (17, .i 1), (23, .win 0 (12288 + (IntKind.wrap .i64 ((IntKind.wrap .i64 (Int.tdiv (IntKind.wrap .i64 (Int.tdiv a1 16)) 16)) * 16)).toNat) ((IntKind.wrap .i64 ((IntKind.wrap .i64 ((IntKind.wrap .i64 (Int.tdiv (IntKind.wrap .i64 (Int.tdiv a1 16)) 16)) + 1)) * 16)).toNat - (IntKind.wrap .i64 ((IntKind.wrap .i64 (Int.tdiv (IntKind.wrap .i64 (Int.tdiv a1 16)) 16)) * 16)).toNat)), (24, .i ((((IntKind.wrap .i64 ((IntKind.wrap .i64 ((IntKind.wrap .i64 (Int.tdiv (IntKind.wrap .i64 (Int.tdiv a1 16)) 16)) + 1)) * 16)).toNat - (IntKind.wrap .i64 ((IntKind.wrap .i64 (Int.tdiv (IntKind.wrap .i64 (Int.tdiv a1 16)) 16)) * 16)).toNat) : Nat) : Int)), (25, .i x2_25)], [eB91 a0, .gone, .flat false 1 37 1 (fun j => [[.n .u32 v3]].getD j []), eR37 (x2_r1 ++ [v3])]⟩ ?_
              refine cutK [0, 3] ⟨42, [(0, .ptr 0 0 0 0), (1, .i a1), (6, .own 1 1 0 (x2_r1 ++ [v3]).length), (7, .i 1), (17, .i 1), (23, .win 0 (12288 + (IntKind.wrap .i64 ((IntKind.wrap .i64 (Int.tdiv (IntKind.wrap .i64 (Int.tdiv a1 16)) 16)) * 16)).toNat) ((IntKind.wrap .i64 ((IntKind.wrap .i64 ((IntKind.wrap .i64 (Int.tdiv (IntKind.wrap .i64 (Int.tdiv a1 16)) 16)) + 1)) * 16)).toNat - (IntKind.wrap .i64 ((IntKind.wrap .i64 (Int.tdiv (IntKind.wrap .i64 (Int.tdiv a1 16)) 16)) * 16)).toNat)), (24, .i ((((IntKind.wrap .i64 ((IntKind.wrap .i64 ((IntKind.wrap .i64 (Int.tdiv (IntKind.wrap .i64 (Int.tdiv a1 16)) 16)) + 1)) * 16)).toNat - (IntKind.wrap .i64 ((IntKind.wrap .i64 (Int.tdiv (IntKind.wrap .i64 (Int.tdiv a1 16)) 16)) * 16)).toNat) : Nat) : Int)), (25, .i x2_25)], [eB91 a0, eR37 (x2_r1 ++ [v3])]⟩ h0 ?_
              exact Jj2 (x2_r1 ++ [v3]) H
          · replace H := sF c11 H
            rw [decide_eq_false c11]
            refine goK hT 27 (K28 11110100110010 3) ⟨42, [(0, .ptr 0 0 0 0), (1, .i a1), (6, .own 1 1 0 x2_r1.length), (7, .i 2), (17, .i 2), (20, .ptr 0 0 0 0), (21, .i 2), (22, .i a1)], [eB91 a0, eR37 x2_r1]⟩ ?_
            refine ak_callP (avs := [.ptr 0 0 0 0, .i 2, .i a1]) (dst := some 23) (k' := (K28 11110100110010 4)) [0, 1, 6, 7, 17, 23] [0] hP enters_45 (merkle_Tree_kids.says2 a0 2 a1 (by decide) (by decide)) (by kernel_rfl) (hands_one rfl rfl) (.cons (.same (.ptr 0 0 0 0)) (.cons (pass_d _) (.cons (pass_d _) .nil))) (st' := ⟨42, [(0, .ptr 0 0 0 0), (1, .i a1), (6, .own 1 1 0 x2_r1.length), (7, .i 2), (17, .i 2), (23, .win 0 12544 16)], [eB91 a0, eR37 x2_r1]⟩) (by kernel_rfl) ?_
            refine goK hT 5 (K28 111101001100110 0) ⟨42, [(0, .ptr 0 0 0 0), (1, .i a1), (6, .own 1 1 0 x2_r1.length), (7, .i 2), (17, .i 2), (23, .win 0 12544 16), (24, .i 16), (25, .i 0)], [eB91 a0, eR37 x2_r1]⟩ ?_
            refine cutK [0, 1] ⟨42, [(0, .ptr 0 0 0 0), (1, .i a1), (6, .own 1 1 0 x2_r1.length), (7, .i 2), (17, .i 2), (23, .win 0 12544 16), (24, .i 16), (25, .i 0)], [eB91 a0, eR37 x2_r1]⟩ h0 ?_
            exact ih.2.2 0 x2_r1 H
        · intro x3_25 x3_r1 H
          refine goK hT 5 (K28 11110100110011001 0) ⟨42, [(0, .ptr 0 0 0 0), (1, .i a1), (6, .own 1 1 0 x3_r1.length), (7, .i 2), (17, .i 2), (23, .win 0 12544 16), (24, .i 16), (25, .i x3_25), (26, .b (decide (x3_25 < 16)))], [eB91 a0, eR37 x3_r1]⟩ ?_
          by_cases c18 : x3_25 < 16
          · replace H := sT c18 H
            rw [decide_eq_true c18]
            refine goK hT 2 (K28 11110100110011001 1) ⟨42, [(0, .ptr 0 0 0 0), (1, .i a1), (6, .own 1 1 0 x3_r1.length), (7, .i 2), (17, .i 2), (23, .win 0 12544 16), (24, .i 16), (25, .i x3_25)], [eB91 a0, eR37 x3_r1]⟩ ?_
            refine goK hT 5 (K28 111101001100110011000 1) ⟨42, [(0, .ptr 0 0 0 0), (1, .i a1), (6, .own 1 1 0 x3_r1.length), (7, .i 2), (17, .i 2), (23, .win 0 12544 16), (24, .i 16), (25, .i x3_25), (27, .i x3_25)], [eB91 a0, eR37 x3_r1]⟩ ?_
            obtain ⟨h19, H⟩ := sC H
            refine ak_idx hT [0, 1, 6, 7, 17, 23, 24, 25, 27, 28] (i := x3_25) (n := 16) h19.1 h19.2 (k' := (K28 111101001100110011000 2)) (st' := ⟨42, [(0, .ptr 0 0 0 0), (1, .i a1), (6, .own 1 1 0 x3_r1.length), (7, .i 2), (17, .i 2), (23, .win 0 12544 16), (24, .i 16), (25, .i x3_25), (27, .i x3_25), (28, .ptr 0 0 0 (12544 + x3_25.toNat))], [eB91 a0, eR37 x3_r1]⟩) (by kernel_rfl) ?_
            refine ak_bld hT [0, 1, 6, 7, 17, 23, 24, 25, 27, 29] (A := 0 * 0 + (12544 + x3_25.toNat)) (s := 1) (n := 12561) (agg := false) (g := merkle_Tree.g a0) (dst := some 29) (k' := (K28 111101001100110011000 3)) ((eI .u32) (a0.mid x3_25.toNat)) (by kernel_rfl) (by omega) rfl (fun _ => rfl) (fun j hj => merkle_Tree.g_mid a0 (i := x3_25.toNat) (by omega) (by omega) hj) (st' := ⟨42, [(0, .ptr 0 0 0 0), (1, .i a1), (6, .own 1 1 0 x3_r1.length), (7, .i 2), (17, .i 2), (23, .win 0 12544 16), (24, .i 16), (25, .i x3_25), (27, .i x3_25), (29, .n .u32 (a0.mid x3_25.toNat))], [eB91 a0, eR37 x3_r1]⟩) (by kernel_rfl) ?_
            refine goK hT 8 (K28 1111010011001100110010 3) ⟨42, [(0, .ptr 0 0 0 0), (1, .i a1), (6, .own 1 1 0 x3_r1.length), (7, .i 2), (9, .n .u32 (a0.mid x3_25.toNat)), (17, .i 2), (23, .win 0 12544 16), (24, .i 16), (25, .i x3_25), (30, .i x3_25), (31, .i 2), (32, .i a1)], [eB91 a0, eR37 x3_r1]⟩ ?_
            obtain ⟨v5, h20, H⟩ := sbC H
            have Jj3 : ∀ (y3_r1 : List Int), stk (merkle_Tree_Prove.j3 x3_25 y3_r1) (iter (merkle_Tree_Prove.step a0 a1) n) = some r → AK X 28 ((K28 111101001100110011 1)) (Back X [eB91 a0, eR37 r.1] (.tup [.own 1 1 0 r.1.length, .i r.2])) ⟨42, [(0, .ptr 0 0 0 0), (1, .i a1), (6, .own 1 1 0 y3_r1.length), (7, .i 2), (17, .i 2), (23, .win 0 12544 16), (24, .i 16), (25, .i x3_25)], [eB91 a0, eR37 y3_r1]⟩ := by
              intro y3_r1 H
              refine goK hT 5 (K28 111101001100110 0) ⟨42, [(0, .ptr 0 0 0 0), (1, .i a1), (6, .own 1 1 0 y3_r1.length), (7, .i 2), (17, .i 2), (23, .win 0 12544 16), (24, .i 16), (25, .i (IntKind.wrap .i64 (x3_25 + 1)))], [eB91 a0, eR37 y3_r1]⟩ ?_
              refine cutK [0, 1] ⟨42, [(0, .ptr 0 0 0 0), (1, .i a1), (6, .own 1 1 0 y3_r1.length), (7, .i 2), (17, .i 2), (23, .win 0 12544 16), (24, .i 16), (25, .i (IntKind.wrap .i64 (x3_25 + 1)))], [eB91 a0, eR37 y3_r1]⟩ h0 ?_
              exact ih.2.2 (IntKind.wrap .i64 (x3_25 + 1)) y3_r1 H
            refine ak_callP (avs := [.i 2, .i a1]) (dst := some 33) (k' := (K28 1111010011001100110010 4)) [0, 1, 6, 7, 9, 17, 23, 24, 25, 30, 33] [] hP enters_46 (merkle_place.says 2 a1 h20) (by kernel_rfl) (hands_none _) (.cons (pass_d _) (.cons (pass_d _) .nil)) (st' := ⟨42, [(0, .ptr 0 0 0 0), (1, .i a1), (6, .own 1 1 0 x3_r1.length), (7, .i 2), (9, .n .u32 (a0.mid x3_25.toNat)), (17, .i 2), (23, .win 0 12544 16), (24, .i 16), (25, .i x3_25), (30, .i x3_25), (33, .i v5)], [eB91 a0, eR37 x3_r1]⟩) (by kernel_rfl) ?_
            refine goK hT 2 (K28 111101001100110011001 1) ⟨42, [(0, .ptr 0 0 0 0), (1, .i a1), (6, .own 1 1 0 x3_r1.length), (7, .i 2), (9, .n .u32 (a0.mid x3_25.toNat)), (17, .i 2), (23, .win 0 12544 16), (24, .i 16), (25, .i x3_25), (34, .b (x3_25 != v5))], [eB91 a0, eR37 x3_r1]⟩ ?_
            by_cases c21 : x3_25 = v5
            · replace H := sT c21 H
              rw [neF c21]
              refine goK hT 3 (K28 111101001100110011 1) ⟨42, [(0, .ptr 0 0 0 0), (1, .i a1), (6, .own 1 1 0 x3_r1.length), (7, .i 2), (17, .i 2), (23, .win 0 12544 16), (24, .i 16), (25, .i x3_25)], [eB91 a0, eR37 x3_r1]⟩ ?_
              refine cutK [0, 1] ⟨42, [(0, .ptr 0 0 0 0), (1, .i a1), (6, .own 1 1 0 x3_r1.length), (7, .i 2), (17, .i 2), (23, .win 0 12544 16), (24, .i 16), (25, .i x3_25)], [eB91 a0, eR37 x3_r1]⟩ h0 ?_
              exact Jj3 x3_r1 H
            · replace H := sF c21 H
              rw [neT c21]
              refine goK hT 5 (K28 11110100110011001100110 3) ⟨42, [(0, .ptr 0 0 0 0), (1, .i a1), (7, .i 2), (17, .i 2), (23, .win 0 12544 16), (24, .i 16), (25, .i x3_25), (35, .own 1 1 0 x3_r1.length), (37, .own 2 1 0 1)], [eB91 a0, eR37 x3_r1, .flat false 1 37 1 (fun j => [[.n .u32 (a0.mid x3_25.toNat)]].getD j [])]⟩ ?_
              obtain ⟨h22, H⟩ := sC H
              refine ak_append1 (id := 1) (kk := 1) (by' := 4) (t := 57) (e := 37) (z := [.int .u32 0]) (dst := some 38) (id2 := 2) (e2 := 37) (fz := false) (k' := (K28 11110100110011001100110 4)) hT (eI .u32) 0 x3_r1 (a0.mid x3_25.toNat) [0, 1, 7, 17, 23, 24, 25, 38] (by kernel_rfl) (by kernel_rfl) (by kernel_rfl) (by kernel_rfl) (by kernel_rfl) (by kernel_rfl) (by kernel_rfl) h22 (by omega) (st' := ⟨42, [(0, .ptr 0 0 0 0), (1, .i a1), (7, .i 2), (17, .i 2), (23, .win 0 12544 16), (24, .i 16), (25, .i x3_25), (38, .own 3 1 0 ((x3_r1 ++ [a0.mid x3_25.toNat]).length))], [eB91 a0, .gone, .flat false 1 37 1 (fun j => [[.n .u32 (a0.mid x3_25.toNat)]].getD j []), eR37 (x3_r1 ++ [a0.mid x3_25.toNat])]⟩) (by kernel_rfl) ?_
              refine goK hT 3 (K28 111101001100110011 1) ⟨42, [(0, .ptr 0 0 0 0), (1, .i a1), (6, .own 3 1 0 ((x3_r1 ++ [a0.mid x3_25.toNat]).length)), (7, .i 2), (17, .i 2), (23, .win 0 12544 16), (24, .i 16), (25, .i x3_25)], [eB91 a0, .gone, .flat false 1 37 1 (fun j => [[.n .u32 (a0.mid x3_25.toNat)]].getD j []), eR37 (x3_r1 ++ [a0.mid x3_25.toNat])]⟩ ?_
              refine cutK [0, 3] ⟨42, [(0, .ptr 0 0 0 0), (1, .i a1), (6, .own 1 1 0 (x3_r1 ++ [a0.mid x3_25.toNat]).length), (7, .i 2), (17, .i 2), (23, .win 0 12544 16), (24, .i 16), (25, .i x3_25)], [eB91 a0, eR37 (x3_r1 ++ [a0.mid x3_25.toNat])]⟩ h0 ?_
              exact Jj3 (x3_r1 ++ [a0.mid x3_25.toNat]) H
          · replace H := sF c18 H
            rw [decide_eq_false c18]
            refine goK hT 21 (K28 11111 1) ⟨42, [(4, .own 1 1 0 x3_r1.length), (5, .i 0)], [eB91 a0, eR37 x3_r1]⟩ ?_
            obtain rfl := retC H
            exact ak_ret hf hX (av := .tup [.own 1 1 0 x3_r1.length, .i 0]) (by kernel_rfl) [0, 1] (sel_of_eq (by kernel_rfl)) (by decide) (by rw [h0]; rfl) (by kernel_rfl) (fun _ h => all_cons (.flat fun _ _ => merkle_Tree.gnl _ _) (fun _ h => all_cons (nr_vec (nlI .u32)) (fun _ h => all_nil h) h) h) (.tup (.cons (.own _ _ _ _) (.cons (.d (.v _)) .nil)))
    refine cutK [0, 1] ⟨42, [(0, .ptr 0 0 0 0), (1, .i a1), (6, .own 1 1 0 ([] : List Int).length), (7, .i 0), (17, .i 0), (23, .win 0 (8192 + (IntKind.wrap .i64 ((IntKind.wrap .i64 (Int.tdiv a1 16)) * 16)).toNat) ((IntKind.wrap .i64 ((IntKind.wrap .i64 ((IntKind.wrap .i64 (Int.tdiv a1 16)) + 1)) * 16)).toNat - (IntKind.wrap .i64 ((IntKind.wrap .i64 (Int.tdiv a1 16)) * 16)).toNat)), (24, .i ((((IntKind.wrap .i64 ((IntKind.wrap .i64 ((IntKind.wrap .i64 (Int.tdiv a1 16)) + 1)) * 16)).toNat - (IntKind.wrap .i64 ((IntKind.wrap .i64 (Int.tdiv a1 16)) * 16)).toNat) : Nat) : Int)), (25, .i 0)], [eB91 a0, eR37 ([] : List Int)]⟩ h0 ?_
    obtain ⟨n, H⟩ := loopC H
    exact (L n).1 0 ([] : List Int) H
  · replace H := iF c1 H
    rw [boF c1]
    refine goK hT 6 (K28 11010 1) ⟨42, [(4, .ns), (5, .i 1)], [eB91 a0]⟩ ?_
    refine ak_nilS [4, 5] 4 1 37 (vec (eI .u32) 0 []) (st' := ⟨42, [(4, .own 1 1 0 0), (5, .i 1)], [eB91 a0, eR37 ([] : List Int)]⟩) (by kernel_rfl) (by kernel_rfl) ?_
    obtain rfl := retC H
    exact ak_ret hf hX (av := .tup [.own 1 1 0 0, .i 1]) (by kernel_rfl) [0, 1] (sel_of_eq (by kernel_rfl)) (by decide) (by rw [h0]; rfl) (by kernel_rfl) (fun _ h => all_cons (.flat fun _ _ => merkle_Tree.gnl _ _) (fun _ h => all_cons (nr_vec (nlI .u32)) (fun _ h => all_nil h) h) h) (.tup (.cons (.own _ _ _ _) (.cons (.d (.v _)) .nil)))


theorem merkle_Verify.says {t3 : Bool} (a0 : Int) (a1 : Int) (a2 : api_Cell) (a3 : List Int) {r : Bool} (H : merkle_Verify a0 a1 a2 a3 = some r) : Says Try.prog 31 [] [.n .u32 a0, .i a1, .d (eG48 a2), .d (eL37 t3 a3)] [] (.b r) := by
  refine says_of Try.func31 rfl (nt := 45) rfl (Nat.le_of_ble_eq_true rfl) fun X hP h0 hX => ?_
  have hT : TabOk X.P T := hP ▸ tok
  have hf : X.P.funcs[31]? = some Try.f31 := hP ▸ Try.func31
  have Jj1 : ∀ (y1_19 : Bool), (merkle_Verify.j1 a0 a1 a2 a3 y1_19) = some r → AK X 31 ((K31 110 1)) (Back X [] (.b r)) ⟨45, [(0, .n .u32 a0), (1, .i a1), (3, .d (eL37 t3 a3)), (6, .ptr 0 0 0 0), (19, .b y1_19)], [.box 48 (eC48 a2)]⟩ := by
    intro y1_19 H
    by_cases c2 : y1_19 = true
    · replace H := iT c2 H
      rw [c2]
      refine goK hT 5 (K31 11010 1) ⟨45, [(8, .b false)], [.box 48 (eC48 a2)]⟩ ?_
      obtain rfl := retC H
      exact ak_ret hf hX (av := .b false) (by kernel_rfl) [] (sel_of_eq (by kernel_rfl)) (by decide) (by rw [h0]; rfl) (by kernel_rfl) (fun _ h => all_nil h) (.d (.v _))
    · replace H := iF c2 H
      rw [boF c2]
      refine goK hT 2 (K31 11 1) ⟨45, [(0, .n .u32 a0), (1, .i a1), (3, .d (eL37 t3 a3)), (6, .ptr 0 0 0 0)], [.box 48 (eC48 a2)]⟩ ?_
      refine goK hT 3 (K31 1110 1) ⟨45, [(0, .n .u32 a0), (1, .i a1), (3, .d (eL37 t3 a3)), (20, .d (eG48 a2))], [.box 48 (eC48 a2)]⟩ ?_
      obtain ⟨v1, h3, H⟩ := ibC H
      refine ak_callP (avs := [.d (eG48 a2)]) (dst := some 21) (k' := (K31 1110 2)) [0, 1, 3, 21] [] hP enters_19 (merkle_Number.says a2 h3) (by kernel_rfl) (hands_none _) (.cons (pass_d _) .nil) (st' := ⟨45, [(0, .n .u32 a0), (1, .i a1), (3, .d (eL37 t3 a3)), (21, .n .u32 v1)], [.box 48 (eC48 a2)]⟩) (by kernel_rfl) ?_
      refine goK hT 31 (K31 11110100110010 6) ⟨45, [(0, .n .u32 a0), (1, .i a1), (3, .d (eL37 t3 a3)), (9, .n .u32 v1), (10, .i 0), (22, .i 0), (25, .d (eL37 t3 a3)), (27, .i 0), (30, .i 15)], [.box 48 (eC48 a2)]⟩ ?_
      obtain ⟨h4, H⟩ := iC H
      refine ak_sliceL (tg := t3) (s := 1) (l := (some (.i64, 0))) (h := (some (.i64, 15))) (dst := some 31) (k' := (K31 11110100110010 7)) hT [0, 1, 3, 9, 10, 22, 31] (eI .u32) 0 a3 (by kernel_rfl) h4 (fun _ => rfl) (st' := ⟨45, [(0, .n .u32 a0), (1, .i a1), (3, .d (eL37 t3 a3)), (9, .n .u32 v1), (10, .i 0), (22, .i 0), (31, .d (eL37 t3 ((a3.drop 0).take (15 - 0))))], [.box 48 (eC48 a2)]⟩) (by kernel_rfl) ?_
      refine goK hT 4 (K31 11110100110011 1) ⟨45, [(0, .n .u32 a0), (1, .i a1), (3, .d (eL37 t3 a3)), (9, .n .u32 v1), (10, .i 0), (22, .i 0), (32, .d (eL37 t3 ((a3.drop 0).take (15 - 0))))], [.box 48 (eC48 a2)]⟩ ?_
      obtain ⟨h5, H⟩ := iC H
      refine ak_callP (avs := [.d (eL37 t3 ((a3.drop 0).take (15 - 0)))]) (dst := some 33) (k' := (K31 11110100110011 2)) [0, 1, 3, 9, 10, 22, 33] [] hP enters_50 (clone50 (tg := t3) ((a3.drop 0).take (15 - 0)) h5) (by kernel_rfl) (hands_none _) (.cons (pass_d _) .nil) (st' := ⟨45, [(0, .n .u32 a0), (1, .i a1), (3, .d (eL37 t3 a3)), (9, .n .u32 v1), (10, .i 0), (22, .i 0), (33, .own 1 1 0 (((a3.drop 0).take (15 - 0)).length))], [.box 48 (eC48 a2), eR37 ((a3.drop 0).take (15 - 0))]⟩) (by kernel_rfl) ?_
      refine goK hT 2 (K31 11110100110011 4) ⟨45, [(0, .n .u32 a0), (1, .i a1), (3, .d (eL37 t3 a3)), (9, .n .u32 v1), (22, .i 0), (33, .own 1 1 0 (((a3.drop 0).take (15 - 0)).length)), (34, .i 0), (35, .i a1)], [.box 48 (eC48 a2), eR37 ((a3.drop 0).take (15 - 0))]⟩ ?_
      obtain ⟨v2, h6, H⟩ := ibC H
      refine ak_callP (avs := [.i 0, .i a1]) (dst := some 36) (k' := (K31 11110100110011 5)) [0, 1, 3, 9, 22, 33, 36] [] hP enters_46 (merkle_place.says 0 a1 h6) (by kernel_rfl) (hands_none _) (.cons (pass_d _) (.cons (pass_d _) .nil)) (st' := ⟨45, [(0, .n .u32 a0), (1, .i a1), (3, .d (eL37 t3 a3)), (9, .n .u32 v1), (22, .i 0), (33, .own 1 1 0 (((a3.drop 0).take (15 - 0)).length)), (36, .i v2)], [.box 48 (eC48 a2), eR37 ((a3.drop 0).take (15 - 0))]⟩) (by kernel_rfl) ?_
      refine goK hT 2 (K31 11110100110011 7) ⟨45, [(0, .n .u32 a0), (1, .i a1), (3, .d (eL37 t3 a3)), (22, .i 0), (33, .own 1 1 0 (((a3.drop 0).take (15 - 0)).length)), (36, .i v2), (38, .own 2 1 0 1)], [.box 48 (eC48 a2), eR37 ((a3.drop 0).take (15 - 0)), .flat false 1 37 1 (fun j => [[.n .u32 v1]].getD j [])]⟩ ?_
      obtain ⟨h7, H⟩ := iC H
      refine ak_callP (avs := [.own 1 1 0 (((a3.drop 0).take (15 - 0)).length), .i v2, .own 2 1 0 1]) (dst := some 39) (k' := (K31 11110100110011 8)) [0, 1, 3, 22, 39] [1, 2] hP enters_49 (insert49 ((a3.drop 0).take (15 - 0)) v2 v1 h7) (by kernel_rfl) (hands_two rfl rfl rfl rfl (by decide)) (.cons (.same (.own 0 1 0 (((a3.drop 0).take (15 - 0)).length))) (.cons (pass_d _) (.cons (.same (.own 1 1 0 1)) .nil))) (st' := ⟨45, [(0, .n .u32 a0), (1, .i a1), (3, .d (eL37 t3 a3)), (22, .i 0), (39, .own 3 1 0 ((((a3.drop 0).take (15 - 0)).take v2.toNat ++ v1 :: ((a3.drop 0).take (15 - 0)).drop v2.toNat).length))], [.box 48 (eC48 a2), .gone, .gone, eR37 (((a3.drop 0).take (15 - 0)).take v2.toNat ++ v1 :: ((a3.drop 0).take (15 - 0)).drop v2.toNat)]⟩) (by kernel_rfl) ?_
      obtain ⟨v3, h8, H⟩ := ibC H
      refine ak_callP (avs := [.own 3 1 0 ((((a3.drop 0).take (15 - 0)).take v2.toNat ++ v1 :: ((a3.drop 0).take (15 - 0)).drop v2.toNat).length)]) (dst := some 40) (k' := (K31 11110100110011 9)) [0, 1, 3, 22, 40] [] hP enters_48 (merkle_over.says (t0 := false) (((a3.drop 0).take (15 - 0)).take v2.toNat ++ v1 :: ((a3.drop 0).take (15 - 0)).drop v2.toNat) h8) (by kernel_rfl) (hands_none _) (.cons (.lend (ty := 37) (by kernel_rfl) rfl) .nil) (st' := ⟨45, [(0, .n .u32 a0), (1, .i a1), (3, .d (eL37 t3 a3)), (22, .i 0), (40, .n .u32 v3)], [.box 48 (eC48 a2), .gone, .gone, eR37 (((a3.drop 0).take (15 - 0)).take v2.toNat ++ v1 :: ((a3.drop 0).take (15 - 0)).drop v2.toNat)]⟩) (by kernel_rfl) ?_
      refine goK hT 30 (K31 11110100110010 6) ⟨45, [(0, .n .u32 a0), (1, .i a1), (3, .d (eL37 t3 a3)), (9, .n .u32 v3), (10, .i 1), (22, .i 1), (25, .d (eL37 t3 a3)), (27, .i 15), (30, .i 30)], [.box 48 (eC48 a2), .gone, .gone, eR37 (((a3.drop 0).take (15 - 0)).take v2.toNat ++ v1 :: ((a3.drop 0).take (15 - 0)).drop v2.toNat)]⟩ ?_
      obtain ⟨h9, H⟩ := iC H
      refine ak_sliceL (tg := t3) (s := 1) (l := (some (.i64, 15))) (h := (some (.i64, 30))) (dst := some 31) (k' := (K31 11110100110010 7)) hT [0, 1, 3, 9, 10, 22, 31] (eI .u32) 0 a3 (by kernel_rfl) h9 (fun _ => rfl) (st' := ⟨45, [(0, .n .u32 a0), (1, .i a1), (3, .d (eL37 t3 a3)), (9, .n .u32 v3), (10, .i 1), (22, .i 1), (31, .d (eL37 t3 ((a3.drop 15).take (30 - 15))))], [.box 48 (eC48 a2), .gone, .gone, eR37 (((a3.drop 0).take (15 - 0)).take v2.toNat ++ v1 :: ((a3.drop 0).take (15 - 0)).drop v2.toNat)]⟩) (by kernel_rfl) ?_
      refine goK hT 4 (K31 11110100110011 1) ⟨45, [(0, .n .u32 a0), (1, .i a1), (3, .d (eL37 t3 a3)), (9, .n .u32 v3), (10, .i 1), (22, .i 1), (32, .d (eL37 t3 ((a3.drop 15).take (30 - 15))))], [.box 48 (eC48 a2), .gone, .gone, eR37 (((a3.drop 0).take (15 - 0)).take v2.toNat ++ v1 :: ((a3.drop 0).take (15 - 0)).drop v2.toNat)]⟩ ?_
      obtain ⟨h10, H⟩ := iC H
      refine ak_callP (avs := [.d (eL37 t3 ((a3.drop 15).take (30 - 15)))]) (dst := some 33) (k' := (K31 11110100110011 2)) [0, 1, 3, 9, 10, 22, 33] [] hP enters_50 (clone50 (tg := t3) ((a3.drop 15).take (30 - 15)) h10) (by kernel_rfl) (hands_none _) (.cons (pass_d _) .nil) (st' := ⟨45, [(0, .n .u32 a0), (1, .i a1), (3, .d (eL37 t3 a3)), (9, .n .u32 v3), (10, .i 1), (22, .i 1), (33, .own 4 1 0 (((a3.drop 15).take (30 - 15)).length))], [.box 48 (eC48 a2), .gone, .gone, eR37 (((a3.drop 0).take (15 - 0)).take v2.toNat ++ v1 :: ((a3.drop 0).take (15 - 0)).drop v2.toNat), eR37 ((a3.drop 15).take (30 - 15))]⟩) (by kernel_rfl) ?_
      refine goK hT 2 (K31 11110100110011 4) ⟨45, [(0, .n .u32 a0), (1, .i a1), (3, .d (eL37 t3 a3)), (9, .n .u32 v3), (22, .i 1), (33, .own 4 1 0 (((a3.drop 15).take (30 - 15)).length)), (34, .i 1), (35, .i a1)], [.box 48 (eC48 a2), .gone, .gone, eR37 (((a3.drop 0).take (15 - 0)).take v2.toNat ++ v1 :: ((a3.drop 0).take (15 - 0)).drop v2.toNat), eR37 ((a3.drop 15).take (30 - 15))]⟩ ?_
      obtain ⟨v4, h11, H⟩ := ibC H
      refine ak_callP (avs := [.i 1, .i a1]) (dst := some 36) (k' := (K31 11110100110011 5)) [0, 1, 3, 9, 22, 33, 36] [] hP enters_46 (merkle_place.says 1 a1 h11) (by kernel_rfl) (hands_none _) (.cons (pass_d _) (.cons (pass_d _) .nil)) (st' := ⟨45, [(0, .n .u32 a0), (1, .i a1), (3, .d (eL37 t3 a3)), (9, .n .u32 v3), (22, .i 1), (33, .own 4 1 0 (((a3.drop 15).take (30 - 15)).length)), (36, .i v4)], [.box 48 (eC48 a2), .gone, .gone, eR37 (((a3.drop 0).take (15 - 0)).take v2.toNat ++ v1 :: ((a3.drop 0).take (15 - 0)).drop v2.toNat), eR37 ((a3.drop 15).take (30 - 15))]⟩) (by kernel_rfl) ?_
      refine goK hT 2 (K31 11110100110011 7) ⟨45, [(0, .n .u32 a0), (1, .i a1), (3, .d (eL37 t3 a3)), (22, .i 1), (33, .own 4 1 0 (((a3.drop 15).take (30 - 15)).length)), (36, .i v4), (38, .own 5 1 0 1)], [.box 48 (eC48 a2), .gone, .gone, eR37 (((a3.drop 0).take (15 - 0)).take v2.toNat ++ v1 :: ((a3.drop 0).take (15 - 0)).drop v2.toNat), eR37 ((a3.drop 15).take (30 - 15)), .flat false 1 37 1 (fun j => [[.n .u32 v3]].getD j [])]⟩ ?_
      obtain ⟨h12, H⟩ := iC H
      refine ak_callP (avs := [.own 4 1 0 (((a3.drop 15).take (30 - 15)).length), .i v4, .own 5 1 0 1]) (dst := some 39) (k' := (K31 11110100110011 8)) [0, 1, 3, 22, 39] [4, 5] hP enters_49 (insert49 ((a3.drop 15).take (30 - 15)) v4 v3 h12) (by kernel_rfl) (hands_two rfl rfl rfl rfl (by decide)) (.cons (.same (.own 0 1 0 (((a3.drop 15).take (30 - 15)).length))) (.cons (pass_d _) (.cons (.same (.own 1 1 0 1)) .nil))) (st' := ⟨45, [(0, .n .u32 a0), (1, .i a1), (3, .d (eL37 t3 a3)), (22, .i 1), (39, .own 6 1 0 ((((a3.drop 15).take (30 - 15)).take v4.toNat ++ v3 :: ((a3.drop 15).take (30 - 15)).drop v4.toNat).length))], [.box 48 (eC48 a2), .gone, .gone, eR37 (((a3.drop 0).take (15 - 0)).take v2.toNat ++ v1 :: ((a3.drop 0).take (15 - 0)).drop v2.toNat), .gone, .gone, eR37 (((a3.drop 15).take (30 - 15)).take v4.toNat ++ v3 :: ((a3.drop 15).take (30 - 15)).drop v4.toNat)]⟩) (by kernel_rfl) ?_
      obtain ⟨v5, h13, H⟩ := ibC H
      refine ak_callP (avs := [.own 6 1 0 ((((a3.drop 15).take (30 - 15)).take v4.toNat ++ v3 :: ((a3.drop 15).take (30 - 15)).drop v4.toNat).length)]) (dst := some 40) (k' := (K31 11110100110011 9)) [0, 1, 3, 22, 40] [] hP enters_48 (merkle_over.says (t0 := false) (((a3.drop 15).take (30 - 15)).take v4.toNat ++ v3 :: ((a3.drop 15).take (30 - 15)).drop v4.toNat) h13) (by kernel_rfl) (hands_none _) (.cons (.lend (ty := 37) (by kernel_rfl) rfl) .nil) (st' := ⟨45, [(0, .n .u32 a0), (1, .i a1), (3, .d (eL37 t3 a3)), (22, .i 1), (40, .n .u32 v5)], [.box 48 (eC48 a2), .gone, .gone, eR37 (((a3.drop 0).take (15 - 0)).take v2.toNat ++ v1 :: ((a3.drop 0).take (15 - 0)).drop v2.toNat), .gone, .gone, eR37 (((a3.drop 15).take (30 - 15)).take v4.toNat ++ v3 :: ((a3.drop 15).take (30 - 15)).drop v4.toNat)]⟩) (by kernel_rfl) ?_
      refine goK hT 30 (K31 11110100110010 6) ⟨45, [(0, .n .u32 a0), (1, .i a1), (3, .d (eL37 t3 a3)), (9, .n .u32 v5), (10, .i 2), (22, .i 2), (25, .d (eL37 t3 a3)), (27, .i 30), (30, .i 45)], [.box 48 (eC48 a2), .gone, .gone, eR37 (((a3.drop 0).take (15 - 0)).take v2.toNat ++ v1 :: ((a3.drop 0).take (15 - 0)).drop v2.toNat), .gone, .gone, eR37 (((a3.drop 15).take (30 - 15)).take v4.toNat ++ v3 :: ((a3.drop 15).take (30 - 15)).drop v4.toNat)]⟩ ?_
      obtain ⟨h14, H⟩ := iC H
      refine ak_sliceL (tg := t3) (s := 1) (l := (some (.i64, 30))) (h := (some (.i64, 45))) (dst := some 31) (k' := (K31 11110100110010 7)) hT [0, 1, 3, 9, 10, 22, 31] (eI .u32) 0 a3 (by kernel_rfl) h14 (fun _ => rfl) (st' := ⟨45, [(0, .n .u32 a0), (1, .i a1), (3, .d (eL37 t3 a3)), (9, .n .u32 v5), (10, .i 2), (22, .i 2), (31, .d (eL37 t3 ((a3.drop 30).take (45 - 30))))], [.box 48 (eC48 a2), .gone, .gone, eR37 (((a3.drop 0).take (15 - 0)).take v2.toNat ++ v1 :: ((a3.drop 0).take (15 - 0)).drop v2.toNat), .gone, .gone, eR37 (((a3.drop 15).take (30 - 15)).take v4.toNat ++ v3 :: ((a3.drop 15).take (30 - 15)).drop v4.toNat)]⟩) (by kernel_rfl) ?_
      refine goK hT 4 (K31 11110100110011 1) ⟨45, [(0, .n .u32 a0), (1, .i a1), (3, .d (eL37 t3 a3)), (9, .n .u32 v5), (10, .i 2), (22, .i 2), (32, .d (eL37 t3 ((a3.drop 30).take (45 - 30))))], [.box 48 (eC48 a2), .gone, .gone, eR37 (((a3.drop 0).take (15 - 0)).take v2.toNat ++ v1 :: ((a3.drop 0).take (15 - 0)).drop v2.toNat), .gone, .gone, eR37 (((a3.drop 15).take (30 - 15)).take v4.toNat ++ v3 :: ((a3.drop 15).take (30 - 15)).drop v4.toNat)]⟩ ?_
      obtain ⟨h15, H⟩ := iC H
      refine ak_callP (avs := [.d (eL37 t3 ((a3.drop 30).take (45 - 30)))]) (dst := some 33) (k' := (K31 11110100110011 2)) [0, 1, 3, 9, 10, 22, 33] [] hP enters_50 (clone50 (tg := t3) ((a3.drop 30).take (45 - 30)) h15) (by kernel_rfl) (hands_none _) (.cons (pass_d _) .nil) (st' := ⟨45, [(0, .n .u32 a0), (1, .i a1), (3, .d (eL37 t3 a3)), (9, .n .u32 v5), (10, .i 2), (22, .i 2), (33, .own 7 1 0 (((a3.drop 30).take (45 - 30)).length))], [.box 48 (eC48 a2), .gone, .gone, eR37 (((a3.drop 0).take (15 - 0)).take v2.toNat ++ v1 :: ((a3.drop 0).take (15 - 0)).drop v2.toNat), .gone, .gone, eR37 (((a3.drop 15).take (30 - 15)).take v4.toNat ++ v3 :: ((a3.drop 15).take (30 - 15)).drop v4.toNat), eR37 ((a3.drop 30).take (45 - 30))]⟩) (by kernel_rfl) ?_
      refine goK hT 2 (K31 11110100110011 4) ⟨45, [(0, .n .u32 a0), (1, .i a1), (3, .d (eL37 t3 a3)), (9, .n .u32 v5), (22, .i 2), (33, .own 7 1 0 (((a3.drop 30).take (45 - 30)).length)), (34, .i 2), (35, .i a1)], [.box 48 (eC48 a2), .gone, .gone, eR37 (((a3.drop 0).take (15 - 0)).take v2.toNat ++ v1 :: ((a3.drop 0).take (15 - 0)).drop v2.toNat), .gone, .gone, eR37 (((a3.drop 15).take (30 - 15)).take v4.toNat ++ v3 :: ((a3.drop 15).take (30 - 15)).drop v4.toNat), eR37 ((a3.drop 30).take (45 - 30))]⟩ ?_
      obtain ⟨v6, h16, H⟩ := ibC H
      refine ak_callP (avs := [.i 2, .i a1]) (dst := some 36) (k' := (K31 11110100110011 5)) [0, 1, 3, 9, 22, 33, 36] [] hP enters_46 (merkle_place.says 2 a1 h16) (by kernel_rfl) (hands_none _) (.cons (pass_d _) (.cons (pass_d _) .nil)) (st' := ⟨45, [(0, .n .u32 a0), (1, .i a1), (3, .d (eL37 t3 a3)), (9, .n .u32 v5), (22, .i 2), (33, .own 7 1 0 (((a3.drop 30).take (45 - 30)).length)), (36, .i v6)], [.box 48 (eC48 a2), .gone, .gone, eR37 (((a3.drop 0).take (15 - 0)).take v2.toNat ++ v1 :: ((a3.drop 0).take (15 - 0)).drop v2.toNat), .gone, .gone, eR37 (((a3.drop 15).take (30 - 15)).take v4.toNat ++ v3 :: ((a3.drop 15).take (30 - 15)).drop v4.toNat), eR37 ((a3.drop 30).take (45 - 30))]⟩) (by kernel_rfl) ?_
      refine goK hT 2 (K31 11110100110011 7) ⟨45, [(0, .n .u32 a0), (1, .i a1), (3, .d (eL37 t3 a3)), (22, .i 2), (33, .own 7 1 0 (((a3.drop 30).take (45 - 30)).length)), (36, .i v6), (38, .own 8 1 0 1)], [.box 48 (eC48 a2), .gone, .gone, eR37 (((a3.drop 0).take (15 - 0)).take v2.toNat ++ v1 :: ((a3.drop 0).take (15 - 0)).drop v2.toNat), .gone, .gone, eR37 (((a3.drop 15).take (30 - 15)).take v4.toNat ++ v3 :: ((a3.drop 15).take (30 - 15)).drop v4.toNat), eR37 ((a3.drop 30).take (45 - 30)), .flat false 1 37 1 (fun j => [[.n .u32 v5]].getD j [])]⟩ ?_
      obtain ⟨h17, H⟩ := iC H
      refine ak_callP (avs := [.own 7 1 0 (((a3.drop 30).take (45 - 30)).length), .i v6, .own 8 1 0 1]) (dst := some 39) (k' := (K31 11110100110011 8)) [0, 1, 3, 22, 39] [7, 8] hP enters_49 (insert49 ((a3.drop 30).take (45 - 30)) v6 v5 h17) (by kernel_rfl) (hands_two rfl rfl rfl rfl (by decide)) (.cons (.same (.own 0 1 0 (((a3.drop 30).take (45 - 30)).length))) (.cons (pass_d _) (.cons (.same (.own 1 1 0 1)) .nil))) (st' := ⟨45, [(0, .n .u32 a0), (1, .i a1), (3, .d (eL37 t3 a3)), (22, .i 2), (39, .own 9 1 0 ((((a3.drop 30).take (45 - 30)).take v6.toNat ++ v5 :: ((a3.drop 30).take (45 - 30)).drop v6.toNat).length))], [.box 48 (eC48 a2), .gone, .gone, eR37 (((a3.drop 0).take (15 - 0)).take v2.toNat ++ v1 :: ((a3.drop 0).take (15 - 0)).drop v2.toNat), .gone, .gone, eR37 (((a3.drop 15).take (30 - 15)).take v4.toNat ++ v3 :: ((a3.drop 15).take (30 - 15)).drop v4.toNat), .gone, .gone, eR37 (((a3.drop 30).take (45 - 30)).take v6.toNat ++ v5 :: ((a3.drop 30).take (45 - 30)).drop v6.toNat)]⟩) (by kernel_rfl) ?_
      obtain ⟨v7, h18, H⟩ := ibC H
      refine ak_callP (avs := [.own 9 1 0 ((((a3.drop 30).take (45 - 30)).take v6.toNat ++ v5 :: ((a3.drop 30).take (45 - 30)).drop v6.toNat).length)]) (dst := some 40) (k' := (K31 11110100110011 9)) [0, 1, 3, 22, 40] [] hP enters_48 (merkle_over.says (t0 := false) (((a3.drop 30).take (45 - 30)).take v6.toNat ++ v5 :: ((a3.drop 30).take (45 - 30)).drop v6.toNat) h18) (by kernel_rfl) (hands_none _) (.cons (.lend (ty := 37) (by kernel_rfl) rfl) .nil) (st' := ⟨45, [(0, .n .u32 a0), (1, .i a1), (3, .d (eL37 t3 a3)), (22, .i 2), (40, .n .u32 v7)], [.box 48 (eC48 a2), .gone, .gone, eR37 (((a3.drop 0).take (15 - 0)).take v2.toNat ++ v1 :: ((a3.drop 0).take (15 - 0)).drop v2.toNat), .gone, .gone, eR37 (((a3.drop 15).take (30 - 15)).take v4.toNat ++ v3 :: ((a3.drop 15).take (30 - 15)).drop v4.toNat), .gone, .gone, eR37 (((a3.drop 30).take (45 - 30)).take v6.toNat ++ v5 :: ((a3.drop 30).take (45 - 30)).drop v6.toNat)]⟩) (by kernel_rfl) ?_
      refine goK hT 22 (K31 11111 1) ⟨45, [(8, .b (v7 == a0))], [.box 48 (eC48 a2), .gone, .gone, eR37 (((a3.drop 0).take (15 - 0)).take v2.toNat ++ v1 :: ((a3.drop 0).take (15 - 0)).drop v2.toNat), .gone, .gone, eR37 (((a3.drop 15).take (30 - 15)).take v4.toNat ++ v3 :: ((a3.drop 15).take (30 - 15)).drop v4.toNat), .gone, .gone, eR37 (((a3.drop 30).take (45 - 30)).take v6.toNat ++ v5 :: ((a3.drop 30).take (45 - 30)).drop v6.toNat)]⟩ ?_
      obtain rfl := retC H
      exact ak_ret hf hX (av := .b (v7 == a0)) (by kernel_rfl) [] (sel_of_eq (by kernel_rfl)) (by decide) (by rw [h0]; rfl) (by kernel_rfl) (fun _ h => all_nil h) (.d (.v _))
  refine goK hT 12 (K31 1100 4) ⟨45, [(0, .n .u32 a0), (1, .i a1), (3, .d (eL37 t3 a3)), (6, .ptr 0 0 0 0), (15, .b ((a3.length : Int) != 45))], [.box 48 (eC48 a2)]⟩ ?_
  by_cases c1 : (a3.length : Int) = 45
  · replace H := iT c1 H
    rw [neF c1]
    refine goK hT 1 (K31 1100 5) ⟨45, [(0, .n .u32 a0), (1, .i a1), (3, .d (eL37 t3 a3)), (6, .ptr 0 0 0 0), (15, .b false), (16, .i a1)], [.box 48 (eC48 a2)]⟩ ?_
    refine ak_callP (avs := [.i a1]) (dst := some 17) (k' := (K31 1100 6)) [0, 1, 3, 6, 15, 17] [] hP enters_43 (merkle_isKey.says a1) (by kernel_rfl) (hands_none _) (.cons (pass_d _) .nil) (st' := ⟨45, [(0, .n .u32 a0), (1, .i a1), (3, .d (eL37 t3 a3)), (6, .ptr 0 0 0 0), (15, .b false), (17, .b (merkle_isKey a1))], [.box 48 (eC48 a2)]⟩) (by kernel_rfl) ?_
    refine goK hT 3 (K31 110 1) ⟨45, [(0, .n .u32 a0), (1, .i a1), (3, .d (eL37 t3 a3)), (6, .ptr 0 0 0 0), (19, .b (!(merkle_isKey a1)))], [.box 48 (eC48 a2)]⟩ ?_
    refine cutK [0] ⟨45, [(0, .n .u32 a0), (1, .i a1), (3, .d (eL37 t3 a3)), (6, .ptr 0 0 0 0), (19, .b (!(merkle_isKey a1)))], [.box 48 (eC48 a2)]⟩ h0 ?_
    exact Jj1 (!(merkle_isKey a1)) H
  · replace H := iF c1 H
    rw [neT c1]
    refine goK hT 5 (K31 110 1) ⟨45, [(0, .n .u32 a0), (1, .i a1), (3, .d (eL37 t3 a3)), (6, .ptr 0 0 0 0), (19, .b true)], [.box 48 (eC48 a2)]⟩ ?_
    refine cutK [0] ⟨45, [(0, .n .u32 a0), (1, .i a1), (3, .d (eL37 t3 a3)), (6, .ptr 0 0 0 0), (19, .b true)], [.box 48 (eC48 a2)]⟩ h0 ?_
    exact Jj1 true H


theorem splicelaw20_MerkleForged.says {t0 : Bool} (a0 : List api_Pair) (a1 : Int) (a2 : splicelaw20_Bits) {r : Bool} (H : splicelaw20_MerkleForged a0 a1 a2 = some r) : Says Try.prog 8 [] [.d (eL42 t0 a0), .i a1, .d (eG74 a2)] [] (.b r) := by
  refine says_of Try.func8 rfl (nt := 91) rfl (Nat.le_of_ble_eq_true rfl) fun X hP h0 hX => ?_
  have hT : TabOk X.P T := hP ▸ tok
  have hf : X.P.funcs[8]? = some Try.f8 := hP ▸ Try.func8
  refine goK hT 6 (K8 11 0) ⟨91, [(0, .d (eL42 t0 a0)), (1, .i a1), (5, .ptr 0 0 0 0)], [.box 74 (eC74 a2)]⟩ ?_
  refine drawK (hP ▸ mixed) 5 [0, 1, 5] [some (.ptr 0 0 0 0), some (.n .u32 a2.Bits), some (.ptr 0 0 0 1), some (.n .u8 a2.At), some (.n .u32 a2.Bits)] (opG (opG (opG (opG (opG op0 hT) hT) hT) hT) hT) ?_
  refine goK hT 5 (K8 1110 1) ⟨91, [(0, .d (eL42 t0 a0)), (1, .i a1), (7, .n .u32 a2.Bits), (8, .n .u8 a2.At), (20, .d (eL42 t0 a0))], [.box 74 (eC74 a2)]⟩ ?_
  obtain ⟨v1, h1, H⟩ := ibC H
  cases q2 : v1.1 with
  | none =>
      rw [q2] at H
      replace H := ioptN H
      have Jj1 : (splicelaw20_MerkleForged.j1) = some r → AK X 8 ((K8 11110 1)) (Back X [] (.b r)) ⟨91, [(0, .d (eL42 t0 a0)), (1, .i a1), (7, .n .u32 a2.Bits), (8, .n .u8 a2.At), (9, .d .np), (39, .b true)], []⟩ := by
        intro H
        refine goK hT 3 (K8 11110100 0) ⟨91, [], []⟩ ?_
        obtain ⟨v3, h5, H⟩ := ibC H
        refine ak_callP (avs := []) (dst := some 40) (k' := (K8 11110100 1)) [40] [] hP enters_12 (splicelaw20_awake.says h5) (by kernel_rfl) (hands_none _) .nil (st' := ⟨91, [(40, .b v3)], []⟩) (by kernel_rfl) ?_
        refine goK hT 2 (K8 1111010 1) ⟨91, [(6, .b v3)], []⟩ ?_
        obtain rfl := retC H
        exact ak_ret hf hX (av := .b v3) (by kernel_rfl) [] (sel_of_eq (by kernel_rfl)) (by decide) (by rw [h0]; rfl) (by kernel_rfl) (fun _ h => all_nil h) (.d (.v _))
      have Sq2 := merkle_New.says (t0 := t0) a0 h1
      rw [q2] at Sq2
      refine ak_callP (avs := [.d (eL42 t0 a0)]) (dst := some 21) (k' := (K8 1110 2)) [0, 1, 7, 8, 21] [] hP enters_10 (Sq2) (by kernel_rfl) (hands_none _) (.cons (pass_d _) .nil) (st' := ⟨91, [(0, .d (eL42 t0 a0)), (1, .i a1), (7, .n .u32 a2.Bits), (8, .n .u8 a2.At), (21, .tup [.d .np, .i v1.2])], [.box 74 (eC74 a2)]⟩) (by kernel_rfl) ?_
      refine goK hT 10 (K8 111100 1) ⟨91, [(0, .d (eL42 t0 a0)), (1, .i a1), (7, .n .u32 a2.Bits), (8, .n .u8 a2.At), (9, .d .np), (10, .i v1.2), (24, .d (eL42 t0 a0))], [.box 74 (eC74 a2)]⟩ ?_
      refine ak_callP (avs := [.d (eL42 t0 a0)]) (dst := some 25) (k' := (K8 111100 2)) [0, 1, 7, 8, 9, 10, 25] [] hP enters_11 (splicelaw20_few.says (t0 := t0) a0) (by kernel_rfl) (hands_none _) (.cons (pass_d _) .nil) (st' := ⟨91, [(0, .d (eL42 t0 a0)), (1, .i a1), (7, .n .u32 a2.Bits), (8, .n .u8 a2.At), (9, .d .np), (10, .i v1.2), (25, .b (splicelaw20_few a0))], [.box 74 (eC74 a2)]⟩) (by kernel_rfl) ?_
      refine goK hT 2 (K8 111100 4) ⟨91, [(0, .d (eL42 t0 a0)), (1, .i a1), (7, .n .u32 a2.Bits), (8, .n .u8 a2.At), (9, .d .np), (10, .i v1.2), (27, .b (!(splicelaw20_few a0)))], [.box 74 (eC74 a2)]⟩ ?_
      by_cases c3 : (splicelaw20_few a0) = true
      · replace H := iT c3 H
        rw [c3]
        refine goK hT 4 (K8 111100 8) ⟨91, [(0, .d (eL42 t0 a0)), (1, .i a1), (7, .n .u32 a2.Bits), (8, .n .u8 a2.At), (9, .d .np), (31, .b (v1.2 != 0))], [.box 74 (eC74 a2)]⟩ ?_
        by_cases c4 : v1.2 = 0
        · replace H := iT c4 H
          rw [neF c4]
          refine goK hT 9 (K8 11110 1) ⟨91, [(0, .d (eL42 t0 a0)), (1, .i a1), (7, .n .u32 a2.Bits), (8, .n .u8 a2.At), (9, .d .np), (39, .b true)], [.box 74 (eC74 a2)]⟩ ?_
          refine cutK [] ⟨91, [(0, .d (eL42 t0 a0)), (1, .i a1), (7, .n .u32 a2.Bits), (8, .n .u8 a2.At), (9, .d .np), (39, .b true)], []⟩ h0 ?_
          exact Jj1 H
        · replace H := iF c4 H
          rw [neT c4]
          refine goK hT 9 (K8 11110 1) ⟨91, [(0, .d (eL42 t0 a0)), (1, .i a1), (7, .n .u32 a2.Bits), (8, .n .u8 a2.At), (9, .d .np), (39, .b true)], [.box 74 (eC74 a2)]⟩ ?_
          refine cutK [] ⟨91, [(0, .d (eL42 t0 a0)), (1, .i a1), (7, .n .u32 a2.Bits), (8, .n .u8 a2.At), (9, .d .np), (39, .b true)], []⟩ h0 ?_
          exact Jj1 H
      · replace H := iF c3 H
        rw [boF c3]
        refine goK hT 13 (K8 11110 1) ⟨91, [(0, .d (eL42 t0 a0)), (1, .i a1), (7, .n .u32 a2.Bits), (8, .n .u8 a2.At), (9, .d .np), (39, .b true)], [.box 74 (eC74 a2)]⟩ ?_
        refine cutK [] ⟨91, [(0, .d (eL42 t0 a0)), (1, .i a1), (7, .n .u32 a2.Bits), (8, .n .u8 a2.At), (9, .d .np), (39, .b true)], []⟩ h0 ?_
        exact Jj1 H
  | some v2 =>
      rw [q2] at H
      replace H := ioptS H
      have Jj2 : ∀ (y2_39 : Bool), (splicelaw20_MerkleForged.j2 a0 a1 a2 v2 y2_39) = some r → AK X 8 ((K8 11110 1)) (Back X [] (.b r)) ⟨91, [(0, .d (eL42 t0 a0)), (1, .i a1), (7, .n .u32 a2.Bits), (8, .n .u8 a2.At), (9, .ptr 0 0 0 0), (39, .b y2_39)], [eB91 v2]⟩ := by
        intro y2_39 H
        by_cases c8 : y2_39 = true
        · replace H := iT c8 H
          rw [c8]
          refine goK hT 3 (K8 11110100 0) ⟨91, [], [eB91 v2]⟩ ?_
          obtain ⟨v4, h9, H⟩ := ibC H
          refine ak_callP (avs := []) (dst := some 40) (k' := (K8 11110100 1)) [40] [] hP enters_12 (splicelaw20_awake.says h9) (by kernel_rfl) (hands_none _) .nil (st' := ⟨91, [(40, .b v4)], [eB91 v2]⟩) (by kernel_rfl) ?_
          refine goK hT 2 (K8 1111010 1) ⟨91, [(6, .b v4)], [eB91 v2]⟩ ?_
          obtain rfl := retC H
          exact ak_ret hf hX (av := .b v4) (by kernel_rfl) [] (sel_of_eq (by kernel_rfl)) (by decide) (by rw [h0]; rfl) (by kernel_rfl) (fun _ h => all_nil h) (.d (.v _))
        · replace H := iF c8 H
          rw [boF c8]
          refine goK hT 2 (K8 1111 1) ⟨91, [(0, .d (eL42 t0 a0)), (1, .i a1), (7, .n .u32 a2.Bits), (8, .n .u8 a2.At), (9, .ptr 0 0 0 0)], [eB91 v2]⟩ ?_
          refine goK hT 6 (K8 111110 4) ⟨91, [(0, .d (eL42 t0 a0)), (7, .n .u32 a2.Bits), (8, .n .u8 a2.At), (9, .ptr 0 0 0 0), (41, .d (eL42 t0 a0)), (42, .i a1), (44, .i (a0.length : Int))], [eB91 v2]⟩ ?_
          obtain ⟨h10, H⟩ := iC H
          refine ak_bin (op := .rem) (t := 3) (u := .int .i64 a1) (v := .int .i64 (a0.length : Int)) (z := .int .i64 (Int.tmod a1 (a0.length : Int))) (dst := some 45) (k' := (K8 111110 5)) hT [0, 7, 8, 9, 41, 45] (by kernel_rfl) (by simp only [binV, if_neg h10]; rfl) (st' := ⟨91, [(0, .d (eL42 t0 a0)), (7, .n .u32 a2.Bits), (8, .n .u8 a2.At), (9, .ptr 0 0 0 0), (41, .d (eL42 t0 a0)), (45, .i (Int.tmod a1 (a0.length : Int)))], [eB91 v2]⟩) (by kernel_rfl) ?_
          refine goK hT 5 (K8 111110 10) ⟨91, [(7, .n .u32 a2.Bits), (8, .n .u8 a2.At), (9, .ptr 0 0 0 0), (41, .d (eL42 t0 a0)), (48, .i (IntKind.wrap .i64 ((Int.tmod a1 (a0.length : Int)) + (a0.length : Int)))), (50, .i (a0.length : Int))], [eB91 v2]⟩ ?_
          refine ak_bin (op := .rem) (t := 3) (u := .int .i64 (IntKind.wrap .i64 ((Int.tmod a1 (a0.length : Int)) + (a0.length : Int)))) (v := .int .i64 (a0.length : Int)) (z := .int .i64 (Int.tmod (IntKind.wrap .i64 ((Int.tmod a1 (a0.length : Int)) + (a0.length : Int))) (a0.length : Int))) (dst := some 51) (k' := (K8 111110 11)) hT [7, 8, 9, 41, 51] (by kernel_rfl) (by simp only [binV, if_neg h10]; rfl) (st' := ⟨91, [(7, .n .u32 a2.Bits), (8, .n .u8 a2.At), (9, .ptr 0 0 0 0), (41, .d (eL42 t0 a0)), (51, .i (Int.tmod (IntKind.wrap .i64 ((Int.tmod a1 (a0.length : Int)) + (a0.length : Int))) (a0.length : Int)))], [eB91 v2]⟩) (by kernel_rfl) ?_
          obtain ⟨h11, H⟩ := iC H
          refine ak_idx hT [7, 8, 9, 52] (i := Int.tmod (IntKind.wrap .i64 ((Int.tmod a1 (a0.length : Int)) + (a0.length : Int))) (a0.length : Int)) (n := (a0.length : Int)) h11.1 h11.2 (k' := (K8 111110 12)) (st' := ⟨91, [(7, .n .u32 a2.Bits), (8, .n .u8 a2.At), (9, .ptr 0 0 0 0), (52, .d (eP42 t0 a0 ((Int.tmod (IntKind.wrap .i64 ((Int.tmod a1 (a0.length : Int)) + (a0.length : Int))) (a0.length : Int)).toNat) 0))], [eB91 v2]⟩) (by kernel_rfl) ?_
          refine goK hT 15 (K8 1111110 9) ⟨91, [(9, .ptr 0 0 0 0), (11, .ptr 1 0 0 0), (56, .n .u64 (IntKind.wrap .u64 ((a0.getD ((Int.tmod (IntKind.wrap .i64 ((Int.tmod a1 (a0.length : Int)) + (a0.length : Int))) (a0.length : Int)).toNat) api_Pair.z).Val))), (58, .n .u64 (IntKind.wrap .u64 a2.Bits)), (62, .n .u64 (IntKind.wrap .u64 (8 * (IntKind.wrap .u64 (Int.tmod a2.At 5)))))], [eB91 v2, .box 42 (eC42 (a0.getD ((Int.tmod (IntKind.wrap .i64 ((Int.tmod a1 (a0.length : Int)) + (a0.length : Int))) (a0.length : Int)).toNat) api_Pair.z))]⟩ ?_
          obtain ⟨h12, H⟩ := iC H
          refine ak_bin (op := .shl) (t := 40) (u := .int .u64 (IntKind.wrap .u64 a2.Bits)) (v := .int .u64 (IntKind.wrap .u64 (8 * (IntKind.wrap .u64 (Int.tmod a2.At 5))))) (z := .int .u64 (IntKind.wrap .u64 ((IntKind.wrap .u64 a2.Bits) * 2 ^ (min (IntKind.wrap .u64 (8 * (IntKind.wrap .u64 (Int.tmod a2.At 5)))).toNat 64)))) (dst := some 63) (k' := (K8 1111110 10)) hT [9, 11, 56, 63] (by kernel_rfl) (by simp only [binV, if_pos h12]; rfl) (st' := ⟨91, [(9, .ptr 0 0 0 0), (11, .ptr 1 0 0 0), (56, .n .u64 (IntKind.wrap .u64 ((a0.getD ((Int.tmod (IntKind.wrap .i64 ((Int.tmod a1 (a0.length : Int)) + (a0.length : Int))) (a0.length : Int)).toNat) api_Pair.z).Val))), (63, .n .u64 (IntKind.wrap .u64 ((IntKind.wrap .u64 a2.Bits) * 2 ^ (min (IntKind.wrap .u64 (8 * (IntKind.wrap .u64 (Int.tmod a2.At 5)))).toNat 64))))], [eB91 v2, .box 42 (eC42 (a0.getD ((Int.tmod (IntKind.wrap .i64 ((Int.tmod a1 (a0.length : Int)) + (a0.length : Int))) (a0.length : Int)).toNat) api_Pair.z))]⟩) (by kernel_rfl) ?_
          refine goK hT 3 (K8 1111110 13) ⟨91, [(9, .ptr 0 0 0 0), (11, .ptr 1 0 0 0), (12, .i (IntKind.wrap .i64 (bXor .u64 (IntKind.wrap .u64 ((a0.getD ((Int.tmod (IntKind.wrap .i64 ((Int.tmod a1 (a0.length : Int)) + (a0.length : Int))) (a0.length : Int)).toNat) api_Pair.z).Val)) (IntKind.wrap .u64 ((IntKind.wrap .u64 a2.Bits) * 2 ^ (min (IntKind.wrap .u64 (8 * (IntKind.wrap .u64 (Int.tmod a2.At 5)))).toNat 64))))))], [eB91 v2, .box 42 (eC42 (a0.getD ((Int.tmod (IntKind.wrap .i64 ((Int.tmod a1 (a0.length : Int)) + (a0.length : Int))) (a0.length : Int)).toNat) api_Pair.z))]⟩ ?_
          obtain ⟨v5, h13, H⟩ := idC H
          rw [← h13]
          refine goK hT 6 (K8 11111110 3) ⟨91, [(9, .ptr 0 0 0 0), (11, .ptr 1 0 0 0), (12, .i v5), (67, .ptr 0 0 0 0), (69, .i ((a0.getD ((Int.tmod (IntKind.wrap .i64 ((Int.tmod a1 (a0.length : Int)) + (a0.length : Int))) (a0.length : Int)).toNat) api_Pair.z).Key))], [eB91 v2, .box 42 (eC42 (a0.getD ((Int.tmod (IntKind.wrap .i64 ((Int.tmod a1 (a0.length : Int)) + (a0.length : Int))) (a0.length : Int)).toNat) api_Pair.z))]⟩ ?_
          obtain ⟨v6, h14, H⟩ := ibC H
          refine ak_callP (avs := [.ptr 0 0 0 0, .i ((a0.getD ((Int.tmod (IntKind.wrap .i64 ((Int.tmod a1 (a0.length : Int)) + (a0.length : Int))) (a0.length : Int)).toNat) api_Pair.z).Key)]) (dst := some 70) (k' := (K8 11111110 4)) [9, 11, 12, 70] [0] hP enters_28 (merkle_Tree_Prove.says v2 ((a0.getD ((Int.tmod (IntKind.wrap .i64 ((Int.tmod a1 (a0.length : Int)) + (a0.length : Int))) (a0.length : Int)).toNat) api_Pair.z).Key) h14) (by kernel_rfl) (hands_one rfl rfl) (.cons (.same (.ptr 0 0 0 0)) (.cons (pass_d _) .nil)) (st' := ⟨91, [(9, .ptr 0 0 0 0), (11, .ptr 1 0 0 0), (12, .i v5), (70, .tup [.own 2 1 0 v6.1.length, .i v6.2])], [eB91 v2, .box 42 (eC42 (a0.getD ((Int.tmod (IntKind.wrap .i64 ((Int.tmod a1 (a0.length : Int)) + (a0.length : Int))) (a0.length : Int)).toNat) api_Pair.z)), eR37 v6.1]⟩) (by kernel_rfl) ?_
          refine goK hT 12 (K8 111111110 1) ⟨91, [(9, .ptr 0 0 0 0), (11, .ptr 1 0 0 0), (12, .i v5), (13, .own 2 1 0 v6.1.length), (74, .b (v6.2 != 0))], [eB91 v2, .box 42 (eC42 (a0.getD ((Int.tmod (IntKind.wrap .i64 ((Int.tmod a1 (a0.length : Int)) + (a0.length : Int))) (a0.length : Int)).toNat) api_Pair.z)), eR37 v6.1]⟩ ?_
          by_cases c15 : v6.2 = 0
          · replace H := iT c15 H
            rw [neF c15]
            refine goK hT 2 (K8 11111111 1) ⟨91, [(9, .ptr 0 0 0 0), (11, .ptr 1 0 0 0), (12, .i v5), (13, .own 2 1 0 v6.1.length)], [eB91 v2, .box 42 (eC42 (a0.getD ((Int.tmod (IntKind.wrap .i64 ((Int.tmod a1 (a0.length : Int)) + (a0.length : Int))) (a0.length : Int)).toNat) api_Pair.z)), eR37 v6.1]⟩ ?_
            refine goK hT 1 (K8 111111111 0) ⟨91, [(9, .ptr 0 0 0 0), (11, .ptr 1 0 0 0), (12, .i v5), (13, .own 2 1 0 v6.1.length)], [eB91 v2, .box 42 (eC42 (a0.getD ((Int.tmod (IntKind.wrap .i64 ((Int.tmod a1 (a0.length : Int)) + (a0.length : Int))) (a0.length : Int)).toNat) api_Pair.z)), eR37 v6.1]⟩ ?_
            obtain ⟨v7, h16, H⟩ := ibC H
            have Jj3 : ∀ (y3_6 : Bool), (splicelaw20_MerkleForged.j3 y3_6) = some r → AK X 8 ((K8 111111111 1)) (Back X [] (.b r)) ⟨91, [(6, .b y3_6)], []⟩ := by
              intro y3_6 H
              obtain rfl := retC H
              exact ak_ret hf hX (av := .b y3_6) (by kernel_rfl) [] (sel_of_eq (by kernel_rfl)) (by decide) (by rw [h0]; rfl) (by kernel_rfl) (fun _ h => all_nil h) (.d (.v _))
            by_cases c17 : v7 = true
            · replace H := iT c17 H
              obtain ⟨v8, h18, H⟩ := ibC H
              refine ak_drawAtE (nt := 91) (hP ▸ mixed) 14 [3] [9, 11, 12, 13] [(9, .ptr 0 0 0 0), (11, .ptr 1 0 0 0), (12, .i v5), (13, .own 2 1 0 v6.1.length)] [some (.b true), some (.b true), some (.ptr 0 0 0 0), some (.n .u32 (merkle_Tree_Root v2)), some (.ptr 1 0 0 0), some (.i ((a0.getD ((Int.tmod (IntKind.wrap .i64 ((Int.tmod a1 (a0.length : Int)) + (a0.length : Int))) (a0.length : Int)).toNat) api_Pair.z).Key)), some (.i v5), some (.d (.agg [.i v5, .b true])), some (.own 2 1 0 v6.1.length), some (.b v8), some (.i v5), some (.ptr 1 0 0 1), some (.i ((a0.getD ((Int.tmod (IntKind.wrap .i64 ((Int.tmod a1 (a0.length : Int)) + (a0.length : Int))) (a0.length : Int)).toNat) api_Pair.z).Val)), some (.b (v5 == ((a0.getD ((Int.tmod (IntKind.wrap .i64 ((Int.tmod a1 (a0.length : Int)) + (a0.length : Int))) (a0.length : Int)).toNat) api_Pair.z).Val)))] [[eB91 v2, .box 42 (eC42 (a0.getD ((Int.tmod (IntKind.wrap .i64 ((Int.tmod a1 (a0.length : Int)) + (a0.length : Int))) (a0.length : Int)).toNat) api_Pair.z)), eR37 v6.1], [eB91 v2, .box 42 (eC42 (a0.getD ((Int.tmod (IntKind.wrap .i64 ((Int.tmod a1 (a0.length : Int)) + (a0.length : Int))) (a0.length : Int)).toNat) api_Pair.z)), eR37 v6.1]] (by kernel_rfl) (by kernel_rfl) (by kernel_rfl) (by kernel_rfl) ⟨(opGE (opGE (opGE (opGE (opES (opGE (opGE (opGE (opGE (opGE (opXE (opGE (opGE (opES opE0 (fun R rest h => ak_callD (avs := []) (dst := some 75) hP enters_12 (by have q := splicelaw20_awake.says h16; rw [c17] at q; exact q) (by kernel_rfl) .nil (by kernel_rfl) h)) hT) hT)) hT) hT) hT) hT) hT) (fun R rest h => ak_callD (avs := [.n .u32 (merkle_Tree_Root v2), .i ((a0.getD ((Int.tmod (IntKind.wrap .i64 ((Int.tmod a1 (a0.length : Int)) + (a0.length : Int))) (a0.length : Int)).toNat) api_Pair.z).Key), .d (.agg [.i v5, .b true]), .own 2 1 0 v6.1.length]) (dst := some 84) hP enters_31 (merkle_Verify.says (t3 := false) (merkle_Tree_Root v2) ((a0.getD ((Int.tmod (IntKind.wrap .i64 ((Int.tmod a1 (a0.length : Int)) + (a0.length : Int))) (a0.length : Int)).toNat) api_Pair.z).Key) (⟨v5, true⟩ : api_Cell) v6.1 h18) (by kernel_rfl) (.cons (pass_d _) (.cons (pass_d _) (.cons (pass_d _) (.cons (.lend (ty := 37) (by kernel_rfl) rfl) .nil)))) (by kernel_rfl) h)) hT) hT) hT) hT), (fun R rest h => ak_callDR (avs := [.ptr 0 0 0 0]) (dst := some 78) [0] hP enters_18 (merkle_Tree_Root.says v2) (by kernel_rfl) (hands_one rfl rfl) (.cons (.same (.ptr 0 0 0 0)) .nil) (by kernel_rfl) h), (opGE (opGE (opGE (opGE (opES (opGE (opGE (opGE (opGE (opGE (opXE (opGE (opGE (opES opE0 (fun R rest h => ak_callD (avs := []) (dst := some 75) hP enters_12 (by have q := splicelaw20_awake.says h16; rw [c17] at q; exact q) (by kernel_rfl) .nil (by kernel_rfl) h)) hT) hT)) hT) hT) hT) hT) hT) (fun R rest h => ak_callD (avs := [.n .u32 (merkle_Tree_Root v2), .i ((a0.getD ((Int.tmod (IntKind.wrap .i64 ((Int.tmod a1 (a0.length : Int)) + (a0.length : Int))) (a0.length : Int)).toNat) api_Pair.z).Key), .d (.agg [.i v5, .b true]), .own 2 1 0 v6.1.length]) (dst := some 84) hP enters_31 (merkle_Verify.says (t3 := false) (merkle_Tree_Root v2) ((a0.getD ((Int.tmod (IntKind.wrap .i64 ((Int.tmod a1 (a0.length : Int)) + (a0.length : Int))) (a0.length : Int)).toNat) api_Pair.z).Key) (⟨v5, true⟩ : api_Cell) v6.1 h18) (by kernel_rfl) (.cons (pass_d _) (.cons (pass_d _) (.cons (pass_d _) (.cons (.lend (ty := 37) (by kernel_rfl) rfl) .nil)))) (by kernel_rfl) h)) hT) hT) hT) hT)⟩ ?_
              refine goK hT 4 (K8 111111111 1) ⟨91, [(6, .b (v8 == (v5 == ((a0.getD ((Int.tmod (IntKind.wrap .i64 ((Int.tmod a1 (a0.length : Int)) + (a0.length : Int))) (a0.length : Int)).toNat) api_Pair.z).Val))))], [eB91 v2, .box 42 (eC42 (a0.getD ((Int.tmod (IntKind.wrap .i64 ((Int.tmod a1 (a0.length : Int)) + (a0.length : Int))) (a0.length : Int)).toNat) api_Pair.z)), eR37 v6.1]⟩ ?_
              refine cutK [] ⟨91, [(6, .b (v8 == (v5 == ((a0.getD ((Int.tmod (IntKind.wrap .i64 ((Int.tmod a1 (a0.length : Int)) + (a0.length : Int))) (a0.length : Int)).toNat) api_Pair.z).Val))))], []⟩ h0 ?_
              exact Jj3 (v8 == (v5 == ((a0.getD ((Int.tmod (IntKind.wrap .i64 ((Int.tmod a1 (a0.length : Int)) + (a0.length : Int))) (a0.length : Int)).toNat) api_Pair.z).Val))) H
            · replace H := iF c17 H
              refine drawK (hP ▸ mixed) 14 [9, 11, 12, 13] [some (.b false), some (.b false), some (.tup []), some (.tup []), some (.tup []), some (.tup []), some (.tup []), some (.tup []), some (.tup []), some (.tup []), some (.tup []), some (.tup []), some (.tup []), some (.tup [])] (opG (opG (opG (opG (opG (opG (opG (opG (opG (opG (opG (opG (opG (opS op0 (fun R rest h => ak_callD (avs := []) (dst := some 75) hP enters_12 (by have q := splicelaw20_awake.says h16; rw [boF c17] at q; exact q) (by kernel_rfl) .nil (by kernel_rfl) h)) hT) hT) hT) hT) hT) hT) hT) hT) hT) hT) hT) hT) hT) ?_
              refine goK hT 4 (K8 111111111 1) ⟨91, [(6, .b false)], [eB91 v2, .box 42 (eC42 (a0.getD ((Int.tmod (IntKind.wrap .i64 ((Int.tmod a1 (a0.length : Int)) + (a0.length : Int))) (a0.length : Int)).toNat) api_Pair.z)), eR37 v6.1]⟩ ?_
              refine cutK [] ⟨91, [(6, .b false)], []⟩ h0 ?_
              exact Jj3 false H
          · replace H := iF c15 H
            rw [neT c15]
            refine goK hT 5 (K8 11111111010 1) ⟨91, [(6, .b false)], [eB91 v2, .box 42 (eC42 (a0.getD ((Int.tmod (IntKind.wrap .i64 ((Int.tmod a1 (a0.length : Int)) + (a0.length : Int))) (a0.length : Int)).toNat) api_Pair.z)), eR37 v6.1]⟩ ?_
            obtain rfl := retC H
            exact ak_ret hf hX (av := .b false) (by kernel_rfl) [] (sel_of_eq (by kernel_rfl)) (by decide) (by rw [h0]; rfl) (by kernel_rfl) (fun _ h => all_nil h) (.d (.v _))
      have Sq2 := merkle_New.says (t0 := t0) a0 h1
      rw [q2] at Sq2
      refine ak_callP (avs := [.d (eL42 t0 a0)]) (dst := some 21) (k' := (K8 1110 2)) [0, 1, 7, 8, 21] [] hP enters_10 (Sq2) (by kernel_rfl) (hands_none _) (.cons (pass_d _) .nil) (st' := ⟨91, [(0, .d (eL42 t0 a0)), (1, .i a1), (7, .n .u32 a2.Bits), (8, .n .u8 a2.At), (21, .tup [.ptr 1 0 0 0, .i v1.2])], [.box 74 (eC74 a2), eB91 v2]⟩) (by kernel_rfl) ?_
      refine goK hT 10 (K8 111100 1) ⟨91, [(0, .d (eL42 t0 a0)), (1, .i a1), (7, .n .u32 a2.Bits), (8, .n .u8 a2.At), (9, .ptr 1 0 0 0), (10, .i v1.2), (24, .d (eL42 t0 a0))], [.box 74 (eC74 a2), eB91 v2]⟩ ?_
      refine ak_callP (avs := [.d (eL42 t0 a0)]) (dst := some 25) (k' := (K8 111100 2)) [0, 1, 7, 8, 9, 10, 25] [] hP enters_11 (splicelaw20_few.says (t0 := t0) a0) (by kernel_rfl) (hands_none _) (.cons (pass_d _) .nil) (st' := ⟨91, [(0, .d (eL42 t0 a0)), (1, .i a1), (7, .n .u32 a2.Bits), (8, .n .u8 a2.At), (9, .ptr 1 0 0 0), (10, .i v1.2), (25, .b (splicelaw20_few a0))], [.box 74 (eC74 a2), eB91 v2]⟩) (by kernel_rfl) ?_
      refine goK hT 2 (K8 111100 4) ⟨91, [(0, .d (eL42 t0 a0)), (1, .i a1), (7, .n .u32 a2.Bits), (8, .n .u8 a2.At), (9, .ptr 1 0 0 0), (10, .i v1.2), (27, .b (!(splicelaw20_few a0)))], [.box 74 (eC74 a2), eB91 v2]⟩ ?_
      by_cases c6 : (splicelaw20_few a0) = true
      · replace H := iT c6 H
        rw [c6]
        refine goK hT 4 (K8 111100 8) ⟨91, [(0, .d (eL42 t0 a0)), (1, .i a1), (7, .n .u32 a2.Bits), (8, .n .u8 a2.At), (9, .ptr 1 0 0 0), (31, .b (v1.2 != 0))], [.box 74 (eC74 a2), eB91 v2]⟩ ?_
        by_cases c7 : v1.2 = 0
        · replace H := iT c7 H
          rw [neF c7]
          refine goK hT 9 (K8 11110 1) ⟨91, [(0, .d (eL42 t0 a0)), (1, .i a1), (7, .n .u32 a2.Bits), (8, .n .u8 a2.At), (9, .ptr 1 0 0 0), (39, .b ((a0.length : Int) == 0))], [.box 74 (eC74 a2), eB91 v2]⟩ ?_
          refine cutK [1] ⟨91, [(0, .d (eL42 t0 a0)), (1, .i a1), (7, .n .u32 a2.Bits), (8, .n .u8 a2.At), (9, .ptr 0 0 0 0), (39, .b ((a0.length : Int) == 0))], [eB91 v2]⟩ h0 ?_
          exact Jj2 ((a0.length : Int) == 0) H
        · replace H := iF c7 H
          rw [neT c7]
          refine goK hT 9 (K8 11110 1) ⟨91, [(0, .d (eL42 t0 a0)), (1, .i a1), (7, .n .u32 a2.Bits), (8, .n .u8 a2.At), (9, .ptr 1 0 0 0), (39, .b true)], [.box 74 (eC74 a2), eB91 v2]⟩ ?_
          refine cutK [1] ⟨91, [(0, .d (eL42 t0 a0)), (1, .i a1), (7, .n .u32 a2.Bits), (8, .n .u8 a2.At), (9, .ptr 0 0 0 0), (39, .b true)], [eB91 v2]⟩ h0 ?_
          exact Jj2 true H
      · replace H := iF c6 H
        rw [boF c6]
        refine goK hT 13 (K8 11110 1) ⟨91, [(0, .d (eL42 t0 a0)), (1, .i a1), (7, .n .u32 a2.Bits), (8, .n .u8 a2.At), (9, .ptr 1 0 0 0), (39, .b true)], [.box 74 (eC74 a2), eB91 v2]⟩ ?_
        refine cutK [1] ⟨91, [(0, .d (eL42 t0 a0)), (1, .i a1), (7, .n .u32 a2.Bits), (8, .n .u8 a2.At), (9, .ptr 0 0 0 0), (39, .b true)], [eB91 v2]⟩ h0 ?_
        exact Jj2 true H
end Go.SyP
