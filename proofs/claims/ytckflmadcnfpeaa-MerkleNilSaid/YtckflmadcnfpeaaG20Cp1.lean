/- Certificates, printed by gen.py. -/
import Derived.Test.YtckflmadcnfpeaaG20Cp0
set_option linter.unusedVariables false
set_option linter.unusedSimpArgs false
namespace Go.SyP
open Go Go.Sy Go.Proofs


theorem splicelaw20_awake.says {r : Bool} (H : splicelaw20_awake = some r) : Says Try.prog 12 [] [] [] (.b r) := by
  refine says_of Try.func12 rfl (nt := 51) rfl (Nat.le_of_ble_eq_true rfl) fun X hP h0 hX => ?_
  have hT : TabOk X.P T := hP ▸ tok
  have hf : X.P.funcs[12]? = some Try.f12 := hP ▸ Try.func12
  refine goK hT 8 (K12 110 2) ⟨51, [(8, .own 0 2 0 1)], [.flat false 2 42 1 (fun j => [[.i 5, .i 7]].getD j [])]⟩ ?_
  refine ak_row 0 (kk := 2) (fz := false) (ty := 42) (n := ([(⟨5, 7⟩ : api_Pair)] : List api_Pair).length) (vec api_Pair.e api_Pair.z ([(⟨5, 7⟩ : api_Pair)] : List api_Pair)) (by kernel_rfl) vec_lit (st' := ⟨51, [(8, .own 0 2 0 (([(⟨5, 7⟩ : api_Pair)] : List api_Pair).length))], [eR42 ([(⟨5, 7⟩ : api_Pair)] : List api_Pair)]⟩) (by kernel_rfl) ?_
  obtain ⟨v1, h1, H⟩ := ibC H
  cases q2 : v1.1 with
  | none =>
      rw [q2] at H
      replace H := ioptN H
      have Sq2 := merkle_New.says (t0 := false) ([(⟨5, 7⟩ : api_Pair)] : List api_Pair) h1
      rw [q2] at Sq2
      refine ak_callP (avs := [.own 0 2 0 (([(⟨5, 7⟩ : api_Pair)] : List api_Pair).length)]) (dst := some 9) (k' := (K12 110 3)) [9] [] hP enters_10 (Sq2) (by kernel_rfl) (hands_none _) (.cons (.lend (ty := 42) (by kernel_rfl) rfl) .nil) (st' := ⟨51, [(9, .tup [.d .np, .i v1.2])], [eR42 ([(⟨5, 7⟩ : api_Pair)] : List api_Pair)]⟩) (by kernel_rfl) ?_
      refine goK hT 10 (K12 1110 2) ⟨51, [(1, .d .np), (2, .i v1.2), (14, .own 1 2 0 1)], [eR42 ([(⟨5, 7⟩ : api_Pair)] : List api_Pair), .flat false 2 42 1 (fun j => [[.i 5, .i 8]].getD j [])]⟩ ?_
      refine ak_row 1 (kk := 2) (fz := false) (ty := 42) (n := ([(⟨5, 8⟩ : api_Pair)] : List api_Pair).length) (vec api_Pair.e api_Pair.z ([(⟨5, 8⟩ : api_Pair)] : List api_Pair)) (by kernel_rfl) vec_lit (st' := ⟨51, [(1, .d .np), (2, .i v1.2), (14, .own 1 2 0 (([(⟨5, 8⟩ : api_Pair)] : List api_Pair).length))], [eR42 ([(⟨5, 7⟩ : api_Pair)] : List api_Pair), eR42 ([(⟨5, 8⟩ : api_Pair)] : List api_Pair)]⟩) (by kernel_rfl) ?_
      obtain ⟨v3, h3, H⟩ := ibC H
      cases q4 : v3.1 with
      | none =>
          rw [q4] at H
          replace H := ioptN H
          have Sq4 := merkle_New.says (t0 := false) ([(⟨5, 8⟩ : api_Pair)] : List api_Pair) h3
          rw [q4] at Sq4
          refine ak_callP (avs := [.own 1 2 0 (([(⟨5, 8⟩ : api_Pair)] : List api_Pair).length)]) (dst := some 15) (k' := (K12 1110 3)) [1, 2, 15] [] hP enters_10 (Sq4) (by kernel_rfl) (hands_none _) (.cons (.lend (ty := 42) (by kernel_rfl) rfl) .nil) (st' := ⟨51, [(1, .d .np), (2, .i v1.2), (15, .tup [.d .np, .i v3.2])], [eR42 ([(⟨5, 7⟩ : api_Pair)] : List api_Pair), eR42 ([(⟨5, 8⟩ : api_Pair)] : List api_Pair)]⟩) (by kernel_rfl) ?_
          refine goK hT 10 (K12 11110 2) ⟨51, [(1, .d .np), (2, .i v1.2), (3, .d .np), (4, .i v3.2), (18, .d .np), (19, .d .np)], [eR42 ([(⟨5, 7⟩ : api_Pair)] : List api_Pair), eR42 ([(⟨5, 8⟩ : api_Pair)] : List api_Pair)]⟩ ?_
          obtain ⟨v5, h5, H⟩ := ibC H
          have Jj1 : ∀ (y1_0 : Bool), (splicelaw20_awake.j1 y1_0) = some r → AK X 12 ((K12 11111 1)) (Back X [] (.b r)) ⟨51, [(0, .b y1_0)], []⟩ := by
            intro y1_0 H
            obtain rfl := retC H
            exact ak_ret hf hX (av := .b y1_0) (by kernel_rfl) [] (sel_of_eq (by kernel_rfl)) (by decide) (by rw [h0]; rfl) (by kernel_rfl) (fun _ h => all_nil h) (.d (.v _))
          refine ak_callP (avs := [.d .np, .d .np]) (dst := some 20) (k' := (K12 11110 3)) [1, 2, 3, 4, 20] [] hP enters_14 (merkle_Diff_n01.says h5) (by kernel_rfl) (hands_none _) (.cons (pass_d _) (.cons (pass_d _) .nil)) (st' := ⟨51, [(1, .d .np), (2, .i v1.2), (3, .d .np), (4, .i v3.2), (20, .own 2 2 0 v5.length)], [eR42 ([(⟨5, 7⟩ : api_Pair)] : List api_Pair), eR42 ([(⟨5, 8⟩ : api_Pair)] : List api_Pair), eR44 v5]⟩) (by kernel_rfl) ?_
          refine goK hT 7 (K12 111110 3) ⟨51, [(1, .d .np), (3, .d .np), (4, .i v3.2), (5, .own 2 2 0 v5.length), (23, .b (v1.2 == 0))], [eR42 ([(⟨5, 7⟩ : api_Pair)] : List api_Pair), eR42 ([(⟨5, 8⟩ : api_Pair)] : List api_Pair), eR44 v5]⟩ ?_
          by_cases c6 : v1.2 = 0
          · replace H := iT c6 H
            rw [eqT c6]
            refine goK hT 4 (K12 111110 7) ⟨51, [(1, .d .np), (3, .d .np), (5, .own 2 2 0 v5.length), (27, .b (v3.2 == 0))], [eR42 ([(⟨5, 7⟩ : api_Pair)] : List api_Pair), eR42 ([(⟨5, 8⟩ : api_Pair)] : List api_Pair), eR44 v5]⟩ ?_
            by_cases c7 : v3.2 = 0
            · replace H := iT c7 H
              rw [eqT c7]
              refine goK hT 5 (K12 111110 12) ⟨51, [(1, .d .np), (3, .d .np), (5, .own 2 2 0 v5.length), (32, .b ((v5.length : Int) == 1))], [eR42 ([(⟨5, 7⟩ : api_Pair)] : List api_Pair), eR42 ([(⟨5, 8⟩ : api_Pair)] : List api_Pair), eR44 v5]⟩ ?_
              by_cases c8 : (v5.length : Int) = 1
              · replace H := iT c8 H
                rw [eqT c8]
                refine goK hT 1 (K12 111110 13) ⟨51, [(1, .d .np), (3, .d .np), (32, .b true), (33, .own 2 2 0 v5.length)], [eR42 ([(⟨5, 7⟩ : api_Pair)] : List api_Pair), eR42 ([(⟨5, 8⟩ : api_Pair)] : List api_Pair), eR44 v5]⟩ ?_
                obtain ⟨h9, H⟩ := iC H
                refine ak_idx hT [1, 3, 32, 34] (i := 0) (n := (v5.length : Int)) h9.1 h9.2 (k' := (K12 111110 14)) (st' := ⟨51, [(1, .d .np), (3, .d .np), (32, .b true), (34, .ptr 2 2 0 0)], [eR42 ([(⟨5, 7⟩ : api_Pair)] : List api_Pair), eR42 ([(⟨5, 8⟩ : api_Pair)] : List api_Pair), eR44 v5]⟩) (by kernel_rfl) ?_
                refine ak_ld hT [1, 3, 32, 35] (i := 0) (n := v5.length) (by omega) (k' := (K12 111110 15)) (st' := ⟨51, [(1, .d .np), (3, .d .np), (32, .b true), (35, .d (eG44 (v5.getD 0 api_Span.z)))], [eR42 ([(⟨5, 7⟩ : api_Pair)] : List api_Pair), eR42 ([(⟨5, 8⟩ : api_Pair)] : List api_Pair), eR44 v5]⟩) (by kernel_rfl) ?_
                refine goK hT 4 (K12 111110 19) ⟨51, [(1, .d .np), (3, .d .np), (39, .b ((((v5.getD 0 api_Span.z).Lo) == 5) && (((v5.getD 0 api_Span.z).Hi) == 6)))], [eR42 ([(⟨5, 7⟩ : api_Pair)] : List api_Pair), eR42 ([(⟨5, 8⟩ : api_Pair)] : List api_Pair), eR44 v5]⟩ ?_
                by_cases c10 : ((v5.getD 0 api_Span.z).Lo) = 5
                · replace H := iT c10 H
                  rw [eqT c10]
                  by_cases c11 : ((v5.getD 0 api_Span.z).Hi) = 6
                  · replace H := iT c11 H
                    rw [eqT c11]
                    refine goK hT 1 (K12 111110 20) ⟨51, [(3, .d .np), (39, .b true), (40, .d .np)], [eR42 ([(⟨5, 7⟩ : api_Pair)] : List api_Pair), eR42 ([(⟨5, 8⟩ : api_Pair)] : List api_Pair), eR44 v5]⟩ ?_
                    obtain ⟨v6, h12, H⟩ := ibC H
                    refine ak_callP (avs := [.d .np]) (dst := some 41) (k' := (K12 111110 21)) [3, 39, 41] [] hP enters_18 (merkle_Tree_Root_n0.says h12) (by kernel_rfl) (hands_none _) (.cons (pass_d _) .nil) (st' := ⟨51, [(3, .d .np), (39, .b true), (41, .n .u32 v6)], [eR42 ([(⟨5, 7⟩ : api_Pair)] : List api_Pair), eR42 ([(⟨5, 8⟩ : api_Pair)] : List api_Pair), eR44 v5]⟩) (by kernel_rfl) ?_
                    refine goK hT 1 (K12 111110 22) ⟨51, [(39, .b true), (41, .n .u32 v6), (42, .d .np)], [eR42 ([(⟨5, 7⟩ : api_Pair)] : List api_Pair), eR42 ([(⟨5, 8⟩ : api_Pair)] : List api_Pair), eR44 v5]⟩ ?_
                    obtain ⟨v7, h13, H⟩ := ibC H
                    refine ak_callP (avs := [.d .np]) (dst := some 43) (k' := (K12 111110 23)) [39, 41, 43] [] hP enters_18 (merkle_Tree_Root_n0.says h13) (by kernel_rfl) (hands_none _) (.cons (pass_d _) .nil) (st' := ⟨51, [(39, .b true), (41, .n .u32 v6), (43, .n .u32 v7)], [eR42 ([(⟨5, 7⟩ : api_Pair)] : List api_Pair), eR42 ([(⟨5, 8⟩ : api_Pair)] : List api_Pair), eR44 v5]⟩) (by kernel_rfl) ?_
                    refine goK hT 3 (K12 111110 26) ⟨51, [(46, .b (v6 != v7))], [eR42 ([(⟨5, 7⟩ : api_Pair)] : List api_Pair), eR42 ([(⟨5, 8⟩ : api_Pair)] : List api_Pair), eR44 v5]⟩ ?_
                    by_cases c14 : v6 = v7
                    · replace H := iT c14 H
                      rw [neF c14]
                      refine goK hT 6 (K12 11111 1) ⟨51, [(0, .b false)], [eR42 ([(⟨5, 7⟩ : api_Pair)] : List api_Pair), eR42 ([(⟨5, 8⟩ : api_Pair)] : List api_Pair), eR44 v5]⟩ ?_
                      refine cutK [] ⟨51, [(0, .b false)], []⟩ h0 ?_
                      exact Jj1 false H
                    · replace H := iF c14 H
                      rw [neT c14]
                      refine goK hT 1 (K12 111110 27) ⟨51, [(46, .b true), (47, .d (.agg [.i 0, .b false]))], [eR42 ([(⟨5, 7⟩ : api_Pair)] : List api_Pair), eR42 ([(⟨5, 8⟩ : api_Pair)] : List api_Pair), eR44 v5]⟩ ?_
                      obtain ⟨v8, h15, H⟩ := ibC H
                      refine ak_callP (avs := [.d (.agg [.i 0, .b false])]) (dst := some 48) (k' := (K12 111110 28)) [46, 48] [] hP enters_19 (merkle_Number.says (⟨0, false⟩ : api_Cell) h15) (by kernel_rfl) (hands_none _) (.cons (pass_d _) .nil) (st' := ⟨51, [(46, .b true), (48, .n .u32 v8)], [eR42 ([(⟨5, 7⟩ : api_Pair)] : List api_Pair), eR42 ([(⟨5, 8⟩ : api_Pair)] : List api_Pair), eR44 v5]⟩) (by kernel_rfl) ?_
                      refine goK hT 4 (K12 11111 1) ⟨51, [(0, .b (v8 == 0))], [eR42 ([(⟨5, 7⟩ : api_Pair)] : List api_Pair), eR42 ([(⟨5, 8⟩ : api_Pair)] : List api_Pair), eR44 v5]⟩ ?_
                      refine cutK [] ⟨51, [(0, .b (v8 == 0))], []⟩ h0 ?_
                      exact Jj1 (v8 == 0) H
                  · replace H := iF c11 H
                    rw [eqF c11]
                    refine goK hT 13 (K12 11111 1) ⟨51, [(0, .b false)], [eR42 ([(⟨5, 7⟩ : api_Pair)] : List api_Pair), eR42 ([(⟨5, 8⟩ : api_Pair)] : List api_Pair), eR44 v5]⟩ ?_
                    refine cutK [] ⟨51, [(0, .b false)], []⟩ h0 ?_
                    exact Jj1 false H
                · replace H := iF c10 H
                  rw [eqF c10]
                  by_cases c16 : ((v5.getD 0 api_Span.z).Hi) = 6
                  · replace H := iT c16 H
                    rw [eqT c16]
                    refine goK hT 13 (K12 11111 1) ⟨51, [(0, .b false)], [eR42 ([(⟨5, 7⟩ : api_Pair)] : List api_Pair), eR42 ([(⟨5, 8⟩ : api_Pair)] : List api_Pair), eR44 v5]⟩ ?_
                    refine cutK [] ⟨51, [(0, .b false)], []⟩ h0 ?_
                    exact Jj1 false H
                  · replace H := iF c16 H
                    rw [eqF c16]
                    refine goK hT 13 (K12 11111 1) ⟨51, [(0, .b false)], [eR42 ([(⟨5, 7⟩ : api_Pair)] : List api_Pair), eR42 ([(⟨5, 8⟩ : api_Pair)] : List api_Pair), eR44 v5]⟩ ?_
                    refine cutK [] ⟨51, [(0, .b false)], []⟩ h0 ?_
                    exact Jj1 false H
              · replace H := iF c8 H
                rw [eqF c8]
                refine goK hT 20 (K12 11111 1) ⟨51, [(0, .b false)], [eR42 ([(⟨5, 7⟩ : api_Pair)] : List api_Pair), eR42 ([(⟨5, 8⟩ : api_Pair)] : List api_Pair), eR44 v5]⟩ ?_
                refine cutK [] ⟨51, [(0, .b false)], []⟩ h0 ?_
                exact Jj1 false H
            · replace H := iF c7 H
              rw [eqF c7]
              refine goK hT 25 (K12 11111 1) ⟨51, [(0, .b false)], [eR42 ([(⟨5, 7⟩ : api_Pair)] : List api_Pair), eR42 ([(⟨5, 8⟩ : api_Pair)] : List api_Pair), eR44 v5]⟩ ?_
              refine cutK [] ⟨51, [(0, .b false)], []⟩ h0 ?_
              exact Jj1 false H
          · replace H := iF c6 H
            rw [eqF c6]
            refine goK hT 29 (K12 11111 1) ⟨51, [(0, .b false)], [eR42 ([(⟨5, 7⟩ : api_Pair)] : List api_Pair), eR42 ([(⟨5, 8⟩ : api_Pair)] : List api_Pair), eR44 v5]⟩ ?_
            refine cutK [] ⟨51, [(0, .b false)], []⟩ h0 ?_
            exact Jj1 false H
      | some v4 =>
          rw [q4] at H
          replace H := ioptS H
          have Sq4 := merkle_New.says (t0 := false) ([(⟨5, 8⟩ : api_Pair)] : List api_Pair) h3
          rw [q4] at Sq4
          refine ak_callP (avs := [.own 1 2 0 (([(⟨5, 8⟩ : api_Pair)] : List api_Pair).length)]) (dst := some 15) (k' := (K12 1110 3)) [1, 2, 15] [] hP enters_10 (Sq4) (by kernel_rfl) (hands_none _) (.cons (.lend (ty := 42) (by kernel_rfl) rfl) .nil) (st' := ⟨51, [(1, .d .np), (2, .i v1.2), (15, .tup [.ptr 2 0 0 0, .i v3.2])], [eR42 ([(⟨5, 7⟩ : api_Pair)] : List api_Pair), eR42 ([(⟨5, 8⟩ : api_Pair)] : List api_Pair), eB91 v4]⟩) (by kernel_rfl) ?_
          refine goK hT 10 (K12 11110 2) ⟨51, [(1, .d .np), (2, .i v1.2), (3, .ptr 2 0 0 0), (4, .i v3.2), (18, .d .np), (19, .ptr 2 0 0 0)], [eR42 ([(⟨5, 7⟩ : api_Pair)] : List api_Pair), eR42 ([(⟨5, 8⟩ : api_Pair)] : List api_Pair), eB91 v4]⟩ ?_
          obtain ⟨v9, h17, H⟩ := ibC H
          have Jj2 : ∀ (y2_0 : Bool), (splicelaw20_awake.j2 y2_0) = some r → AK X 12 ((K12 11111 1)) (Back X [] (.b r)) ⟨51, [(0, .b y2_0)], []⟩ := by
            intro y2_0 H
            obtain rfl := retC H
            exact ak_ret hf hX (av := .b y2_0) (by kernel_rfl) [] (sel_of_eq (by kernel_rfl)) (by decide) (by rw [h0]; rfl) (by kernel_rfl) (fun _ h => all_nil h) (.d (.v _))
          refine ak_callP (avs := [.d .np, .ptr 2 0 0 0]) (dst := some 20) (k' := (K12 11110 3)) [1, 2, 3, 4, 20] [2] hP enters_14 (merkle_Diff_n0.says v4 h17) (by kernel_rfl) (hands_one rfl rfl) (.cons (pass_d _) (.cons (.same (.ptr 0 0 0 0)) .nil)) (st' := ⟨51, [(1, .d .np), (2, .i v1.2), (3, .ptr 2 0 0 0), (4, .i v3.2), (20, .own 3 2 0 v9.length)], [eR42 ([(⟨5, 7⟩ : api_Pair)] : List api_Pair), eR42 ([(⟨5, 8⟩ : api_Pair)] : List api_Pair), eB91 v4, eR44 v9]⟩) (by kernel_rfl) ?_
          refine goK hT 7 (K12 111110 3) ⟨51, [(1, .d .np), (3, .ptr 2 0 0 0), (4, .i v3.2), (5, .own 3 2 0 v9.length), (23, .b (v1.2 == 0))], [eR42 ([(⟨5, 7⟩ : api_Pair)] : List api_Pair), eR42 ([(⟨5, 8⟩ : api_Pair)] : List api_Pair), eB91 v4, eR44 v9]⟩ ?_
          by_cases c18 : v1.2 = 0
          · replace H := iT c18 H
            rw [eqT c18]
            refine goK hT 4 (K12 111110 7) ⟨51, [(1, .d .np), (3, .ptr 2 0 0 0), (5, .own 3 2 0 v9.length), (27, .b (v3.2 == 0))], [eR42 ([(⟨5, 7⟩ : api_Pair)] : List api_Pair), eR42 ([(⟨5, 8⟩ : api_Pair)] : List api_Pair), eB91 v4, eR44 v9]⟩ ?_
            by_cases c19 : v3.2 = 0
            · replace H := iT c19 H
              rw [eqT c19]
              refine goK hT 5 (K12 111110 12) ⟨51, [(1, .d .np), (3, .ptr 2 0 0 0), (5, .own 3 2 0 v9.length), (32, .b ((v9.length : Int) == 1))], [eR42 ([(⟨5, 7⟩ : api_Pair)] : List api_Pair), eR42 ([(⟨5, 8⟩ : api_Pair)] : List api_Pair), eB91 v4, eR44 v9]⟩ ?_
              by_cases c20 : (v9.length : Int) = 1
              · replace H := iT c20 H
                rw [eqT c20]
                refine goK hT 1 (K12 111110 13) ⟨51, [(1, .d .np), (3, .ptr 2 0 0 0), (32, .b true), (33, .own 3 2 0 v9.length)], [eR42 ([(⟨5, 7⟩ : api_Pair)] : List api_Pair), eR42 ([(⟨5, 8⟩ : api_Pair)] : List api_Pair), eB91 v4, eR44 v9]⟩ ?_
                obtain ⟨h21, H⟩ := iC H
                refine ak_idx hT [1, 3, 32, 34] (i := 0) (n := (v9.length : Int)) h21.1 h21.2 (k' := (K12 111110 14)) (st' := ⟨51, [(1, .d .np), (3, .ptr 2 0 0 0), (32, .b true), (34, .ptr 3 2 0 0)], [eR42 ([(⟨5, 7⟩ : api_Pair)] : List api_Pair), eR42 ([(⟨5, 8⟩ : api_Pair)] : List api_Pair), eB91 v4, eR44 v9]⟩) (by kernel_rfl) ?_
                refine ak_ld hT [1, 3, 32, 35] (i := 0) (n := v9.length) (by omega) (k' := (K12 111110 15)) (st' := ⟨51, [(1, .d .np), (3, .ptr 2 0 0 0), (32, .b true), (35, .d (eG44 (v9.getD 0 api_Span.z)))], [eR42 ([(⟨5, 7⟩ : api_Pair)] : List api_Pair), eR42 ([(⟨5, 8⟩ : api_Pair)] : List api_Pair), eB91 v4, eR44 v9]⟩) (by kernel_rfl) ?_
                refine goK hT 4 (K12 111110 19) ⟨51, [(1, .d .np), (3, .ptr 2 0 0 0), (39, .b ((((v9.getD 0 api_Span.z).Lo) == 5) && (((v9.getD 0 api_Span.z).Hi) == 6)))], [eR42 ([(⟨5, 7⟩ : api_Pair)] : List api_Pair), eR42 ([(⟨5, 8⟩ : api_Pair)] : List api_Pair), eB91 v4, eR44 v9]⟩ ?_
                by_cases c22 : ((v9.getD 0 api_Span.z).Lo) = 5
                · replace H := iT c22 H
                  rw [eqT c22]
                  by_cases c23 : ((v9.getD 0 api_Span.z).Hi) = 6
                  · replace H := iT c23 H
                    rw [eqT c23]
                    refine goK hT 1 (K12 111110 20) ⟨51, [(3, .ptr 2 0 0 0), (39, .b true), (40, .d .np)], [eR42 ([(⟨5, 7⟩ : api_Pair)] : List api_Pair), eR42 ([(⟨5, 8⟩ : api_Pair)] : List api_Pair), eB91 v4, eR44 v9]⟩ ?_
                    obtain ⟨v10, h24, H⟩ := ibC H
                    refine ak_callP (avs := [.d .np]) (dst := some 41) (k' := (K12 111110 21)) [3, 39, 41] [] hP enters_18 (merkle_Tree_Root_n0.says h24) (by kernel_rfl) (hands_none _) (.cons (pass_d _) .nil) (st' := ⟨51, [(3, .ptr 2 0 0 0), (39, .b true), (41, .n .u32 v10)], [eR42 ([(⟨5, 7⟩ : api_Pair)] : List api_Pair), eR42 ([(⟨5, 8⟩ : api_Pair)] : List api_Pair), eB91 v4, eR44 v9]⟩) (by kernel_rfl) ?_
                    refine goK hT 1 (K12 111110 22) ⟨51, [(39, .b true), (41, .n .u32 v10), (42, .ptr 2 0 0 0)], [eR42 ([(⟨5, 7⟩ : api_Pair)] : List api_Pair), eR42 ([(⟨5, 8⟩ : api_Pair)] : List api_Pair), eB91 v4, eR44 v9]⟩ ?_
                    refine ak_callP (avs := [.ptr 2 0 0 0]) (dst := some 43) (k' := (K12 111110 23)) [39, 41, 43] [2] hP enters_18 (merkle_Tree_Root.says v4) (by kernel_rfl) (hands_one rfl rfl) (.cons (.same (.ptr 0 0 0 0)) .nil) (st' := ⟨51, [(39, .b true), (41, .n .u32 v10), (43, .n .u32 (merkle_Tree_Root v4))], [eR42 ([(⟨5, 7⟩ : api_Pair)] : List api_Pair), eR42 ([(⟨5, 8⟩ : api_Pair)] : List api_Pair), eB91 v4, eR44 v9]⟩) (by kernel_rfl) ?_
                    refine goK hT 3 (K12 111110 26) ⟨51, [(46, .b (v10 != (merkle_Tree_Root v4)))], [eR42 ([(⟨5, 7⟩ : api_Pair)] : List api_Pair), eR42 ([(⟨5, 8⟩ : api_Pair)] : List api_Pair), eB91 v4, eR44 v9]⟩ ?_
                    by_cases c25 : v10 = (merkle_Tree_Root v4)
                    · replace H := iT c25 H
                      rw [neF c25]
                      refine goK hT 6 (K12 11111 1) ⟨51, [(0, .b false)], [eR42 ([(⟨5, 7⟩ : api_Pair)] : List api_Pair), eR42 ([(⟨5, 8⟩ : api_Pair)] : List api_Pair), eB91 v4, eR44 v9]⟩ ?_
                      refine cutK [] ⟨51, [(0, .b false)], []⟩ h0 ?_
                      exact Jj2 false H
                    · replace H := iF c25 H
                      rw [neT c25]
                      refine goK hT 1 (K12 111110 27) ⟨51, [(46, .b true), (47, .d (.agg [.i 0, .b false]))], [eR42 ([(⟨5, 7⟩ : api_Pair)] : List api_Pair), eR42 ([(⟨5, 8⟩ : api_Pair)] : List api_Pair), eB91 v4, eR44 v9]⟩ ?_
                      obtain ⟨v11, h26, H⟩ := ibC H
                      refine ak_callP (avs := [.d (.agg [.i 0, .b false])]) (dst := some 48) (k' := (K12 111110 28)) [46, 48] [] hP enters_19 (merkle_Number.says (⟨0, false⟩ : api_Cell) h26) (by kernel_rfl) (hands_none _) (.cons (pass_d _) .nil) (st' := ⟨51, [(46, .b true), (48, .n .u32 v11)], [eR42 ([(⟨5, 7⟩ : api_Pair)] : List api_Pair), eR42 ([(⟨5, 8⟩ : api_Pair)] : List api_Pair), eB91 v4, eR44 v9]⟩) (by kernel_rfl) ?_
                      refine goK hT 4 (K12 11111 1) ⟨51, [(0, .b (v11 == 0))], [eR42 ([(⟨5, 7⟩ : api_Pair)] : List api_Pair), eR42 ([(⟨5, 8⟩ : api_Pair)] : List api_Pair), eB91 v4, eR44 v9]⟩ ?_
                      refine cutK [] ⟨51, [(0, .b (v11 == 0))], []⟩ h0 ?_
                      exact Jj2 (v11 == 0) H
                  · replace H := iF c23 H
                    rw [eqF c23]
                    refine goK hT 13 (K12 11111 1) ⟨51, [(0, .b false)], [eR42 ([(⟨5, 7⟩ : api_Pair)] : List api_Pair), eR42 ([(⟨5, 8⟩ : api_Pair)] : List api_Pair), eB91 v4, eR44 v9]⟩ ?_
                    refine cutK [] ⟨51, [(0, .b false)], []⟩ h0 ?_
                    exact Jj2 false H
                · replace H := iF c22 H
                  rw [eqF c22]
                  by_cases c27 : ((v9.getD 0 api_Span.z).Hi) = 6
                  · replace H := iT c27 H
                    rw [eqT c27]
                    refine goK hT 13 (K12 11111 1) ⟨51, [(0, .b false)], [eR42 ([(⟨5, 7⟩ : api_Pair)] : List api_Pair), eR42 ([(⟨5, 8⟩ : api_Pair)] : List api_Pair), eB91 v4, eR44 v9]⟩ ?_
                    refine cutK [] ⟨51, [(0, .b false)], []⟩ h0 ?_
                    exact Jj2 false H
                  · replace H := iF c27 H
                    rw [eqF c27]
                    refine goK hT 13 (K12 11111 1) ⟨51, [(0, .b false)], [eR42 ([(⟨5, 7⟩ : api_Pair)] : List api_Pair), eR42 ([(⟨5, 8⟩ : api_Pair)] : List api_Pair), eB91 v4, eR44 v9]⟩ ?_
                    refine cutK [] ⟨51, [(0, .b false)], []⟩ h0 ?_
                    exact Jj2 false H
              · replace H := iF c20 H
                rw [eqF c20]
                refine goK hT 20 (K12 11111 1) ⟨51, [(0, .b false)], [eR42 ([(⟨5, 7⟩ : api_Pair)] : List api_Pair), eR42 ([(⟨5, 8⟩ : api_Pair)] : List api_Pair), eB91 v4, eR44 v9]⟩ ?_
                refine cutK [] ⟨51, [(0, .b false)], []⟩ h0 ?_
                exact Jj2 false H
            · replace H := iF c19 H
              rw [eqF c19]
              refine goK hT 25 (K12 11111 1) ⟨51, [(0, .b false)], [eR42 ([(⟨5, 7⟩ : api_Pair)] : List api_Pair), eR42 ([(⟨5, 8⟩ : api_Pair)] : List api_Pair), eB91 v4, eR44 v9]⟩ ?_
              refine cutK [] ⟨51, [(0, .b false)], []⟩ h0 ?_
              exact Jj2 false H
          · replace H := iF c18 H
            rw [eqF c18]
            refine goK hT 29 (K12 11111 1) ⟨51, [(0, .b false)], [eR42 ([(⟨5, 7⟩ : api_Pair)] : List api_Pair), eR42 ([(⟨5, 8⟩ : api_Pair)] : List api_Pair), eB91 v4, eR44 v9]⟩ ?_
            refine cutK [] ⟨51, [(0, .b false)], []⟩ h0 ?_
            exact Jj2 false H
  | some v2 =>
      rw [q2] at H
      replace H := ioptS H
      have Sq2 := merkle_New.says (t0 := false) ([(⟨5, 7⟩ : api_Pair)] : List api_Pair) h1
      rw [q2] at Sq2
      refine ak_callP (avs := [.own 0 2 0 (([(⟨5, 7⟩ : api_Pair)] : List api_Pair).length)]) (dst := some 9) (k' := (K12 110 3)) [9] [] hP enters_10 (Sq2) (by kernel_rfl) (hands_none _) (.cons (.lend (ty := 42) (by kernel_rfl) rfl) .nil) (st' := ⟨51, [(9, .tup [.ptr 1 0 0 0, .i v1.2])], [eR42 ([(⟨5, 7⟩ : api_Pair)] : List api_Pair), eB91 v2]⟩) (by kernel_rfl) ?_
      refine goK hT 10 (K12 1110 2) ⟨51, [(1, .ptr 1 0 0 0), (2, .i v1.2), (14, .own 2 2 0 1)], [eR42 ([(⟨5, 7⟩ : api_Pair)] : List api_Pair), eB91 v2, .flat false 2 42 1 (fun j => [[.i 5, .i 8]].getD j [])]⟩ ?_
      refine ak_row 2 (kk := 2) (fz := false) (ty := 42) (n := ([(⟨5, 8⟩ : api_Pair)] : List api_Pair).length) (vec api_Pair.e api_Pair.z ([(⟨5, 8⟩ : api_Pair)] : List api_Pair)) (by kernel_rfl) vec_lit (st' := ⟨51, [(1, .ptr 1 0 0 0), (2, .i v1.2), (14, .own 2 2 0 (([(⟨5, 8⟩ : api_Pair)] : List api_Pair).length))], [eR42 ([(⟨5, 7⟩ : api_Pair)] : List api_Pair), eB91 v2, eR42 ([(⟨5, 8⟩ : api_Pair)] : List api_Pair)]⟩) (by kernel_rfl) ?_
      obtain ⟨v12, h28, H⟩ := ibC H
      cases q29 : v12.1 with
      | none =>
          rw [q29] at H
          replace H := ioptN H
          have Sq29 := merkle_New.says (t0 := false) ([(⟨5, 8⟩ : api_Pair)] : List api_Pair) h28
          rw [q29] at Sq29
          refine ak_callP (avs := [.own 2 2 0 (([(⟨5, 8⟩ : api_Pair)] : List api_Pair).length)]) (dst := some 15) (k' := (K12 1110 3)) [1, 2, 15] [] hP enters_10 (Sq29) (by kernel_rfl) (hands_none _) (.cons (.lend (ty := 42) (by kernel_rfl) rfl) .nil) (st' := ⟨51, [(1, .ptr 1 0 0 0), (2, .i v1.2), (15, .tup [.d .np, .i v12.2])], [eR42 ([(⟨5, 7⟩ : api_Pair)] : List api_Pair), eB91 v2, eR42 ([(⟨5, 8⟩ : api_Pair)] : List api_Pair)]⟩) (by kernel_rfl) ?_
          refine goK hT 10 (K12 11110 2) ⟨51, [(1, .ptr 1 0 0 0), (2, .i v1.2), (3, .d .np), (4, .i v12.2), (18, .ptr 1 0 0 0), (19, .d .np)], [eR42 ([(⟨5, 7⟩ : api_Pair)] : List api_Pair), eB91 v2, eR42 ([(⟨5, 8⟩ : api_Pair)] : List api_Pair)]⟩ ?_
          obtain ⟨v14, h30, H⟩ := ibC H
          have Jj3 : ∀ (y3_0 : Bool), (splicelaw20_awake.j3 y3_0) = some r → AK X 12 ((K12 11111 1)) (Back X [] (.b r)) ⟨51, [(0, .b y3_0)], []⟩ := by
            intro y3_0 H
            obtain rfl := retC H
            exact ak_ret hf hX (av := .b y3_0) (by kernel_rfl) [] (sel_of_eq (by kernel_rfl)) (by decide) (by rw [h0]; rfl) (by kernel_rfl) (fun _ h => all_nil h) (.d (.v _))
          refine ak_callP (avs := [.ptr 1 0 0 0, .d .np]) (dst := some 20) (k' := (K12 11110 3)) [1, 2, 3, 4, 20] [1] hP enters_14 (merkle_Diff_n1.says v2 h30) (by kernel_rfl) (hands_one rfl rfl) (.cons (.same (.ptr 0 0 0 0)) (.cons (pass_d _) .nil)) (st' := ⟨51, [(1, .ptr 1 0 0 0), (2, .i v1.2), (3, .d .np), (4, .i v12.2), (20, .own 3 2 0 v14.length)], [eR42 ([(⟨5, 7⟩ : api_Pair)] : List api_Pair), eB91 v2, eR42 ([(⟨5, 8⟩ : api_Pair)] : List api_Pair), eR44 v14]⟩) (by kernel_rfl) ?_
          refine goK hT 7 (K12 111110 3) ⟨51, [(1, .ptr 1 0 0 0), (3, .d .np), (4, .i v12.2), (5, .own 3 2 0 v14.length), (23, .b (v1.2 == 0))], [eR42 ([(⟨5, 7⟩ : api_Pair)] : List api_Pair), eB91 v2, eR42 ([(⟨5, 8⟩ : api_Pair)] : List api_Pair), eR44 v14]⟩ ?_
          by_cases c31 : v1.2 = 0
          · replace H := iT c31 H
            rw [eqT c31]
            refine goK hT 4 (K12 111110 7) ⟨51, [(1, .ptr 1 0 0 0), (3, .d .np), (5, .own 3 2 0 v14.length), (27, .b (v12.2 == 0))], [eR42 ([(⟨5, 7⟩ : api_Pair)] : List api_Pair), eB91 v2, eR42 ([(⟨5, 8⟩ : api_Pair)] : List api_Pair), eR44 v14]⟩ ?_
            by_cases c32 : v12.2 = 0
            · replace H := iT c32 H
              rw [eqT c32]
              refine goK hT 5 (K12 111110 12) ⟨51, [(1, .ptr 1 0 0 0), (3, .d .np), (5, .own 3 2 0 v14.length), (32, .b ((v14.length : Int) == 1))], [eR42 ([(⟨5, 7⟩ : api_Pair)] : List api_Pair), eB91 v2, eR42 ([(⟨5, 8⟩ : api_Pair)] : List api_Pair), eR44 v14]⟩ ?_
              by_cases c33 : (v14.length : Int) = 1
              · replace H := iT c33 H
                rw [eqT c33]
                refine goK hT 1 (K12 111110 13) ⟨51, [(1, .ptr 1 0 0 0), (3, .d .np), (32, .b true), (33, .own 3 2 0 v14.length)], [eR42 ([(⟨5, 7⟩ : api_Pair)] : List api_Pair), eB91 v2, eR42 ([(⟨5, 8⟩ : api_Pair)] : List api_Pair), eR44 v14]⟩ ?_
                obtain ⟨h34, H⟩ := iC H
                refine ak_idx hT [1, 3, 32, 34] (i := 0) (n := (v14.length : Int)) h34.1 h34.2 (k' := (K12 111110 14)) (st' := ⟨51, [(1, .ptr 1 0 0 0), (3, .d .np), (32, .b true), (34, .ptr 3 2 0 0)], [eR42 ([(⟨5, 7⟩ : api_Pair)] : List api_Pair), eB91 v2, eR42 ([(⟨5, 8⟩ : api_Pair)] : List api_Pair), eR44 v14]⟩) (by kernel_rfl) ?_
                refine ak_ld hT [1, 3, 32, 35] (i := 0) (n := v14.length) (by omega) (k' := (K12 111110 15)) (st' := ⟨51, [(1, .ptr 1 0 0 0), (3, .d .np), (32, .b true), (35, .d (eG44 (v14.getD 0 api_Span.z)))], [eR42 ([(⟨5, 7⟩ : api_Pair)] : List api_Pair), eB91 v2, eR42 ([(⟨5, 8⟩ : api_Pair)] : List api_Pair), eR44 v14]⟩) (by kernel_rfl) ?_
                refine goK hT 4 (K12 111110 19) ⟨51, [(1, .ptr 1 0 0 0), (3, .d .np), (39, .b ((((v14.getD 0 api_Span.z).Lo) == 5) && (((v14.getD 0 api_Span.z).Hi) == 6)))], [eR42 ([(⟨5, 7⟩ : api_Pair)] : List api_Pair), eB91 v2, eR42 ([(⟨5, 8⟩ : api_Pair)] : List api_Pair), eR44 v14]⟩ ?_
                by_cases c35 : ((v14.getD 0 api_Span.z).Lo) = 5
                · replace H := iT c35 H
                  rw [eqT c35]
                  by_cases c36 : ((v14.getD 0 api_Span.z).Hi) = 6
                  · replace H := iT c36 H
                    rw [eqT c36]
                    refine goK hT 1 (K12 111110 20) ⟨51, [(3, .d .np), (39, .b true), (40, .ptr 1 0 0 0)], [eR42 ([(⟨5, 7⟩ : api_Pair)] : List api_Pair), eB91 v2, eR42 ([(⟨5, 8⟩ : api_Pair)] : List api_Pair), eR44 v14]⟩ ?_
                    refine ak_callP (avs := [.ptr 1 0 0 0]) (dst := some 41) (k' := (K12 111110 21)) [3, 39, 41] [1] hP enters_18 (merkle_Tree_Root.says v2) (by kernel_rfl) (hands_one rfl rfl) (.cons (.same (.ptr 0 0 0 0)) .nil) (st' := ⟨51, [(3, .d .np), (39, .b true), (41, .n .u32 (merkle_Tree_Root v2))], [eR42 ([(⟨5, 7⟩ : api_Pair)] : List api_Pair), eB91 v2, eR42 ([(⟨5, 8⟩ : api_Pair)] : List api_Pair), eR44 v14]⟩) (by kernel_rfl) ?_
                    refine goK hT 1 (K12 111110 22) ⟨51, [(39, .b true), (41, .n .u32 (merkle_Tree_Root v2)), (42, .d .np)], [eR42 ([(⟨5, 7⟩ : api_Pair)] : List api_Pair), eB91 v2, eR42 ([(⟨5, 8⟩ : api_Pair)] : List api_Pair), eR44 v14]⟩ ?_
                    obtain ⟨v15, h37, H⟩ := ibC H
                    refine ak_callP (avs := [.d .np]) (dst := some 43) (k' := (K12 111110 23)) [39, 41, 43] [] hP enters_18 (merkle_Tree_Root_n0.says h37) (by kernel_rfl) (hands_none _) (.cons (pass_d _) .nil) (st' := ⟨51, [(39, .b true), (41, .n .u32 (merkle_Tree_Root v2)), (43, .n .u32 v15)], [eR42 ([(⟨5, 7⟩ : api_Pair)] : List api_Pair), eB91 v2, eR42 ([(⟨5, 8⟩ : api_Pair)] : List api_Pair), eR44 v14]⟩) (by kernel_rfl) ?_
                    refine goK hT 3 (K12 111110 26) ⟨51, [(46, .b ((merkle_Tree_Root v2) != v15))], [eR42 ([(⟨5, 7⟩ : api_Pair)] : List api_Pair), eB91 v2, eR42 ([(⟨5, 8⟩ : api_Pair)] : List api_Pair), eR44 v14]⟩ ?_
                    by_cases c38 : (merkle_Tree_Root v2) = v15
                    · replace H := iT c38 H
                      rw [neF c38]
                      refine goK hT 6 (K12 11111 1) ⟨51, [(0, .b false)], [eR42 ([(⟨5, 7⟩ : api_Pair)] : List api_Pair), eB91 v2, eR42 ([(⟨5, 8⟩ : api_Pair)] : List api_Pair), eR44 v14]⟩ ?_
                      refine cutK [] ⟨51, [(0, .b false)], []⟩ h0 ?_
                      exact Jj3 false H
                    · replace H := iF c38 H
                      rw [neT c38]
                      refine goK hT 1 (K12 111110 27) ⟨51, [(46, .b true), (47, .d (.agg [.i 0, .b false]))], [eR42 ([(⟨5, 7⟩ : api_Pair)] : List api_Pair), eB91 v2, eR42 ([(⟨5, 8⟩ : api_Pair)] : List api_Pair), eR44 v14]⟩ ?_
                      obtain ⟨v16, h39, H⟩ := ibC H
                      refine ak_callP (avs := [.d (.agg [.i 0, .b false])]) (dst := some 48) (k' := (K12 111110 28)) [46, 48] [] hP enters_19 (merkle_Number.says (⟨0, false⟩ : api_Cell) h39) (by kernel_rfl) (hands_none _) (.cons (pass_d _) .nil) (st' := ⟨51, [(46, .b true), (48, .n .u32 v16)], [eR42 ([(⟨5, 7⟩ : api_Pair)] : List api_Pair), eB91 v2, eR42 ([(⟨5, 8⟩ : api_Pair)] : List api_Pair), eR44 v14]⟩) (by kernel_rfl) ?_
                      refine goK hT 4 (K12 11111 1) ⟨51, [(0, .b (v16 == 0))], [eR42 ([(⟨5, 7⟩ : api_Pair)] : List api_Pair), eB91 v2, eR42 ([(⟨5, 8⟩ : api_Pair)] : List api_Pair), eR44 v14]⟩ ?_
                      refine cutK [] ⟨51, [(0, .b (v16 == 0))], []⟩ h0 ?_
                      exact Jj3 (v16 == 0) H
                  · replace H := iF c36 H
                    rw [eqF c36]
                    refine goK hT 13 (K12 11111 1) ⟨51, [(0, .b false)], [eR42 ([(⟨5, 7⟩ : api_Pair)] : List api_Pair), eB91 v2, eR42 ([(⟨5, 8⟩ : api_Pair)] : List api_Pair), eR44 v14]⟩ ?_
                    refine cutK [] ⟨51, [(0, .b false)], []⟩ h0 ?_
                    exact Jj3 false H
                · replace H := iF c35 H
                  rw [eqF c35]
                  by_cases c40 : ((v14.getD 0 api_Span.z).Hi) = 6
                  · replace H := iT c40 H
                    rw [eqT c40]
                    refine goK hT 13 (K12 11111 1) ⟨51, [(0, .b false)], [eR42 ([(⟨5, 7⟩ : api_Pair)] : List api_Pair), eB91 v2, eR42 ([(⟨5, 8⟩ : api_Pair)] : List api_Pair), eR44 v14]⟩ ?_
                    refine cutK [] ⟨51, [(0, .b false)], []⟩ h0 ?_
                    exact Jj3 false H
                  · replace H := iF c40 H
                    rw [eqF c40]
                    refine goK hT 13 (K12 11111 1) ⟨51, [(0, .b false)], [eR42 ([(⟨5, 7⟩ : api_Pair)] : List api_Pair), eB91 v2, eR42 ([(⟨5, 8⟩ : api_Pair)] : List api_Pair), eR44 v14]⟩ ?_
                    refine cutK [] ⟨51, [(0, .b false)], []⟩ h0 ?_
                    exact Jj3 false H
              · replace H := iF c33 H
                rw [eqF c33]
                refine goK hT 20 (K12 11111 1) ⟨51, [(0, .b false)], [eR42 ([(⟨5, 7⟩ : api_Pair)] : List api_Pair), eB91 v2, eR42 ([(⟨5, 8⟩ : api_Pair)] : List api_Pair), eR44 v14]⟩ ?_
                refine cutK [] ⟨51, [(0, .b false)], []⟩ h0 ?_
                exact Jj3 false H
            · replace H := iF c32 H
              rw [eqF c32]
              refine goK hT 25 (K12 11111 1) ⟨51, [(0, .b false)], [eR42 ([(⟨5, 7⟩ : api_Pair)] : List api_Pair), eB91 v2, eR42 ([(⟨5, 8⟩ : api_Pair)] : List api_Pair), eR44 v14]⟩ ?_
              refine cutK [] ⟨51, [(0, .b false)], []⟩ h0 ?_
              exact Jj3 false H
          · replace H := iF c31 H
            rw [eqF c31]
            refine goK hT 29 (K12 11111 1) ⟨51, [(0, .b false)], [eR42 ([(⟨5, 7⟩ : api_Pair)] : List api_Pair), eB91 v2, eR42 ([(⟨5, 8⟩ : api_Pair)] : List api_Pair), eR44 v14]⟩ ?_
            refine cutK [] ⟨51, [(0, .b false)], []⟩ h0 ?_
            exact Jj3 false H
      | some v13 =>
          rw [q29] at H
          replace H := ioptS H
          have Sq29 := merkle_New.says (t0 := false) ([(⟨5, 8⟩ : api_Pair)] : List api_Pair) h28
          rw [q29] at Sq29
          refine ak_callP (avs := [.own 2 2 0 (([(⟨5, 8⟩ : api_Pair)] : List api_Pair).length)]) (dst := some 15) (k' := (K12 1110 3)) [1, 2, 15] [] hP enters_10 (Sq29) (by kernel_rfl) (hands_none _) (.cons (.lend (ty := 42) (by kernel_rfl) rfl) .nil) (st' := ⟨51, [(1, .ptr 1 0 0 0), (2, .i v1.2), (15, .tup [.ptr 3 0 0 0, .i v12.2])], [eR42 ([(⟨5, 7⟩ : api_Pair)] : List api_Pair), eB91 v2, eR42 ([(⟨5, 8⟩ : api_Pair)] : List api_Pair), eB91 v13]⟩) (by kernel_rfl) ?_
          refine goK hT 10 (K12 11110 2) ⟨51, [(1, .ptr 1 0 0 0), (2, .i v1.2), (3, .ptr 3 0 0 0), (4, .i v12.2), (18, .ptr 1 0 0 0), (19, .ptr 3 0 0 0)], [eR42 ([(⟨5, 7⟩ : api_Pair)] : List api_Pair), eB91 v2, eR42 ([(⟨5, 8⟩ : api_Pair)] : List api_Pair), eB91 v13]⟩ ?_
          obtain ⟨v17, h41, H⟩ := ibC H
          have Jj4 : ∀ (y4_0 : Bool), (splicelaw20_awake.j4 y4_0) = some r → AK X 12 ((K12 11111 1)) (Back X [] (.b r)) ⟨51, [(0, .b y4_0)], []⟩ := by
            intro y4_0 H
            obtain rfl := retC H
            exact ak_ret hf hX (av := .b y4_0) (by kernel_rfl) [] (sel_of_eq (by kernel_rfl)) (by decide) (by rw [h0]; rfl) (by kernel_rfl) (fun _ h => all_nil h) (.d (.v _))
          refine ak_callP (avs := [.ptr 1 0 0 0, .ptr 3 0 0 0]) (dst := some 20) (k' := (K12 11110 3)) [1, 2, 3, 4, 20] [1, 3] hP enters_14 (merkle_Diff.says v2 v13 h41) (by kernel_rfl) (hands_two rfl rfl rfl rfl (by decide)) (.cons (.same (.ptr 0 0 0 0)) (.cons (.same (.ptr 1 0 0 0)) .nil)) (st' := ⟨51, [(1, .ptr 1 0 0 0), (2, .i v1.2), (3, .ptr 3 0 0 0), (4, .i v12.2), (20, .own 4 2 0 v17.length)], [eR42 ([(⟨5, 7⟩ : api_Pair)] : List api_Pair), eB91 v2, eR42 ([(⟨5, 8⟩ : api_Pair)] : List api_Pair), eB91 v13, eR44 v17]⟩) (by kernel_rfl) ?_
          refine goK hT 7 (K12 111110 3) ⟨51, [(1, .ptr 1 0 0 0), (3, .ptr 3 0 0 0), (4, .i v12.2), (5, .own 4 2 0 v17.length), (23, .b (v1.2 == 0))], [eR42 ([(⟨5, 7⟩ : api_Pair)] : List api_Pair), eB91 v2, eR42 ([(⟨5, 8⟩ : api_Pair)] : List api_Pair), eB91 v13, eR44 v17]⟩ ?_
          by_cases c42 : v1.2 = 0
          · replace H := iT c42 H
            rw [eqT c42]
            refine goK hT 4 (K12 111110 7) ⟨51, [(1, .ptr 1 0 0 0), (3, .ptr 3 0 0 0), (5, .own 4 2 0 v17.length), (27, .b (v12.2 == 0))], [eR42 ([(⟨5, 7⟩ : api_Pair)] : List api_Pair), eB91 v2, eR42 ([(⟨5, 8⟩ : api_Pair)] : List api_Pair), eB91 v13, eR44 v17]⟩ ?_
            by_cases c43 : v12.2 = 0
            · replace H := iT c43 H
              rw [eqT c43]
              refine goK hT 5 (K12 111110 12) ⟨51, [(1, .ptr 1 0 0 0), (3, .ptr 3 0 0 0), (5, .own 4 2 0 v17.length), (32, .b ((v17.length : Int) == 1))], [eR42 ([(⟨5, 7⟩ : api_Pair)] : List api_Pair), eB91 v2, eR42 ([(⟨5, 8⟩ : api_Pair)] : List api_Pair), eB91 v13, eR44 v17]⟩ ?_
              by_cases c44 : (v17.length : Int) = 1
              · replace H := iT c44 H
                rw [eqT c44]
                refine goK hT 1 (K12 111110 13) ⟨51, [(1, .ptr 1 0 0 0), (3, .ptr 3 0 0 0), (32, .b true), (33, .own 4 2 0 v17.length)], [eR42 ([(⟨5, 7⟩ : api_Pair)] : List api_Pair), eB91 v2, eR42 ([(⟨5, 8⟩ : api_Pair)] : List api_Pair), eB91 v13, eR44 v17]⟩ ?_
                obtain ⟨h45, H⟩ := iC H
                refine ak_idx hT [1, 3, 32, 34] (i := 0) (n := (v17.length : Int)) h45.1 h45.2 (k' := (K12 111110 14)) (st' := ⟨51, [(1, .ptr 1 0 0 0), (3, .ptr 3 0 0 0), (32, .b true), (34, .ptr 4 2 0 0)], [eR42 ([(⟨5, 7⟩ : api_Pair)] : List api_Pair), eB91 v2, eR42 ([(⟨5, 8⟩ : api_Pair)] : List api_Pair), eB91 v13, eR44 v17]⟩) (by kernel_rfl) ?_
                refine ak_ld hT [1, 3, 32, 35] (i := 0) (n := v17.length) (by omega) (k' := (K12 111110 15)) (st' := ⟨51, [(1, .ptr 1 0 0 0), (3, .ptr 3 0 0 0), (32, .b true), (35, .d (eG44 (v17.getD 0 api_Span.z)))], [eR42 ([(⟨5, 7⟩ : api_Pair)] : List api_Pair), eB91 v2, eR42 ([(⟨5, 8⟩ : api_Pair)] : List api_Pair), eB91 v13, eR44 v17]⟩) (by kernel_rfl) ?_
                refine goK hT 4 (K12 111110 19) ⟨51, [(1, .ptr 1 0 0 0), (3, .ptr 3 0 0 0), (39, .b ((((v17.getD 0 api_Span.z).Lo) == 5) && (((v17.getD 0 api_Span.z).Hi) == 6)))], [eR42 ([(⟨5, 7⟩ : api_Pair)] : List api_Pair), eB91 v2, eR42 ([(⟨5, 8⟩ : api_Pair)] : List api_Pair), eB91 v13, eR44 v17]⟩ ?_
                by_cases c46 : ((v17.getD 0 api_Span.z).Lo) = 5
                · replace H := iT c46 H
                  rw [eqT c46]
                  by_cases c47 : ((v17.getD 0 api_Span.z).Hi) = 6
                  · replace H := iT c47 H
                    rw [eqT c47]
                    refine goK hT 1 (K12 111110 20) ⟨51, [(3, .ptr 3 0 0 0), (39, .b true), (40, .ptr 1 0 0 0)], [eR42 ([(⟨5, 7⟩ : api_Pair)] : List api_Pair), eB91 v2, eR42 ([(⟨5, 8⟩ : api_Pair)] : List api_Pair), eB91 v13, eR44 v17]⟩ ?_
                    refine ak_callP (avs := [.ptr 1 0 0 0]) (dst := some 41) (k' := (K12 111110 21)) [3, 39, 41] [1] hP enters_18 (merkle_Tree_Root.says v2) (by kernel_rfl) (hands_one rfl rfl) (.cons (.same (.ptr 0 0 0 0)) .nil) (st' := ⟨51, [(3, .ptr 3 0 0 0), (39, .b true), (41, .n .u32 (merkle_Tree_Root v2))], [eR42 ([(⟨5, 7⟩ : api_Pair)] : List api_Pair), eB91 v2, eR42 ([(⟨5, 8⟩ : api_Pair)] : List api_Pair), eB91 v13, eR44 v17]⟩) (by kernel_rfl) ?_
                    refine goK hT 1 (K12 111110 22) ⟨51, [(39, .b true), (41, .n .u32 (merkle_Tree_Root v2)), (42, .ptr 3 0 0 0)], [eR42 ([(⟨5, 7⟩ : api_Pair)] : List api_Pair), eB91 v2, eR42 ([(⟨5, 8⟩ : api_Pair)] : List api_Pair), eB91 v13, eR44 v17]⟩ ?_
                    refine ak_callP (avs := [.ptr 3 0 0 0]) (dst := some 43) (k' := (K12 111110 23)) [39, 41, 43] [3] hP enters_18 (merkle_Tree_Root.says v13) (by kernel_rfl) (hands_one rfl rfl) (.cons (.same (.ptr 0 0 0 0)) .nil) (st' := ⟨51, [(39, .b true), (41, .n .u32 (merkle_Tree_Root v2)), (43, .n .u32 (merkle_Tree_Root v13))], [eR42 ([(⟨5, 7⟩ : api_Pair)] : List api_Pair), eB91 v2, eR42 ([(⟨5, 8⟩ : api_Pair)] : List api_Pair), eB91 v13, eR44 v17]⟩) (by kernel_rfl) ?_
                    refine goK hT 3 (K12 111110 26) ⟨51, [(46, .b ((merkle_Tree_Root v2) != (merkle_Tree_Root v13)))], [eR42 ([(⟨5, 7⟩ : api_Pair)] : List api_Pair), eB91 v2, eR42 ([(⟨5, 8⟩ : api_Pair)] : List api_Pair), eB91 v13, eR44 v17]⟩ ?_
                    by_cases c48 : (merkle_Tree_Root v2) = (merkle_Tree_Root v13)
                    · replace H := iT c48 H
                      rw [neF c48]
                      refine goK hT 6 (K12 11111 1) ⟨51, [(0, .b false)], [eR42 ([(⟨5, 7⟩ : api_Pair)] : List api_Pair), eB91 v2, eR42 ([(⟨5, 8⟩ : api_Pair)] : List api_Pair), eB91 v13, eR44 v17]⟩ ?_
                      refine cutK [] ⟨51, [(0, .b false)], []⟩ h0 ?_
                      exact Jj4 false H
                    · replace H := iF c48 H
                      rw [neT c48]
                      refine goK hT 1 (K12 111110 27) ⟨51, [(46, .b true), (47, .d (.agg [.i 0, .b false]))], [eR42 ([(⟨5, 7⟩ : api_Pair)] : List api_Pair), eB91 v2, eR42 ([(⟨5, 8⟩ : api_Pair)] : List api_Pair), eB91 v13, eR44 v17]⟩ ?_
                      obtain ⟨v18, h49, H⟩ := ibC H
                      refine ak_callP (avs := [.d (.agg [.i 0, .b false])]) (dst := some 48) (k' := (K12 111110 28)) [46, 48] [] hP enters_19 (merkle_Number.says (⟨0, false⟩ : api_Cell) h49) (by kernel_rfl) (hands_none _) (.cons (pass_d _) .nil) (st' := ⟨51, [(46, .b true), (48, .n .u32 v18)], [eR42 ([(⟨5, 7⟩ : api_Pair)] : List api_Pair), eB91 v2, eR42 ([(⟨5, 8⟩ : api_Pair)] : List api_Pair), eB91 v13, eR44 v17]⟩) (by kernel_rfl) ?_
                      refine goK hT 4 (K12 11111 1) ⟨51, [(0, .b (v18 == 0))], [eR42 ([(⟨5, 7⟩ : api_Pair)] : List api_Pair), eB91 v2, eR42 ([(⟨5, 8⟩ : api_Pair)] : List api_Pair), eB91 v13, eR44 v17]⟩ ?_
                      refine cutK [] ⟨51, [(0, .b (v18 == 0))], []⟩ h0 ?_
                      exact Jj4 (v18 == 0) H
                  · replace H := iF c47 H
                    rw [eqF c47]
                    refine goK hT 13 (K12 11111 1) ⟨51, [(0, .b false)], [eR42 ([(⟨5, 7⟩ : api_Pair)] : List api_Pair), eB91 v2, eR42 ([(⟨5, 8⟩ : api_Pair)] : List api_Pair), eB91 v13, eR44 v17]⟩ ?_
                    refine cutK [] ⟨51, [(0, .b false)], []⟩ h0 ?_
                    exact Jj4 false H
                · replace H := iF c46 H
                  rw [eqF c46]
                  by_cases c50 : ((v17.getD 0 api_Span.z).Hi) = 6
                  · replace H := iT c50 H
                    rw [eqT c50]
                    refine goK hT 13 (K12 11111 1) ⟨51, [(0, .b false)], [eR42 ([(⟨5, 7⟩ : api_Pair)] : List api_Pair), eB91 v2, eR42 ([(⟨5, 8⟩ : api_Pair)] : List api_Pair), eB91 v13, eR44 v17]⟩ ?_
                    refine cutK [] ⟨51, [(0, .b false)], []⟩ h0 ?_
                    exact Jj4 false H
                  · replace H := iF c50 H
                    rw [eqF c50]
                    refine goK hT 13 (K12 11111 1) ⟨51, [(0, .b false)], [eR42 ([(⟨5, 7⟩ : api_Pair)] : List api_Pair), eB91 v2, eR42 ([(⟨5, 8⟩ : api_Pair)] : List api_Pair), eB91 v13, eR44 v17]⟩ ?_
                    refine cutK [] ⟨51, [(0, .b false)], []⟩ h0 ?_
                    exact Jj4 false H
              · replace H := iF c44 H
                rw [eqF c44]
                refine goK hT 20 (K12 11111 1) ⟨51, [(0, .b false)], [eR42 ([(⟨5, 7⟩ : api_Pair)] : List api_Pair), eB91 v2, eR42 ([(⟨5, 8⟩ : api_Pair)] : List api_Pair), eB91 v13, eR44 v17]⟩ ?_
                refine cutK [] ⟨51, [(0, .b false)], []⟩ h0 ?_
                exact Jj4 false H
            · replace H := iF c43 H
              rw [eqF c43]
              refine goK hT 25 (K12 11111 1) ⟨51, [(0, .b false)], [eR42 ([(⟨5, 7⟩ : api_Pair)] : List api_Pair), eB91 v2, eR42 ([(⟨5, 8⟩ : api_Pair)] : List api_Pair), eB91 v13, eR44 v17]⟩ ?_
              refine cutK [] ⟨51, [(0, .b false)], []⟩ h0 ?_
              exact Jj4 false H
          · replace H := iF c42 H
            rw [eqF c42]
            refine goK hT 29 (K12 11111 1) ⟨51, [(0, .b false)], [eR42 ([(⟨5, 7⟩ : api_Pair)] : List api_Pair), eB91 v2, eR42 ([(⟨5, 8⟩ : api_Pair)] : List api_Pair), eB91 v13, eR44 v17]⟩ ?_
            refine cutK [] ⟨51, [(0, .b false)], []⟩ h0 ?_
            exact Jj4 false H


theorem splicelaw05_Refs.says {t0 : Bool} (a0 : List api_Pair) {r : List spliceref04_Pair} (H : splicelaw05_Refs a0 = some r) : Says Try.prog 22 [] [.d (eL42 t0 a0)] [eR94 r] (.own 0 2 0 r.length) := by
  refine says_of Try.func22 rfl (nt := 19) rfl (Nat.le_of_ble_eq_true rfl) fun X hP h0 hX => ?_
  have hT : TabOk X.P T := hP ▸ tok
  have hf : X.P.funcs[22]? = some Try.f22 := hP ▸ Try.func22
  refine goK hT 15 (K22 111010 0) ⟨19, [(0, .d (eL42 t0 a0)), (3, .ns), (4, .i 0)], []⟩ ?_
  refine ak_nilS [0, 3, 4] 3 2 94 (vec spliceref04_Pair.e spliceref04_Pair.z []) (st' := ⟨19, [(0, .d (eL42 t0 a0)), (3, .own 0 2 0 0), (4, .i 0)], [eR94 ([] : List spliceref04_Pair)]⟩) (by kernel_rfl) (by kernel_rfl) ?_
  have L : ∀ n, (∀ (x1_4 : Int) (x1_r0 : List spliceref04_Pair), iter (splicelaw05_Refs.step a0) n (.l1 x1_4 x1_r0) = some r → AK X 22 ((K22 111010 0)) (Back X [eR94 r] (.own 0 2 0 r.length)) ⟨19, [(0, .d (eL42 t0 a0)), (3, .own 0 2 0 x1_r0.length), (4, .i x1_4)], [eR94 x1_r0]⟩) := by
    intro n
    induction n with
    | zero => exact fun _ _ H => iter0 H
    | succ n ih =>
      · intro x1_4 x1_r0 H
        refine goK hT 8 (K22 11101000 1) ⟨19, [(0, .d (eL42 t0 a0)), (3, .own 0 2 0 x1_r0.length), (4, .i x1_4), (8, .b (decide (x1_4 < (a0.length : Int))))], [eR94 x1_r0]⟩ ?_
        by_cases c1 : x1_4 < (a0.length : Int)
        · replace H := sT c1 H
          rw [decide_eq_true c1]
          refine goK hT 2 (K22 1110100 1) ⟨19, [(0, .d (eL42 t0 a0)), (3, .own 0 2 0 x1_r0.length), (4, .i x1_4)], [eR94 x1_r0]⟩ ?_
          refine goK hT 6 (K22 1110100100 3) ⟨19, [(0, .d (eL42 t0 a0)), (4, .i x1_4), (11, .own 0 2 0 x1_r0.length), (12, .d (eL42 t0 a0)), (13, .i x1_4)], [eR94 x1_r0]⟩ ?_
          obtain ⟨h2, H⟩ := sC H
          refine ak_idx hT [0, 4, 11, 14] (i := x1_4) (n := (a0.length : Int)) h2.1 h2.2 (k' := (K22 1110100100 4)) (st' := ⟨19, [(0, .d (eL42 t0 a0)), (4, .i x1_4), (11, .own 0 2 0 x1_r0.length), (14, .d (eP42 t0 a0 x1_4.toNat 0))], [eR94 x1_r0]⟩) (by kernel_rfl) ?_
          refine goK hT 2 (K22 1110100100 6) ⟨19, [(0, .d (eL42 t0 a0)), (4, .i x1_4), (11, .own 0 2 0 x1_r0.length), (16, .own 1 2 0 1)], [eR94 x1_r0, .flat false 2 94 1 (fun j => [api_Pair.e (a0.getD x1_4.toNat api_Pair.z)].getD j [])]⟩ ?_
          obtain ⟨h3, H⟩ := sC H
          refine ak_append1 (id := 0) (kk := 2) (by' := 16) (t := 53) (e := 94) (z := [.int .i64 0, .int .i64 0]) (dst := some 17) (id2 := 1) (e2 := 94) (fz := false) (k' := (K22 1110100100 7)) hT spliceref04_Pair.e spliceref04_Pair.z x1_r0 (⟨(a0.getD x1_4.toNat api_Pair.z).Key, (a0.getD x1_4.toNat api_Pair.z).Val⟩ : spliceref04_Pair) [0, 4, 17] (by kernel_rfl) (by kernel_rfl) (by kernel_rfl) (by kernel_rfl) (by kernel_rfl) (by kernel_rfl) (by kernel_rfl) h3 (by omega) (st' := ⟨19, [(0, .d (eL42 t0 a0)), (4, .i x1_4), (17, .own 2 2 0 ((x1_r0 ++ [(⟨(a0.getD x1_4.toNat api_Pair.z).Key, (a0.getD x1_4.toNat api_Pair.z).Val⟩ : spliceref04_Pair)]).length))], [.gone, .flat false 2 94 1 (fun j => [api_Pair.e (a0.getD x1_4.toNat api_Pair.z)].getD j []), eR94 (x1_r0 ++ [(⟨(a0.getD x1_4.toNat api_Pair.z).Key, (a0.getD x1_4.toNat api_Pair.z).Val⟩ : spliceref04_Pair)])]⟩) (by kernel_rfl) ?_
          refine goK hT 9 (K22 111010 0) ⟨19, [(0, .d (eL42 t0 a0)), (3, .own 2 2 0 ((x1_r0 ++ [(⟨(a0.getD x1_4.toNat api_Pair.z).Key, (a0.getD x1_4.toNat api_Pair.z).Val⟩ : spliceref04_Pair)]).length)), (4, .i (IntKind.wrap .i64 (x1_4 + 1)))], [.gone, .flat false 2 94 1 (fun j => [api_Pair.e (a0.getD x1_4.toNat api_Pair.z)].getD j []), eR94 (x1_r0 ++ [(⟨(a0.getD x1_4.toNat api_Pair.z).Key, (a0.getD x1_4.toNat api_Pair.z).Val⟩ : spliceref04_Pair)])]⟩ ?_
          refine cutK [2] ⟨19, [(0, .d (eL42 t0 a0)), (3, .own 0 2 0 (x1_r0 ++ [(⟨(a0.getD x1_4.toNat api_Pair.z).Key, (a0.getD x1_4.toNat api_Pair.z).Val⟩ : spliceref04_Pair)]).length), (4, .i (IntKind.wrap .i64 (x1_4 + 1)))], [eR94 (x1_r0 ++ [(⟨(a0.getD x1_4.toNat api_Pair.z).Key, (a0.getD x1_4.toNat api_Pair.z).Val⟩ : spliceref04_Pair)])]⟩ h0 ?_
          exact ih (IntKind.wrap .i64 (x1_4 + 1)) (x1_r0 ++ [(⟨(a0.getD x1_4.toNat api_Pair.z).Key, (a0.getD x1_4.toNat api_Pair.z).Val⟩ : spliceref04_Pair)]) H
        · replace H := sF c1 H
          rw [decide_eq_false c1]
          refine goK hT 7 (K22 1111 1) ⟨19, [(2, .own 0 2 0 x1_r0.length)], [eR94 x1_r0]⟩ ?_
          obtain rfl := retC H
          exact ak_ret hf hX (av := .own 0 2 0 x1_r0.length) (by kernel_rfl) [0] (sel_of_eq (by kernel_rfl)) (by decide) (by rw [h0]; rfl) (by kernel_rfl) (fun _ h => all_cons (nr_vec spliceref04_Pair.nl) (fun _ h => all_nil h) h) (.own _ _ _ _)
  refine cutK [0] ⟨19, [(0, .d (eL42 t0 a0)), (3, .own 0 2 0 ([] : List spliceref04_Pair).length), (4, .i 0)], [eR94 ([] : List spliceref04_Pair)]⟩ h0 ?_
  obtain ⟨n, H⟩ := loopC H
  exact (L n) 0 ([] : List spliceref04_Pair) H


theorem spliceref02_Sum.says (a0 : ByteArray) {r : Int} (H : spliceref02_Sum a0 = some r) : Says Try.prog 41 [] [.s a0] [] (.n .u32 r) := by
  refine says_of Try.func41 rfl (nt := 37) rfl (Nat.le_of_ble_eq_true rfl) fun X hP h0 hX => ?_
  have hT : TabOk X.P T := hP ▸ tok
  have hf : X.P.funcs[41]? = some Try.f41 := hP ▸ Try.func41
  refine goK hT 15 (K41 111010 0) ⟨37, [(0, .s a0), (3, .n .u32 4294967295), (4, .i 0)], []⟩ ?_
  have L : ∀ n, (∀ (x1_3 : Int) (x1_4 : Int), iter (spliceref02_Sum.step a0) n (.l1 x1_3 x1_4) = some r → AK X 41 ((K41 111010 0)) (Back X [] (.n .u32 r)) ⟨37, [(0, .s a0), (3, .n .u32 x1_3), (4, .i x1_4)], []⟩) ∧ (∀ (x2_3 : Int) (x2_4 : Int) (x2_5 : Int), iter (spliceref02_Sum.step a0) n (.l2 x2_3 x2_4 x2_5) = some r → AK X 41 ((K41 111010010010 0)) (Back X [] (.n .u32 r)) ⟨37, [(0, .s a0), (3, .n .u32 x2_3), (4, .i x2_4), (5, .i x2_5)], []⟩) := by
    intro n
    induction n with
    | zero => exact ⟨fun _ _ H => iter0 H, fun _ _ _ H => iter0 H⟩
    | succ n ih =>
      refine ⟨?_, ?_⟩
      · intro x1_3 x1_4 H
        refine goK hT 8 (K41 11101000 1) ⟨37, [(0, .s a0), (3, .n .u32 x1_3), (4, .i x1_4), (11, .b (decide (x1_4 < (a0.size : Int))))], []⟩ ?_
        by_cases c1 : x1_4 < (a0.size : Int)
        · replace H := sT c1 H
          rw [decide_eq_true c1]
          refine goK hT 2 (K41 1110100 1) ⟨37, [(0, .s a0), (3, .n .u32 x1_3), (4, .i x1_4)], []⟩ ?_
          refine goK hT 8 (K41 111010010010 0) ⟨37, [(0, .s a0), (3, .n .u32 x1_3), (4, .i x1_4), (5, .i 0)], []⟩ ?_
          refine cutK [] ⟨37, [(0, .s a0), (3, .n .u32 x1_3), (4, .i x1_4), (5, .i 0)], []⟩ h0 ?_
          exact ih.2 x1_3 x1_4 0 H
        · replace H := sF c1 H
          rw [decide_eq_false c1]
          refine goK hT 8 (K41 1111 1) ⟨37, [(2, .n .u32 (IntKind.wrap .u32 (4294967295 - x1_3)))], []⟩ ?_
          obtain rfl := retC H
          exact ak_ret hf hX (av := .n .u32 (IntKind.wrap .u32 (4294967295 - x1_3))) (by kernel_rfl) [] (sel_of_eq (by kernel_rfl)) (by decide) (by rw [h0]; rfl) (by kernel_rfl) (fun _ h => all_nil h) (.d (.v _))
      · intro x2_3 x2_4 x2_5 H
        refine goK hT 6 (K41 11101001001000 1) ⟨37, [(0, .s a0), (3, .n .u32 x2_3), (4, .i x2_4), (5, .i x2_5), (15, .b (decide (x2_5 < 8)))], []⟩ ?_
        by_cases c2 : x2_5 < 8
        · replace H := sT c2 H
          rw [decide_eq_true c2]
          refine goK hT 2 (K41 1110100100100 1) ⟨37, [(0, .s a0), (3, .n .u32 x2_3), (4, .i x2_4), (5, .i x2_5)], []⟩ ?_
          refine goK hT 6 (K41 11101001001001000 2) ⟨37, [(0, .s a0), (3, .n .u32 x2_3), (4, .i x2_4), (5, .i x2_5), (18, .s a0), (19, .i x2_4)], []⟩ ?_
          obtain ⟨h3, H⟩ := sC H
          refine ak_idx hT [0, 3, 4, 5, 20] (i := x2_4) (n := (a0.size : Int)) h3.1 h3.2 (k' := (K41 11101001001001000 3)) (st' := ⟨37, [(0, .s a0), (3, .n .u32 x2_3), (4, .i x2_4), (5, .i x2_5), (20, .n .u8 (byteAt a0 x2_4))], []⟩) (by kernel_rfl) ?_
          refine goK hT 2 (K41 11101001001001000 5) ⟨37, [(0, .s a0), (3, .n .u32 x2_3), (4, .i x2_4), (5, .i x2_5), (20, .n .u8 (byteAt a0 x2_4)), (22, .n .u64 (IntKind.wrap .u64 x2_5))], []⟩ ?_
          obtain ⟨h4, H⟩ := sC H
          refine ak_bin (op := .shr) (t := 5) (u := .int .u8 (byteAt a0 x2_4)) (v := .int .u64 (IntKind.wrap .u64 x2_5)) (z := .int .u8 (Int.fdiv (byteAt a0 x2_4) (2 ^ (min (IntKind.wrap .u64 x2_5).toNat 8)))) (dst := some 23) (k' := (K41 11101001001001000 6)) hT [0, 3, 4, 5, 23] (by kernel_rfl) (by simp only [binV, if_pos h4]; rfl) (st' := ⟨37, [(0, .s a0), (3, .n .u32 x2_3), (4, .i x2_4), (5, .i x2_5), (23, .n .u8 (Int.fdiv (byteAt a0 x2_4) (2 ^ (min (IntKind.wrap .u64 x2_5).toNat 8))))], []⟩) (by kernel_rfl) ?_
          refine goK hT 3 (K41 11101001001001000 9) ⟨37, [(0, .s a0), (3, .n .u32 x2_3), (4, .i x2_4), (5, .i x2_5), (6, .n .u32 (Int.tmod (IntKind.wrap .u32 (Int.fdiv (byteAt a0 x2_4) (2 ^ (min (IntKind.wrap .u64 x2_5).toNat 8)))) 2))], []⟩ ?_
          obtain ⟨v1, h5, H⟩ := sdC H
          have Jj1 : ∀ (y1_3 : Int), stk (spliceref02_Sum.j1 x2_4 x2_5 y1_3) (iter (spliceref02_Sum.step a0) n) = some r → AK X 41 ((K41 11101001001001 1)) (Back X [] (.n .u32 r)) ⟨37, [(0, .s a0), (3, .n .u32 y1_3), (4, .i x2_4), (5, .i x2_5)], []⟩ := by
            intro y1_3 H
            refine goK hT 6 (K41 111010010010 0) ⟨37, [(0, .s a0), (3, .n .u32 y1_3), (4, .i x2_4), (5, .i (IntKind.wrap .i64 (x2_5 + 1)))], []⟩ ?_
            refine cutK [] ⟨37, [(0, .s a0), (3, .n .u32 y1_3), (4, .i x2_4), (5, .i (IntKind.wrap .i64 (x2_5 + 1)))], []⟩ h0 ?_
            exact ih.2 y1_3 x2_4 (IntKind.wrap .i64 (x2_5 + 1)) H
          rw [← h5]
          refine goK hT 19 (K41 1110100100100100111 1) ⟨37, [(0, .s a0), (3, .n .u32 (IntKind.wrap .u32 (Int.tdiv x2_3 2))), (4, .i x2_4), (5, .i x2_5), (32, .b ((Int.tmod x2_3 2) != v1))], []⟩ ?_
          by_cases c6 : (Int.tmod x2_3 2) = v1
          · replace H := sT c6 H
            rw [neF c6]
            refine goK hT 3 (K41 11101001001001 1) ⟨37, [(0, .s a0), (3, .n .u32 (IntKind.wrap .u32 (Int.tdiv x2_3 2))), (4, .i x2_4), (5, .i x2_5)], []⟩ ?_
            refine cutK [] ⟨37, [(0, .s a0), (3, .n .u32 (IntKind.wrap .u32 (Int.tdiv x2_3 2))), (4, .i x2_4), (5, .i x2_5)], []⟩ h0 ?_
            exact Jj1 (IntKind.wrap .u32 (Int.tdiv x2_3 2)) H
          · replace H := sF c6 H
            rw [neT c6]
            refine goK hT 7 (K41 11101001001001 1) ⟨37, [(0, .s a0), (3, .n .u32 (bXor .u32 (IntKind.wrap .u32 (Int.tdiv x2_3 2)) 3988292384)), (4, .i x2_4), (5, .i x2_5)], []⟩ ?_
            refine cutK [] ⟨37, [(0, .s a0), (3, .n .u32 (bXor .u32 (IntKind.wrap .u32 (Int.tdiv x2_3 2)) 3988292384)), (4, .i x2_4), (5, .i x2_5)], []⟩ h0 ?_
            exact Jj1 (bXor .u32 (IntKind.wrap .u32 (Int.tdiv x2_3 2)) 3988292384) H
        · replace H := sF c2 H
          rw [decide_eq_false c2]
          refine goK hT 9 (K41 111010 0) ⟨37, [(0, .s a0), (3, .n .u32 x2_3), (4, .i (IntKind.wrap .i64 (x2_4 + 1)))], []⟩ ?_
          refine cutK [] ⟨37, [(0, .s a0), (3, .n .u32 x2_3), (4, .i (IntKind.wrap .i64 (x2_4 + 1)))], []⟩ h0 ?_
          exact ih.1 x2_3 (IntKind.wrap .i64 (x2_4 + 1)) H
  refine cutK [] ⟨37, [(0, .s a0), (3, .n .u32 4294967295), (4, .i 0)], []⟩ h0 ?_
  obtain ⟨n, H⟩ := loopC H
  exact (L n).1 4294967295 0 H


theorem spliceref20_Over.says {t0 : Bool} (a0 : List Int) {r : Int} (H : spliceref20_Over a0 = some r) : Says Try.prog 47 [] [.d (eL37 t0 a0)] [] (.n .u32 r) := by
  refine says_of Try.func47 rfl (nt := 49) rfl (Nat.le_of_ble_eq_true rfl) fun X hP h0 hX => ?_
  have hT : TabOk X.P T := hP ▸ tok
  have hf : X.P.funcs[47]? = some Try.f47 := hP ▸ Try.func47
  refine goK hT 15 (K47 111010 0) ⟨49, [(0, .d (eL37 t0 a0)), (3, .ns), (4, .i 0)], []⟩ ?_
  refine ak_nilS [0, 3, 4] 3 1 5 (vec (eI .u8) 0 []) (st' := ⟨49, [(0, .d (eL37 t0 a0)), (3, .own 0 1 0 0), (4, .i 0)], [eR5 ([] : List Int)]⟩) (by kernel_rfl) (by kernel_rfl) ?_
  have L : ∀ n, (∀ (x1_4 : Int) (x1_r0 : List Int), iter (spliceref20_Over.step a0) n (.l1 x1_4 x1_r0) = some r → AK X 47 ((K47 111010 0)) (Back X [] (.n .u32 r)) ⟨49, [(0, .d (eL37 t0 a0)), (3, .own 0 1 0 x1_r0.length), (4, .i x1_4)], [eR5 x1_r0]⟩) := by
    intro n
    induction n with
    | zero => exact fun _ _ H => iter0 H
    | succ n ih =>
      · intro x1_4 x1_r0 H
        refine goK hT 8 (K47 11101000 1) ⟨49, [(0, .d (eL37 t0 a0)), (3, .own 0 1 0 x1_r0.length), (4, .i x1_4), (8, .b (decide (x1_4 < (a0.length : Int))))], [eR5 x1_r0]⟩ ?_
        by_cases c1 : x1_4 < (a0.length : Int)
        · replace H := sT c1 H
          rw [decide_eq_true c1]
          refine goK hT 2 (K47 1110100 1) ⟨49, [(0, .d (eL37 t0 a0)), (3, .own 0 1 0 x1_r0.length), (4, .i x1_4)], [eR5 x1_r0]⟩ ?_
          refine goK hT 7 (K47 11101001000 3) ⟨49, [(0, .d (eL37 t0 a0)), (4, .i x1_4), (11, .own 0 1 0 x1_r0.length), (12, .d (eL37 t0 a0)), (13, .i x1_4)], [eR5 x1_r0]⟩ ?_
          obtain ⟨h3, H⟩ := sC H
          refine ak_idx hT [0, 4, 11, 14] (i := x1_4) (n := (a0.length : Int)) h3.1 h3.2 (k' := (K47 11101001000 4)) (st' := ⟨49, [(0, .d (eL37 t0 a0)), (4, .i x1_4), (11, .own 0 1 0 x1_r0.length), (14, .d (eP37 t0 a0 x1_4.toNat 0))], [eR5 x1_r0]⟩) (by kernel_rfl) ?_
          refine goK hT 4 (K47 11101001000 8) ⟨49, [(0, .d (eL37 t0 a0)), (4, .i x1_4), (11, .own 0 1 0 x1_r0.length), (18, .own 1 1 0 1)], [eR5 x1_r0, .flat false 1 5 1 (fun j => [[.n .u8 (IntKind.wrap .u8 (IntKind.wrap .u32 (Int.tdiv (a0.getD x1_4.toNat 0) 16777216)))]].getD j [])]⟩ ?_
          obtain ⟨h4, H⟩ := sC H
          refine ak_append1 (id := 0) (kk := 1) (by' := 1) (t := 92) (e := 5) (z := [.int .u8 0]) (dst := some 19) (id2 := 1) (e2 := 5) (fz := false) (k' := (K47 11101001000 9)) hT (eI .u8) 0 x1_r0 (IntKind.wrap .u8 (IntKind.wrap .u32 (Int.tdiv (a0.getD x1_4.toNat 0) 16777216))) [0, 4, 19] (by kernel_rfl) (by kernel_rfl) (by kernel_rfl) (by kernel_rfl) (by kernel_rfl) (by kernel_rfl) (by kernel_rfl) h4 (by omega) (st' := ⟨49, [(0, .d (eL37 t0 a0)), (4, .i x1_4), (19, .own 2 1 0 ((x1_r0 ++ [IntKind.wrap .u8 (IntKind.wrap .u32 (Int.tdiv (a0.getD x1_4.toNat 0) 16777216))]).length))], [.gone, .flat false 1 5 1 (fun j => [[.n .u8 (IntKind.wrap .u8 (IntKind.wrap .u32 (Int.tdiv (a0.getD x1_4.toNat 0) 16777216)))]].getD j []), eR5 (x1_r0 ++ [IntKind.wrap .u8 (IntKind.wrap .u32 (Int.tdiv (a0.getD x1_4.toNat 0) 16777216))])]⟩) (by kernel_rfl) ?_
          refine goK hT 7 (K47 111010010010 3) ⟨49, [(0, .d (eL37 t0 a0)), (4, .i x1_4), (20, .own 2 1 0 ((x1_r0 ++ [IntKind.wrap .u8 (IntKind.wrap .u32 (Int.tdiv (a0.getD x1_4.toNat 0) 16777216))]).length)), (21, .d (eL37 t0 a0)), (22, .i x1_4)], [.gone, .flat false 1 5 1 (fun j => [[.n .u8 (IntKind.wrap .u8 (IntKind.wrap .u32 (Int.tdiv (a0.getD x1_4.toNat 0) 16777216)))]].getD j []), eR5 (x1_r0 ++ [IntKind.wrap .u8 (IntKind.wrap .u32 (Int.tdiv (a0.getD x1_4.toNat 0) 16777216))])]⟩ ?_
          refine ak_idx hT [0, 4, 20, 23] (i := x1_4) (n := (a0.length : Int)) h3.1 h3.2 (k' := (K47 111010010010 4)) (st' := ⟨49, [(0, .d (eL37 t0 a0)), (4, .i x1_4), (20, .own 2 1 0 ((x1_r0 ++ [IntKind.wrap .u8 (IntKind.wrap .u32 (Int.tdiv (a0.getD x1_4.toNat 0) 16777216))]).length)), (23, .d (eP37 t0 a0 x1_4.toNat 0))], [.gone, .flat false 1 5 1 (fun j => [[.n .u8 (IntKind.wrap .u8 (IntKind.wrap .u32 (Int.tdiv (a0.getD x1_4.toNat 0) 16777216)))]].getD j []), eR5 (x1_r0 ++ [IntKind.wrap .u8 (IntKind.wrap .u32 (Int.tdiv (a0.getD x1_4.toNat 0) 16777216))])]⟩) (by kernel_rfl) ?_
          refine goK hT 4 (K47 111010010010 8) ⟨49, [(0, .d (eL37 t0 a0)), (4, .i x1_4), (20, .own 2 1 0 ((x1_r0 ++ [IntKind.wrap .u8 (IntKind.wrap .u32 (Int.tdiv (a0.getD x1_4.toNat 0) 16777216))]).length)), (27, .own 3 1 0 1)], [.gone, .flat false 1 5 1 (fun j => [[.n .u8 (IntKind.wrap .u8 (IntKind.wrap .u32 (Int.tdiv (a0.getD x1_4.toNat 0) 16777216)))]].getD j []), eR5 (x1_r0 ++ [IntKind.wrap .u8 (IntKind.wrap .u32 (Int.tdiv (a0.getD x1_4.toNat 0) 16777216))]), .flat false 1 5 1 (fun j => [[.n .u8 (IntKind.wrap .u8 (IntKind.wrap .u32 (Int.tdiv (a0.getD x1_4.toNat 0) 65536)))]].getD j [])]⟩ ?_
          obtain ⟨h5, H⟩ := sC H
          refine ak_append1 (id := 2) (kk := 1) (by' := 1) (t := 92) (e := 5) (z := [.int .u8 0]) (dst := some 28) (id2 := 3) (e2 := 5) (fz := false) (k' := (K47 111010010010 9)) hT (eI .u8) 0 (x1_r0 ++ [IntKind.wrap .u8 (IntKind.wrap .u32 (Int.tdiv (a0.getD x1_4.toNat 0) 16777216))]) (IntKind.wrap .u8 (IntKind.wrap .u32 (Int.tdiv (a0.getD x1_4.toNat 0) 65536))) [0, 4, 28] (by kernel_rfl) (by kernel_rfl) (by kernel_rfl) (by kernel_rfl) (by kernel_rfl) (by kernel_rfl) (by kernel_rfl) h5 (by omega) (st' := ⟨49, [(0, .d (eL37 t0 a0)), (4, .i x1_4), (28, .own 4 1 0 (((x1_r0 ++ [IntKind.wrap .u8 (IntKind.wrap .u32 (Int.tdiv (a0.getD x1_4.toNat 0) 16777216))]) ++ [IntKind.wrap .u8 (IntKind.wrap .u32 (Int.tdiv (a0.getD x1_4.toNat 0) 65536))]).length))], [.gone, .flat false 1 5 1 (fun j => [[.n .u8 (IntKind.wrap .u8 (IntKind.wrap .u32 (Int.tdiv (a0.getD x1_4.toNat 0) 16777216)))]].getD j []), .gone, .flat false 1 5 1 (fun j => [[.n .u8 (IntKind.wrap .u8 (IntKind.wrap .u32 (Int.tdiv (a0.getD x1_4.toNat 0) 65536)))]].getD j []), eR5 ((x1_r0 ++ [IntKind.wrap .u8 (IntKind.wrap .u32 (Int.tdiv (a0.getD x1_4.toNat 0) 16777216))]) ++ [IntKind.wrap .u8 (IntKind.wrap .u32 (Int.tdiv (a0.getD x1_4.toNat 0) 65536))])]⟩) (by kernel_rfl) ?_
          refine goK hT 7 (K47 1110100100110 3) ⟨49, [(0, .d (eL37 t0 a0)), (4, .i x1_4), (29, .own 4 1 0 (((x1_r0 ++ [IntKind.wrap .u8 (IntKind.wrap .u32 (Int.tdiv (a0.getD x1_4.toNat 0) 16777216))]) ++ [IntKind.wrap .u8 (IntKind.wrap .u32 (Int.tdiv (a0.getD x1_4.toNat 0) 65536))]).length)), (30, .d (eL37 t0 a0)), (31, .i x1_4)], [.gone, .flat false 1 5 1 (fun j => [[.n .u8 (IntKind.wrap .u8 (IntKind.wrap .u32 (Int.tdiv (a0.getD x1_4.toNat 0) 16777216)))]].getD j []), .gone, .flat false 1 5 1 (fun j => [[.n .u8 (IntKind.wrap .u8 (IntKind.wrap .u32 (Int.tdiv (a0.getD x1_4.toNat 0) 65536)))]].getD j []), eR5 ((x1_r0 ++ [IntKind.wrap .u8 (IntKind.wrap .u32 (Int.tdiv (a0.getD x1_4.toNat 0) 16777216))]) ++ [IntKind.wrap .u8 (IntKind.wrap .u32 (Int.tdiv (a0.getD x1_4.toNat 0) 65536))])]⟩ ?_
          refine ak_idx hT [0, 4, 29, 32] (i := x1_4) (n := (a0.length : Int)) h3.1 h3.2 (k' := (K47 1110100100110 4)) (st' := ⟨49, [(0, .d (eL37 t0 a0)), (4, .i x1_4), (29, .own 4 1 0 (((x1_r0 ++ [IntKind.wrap .u8 (IntKind.wrap .u32 (Int.tdiv (a0.getD x1_4.toNat 0) 16777216))]) ++ [IntKind.wrap .u8 (IntKind.wrap .u32 (Int.tdiv (a0.getD x1_4.toNat 0) 65536))]).length)), (32, .d (eP37 t0 a0 x1_4.toNat 0))], [.gone, .flat false 1 5 1 (fun j => [[.n .u8 (IntKind.wrap .u8 (IntKind.wrap .u32 (Int.tdiv (a0.getD x1_4.toNat 0) 16777216)))]].getD j []), .gone, .flat false 1 5 1 (fun j => [[.n .u8 (IntKind.wrap .u8 (IntKind.wrap .u32 (Int.tdiv (a0.getD x1_4.toNat 0) 65536)))]].getD j []), eR5 ((x1_r0 ++ [IntKind.wrap .u8 (IntKind.wrap .u32 (Int.tdiv (a0.getD x1_4.toNat 0) 16777216))]) ++ [IntKind.wrap .u8 (IntKind.wrap .u32 (Int.tdiv (a0.getD x1_4.toNat 0) 65536))])]⟩) (by kernel_rfl) ?_
          refine goK hT 4 (K47 1110100100110 8) ⟨49, [(0, .d (eL37 t0 a0)), (4, .i x1_4), (29, .own 4 1 0 (((x1_r0 ++ [IntKind.wrap .u8 (IntKind.wrap .u32 (Int.tdiv (a0.getD x1_4.toNat 0) 16777216))]) ++ [IntKind.wrap .u8 (IntKind.wrap .u32 (Int.tdiv (a0.getD x1_4.toNat 0) 65536))]).length)), (36, .own 5 1 0 1)], [.gone, .flat false 1 5 1 (fun j => [[.n .u8 (IntKind.wrap .u8 (IntKind.wrap .u32 (Int.tdiv (a0.getD x1_4.toNat 0) 16777216)))]].getD j []), .gone, .flat false 1 5 1 (fun j => [[.n .u8 (IntKind.wrap .u8 (IntKind.wrap .u32 (Int.tdiv (a0.getD x1_4.toNat 0) 65536)))]].getD j []), eR5 ((x1_r0 ++ [IntKind.wrap .u8 (IntKind.wrap .u32 (Int.tdiv (a0.getD x1_4.toNat 0) 16777216))]) ++ [IntKind.wrap .u8 (IntKind.wrap .u32 (Int.tdiv (a0.getD x1_4.toNat 0) 65536))]), .flat false 1 5 1 (fun j => [[.n .u8 (IntKind.wrap .u8 (IntKind.wrap .u32 (Int.tdiv (a0.getD x1_4.toNat 0) 256)))]].getD j [])]⟩ ?_
          obtain ⟨h6, H⟩ := sC H
          refine ak_append1 (id := 4) (kk := 1) (by' := 1) (t := 92) (e := 5) (z := [.int .u8 0]) (dst := some 37) (id2 := 5) (e2 := 5) (fz := false) (k' := (K47 1110100100110 9)) hT (eI .u8) 0 ((x1_r0 ++ [IntKind.wrap .u8 (IntKind.wrap .u32 (Int.tdiv (a0.getD x1_4.toNat 0) 16777216))]) ++ [IntKind.wrap .u8 (IntKind.wrap .u32 (Int.tdiv (a0.getD x1_4.toNat 0) 65536))]) (IntKind.wrap .u8 (IntKind.wrap .u32 (Int.tdiv (a0.getD x1_4.toNat 0) 256))) [0, 4, 37] (by kernel_rfl) (by kernel_rfl) (by kernel_rfl) (by kernel_rfl) (by kernel_rfl) (by kernel_rfl) (by kernel_rfl) h6 (by omega) (st' := ⟨49, [(0, .d (eL37 t0 a0)), (4, .i x1_4), (37, .own 6 1 0 ((((x1_r0 ++ [IntKind.wrap .u8 (IntKind.wrap .u32 (Int.tdiv (a0.getD x1_4.toNat 0) 16777216))]) ++ [IntKind.wrap .u8 (IntKind.wrap .u32 (Int.tdiv (a0.getD x1_4.toNat 0) 65536))]) ++ [IntKind.wrap .u8 (IntKind.wrap .u32 (Int.tdiv (a0.getD x1_4.toNat 0) 256))]).length))], [.gone, .flat false 1 5 1 (fun j => [[.n .u8 (IntKind.wrap .u8 (IntKind.wrap .u32 (Int.tdiv (a0.getD x1_4.toNat 0) 16777216)))]].getD j []), .gone, .flat false 1 5 1 (fun j => [[.n .u8 (IntKind.wrap .u8 (IntKind.wrap .u32 (Int.tdiv (a0.getD x1_4.toNat 0) 65536)))]].getD j []), .gone, .flat false 1 5 1 (fun j => [[.n .u8 (IntKind.wrap .u8 (IntKind.wrap .u32 (Int.tdiv (a0.getD x1_4.toNat 0) 256)))]].getD j []), eR5 (((x1_r0 ++ [IntKind.wrap .u8 (IntKind.wrap .u32 (Int.tdiv (a0.getD x1_4.toNat 0) 16777216))]) ++ [IntKind.wrap .u8 (IntKind.wrap .u32 (Int.tdiv (a0.getD x1_4.toNat 0) 65536))]) ++ [IntKind.wrap .u8 (IntKind.wrap .u32 (Int.tdiv (a0.getD x1_4.toNat 0) 256))])]⟩) (by kernel_rfl) ?_
          refine goK hT 6 (K47 1110100100111 3) ⟨49, [(0, .d (eL37 t0 a0)), (4, .i x1_4), (38, .own 6 1 0 ((((x1_r0 ++ [IntKind.wrap .u8 (IntKind.wrap .u32 (Int.tdiv (a0.getD x1_4.toNat 0) 16777216))]) ++ [IntKind.wrap .u8 (IntKind.wrap .u32 (Int.tdiv (a0.getD x1_4.toNat 0) 65536))]) ++ [IntKind.wrap .u8 (IntKind.wrap .u32 (Int.tdiv (a0.getD x1_4.toNat 0) 256))]).length)), (39, .d (eL37 t0 a0)), (40, .i x1_4)], [.gone, .flat false 1 5 1 (fun j => [[.n .u8 (IntKind.wrap .u8 (IntKind.wrap .u32 (Int.tdiv (a0.getD x1_4.toNat 0) 16777216)))]].getD j []), .gone, .flat false 1 5 1 (fun j => [[.n .u8 (IntKind.wrap .u8 (IntKind.wrap .u32 (Int.tdiv (a0.getD x1_4.toNat 0) 65536)))]].getD j []), .gone, .flat false 1 5 1 (fun j => [[.n .u8 (IntKind.wrap .u8 (IntKind.wrap .u32 (Int.tdiv (a0.getD x1_4.toNat 0) 256)))]].getD j []), eR5 (((x1_r0 ++ [IntKind.wrap .u8 (IntKind.wrap .u32 (Int.tdiv (a0.getD x1_4.toNat 0) 16777216))]) ++ [IntKind.wrap .u8 (IntKind.wrap .u32 (Int.tdiv (a0.getD x1_4.toNat 0) 65536))]) ++ [IntKind.wrap .u8 (IntKind.wrap .u32 (Int.tdiv (a0.getD x1_4.toNat 0) 256))])]⟩ ?_
          refine ak_idx hT [0, 4, 38, 41] (i := x1_4) (n := (a0.length : Int)) h3.1 h3.2 (k' := (K47 1110100100111 4)) (st' := ⟨49, [(0, .d (eL37 t0 a0)), (4, .i x1_4), (38, .own 6 1 0 ((((x1_r0 ++ [IntKind.wrap .u8 (IntKind.wrap .u32 (Int.tdiv (a0.getD x1_4.toNat 0) 16777216))]) ++ [IntKind.wrap .u8 (IntKind.wrap .u32 (Int.tdiv (a0.getD x1_4.toNat 0) 65536))]) ++ [IntKind.wrap .u8 (IntKind.wrap .u32 (Int.tdiv (a0.getD x1_4.toNat 0) 256))]).length)), (41, .d (eP37 t0 a0 x1_4.toNat 0))], [.gone, .flat false 1 5 1 (fun j => [[.n .u8 (IntKind.wrap .u8 (IntKind.wrap .u32 (Int.tdiv (a0.getD x1_4.toNat 0) 16777216)))]].getD j []), .gone, .flat false 1 5 1 (fun j => [[.n .u8 (IntKind.wrap .u8 (IntKind.wrap .u32 (Int.tdiv (a0.getD x1_4.toNat 0) 65536)))]].getD j []), .gone, .flat false 1 5 1 (fun j => [[.n .u8 (IntKind.wrap .u8 (IntKind.wrap .u32 (Int.tdiv (a0.getD x1_4.toNat 0) 256)))]].getD j []), eR5 (((x1_r0 ++ [IntKind.wrap .u8 (IntKind.wrap .u32 (Int.tdiv (a0.getD x1_4.toNat 0) 16777216))]) ++ [IntKind.wrap .u8 (IntKind.wrap .u32 (Int.tdiv (a0.getD x1_4.toNat 0) 65536))]) ++ [IntKind.wrap .u8 (IntKind.wrap .u32 (Int.tdiv (a0.getD x1_4.toNat 0) 256))])]⟩) (by kernel_rfl) ?_
          refine goK hT 3 (K47 1110100100111 7) ⟨49, [(0, .d (eL37 t0 a0)), (4, .i x1_4), (38, .own 6 1 0 ((((x1_r0 ++ [IntKind.wrap .u8 (IntKind.wrap .u32 (Int.tdiv (a0.getD x1_4.toNat 0) 16777216))]) ++ [IntKind.wrap .u8 (IntKind.wrap .u32 (Int.tdiv (a0.getD x1_4.toNat 0) 65536))]) ++ [IntKind.wrap .u8 (IntKind.wrap .u32 (Int.tdiv (a0.getD x1_4.toNat 0) 256))]).length)), (44, .own 7 1 0 1)], [.gone, .flat false 1 5 1 (fun j => [[.n .u8 (IntKind.wrap .u8 (IntKind.wrap .u32 (Int.tdiv (a0.getD x1_4.toNat 0) 16777216)))]].getD j []), .gone, .flat false 1 5 1 (fun j => [[.n .u8 (IntKind.wrap .u8 (IntKind.wrap .u32 (Int.tdiv (a0.getD x1_4.toNat 0) 65536)))]].getD j []), .gone, .flat false 1 5 1 (fun j => [[.n .u8 (IntKind.wrap .u8 (IntKind.wrap .u32 (Int.tdiv (a0.getD x1_4.toNat 0) 256)))]].getD j []), eR5 (((x1_r0 ++ [IntKind.wrap .u8 (IntKind.wrap .u32 (Int.tdiv (a0.getD x1_4.toNat 0) 16777216))]) ++ [IntKind.wrap .u8 (IntKind.wrap .u32 (Int.tdiv (a0.getD x1_4.toNat 0) 65536))]) ++ [IntKind.wrap .u8 (IntKind.wrap .u32 (Int.tdiv (a0.getD x1_4.toNat 0) 256))]), .flat false 1 5 1 (fun j => [[.n .u8 (IntKind.wrap .u8 (a0.getD x1_4.toNat 0))]].getD j [])]⟩ ?_
          obtain ⟨h7, H⟩ := sC H
          refine ak_append1 (id := 6) (kk := 1) (by' := 1) (t := 92) (e := 5) (z := [.int .u8 0]) (dst := some 45) (id2 := 7) (e2 := 5) (fz := false) (k' := (K47 1110100100111 8)) hT (eI .u8) 0 (((x1_r0 ++ [IntKind.wrap .u8 (IntKind.wrap .u32 (Int.tdiv (a0.getD x1_4.toNat 0) 16777216))]) ++ [IntKind.wrap .u8 (IntKind.wrap .u32 (Int.tdiv (a0.getD x1_4.toNat 0) 65536))]) ++ [IntKind.wrap .u8 (IntKind.wrap .u32 (Int.tdiv (a0.getD x1_4.toNat 0) 256))]) (IntKind.wrap .u8 (a0.getD x1_4.toNat 0)) [0, 4, 45] (by kernel_rfl) (by kernel_rfl) (by kernel_rfl) (by kernel_rfl) (by kernel_rfl) (by kernel_rfl) (by kernel_rfl) h7 (by omega) (st' := ⟨49, [(0, .d (eL37 t0 a0)), (4, .i x1_4), (45, .own 8 1 0 (((((x1_r0 ++ [IntKind.wrap .u8 (IntKind.wrap .u32 (Int.tdiv (a0.getD x1_4.toNat 0) 16777216))]) ++ [IntKind.wrap .u8 (IntKind.wrap .u32 (Int.tdiv (a0.getD x1_4.toNat 0) 65536))]) ++ [IntKind.wrap .u8 (IntKind.wrap .u32 (Int.tdiv (a0.getD x1_4.toNat 0) 256))]) ++ [IntKind.wrap .u8 (a0.getD x1_4.toNat 0)]).length))], [.gone, .flat false 1 5 1 (fun j => [[.n .u8 (IntKind.wrap .u8 (IntKind.wrap .u32 (Int.tdiv (a0.getD x1_4.toNat 0) 16777216)))]].getD j []), .gone, .flat false 1 5 1 (fun j => [[.n .u8 (IntKind.wrap .u8 (IntKind.wrap .u32 (Int.tdiv (a0.getD x1_4.toNat 0) 65536)))]].getD j []), .gone, .flat false 1 5 1 (fun j => [[.n .u8 (IntKind.wrap .u8 (IntKind.wrap .u32 (Int.tdiv (a0.getD x1_4.toNat 0) 256)))]].getD j []), .gone, .flat false 1 5 1 (fun j => [[.n .u8 (IntKind.wrap .u8 (a0.getD x1_4.toNat 0))]].getD j []), eR5 ((((x1_r0 ++ [IntKind.wrap .u8 (IntKind.wrap .u32 (Int.tdiv (a0.getD x1_4.toNat 0) 16777216))]) ++ [IntKind.wrap .u8 (IntKind.wrap .u32 (Int.tdiv (a0.getD x1_4.toNat 0) 65536))]) ++ [IntKind.wrap .u8 (IntKind.wrap .u32 (Int.tdiv (a0.getD x1_4.toNat 0) 256))]) ++ [IntKind.wrap .u8 (a0.getD x1_4.toNat 0)])]⟩) (by kernel_rfl) ?_
          refine goK hT 9 (K47 111010 0) ⟨49, [(0, .d (eL37 t0 a0)), (3, .own 8 1 0 (((((x1_r0 ++ [IntKind.wrap .u8 (IntKind.wrap .u32 (Int.tdiv (a0.getD x1_4.toNat 0) 16777216))]) ++ [IntKind.wrap .u8 (IntKind.wrap .u32 (Int.tdiv (a0.getD x1_4.toNat 0) 65536))]) ++ [IntKind.wrap .u8 (IntKind.wrap .u32 (Int.tdiv (a0.getD x1_4.toNat 0) 256))]) ++ [IntKind.wrap .u8 (a0.getD x1_4.toNat 0)]).length)), (4, .i (IntKind.wrap .i64 (x1_4 + 1)))], [.gone, .flat false 1 5 1 (fun j => [[.n .u8 (IntKind.wrap .u8 (IntKind.wrap .u32 (Int.tdiv (a0.getD x1_4.toNat 0) 16777216)))]].getD j []), .gone, .flat false 1 5 1 (fun j => [[.n .u8 (IntKind.wrap .u8 (IntKind.wrap .u32 (Int.tdiv (a0.getD x1_4.toNat 0) 65536)))]].getD j []), .gone, .flat false 1 5 1 (fun j => [[.n .u8 (IntKind.wrap .u8 (IntKind.wrap .u32 (Int.tdiv (a0.getD x1_4.toNat 0) 256)))]].getD j []), .gone, .flat false 1 5 1 (fun j => [[.n .u8 (IntKind.wrap .u8 (a0.getD x1_4.toNat 0))]].getD j []), eR5 ((((x1_r0 ++ [IntKind.wrap .u8 (IntKind.wrap .u32 (Int.tdiv (a0.getD x1_4.toNat 0) 16777216))]) ++ [IntKind.wrap .u8 (IntKind.wrap .u32 (Int.tdiv (a0.getD x1_4.toNat 0) 65536))]) ++ [IntKind.wrap .u8 (IntKind.wrap .u32 (Int.tdiv (a0.getD x1_4.toNat 0) 256))]) ++ [IntKind.wrap .u8 (a0.getD x1_4.toNat 0)])]⟩ ?_
          refine cutK [8] ⟨49, [(0, .d (eL37 t0 a0)), (3, .own 0 1 0 ((((x1_r0 ++ [IntKind.wrap .u8 (IntKind.wrap .u32 (Int.tdiv (a0.getD x1_4.toNat 0) 16777216))]) ++ [IntKind.wrap .u8 (IntKind.wrap .u32 (Int.tdiv (a0.getD x1_4.toNat 0) 65536))]) ++ [IntKind.wrap .u8 (IntKind.wrap .u32 (Int.tdiv (a0.getD x1_4.toNat 0) 256))]) ++ [IntKind.wrap .u8 (a0.getD x1_4.toNat 0)]).length), (4, .i (IntKind.wrap .i64 (x1_4 + 1)))], [eR5 ((((x1_r0 ++ [IntKind.wrap .u8 (IntKind.wrap .u32 (Int.tdiv (a0.getD x1_4.toNat 0) 16777216))]) ++ [IntKind.wrap .u8 (IntKind.wrap .u32 (Int.tdiv (a0.getD x1_4.toNat 0) 65536))]) ++ [IntKind.wrap .u8 (IntKind.wrap .u32 (Int.tdiv (a0.getD x1_4.toNat 0) 256))]) ++ [IntKind.wrap .u8 (a0.getD x1_4.toNat 0)])]⟩ h0 ?_
          exact ih (IntKind.wrap .i64 (x1_4 + 1)) ((((x1_r0 ++ [IntKind.wrap .u8 (IntKind.wrap .u32 (Int.tdiv (a0.getD x1_4.toNat 0) 16777216))]) ++ [IntKind.wrap .u8 (IntKind.wrap .u32 (Int.tdiv (a0.getD x1_4.toNat 0) 65536))]) ++ [IntKind.wrap .u8 (IntKind.wrap .u32 (Int.tdiv (a0.getD x1_4.toNat 0) 256))]) ++ [IntKind.wrap .u8 (a0.getD x1_4.toNat 0)]) H
        · replace H := sF c1 H
          rw [decide_eq_false c1]
          refine goK hT 5 (K47 11110 1) ⟨49, [(46, .own 0 1 0 x1_r0.length)], [eR5 x1_r0]⟩ ?_
          refine ak_toStr (av := .own 0 1 0 x1_r0.length) (dst := some 47) (k' := (K47 11110 2)) hT [47] x1_r0 (by kernel_rfl) (.own (fz := false) (e := 5) (by kernel_rfl)) (st' := ⟨49, [(47, .s (strB x1_r0))], [eR5 x1_r0]⟩) (by kernel_rfl) ?_
          obtain ⟨v1, h2, H⟩ := sbC H
          refine ak_callP (avs := [.s (strB x1_r0)]) (dst := some 48) (k' := (K47 11110 3)) [48] [] hP enters_41 (spliceref02_Sum.says (strB x1_r0) h2) (by kernel_rfl) (hands_none _) (.cons (pass_d _) .nil) (st' := ⟨49, [(48, .n .u32 v1)], [eR5 x1_r0]⟩) (by kernel_rfl) ?_
          refine goK hT 2 (K47 1111 1) ⟨49, [(2, .n .u32 v1)], [eR5 x1_r0]⟩ ?_
          obtain rfl := retC H
          exact ak_ret hf hX (av := .n .u32 v1) (by kernel_rfl) [] (sel_of_eq (by kernel_rfl)) (by decide) (by rw [h0]; rfl) (by kernel_rfl) (fun _ h => all_nil h) (.d (.v _))
  refine cutK [0] ⟨49, [(0, .d (eL37 t0 a0)), (3, .own 0 1 0 ([] : List Int).length), (4, .i 0)], [eR5 ([] : List Int)]⟩ h0 ?_
  obtain ⟨n, H⟩ := loopC H
  exact (L n) 0 ([] : List Int) H


theorem spliceref20_Above.says {t0 : Bool} (a0 : List Int) {r : List Int} (H : spliceref20_Above a0 = some r) : Says Try.prog 29 [] [.d (eL37 t0 a0)] [eR37 r] (.own 0 1 0 r.length) := by
  refine says_of Try.func29 rfl (nt := 56) rfl (Nat.le_of_ble_eq_true rfl) fun X hP h0 hX => ?_
  have hT : TabOk X.P T := hP ▸ tok
  have hf : X.P.funcs[29]? = some Try.f29 := hP ▸ Try.func29
  refine goK hT 15 (K29 111010 0) ⟨56, [(0, .d (eL37 t0 a0)), (3, .ns), (4, .i 0)], []⟩ ?_
  refine ak_nilS [0, 3, 4] 3 1 37 (vec (eI .u32) 0 []) (st' := ⟨56, [(0, .d (eL37 t0 a0)), (3, .own 0 1 0 0), (4, .i 0)], [eR37 ([] : List Int)]⟩) (by kernel_rfl) (by kernel_rfl) ?_
  have L : ∀ n, (∀ (x1_4 : Int) (x1_r0 : List Int), iter (spliceref20_Above.step a0) n (.l1 x1_4 x1_r0) = some r → AK X 29 ((K29 111010 0)) (Back X [eR37 r] (.own 0 1 0 r.length)) ⟨56, [(0, .d (eL37 t0 a0)), (3, .own 0 1 0 x1_r0.length), (4, .i x1_4)], [eR37 x1_r0]⟩) ∧ (∀ (v1 : Int) (x2_7 : Int) (x2_r0 : List Int), iter (spliceref20_Above.step a0) n (.l2 v1 x2_7 x2_r0) = some r → AK X 29 ((K29 111111010 0)) (Back X [eR37 r] (.own 0 1 0 r.length)) ⟨56, [(0, .d (eL37 t0 a0)), (5, .n .u32 v1), (6, .own 0 1 0 x2_r0.length), (7, .i x2_7)], [eR37 x2_r0]⟩) ∧ (∀ (v1 : Int) (x3_7 : Int) (x3_8 : Bool) (x3_9 : Int) (x3_r0 : List Int), iter (spliceref20_Above.step a0) n (.l3 v1 x3_7 x3_8 x3_9 x3_r0) = some r → AK X 29 ((K29 11111101001001010 0)) (Back X [eR37 r] (.own 0 1 0 r.length)) ⟨56, [(0, .d (eL37 t0 a0)), (5, .n .u32 v1), (6, .own 0 1 0 x3_r0.length), (7, .i x3_7), (8, .b x3_8), (9, .i x3_9)], [eR37 x3_r0]⟩) := by
    intro n
    induction n with
    | zero => exact ⟨fun _ _ H => iter0 H, fun _ _ _ H => iter0 H, fun _ _ _ _ _ H => iter0 H⟩
    | succ n ih =>
      refine ⟨?_, ?_, ?_⟩
      · intro x1_4 x1_r0 H
        refine goK hT 6 (K29 11101000 1) ⟨56, [(0, .d (eL37 t0 a0)), (3, .own 0 1 0 x1_r0.length), (4, .i x1_4), (11, .b (decide (x1_4 < 16)))], [eR37 x1_r0]⟩ ?_
        by_cases c1 : x1_4 < 16
        · replace H := sT c1 H
          rw [decide_eq_true c1]
          refine goK hT 2 (K29 1110100 1) ⟨56, [(0, .d (eL37 t0 a0)), (3, .own 0 1 0 x1_r0.length), (4, .i x1_4)], [eR37 x1_r0]⟩ ?_
          refine goK hT 5 (K29 1110100100 2) ⟨56, [(0, .d (eL37 t0 a0)), (4, .i x1_4), (14, .own 0 1 0 x1_r0.length), (15, .own 1 1 0 1)], [eR37 x1_r0, .flat false 1 37 1 (fun j => [[.n .u32 0]].getD j [])]⟩ ?_
          obtain ⟨h3, H⟩ := sC H
          refine ak_append1 (id := 0) (kk := 1) (by' := 4) (t := 57) (e := 37) (z := [.int .u32 0]) (dst := some 16) (id2 := 1) (e2 := 37) (fz := false) (k' := (K29 1110100100 3)) hT (eI .u32) 0 x1_r0 0 [0, 4, 16] (by kernel_rfl) (by kernel_rfl) (by kernel_rfl) (by kernel_rfl) (by kernel_rfl) (by kernel_rfl) (by kernel_rfl) h3 (by omega) (st' := ⟨56, [(0, .d (eL37 t0 a0)), (4, .i x1_4), (16, .own 2 1 0 ((x1_r0 ++ [0]).length))], [.gone, .flat false 1 37 1 (fun j => [[.n .u32 0]].getD j []), eR37 (x1_r0 ++ [0])]⟩) (by kernel_rfl) ?_
          refine goK hT 9 (K29 111010 0) ⟨56, [(0, .d (eL37 t0 a0)), (3, .own 2 1 0 ((x1_r0 ++ [0]).length)), (4, .i (IntKind.wrap .i64 (x1_4 + 1)))], [.gone, .flat false 1 37 1 (fun j => [[.n .u32 0]].getD j []), eR37 (x1_r0 ++ [0])]⟩ ?_
          refine cutK [2] ⟨56, [(0, .d (eL37 t0 a0)), (3, .own 0 1 0 (x1_r0 ++ [0]).length), (4, .i (IntKind.wrap .i64 (x1_4 + 1)))], [eR37 (x1_r0 ++ [0])]⟩ h0 ?_
          exact ih.1 (IntKind.wrap .i64 (x1_4 + 1)) (x1_r0 ++ [0]) H
        · replace H := sF c1 H
          rw [decide_eq_false c1]
          refine goK hT 5 (K29 11110 1) ⟨56, [(0, .d (eL37 t0 a0)), (17, .own 0 1 0 x1_r0.length)], [eR37 x1_r0]⟩ ?_
          obtain ⟨v1, h2, H⟩ := sbC H
          refine ak_callP (avs := [.own 0 1 0 x1_r0.length]) (dst := some 18) (k' := (K29 11110 2)) [0, 18] [] hP enters_47 (spliceref20_Over.says (t0 := false) x1_r0 h2) (by kernel_rfl) (hands_none _) (.cons (.lend (ty := 37) (by kernel_rfl) rfl) .nil) (st' := ⟨56, [(0, .d (eL37 t0 a0)), (18, .n .u32 v1)], [eR37 x1_r0]⟩) (by kernel_rfl) ?_
          refine goK hT 13 (K29 111111010 0) ⟨56, [(0, .d (eL37 t0 a0)), (5, .n .u32 v1), (6, .ns), (7, .i 0)], [eR37 x1_r0]⟩ ?_
          refine ak_nilS [0, 5, 6, 7] 6 1 37 (vec (eI .u32) 0 []) (st' := ⟨56, [(0, .d (eL37 t0 a0)), (5, .n .u32 v1), (6, .own 1 1 0 0), (7, .i 0)], [eR37 x1_r0, eR37 ([] : List Int)]⟩) (by kernel_rfl) (by kernel_rfl) ?_
          refine cutK [1] ⟨56, [(0, .d (eL37 t0 a0)), (5, .n .u32 v1), (6, .own 0 1 0 ([] : List Int).length), (7, .i 0)], [eR37 ([] : List Int)]⟩ h0 ?_
          exact ih.2.1 v1 0 ([] : List Int) H
      · intro v1 x2_7 x2_r0 H
        refine goK hT 9 (K29 11111101000 1) ⟨56, [(0, .d (eL37 t0 a0)), (5, .n .u32 v1), (6, .own 0 1 0 x2_r0.length), (7, .i x2_7), (23, .b (decide ((IntKind.wrap .i64 (x2_7 + 16)) ≤ (a0.length : Int))))], [eR37 x2_r0]⟩ ?_
        by_cases c4 : (IntKind.wrap .i64 (x2_7 + 16)) ≤ (a0.length : Int)
        · replace H := sT c4 H
          rw [decide_eq_true c4]
          refine goK hT 2 (K29 1111110100 1) ⟨56, [(0, .d (eL37 t0 a0)), (5, .n .u32 v1), (6, .own 0 1 0 x2_r0.length), (7, .i x2_7)], [eR37 x2_r0]⟩ ?_
          refine goK hT 14 (K29 11111101001001010 0) ⟨56, [(0, .d (eL37 t0 a0)), (5, .n .u32 v1), (6, .own 0 1 0 x2_r0.length), (7, .i x2_7), (8, .b true), (9, .i x2_7)], [eR37 x2_r0]⟩ ?_
          refine cutK [0] ⟨56, [(0, .d (eL37 t0 a0)), (5, .n .u32 v1), (6, .own 0 1 0 x2_r0.length), (7, .i x2_7), (8, .b true), (9, .i x2_7)], [eR37 x2_r0]⟩ h0 ?_
          exact ih.2.2 v1 x2_7 true x2_7 x2_r0 H
        · replace H := sF c4 H
          rw [decide_eq_false c4]
          refine goK hT 7 (K29 1111111 1) ⟨56, [(2, .own 0 1 0 x2_r0.length)], [eR37 x2_r0]⟩ ?_
          obtain rfl := retC H
          exact ak_ret hf hX (av := .own 0 1 0 x2_r0.length) (by kernel_rfl) [0] (sel_of_eq (by kernel_rfl)) (by decide) (by rw [h0]; rfl) (by kernel_rfl) (fun _ h => all_cons (nr_vec (nlI .u32)) (fun _ h => all_nil h) h) (.own _ _ _ _)
      · intro v1 x3_7 x3_8 x3_9 x3_r0 H
        refine goK hT 8 (K29 1111110100100101000 1) ⟨56, [(0, .d (eL37 t0 a0)), (5, .n .u32 v1), (6, .own 0 1 0 x3_r0.length), (7, .i x3_7), (8, .b x3_8), (9, .i x3_9), (30, .b (decide (x3_9 < (IntKind.wrap .i64 (x3_7 + 16)))))], [eR37 x3_r0]⟩ ?_
        by_cases c5 : x3_9 < (IntKind.wrap .i64 (x3_7 + 16))
        · replace H := sT c5 H
          have Jj2 : ∀ (y2_8 : Bool), stk (spliceref20_Above.j2 x3_7 x3_9 x3_r0 v1 y2_8) (iter (spliceref20_Above.step a0) n) = some r → AK X 29 ((K29 1111110100100101001 1)) (Back X [eR37 r] (.own 0 1 0 r.length)) ⟨56, [(0, .d (eL37 t0 a0)), (5, .n .u32 v1), (6, .own 0 1 0 x3_r0.length), (7, .i x3_7), (8, .b y2_8), (9, .i x3_9)], [eR37 x3_r0]⟩ := by
            intro y2_8 H
            refine goK hT 6 (K29 11111101001001010 0) ⟨56, [(0, .d (eL37 t0 a0)), (5, .n .u32 v1), (6, .own 0 1 0 x3_r0.length), (7, .i x3_7), (8, .b y2_8), (9, .i (IntKind.wrap .i64 (x3_9 + 1)))], [eR37 x3_r0]⟩ ?_
            refine cutK [0] ⟨56, [(0, .d (eL37 t0 a0)), (5, .n .u32 v1), (6, .own 0 1 0 x3_r0.length), (7, .i x3_7), (8, .b y2_8), (9, .i (IntKind.wrap .i64 (x3_9 + 1)))], [eR37 x3_r0]⟩ h0 ?_
            exact ih.2.2 v1 x3_7 y2_8 (IntKind.wrap .i64 (x3_9 + 1)) x3_r0 H
          rw [decide_eq_true c5]
          refine goK hT 2 (K29 111111010010010100 1) ⟨56, [(0, .d (eL37 t0 a0)), (5, .n .u32 v1), (6, .own 0 1 0 x3_r0.length), (7, .i x3_7), (8, .b x3_8), (9, .i x3_9)], [eR37 x3_r0]⟩ ?_
          refine goK hT 5 (K29 111111010010010100100 2) ⟨56, [(0, .d (eL37 t0 a0)), (5, .n .u32 v1), (6, .own 0 1 0 x3_r0.length), (7, .i x3_7), (9, .i x3_9), (34, .b x3_8)], [eR37 x3_r0]⟩ ?_
          by_cases c11 : x3_8 = true
          · replace H := sT c11 H
            rw [c11]
            refine goK hT 2 (K29 111111010010010100100 4) ⟨56, [(0, .d (eL37 t0 a0)), (5, .n .u32 v1), (6, .own 0 1 0 x3_r0.length), (7, .i x3_7), (9, .i x3_9), (34, .b true), (35, .d (eL37 t0 a0)), (36, .i x3_9)], [eR37 x3_r0]⟩ ?_
            obtain ⟨h12, H⟩ := sC H
            refine ak_idx hT [0, 5, 6, 7, 9, 34, 37] (i := x3_9) (n := (a0.length : Int)) h12.1 h12.2 (k' := (K29 111111010010010100100 5)) (st' := ⟨56, [(0, .d (eL37 t0 a0)), (5, .n .u32 v1), (6, .own 0 1 0 x3_r0.length), (7, .i x3_7), (9, .i x3_9), (34, .b true), (37, .d (eP37 t0 a0 x3_9.toNat 0))], [eR37 x3_r0]⟩) (by kernel_rfl) ?_
            refine goK hT 6 (K29 1111110100100101001 1) ⟨56, [(0, .d (eL37 t0 a0)), (5, .n .u32 v1), (6, .own 0 1 0 x3_r0.length), (7, .i x3_7), (8, .b ((a0.getD x3_9.toNat 0) == 0)), (9, .i x3_9)], [eR37 x3_r0]⟩ ?_
            refine cutK [0] ⟨56, [(0, .d (eL37 t0 a0)), (5, .n .u32 v1), (6, .own 0 1 0 x3_r0.length), (7, .i x3_7), (8, .b ((a0.getD x3_9.toNat 0) == 0)), (9, .i x3_9)], [eR37 x3_r0]⟩ h0 ?_
            exact Jj2 ((a0.getD x3_9.toNat 0) == 0) H
          · replace H := sF c11 H
            rw [boF c11]
            refine goK hT 9 (K29 1111110100100101001 1) ⟨56, [(0, .d (eL37 t0 a0)), (5, .n .u32 v1), (6, .own 0 1 0 x3_r0.length), (7, .i x3_7), (8, .b false), (9, .i x3_9)], [eR37 x3_r0]⟩ ?_
            refine cutK [0] ⟨56, [(0, .d (eL37 t0 a0)), (5, .n .u32 v1), (6, .own 0 1 0 x3_r0.length), (7, .i x3_7), (8, .b false), (9, .i x3_9)], [eR37 x3_r0]⟩ h0 ?_
            exact Jj2 false H
        · replace H := sF c5 H
          have Jj1 : ∀ (y1_r0 : List Int), stk (spliceref20_Above.j1 x3_7 v1 y1_r0) (iter (spliceref20_Above.step a0) n) = some r → AK X 29 ((K29 11111101001 1)) (Back X [eR37 r] (.own 0 1 0 r.length)) ⟨56, [(0, .d (eL37 t0 a0)), (5, .n .u32 v1), (6, .own 0 1 0 y1_r0.length), (7, .i x3_7)], [eR37 y1_r0]⟩ := by
            intro y1_r0 H
            refine goK hT 6 (K29 111111010 0) ⟨56, [(0, .d (eL37 t0 a0)), (5, .n .u32 v1), (6, .own 0 1 0 y1_r0.length), (7, .i (IntKind.wrap .i64 (x3_7 + 16)))], [eR37 y1_r0]⟩ ?_
            refine cutK [0] ⟨56, [(0, .d (eL37 t0 a0)), (5, .n .u32 v1), (6, .own 0 1 0 y1_r0.length), (7, .i (IntKind.wrap .i64 (x3_7 + 16)))], [eR37 y1_r0]⟩ h0 ?_
            exact ih.2.1 v1 (IntKind.wrap .i64 (x3_7 + 16)) y1_r0 H
          rw [decide_eq_false c5]
          refine goK hT 6 (K29 111111010010011 1) ⟨56, [(0, .d (eL37 t0 a0)), (5, .n .u32 v1), (6, .own 0 1 0 x3_r0.length), (7, .i x3_7), (41, .b x3_8)], [eR37 x3_r0]⟩ ?_
          by_cases c6 : x3_8 = true
          · replace H := sT c6 H
            rw [c6]
            refine goK hT 5 (K29 11111101001001110 3) ⟨56, [(0, .d (eL37 t0 a0)), (5, .n .u32 v1), (7, .i x3_7), (42, .own 0 1 0 x3_r0.length), (44, .own 1 1 0 1)], [eR37 x3_r0, .flat false 1 37 1 (fun j => [[.n .u32 v1]].getD j [])]⟩ ?_
            obtain ⟨h7, H⟩ := sC H
            refine ak_append1 (id := 0) (kk := 1) (by' := 4) (t := 57) (e := 37) (z := [.int .u32 0]) (dst := some 45) (id2 := 1) (e2 := 37) (fz := false) (k' := (K29 11111101001001110 4)) hT (eI .u32) 0 x3_r0 v1 [0, 5, 7, 45] (by kernel_rfl) (by kernel_rfl) (by kernel_rfl) (by kernel_rfl) (by kernel_rfl) (by kernel_rfl) (by kernel_rfl) h7 (by omega) (st' := ⟨56, [(0, .d (eL37 t0 a0)), (5, .n .u32 v1), (7, .i x3_7), (45, .own 2 1 0 ((x3_r0 ++ [v1]).length))], [.gone, .flat false 1 37 1 (fun j => [[.n .u32 v1]].getD j []), eR37 (x3_r0 ++ [v1])]⟩) (by kernel_rfl) ?_
            refine goK hT 3 (K29 11111101001 1) ⟨56, [(0, .d (eL37 t0 a0)), (5, .n .u32 v1), (6, .own 2 1 0 ((x3_r0 ++ [v1]).length)), (7, .i x3_7)], [.gone, .flat false 1 37 1 (fun j => [[.n .u32 v1]].getD j []), eR37 (x3_r0 ++ [v1])]⟩ ?_
            refine cutK [2] ⟨56, [(0, .d (eL37 t0 a0)), (5, .n .u32 v1), (6, .own 0 1 0 (x3_r0 ++ [v1]).length), (7, .i x3_7)], [eR37 (x3_r0 ++ [v1])]⟩ h0 ?_
            exact Jj1 (x3_r0 ++ [v1]) H
          · replace H := sF c6 H
            rw [boF c6]
            refine goK hT 7 (K29 11111101001001111 5) ⟨56, [(0, .d (eL37 t0 a0)), (5, .n .u32 v1), (7, .i x3_7), (46, .own 0 1 0 x3_r0.length), (47, .d (eL37 t0 a0)), (48, .i x3_7), (50, .i (IntKind.wrap .i64 (x3_7 + 16)))], [eR37 x3_r0]⟩ ?_
            obtain ⟨h8, H⟩ := sC H
            refine ak_sliceL (tg := t0) (s := 1) (l := (some (.i64, x3_7))) (h := (some (.i64, IntKind.wrap .i64 (x3_7 + 16)))) (dst := some 51) (k' := (K29 11111101001001111 6)) hT [0, 5, 7, 46, 51] (eI .u32) 0 a0 (by kernel_rfl) h8 (fun _ => rfl) (st' := ⟨56, [(0, .d (eL37 t0 a0)), (5, .n .u32 v1), (7, .i x3_7), (46, .own 0 1 0 x3_r0.length), (51, .d (eL37 t0 ((a0.drop x3_7.toNat).take ((IntKind.wrap .i64 (x3_7 + 16)).toNat - x3_7.toNat))))], [eR37 x3_r0]⟩) (by kernel_rfl) ?_
            obtain ⟨v2, h9, H⟩ := sbC H
            refine ak_callP (avs := [.d (eL37 t0 ((a0.drop x3_7.toNat).take ((IntKind.wrap .i64 (x3_7 + 16)).toNat - x3_7.toNat)))]) (dst := some 52) (k' := (K29 11111101001001111 7)) [0, 5, 7, 46, 52] [] hP enters_47 (spliceref20_Over.says (t0 := t0) ((a0.drop x3_7.toNat).take ((IntKind.wrap .i64 (x3_7 + 16)).toNat - x3_7.toNat)) h9) (by kernel_rfl) (hands_none _) (.cons (pass_d _) .nil) (st' := ⟨56, [(0, .d (eL37 t0 a0)), (5, .n .u32 v1), (7, .i x3_7), (46, .own 0 1 0 x3_r0.length), (52, .n .u32 v2)], [eR37 x3_r0]⟩) (by kernel_rfl) ?_
            refine goK hT 1 (K29 11111101001001111 8) ⟨56, [(0, .d (eL37 t0 a0)), (5, .n .u32 v1), (7, .i x3_7), (46, .own 0 1 0 x3_r0.length), (53, .own 1 1 0 1)], [eR37 x3_r0, .flat false 1 37 1 (fun j => [[.n .u32 v2]].getD j [])]⟩ ?_
            obtain ⟨h10, H⟩ := sC H
            refine ak_append1 (id := 0) (kk := 1) (by' := 4) (t := 57) (e := 37) (z := [.int .u32 0]) (dst := some 54) (id2 := 1) (e2 := 37) (fz := false) (k' := (K29 11111101001001111 9)) hT (eI .u32) 0 x3_r0 v2 [0, 5, 7, 54] (by kernel_rfl) (by kernel_rfl) (by kernel_rfl) (by kernel_rfl) (by kernel_rfl) (by kernel_rfl) (by kernel_rfl) h10 (by omega) (st' := ⟨56, [(0, .d (eL37 t0 a0)), (5, .n .u32 v1), (7, .i x3_7), (54, .own 2 1 0 ((x3_r0 ++ [v2]).length))], [.gone, .flat false 1 37 1 (fun j => [[.n .u32 v2]].getD j []), eR37 (x3_r0 ++ [v2])]⟩) (by kernel_rfl) ?_
            refine goK hT 3 (K29 11111101001 1) ⟨56, [(0, .d (eL37 t0 a0)), (5, .n .u32 v1), (6, .own 2 1 0 ((x3_r0 ++ [v2]).length)), (7, .i x3_7)], [.gone, .flat false 1 37 1 (fun j => [[.n .u32 v2]].getD j []), eR37 (x3_r0 ++ [v2])]⟩ ?_
            refine cutK [2] ⟨56, [(0, .d (eL37 t0 a0)), (5, .n .u32 v1), (6, .own 0 1 0 (x3_r0 ++ [v2]).length), (7, .i x3_7)], [eR37 (x3_r0 ++ [v2])]⟩ h0 ?_
            exact Jj1 (x3_r0 ++ [v2]) H
  refine cutK [0] ⟨56, [(0, .d (eL37 t0 a0)), (3, .own 0 1 0 ([] : List Int).length), (4, .i 0)], [eR37 ([] : List Int)]⟩ h0 ?_
  obtain ⟨n, H⟩ := loopC H
  exact (L n).1 0 ([] : List Int) H


theorem splicelaw03_Refs.says {t0 : Bool} (a0 : List api_Span) {r : List spliceref03_Span} (H : splicelaw03_Refs a0 = some r) : Says Try.prog 16 [] [.d (eL44 t0 a0)] [eR69 r] (.own 0 2 0 r.length) := by
  refine says_of Try.func16 rfl (nt := 19) rfl (Nat.le_of_ble_eq_true rfl) fun X hP h0 hX => ?_
  have hT : TabOk X.P T := hP ▸ tok
  have hf : X.P.funcs[16]? = some Try.f16 := hP ▸ Try.func16
  refine goK hT 15 (K16 111010 0) ⟨19, [(0, .d (eL44 t0 a0)), (3, .ns), (4, .i 0)], []⟩ ?_
  refine ak_nilS [0, 3, 4] 3 2 69 (vec spliceref03_Span.e spliceref03_Span.z []) (st' := ⟨19, [(0, .d (eL44 t0 a0)), (3, .own 0 2 0 0), (4, .i 0)], [eR69 ([] : List spliceref03_Span)]⟩) (by kernel_rfl) (by kernel_rfl) ?_
  have L : ∀ n, (∀ (x1_4 : Int) (x1_r0 : List spliceref03_Span), iter (splicelaw03_Refs.step a0) n (.l1 x1_4 x1_r0) = some r → AK X 16 ((K16 111010 0)) (Back X [eR69 r] (.own 0 2 0 r.length)) ⟨19, [(0, .d (eL44 t0 a0)), (3, .own 0 2 0 x1_r0.length), (4, .i x1_4)], [eR69 x1_r0]⟩) := by
    intro n
    induction n with
    | zero => exact fun _ _ H => iter0 H
    | succ n ih =>
      · intro x1_4 x1_r0 H
        refine goK hT 8 (K16 11101000 1) ⟨19, [(0, .d (eL44 t0 a0)), (3, .own 0 2 0 x1_r0.length), (4, .i x1_4), (8, .b (decide (x1_4 < (a0.length : Int))))], [eR69 x1_r0]⟩ ?_
        by_cases c1 : x1_4 < (a0.length : Int)
        · replace H := sT c1 H
          rw [decide_eq_true c1]
          refine goK hT 2 (K16 1110100 1) ⟨19, [(0, .d (eL44 t0 a0)), (3, .own 0 2 0 x1_r0.length), (4, .i x1_4)], [eR69 x1_r0]⟩ ?_
          refine goK hT 6 (K16 1110100100 3) ⟨19, [(0, .d (eL44 t0 a0)), (4, .i x1_4), (11, .own 0 2 0 x1_r0.length), (12, .d (eL44 t0 a0)), (13, .i x1_4)], [eR69 x1_r0]⟩ ?_
          obtain ⟨h2, H⟩ := sC H
          refine ak_idx hT [0, 4, 11, 14] (i := x1_4) (n := (a0.length : Int)) h2.1 h2.2 (k' := (K16 1110100100 4)) (st' := ⟨19, [(0, .d (eL44 t0 a0)), (4, .i x1_4), (11, .own 0 2 0 x1_r0.length), (14, .d (eP44 t0 a0 x1_4.toNat 0))], [eR69 x1_r0]⟩) (by kernel_rfl) ?_
          refine goK hT 2 (K16 1110100100 6) ⟨19, [(0, .d (eL44 t0 a0)), (4, .i x1_4), (11, .own 0 2 0 x1_r0.length), (16, .own 1 2 0 1)], [eR69 x1_r0, .flat false 2 69 1 (fun j => [api_Span.e (a0.getD x1_4.toNat api_Span.z)].getD j [])]⟩ ?_
          obtain ⟨h3, H⟩ := sC H
          refine ak_append1 (id := 0) (kk := 2) (by' := 16) (t := 34) (e := 69) (z := [.int .i64 0, .int .i64 0]) (dst := some 17) (id2 := 1) (e2 := 69) (fz := false) (k' := (K16 1110100100 7)) hT spliceref03_Span.e spliceref03_Span.z x1_r0 (⟨(a0.getD x1_4.toNat api_Span.z).Lo, (a0.getD x1_4.toNat api_Span.z).Hi⟩ : spliceref03_Span) [0, 4, 17] (by kernel_rfl) (by kernel_rfl) (by kernel_rfl) (by kernel_rfl) (by kernel_rfl) (by kernel_rfl) (by kernel_rfl) h3 (by omega) (st' := ⟨19, [(0, .d (eL44 t0 a0)), (4, .i x1_4), (17, .own 2 2 0 ((x1_r0 ++ [(⟨(a0.getD x1_4.toNat api_Span.z).Lo, (a0.getD x1_4.toNat api_Span.z).Hi⟩ : spliceref03_Span)]).length))], [.gone, .flat false 2 69 1 (fun j => [api_Span.e (a0.getD x1_4.toNat api_Span.z)].getD j []), eR69 (x1_r0 ++ [(⟨(a0.getD x1_4.toNat api_Span.z).Lo, (a0.getD x1_4.toNat api_Span.z).Hi⟩ : spliceref03_Span)])]⟩) (by kernel_rfl) ?_
          refine goK hT 9 (K16 111010 0) ⟨19, [(0, .d (eL44 t0 a0)), (3, .own 2 2 0 ((x1_r0 ++ [(⟨(a0.getD x1_4.toNat api_Span.z).Lo, (a0.getD x1_4.toNat api_Span.z).Hi⟩ : spliceref03_Span)]).length)), (4, .i (IntKind.wrap .i64 (x1_4 + 1)))], [.gone, .flat false 2 69 1 (fun j => [api_Span.e (a0.getD x1_4.toNat api_Span.z)].getD j []), eR69 (x1_r0 ++ [(⟨(a0.getD x1_4.toNat api_Span.z).Lo, (a0.getD x1_4.toNat api_Span.z).Hi⟩ : spliceref03_Span)])]⟩ ?_
          refine cutK [2] ⟨19, [(0, .d (eL44 t0 a0)), (3, .own 0 2 0 (x1_r0 ++ [(⟨(a0.getD x1_4.toNat api_Span.z).Lo, (a0.getD x1_4.toNat api_Span.z).Hi⟩ : spliceref03_Span)]).length), (4, .i (IntKind.wrap .i64 (x1_4 + 1)))], [eR69 (x1_r0 ++ [(⟨(a0.getD x1_4.toNat api_Span.z).Lo, (a0.getD x1_4.toNat api_Span.z).Hi⟩ : spliceref03_Span)])]⟩ h0 ?_
          exact ih (IntKind.wrap .i64 (x1_4 + 1)) (x1_r0 ++ [(⟨(a0.getD x1_4.toNat api_Span.z).Lo, (a0.getD x1_4.toNat api_Span.z).Hi⟩ : spliceref03_Span)]) H
        · replace H := sF c1 H
          rw [decide_eq_false c1]
          refine goK hT 7 (K16 1111 1) ⟨19, [(2, .own 0 2 0 x1_r0.length)], [eR69 x1_r0]⟩ ?_
          obtain rfl := retC H
          exact ak_ret hf hX (av := .own 0 2 0 x1_r0.length) (by kernel_rfl) [0] (sel_of_eq (by kernel_rfl)) (by decide) (by rw [h0]; rfl) (by kernel_rfl) (fun _ h => all_cons (nr_vec spliceref03_Span.nl) (fun _ h => all_nil h) h) (.own _ _ _ _)
  refine cutK [0] ⟨19, [(0, .d (eL44 t0 a0)), (3, .own 0 2 0 ([] : List spliceref03_Span).length), (4, .i 0)], [eR69 ([] : List spliceref03_Span)]⟩ h0 ?_
  obtain ⟨n, H⟩ := loopC H
  exact (L n) 0 ([] : List spliceref03_Span) H


theorem spliceref03_Same.says {t0 : Bool} {t1 : Bool} (a0 : List spliceref03_Span) (a1 : List spliceref03_Span) {r : Bool} (H : spliceref03_Same a0 a1 = some r) : Says Try.prog 15 [] [.d (eL69 t0 a0), .d (eL69 t1 a1)] [] (.b r) := by
  refine says_of Try.func15 rfl (nt := 26) rfl (Nat.le_of_ble_eq_true rfl) fun X hP h0 hX => ?_
  have hT : TabOk X.P T := hP ▸ tok
  have hf : X.P.funcs[15]? = some Try.f15 := hP ▸ Try.func15
  refine goK hT 13 (K15 110 1) ⟨26, [(0, .d (eL69 t0 a0)), (1, .d (eL69 t1 a1)), (10, .b ((a0.length : Int) != (a1.length : Int)))], []⟩ ?_
  by_cases c1 : (a0.length : Int) = (a1.length : Int)
  · replace H := iT c1 H
    rw [neF c1]
    refine goK hT 2 (K15 11 1) ⟨26, [(0, .d (eL69 t0 a0)), (1, .d (eL69 t1 a1))], []⟩ ?_
    refine goK hT 7 (K15 111010 0) ⟨26, [(0, .d (eL69 t0 a0)), (1, .d (eL69 t1 a1)), (5, .i 0)], []⟩ ?_
    have L : ∀ n, (∀ (x1_5 : Int), iter (spliceref03_Same.step a0 a1) n (.l1 x1_5) = some r → AK X 15 ((K15 111010 0)) (Back X [] (.b r)) ⟨26, [(0, .d (eL69 t0 a0)), (1, .d (eL69 t1 a1)), (5, .i x1_5)], []⟩) := by
      intro n
      induction n with
      | zero => exact fun _ H => iter0 H
      | succ n ih =>
        · intro x1_5 H
          refine goK hT 8 (K15 11101000 1) ⟨26, [(0, .d (eL69 t0 a0)), (1, .d (eL69 t1 a1)), (5, .i x1_5), (14, .b (decide (x1_5 < (a0.length : Int))))], []⟩ ?_
          by_cases c2 : x1_5 < (a0.length : Int)
          · replace H := sT c2 H
            rw [decide_eq_true c2]
            refine goK hT 2 (K15 1110100 1) ⟨26, [(0, .d (eL69 t0 a0)), (1, .d (eL69 t1 a1)), (5, .i x1_5)], []⟩ ?_
            refine goK hT 3 (K15 1110100100 0) ⟨26, [(0, .d (eL69 t0 a0)), (1, .d (eL69 t1 a1)), (5, .i x1_5)], []⟩ ?_
            obtain ⟨h3, H⟩ := sC H
            obtain ⟨h4, H⟩ := sC H
            refine drawK (hP ▸ mixed) 9 [0, 1, 5] [some (.d (eL69 t0 a0)), some (.i x1_5), some (.d (eP69 t0 a0 x1_5.toNat 0)), some (.d (eG69 (a0.getD x1_5.toNat spliceref03_Span.z))), some (.d (eL69 t1 a1)), some (.i x1_5), some (.d (eP69 t1 a1 x1_5.toNat 0)), some (.d (eG69 (a1.getD x1_5.toNat spliceref03_Span.z))), some (.b (!((((a0.getD x1_5.toNat spliceref03_Span.z).Lo) == ((a1.getD x1_5.toNat spliceref03_Span.z).Lo)) && (((a0.getD x1_5.toNat spliceref03_Span.z).Hi) == ((a1.getD x1_5.toNat spliceref03_Span.z).Hi)))))] (opG (opG (opS (opG (opG (opG (opS (opG (opG op0 hT) hT) (fun R rest h => ak_idx0 hT (i := x1_5) (n := (a0.length : Int)) h3.1 h3.2 (by kernel_rfl) h)) hT) hT) hT) (fun R rest h => ak_idx0 hT (i := x1_5) (n := (a1.length : Int)) h4.1 h4.2 (by kernel_rfl) h)) hT) hT) ?_
            refine goK hT 1 (K15 1110100100 1) ⟨26, [(0, .d (eL69 t0 a0)), (1, .d (eL69 t1 a1)), (5, .i x1_5), (25, .b (!((((a0.getD x1_5.toNat spliceref03_Span.z).Lo) == ((a1.getD x1_5.toNat spliceref03_Span.z).Lo)) && (((a0.getD x1_5.toNat spliceref03_Span.z).Hi) == ((a1.getD x1_5.toNat spliceref03_Span.z).Hi)))))], []⟩ ?_
            by_cases c5 : ((a0.getD x1_5.toNat spliceref03_Span.z).Lo) = ((a1.getD x1_5.toNat spliceref03_Span.z).Lo)
            · replace H := sT c5 H
              rw [eqT c5]
              by_cases c6 : ((a0.getD x1_5.toNat spliceref03_Span.z).Hi) = ((a1.getD x1_5.toNat spliceref03_Span.z).Hi)
              · replace H := sT c6 H
                rw [eqT c6]
                refine goK hT 3 (K15 11101001 1) ⟨26, [(0, .d (eL69 t0 a0)), (1, .d (eL69 t1 a1)), (5, .i x1_5)], []⟩ ?_
                refine goK hT 6 (K15 111010 0) ⟨26, [(0, .d (eL69 t0 a0)), (1, .d (eL69 t1 a1)), (5, .i (IntKind.wrap .i64 (x1_5 + 1)))], []⟩ ?_
                refine cutK [] ⟨26, [(0, .d (eL69 t0 a0)), (1, .d (eL69 t1 a1)), (5, .i (IntKind.wrap .i64 (x1_5 + 1)))], []⟩ h0 ?_
                exact ih (IntKind.wrap .i64 (x1_5 + 1)) H
              · replace H := sF c6 H
                rw [eqF c6]
                refine goK hT 5 (K15 111010010010 1) ⟨26, [(4, .b false)], []⟩ ?_
                obtain rfl := retC H
                exact ak_ret hf hX (av := .b false) (by kernel_rfl) [] (sel_of_eq (by kernel_rfl)) (by decide) (by rw [h0]; rfl) (by kernel_rfl) (fun _ h => all_nil h) (.d (.v _))
            · replace H := sF c5 H
              rw [eqF c5]
              by_cases c7 : ((a0.getD x1_5.toNat spliceref03_Span.z).Hi) = ((a1.getD x1_5.toNat spliceref03_Span.z).Hi)
              · replace H := sT c7 H
                rw [eqT c7]
                refine goK hT 5 (K15 111010010010 1) ⟨26, [(4, .b false)], []⟩ ?_
                obtain rfl := retC H
                exact ak_ret hf hX (av := .b false) (by kernel_rfl) [] (sel_of_eq (by kernel_rfl)) (by decide) (by rw [h0]; rfl) (by kernel_rfl) (fun _ h => all_nil h) (.d (.v _))
              · replace H := sF c7 H
                rw [eqF c7]
                refine goK hT 5 (K15 111010010010 1) ⟨26, [(4, .b false)], []⟩ ?_
                obtain rfl := retC H
                exact ak_ret hf hX (av := .b false) (by kernel_rfl) [] (sel_of_eq (by kernel_rfl)) (by decide) (by rw [h0]; rfl) (by kernel_rfl) (fun _ h => all_nil h) (.d (.v _))
          · replace H := sF c2 H
            rw [decide_eq_false c2]
            refine goK hT 6 (K15 1111 1) ⟨26, [(4, .b true)], []⟩ ?_
            obtain rfl := retC H
            exact ak_ret hf hX (av := .b true) (by kernel_rfl) [] (sel_of_eq (by kernel_rfl)) (by decide) (by rw [h0]; rfl) (by kernel_rfl) (fun _ h => all_nil h) (.d (.v _))
    refine cutK [] ⟨26, [(0, .d (eL69 t0 a0)), (1, .d (eL69 t1 a1)), (5, .i 0)], []⟩ h0 ?_
    obtain ⟨n, H⟩ := loopC H
    exact (L n) 0 H
  · replace H := iF c1 H
    rw [neT c1]
    refine goK hT 5 (K15 11010 1) ⟨26, [(4, .b false)], []⟩ ?_
    obtain rfl := retC H
    exact ak_ret hf hX (av := .b false) (by kernel_rfl) [] (sel_of_eq (by kernel_rfl)) (by decide) (by rw [h0]; rfl) (by kernel_rfl) (fun _ h => all_nil h) (.d (.v _))


theorem merkle_Tree_Node_n0.says (a1 : Int) (a2 : Int) : Says Try.prog 23 [] [.d .np, .i a1, .i a2] [] (.tup [.n .u32 ((merkle_Tree_Node_n0 a1 a2).1), .i ((merkle_Tree_Node_n0 a1 a2).2)]) := by
  obtain ⟨r, H⟩ : ∃ r, merkle_Tree_Node_n0 a1 a2 = r := ⟨_, rfl⟩
  rw [H]
  refine says_of Try.func23 rfl (nt := 26) rfl (Nat.le_of_ble_eq_true rfl) fun X hP h0 hX => ?_
  have hT : TabOk X.P T := hP ▸ tok
  have hf : X.P.funcs[23]? = some Try.f23 := hP ▸ Try.func23
  refine goK hT 17 (K23 11010 1) ⟨26, [(6, .n .u32 0), (7, .i 1)], []⟩ ?_
  obtain rfl := H
  exact ak_ret hf hX (av := .tup [.n .u32 0, .i 1]) (by kernel_rfl) [] (sel_of_eq (by kernel_rfl)) (by decide) (by rw [h0]; rfl) (by kernel_rfl) (fun _ h => all_nil h) (.tup (.cons (.d (.v _)) (.cons (.d (.v _)) .nil)))


theorem merkle_Tree_Leaf_n0.says (a1 : Int) : Says Try.prog 24 [] [.d .np, .i a1] [] (.tup [.n .u32 ((merkle_Tree_Leaf_n0 a1).1), .i ((merkle_Tree_Leaf_n0 a1).2)]) := by
  obtain ⟨r, H⟩ : ∃ r, merkle_Tree_Leaf_n0 a1 = r := ⟨_, rfl⟩
  rw [H]
  refine says_of Try.func24 rfl (nt := 19) rfl (Nat.le_of_ble_eq_true rfl) fun X hP h0 hX => ?_
  have hT : TabOk X.P T := hP ▸ tok
  have hf : X.P.funcs[24]? = some Try.f24 := hP ▸ Try.func24
  refine goK hT 22 (K24 11010 1) ⟨19, [(4, .n .u32 0), (5, .i 1)], []⟩ ?_
  obtain rfl := H
  exact ak_ret hf hX (av := .tup [.n .u32 0, .i 1]) (by kernel_rfl) [] (sel_of_eq (by kernel_rfl)) (by decide) (by rw [h0]; rfl) (by kernel_rfl) (fun _ h => all_nil h) (.tup (.cons (.d (.v _)) (.cons (.d (.v _)) .nil)))


theorem merkle_Tree_Prove_n0.says (a1 : Int) : Says Try.prog 28 [] [.d .np, .i a1] [eR37 ((merkle_Tree_Prove_n0 a1).1)] (.tup [.own 0 1 0 (((merkle_Tree_Prove_n0 a1).1).length), .i ((merkle_Tree_Prove_n0 a1).2)]) := by
  obtain ⟨r, H⟩ : ∃ r, merkle_Tree_Prove_n0 a1 = r := ⟨_, rfl⟩
  rw [H]
  refine says_of Try.func28 rfl (nt := 42) rfl (Nat.le_of_ble_eq_true rfl) fun X hP h0 hX => ?_
  have hT : TabOk X.P T := hP ▸ tok
  have hf : X.P.funcs[28]? = some Try.f28 := hP ▸ Try.func28
  refine goK hT 22 (K28 11010 1) ⟨42, [(4, .ns), (5, .i 1)], []⟩ ?_
  refine ak_nilS [4, 5] 4 1 37 (vec (eI .u32) 0 []) (st' := ⟨42, [(4, .own 0 1 0 0), (5, .i 1)], [eR37 ([] : List Int)]⟩) (by kernel_rfl) (by kernel_rfl) ?_
  obtain rfl := H
  exact ak_ret hf hX (av := .tup [.own 0 1 0 0, .i 1]) (by kernel_rfl) [0] (sel_of_eq (by kernel_rfl)) (by decide) (by rw [h0]; rfl) (by kernel_rfl) (fun _ h => all_cons (nr_vec (nlI .u32)) (fun _ h => all_nil h) h) (.tup (.cons (.own _ _ _ _) (.cons (.d (.v _)) .nil)))


theorem merkle_Tree_Set_n0.says (a1 : Int) (a2 : api_Cell) : Says Try.prog 25 [] [.d .np, .i a1, .d (eG48 a2)] [] (.i (merkle_Tree_Set_n0 a1 a2)) := by
  obtain ⟨r, H⟩ : ∃ r, merkle_Tree_Set_n0 a1 a2 = r := ⟨_, rfl⟩
  rw [H]
  refine says_of Try.func25 rfl (nt := 23) rfl (Nat.le_of_ble_eq_true rfl) fun X hP h0 hX => ?_
  have hT : TabOk X.P T := hP ▸ tok
  have hf : X.P.funcs[25]? = some Try.f25 := hP ▸ Try.func25
  refine goK hT 26 (K25 11010 1) ⟨23, [(6, .i 1)], [.box 48 (eC48 a2)]⟩ ?_
  obtain rfl := H
  exact ak_ret hf hX (av := .i 1) (by kernel_rfl) [] (sel_of_eq (by kernel_rfl)) (by decide) (by rw [h0]; rfl) (by kernel_rfl) (fun _ h => all_nil h) (.d (.v _))


theorem merkle_Tree_Get_n0.says (a1 : Int) : Says Try.prog 26 [] [.d .np, .i a1] [] (.d (eG48 (merkle_Tree_Get_n0 a1))) := by
  obtain ⟨r, H⟩ : ∃ r, merkle_Tree_Get_n0 a1 = r := ⟨_, rfl⟩
  rw [H]
  refine says_of Try.func26 rfl (nt := 19) rfl (Nat.le_of_ble_eq_true rfl) fun X hP h0 hX => ?_
  have hT : TabOk X.P T := hP ▸ tok
  have hf : X.P.funcs[26]? = some Try.f26 := hP ▸ Try.func26
  refine goK hT 21 (K26 11010 1) ⟨19, [(4, .ptr 0 0 0 0)], [.box 48 [.i 0, .b false]]⟩ ?_
  obtain rfl := H
  exact ak_retM hT hf hX (av := .d (.agg [.i 0, .b false])) (by kernel_rfl) [] (sel_of_eq (by kernel_rfl)) (by decide) (by rw [h0]; rfl) (by kernel_rfl) (fun _ h => all_nil h) (.d (.agg (api_Cell.nl _)))


theorem merkle_Tree_Table_n0.says {r : List api_Pair} (H : merkle_Tree_Table_n0 = some r) : Says Try.prog 27 [] [.d .np] [eR42 r] (.own 0 2 0 r.length) := by
  refine says_of Try.func27 rfl (nt := 26) rfl (Nat.le_of_ble_eq_true rfl) fun X hP h0 hX => ?_
  have hT : TabOk X.P T := hP ▸ tok
  have hf : X.P.funcs[27]? = some Try.f27 := hP ▸ Try.func27
  refine goK hT 12 (K27 11100 1) ⟨26, [(3, .ns), (6, .d .np)], []⟩ ?_
  obtain ⟨v1, h1, H⟩ := ibC H
  refine ak_callP (avs := [.d .np]) (dst := some 7) (k' := (K27 11100 2)) [3, 7] [] hP enters_39 (merkle_Tree_some_n0.says h1) (by kernel_rfl) (hands_none _) (.cons (pass_d _) .nil) (st' := ⟨26, [(3, .ns), (7, .ptr 0 0 0 0)], [eB91 v1]⟩) (by kernel_rfl) ?_
  refine goK hT 2 (K27 11100 4) ⟨26, [(3, .ns), (9, .ptr 0 0 0 0)], [eB91 v1]⟩ ?_
  refine ak_bld hT [3, 10] (A := 0 * 0 + 0) (s := 8192) (n := 12561) (agg := true) (g := merkle_Tree.g v1) (dst := some 10) (k' := (K27 11100 5)) (arrL api_Cell.e v1.cells 4096) (by kernel_rfl) (by omega) (arrL_length (s := 2) (fun _ => rfl) _ _) (fun h => by cases h) (fun j hj => merkle_Tree.a_cells v1 (by omega) hj) (st' := ⟨26, [(3, .ns), (10, .d (.agg (arrL api_Cell.e v1.cells 4096)))], [eB91 v1]⟩) (by kernel_rfl) ?_
  refine goK hT 4 (K27 111010 0) ⟨26, [(3, .ns), (10, .d (.agg (arrL api_Cell.e v1.cells 4096))), (11, .i 0)], [eB91 v1]⟩ ?_
  refine ak_nilS [3, 10, 11] 3 2 42 (vec api_Pair.e api_Pair.z []) (st' := ⟨26, [(3, .own 1 2 0 0), (10, .d (.agg (arrL api_Cell.e v1.cells 4096))), (11, .i 0)], [eB91 v1, eR42 ([] : List api_Pair)]⟩) (by kernel_rfl) (by kernel_rfl) ?_
  have L : ∀ n, (∀ (x1_11 : Int) (x1_r0 : List api_Pair), iter (merkle_Tree_Table_n0.step v1) n (.l1 x1_11 x1_r0) = some r → AK X 27 ((K27 111010 0)) (Back X [eR42 r] (.own 0 2 0 r.length)) ⟨26, [(3, .own 0 2 0 x1_r0.length), (10, .d (.agg (arrL api_Cell.e v1.cells 4096))), (11, .i x1_11)], [eR42 x1_r0]⟩) := by
    intro n
    induction n with
    | zero => exact fun _ _ H => iter0 H
    | succ n ih =>
      · intro x1_11 x1_r0 H
        refine goK hT 5 (K27 11101001 0) ⟨26, [(3, .own 0 2 0 x1_r0.length), (10, .d (.agg (arrL api_Cell.e v1.cells 4096))), (11, .i x1_11), (12, .b (decide (x1_11 < 4096)))], [eR42 x1_r0]⟩ ?_
        by_cases c2 : x1_11 < 4096
        · replace H := sT c2 H
          rw [decide_eq_true c2]
          refine goK hT 2 (K27 11101001 1) ⟨26, [(3, .own 0 2 0 x1_r0.length), (10, .d (.agg (arrL api_Cell.e v1.cells 4096))), (11, .i x1_11)], [eR42 x1_r0]⟩ ?_
          refine goK hT 5 (K27 111010011000 1) ⟨26, [(3, .own 0 2 0 x1_r0.length), (10, .d (.agg (arrL api_Cell.e v1.cells 4096))), (11, .i x1_11), (13, .i x1_11)], [eR42 x1_r0]⟩ ?_
          obtain ⟨h3, H⟩ := sC H
          have Jj1 : ∀ (y1_r0 : List api_Pair), stk (merkle_Tree_Table_n0.j1 x1_11 y1_r0) (iter (merkle_Tree_Table_n0.step v1) n) = some r → AK X 27 ((K27 111010011 1)) (Back X [eR42 r] (.own 0 2 0 r.length)) ⟨26, [(3, .own 0 2 0 y1_r0.length), (10, .d (.agg (arrL api_Cell.e v1.cells 4096))), (11, .i x1_11)], [eR42 y1_r0]⟩ := by
            intro y1_r0 H
            refine goK hT 5 (K27 111010 0) ⟨26, [(3, .own 0 2 0 y1_r0.length), (10, .d (.agg (arrL api_Cell.e v1.cells 4096))), (11, .i (IntKind.wrap .i64 (x1_11 + 1)))], [eR42 y1_r0]⟩ ?_
            refine cutK [0] ⟨26, [(3, .own 0 2 0 y1_r0.length), (10, .d (.agg (arrL api_Cell.e v1.cells 4096))), (11, .i (IntKind.wrap .i64 (x1_11 + 1)))], [eR42 y1_r0]⟩ h0 ?_
            exact ih (IntKind.wrap .i64 (x1_11 + 1)) y1_r0 H
          refine ak_idxV hT [3, 10, 11, 13, 14] (ds := arrL api_Cell.e v1.cells 4096) (i := x1_11) (len := 4096) (s := 2) (agg := true) (dst := some 14) (k' := (K27 111010011000 2)) (api_Cell.e (v1.cells x1_11.toNat)) (by kernel_rfl) h3.1 h3.2 (arrL_at (e := api_Cell.e) (s := 2) (n := 4096) (i := x1_11.toNat) (fun _ => rfl) v1.cells (by omega)) rfl (fun h => by cases h) (st' := ⟨26, [(3, .own 0 2 0 x1_r0.length), (10, .d (.agg (arrL api_Cell.e v1.cells 4096))), (11, .i x1_11), (13, .i x1_11), (14, .d (eG48 (v1.cells x1_11.toNat)))], [eR42 x1_r0]⟩) (by kernel_rfl) ?_
          refine goK hT 9 (K27 111010011001 1) ⟨26, [(3, .own 0 2 0 x1_r0.length), (4, .i x1_11), (5, .ptr 1 0 0 0), (10, .d (.agg (arrL api_Cell.e v1.cells 4096))), (11, .i x1_11), (16, .b ((v1.cells x1_11.toNat).Some))], [eR42 x1_r0, .box 48 [.i ((v1.cells x1_11.toNat).Val), .b ((v1.cells x1_11.toNat).Some)]]⟩ ?_
          by_cases c4 : ((v1.cells x1_11.toNat).Some) = true
          · replace H := sT c4 H
            rw [c4]
            refine goK hT 8 (K27 11101001100110 6) ⟨26, [(10, .d (.agg (arrL api_Cell.e v1.cells 4096))), (11, .i x1_11), (17, .own 0 2 0 x1_r0.length), (22, .own 2 2 0 1)], [eR42 x1_r0, .box 48 [.i ((v1.cells x1_11.toNat).Val), .b true], .flat false 2 42 1 (fun j => [[.i x1_11, .i ((v1.cells x1_11.toNat).Val)]].getD j [])]⟩ ?_
            obtain ⟨h5, H⟩ := sC H
            refine ak_append1 (id := 0) (kk := 2) (by' := 16) (t := 22) (e := 42) (z := [.int .i64 0, .int .i64 0]) (dst := some 23) (id2 := 2) (e2 := 42) (fz := false) (k' := (K27 11101001100110 7)) hT api_Pair.e api_Pair.z x1_r0 (⟨x1_11, (v1.cells x1_11.toNat).Val⟩ : api_Pair) [10, 11, 23] (by kernel_rfl) (by kernel_rfl) (by kernel_rfl) (by kernel_rfl) (by kernel_rfl) (by kernel_rfl) (by kernel_rfl) h5 (by omega) (st' := ⟨26, [(10, .d (.agg (arrL api_Cell.e v1.cells 4096))), (11, .i x1_11), (23, .own 3 2 0 ((x1_r0 ++ [(⟨x1_11, (v1.cells x1_11.toNat).Val⟩ : api_Pair)]).length))], [.gone, .box 48 [.i ((v1.cells x1_11.toNat).Val), .b true], .flat false 2 42 1 (fun j => [[.i x1_11, .i ((v1.cells x1_11.toNat).Val)]].getD j []), eR42 (x1_r0 ++ [(⟨x1_11, (v1.cells x1_11.toNat).Val⟩ : api_Pair)])]⟩) (by kernel_rfl) ?_
            refine goK hT 3 (K27 111010011 1) ⟨26, [(3, .own 3 2 0 ((x1_r0 ++ [(⟨x1_11, (v1.cells x1_11.toNat).Val⟩ : api_Pair)]).length)), (10, .d (.agg (arrL api_Cell.e v1.cells 4096))), (11, .i x1_11)], [.gone, .box 48 [.i ((v1.cells x1_11.toNat).Val), .b true], .flat false 2 42 1 (fun j => [[.i x1_11, .i ((v1.cells x1_11.toNat).Val)]].getD j []), eR42 (x1_r0 ++ [(⟨x1_11, (v1.cells x1_11.toNat).Val⟩ : api_Pair)])]⟩ ?_
            refine cutK [3] ⟨26, [(3, .own 0 2 0 (x1_r0 ++ [(⟨x1_11, (v1.cells x1_11.toNat).Val⟩ : api_Pair)]).length), (10, .d (.agg (arrL api_Cell.e v1.cells 4096))), (11, .i x1_11)], [eR42 (x1_r0 ++ [(⟨x1_11, (v1.cells x1_11.toNat).Val⟩ : api_Pair)])]⟩ h0 ?_
            exact Jj1 (x1_r0 ++ [(⟨x1_11, (v1.cells x1_11.toNat).Val⟩ : api_Pair)]) H
          · replace H := sF c4 H
            rw [boF c4]
            refine goK hT 3 (K27 111010011 1) ⟨26, [(3, .own 0 2 0 x1_r0.length), (10, .d (.agg (arrL api_Cell.e v1.cells 4096))), (11, .i x1_11)], [eR42 x1_r0, .box 48 [.i ((v1.cells x1_11.toNat).Val), .b false]]⟩ ?_
            refine cutK [0] ⟨26, [(3, .own 0 2 0 x1_r0.length), (10, .d (.agg (arrL api_Cell.e v1.cells 4096))), (11, .i x1_11)], [eR42 x1_r0]⟩ h0 ?_
            exact Jj1 x1_r0 H
        · replace H := sF c2 H
          rw [decide_eq_false c2]
          refine goK hT 7 (K27 1111 1) ⟨26, [(2, .own 0 2 0 x1_r0.length)], [eR42 x1_r0]⟩ ?_
          obtain rfl := retC H
          exact ak_ret hf hX (av := .own 0 2 0 x1_r0.length) (by kernel_rfl) [0] (sel_of_eq (by kernel_rfl)) (by decide) (by rw [h0]; rfl) (by kernel_rfl) (fun _ h => all_cons (nr_vec api_Pair.nl) (fun _ h => all_nil h) h) (.own _ _ _ _)
  refine cutK [1] ⟨26, [(3, .own 0 2 0 ([] : List api_Pair).length), (10, .d (.agg (arrL api_Cell.e v1.cells 4096))), (11, .i 0)], [eR42 ([] : List api_Pair)]⟩ h0 ?_
  obtain ⟨n, H⟩ := loopC H
  exact (L n) 0 ([] : List api_Pair) H


theorem spliceref04_Same.says (a0 : spliceref04_Mut) (a1 : spliceref04_Mut) {r : Bool} (H : spliceref04_Same a0 a1 = some r) : Says Try.prog 30 [] [.d (eG71 a0), .d (eG71 a1)] [] (.b r) := by
  refine says_of Try.func30 rfl (nt := 66) rfl (Nat.le_of_ble_eq_true rfl) fun X hP h0 hX => ?_
  have hT : TabOk X.P T := hP ▸ tok
  have hf : X.P.funcs[30]? = some Try.f30 := hP ▸ Try.func30
  have Jj1 : ∀ (y1_47 : Bool), (spliceref04_Same.j1 a0 a1 y1_47) = some r → AK X 30 ((K30 110 1)) (Back X [] (.b r)) ⟨66, [(2, .ptr 0 0 0 0), (3, .ptr 1 0 0 0), (47, .b y1_47)], [.box 71 (eC71 a0), .box 71 (eC71 a1)]⟩ := by
    intro y1_47 H
    by_cases c8 : y1_47 = true
    · replace H := iT c8 H
      rw [c8]
      refine goK hT 5 (K30 11010 1) ⟨66, [(4, .b false)], [.box 71 (eC71 a0), .box 71 (eC71 a1)]⟩ ?_
      obtain rfl := retC H
      exact ak_ret hf hX (av := .b false) (by kernel_rfl) [] (sel_of_eq (by kernel_rfl)) (by decide) (by rw [h0]; rfl) (by kernel_rfl) (fun _ h => all_nil h) (.d (.v _))
    · replace H := iF c8 H
      rw [boF c8]
      refine goK hT 2 (K30 11 1) ⟨66, [(2, .ptr 0 0 0 0), (3, .ptr 1 0 0 0)], [.box 71 (eC71 a0), .box 71 (eC71 a1)]⟩ ?_
      refine goK hT 7 (K30 111010 0) ⟨66, [(2, .ptr 0 0 0 0), (3, .ptr 1 0 0 0), (5, .i 0)], [.box 71 (eC71 a0), .box 71 (eC71 a1)]⟩ ?_
      have L : ∀ n, (∀ (x1_5 : Int), iter (spliceref04_Same.step a0 a1) n (.l1 x1_5) = some r → AK X 30 ((K30 111010 0)) (Back X [] (.b r)) ⟨66, [(2, .ptr 0 0 0 0), (3, .ptr 1 0 0 0), (5, .i x1_5)], [.box 71 (eC71 a0), .box 71 (eC71 a1)]⟩) := by
        intro n
        induction n with
        | zero => exact fun _ H => iter0 H
        | succ n ih =>
          · intro x1_5 H
            refine goK hT 9 (K30 11101000 1) ⟨66, [(2, .ptr 0 0 0 0), (3, .ptr 1 0 0 0), (5, .i x1_5), (52, .b (decide (x1_5 < (a0.Pairs.length : Int))))], [.box 71 (eC71 a0), .box 71 (eC71 a1)]⟩ ?_
            by_cases c9 : x1_5 < (a0.Pairs.length : Int)
            · replace H := sT c9 H
              rw [decide_eq_true c9]
              refine goK hT 2 (K30 1110100 1) ⟨66, [(2, .ptr 0 0 0 0), (3, .ptr 1 0 0 0), (5, .i x1_5)], [.box 71 (eC71 a0), .box 71 (eC71 a1)]⟩ ?_
              refine goK hT 3 (K30 1110100100 0) ⟨66, [(2, .ptr 0 0 0 0), (3, .ptr 1 0 0 0), (5, .i x1_5)], [.box 71 (eC71 a0), .box 71 (eC71 a1)]⟩ ?_
              obtain ⟨h10, H⟩ := sC H
              obtain ⟨h11, H⟩ := sC H
              refine drawK (hP ▸ mixed) 11 [2, 3, 5] [some (.ptr 0 0 0 3), some (.d (eL94 true a0.Pairs)), some (.i x1_5), some (.d (eP94 true a0.Pairs x1_5.toNat 0)), some (.d (eG94 (a0.Pairs.getD x1_5.toNat spliceref04_Pair.z))), some (.ptr 1 0 0 3), some (.d (eL94 true a1.Pairs)), some (.i x1_5), some (.d (eP94 true a1.Pairs x1_5.toNat 0)), some (.d (eG94 (a1.Pairs.getD x1_5.toNat spliceref04_Pair.z))), some (.b (!((((a0.Pairs.getD x1_5.toNat spliceref04_Pair.z).Key) == ((a1.Pairs.getD x1_5.toNat spliceref04_Pair.z).Key)) && (((a0.Pairs.getD x1_5.toNat spliceref04_Pair.z).Val) == ((a1.Pairs.getD x1_5.toNat spliceref04_Pair.z).Val)))))] (opG (opG (opS (opG (opG (opG (opG (opS (opG (opG (opG op0 hT) hT) hT) (fun R rest h => ak_idx0 hT (i := x1_5) (n := (a0.Pairs.length : Int)) h10.1 h10.2 (by kernel_rfl) h)) hT) hT) hT) hT) (fun R rest h => ak_idx0 hT (i := x1_5) (n := (a1.Pairs.length : Int)) h11.1 h11.2 (by kernel_rfl) h)) hT) hT) ?_
              refine goK hT 1 (K30 1110100100 1) ⟨66, [(2, .ptr 0 0 0 0), (3, .ptr 1 0 0 0), (5, .i x1_5), (65, .b (!((((a0.Pairs.getD x1_5.toNat spliceref04_Pair.z).Key) == ((a1.Pairs.getD x1_5.toNat spliceref04_Pair.z).Key)) && (((a0.Pairs.getD x1_5.toNat spliceref04_Pair.z).Val) == ((a1.Pairs.getD x1_5.toNat spliceref04_Pair.z).Val)))))], [.box 71 (eC71 a0), .box 71 (eC71 a1)]⟩ ?_
              by_cases c12 : ((a0.Pairs.getD x1_5.toNat spliceref04_Pair.z).Key) = ((a1.Pairs.getD x1_5.toNat spliceref04_Pair.z).Key)
              · replace H := sT c12 H
                rw [eqT c12]
                by_cases c13 : ((a0.Pairs.getD x1_5.toNat spliceref04_Pair.z).Val) = ((a1.Pairs.getD x1_5.toNat spliceref04_Pair.z).Val)
                · replace H := sT c13 H
                  rw [eqT c13]
                  refine goK hT 3 (K30 11101001 1) ⟨66, [(2, .ptr 0 0 0 0), (3, .ptr 1 0 0 0), (5, .i x1_5)], [.box 71 (eC71 a0), .box 71 (eC71 a1)]⟩ ?_
                  refine goK hT 6 (K30 111010 0) ⟨66, [(2, .ptr 0 0 0 0), (3, .ptr 1 0 0 0), (5, .i (IntKind.wrap .i64 (x1_5 + 1)))], [.box 71 (eC71 a0), .box 71 (eC71 a1)]⟩ ?_
                  refine cutK [0, 1] ⟨66, [(2, .ptr 0 0 0 0), (3, .ptr 1 0 0 0), (5, .i (IntKind.wrap .i64 (x1_5 + 1)))], [.box 71 (eC71 a0), .box 71 (eC71 a1)]⟩ h0 ?_
                  exact ih (IntKind.wrap .i64 (x1_5 + 1)) H
                · replace H := sF c13 H
                  rw [eqF c13]
                  refine goK hT 5 (K30 111010010010 1) ⟨66, [(4, .b false)], [.box 71 (eC71 a0), .box 71 (eC71 a1)]⟩ ?_
                  obtain rfl := retC H
                  exact ak_ret hf hX (av := .b false) (by kernel_rfl) [] (sel_of_eq (by kernel_rfl)) (by decide) (by rw [h0]; rfl) (by kernel_rfl) (fun _ h => all_nil h) (.d (.v _))
              · replace H := sF c12 H
                rw [eqF c12]
                by_cases c14 : ((a0.Pairs.getD x1_5.toNat spliceref04_Pair.z).Val) = ((a1.Pairs.getD x1_5.toNat spliceref04_Pair.z).Val)
                · replace H := sT c14 H
                  rw [eqT c14]
                  refine goK hT 5 (K30 111010010010 1) ⟨66, [(4, .b false)], [.box 71 (eC71 a0), .box 71 (eC71 a1)]⟩ ?_
                  obtain rfl := retC H
                  exact ak_ret hf hX (av := .b false) (by kernel_rfl) [] (sel_of_eq (by kernel_rfl)) (by decide) (by rw [h0]; rfl) (by kernel_rfl) (fun _ h => all_nil h) (.d (.v _))
                · replace H := sF c14 H
                  rw [eqF c14]
                  refine goK hT 5 (K30 111010010010 1) ⟨66, [(4, .b false)], [.box 71 (eC71 a0), .box 71 (eC71 a1)]⟩ ?_
                  obtain rfl := retC H
                  exact ak_ret hf hX (av := .b false) (by kernel_rfl) [] (sel_of_eq (by kernel_rfl)) (by decide) (by rw [h0]; rfl) (by kernel_rfl) (fun _ h => all_nil h) (.d (.v _))
            · replace H := sF c9 H
              rw [decide_eq_false c9]
              refine goK hT 6 (K30 1111 1) ⟨66, [(4, .b true)], [.box 71 (eC71 a0), .box 71 (eC71 a1)]⟩ ?_
              obtain rfl := retC H
              exact ak_ret hf hX (av := .b true) (by kernel_rfl) [] (sel_of_eq (by kernel_rfl)) (by decide) (by rw [h0]; rfl) (by kernel_rfl) (fun _ h => all_nil h) (.d (.v _))
      refine cutK [0, 1] ⟨66, [(2, .ptr 0 0 0 0), (3, .ptr 1 0 0 0), (5, .i 0)], [.box 71 (eC71 a0), .box 71 (eC71 a1)]⟩ h0 ?_
      obtain ⟨n, H⟩ := loopC H
      exact (L n) 0 H
  refine goK hT 15 (K30 1100 6) ⟨66, [(2, .ptr 0 0 0 0), (3, .ptr 1 0 0 0), (11, .b (a0.Client != a1.Client))], [.box 71 (eC71 a0), .box 71 (eC71 a1)]⟩ ?_
  by_cases c1 : a0.Client = a1.Client
  · replace H := iT c1 H
    rw [neF c1]
    refine goK hT 7 (K30 1100 13) ⟨66, [(2, .ptr 0 0 0 0), (3, .ptr 1 0 0 0), (18, .b (a0.Seq != a1.Seq))], [.box 71 (eC71 a0), .box 71 (eC71 a1)]⟩ ?_
    by_cases c2 : a0.Seq = a1.Seq
    · replace H := iT c2 H
      rw [neF c2]
      refine goK hT 7 (K30 1100 20) ⟨66, [(2, .ptr 0 0 0 0), (3, .ptr 1 0 0 0), (25, .b (a0.Kind != a1.Kind))], [.box 71 (eC71 a0), .box 71 (eC71 a1)]⟩ ?_
      by_cases c3 : a0.Kind = a1.Kind
      · replace H := iT c3 H
        rw [neF c3]
        refine goK hT 7 (K30 1100 27) ⟨66, [(2, .ptr 0 0 0 0), (3, .ptr 1 0 0 0), (32, .b (!((a0.Over.Lo == a1.Over.Lo) && (a0.Over.Hi == a1.Over.Hi))))], [.box 71 (eC71 a0), .box 71 (eC71 a1)]⟩ ?_
        by_cases c4 : a0.Over.Lo = a1.Over.Lo
        · replace H := iT c4 H
          rw [eqT c4]
          by_cases c5 : a0.Over.Hi = a1.Over.Hi
          · replace H := iT c5 H
            rw [eqT c5]
            refine goK hT 7 (K30 1100 34) ⟨66, [(2, .ptr 0 0 0 0), (3, .ptr 1 0 0 0), (39, .b (a0.Old != a1.Old))], [.box 71 (eC71 a0), .box 71 (eC71 a1)]⟩ ?_
            by_cases c6 : a0.Old = a1.Old
            · replace H := iT c6 H
              rw [neF c6]
              refine goK hT 9 (K30 110 1) ⟨66, [(2, .ptr 0 0 0 0), (3, .ptr 1 0 0 0), (47, .b ((a0.Pairs.length : Int) != (a1.Pairs.length : Int)))], [.box 71 (eC71 a0), .box 71 (eC71 a1)]⟩ ?_
              refine cutK [0, 1] ⟨66, [(2, .ptr 0 0 0 0), (3, .ptr 1 0 0 0), (47, .b ((a0.Pairs.length : Int) != (a1.Pairs.length : Int)))], [.box 71 (eC71 a0), .box 71 (eC71 a1)]⟩ h0 ?_
              exact Jj1 ((a0.Pairs.length : Int) != (a1.Pairs.length : Int)) H
            · replace H := iF c6 H
              rw [neT c6]
              refine goK hT 9 (K30 110 1) ⟨66, [(2, .ptr 0 0 0 0), (3, .ptr 1 0 0 0), (47, .b true)], [.box 71 (eC71 a0), .box 71 (eC71 a1)]⟩ ?_
              refine cutK [0, 1] ⟨66, [(2, .ptr 0 0 0 0), (3, .ptr 1 0 0 0), (47, .b true)], [.box 71 (eC71 a0), .box 71 (eC71 a1)]⟩ h0 ?_
              exact Jj1 true H
          · replace H := iF c5 H
            rw [eqF c5]
            refine goK hT 16 (K30 110 1) ⟨66, [(2, .ptr 0 0 0 0), (3, .ptr 1 0 0 0), (47, .b true)], [.box 71 (eC71 a0), .box 71 (eC71 a1)]⟩ ?_
            refine cutK [0, 1] ⟨66, [(2, .ptr 0 0 0 0), (3, .ptr 1 0 0 0), (47, .b true)], [.box 71 (eC71 a0), .box 71 (eC71 a1)]⟩ h0 ?_
            exact Jj1 true H
        · replace H := iF c4 H
          rw [eqF c4]
          by_cases c7 : a0.Over.Hi = a1.Over.Hi
          · replace H := iT c7 H
            rw [eqT c7]
            refine goK hT 16 (K30 110 1) ⟨66, [(2, .ptr 0 0 0 0), (3, .ptr 1 0 0 0), (47, .b true)], [.box 71 (eC71 a0), .box 71 (eC71 a1)]⟩ ?_
            refine cutK [0, 1] ⟨66, [(2, .ptr 0 0 0 0), (3, .ptr 1 0 0 0), (47, .b true)], [.box 71 (eC71 a0), .box 71 (eC71 a1)]⟩ h0 ?_
            exact Jj1 true H
          · replace H := iF c7 H
            rw [eqF c7]
            refine goK hT 16 (K30 110 1) ⟨66, [(2, .ptr 0 0 0 0), (3, .ptr 1 0 0 0), (47, .b true)], [.box 71 (eC71 a0), .box 71 (eC71 a1)]⟩ ?_
            refine cutK [0, 1] ⟨66, [(2, .ptr 0 0 0 0), (3, .ptr 1 0 0 0), (47, .b true)], [.box 71 (eC71 a0), .box 71 (eC71 a1)]⟩ h0 ?_
            exact Jj1 true H
      · replace H := iF c3 H
        rw [neT c3]
        refine goK hT 23 (K30 110 1) ⟨66, [(2, .ptr 0 0 0 0), (3, .ptr 1 0 0 0), (47, .b true)], [.box 71 (eC71 a0), .box 71 (eC71 a1)]⟩ ?_
        refine cutK [0, 1] ⟨66, [(2, .ptr 0 0 0 0), (3, .ptr 1 0 0 0), (47, .b true)], [.box 71 (eC71 a0), .box 71 (eC71 a1)]⟩ h0 ?_
        exact Jj1 true H
    · replace H := iF c2 H
      rw [neT c2]
      refine goK hT 30 (K30 110 1) ⟨66, [(2, .ptr 0 0 0 0), (3, .ptr 1 0 0 0), (47, .b true)], [.box 71 (eC71 a0), .box 71 (eC71 a1)]⟩ ?_
      refine cutK [0, 1] ⟨66, [(2, .ptr 0 0 0 0), (3, .ptr 1 0 0 0), (47, .b true)], [.box 71 (eC71 a0), .box 71 (eC71 a1)]⟩ h0 ?_
      exact Jj1 true H
  · replace H := iF c1 H
    rw [neT c1]
    refine goK hT 37 (K30 110 1) ⟨66, [(2, .ptr 0 0 0 0), (3, .ptr 1 0 0 0), (47, .b true)], [.box 71 (eC71 a0), .box 71 (eC71 a1)]⟩ ?_
    refine cutK [0, 1] ⟨66, [(2, .ptr 0 0 0 0), (3, .ptr 1 0 0 0), (47, .b true)], [.box 71 (eC71 a0), .box 71 (eC71 a1)]⟩ h0 ?_
    exact Jj1 true H


theorem splicelaw20_MerkleNil.says {t1 : Bool} (a0 : Int) (a1 : List api_Pair) (a2 : api_Cell) {r : Bool} (H : splicelaw20_MerkleNil a0 a1 a2 = some r) : Says Try.prog 7 [] [.i a0, .d (eL42 t1 a1), .d (eG48 a2)] [] (.b r) := by
  refine says_of Try.func7 rfl (nt := 122) rfl (Nat.le_of_ble_eq_true rfl) fun X hP h0 hX => ?_
  have hT : TabOk X.P T := hP ▸ tok
  have hf : X.P.funcs[7]? = some Try.f7 := hP ▸ Try.func7
  refine goK hT 11 (K7 1110 0) ⟨122, [(0, .i a0), (1, .d (eL42 t1 a1)), (5, .ptr 0 0 0 0), (7, .d .np)], [.box 48 (eC48 a2)]⟩ ?_
  obtain ⟨v1, h1, H⟩ := ibC H
  cases q2 : v1.1 with
  | none =>
      rw [q2] at H
      replace H := ioptN H
      have Sq2 := merkle_New.says (t0 := true) ([] : List api_Pair) h1
      rw [q2] at Sq2
      refine ak_callP (avs := [.ns]) (dst := some 19) (k' := (K7 1110 1)) [0, 1, 5, 7, 19] [] hP enters_10 (Sq2) (by kernel_rfl) (hands_none _) (.cons (.nil _ _) .nil) (st' := ⟨122, [(0, .i a0), (1, .d (eL42 t1 a1)), (5, .ptr 0 0 0 0), (7, .d .np), (19, .tup [.d .np, .i v1.2])], [.box 48 (eC48 a2)]⟩) (by kernel_rfl) ?_
      refine goK hT 9 (K7 11110 1) ⟨122, [(0, .i a0), (1, .d (eL42 t1 a1)), (5, .ptr 0 0 0 0), (7, .d .np), (8, .d .np), (9, .i v1.2), (23, .d (eL42 t1 a1))], [.box 48 (eC48 a2)]⟩ ?_
      obtain ⟨v3, h3, H⟩ := ibC H
      cases q4 : v3.1 with
      | none =>
          rw [q4] at H
          replace H := ioptN H
          have Jj1 : (splicelaw20_MerkleNil.j1) = some r → AK X 7 ((K7 111110 1)) (Back X [] (.b r)) ⟨122, [(0, .i a0), (5, .ptr 0 0 0 0), (7, .d .np), (8, .d .np), (10, .d .np), (11, .i v3.2), (37, .b true)], [.box 48 (eC48 a2)]⟩ := by
            intro H
            refine goK hT 3 (K7 111110100 0) ⟨122, [], [.box 48 (eC48 a2)]⟩ ?_
            obtain ⟨v5, h7, H⟩ := ibC H
            refine ak_callP (avs := []) (dst := some 38) (k' := (K7 111110100 1)) [38] [] hP enters_12 (splicelaw20_awake.says h7) (by kernel_rfl) (hands_none _) .nil (st' := ⟨122, [(38, .b v5)], [.box 48 (eC48 a2)]⟩) (by kernel_rfl) ?_
            refine goK hT 2 (K7 11111010 1) ⟨122, [(6, .b v5)], [.box 48 (eC48 a2)]⟩ ?_
            obtain rfl := retC H
            exact ak_ret hf hX (av := .b v5) (by kernel_rfl) [] (sel_of_eq (by kernel_rfl)) (by decide) (by rw [h0]; rfl) (by kernel_rfl) (fun _ h => all_nil h) (.d (.v _))
          have Sq4 := merkle_New.says (t0 := t1) a1 h3
          rw [q4] at Sq4
          refine ak_callP (avs := [.d (eL42 t1 a1)]) (dst := some 24) (k' := (K7 11110 2)) [0, 1, 5, 7, 8, 9, 24] [] hP enters_10 (Sq4) (by kernel_rfl) (hands_none _) (.cons (pass_d _) .nil) (st' := ⟨122, [(0, .i a0), (1, .d (eL42 t1 a1)), (5, .ptr 0 0 0 0), (7, .d .np), (8, .d .np), (9, .i v1.2), (24, .tup [.d .np, .i v3.2])], [.box 48 (eC48 a2)]⟩) (by kernel_rfl) ?_
          refine goK hT 10 (K7 1111100 1) ⟨122, [(0, .i a0), (5, .ptr 0 0 0 0), (7, .d .np), (8, .d .np), (9, .i v1.2), (10, .d .np), (11, .i v3.2), (27, .d (eL42 t1 a1))], [.box 48 (eC48 a2)]⟩ ?_
          refine ak_callP (avs := [.d (eL42 t1 a1)]) (dst := some 28) (k' := (K7 1111100 2)) [0, 5, 7, 8, 9, 10, 11, 28] [] hP enters_11 (splicelaw20_few.says (t0 := t1) a1) (by kernel_rfl) (hands_none _) (.cons (pass_d _) .nil) (st' := ⟨122, [(0, .i a0), (5, .ptr 0 0 0 0), (7, .d .np), (8, .d .np), (9, .i v1.2), (10, .d .np), (11, .i v3.2), (28, .b (splicelaw20_few a1))], [.box 48 (eC48 a2)]⟩) (by kernel_rfl) ?_
          refine goK hT 2 (K7 1111100 4) ⟨122, [(0, .i a0), (5, .ptr 0 0 0 0), (7, .d .np), (8, .d .np), (9, .i v1.2), (10, .d .np), (11, .i v3.2), (30, .b (!(splicelaw20_few a1)))], [.box 48 (eC48 a2)]⟩ ?_
          by_cases c5 : (splicelaw20_few a1) = true
          · replace H := iT c5 H
            rw [c5]
            refine goK hT 4 (K7 1111100 8) ⟨122, [(0, .i a0), (5, .ptr 0 0 0 0), (7, .d .np), (8, .d .np), (10, .d .np), (11, .i v3.2), (34, .b (v1.2 != 0))], [.box 48 (eC48 a2)]⟩ ?_
            by_cases c6 : v1.2 = 0
            · replace H := iT c6 H
              rw [neF c6]
              refine goK hT 4 (K7 111110 1) ⟨122, [(0, .i a0), (5, .ptr 0 0 0 0), (7, .d .np), (8, .d .np), (10, .d .np), (11, .i v3.2), (37, .b true)], [.box 48 (eC48 a2)]⟩ ?_
              refine cutK [0] ⟨122, [(0, .i a0), (5, .ptr 0 0 0 0), (7, .d .np), (8, .d .np), (10, .d .np), (11, .i v3.2), (37, .b true)], [.box 48 (eC48 a2)]⟩ h0 ?_
              exact Jj1 H
            · replace H := iF c6 H
              rw [neT c6]
              refine goK hT 4 (K7 111110 1) ⟨122, [(0, .i a0), (5, .ptr 0 0 0 0), (7, .d .np), (8, .d .np), (10, .d .np), (11, .i v3.2), (37, .b true)], [.box 48 (eC48 a2)]⟩ ?_
              refine cutK [0] ⟨122, [(0, .i a0), (5, .ptr 0 0 0 0), (7, .d .np), (8, .d .np), (10, .d .np), (11, .i v3.2), (37, .b true)], [.box 48 (eC48 a2)]⟩ h0 ?_
              exact Jj1 H
          · replace H := iF c5 H
            rw [boF c5]
            refine goK hT 8 (K7 111110 1) ⟨122, [(0, .i a0), (5, .ptr 0 0 0 0), (7, .d .np), (8, .d .np), (10, .d .np), (11, .i v3.2), (37, .b true)], [.box 48 (eC48 a2)]⟩ ?_
            refine cutK [0] ⟨122, [(0, .i a0), (5, .ptr 0 0 0 0), (7, .d .np), (8, .d .np), (10, .d .np), (11, .i v3.2), (37, .b true)], [.box 48 (eC48 a2)]⟩ h0 ?_
            exact Jj1 H
      | some v4 =>
          rw [q4] at H
          replace H := ioptS H
          have Jj2 : (splicelaw20_MerkleNil.j2) = some r → AK X 7 ((K7 111110 1)) (Back X [] (.b r)) ⟨122, [(0, .i a0), (5, .ptr 0 0 0 0), (7, .d .np), (8, .d .np), (10, .ptr 1 0 0 0), (11, .i v3.2), (37, .b true)], [.box 48 (eC48 a2), eB91 v4]⟩ := by
            intro H
            refine goK hT 3 (K7 111110100 0) ⟨122, [], [.box 48 (eC48 a2), eB91 v4]⟩ ?_
            obtain ⟨v6, h10, H⟩ := ibC H
            refine ak_callP (avs := []) (dst := some 38) (k' := (K7 111110100 1)) [38] [] hP enters_12 (splicelaw20_awake.says h10) (by kernel_rfl) (hands_none _) .nil (st' := ⟨122, [(38, .b v6)], [.box 48 (eC48 a2), eB91 v4]⟩) (by kernel_rfl) ?_
            refine goK hT 2 (K7 11111010 1) ⟨122, [(6, .b v6)], [.box 48 (eC48 a2), eB91 v4]⟩ ?_
            obtain rfl := retC H
            exact ak_ret hf hX (av := .b v6) (by kernel_rfl) [] (sel_of_eq (by kernel_rfl)) (by decide) (by rw [h0]; rfl) (by kernel_rfl) (fun _ h => all_nil h) (.d (.v _))
          have Sq4 := merkle_New.says (t0 := t1) a1 h3
          rw [q4] at Sq4
          refine ak_callP (avs := [.d (eL42 t1 a1)]) (dst := some 24) (k' := (K7 11110 2)) [0, 1, 5, 7, 8, 9, 24] [] hP enters_10 (Sq4) (by kernel_rfl) (hands_none _) (.cons (pass_d _) .nil) (st' := ⟨122, [(0, .i a0), (1, .d (eL42 t1 a1)), (5, .ptr 0 0 0 0), (7, .d .np), (8, .d .np), (9, .i v1.2), (24, .tup [.ptr 1 0 0 0, .i v3.2])], [.box 48 (eC48 a2), eB91 v4]⟩) (by kernel_rfl) ?_
          refine goK hT 10 (K7 1111100 1) ⟨122, [(0, .i a0), (5, .ptr 0 0 0 0), (7, .d .np), (8, .d .np), (9, .i v1.2), (10, .ptr 1 0 0 0), (11, .i v3.2), (27, .d (eL42 t1 a1))], [.box 48 (eC48 a2), eB91 v4]⟩ ?_
          refine ak_callP (avs := [.d (eL42 t1 a1)]) (dst := some 28) (k' := (K7 1111100 2)) [0, 5, 7, 8, 9, 10, 11, 28] [] hP enters_11 (splicelaw20_few.says (t0 := t1) a1) (by kernel_rfl) (hands_none _) (.cons (pass_d _) .nil) (st' := ⟨122, [(0, .i a0), (5, .ptr 0 0 0 0), (7, .d .np), (8, .d .np), (9, .i v1.2), (10, .ptr 1 0 0 0), (11, .i v3.2), (28, .b (splicelaw20_few a1))], [.box 48 (eC48 a2), eB91 v4]⟩) (by kernel_rfl) ?_
          refine goK hT 2 (K7 1111100 4) ⟨122, [(0, .i a0), (5, .ptr 0 0 0 0), (7, .d .np), (8, .d .np), (9, .i v1.2), (10, .ptr 1 0 0 0), (11, .i v3.2), (30, .b (!(splicelaw20_few a1)))], [.box 48 (eC48 a2), eB91 v4]⟩ ?_
          by_cases c8 : (splicelaw20_few a1) = true
          · replace H := iT c8 H
            rw [c8]
            refine goK hT 4 (K7 1111100 8) ⟨122, [(0, .i a0), (5, .ptr 0 0 0 0), (7, .d .np), (8, .d .np), (10, .ptr 1 0 0 0), (11, .i v3.2), (34, .b (v1.2 != 0))], [.box 48 (eC48 a2), eB91 v4]⟩ ?_
            by_cases c9 : v1.2 = 0
            · replace H := iT c9 H
              rw [neF c9]
              refine goK hT 4 (K7 111110 1) ⟨122, [(0, .i a0), (5, .ptr 0 0 0 0), (7, .d .np), (8, .d .np), (10, .ptr 1 0 0 0), (11, .i v3.2), (37, .b true)], [.box 48 (eC48 a2), eB91 v4]⟩ ?_
              refine cutK [0, 1] ⟨122, [(0, .i a0), (5, .ptr 0 0 0 0), (7, .d .np), (8, .d .np), (10, .ptr 1 0 0 0), (11, .i v3.2), (37, .b true)], [.box 48 (eC48 a2), eB91 v4]⟩ h0 ?_
              exact Jj2 H
            · replace H := iF c9 H
              rw [neT c9]
              refine goK hT 4 (K7 111110 1) ⟨122, [(0, .i a0), (5, .ptr 0 0 0 0), (7, .d .np), (8, .d .np), (10, .ptr 1 0 0 0), (11, .i v3.2), (37, .b true)], [.box 48 (eC48 a2), eB91 v4]⟩ ?_
              refine cutK [0, 1] ⟨122, [(0, .i a0), (5, .ptr 0 0 0 0), (7, .d .np), (8, .d .np), (10, .ptr 1 0 0 0), (11, .i v3.2), (37, .b true)], [.box 48 (eC48 a2), eB91 v4]⟩ h0 ?_
              exact Jj2 H
          · replace H := iF c8 H
            rw [boF c8]
            refine goK hT 8 (K7 111110 1) ⟨122, [(0, .i a0), (5, .ptr 0 0 0 0), (7, .d .np), (8, .d .np), (10, .ptr 1 0 0 0), (11, .i v3.2), (37, .b true)], [.box 48 (eC48 a2), eB91 v4]⟩ ?_
            refine cutK [0, 1] ⟨122, [(0, .i a0), (5, .ptr 0 0 0 0), (7, .d .np), (8, .d .np), (10, .ptr 1 0 0 0), (11, .i v3.2), (37, .b true)], [.box 48 (eC48 a2), eB91 v4]⟩ h0 ?_
            exact Jj2 H
  | some v2 =>
      rw [q2] at H
      replace H := ioptS H
      have Sq2 := merkle_New.says (t0 := true) ([] : List api_Pair) h1
      rw [q2] at Sq2
      refine ak_callP (avs := [.ns]) (dst := some 19) (k' := (K7 1110 1)) [0, 1, 5, 7, 19] [] hP enters_10 (Sq2) (by kernel_rfl) (hands_none _) (.cons (.nil _ _) .nil) (st' := ⟨122, [(0, .i a0), (1, .d (eL42 t1 a1)), (5, .ptr 0 0 0 0), (7, .d .np), (19, .tup [.ptr 1 0 0 0, .i v1.2])], [.box 48 (eC48 a2), eB91 v2]⟩) (by kernel_rfl) ?_
      refine goK hT 9 (K7 11110 1) ⟨122, [(0, .i a0), (1, .d (eL42 t1 a1)), (5, .ptr 0 0 0 0), (7, .d .np), (8, .ptr 1 0 0 0), (9, .i v1.2), (23, .d (eL42 t1 a1))], [.box 48 (eC48 a2), eB91 v2]⟩ ?_
      obtain ⟨v7, h11, H⟩ := ibC H
      cases q12 : v7.1 with
      | none =>
          rw [q12] at H
          replace H := ioptN H
          have Jj3 : ∀ (y3_37 : Bool), (splicelaw20_MerkleNil.j3 a0 a2 v2 v7 y3_37) = some r → AK X 7 ((K7 111110 1)) (Back X [] (.b r)) ⟨122, [(0, .i a0), (5, .ptr 0 0 0 0), (7, .d .np), (8, .ptr 1 0 0 0), (10, .d .np), (11, .i v7.2), (37, .b y3_37)], [.box 48 (eC48 a2), eB91 v2]⟩ := by
            intro y3_37 H
            by_cases c15 : y3_37 = true
            · replace H := iT c15 H
              rw [c15]
              refine goK hT 3 (K7 111110100 0) ⟨122, [], [.box 48 (eC48 a2), eB91 v2]⟩ ?_
              obtain ⟨v9, h16, H⟩ := ibC H
              refine ak_callP (avs := []) (dst := some 38) (k' := (K7 111110100 1)) [38] [] hP enters_12 (splicelaw20_awake.says h16) (by kernel_rfl) (hands_none _) .nil (st' := ⟨122, [(38, .b v9)], [.box 48 (eC48 a2), eB91 v2]⟩) (by kernel_rfl) ?_
              refine goK hT 2 (K7 11111010 1) ⟨122, [(6, .b v9)], [.box 48 (eC48 a2), eB91 v2]⟩ ?_
              obtain rfl := retC H
              exact ak_ret hf hX (av := .b v9) (by kernel_rfl) [] (sel_of_eq (by kernel_rfl)) (by decide) (by rw [h0]; rfl) (by kernel_rfl) (fun _ h => all_nil h) (.d (.v _))
            · replace H := iF c15 H
              rw [boF c15]
              refine goK hT 2 (K7 11111 1) ⟨122, [(0, .i a0), (5, .ptr 0 0 0 0), (7, .d .np), (8, .ptr 1 0 0 0), (10, .d .np), (11, .i v7.2)], [.box 48 (eC48 a2), eB91 v2]⟩ ?_
              refine goK hT 3 (K7 1111110 1) ⟨122, [(0, .i a0), (5, .ptr 0 0 0 0), (7, .d .np), (8, .ptr 1 0 0 0), (10, .d .np), (11, .i v7.2), (40, .d .np)], [.box 48 (eC48 a2), eB91 v2]⟩ ?_
              refine ak_callP (avs := [.d .np, .i 0, .i 0]) (dst := some 41) (k' := (K7 1111110 2)) [0, 5, 7, 8, 10, 11, 41] [] hP enters_23 (merkle_Tree_Node_n0.says 0 0) (by kernel_rfl) (hands_none _) (.cons (pass_d _) (.cons (pass_d _) (.cons (pass_d _) .nil))) (st' := ⟨122, [(0, .i a0), (5, .ptr 0 0 0 0), (7, .d .np), (8, .ptr 1 0 0 0), (10, .d .np), (11, .i v7.2), (41, .tup [.n .u32 ((merkle_Tree_Node_n0 0 0).1), .i ((merkle_Tree_Node_n0 0 0).2)])], [.box 48 (eC48 a2), eB91 v2]⟩) (by kernel_rfl) ?_
              obtain ⟨v10, h17, H⟩ := idC H
              rw [← h17]
              refine goK hT 10 (K7 11111110 2) ⟨122, [(0, .i a0), (5, .ptr 0 0 0 0), (7, .d .np), (8, .ptr 1 0 0 0), (10, .d .np), (11, .i v7.2), (13, .i v10.2), (45, .d .np), (46, .i a0)], [.box 48 (eC48 a2), eB91 v2]⟩ ?_
              refine ak_callP (avs := [.d .np, .i a0]) (dst := some 47) (k' := (K7 11111110 3)) [0, 5, 7, 8, 10, 11, 13, 47] [] hP enters_24 (merkle_Tree_Leaf_n0.says a0) (by kernel_rfl) (hands_none _) (.cons (pass_d _) (.cons (pass_d _) .nil)) (st' := ⟨122, [(0, .i a0), (5, .ptr 0 0 0 0), (7, .d .np), (8, .ptr 1 0 0 0), (10, .d .np), (11, .i v7.2), (13, .i v10.2), (47, .tup [.n .u32 ((merkle_Tree_Leaf_n0 a0).1), .i ((merkle_Tree_Leaf_n0 a0).2)])], [.box 48 (eC48 a2), eB91 v2]⟩) (by kernel_rfl) ?_
              obtain ⟨v11, h18, H⟩ := idC H
              rw [← h18]
              refine goK hT 10 (K7 111111110 2) ⟨122, [(0, .i a0), (5, .ptr 0 0 0 0), (7, .d .np), (8, .ptr 1 0 0 0), (10, .d .np), (11, .i v7.2), (13, .i v10.2), (15, .i v11.2), (51, .d .np), (52, .i a0)], [.box 48 (eC48 a2), eB91 v2]⟩ ?_
              refine ak_callP (avs := [.d .np, .i a0]) (dst := some 53) (k' := (K7 111111110 3)) [0, 5, 7, 8, 10, 11, 13, 15, 53] [] hP enters_28 (merkle_Tree_Prove_n0.says a0) (by kernel_rfl) (hands_none _) (.cons (pass_d _) (.cons (pass_d _) .nil)) (st' := ⟨122, [(0, .i a0), (5, .ptr 0 0 0 0), (7, .d .np), (8, .ptr 1 0 0 0), (10, .d .np), (11, .i v7.2), (13, .i v10.2), (15, .i v11.2), (53, .tup [.own 2 1 0 (((merkle_Tree_Prove_n0 a0).1).length), .i ((merkle_Tree_Prove_n0 a0).2)])], [.box 48 (eC48 a2), eB91 v2, eR37 ((merkle_Tree_Prove_n0 a0).1)]⟩) (by kernel_rfl) ?_
              obtain ⟨v12, h19, H⟩ := idC H
              have Jj4 : ∀ (y4_91 : Bool), (splicelaw20_MerkleNil.j4 v2 v7 y4_91) = some r → AK X 7 ((K7 1111111110 1)) (Back X [] (.b r)) ⟨122, [(7, .d .np), (8, .ptr 0 0 0 0), (10, .d .np), (11, .i v7.2), (91, .b y4_91)], [eB91 v2]⟩ := by
                intro y4_91 H
                by_cases c29 : y4_91 = true
                · replace H := iT c29 H
                  rw [c29]
                  refine goK hT 5 (K7 111111111010 1) ⟨122, [(6, .b false)], [eB91 v2]⟩ ?_
                  obtain rfl := retC H
                  exact ak_ret hf hX (av := .b false) (by kernel_rfl) [] (sel_of_eq (by kernel_rfl)) (by decide) (by rw [h0]; rfl) (by kernel_rfl) (fun _ h => all_nil h) (.d (.v _))
                · replace H := iF c29 H
                  rw [boF c29]
                  refine goK hT 2 (K7 111111111 1) ⟨122, [(7, .d .np), (8, .ptr 0 0 0 0), (10, .d .np), (11, .i v7.2)], [eB91 v2]⟩ ?_
                  refine goK hT 6 (K7 11111111110 1) ⟨122, [(7, .d .np), (8, .ptr 0 0 0 0), (10, .d .np), (93, .b (v7.2 != 0))], [eB91 v2]⟩ ?_
                  by_cases c30 : v7.2 = 0
                  · replace H := iT c30 H
                    rw [neF c30]
                    refine goK hT 2 (K7 1111111111 1) ⟨122, [(7, .d .np), (8, .ptr 0 0 0 0), (10, .d .np)], [eB91 v2]⟩ ?_
                    refine goK hT 2 (K7 111111111110 0) ⟨122, [(7, .d .np), (8, .ptr 0 0 0 0), (10, .d .np)], [eB91 v2]⟩ ?_
                    obtain ⟨v17, h32, H⟩ := ibC H
                    have Jj5 : ∀ (y5_6 : Bool), (splicelaw20_MerkleNil.j5 y5_6) = some r → AK X 7 ((K7 11111111111 1)) (Back X [] (.b r)) ⟨122, [(6, .b y5_6)], []⟩ := by
                      intro y5_6 H
                      obtain rfl := retC H
                      exact ak_ret hf hX (av := .b y5_6) (by kernel_rfl) [] (sel_of_eq (by kernel_rfl)) (by decide) (by rw [h0]; rfl) (by kernel_rfl) (fun _ h => all_nil h) (.d (.v _))
                    refine ak_callP (avs := []) (dst := some 95) (k' := (K7 111111111110 1)) [7, 8, 10, 95] [] hP enters_12 (splicelaw20_awake.says h32) (by kernel_rfl) (hands_none _) .nil (st' := ⟨122, [(7, .d .np), (8, .ptr 0 0 0 0), (10, .d .np), (95, .b v17)], [eB91 v2]⟩) (by kernel_rfl) ?_
                    refine goK hT 1 (K7 111111111110 2) ⟨122, [(7, .d .np), (8, .ptr 0 0 0 0), (10, .d .np), (96, .b v17)], [eB91 v2]⟩ ?_
                    by_cases c33 : v17 = true
                    · replace H := iT c33 H
                      rw [c33]
                      refine goK hT 2 (K7 111111111110 4) ⟨122, [(8, .ptr 0 0 0 0), (10, .d .np), (96, .b true), (97, .d .np), (98, .d .np)], [eB91 v2]⟩ ?_
                      obtain ⟨v18, h34, H⟩ := ibC H
                      refine ak_callP (avs := [.d .np, .d .np]) (dst := some 99) (k' := (K7 111111111110 5)) [8, 10, 96, 99] [] hP enters_14 (merkle_Diff_n01.says h34) (by kernel_rfl) (hands_none _) (.cons (pass_d _) (.cons (pass_d _) .nil)) (st' := ⟨122, [(8, .ptr 0 0 0 0), (10, .d .np), (96, .b true), (99, .own 1 2 0 v18.length)], [eB91 v2, eR44 v18]⟩) (by kernel_rfl) ?_
                      obtain ⟨v19, h35, H⟩ := ibC H
                      refine ak_callP (avs := [.own 1 2 0 v18.length]) (dst := some 100) (k' := (K7 111111111110 6)) [8, 10, 96, 100] [] hP enters_16 (splicelaw03_Refs.says (t0 := false) v18 h35) (by kernel_rfl) (hands_none _) (.cons (.lend (ty := 44) (by kernel_rfl) rfl) .nil) (st' := ⟨122, [(8, .ptr 0 0 0 0), (10, .d .np), (96, .b true), (100, .own 2 2 0 v19.length)], [eB91 v2, eR44 v18, eR69 v19]⟩) (by kernel_rfl) ?_
                      refine goK hT 2 (K7 111111111110 8) ⟨122, [(96, .b true), (100, .own 2 2 0 v19.length), (101, .ptr 0 0 0 0), (102, .d .np)], [eB91 v2, eR44 v18, eR69 v19]⟩ ?_
                      obtain ⟨v20, h36, H⟩ := ibC H
                      refine ak_callP (avs := [.ptr 0 0 0 0, .d .np]) (dst := some 103) (k' := (K7 111111111110 9)) [96, 100, 103] [0] hP enters_14 (merkle_Diff_n1.says v2 h36) (by kernel_rfl) (hands_one rfl rfl) (.cons (.same (.ptr 0 0 0 0)) (.cons (pass_d _) .nil)) (st' := ⟨122, [(96, .b true), (100, .own 2 2 0 v19.length), (103, .own 3 2 0 v20.length)], [eB91 v2, eR44 v18, eR69 v19, eR44 v20]⟩) (by kernel_rfl) ?_
                      obtain ⟨v21, h37, H⟩ := ibC H
                      refine ak_callP (avs := [.own 3 2 0 v20.length]) (dst := some 104) (k' := (K7 111111111110 10)) [96, 100, 104] [] hP enters_16 (splicelaw03_Refs.says (t0 := false) v20 h37) (by kernel_rfl) (hands_none _) (.cons (.lend (ty := 44) (by kernel_rfl) rfl) .nil) (st' := ⟨122, [(96, .b true), (100, .own 2 2 0 v19.length), (104, .own 4 2 0 v21.length)], [eB91 v2, eR44 v18, eR69 v19, eR44 v20, eR69 v21]⟩) (by kernel_rfl) ?_
                      obtain ⟨v22, h38, H⟩ := ibC H
                      refine ak_callP (avs := [.own 2 2 0 v19.length, .own 4 2 0 v21.length]) (dst := some 105) (k' := (K7 111111111110 11)) [96, 105] [] hP enters_15 (spliceref03_Same.says (t0 := false) (t1 := false) v19 v21 h38) (by kernel_rfl) (hands_none _) (.cons (.lend (ty := 69) (by kernel_rfl) rfl) (.cons (.lend (ty := 69) (by kernel_rfl) rfl) .nil)) (st' := ⟨122, [(96, .b true), (105, .b v22)], [eB91 v2, eR44 v18, eR69 v19, eR44 v20, eR69 v21]⟩) (by kernel_rfl) ?_
                      refine goK hT 2 (K7 111111111110 13) ⟨122, [(107, .b v22)], [eB91 v2, eR44 v18, eR69 v19, eR44 v20, eR69 v21]⟩ ?_
                      by_cases c39 : v22 = true
                      · replace H := iT c39 H
                        rw [c39]
                        obtain ⟨v23, h40, H⟩ := ibC H
                        refine ak_callP (avs := [.ns]) (dst := some 108) (k' := (K7 111111111110 14)) [107, 108] [] hP enters_29 (spliceref20_Above.says (t0 := true) ([] : List Int) h40) (by kernel_rfl) (hands_none _) (.cons (.nil _ _) .nil) (st' := ⟨122, [(107, .b true), (108, .own 5 1 0 v23.length)], [eB91 v2, eR44 v18, eR69 v19, eR44 v20, eR69 v21, eR37 v23]⟩) (by kernel_rfl) ?_
                        refine goK hT 4 (K7 111111111110 18) ⟨122, [(112, .b ((v23.length : Int) == 0))], [eB91 v2, eR44 v18, eR69 v19, eR44 v20, eR69 v21, eR37 v23]⟩ ?_
                        by_cases c41 : (v23.length : Int) = 0
                        · replace H := iT c41 H
                          rw [eqT c41]
                          obtain ⟨v24, h42, H⟩ := ibC H
                          refine ak_callP (avs := [.ns]) (dst := some 113) (k' := (K7 111111111110 19)) [112, 113] [] hP enters_22 (splicelaw05_Refs.says (t0 := true) ([] : List api_Pair) h42) (by kernel_rfl) (hands_none _) (.cons (.nil _ _) .nil) (st' := ⟨122, [(112, .b true), (113, .own 6 2 0 v24.length)], [eB91 v2, eR44 v18, eR69 v19, eR44 v20, eR69 v21, eR37 v23, eR94 v24]⟩) (by kernel_rfl) ?_
                          refine goK hT 4 (K7 111111111110 23) ⟨122, [(117, .b ((v24.length : Int) == 0))], [eB91 v2, eR44 v18, eR69 v19, eR44 v20, eR69 v21, eR37 v23, eR94 v24]⟩ ?_
                          by_cases c43 : (v24.length : Int) = 0
                          · replace H := iT c43 H
                            rw [eqT c43]
                            refine goK hT 2 (K7 111111111110 25) ⟨122, [(117, .b true), (118, .d (.agg [.i 0, .i 0, .i 0, .ns, .i 0, .i 0, .i 0])), (119, .d (.agg [.i 0, .i 0, .i 0, .ns, .i 0, .i 0, .i 0]))], [eB91 v2, eR44 v18, eR69 v19, eR44 v20, eR69 v21, eR37 v23, eR94 v24]⟩ ?_
                            obtain ⟨v25, h44, H⟩ := ibC H
                            refine ak_callP (avs := [.d (.agg [.i 0, .i 0, .i 0, .ns, .i 0, .i 0, .i 0]), .d (.agg [.i 0, .i 0, .i 0, .ns, .i 0, .i 0, .i 0])]) (dst := some 120) (k' := (K7 111111111110 26)) [117, 120] [] hP enters_30 (spliceref04_Same.says (⟨0, 0, 0, [], (⟨0, 0⟩ : spliceref03_Span), 0⟩ : spliceref04_Mut) (⟨0, 0, 0, [], (⟨0, 0⟩ : spliceref03_Span), 0⟩ : spliceref04_Mut) h44) (by kernel_rfl) (hands_none _) (.cons (.aggd (.cons (pass_d _) (.cons (pass_d _) (.cons (pass_d _) (.cons (.nil _ _) (.cons (pass_d _) (.cons (pass_d _) (.cons (pass_d _) .nil)))))))) (.cons (.aggd (.cons (pass_d _) (.cons (pass_d _) (.cons (pass_d _) (.cons (.nil _ _) (.cons (pass_d _) (.cons (pass_d _) (.cons (pass_d _) .nil)))))))) .nil)) (st' := ⟨122, [(117, .b true), (120, .b v25)], [eB91 v2, eR44 v18, eR69 v19, eR44 v20, eR69 v21, eR37 v23, eR94 v24]⟩) (by kernel_rfl) ?_
                            refine goK hT 3 (K7 11111111111 1) ⟨122, [(6, .b v25)], [eB91 v2, eR44 v18, eR69 v19, eR44 v20, eR69 v21, eR37 v23, eR94 v24]⟩ ?_
                            refine cutK [] ⟨122, [(6, .b v25)], []⟩ h0 ?_
                            exact Jj5 v25 H
                          · replace H := iF c43 H
                            rw [eqF c43]
                            refine goK hT 6 (K7 11111111111 1) ⟨122, [(6, .b false)], [eB91 v2, eR44 v18, eR69 v19, eR44 v20, eR69 v21, eR37 v23, eR94 v24]⟩ ?_
                            refine cutK [] ⟨122, [(6, .b false)], []⟩ h0 ?_
                            exact Jj5 false H
                        · replace H := iF c41 H
                          rw [eqF c41]
                          refine goK hT 11 (K7 11111111111 1) ⟨122, [(6, .b false)], [eB91 v2, eR44 v18, eR69 v19, eR44 v20, eR69 v21, eR37 v23]⟩ ?_
                          refine cutK [] ⟨122, [(6, .b false)], []⟩ h0 ?_
                          exact Jj5 false H
                      · replace H := iF c39 H
                        rw [boF c39]
                        refine goK hT 16 (K7 11111111111 1) ⟨122, [(6, .b false)], [eB91 v2, eR44 v18, eR69 v19, eR44 v20, eR69 v21]⟩ ?_
                        refine cutK [] ⟨122, [(6, .b false)], []⟩ h0 ?_
                        exact Jj5 false H
                    · replace H := iF c33 H
                      rw [boF c33]
                      refine goK hT 27 (K7 11111111111 1) ⟨122, [(6, .b false)], [eB91 v2]⟩ ?_
                      refine cutK [] ⟨122, [(6, .b false)], []⟩ h0 ?_
                      exact Jj5 false H
                  · replace H := iF c30 H
                    rw [neT c30]
                    refine goK hT 3 (K7 11111111110100 0) ⟨122, [], [eB91 v2]⟩ ?_
                    obtain ⟨v16, h31, H⟩ := ibC H
                    refine ak_callP (avs := []) (dst := some 94) (k' := (K7 11111111110100 1)) [94] [] hP enters_12 (splicelaw20_awake.says h31) (by kernel_rfl) (hands_none _) .nil (st' := ⟨122, [(94, .b v16)], [eB91 v2]⟩) (by kernel_rfl) ?_
                    refine goK hT 2 (K7 1111111111010 1) ⟨122, [(6, .b v16)], [eB91 v2]⟩ ?_
                    obtain rfl := retC H
                    exact ak_ret hf hX (av := .b v16) (by kernel_rfl) [] (sel_of_eq (by kernel_rfl)) (by decide) (by rw [h0]; rfl) (by kernel_rfl) (fun _ h => all_nil h) (.d (.v _))
              rw [← h19]
              refine goK hT 12 (K7 11111111100 3) ⟨122, [(0, .i a0), (5, .ptr 0 0 0 0), (7, .d .np), (8, .ptr 1 0 0 0), (10, .d .np), (11, .i v7.2), (15, .i v11.2), (17, .i v12.2), (58, .b (v10.2 != 1))], [.box 48 (eC48 a2), eB91 v2, eR37 v12.1]⟩ ?_
              by_cases c20 : v10.2 = 1
              · replace H := iT c20 H
                rw [neF c20]
                refine goK hT 4 (K7 11111111100 7) ⟨122, [(0, .i a0), (5, .ptr 0 0 0 0), (7, .d .np), (8, .ptr 1 0 0 0), (10, .d .np), (11, .i v7.2), (17, .i v12.2), (62, .b (v11.2 != 1))], [.box 48 (eC48 a2), eB91 v2, eR37 v12.1]⟩ ?_
                by_cases c21 : v11.2 = 1
                · replace H := iT c21 H
                  rw [neF c21]
                  refine goK hT 4 (K7 11111111100 11) ⟨122, [(0, .i a0), (5, .ptr 0 0 0 0), (7, .d .np), (8, .ptr 1 0 0 0), (10, .d .np), (11, .i v7.2), (66, .b (v12.2 != 1))], [.box 48 (eC48 a2), eB91 v2, eR37 v12.1]⟩ ?_
                  by_cases c22 : v12.2 = 1
                  · replace H := iT c22 H
                    rw [neF c22]
                    refine goK hT 3 (K7 11111111100 14) ⟨122, [(0, .i a0), (7, .d .np), (8, .ptr 1 0 0 0), (10, .d .np), (11, .i v7.2), (66, .b false), (67, .d .np), (68, .i a0), (69, .d (eG48 a2))], [.box 48 (eC48 a2), eB91 v2, eR37 v12.1]⟩ ?_
                    refine ak_callP (avs := [.d .np, .i a0, .d (eG48 a2)]) (dst := some 70) (k' := (K7 11111111100 15)) [0, 7, 8, 10, 11, 66, 70] [] hP enters_25 (merkle_Tree_Set_n0.says a0 a2) (by kernel_rfl) (hands_none _) (.cons (pass_d _) (.cons (pass_d _) (.cons (pass_d _) .nil))) (st' := ⟨122, [(0, .i a0), (7, .d .np), (8, .ptr 1 0 0 0), (10, .d .np), (11, .i v7.2), (66, .b false), (70, .i (merkle_Tree_Set_n0 a0 a2))], [.box 48 (eC48 a2), eB91 v2, eR37 v12.1]⟩) (by kernel_rfl) ?_
                    refine goK hT 3 (K7 11111111100 18) ⟨122, [(0, .i a0), (7, .d .np), (8, .ptr 1 0 0 0), (10, .d .np), (11, .i v7.2), (73, .b ((merkle_Tree_Set_n0 a0 a2) != 1))], [.box 48 (eC48 a2), eB91 v2, eR37 v12.1]⟩ ?_
                    by_cases c23 : (merkle_Tree_Set_n0 a0 a2) = 1
                    · replace H := iT c23 H
                      rw [neF c23]
                      refine goK hT 2 (K7 11111111100 20) ⟨122, [(7, .d .np), (8, .ptr 1 0 0 0), (10, .d .np), (11, .i v7.2), (73, .b false), (74, .d .np), (75, .i a0)], [.box 48 (eC48 a2), eB91 v2, eR37 v12.1]⟩ ?_
                      refine ak_callP (avs := [.d .np, .i a0]) (dst := some 76) (k' := (K7 11111111100 21)) [7, 8, 10, 11, 73, 76] [] hP enters_26 (merkle_Tree_Get_n0.says a0) (by kernel_rfl) (hands_none _) (.cons (pass_d _) (.cons (pass_d _) .nil)) (st' := ⟨122, [(7, .d .np), (8, .ptr 1 0 0 0), (10, .d .np), (11, .i v7.2), (73, .b false), (76, .d (eG48 (merkle_Tree_Get_n0 a0)))], [.box 48 (eC48 a2), eB91 v2, eR37 v12.1]⟩) (by kernel_rfl) ?_
                      obtain ⟨v13, h24, H⟩ := idC H
                      rw [← h24]
                      refine goK hT 3 (K7 11111111100 24) ⟨122, [(7, .d .np), (8, .ptr 1 0 0 0), (10, .d .np), (11, .i v7.2), (79, .b v13.Some)], [.box 48 (eC48 a2), eB91 v2, eR37 v12.1]⟩ ?_
                      by_cases c25 : v13.Some = true
                      · replace H := iT c25 H
                        rw [c25]
                        refine goK hT 13 (K7 1111111110 1) ⟨122, [(7, .d .np), (8, .ptr 1 0 0 0), (10, .d .np), (11, .i v7.2), (91, .b true)], [.box 48 (eC48 a2), eB91 v2, eR37 v12.1]⟩ ?_
                        refine cutK [1] ⟨122, [(7, .d .np), (8, .ptr 0 0 0 0), (10, .d .np), (11, .i v7.2), (91, .b true)], [eB91 v2]⟩ h0 ?_
                        exact Jj4 true H
                      · replace H := iF c25 H
                        rw [boF c25]
                        refine goK hT 1 (K7 11111111100 25) ⟨122, [(7, .d .np), (8, .ptr 1 0 0 0), (10, .d .np), (11, .i v7.2), (79, .b false), (80, .d .np)], [.box 48 (eC48 a2), eB91 v2, eR37 v12.1]⟩ ?_
                        obtain ⟨v14, h26, H⟩ := ibC H
                        refine ak_callP (avs := [.d .np]) (dst := some 81) (k' := (K7 11111111100 26)) [7, 8, 10, 11, 79, 81] [] hP enters_18 (merkle_Tree_Root_n0.says h26) (by kernel_rfl) (hands_none _) (.cons (pass_d _) .nil) (st' := ⟨122, [(7, .d .np), (8, .ptr 1 0 0 0), (10, .d .np), (11, .i v7.2), (79, .b false), (81, .n .u32 v14)], [.box 48 (eC48 a2), eB91 v2, eR37 v12.1]⟩) (by kernel_rfl) ?_
                        refine goK hT 1 (K7 11111111100 27) ⟨122, [(7, .d .np), (8, .ptr 1 0 0 0), (10, .d .np), (11, .i v7.2), (79, .b false), (81, .n .u32 v14), (82, .ptr 1 0 0 0)], [.box 48 (eC48 a2), eB91 v2, eR37 v12.1]⟩ ?_
                        refine ak_callP (avs := [.ptr 1 0 0 0]) (dst := some 83) (k' := (K7 11111111100 28)) [7, 8, 10, 11, 79, 81, 83] [1] hP enters_18 (merkle_Tree_Root.says v2) (by kernel_rfl) (hands_one rfl rfl) (.cons (.same (.ptr 0 0 0 0)) .nil) (st' := ⟨122, [(7, .d .np), (8, .ptr 1 0 0 0), (10, .d .np), (11, .i v7.2), (79, .b false), (81, .n .u32 v14), (83, .n .u32 (merkle_Tree_Root v2))], [.box 48 (eC48 a2), eB91 v2, eR37 v12.1]⟩) (by kernel_rfl) ?_
                        refine goK hT 3 (K7 11111111100 31) ⟨122, [(7, .d .np), (8, .ptr 1 0 0 0), (10, .d .np), (11, .i v7.2), (86, .b (v14 != (merkle_Tree_Root v2)))], [.box 48 (eC48 a2), eB91 v2, eR37 v12.1]⟩ ?_
                        by_cases c27 : v14 = (merkle_Tree_Root v2)
                        · replace H := iT c27 H
                          rw [neF c27]
                          refine goK hT 1 (K7 11111111100 32) ⟨122, [(7, .d .np), (8, .ptr 1 0 0 0), (10, .d .np), (11, .i v7.2), (86, .b false), (87, .d .np)], [.box 48 (eC48 a2), eB91 v2, eR37 v12.1]⟩ ?_
                          obtain ⟨v15, h28, H⟩ := ibC H
                          refine ak_callP (avs := [.d .np]) (dst := some 88) (k' := (K7 11111111100 33)) [7, 8, 10, 11, 86, 88] [] hP enters_27 (merkle_Tree_Table_n0.says h28) (by kernel_rfl) (hands_none _) (.cons (pass_d _) .nil) (st' := ⟨122, [(7, .d .np), (8, .ptr 1 0 0 0), (10, .d .np), (11, .i v7.2), (86, .b false), (88, .own 3 2 0 v15.length)], [.box 48 (eC48 a2), eB91 v2, eR37 v12.1, eR42 v15]⟩) (by kernel_rfl) ?_
                          refine goK hT 4 (K7 1111111110 1) ⟨122, [(7, .d .np), (8, .ptr 1 0 0 0), (10, .d .np), (11, .i v7.2), (91, .b ((v15.length : Int) != 0))], [.box 48 (eC48 a2), eB91 v2, eR37 v12.1, eR42 v15]⟩ ?_
                          refine cutK [1] ⟨122, [(7, .d .np), (8, .ptr 0 0 0 0), (10, .d .np), (11, .i v7.2), (91, .b ((v15.length : Int) != 0))], [eB91 v2]⟩ h0 ?_
                          exact Jj4 ((v15.length : Int) != 0) H
                        · replace H := iF c27 H
                          rw [neT c27]
                          refine goK hT 6 (K7 1111111110 1) ⟨122, [(7, .d .np), (8, .ptr 1 0 0 0), (10, .d .np), (11, .i v7.2), (91, .b true)], [.box 48 (eC48 a2), eB91 v2, eR37 v12.1]⟩ ?_
                          refine cutK [1] ⟨122, [(7, .d .np), (8, .ptr 0 0 0 0), (10, .d .np), (11, .i v7.2), (91, .b true)], [eB91 v2]⟩ h0 ?_
                          exact Jj4 true H
                    · replace H := iF c23 H
                      rw [neT c23]
                      refine goK hT 19 (K7 1111111110 1) ⟨122, [(7, .d .np), (8, .ptr 1 0 0 0), (10, .d .np), (11, .i v7.2), (91, .b true)], [.box 48 (eC48 a2), eB91 v2, eR37 v12.1]⟩ ?_
                      refine cutK [1] ⟨122, [(7, .d .np), (8, .ptr 0 0 0 0), (10, .d .np), (11, .i v7.2), (91, .b true)], [eB91 v2]⟩ h0 ?_
                      exact Jj4 true H
                  · replace H := iF c22 H
                    rw [neT c22]
                    refine goK hT 26 (K7 1111111110 1) ⟨122, [(7, .d .np), (8, .ptr 1 0 0 0), (10, .d .np), (11, .i v7.2), (91, .b true)], [.box 48 (eC48 a2), eB91 v2, eR37 v12.1]⟩ ?_
                    refine cutK [1] ⟨122, [(7, .d .np), (8, .ptr 0 0 0 0), (10, .d .np), (11, .i v7.2), (91, .b true)], [eB91 v2]⟩ h0 ?_
                    exact Jj4 true H
                · replace H := iF c21 H
                  rw [neT c21]
                  refine goK hT 30 (K7 1111111110 1) ⟨122, [(7, .d .np), (8, .ptr 1 0 0 0), (10, .d .np), (11, .i v7.2), (91, .b true)], [.box 48 (eC48 a2), eB91 v2, eR37 v12.1]⟩ ?_
                  refine cutK [1] ⟨122, [(7, .d .np), (8, .ptr 0 0 0 0), (10, .d .np), (11, .i v7.2), (91, .b true)], [eB91 v2]⟩ h0 ?_
                  exact Jj4 true H
              · replace H := iF c20 H
                rw [neT c20]
                refine goK hT 34 (K7 1111111110 1) ⟨122, [(7, .d .np), (8, .ptr 1 0 0 0), (10, .d .np), (11, .i v7.2), (91, .b true)], [.box 48 (eC48 a2), eB91 v2, eR37 v12.1]⟩ ?_
                refine cutK [1] ⟨122, [(7, .d .np), (8, .ptr 0 0 0 0), (10, .d .np), (11, .i v7.2), (91, .b true)], [eB91 v2]⟩ h0 ?_
                exact Jj4 true H
          have Sq12 := merkle_New.says (t0 := t1) a1 h11
          rw [q12] at Sq12
          refine ak_callP (avs := [.d (eL42 t1 a1)]) (dst := some 24) (k' := (K7 11110 2)) [0, 1, 5, 7, 8, 9, 24] [] hP enters_10 (Sq12) (by kernel_rfl) (hands_none _) (.cons (pass_d _) .nil) (st' := ⟨122, [(0, .i a0), (1, .d (eL42 t1 a1)), (5, .ptr 0 0 0 0), (7, .d .np), (8, .ptr 1 0 0 0), (9, .i v1.2), (24, .tup [.d .np, .i v7.2])], [.box 48 (eC48 a2), eB91 v2]⟩) (by kernel_rfl) ?_
          refine goK hT 10 (K7 1111100 1) ⟨122, [(0, .i a0), (5, .ptr 0 0 0 0), (7, .d .np), (8, .ptr 1 0 0 0), (9, .i v1.2), (10, .d .np), (11, .i v7.2), (27, .d (eL42 t1 a1))], [.box 48 (eC48 a2), eB91 v2]⟩ ?_
          refine ak_callP (avs := [.d (eL42 t1 a1)]) (dst := some 28) (k' := (K7 1111100 2)) [0, 5, 7, 8, 9, 10, 11, 28] [] hP enters_11 (splicelaw20_few.says (t0 := t1) a1) (by kernel_rfl) (hands_none _) (.cons (pass_d _) .nil) (st' := ⟨122, [(0, .i a0), (5, .ptr 0 0 0 0), (7, .d .np), (8, .ptr 1 0 0 0), (9, .i v1.2), (10, .d .np), (11, .i v7.2), (28, .b (splicelaw20_few a1))], [.box 48 (eC48 a2), eB91 v2]⟩) (by kernel_rfl) ?_
          refine goK hT 2 (K7 1111100 4) ⟨122, [(0, .i a0), (5, .ptr 0 0 0 0), (7, .d .np), (8, .ptr 1 0 0 0), (9, .i v1.2), (10, .d .np), (11, .i v7.2), (30, .b (!(splicelaw20_few a1)))], [.box 48 (eC48 a2), eB91 v2]⟩ ?_
          by_cases c13 : (splicelaw20_few a1) = true
          · replace H := iT c13 H
            rw [c13]
            refine goK hT 4 (K7 1111100 8) ⟨122, [(0, .i a0), (5, .ptr 0 0 0 0), (7, .d .np), (8, .ptr 1 0 0 0), (10, .d .np), (11, .i v7.2), (34, .b (v1.2 != 0))], [.box 48 (eC48 a2), eB91 v2]⟩ ?_
            by_cases c14 : v1.2 = 0
            · replace H := iT c14 H
              rw [neF c14]
              refine goK hT 4 (K7 111110 1) ⟨122, [(0, .i a0), (5, .ptr 0 0 0 0), (7, .d .np), (8, .ptr 1 0 0 0), (10, .d .np), (11, .i v7.2), (37, .b false)], [.box 48 (eC48 a2), eB91 v2]⟩ ?_
              refine cutK [0, 1] ⟨122, [(0, .i a0), (5, .ptr 0 0 0 0), (7, .d .np), (8, .ptr 1 0 0 0), (10, .d .np), (11, .i v7.2), (37, .b false)], [.box 48 (eC48 a2), eB91 v2]⟩ h0 ?_
              exact Jj3 false H
            · replace H := iF c14 H
              rw [neT c14]
              refine goK hT 4 (K7 111110 1) ⟨122, [(0, .i a0), (5, .ptr 0 0 0 0), (7, .d .np), (8, .ptr 1 0 0 0), (10, .d .np), (11, .i v7.2), (37, .b true)], [.box 48 (eC48 a2), eB91 v2]⟩ ?_
              refine cutK [0, 1] ⟨122, [(0, .i a0), (5, .ptr 0 0 0 0), (7, .d .np), (8, .ptr 1 0 0 0), (10, .d .np), (11, .i v7.2), (37, .b true)], [.box 48 (eC48 a2), eB91 v2]⟩ h0 ?_
              exact Jj3 true H
          · replace H := iF c13 H
            rw [boF c13]
            refine goK hT 8 (K7 111110 1) ⟨122, [(0, .i a0), (5, .ptr 0 0 0 0), (7, .d .np), (8, .ptr 1 0 0 0), (10, .d .np), (11, .i v7.2), (37, .b true)], [.box 48 (eC48 a2), eB91 v2]⟩ ?_
            refine cutK [0, 1] ⟨122, [(0, .i a0), (5, .ptr 0 0 0 0), (7, .d .np), (8, .ptr 1 0 0 0), (10, .d .np), (11, .i v7.2), (37, .b true)], [.box 48 (eC48 a2), eB91 v2]⟩ h0 ?_
            exact Jj3 true H
      | some v8 =>
          rw [q12] at H
          replace H := ioptS H
          have Jj6 : ∀ (y6_37 : Bool), (splicelaw20_MerkleNil.j6 a0 a2 v2 v7 v8 y6_37) = some r → AK X 7 ((K7 111110 1)) (Back X [] (.b r)) ⟨122, [(0, .i a0), (5, .ptr 0 0 0 0), (7, .d .np), (8, .ptr 1 0 0 0), (10, .ptr 2 0 0 0), (11, .i v7.2), (37, .b y6_37)], [.box 48 (eC48 a2), eB91 v2, eB91 v8]⟩ := by
            intro y6_37 H
            by_cases c47 : y6_37 = true
            · replace H := iT c47 H
              rw [c47]
              refine goK hT 3 (K7 111110100 0) ⟨122, [], [.box 48 (eC48 a2), eB91 v2, eB91 v8]⟩ ?_
              obtain ⟨v26, h48, H⟩ := ibC H
              refine ak_callP (avs := []) (dst := some 38) (k' := (K7 111110100 1)) [38] [] hP enters_12 (splicelaw20_awake.says h48) (by kernel_rfl) (hands_none _) .nil (st' := ⟨122, [(38, .b v26)], [.box 48 (eC48 a2), eB91 v2, eB91 v8]⟩) (by kernel_rfl) ?_
              refine goK hT 2 (K7 11111010 1) ⟨122, [(6, .b v26)], [.box 48 (eC48 a2), eB91 v2, eB91 v8]⟩ ?_
              obtain rfl := retC H
              exact ak_ret hf hX (av := .b v26) (by kernel_rfl) [] (sel_of_eq (by kernel_rfl)) (by decide) (by rw [h0]; rfl) (by kernel_rfl) (fun _ h => all_nil h) (.d (.v _))
            · replace H := iF c47 H
              rw [boF c47]
              refine goK hT 2 (K7 11111 1) ⟨122, [(0, .i a0), (5, .ptr 0 0 0 0), (7, .d .np), (8, .ptr 1 0 0 0), (10, .ptr 2 0 0 0), (11, .i v7.2)], [.box 48 (eC48 a2), eB91 v2, eB91 v8]⟩ ?_
              refine goK hT 3 (K7 1111110 1) ⟨122, [(0, .i a0), (5, .ptr 0 0 0 0), (7, .d .np), (8, .ptr 1 0 0 0), (10, .ptr 2 0 0 0), (11, .i v7.2), (40, .d .np)], [.box 48 (eC48 a2), eB91 v2, eB91 v8]⟩ ?_
              refine ak_callP (avs := [.d .np, .i 0, .i 0]) (dst := some 41) (k' := (K7 1111110 2)) [0, 5, 7, 8, 10, 11, 41] [] hP enters_23 (merkle_Tree_Node_n0.says 0 0) (by kernel_rfl) (hands_none _) (.cons (pass_d _) (.cons (pass_d _) (.cons (pass_d _) .nil))) (st' := ⟨122, [(0, .i a0), (5, .ptr 0 0 0 0), (7, .d .np), (8, .ptr 1 0 0 0), (10, .ptr 2 0 0 0), (11, .i v7.2), (41, .tup [.n .u32 ((merkle_Tree_Node_n0 0 0).1), .i ((merkle_Tree_Node_n0 0 0).2)])], [.box 48 (eC48 a2), eB91 v2, eB91 v8]⟩) (by kernel_rfl) ?_
              obtain ⟨v27, h49, H⟩ := idC H
              rw [← h49]
              refine goK hT 10 (K7 11111110 2) ⟨122, [(0, .i a0), (5, .ptr 0 0 0 0), (7, .d .np), (8, .ptr 1 0 0 0), (10, .ptr 2 0 0 0), (11, .i v7.2), (13, .i v27.2), (45, .d .np), (46, .i a0)], [.box 48 (eC48 a2), eB91 v2, eB91 v8]⟩ ?_
              refine ak_callP (avs := [.d .np, .i a0]) (dst := some 47) (k' := (K7 11111110 3)) [0, 5, 7, 8, 10, 11, 13, 47] [] hP enters_24 (merkle_Tree_Leaf_n0.says a0) (by kernel_rfl) (hands_none _) (.cons (pass_d _) (.cons (pass_d _) .nil)) (st' := ⟨122, [(0, .i a0), (5, .ptr 0 0 0 0), (7, .d .np), (8, .ptr 1 0 0 0), (10, .ptr 2 0 0 0), (11, .i v7.2), (13, .i v27.2), (47, .tup [.n .u32 ((merkle_Tree_Leaf_n0 a0).1), .i ((merkle_Tree_Leaf_n0 a0).2)])], [.box 48 (eC48 a2), eB91 v2, eB91 v8]⟩) (by kernel_rfl) ?_
              obtain ⟨v28, h50, H⟩ := idC H
              rw [← h50]
              refine goK hT 10 (K7 111111110 2) ⟨122, [(0, .i a0), (5, .ptr 0 0 0 0), (7, .d .np), (8, .ptr 1 0 0 0), (10, .ptr 2 0 0 0), (11, .i v7.2), (13, .i v27.2), (15, .i v28.2), (51, .d .np), (52, .i a0)], [.box 48 (eC48 a2), eB91 v2, eB91 v8]⟩ ?_
              refine ak_callP (avs := [.d .np, .i a0]) (dst := some 53) (k' := (K7 111111110 3)) [0, 5, 7, 8, 10, 11, 13, 15, 53] [] hP enters_28 (merkle_Tree_Prove_n0.says a0) (by kernel_rfl) (hands_none _) (.cons (pass_d _) (.cons (pass_d _) .nil)) (st' := ⟨122, [(0, .i a0), (5, .ptr 0 0 0 0), (7, .d .np), (8, .ptr 1 0 0 0), (10, .ptr 2 0 0 0), (11, .i v7.2), (13, .i v27.2), (15, .i v28.2), (53, .tup [.own 3 1 0 (((merkle_Tree_Prove_n0 a0).1).length), .i ((merkle_Tree_Prove_n0 a0).2)])], [.box 48 (eC48 a2), eB91 v2, eB91 v8, eR37 ((merkle_Tree_Prove_n0 a0).1)]⟩) (by kernel_rfl) ?_
              obtain ⟨v29, h51, H⟩ := idC H
              have Jj7 : ∀ (y7_91 : Bool), (splicelaw20_MerkleNil.j7 v2 v7 v8 y7_91) = some r → AK X 7 ((K7 1111111110 1)) (Back X [] (.b r)) ⟨122, [(7, .d .np), (8, .ptr 0 0 0 0), (10, .ptr 1 0 0 0), (11, .i v7.2), (91, .b y7_91)], [eB91 v2, eB91 v8]⟩ := by
                intro y7_91 H
                by_cases c61 : y7_91 = true
                · replace H := iT c61 H
                  rw [c61]
                  refine goK hT 5 (K7 111111111010 1) ⟨122, [(6, .b false)], [eB91 v2, eB91 v8]⟩ ?_
                  obtain rfl := retC H
                  exact ak_ret hf hX (av := .b false) (by kernel_rfl) [] (sel_of_eq (by kernel_rfl)) (by decide) (by rw [h0]; rfl) (by kernel_rfl) (fun _ h => all_nil h) (.d (.v _))
                · replace H := iF c61 H
                  rw [boF c61]
                  refine goK hT 2 (K7 111111111 1) ⟨122, [(7, .d .np), (8, .ptr 0 0 0 0), (10, .ptr 1 0 0 0), (11, .i v7.2)], [eB91 v2, eB91 v8]⟩ ?_
                  refine goK hT 6 (K7 11111111110 1) ⟨122, [(7, .d .np), (8, .ptr 0 0 0 0), (10, .ptr 1 0 0 0), (93, .b (v7.2 != 0))], [eB91 v2, eB91 v8]⟩ ?_
                  by_cases c62 : v7.2 = 0
                  · replace H := iT c62 H
                    rw [neF c62]
                    refine goK hT 2 (K7 1111111111 1) ⟨122, [(7, .d .np), (8, .ptr 0 0 0 0), (10, .ptr 1 0 0 0)], [eB91 v2, eB91 v8]⟩ ?_
                    refine goK hT 2 (K7 111111111110 0) ⟨122, [(7, .d .np), (8, .ptr 0 0 0 0), (10, .ptr 1 0 0 0)], [eB91 v2, eB91 v8]⟩ ?_
                    obtain ⟨v34, h64, H⟩ := ibC H
                    have Jj8 : ∀ (y8_6 : Bool), (splicelaw20_MerkleNil.j8 y8_6) = some r → AK X 7 ((K7 11111111111 1)) (Back X [] (.b r)) ⟨122, [(6, .b y8_6)], []⟩ := by
                      intro y8_6 H
                      obtain rfl := retC H
                      exact ak_ret hf hX (av := .b y8_6) (by kernel_rfl) [] (sel_of_eq (by kernel_rfl)) (by decide) (by rw [h0]; rfl) (by kernel_rfl) (fun _ h => all_nil h) (.d (.v _))
                    refine ak_callP (avs := []) (dst := some 95) (k' := (K7 111111111110 1)) [7, 8, 10, 95] [] hP enters_12 (splicelaw20_awake.says h64) (by kernel_rfl) (hands_none _) .nil (st' := ⟨122, [(7, .d .np), (8, .ptr 0 0 0 0), (10, .ptr 1 0 0 0), (95, .b v34)], [eB91 v2, eB91 v8]⟩) (by kernel_rfl) ?_
                    refine goK hT 1 (K7 111111111110 2) ⟨122, [(7, .d .np), (8, .ptr 0 0 0 0), (10, .ptr 1 0 0 0), (96, .b v34)], [eB91 v2, eB91 v8]⟩ ?_
                    by_cases c65 : v34 = true
                    · replace H := iT c65 H
                      rw [c65]
                      refine goK hT 2 (K7 111111111110 4) ⟨122, [(8, .ptr 0 0 0 0), (10, .ptr 1 0 0 0), (96, .b true), (97, .d .np), (98, .ptr 1 0 0 0)], [eB91 v2, eB91 v8]⟩ ?_
                      obtain ⟨v35, h66, H⟩ := ibC H
                      refine ak_callP (avs := [.d .np, .ptr 1 0 0 0]) (dst := some 99) (k' := (K7 111111111110 5)) [8, 10, 96, 99] [1] hP enters_14 (merkle_Diff_n0.says v8 h66) (by kernel_rfl) (hands_one rfl rfl) (.cons (pass_d _) (.cons (.same (.ptr 0 0 0 0)) .nil)) (st' := ⟨122, [(8, .ptr 0 0 0 0), (10, .ptr 1 0 0 0), (96, .b true), (99, .own 2 2 0 v35.length)], [eB91 v2, eB91 v8, eR44 v35]⟩) (by kernel_rfl) ?_
                      obtain ⟨v36, h67, H⟩ := ibC H
                      refine ak_callP (avs := [.own 2 2 0 v35.length]) (dst := some 100) (k' := (K7 111111111110 6)) [8, 10, 96, 100] [] hP enters_16 (splicelaw03_Refs.says (t0 := false) v35 h67) (by kernel_rfl) (hands_none _) (.cons (.lend (ty := 44) (by kernel_rfl) rfl) .nil) (st' := ⟨122, [(8, .ptr 0 0 0 0), (10, .ptr 1 0 0 0), (96, .b true), (100, .own 3 2 0 v36.length)], [eB91 v2, eB91 v8, eR44 v35, eR69 v36]⟩) (by kernel_rfl) ?_
                      refine goK hT 2 (K7 111111111110 8) ⟨122, [(96, .b true), (100, .own 3 2 0 v36.length), (101, .ptr 0 0 0 0), (102, .ptr 1 0 0 0)], [eB91 v2, eB91 v8, eR44 v35, eR69 v36]⟩ ?_
                      obtain ⟨v37, h68, H⟩ := ibC H
                      refine ak_callP (avs := [.ptr 0 0 0 0, .ptr 1 0 0 0]) (dst := some 103) (k' := (K7 111111111110 9)) [96, 100, 103] [0, 1] hP enters_14 (merkle_Diff.says v2 v8 h68) (by kernel_rfl) (hands_two rfl rfl rfl rfl (by decide)) (.cons (.same (.ptr 0 0 0 0)) (.cons (.same (.ptr 1 0 0 0)) .nil)) (st' := ⟨122, [(96, .b true), (100, .own 3 2 0 v36.length), (103, .own 4 2 0 v37.length)], [eB91 v2, eB91 v8, eR44 v35, eR69 v36, eR44 v37]⟩) (by kernel_rfl) ?_
                      obtain ⟨v38, h69, H⟩ := ibC H
                      refine ak_callP (avs := [.own 4 2 0 v37.length]) (dst := some 104) (k' := (K7 111111111110 10)) [96, 100, 104] [] hP enters_16 (splicelaw03_Refs.says (t0 := false) v37 h69) (by kernel_rfl) (hands_none _) (.cons (.lend (ty := 44) (by kernel_rfl) rfl) .nil) (st' := ⟨122, [(96, .b true), (100, .own 3 2 0 v36.length), (104, .own 5 2 0 v38.length)], [eB91 v2, eB91 v8, eR44 v35, eR69 v36, eR44 v37, eR69 v38]⟩) (by kernel_rfl) ?_
                      obtain ⟨v39, h70, H⟩ := ibC H
                      refine ak_callP (avs := [.own 3 2 0 v36.length, .own 5 2 0 v38.length]) (dst := some 105) (k' := (K7 111111111110 11)) [96, 105] [] hP enters_15 (spliceref03_Same.says (t0 := false) (t1 := false) v36 v38 h70) (by kernel_rfl) (hands_none _) (.cons (.lend (ty := 69) (by kernel_rfl) rfl) (.cons (.lend (ty := 69) (by kernel_rfl) rfl) .nil)) (st' := ⟨122, [(96, .b true), (105, .b v39)], [eB91 v2, eB91 v8, eR44 v35, eR69 v36, eR44 v37, eR69 v38]⟩) (by kernel_rfl) ?_
                      refine goK hT 2 (K7 111111111110 13) ⟨122, [(107, .b v39)], [eB91 v2, eB91 v8, eR44 v35, eR69 v36, eR44 v37, eR69 v38]⟩ ?_
                      by_cases c71 : v39 = true
                      · replace H := iT c71 H
                        rw [c71]
                        obtain ⟨v40, h72, H⟩ := ibC H
                        refine ak_callP (avs := [.ns]) (dst := some 108) (k' := (K7 111111111110 14)) [107, 108] [] hP enters_29 (spliceref20_Above.says (t0 := true) ([] : List Int) h72) (by kernel_rfl) (hands_none _) (.cons (.nil _ _) .nil) (st' := ⟨122, [(107, .b true), (108, .own 6 1 0 v40.length)], [eB91 v2, eB91 v8, eR44 v35, eR69 v36, eR44 v37, eR69 v38, eR37 v40]⟩) (by kernel_rfl) ?_
                        refine goK hT 4 (K7 111111111110 18) ⟨122, [(112, .b ((v40.length : Int) == 0))], [eB91 v2, eB91 v8, eR44 v35, eR69 v36, eR44 v37, eR69 v38, eR37 v40]⟩ ?_
                        by_cases c73 : (v40.length : Int) = 0
                        · replace H := iT c73 H
                          rw [eqT c73]
                          obtain ⟨v41, h74, H⟩ := ibC H
                          refine ak_callP (avs := [.ns]) (dst := some 113) (k' := (K7 111111111110 19)) [112, 113] [] hP enters_22 (splicelaw05_Refs.says (t0 := true) ([] : List api_Pair) h74) (by kernel_rfl) (hands_none _) (.cons (.nil _ _) .nil) (st' := ⟨122, [(112, .b true), (113, .own 7 2 0 v41.length)], [eB91 v2, eB91 v8, eR44 v35, eR69 v36, eR44 v37, eR69 v38, eR37 v40, eR94 v41]⟩) (by kernel_rfl) ?_
                          refine goK hT 4 (K7 111111111110 23) ⟨122, [(117, .b ((v41.length : Int) == 0))], [eB91 v2, eB91 v8, eR44 v35, eR69 v36, eR44 v37, eR69 v38, eR37 v40, eR94 v41]⟩ ?_
                          by_cases c75 : (v41.length : Int) = 0
                          · replace H := iT c75 H
                            rw [eqT c75]
                            refine goK hT 2 (K7 111111111110 25) ⟨122, [(117, .b true), (118, .d (.agg [.i 0, .i 0, .i 0, .ns, .i 0, .i 0, .i 0])), (119, .d (.agg [.i 0, .i 0, .i 0, .ns, .i 0, .i 0, .i 0]))], [eB91 v2, eB91 v8, eR44 v35, eR69 v36, eR44 v37, eR69 v38, eR37 v40, eR94 v41]⟩ ?_
                            obtain ⟨v42, h76, H⟩ := ibC H
                            refine ak_callP (avs := [.d (.agg [.i 0, .i 0, .i 0, .ns, .i 0, .i 0, .i 0]), .d (.agg [.i 0, .i 0, .i 0, .ns, .i 0, .i 0, .i 0])]) (dst := some 120) (k' := (K7 111111111110 26)) [117, 120] [] hP enters_30 (spliceref04_Same.says (⟨0, 0, 0, [], (⟨0, 0⟩ : spliceref03_Span), 0⟩ : spliceref04_Mut) (⟨0, 0, 0, [], (⟨0, 0⟩ : spliceref03_Span), 0⟩ : spliceref04_Mut) h76) (by kernel_rfl) (hands_none _) (.cons (.aggd (.cons (pass_d _) (.cons (pass_d _) (.cons (pass_d _) (.cons (.nil _ _) (.cons (pass_d _) (.cons (pass_d _) (.cons (pass_d _) .nil)))))))) (.cons (.aggd (.cons (pass_d _) (.cons (pass_d _) (.cons (pass_d _) (.cons (.nil _ _) (.cons (pass_d _) (.cons (pass_d _) (.cons (pass_d _) .nil)))))))) .nil)) (st' := ⟨122, [(117, .b true), (120, .b v42)], [eB91 v2, eB91 v8, eR44 v35, eR69 v36, eR44 v37, eR69 v38, eR37 v40, eR94 v41]⟩) (by kernel_rfl) ?_
                            refine goK hT 3 (K7 11111111111 1) ⟨122, [(6, .b v42)], [eB91 v2, eB91 v8, eR44 v35, eR69 v36, eR44 v37, eR69 v38, eR37 v40, eR94 v41]⟩ ?_
                            refine cutK [] ⟨122, [(6, .b v42)], []⟩ h0 ?_
                            exact Jj8 v42 H
                          · replace H := iF c75 H
                            rw [eqF c75]
                            refine goK hT 6 (K7 11111111111 1) ⟨122, [(6, .b false)], [eB91 v2, eB91 v8, eR44 v35, eR69 v36, eR44 v37, eR69 v38, eR37 v40, eR94 v41]⟩ ?_
                            refine cutK [] ⟨122, [(6, .b false)], []⟩ h0 ?_
                            exact Jj8 false H
                        · replace H := iF c73 H
                          rw [eqF c73]
                          refine goK hT 11 (K7 11111111111 1) ⟨122, [(6, .b false)], [eB91 v2, eB91 v8, eR44 v35, eR69 v36, eR44 v37, eR69 v38, eR37 v40]⟩ ?_
                          refine cutK [] ⟨122, [(6, .b false)], []⟩ h0 ?_
                          exact Jj8 false H
                      · replace H := iF c71 H
                        rw [boF c71]
                        refine goK hT 16 (K7 11111111111 1) ⟨122, [(6, .b false)], [eB91 v2, eB91 v8, eR44 v35, eR69 v36, eR44 v37, eR69 v38]⟩ ?_
                        refine cutK [] ⟨122, [(6, .b false)], []⟩ h0 ?_
                        exact Jj8 false H
                    · replace H := iF c65 H
                      rw [boF c65]
                      refine goK hT 27 (K7 11111111111 1) ⟨122, [(6, .b false)], [eB91 v2, eB91 v8]⟩ ?_
                      refine cutK [] ⟨122, [(6, .b false)], []⟩ h0 ?_
                      exact Jj8 false H
                  · replace H := iF c62 H
                    rw [neT c62]
                    refine goK hT 3 (K7 11111111110100 0) ⟨122, [], [eB91 v2, eB91 v8]⟩ ?_
                    obtain ⟨v33, h63, H⟩ := ibC H
                    refine ak_callP (avs := []) (dst := some 94) (k' := (K7 11111111110100 1)) [94] [] hP enters_12 (splicelaw20_awake.says h63) (by kernel_rfl) (hands_none _) .nil (st' := ⟨122, [(94, .b v33)], [eB91 v2, eB91 v8]⟩) (by kernel_rfl) ?_
                    refine goK hT 2 (K7 1111111111010 1) ⟨122, [(6, .b v33)], [eB91 v2, eB91 v8]⟩ ?_
                    obtain rfl := retC H
                    exact ak_ret hf hX (av := .b v33) (by kernel_rfl) [] (sel_of_eq (by kernel_rfl)) (by decide) (by rw [h0]; rfl) (by kernel_rfl) (fun _ h => all_nil h) (.d (.v _))
              rw [← h51]
              refine goK hT 12 (K7 11111111100 3) ⟨122, [(0, .i a0), (5, .ptr 0 0 0 0), (7, .d .np), (8, .ptr 1 0 0 0), (10, .ptr 2 0 0 0), (11, .i v7.2), (15, .i v28.2), (17, .i v29.2), (58, .b (v27.2 != 1))], [.box 48 (eC48 a2), eB91 v2, eB91 v8, eR37 v29.1]⟩ ?_
              by_cases c52 : v27.2 = 1
              · replace H := iT c52 H
                rw [neF c52]
                refine goK hT 4 (K7 11111111100 7) ⟨122, [(0, .i a0), (5, .ptr 0 0 0 0), (7, .d .np), (8, .ptr 1 0 0 0), (10, .ptr 2 0 0 0), (11, .i v7.2), (17, .i v29.2), (62, .b (v28.2 != 1))], [.box 48 (eC48 a2), eB91 v2, eB91 v8, eR37 v29.1]⟩ ?_
                by_cases c53 : v28.2 = 1
                · replace H := iT c53 H
                  rw [neF c53]
                  refine goK hT 4 (K7 11111111100 11) ⟨122, [(0, .i a0), (5, .ptr 0 0 0 0), (7, .d .np), (8, .ptr 1 0 0 0), (10, .ptr 2 0 0 0), (11, .i v7.2), (66, .b (v29.2 != 1))], [.box 48 (eC48 a2), eB91 v2, eB91 v8, eR37 v29.1]⟩ ?_
                  by_cases c54 : v29.2 = 1
                  · replace H := iT c54 H
                    rw [neF c54]
                    refine goK hT 3 (K7 11111111100 14) ⟨122, [(0, .i a0), (7, .d .np), (8, .ptr 1 0 0 0), (10, .ptr 2 0 0 0), (11, .i v7.2), (66, .b false), (67, .d .np), (68, .i a0), (69, .d (eG48 a2))], [.box 48 (eC48 a2), eB91 v2, eB91 v8, eR37 v29.1]⟩ ?_
                    refine ak_callP (avs := [.d .np, .i a0, .d (eG48 a2)]) (dst := some 70) (k' := (K7 11111111100 15)) [0, 7, 8, 10, 11, 66, 70] [] hP enters_25 (merkle_Tree_Set_n0.says a0 a2) (by kernel_rfl) (hands_none _) (.cons (pass_d _) (.cons (pass_d _) (.cons (pass_d _) .nil))) (st' := ⟨122, [(0, .i a0), (7, .d .np), (8, .ptr 1 0 0 0), (10, .ptr 2 0 0 0), (11, .i v7.2), (66, .b false), (70, .i (merkle_Tree_Set_n0 a0 a2))], [.box 48 (eC48 a2), eB91 v2, eB91 v8, eR37 v29.1]⟩) (by kernel_rfl) ?_
                    refine goK hT 3 (K7 11111111100 18) ⟨122, [(0, .i a0), (7, .d .np), (8, .ptr 1 0 0 0), (10, .ptr 2 0 0 0), (11, .i v7.2), (73, .b ((merkle_Tree_Set_n0 a0 a2) != 1))], [.box 48 (eC48 a2), eB91 v2, eB91 v8, eR37 v29.1]⟩ ?_
                    by_cases c55 : (merkle_Tree_Set_n0 a0 a2) = 1
                    · replace H := iT c55 H
                      rw [neF c55]
                      refine goK hT 2 (K7 11111111100 20) ⟨122, [(7, .d .np), (8, .ptr 1 0 0 0), (10, .ptr 2 0 0 0), (11, .i v7.2), (73, .b false), (74, .d .np), (75, .i a0)], [.box 48 (eC48 a2), eB91 v2, eB91 v8, eR37 v29.1]⟩ ?_
                      refine ak_callP (avs := [.d .np, .i a0]) (dst := some 76) (k' := (K7 11111111100 21)) [7, 8, 10, 11, 73, 76] [] hP enters_26 (merkle_Tree_Get_n0.says a0) (by kernel_rfl) (hands_none _) (.cons (pass_d _) (.cons (pass_d _) .nil)) (st' := ⟨122, [(7, .d .np), (8, .ptr 1 0 0 0), (10, .ptr 2 0 0 0), (11, .i v7.2), (73, .b false), (76, .d (eG48 (merkle_Tree_Get_n0 a0)))], [.box 48 (eC48 a2), eB91 v2, eB91 v8, eR37 v29.1]⟩) (by kernel_rfl) ?_
                      obtain ⟨v30, h56, H⟩ := idC H
                      rw [← h56]
                      refine goK hT 3 (K7 11111111100 24) ⟨122, [(7, .d .np), (8, .ptr 1 0 0 0), (10, .ptr 2 0 0 0), (11, .i v7.2), (79, .b v30.Some)], [.box 48 (eC48 a2), eB91 v2, eB91 v8, eR37 v29.1]⟩ ?_
                      by_cases c57 : v30.Some = true
                      · replace H := iT c57 H
                        rw [c57]
                        refine goK hT 13 (K7 1111111110 1) ⟨122, [(7, .d .np), (8, .ptr 1 0 0 0), (10, .ptr 2 0 0 0), (11, .i v7.2), (91, .b true)], [.box 48 (eC48 a2), eB91 v2, eB91 v8, eR37 v29.1]⟩ ?_
                        refine cutK [1, 2] ⟨122, [(7, .d .np), (8, .ptr 0 0 0 0), (10, .ptr 1 0 0 0), (11, .i v7.2), (91, .b true)], [eB91 v2, eB91 v8]⟩ h0 ?_
                        exact Jj7 true H
                      · replace H := iF c57 H
                        rw [boF c57]
                        refine goK hT 1 (K7 11111111100 25) ⟨122, [(7, .d .np), (8, .ptr 1 0 0 0), (10, .ptr 2 0 0 0), (11, .i v7.2), (79, .b false), (80, .d .np)], [.box 48 (eC48 a2), eB91 v2, eB91 v8, eR37 v29.1]⟩ ?_
                        obtain ⟨v31, h58, H⟩ := ibC H
                        refine ak_callP (avs := [.d .np]) (dst := some 81) (k' := (K7 11111111100 26)) [7, 8, 10, 11, 79, 81] [] hP enters_18 (merkle_Tree_Root_n0.says h58) (by kernel_rfl) (hands_none _) (.cons (pass_d _) .nil) (st' := ⟨122, [(7, .d .np), (8, .ptr 1 0 0 0), (10, .ptr 2 0 0 0), (11, .i v7.2), (79, .b false), (81, .n .u32 v31)], [.box 48 (eC48 a2), eB91 v2, eB91 v8, eR37 v29.1]⟩) (by kernel_rfl) ?_
                        refine goK hT 1 (K7 11111111100 27) ⟨122, [(7, .d .np), (8, .ptr 1 0 0 0), (10, .ptr 2 0 0 0), (11, .i v7.2), (79, .b false), (81, .n .u32 v31), (82, .ptr 1 0 0 0)], [.box 48 (eC48 a2), eB91 v2, eB91 v8, eR37 v29.1]⟩ ?_
                        refine ak_callP (avs := [.ptr 1 0 0 0]) (dst := some 83) (k' := (K7 11111111100 28)) [7, 8, 10, 11, 79, 81, 83] [1] hP enters_18 (merkle_Tree_Root.says v2) (by kernel_rfl) (hands_one rfl rfl) (.cons (.same (.ptr 0 0 0 0)) .nil) (st' := ⟨122, [(7, .d .np), (8, .ptr 1 0 0 0), (10, .ptr 2 0 0 0), (11, .i v7.2), (79, .b false), (81, .n .u32 v31), (83, .n .u32 (merkle_Tree_Root v2))], [.box 48 (eC48 a2), eB91 v2, eB91 v8, eR37 v29.1]⟩) (by kernel_rfl) ?_
                        refine goK hT 3 (K7 11111111100 31) ⟨122, [(7, .d .np), (8, .ptr 1 0 0 0), (10, .ptr 2 0 0 0), (11, .i v7.2), (86, .b (v31 != (merkle_Tree_Root v2)))], [.box 48 (eC48 a2), eB91 v2, eB91 v8, eR37 v29.1]⟩ ?_
                        by_cases c59 : v31 = (merkle_Tree_Root v2)
                        · replace H := iT c59 H
                          rw [neF c59]
                          refine goK hT 1 (K7 11111111100 32) ⟨122, [(7, .d .np), (8, .ptr 1 0 0 0), (10, .ptr 2 0 0 0), (11, .i v7.2), (86, .b false), (87, .d .np)], [.box 48 (eC48 a2), eB91 v2, eB91 v8, eR37 v29.1]⟩ ?_
                          obtain ⟨v32, h60, H⟩ := ibC H
                          refine ak_callP (avs := [.d .np]) (dst := some 88) (k' := (K7 11111111100 33)) [7, 8, 10, 11, 86, 88] [] hP enters_27 (merkle_Tree_Table_n0.says h60) (by kernel_rfl) (hands_none _) (.cons (pass_d _) .nil) (st' := ⟨122, [(7, .d .np), (8, .ptr 1 0 0 0), (10, .ptr 2 0 0 0), (11, .i v7.2), (86, .b false), (88, .own 4 2 0 v32.length)], [.box 48 (eC48 a2), eB91 v2, eB91 v8, eR37 v29.1, eR42 v32]⟩) (by kernel_rfl) ?_
                          refine goK hT 4 (K7 1111111110 1) ⟨122, [(7, .d .np), (8, .ptr 1 0 0 0), (10, .ptr 2 0 0 0), (11, .i v7.2), (91, .b ((v32.length : Int) != 0))], [.box 48 (eC48 a2), eB91 v2, eB91 v8, eR37 v29.1, eR42 v32]⟩ ?_
                          refine cutK [1, 2] ⟨122, [(7, .d .np), (8, .ptr 0 0 0 0), (10, .ptr 1 0 0 0), (11, .i v7.2), (91, .b ((v32.length : Int) != 0))], [eB91 v2, eB91 v8]⟩ h0 ?_
                          exact Jj7 ((v32.length : Int) != 0) H
                        · replace H := iF c59 H
                          rw [neT c59]
                          refine goK hT 6 (K7 1111111110 1) ⟨122, [(7, .d .np), (8, .ptr 1 0 0 0), (10, .ptr 2 0 0 0), (11, .i v7.2), (91, .b true)], [.box 48 (eC48 a2), eB91 v2, eB91 v8, eR37 v29.1]⟩ ?_
                          refine cutK [1, 2] ⟨122, [(7, .d .np), (8, .ptr 0 0 0 0), (10, .ptr 1 0 0 0), (11, .i v7.2), (91, .b true)], [eB91 v2, eB91 v8]⟩ h0 ?_
                          exact Jj7 true H
                    · replace H := iF c55 H
                      rw [neT c55]
                      refine goK hT 19 (K7 1111111110 1) ⟨122, [(7, .d .np), (8, .ptr 1 0 0 0), (10, .ptr 2 0 0 0), (11, .i v7.2), (91, .b true)], [.box 48 (eC48 a2), eB91 v2, eB91 v8, eR37 v29.1]⟩ ?_
                      refine cutK [1, 2] ⟨122, [(7, .d .np), (8, .ptr 0 0 0 0), (10, .ptr 1 0 0 0), (11, .i v7.2), (91, .b true)], [eB91 v2, eB91 v8]⟩ h0 ?_
                      exact Jj7 true H
                  · replace H := iF c54 H
                    rw [neT c54]
                    refine goK hT 26 (K7 1111111110 1) ⟨122, [(7, .d .np), (8, .ptr 1 0 0 0), (10, .ptr 2 0 0 0), (11, .i v7.2), (91, .b true)], [.box 48 (eC48 a2), eB91 v2, eB91 v8, eR37 v29.1]⟩ ?_
                    refine cutK [1, 2] ⟨122, [(7, .d .np), (8, .ptr 0 0 0 0), (10, .ptr 1 0 0 0), (11, .i v7.2), (91, .b true)], [eB91 v2, eB91 v8]⟩ h0 ?_
                    exact Jj7 true H
                · replace H := iF c53 H
                  rw [neT c53]
                  refine goK hT 30 (K7 1111111110 1) ⟨122, [(7, .d .np), (8, .ptr 1 0 0 0), (10, .ptr 2 0 0 0), (11, .i v7.2), (91, .b true)], [.box 48 (eC48 a2), eB91 v2, eB91 v8, eR37 v29.1]⟩ ?_
                  refine cutK [1, 2] ⟨122, [(7, .d .np), (8, .ptr 0 0 0 0), (10, .ptr 1 0 0 0), (11, .i v7.2), (91, .b true)], [eB91 v2, eB91 v8]⟩ h0 ?_
                  exact Jj7 true H
              · replace H := iF c52 H
                rw [neT c52]
                refine goK hT 34 (K7 1111111110 1) ⟨122, [(7, .d .np), (8, .ptr 1 0 0 0), (10, .ptr 2 0 0 0), (11, .i v7.2), (91, .b true)], [.box 48 (eC48 a2), eB91 v2, eB91 v8, eR37 v29.1]⟩ ?_
                refine cutK [1, 2] ⟨122, [(7, .d .np), (8, .ptr 0 0 0 0), (10, .ptr 1 0 0 0), (11, .i v7.2), (91, .b true)], [eB91 v2, eB91 v8]⟩ h0 ?_
                exact Jj7 true H
          have Sq12 := merkle_New.says (t0 := t1) a1 h11
          rw [q12] at Sq12
          refine ak_callP (avs := [.d (eL42 t1 a1)]) (dst := some 24) (k' := (K7 11110 2)) [0, 1, 5, 7, 8, 9, 24] [] hP enters_10 (Sq12) (by kernel_rfl) (hands_none _) (.cons (pass_d _) .nil) (st' := ⟨122, [(0, .i a0), (1, .d (eL42 t1 a1)), (5, .ptr 0 0 0 0), (7, .d .np), (8, .ptr 1 0 0 0), (9, .i v1.2), (24, .tup [.ptr 2 0 0 0, .i v7.2])], [.box 48 (eC48 a2), eB91 v2, eB91 v8]⟩) (by kernel_rfl) ?_
          refine goK hT 10 (K7 1111100 1) ⟨122, [(0, .i a0), (5, .ptr 0 0 0 0), (7, .d .np), (8, .ptr 1 0 0 0), (9, .i v1.2), (10, .ptr 2 0 0 0), (11, .i v7.2), (27, .d (eL42 t1 a1))], [.box 48 (eC48 a2), eB91 v2, eB91 v8]⟩ ?_
          refine ak_callP (avs := [.d (eL42 t1 a1)]) (dst := some 28) (k' := (K7 1111100 2)) [0, 5, 7, 8, 9, 10, 11, 28] [] hP enters_11 (splicelaw20_few.says (t0 := t1) a1) (by kernel_rfl) (hands_none _) (.cons (pass_d _) .nil) (st' := ⟨122, [(0, .i a0), (5, .ptr 0 0 0 0), (7, .d .np), (8, .ptr 1 0 0 0), (9, .i v1.2), (10, .ptr 2 0 0 0), (11, .i v7.2), (28, .b (splicelaw20_few a1))], [.box 48 (eC48 a2), eB91 v2, eB91 v8]⟩) (by kernel_rfl) ?_
          refine goK hT 2 (K7 1111100 4) ⟨122, [(0, .i a0), (5, .ptr 0 0 0 0), (7, .d .np), (8, .ptr 1 0 0 0), (9, .i v1.2), (10, .ptr 2 0 0 0), (11, .i v7.2), (30, .b (!(splicelaw20_few a1)))], [.box 48 (eC48 a2), eB91 v2, eB91 v8]⟩ ?_
          by_cases c45 : (splicelaw20_few a1) = true
          · replace H := iT c45 H
            rw [c45]
            refine goK hT 4 (K7 1111100 8) ⟨122, [(0, .i a0), (5, .ptr 0 0 0 0), (7, .d .np), (8, .ptr 1 0 0 0), (10, .ptr 2 0 0 0), (11, .i v7.2), (34, .b (v1.2 != 0))], [.box 48 (eC48 a2), eB91 v2, eB91 v8]⟩ ?_
            by_cases c46 : v1.2 = 0
            · replace H := iT c46 H
              rw [neF c46]
              refine goK hT 4 (K7 111110 1) ⟨122, [(0, .i a0), (5, .ptr 0 0 0 0), (7, .d .np), (8, .ptr 1 0 0 0), (10, .ptr 2 0 0 0), (11, .i v7.2), (37, .b false)], [.box 48 (eC48 a2), eB91 v2, eB91 v8]⟩ ?_
              refine cutK [0, 1, 2] ⟨122, [(0, .i a0), (5, .ptr 0 0 0 0), (7, .d .np), (8, .ptr 1 0 0 0), (10, .ptr 2 0 0 0), (11, .i v7.2), (37, .b false)], [.box 48 (eC48 a2), eB91 v2, eB91 v8]⟩ h0 ?_
              exact Jj6 false H
            · replace H := iF c46 H
              rw [neT c46]
              refine goK hT 4 (K7 111110 1) ⟨122, [(0, .i a0), (5, .ptr 0 0 0 0), (7, .d .np), (8, .ptr 1 0 0 0), (10, .ptr 2 0 0 0), (11, .i v7.2), (37, .b true)], [.box 48 (eC48 a2), eB91 v2, eB91 v8]⟩ ?_
              refine cutK [0, 1, 2] ⟨122, [(0, .i a0), (5, .ptr 0 0 0 0), (7, .d .np), (8, .ptr 1 0 0 0), (10, .ptr 2 0 0 0), (11, .i v7.2), (37, .b true)], [.box 48 (eC48 a2), eB91 v2, eB91 v8]⟩ h0 ?_
              exact Jj6 true H
          · replace H := iF c45 H
            rw [boF c45]
            refine goK hT 8 (K7 111110 1) ⟨122, [(0, .i a0), (5, .ptr 0 0 0 0), (7, .d .np), (8, .ptr 1 0 0 0), (10, .ptr 2 0 0 0), (11, .i v7.2), (37, .b true)], [.box 48 (eC48 a2), eB91 v2, eB91 v8]⟩ ?_
            refine cutK [0, 1, 2] ⟨122, [(0, .i a0), (5, .ptr 0 0 0 0), (7, .d .np), (8, .ptr 1 0 0 0), (10, .ptr 2 0 0 0), (11, .i v7.2), (37, .b true)], [.box 48 (eC48 a2), eB91 v2, eB91 v8]⟩ h0 ?_
            exact Jj6 true H
end Go.SyP
