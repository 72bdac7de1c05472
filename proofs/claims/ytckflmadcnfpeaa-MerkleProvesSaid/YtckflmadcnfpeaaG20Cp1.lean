/- Certificates, printed by gen.py. -/
import Derived.Test.YtckflmadcnfpeaaG20Cp0
set_option linter.unusedVariables false
set_option linter.unusedSimpArgs false
namespace Go.SyP
open Go Go.Sy Go.Proofs


theorem splicelaw20_awake.says {r : Bool} (H : splicelaw20_awake = some r) : Says Try.prog 12 [] [] [] (.b r) := by
  refine says_of Try.func12 rfl (nt := 51) rfl (Nat.le_of_ble_eq_true rfl) fun X hP h0 hX => ?_
  have hT : TabOk X.P T := hP ▸ tok
  have hf : X.P.funcs[12]? = some Try.f12 := hP ▸ Try.func12
  refine goK hT 8 (K12 110 2) ⟨51, [(8, .own 0 2 0 1)], [.flat false 2 42 1 (fun j => [[.i 5, .i 7]].getD j [])]⟩ ?_
  refine ak_row 0 (kk := 2) (fz := false) (ty := 42) (n := ([(⟨5, 7⟩ : api_Pair)] : List api_Pair).length) (vec api_Pair.e api_Pair.z ([(⟨5, 7⟩ : api_Pair)] : List api_Pair)) (by kernel_rfl) vec_lit (st' := ⟨51, [(8, .own 0 2 0 (([(⟨5, 7⟩ : api_Pair)] : List api_Pair).length))], [eR42 ([(⟨5, 7⟩ : api_Pair)] : List api_Pair)]⟩) (by kernel_rfl) ?_
  obtain ⟨v1, h1, H⟩ := ibC H
  cases q2 : v1.1 with
  | none =>
      rw [q2] at H
      replace H := ioptN H
      have Sq2 := merkle_New.says (t0 := false) ([(⟨5, 7⟩ : api_Pair)] : List api_Pair) h1
      rw [q2] at Sq2
      refine ak_callP (avs := [.own 0 2 0 (([(⟨5, 7⟩ : api_Pair)] : List api_Pair).length)]) (dst := some 9) (k' := (K12 110 3)) [9] [] hP enters_10 (Sq2) (by kernel_rfl) (hands_none _) (.cons (.lend (ty := 42) (by kernel_rfl) rfl) .nil) (st' := ⟨51, [(9, .tup [.d .np, .i v1.2])], [eR42 ([(⟨5, 7⟩ : api_Pair)] : List api_Pair)]⟩) (by kernel_rfl) ?_
      refine goK hT 10 (K12 1110 2) ⟨51, [(1, .d .np), (2, .i v1.2), (14, .own 1 2 0 1)], [eR42 ([(⟨5, 7⟩ : api_Pair)] : List api_Pair), .flat false 2 42 1 (fun j => [[.i 5, .i 8]].getD j [])]⟩ ?_
      refine ak_row 1 (kk := 2) (fz := false) (ty := 42) (n := ([(⟨5, 8⟩ : api_Pair)] : List api_Pair).length) (vec api_Pair.e api_Pair.z ([(⟨5, 8⟩ : api_Pair)] : List api_Pair)) (by kernel_rfl) vec_lit (st' := ⟨51, [(1, .d .np), (2, .i v1.2), (14, .own 1 2 0 (([(⟨5, 8⟩ : api_Pair)] : List api_Pair).length))], [eR42 ([(⟨5, 7⟩ : api_Pair)] : List api_Pair), eR42 ([(⟨5, 8⟩ : api_Pair)] : List api_Pair)]⟩) (by kernel_rfl) ?_
      obtain ⟨v3, h3, H⟩ := ibC H
      cases q4 : v3.1 with
      | none =>
          rw [q4] at H
          replace H := ioptN H
          have Sq4 := merkle_New.says (t0 := false) ([(⟨5, 8⟩ : api_Pair)] : List api_Pair) h3
          rw [q4] at Sq4
          refine ak_callP (avs := [.own 1 2 0 (([(⟨5, 8⟩ : api_Pair)] : List api_Pair).length)]) (dst := some 15) (k' := (K12 1110 3)) [1, 2, 15] [] hP enters_10 (Sq4) (by kernel_rfl) (hands_none _) (.cons (.lend (ty := 42) (by kernel_rfl) rfl) .nil) (st' := ⟨51, [(1, .d .np), (2, .i v1.2), (15, .tup [.d .np, .i v3.2])], [eR42 ([(⟨5, 7⟩ : api_Pair)] : List api_Pair), eR42 ([(⟨5, 8⟩ : api_Pair)] : List api_Pair)]⟩) (by kernel_rfl) ?_
          refine goK hT 10 (K12 11110 2) ⟨51, [(1, .d .np), (2, .i v1.2), (3, .d .np), (4, .i v3.2), (18, .d .np), (19, .d .np)], [eR42 ([(⟨5, 7⟩ : api_Pair)] : List api_Pair), eR42 ([(⟨5, 8⟩ : api_Pair)] : List api_Pair)]⟩ ?_
          obtain ⟨v5, h5, H⟩ := ibC H
          have Jj1 : ∀ (y1_0 : Bool), (splicelaw20_awake.j1 y1_0) = some r → AK X 12 ((K12 11111 1)) (Back X [] (.b r)) ⟨51, [(0, .b y1_0)], []⟩ := by
            intro y1_0 H
            obtain rfl := retC H
            exact ak_ret hf hX (av := .b y1_0) (by kernel_rfl) [] (sel_of_eq (by kernel_rfl)) (by decide) (by rw [h0]; rfl) (by kernel_rfl) (fun _ h => all_nil h) (.d (.v _))
          refine ak_callP (avs := [.d .np, .d .np]) (dst := some 20) (k' := (K12 11110 3)) [1, 2, 3, 4, 20] [] hP enters_14 (merkle_Diff_n01.says h5) (by kernel_rfl) (hands_none _) (.cons (pass_d _) (.cons (pass_d _) .nil)) (st' := ⟨51, [(1, .d .np), (2, .i v1.2), (3, .d .np), (4, .i v3.2), (20, .own 2 2 0 v5.length)], [eR42 ([(⟨5, 7⟩ : api_Pair)] : List api_Pair), eR42 ([(⟨5, 8⟩ : api_Pair)] : List api_Pair), eR44 v5]⟩) (by kernel_rfl) ?_
          refine goK hT 7 (K12 111110 3) ⟨51, [(1, .d .np), (3, .d .np), (4, .i v3.2), (5, .own 2 2 0 v5.length), (23, .b (v1.2 == 0))], [eR42 ([(⟨5, 7⟩ : api_Pair)] : List api_Pair), eR42 ([(⟨5, 8⟩ : api_Pair)] : List api_Pair), eR44 v5]⟩ ?_
          by_cases c6 : v1.2 = 0
          · replace H := iT c6 H
            rw [eqT c6]
            refine goK hT 4 (K12 111110 7) ⟨51, [(1, .d .np), (3, .d .np), (5, .own 2 2 0 v5.length), (27, .b (v3.2 == 0))], [eR42 ([(⟨5, 7⟩ : api_Pair)] : List api_Pair), eR42 ([(⟨5, 8⟩ : api_Pair)] : List api_Pair), eR44 v5]⟩ ?_
            by_cases c7 : v3.2 = 0
            · replace H := iT c7 H
              rw [eqT c7]
              refine goK hT 5 (K12 111110 12) ⟨51, [(1, .d .np), (3, .d .np), (5, .own 2 2 0 v5.length), (32, .b ((v5.length : Int) == 1))], [eR42 ([(⟨5, 7⟩ : api_Pair)] : List api_Pair), eR42 ([(⟨5, 8⟩ : api_Pair)] : List api_Pair), eR44 v5]⟩ ?_
              by_cases c8 : (v5.length : Int) = 1
              · replace H := iT c8 H
                rw [eqT c8]
                refine goK hT 1 (K12 111110 13) ⟨51, [(1, .d .np), (3, .d .np), (32, .b true), (33, .own 2 2 0 v5.length)], [eR42 ([(⟨5, 7⟩ : api_Pair)] : List api_Pair), eR42 ([(⟨5, 8⟩ : api_Pair)] : List api_Pair), eR44 v5]⟩ ?_
                obtain ⟨h9, H⟩ := iC H
                refine ak_idx hT [1, 3, 32, 34] (i := 0) (n := (v5.length : Int)) h9.1 h9.2 (k' := (K12 111110 14)) (st' := ⟨51, [(1, .d .np), (3, .d .np), (32, .b true), (34, .ptr 2 2 0 0)], [eR42 ([(⟨5, 7⟩ : api_Pair)] : List api_Pair), eR42 ([(⟨5, 8⟩ : api_Pair)] : List api_Pair), eR44 v5]⟩) (by kernel_rfl) ?_
                refine ak_ld hT [1, 3, 32, 35] (i := 0) (n := v5.length) (by omega) (k' := (K12 111110 15)) (st' := ⟨51, [(1, .d .np), (3, .d .np), (32, .b true), (35, .d (eG44 (v5.getD 0 api_Span.z)))], [eR42 ([(⟨5, 7⟩ : api_Pair)] : List api_Pair), eR42 ([(⟨5, 8⟩ : api_Pair)] : List api_Pair), eR44 v5]⟩) (by kernel_rfl) ?_
                refine goK hT 4 (K12 111110 19) ⟨51, [(1, .d .np), (3, .d .np), (39, .b ((((v5.getD 0 api_Span.z).Lo) == 5) && (((v5.getD 0 api_Span.z).Hi) == 6)))], [eR42 ([(⟨5, 7⟩ : api_Pair)] : List api_Pair), eR42 ([(⟨5, 8⟩ : api_Pair)] : List api_Pair), eR44 v5]⟩ ?_
                by_cases c10 : ((v5.getD 0 api_Span.z).Lo) = 5
                · replace H := iT c10 H
                  rw [eqT c10]
                  by_cases c11 : ((v5.getD 0 api_Span.z).Hi) = 6
                  · replace H := iT c11 H
                    rw [eqT c11]
                    refine goK hT 1 (K12 111110 20) ⟨51, [(3, .d .np), (39, .b true), (40, .d .np)], [eR42 ([(⟨5, 7⟩ : api_Pair)] : List api_Pair), eR42 ([(⟨5, 8⟩ : api_Pair)] : List api_Pair), eR44 v5]⟩ ?_
                    obtain ⟨v6, h12, H⟩ := ibC H
                    refine ak_callP (avs := [.d .np]) (dst := some 41) (k' := (K12 111110 21)) [3, 39, 41] [] hP enters_18 (merkle_Tree_Root_n0.says h12) (by kernel_rfl) (hands_none _) (.cons (pass_d _) .nil) (st' := ⟨51, [(3, .d .np), (39, .b true), (41, .n .u32 v6)], [eR42 ([(⟨5, 7⟩ : api_Pair)] : List api_Pair), eR42 ([(⟨5, 8⟩ : api_Pair)] : List api_Pair), eR44 v5]⟩) (by kernel_rfl) ?_
                    refine goK hT 1 (K12 111110 22) ⟨51, [(39, .b true), (41, .n .u32 v6), (42, .d .np)], [eR42 ([(⟨5, 7⟩ : api_Pair)] : List api_Pair), eR42 ([(⟨5, 8⟩ : api_Pair)] : List api_Pair), eR44 v5]⟩ ?_
                    obtain ⟨v7, h13, H⟩ := ibC H
                    refine ak_callP (avs := [.d .np]) (dst := some 43) (k' := (K12 111110 23)) [39, 41, 43] [] hP enters_18 (merkle_Tree_Root_n0.says h13) (by kernel_rfl) (hands_none _) (.cons (pass_d _) .nil) (st' := ⟨51, [(39, .b true), (41, .n .u32 v6), (43, .n .u32 v7)], [eR42 ([(⟨5, 7⟩ : api_Pair)] : List api_Pair), eR42 ([(⟨5, 8⟩ : api_Pair)] : List api_Pair), eR44 v5]⟩) (by kernel_rfl) ?_
                    refine goK hT 3 (K12 111110 26) ⟨51, [(46, .b (v6 != v7))], [eR42 ([(⟨5, 7⟩ : api_Pair)] : List api_Pair), eR42 ([(⟨5, 8⟩ : api_Pair)] : List api_Pair), eR44 v5]⟩ ?_
                    by_cases c14 : v6 = v7
                    · replace H := iT c14 H
                      rw [neF c14]
                      refine goK hT 6 (K12 11111 1) ⟨51, [(0, .b false)], [eR42 ([(⟨5, 7⟩ : api_Pair)] : List api_Pair), eR42 ([(⟨5, 8⟩ : api_Pair)] : List api_Pair), eR44 v5]⟩ ?_
                      refine cutK [] ⟨51, [(0, .b false)], []⟩ h0 ?_
                      exact Jj1 false H
                    · replace H := iF c14 H
                      rw [neT c14]
                      refine goK hT 1 (K12 111110 27) ⟨51, [(46, .b true), (47, .d (.agg [.i 0, .b false]))], [eR42 ([(⟨5, 7⟩ : api_Pair)] : List api_Pair), eR42 ([(⟨5, 8⟩ : api_Pair)] : List api_Pair), eR44 v5]⟩ ?_
                      obtain ⟨v8, h15, H⟩ := ibC H
                      refine ak_callP (avs := [.d (.agg [.i 0, .b false])]) (dst := some 48) (k' := (K12 111110 28)) [46, 48] [] hP enters_19 (merkle_Number.says (⟨0, false⟩ : api_Cell) h15) (by kernel_rfl) (hands_none _) (.cons (pass_d _) .nil) (st' := ⟨51, [(46, .b true), (48, .n .u32 v8)], [eR42 ([(⟨5, 7⟩ : api_Pair)] : List api_Pair), eR42 ([(⟨5, 8⟩ : api_Pair)] : List api_Pair), eR44 v5]⟩) (by kernel_rfl) ?_
                      refine goK hT 4 (K12 11111 1) ⟨51, [(0, .b (v8 == 0))], [eR42 ([(⟨5, 7⟩ : api_Pair)] : List api_Pair), eR42 ([(⟨5, 8⟩ : api_Pair)] : List api_Pair), eR44 v5]⟩ ?_
                      refine cutK [] ⟨51, [(0, .b (v8 == 0))], []⟩ h0 ?_
                      exact Jj1 (v8 == 0) H
                  · replace H := iF c11 H
                    rw [eqF c11]
                    refine goK hT 13 (K12 11111 1) ⟨51, [(0, .b false)], [eR42 ([(⟨5, 7⟩ : api_Pair)] : List api_Pair), eR42 ([(⟨5, 8⟩ : api_Pair)] : List api_Pair), eR44 v5]⟩ ?_
                    refine cutK [] ⟨51, [(0, .b false)], []⟩ h0 ?_
                    exact Jj1 false H
                · replace H := iF c10 H
                  rw [eqF c10]
                  by_cases c16 : ((v5.getD 0 api_Span.z).Hi) = 6
                  · replace H := iT c16 H
                    rw [eqT c16]
                    refine goK hT 13 (K12 11111 1) ⟨51, [(0, .b false)], [eR42 ([(⟨5, 7⟩ : api_Pair)] : List api_Pair), eR42 ([(⟨5, 8⟩ : api_Pair)] : List api_Pair), eR44 v5]⟩ ?_
                    refine cutK [] ⟨51, [(0, .b false)], []⟩ h0 ?_
                    exact Jj1 false H
                  · replace H := iF c16 H
                    rw [eqF c16]
                    refine goK hT 13 (K12 11111 1) ⟨51, [(0, .b false)], [eR42 ([(⟨5, 7⟩ : api_Pair)] : List api_Pair), eR42 ([(⟨5, 8⟩ : api_Pair)] : List api_Pair), eR44 v5]⟩ ?_
                    refine cutK [] ⟨51, [(0, .b false)], []⟩ h0 ?_
                    exact Jj1 false H
              · replace H := iF c8 H
                rw [eqF c8]
                refine goK hT 20 (K12 11111 1) ⟨51, [(0, .b false)], [eR42 ([(⟨5, 7⟩ : api_Pair)] : List api_Pair), eR42 ([(⟨5, 8⟩ : api_Pair)] : List api_Pair), eR44 v5]⟩ ?_
                refine cutK [] ⟨51, [(0, .b false)], []⟩ h0 ?_
                exact Jj1 false H
            · replace H := iF c7 H
              rw [eqF c7]
              refine goK hT 25 (K12 11111 1) ⟨51, [(0, .b false)], [eR42 ([(⟨5, 7⟩ : api_Pair)] : List api_Pair), eR42 ([(⟨5, 8⟩ : api_Pair)] : List api_Pair), eR44 v5]⟩ ?_
              refine cutK [] ⟨51, [(0, .b false)], []⟩ h0 ?_
              exact Jj1 false H
          · replace H := iF c6 H
            rw [eqF c6]
            refine goK hT 29 (K12 11111 1) ⟨51, [(0, .b false)], [eR42 ([(⟨5, 7⟩ : api_Pair)] : List api_Pair), eR42 ([(⟨5, 8⟩ : api_Pair)] : List api_Pair), eR44 v5]⟩ ?_
            refine cutK [] ⟨51, [(0, .b false)], []⟩ h0 ?_
            exact Jj1 false H
      | some v4 =>
          rw [q4] at H
          replace H := ioptS H
          have Sq4 := merkle_New.says (t0 := false) ([(⟨5, 8⟩ : api_Pair)] : List api_Pair) h3
          rw [q4] at Sq4
          refine ak_callP (avs := [.own 1 2 0 (([(⟨5, 8⟩ : api_Pair)] : List api_Pair).length)]) (dst := some 15) (k' := (K12 1110 3)) [1, 2, 15] [] hP enters_10 (Sq4) (by kernel_rfl) (hands_none _) (.cons (.lend (ty := 42) (by kernel_rfl) rfl) .nil) (st' := ⟨51, [(1, .d .np), (2, .i v1.2), (15, .tup [.ptr 2 0 0 0, .i v3.2])], [eR42 ([(⟨5, 7⟩ : api_Pair)] : List api_Pair), eR42 ([(⟨5, 8⟩ : api_Pair)] : List api_Pair), eB91 v4]⟩) (by kernel_rfl) ?_
          refine goK hT 10 (K12 11110 2) ⟨51, [(1, .d .np), (2, .i v1.2), (3, .ptr 2 0 0 0), (4, .i v3.2), (18, .d .np), (19, .ptr 2 0 0 0)], [eR42 ([(⟨5, 7⟩ : api_Pair)] : List api_Pair), eR42 ([(⟨5, 8⟩ : api_Pair)] : List api_Pair), eB91 v4]⟩ ?_
          obtain ⟨v9, h17, H⟩ := ibC H
          have Jj2 : ∀ (y2_0 : Bool), (splicelaw20_awake.j2 y2_0) = some r → AK X 12 ((K12 11111 1)) (Back X [] (.b r)) ⟨51, [(0, .b y2_0)], []⟩ := by
            intro y2_0 H
            obtain rfl := retC H
            exact ak_ret hf hX (av := .b y2_0) (by kernel_rfl) [] (sel_of_eq (by kernel_rfl)) (by decide) (by rw [h0]; rfl) (by kernel_rfl) (fun _ h => all_nil h) (.d (.v _))
          refine ak_callP (avs := [.d .np, .ptr 2 0 0 0]) (dst := some 20) (k' := (K12 11110 3)) [1, 2, 3, 4, 20] [2] hP enters_14 (merkle_Diff_n0.says v4 h17) (by kernel_rfl) (hands_one rfl rfl) (.cons (pass_d _) (.cons (.same (.ptr 0 0 0 0)) .nil)) (st' := ⟨51, [(1, .d .np), (2, .i v1.2), (3, .ptr 2 0 0 0), (4, .i v3.2), (20, .own 3 2 0 v9.length)], [eR42 ([(⟨5, 7⟩ : api_Pair)] : List api_Pair), eR42 ([(⟨5, 8⟩ : api_Pair)] : List api_Pair), eB91 v4, eR44 v9]⟩) (by kernel_rfl) ?_
          refine goK hT 7 (K12 111110 3) ⟨51, [(1, .d .np), (3, .ptr 2 0 0 0), (4, .i v3.2), (5, .own 3 2 0 v9.length), (23, .b (v1.2 == 0))], [eR42 ([(⟨5, 7⟩ : api_Pair)] : List api_Pair), eR42 ([(⟨5, 8⟩ : api_Pair)] : List api_Pair), eB91 v4, eR44 v9]⟩ ?_
          by_cases c18 : v1.2 = 0
          · replace H := iT c18 H
            rw [eqT c18]
            refine goK hT 4 (K12 111110 7) ⟨51, [(1, .d .np), (3, .ptr 2 0 0 0), (5, .own 3 2 0 v9.length), (27, .b (v3.2 == 0))], [eR42 ([(⟨5, 7⟩ : api_Pair)] : List api_Pair), eR42 ([(⟨5, 8⟩ : api_Pair)] : List api_Pair), eB91 v4, eR44 v9]⟩ ?_
            by_cases c19 : v3.2 = 0
            · replace H := iT c19 H
              rw [eqT c19]
              refine goK hT 5 (K12 111110 12) ⟨51, [(1, .d .np), (3, .ptr 2 0 0 0), (5, .own 3 2 0 v9.length), (32, .b ((v9.length : Int) == 1))], [eR42 ([(⟨5, 7⟩ : api_Pair)] : List api_Pair), eR42 ([(⟨5, 8⟩ : api_Pair)] : List api_Pair), eB91 v4, eR44 v9]⟩ ?_
              by_cases c20 : (v9.length : Int) = 1
              · replace H := iT c20 H
                rw [eqT c20]
                refine goK hT 1 (K12 111110 13) ⟨51, [(1, .d .np), (3, .ptr 2 0 0 0), (32, .b true), (33, .own 3 2 0 v9.length)], [eR42 ([(⟨5, 7⟩ : api_Pair)] : List api_Pair), eR42 ([(⟨5, 8⟩ : api_Pair)] : List api_Pair), eB91 v4, eR44 v9]⟩ ?_
                obtain ⟨h21, H⟩ := iC H
                refine ak_idx hT [1, 3, 32, 34] (i := 0) (n := (v9.length : Int)) h21.1 h21.2 (k' := (K12 111110 14)) (st' := ⟨51, [(1, .d .np), (3, .ptr 2 0 0 0), (32, .b true), (34, .ptr 3 2 0 0)], [eR42 ([(⟨5, 7⟩ : api_Pair)] : List api_Pair), eR42 ([(⟨5, 8⟩ : api_Pair)] : List api_Pair), eB91 v4, eR44 v9]⟩) (by kernel_rfl) ?_
                refine ak_ld hT [1, 3, 32, 35] (i := 0) (n := v9.length) (by omega) (k' := (K12 111110 15)) (st' := ⟨51, [(1, .d .np), (3, .ptr 2 0 0 0), (32, .b true), (35, .d (eG44 (v9.getD 0 api_Span.z)))], [eR42 ([(⟨5, 7⟩ : api_Pair)] : List api_Pair), eR42 ([(⟨5, 8⟩ : api_Pair)] : List api_Pair), eB91 v4, eR44 v9]⟩) (by kernel_rfl) ?_
                refine goK hT 4 (K12 111110 19) ⟨51, [(1, .d .np), (3, .ptr 2 0 0 0), (39, .b ((((v9.getD 0 api_Span.z).Lo) == 5) && (((v9.getD 0 api_Span.z).Hi) == 6)))], [eR42 ([(⟨5, 7⟩ : api_Pair)] : List api_Pair), eR42 ([(⟨5, 8⟩ : api_Pair)] : List api_Pair), eB91 v4, eR44 v9]⟩ ?_
                by_cases c22 : ((v9.getD 0 api_Span.z).Lo) = 5
                · replace H := iT c22 H
                  rw [eqT c22]
                  by_cases c23 : ((v9.getD 0 api_Span.z).Hi) = 6
                  · replace H := iT c23 H
                    rw [eqT c23]
                    refine goK hT 1 (K12 111110 20) ⟨51, [(3, .ptr 2 0 0 0), (39, .b true), (40, .d .np)], [eR42 ([(⟨5, 7⟩ : api_Pair)] : List api_Pair), eR42 ([(⟨5, 8⟩ : api_Pair)] : List api_Pair), eB91 v4, eR44 v9]⟩ ?_
                    obtain ⟨v10, h24, H⟩ := ibC H
                    refine ak_callP (avs := [.d .np]) (dst := some 41) (k' := (K12 111110 21)) [3, 39, 41] [] hP enters_18 (merkle_Tree_Root_n0.says h24) (by kernel_rfl) (hands_none _) (.cons (pass_d _) .nil) (st' := ⟨51, [(3, .ptr 2 0 0 0), (39, .b true), (41, .n .u32 v10)], [eR42 ([(⟨5, 7⟩ : api_Pair)] : List api_Pair), eR42 ([(⟨5, 8⟩ : api_Pair)] : List api_Pair), eB91 v4, eR44 v9]⟩) (by kernel_rfl) ?_
                    refine goK hT 1 (K12 111110 22) ⟨51, [(39, .b true), (41, .n .u32 v10), (42, .ptr 2 0 0 0)], [eR42 ([(⟨5, 7⟩ : api_Pair)] : List api_Pair), eR42 ([(⟨5, 8⟩ : api_Pair)] : List api_Pair), eB91 v4, eR44 v9]⟩ ?_
                    refine ak_callP (avs := [.ptr 2 0 0 0]) (dst := some 43) (k' := (K12 111110 23)) [39, 41, 43] [2] hP enters_18 (merkle_Tree_Root.says v4) (by kernel_rfl) (hands_one rfl rfl) (.cons (.same (.ptr 0 0 0 0)) .nil) (st' := ⟨51, [(39, .b true), (41, .n .u32 v10), (43, .n .u32 (merkle_Tree_Root v4))], [eR42 ([(⟨5, 7⟩ : api_Pair)] : List api_Pair), eR42 ([(⟨5, 8⟩ : api_Pair)] : List api_Pair), eB91 v4, eR44 v9]⟩) (by kernel_rfl) ?_
                    refine goK hT 3 (K12 111110 26) ⟨51, [(46, .b (v10 != (merkle_Tree_Root v4)))], [eR42 ([(⟨5, 7⟩ : api_Pair)] : List api_Pair), eR42 ([(⟨5, 8⟩ : api_Pair)] : List api_Pair), eB91 v4, eR44 v9]⟩ ?_
                    by_cases c25 : v10 = (merkle_Tree_Root v4)
                    · replace H := iT c25 H
                      rw [neF c25]
                      refine goK hT 6 (K12 11111 1) ⟨51, [(0, .b false)], [eR42 ([(⟨5, 7⟩ : api_Pair)] : List api_Pair), eR42 ([(⟨5, 8⟩ : api_Pair)] : List api_Pair), eB91 v4, eR44 v9]⟩ ?_
                      refine cutK [] ⟨51, [(0, .b false)], []⟩ h0 ?_
                      exact Jj2 false H
                    · replace H := iF c25 H
                      rw [neT c25]
                      refine goK hT 1 (K12 111110 27) ⟨51, [(46, .b true), (47, .d (.agg [.i 0, .b false]))], [eR42 ([(⟨5, 7⟩ : api_Pair)] : List api_Pair), eR42 ([(⟨5, 8⟩ : api_Pair)] : List api_Pair), eB91 v4, eR44 v9]⟩ ?_
                      obtain ⟨v11, h26, H⟩ := ibC H
                      refine ak_callP (avs := [.d (.agg [.i 0, .b false])]) (dst := some 48) (k' := (K12 111110 28)) [46, 48] [] hP enters_19 (merkle_Number.says (⟨0, false⟩ : api_Cell) h26) (by kernel_rfl) (hands_none _) (.cons (pass_d _) .nil) (st' := ⟨51, [(46, .b true), (48, .n .u32 v11)], [eR42 ([(⟨5, 7⟩ : api_Pair)] : List api_Pair), eR42 ([(⟨5, 8⟩ : api_Pair)] : List api_Pair), eB91 v4, eR44 v9]⟩) (by kernel_rfl) ?_
                      refine goK hT 4 (K12 11111 1) ⟨51, [(0, .b (v11 == 0))], [eR42 ([(⟨5, 7⟩ : api_Pair)] : List api_Pair), eR42 ([(⟨5, 8⟩ : api_Pair)] : List api_Pair), eB91 v4, eR44 v9]⟩ ?_
                      refine cutK [] ⟨51, [(0, .b (v11 == 0))], []⟩ h0 ?_
                      exact Jj2 (v11 == 0) H
                  · replace H := iF c23 H
                    rw [eqF c23]
                    refine goK hT 13 (K12 11111 1) ⟨51, [(0, .b false)], [eR42 ([(⟨5, 7⟩ : api_Pair)] : List api_Pair), eR42 ([(⟨5, 8⟩ : api_Pair)] : List api_Pair), eB91 v4, eR44 v9]⟩ ?_
                    refine cutK [] ⟨51, [(0, .b false)], []⟩ h0 ?_
                    exact Jj2 false H
                · replace H := iF c22 H
                  rw [eqF c22]
                  by_cases c27 : ((v9.getD 0 api_Span.z).Hi) = 6
                  · replace H := iT c27 H
                    rw [eqT c27]
                    refine goK hT 13 (K12 11111 1) ⟨51, [(0, .b false)], [eR42 ([(⟨5, 7⟩ : api_Pair)] : List api_Pair), eR42 ([(⟨5, 8⟩ : api_Pair)] : List api_Pair), eB91 v4, eR44 v9]⟩ ?_
                    refine cutK [] ⟨51, [(0, .b false)], []⟩ h0 ?_
                    exact Jj2 false H
                  · replace H := iF c27 H
                    rw [eqF c27]
                    refine goK hT 13 (K12 11111 1) ⟨51, [(0, .b false)], [eR42 ([(⟨5, 7⟩ : api_Pair)] : List api_Pair), eR42 ([(⟨5, 8⟩ : api_Pair)] : List api_Pair), eB91 v4, eR44 v9]⟩ ?_
                    refine cutK [] ⟨51, [(0, .b false)], []⟩ h0 ?_
                    exact Jj2 false H
              · replace H := iF c20 H
                rw [eqF c20]
                refine goK hT 20 (K12 11111 1) ⟨51, [(0, .b false)], [eR42 ([(⟨5, 7⟩ : api_Pair)] : List api_Pair), eR42 ([(⟨5, 8⟩ : api_Pair)] : List api_Pair), eB91 v4, eR44 v9]⟩ ?_
                refine cutK [] ⟨51, [(0, .b false)], []⟩ h0 ?_
                exact Jj2 false H
            · replace H := iF c19 H
              rw [eqF c19]
              refine goK hT 25 (K12 11111 1) ⟨51, [(0, .b false)], [eR42 ([(⟨5, 7⟩ : api_Pair)] : List api_Pair), eR42 ([(⟨5, 8⟩ : api_Pair)] : List api_Pair), eB91 v4, eR44 v9]⟩ ?_
              refine cutK [] ⟨51, [(0, .b false)], []⟩ h0 ?_
              exact Jj2 false H
          · replace H := iF c18 H
            rw [eqF c18]
            refine goK hT 29 (K12 11111 1) ⟨51, [(0, .b false)], [eR42 ([(⟨5, 7⟩ : api_Pair)] : List api_Pair), eR42 ([(⟨5, 8⟩ : api_Pair)] : List api_Pair), eB91 v4, eR44 v9]⟩ ?_
            refine cutK [] ⟨51, [(0, .b false)], []⟩ h0 ?_
            exact Jj2 false H
  | some v2 =>
      rw [q2] at H
      replace H := ioptS H
      have Sq2 := merkle_New.says (t0 := false) ([(⟨5, 7⟩ : api_Pair)] : List api_Pair) h1
      rw [q2] at Sq2
      refine ak_callP (avs := [.own 0 2 0 (([(⟨5, 7⟩ : api_Pair)] : List api_Pair).length)]) (dst := some 9) (k' := (K12 110 3)) [9] [] hP enters_10 (Sq2) (by kernel_rfl) (hands_none _) (.cons (.lend (ty := 42) (by kernel_rfl) rfl) .nil) (st' := ⟨51, [(9, .tup [.ptr 1 0 0 0, .i v1.2])], [eR42 ([(⟨5, 7⟩ : api_Pair)] : List api_Pair), eB91 v2]⟩) (by kernel_rfl) ?_
      refine goK hT 10 (K12 1110 2) ⟨51, [(1, .ptr 1 0 0 0), (2, .i v1.2), (14, .own 2 2 0 1)], [eR42 ([(⟨5, 7⟩ : api_Pair)] : List api_Pair), eB91 v2, .flat false 2 42 1 (fun j => [[.i 5, .i 8]].getD j [])]⟩ ?_
      refine ak_row 2 (kk := 2) (fz := false) (ty := 42) (n := ([(⟨5, 8⟩ : api_Pair)] : List api_Pair).length) (vec api_Pair.e api_Pair.z ([(⟨5, 8⟩ : api_Pair)] : List api_Pair)) (by kernel_rfl) vec_lit (st' := ⟨51, [(1, .ptr 1 0 0 0), (2, .i v1.2), (14, .own 2 2 0 (([(⟨5, 8⟩ : api_Pair)] : List api_Pair).length))], [eR42 ([(⟨5, 7⟩ : api_Pair)] : List api_Pair), eB91 v2, eR42 ([(⟨5, 8⟩ : api_Pair)] : List api_Pair)]⟩) (by kernel_rfl) ?_
      obtain ⟨v12, h28, H⟩ := ibC H
      cases q29 : v12.1 with
      | none =>
          rw [q29] at H
          replace H := ioptN H
          have Sq29 := merkle_New.says (t0 := false) ([(⟨5, 8⟩ : api_Pair)] : List api_Pair) h28
          rw [q29] at Sq29
          refine ak_callP (avs := [.own 2 2 0 (([(⟨5, 8⟩ : api_Pair)] : List api_Pair).length)]) (dst := some 15) (k' := (K12 1110 3)) [1, 2, 15] [] hP enters_10 (Sq29) (by kernel_rfl) (hands_none _) (.cons (.lend (ty := 42) (by kernel_rfl) rfl) .nil) (st' := ⟨51, [(1, .ptr 1 0 0 0), (2, .i v1.2), (15, .tup [.d .np, .i v12.2])], [eR42 ([(⟨5, 7⟩ : api_Pair)] : List api_Pair), eB91 v2, eR42 ([(⟨5, 8⟩ : api_Pair)] : List api_Pair)]⟩) (by kernel_rfl) ?_
          refine goK hT 10 (K12 11110 2) ⟨51, [(1, .ptr 1 0 0 0), (2, .i v1.2), (3, .d .np), (4, .i v12.2), (18, .ptr 1 0 0 0), (19, .d .np)], [eR42 ([(⟨5, 7⟩ : api_Pair)] : List api_Pair), eB91 v2, eR42 ([(⟨5, 8⟩ : api_Pair)] : List api_Pair)]⟩ ?_
          obtain ⟨v14, h30, H⟩ := ibC H
          have Jj3 : ∀ (y3_0 : Bool), (splicelaw20_awake.j3 y3_0) = some r → AK X 12 ((K12 11111 1)) (Back X [] (.b r)) ⟨51, [(0, .b y3_0)], []⟩ := by
            intro y3_0 H
            obtain rfl := retC H
            exact ak_ret hf hX (av := .b y3_0) (by kernel_rfl) [] (sel_of_eq (by kernel_rfl)) (by decide) (by rw [h0]; rfl) (by kernel_rfl) (fun _ h => all_nil h) (.d (.v _))
          refine ak_callP (avs := [.ptr 1 0 0 0, .d .np]) (dst := some 20) (k' := (K12 11110 3)) [1, 2, 3, 4, 20] [1] hP enters_14 (merkle_Diff_n1.says v2 h30) (by kernel_rfl) (hands_one rfl rfl) (.cons (.same (.ptr 0 0 0 0)) (.cons (pass_d _) .nil)) (st' := ⟨51, [(1, .ptr 1 0 0 0), (2, .i v1.2), (3, .d .np), (4, .i v12.2), (20, .own 3 2 0 v14.length)], [eR42 ([(⟨5, 7⟩ : api_Pair)] : List api_Pair), eB91 v2, eR42 ([(⟨5, 8⟩ : api_Pair)] : List api_Pair), eR44 v14]⟩) (by kernel_rfl) ?_
          refine goK hT 7 (K12 111110 3) ⟨51, [(1, .ptr 1 0 0 0), (3, .d .np), (4, .i v12.2), (5, .own 3 2 0 v14.length), (23, .b (v1.2 == 0))], [eR42 ([(⟨5, 7⟩ : api_Pair)] : List api_Pair), eB91 v2, eR42 ([(⟨5, 8⟩ : api_Pair)] : List api_Pair), eR44 v14]⟩ ?_
          by_cases c31 : v1.2 = 0
          · replace H := iT c31 H
            rw [eqT c31]
            refine goK hT 4 (K12 111110 7) ⟨51, [(1, .ptr 1 0 0 0), (3, .d .np), (5, .own 3 2 0 v14.length), (27, .b (v12.2 == 0))], [eR42 ([(⟨5, 7⟩ : api_Pair)] : List api_Pair), eB91 v2, eR42 ([(⟨5, 8⟩ : api_Pair)] : List api_Pair), eR44 v14]⟩ ?_
            by_cases c32 : v12.2 = 0
            · replace H := iT c32 H
              rw [eqT c32]
              refine goK hT 5 (K12 111110 12) ⟨51, [(1, .ptr 1 0 0 0), (3, .d .np), (5, .own 3 2 0 v14.length), (32, .b ((v14.length : Int) == 1))], [eR42 ([(⟨5, 7⟩ : api_Pair)] : List api_Pair), eB91 v2, eR42 ([(⟨5, 8⟩ : api_Pair)] : List api_Pair), eR44 v14]⟩ ?_
              by_cases c33 : (v14.length : Int) = 1
              · replace H := iT c33 H
                rw [eqT c33]
                refine goK hT 1 (K12 111110 13) ⟨51, [(1, .ptr 1 0 0 0), (3, .d .np), (32, .b true), (33, .own 3 2 0 v14.length)], [eR42 ([(⟨5, 7⟩ : api_Pair)] : List api_Pair), eB91 v2, eR42 ([(⟨5, 8⟩ : api_Pair)] : List api_Pair), eR44 v14]⟩ ?_
                obtain ⟨h34, H⟩ := iC H
                refine ak_idx hT [1, 3, 32, 34] (i := 0) (n := (v14.length : Int)) h34.1 h34.2 (k' := (K12 111110 14)) (st' := ⟨51, [(1, .ptr 1 0 0 0), (3, .d .np), (32, .b true), (34, .ptr 3 2 0 0)], [eR42 ([(⟨5, 7⟩ : api_Pair)] : List api_Pair), eB91 v2, eR42 ([(⟨5, 8⟩ : api_Pair)] : List api_Pair), eR44 v14]⟩) (by kernel_rfl) ?_
                refine ak_ld hT [1, 3, 32, 35] (i := 0) (n := v14.length) (by omega) (k' := (K12 111110 15)) (st' := ⟨51, [(1, .ptr 1 0 0 0), (3, .d .np), (32, .b true), (35, .d (eG44 (v14.getD 0 api_Span.z)))], [eR42 ([(⟨5, 7⟩ : api_Pair)] : List api_Pair), eB91 v2, eR42 ([(⟨5, 8⟩ : api_Pair)] : List api_Pair), eR44 v14]⟩) (by kernel_rfl) ?_
                refine goK hT 4 (K12 111110 19) ⟨51, [(1, .ptr 1 0 0 0), (3, .d .np), (39, .b ((((v14.getD 0 api_Span.z).Lo) == 5) && (((v14.getD 0 api_Span.z).Hi) == 6)))], [eR42 ([(⟨5, 7⟩ : api_Pair)] : List api_Pair), eB91 v2, eR42 ([(⟨5, 8⟩ : api_Pair)] : List api_Pair), eR44 v14]⟩ ?_
                by_cases c35 : ((v14.getD 0 api_Span.z).Lo) = 5
                · replace H := iT c35 H
                  rw [eqT c35]
                  by_cases c36 : ((v14.getD 0 api_Span.z).Hi) = 6
                  · replace H := iT c36 H
                    rw [eqT c36]
                    refine goK hT 1 (K12 111110 20) ⟨51, [(3, .d .np), (39, .b true), (40, .ptr 1 0 0 0)], [eR42 ([(⟨5, 7⟩ : api_Pair)] : List api_Pair), eB91 v2, eR42 ([(⟨5, 8⟩ : api_Pair)] : List api_Pair), eR44 v14]⟩ ?_
                    refine ak_callP (avs := [.ptr 1 0 0 0]) (dst := some 41) (k' := (K12 111110 21)) [3, 39, 41] [1] hP enters_18 (merkle_Tree_Root.says v2) (by kernel_rfl) (hands_one rfl rfl) (.cons (.same (.ptr 0 0 0 0)) .nil) (st' := ⟨51, [(3, .d .np), (39, .b true), (41, .n .u32 (merkle_Tree_Root v2))], [eR42 ([(⟨5, 7⟩ : api_Pair)] : List api_Pair), eB91 v2, eR42 ([(⟨5, 8⟩ : api_Pair)] : List api_Pair), eR44 v14]⟩) (by kernel_rfl) ?_
                    refine goK hT 1 (K12 111110 22) ⟨51, [(39, .b true), (41, .n .u32 (merkle_Tree_Root v2)), (42, .d .np)], [eR42 ([(⟨5, 7⟩ : api_Pair)] : List api_Pair), eB91 v2, eR42 ([(⟨5, 8⟩ : api_Pair)] : List api_Pair), eR44 v14]⟩ ?_
                    obtain ⟨v15, h37, H⟩ := ibC H
                    refine ak_callP (avs := [.d .np]) (dst := some 43) (k' := (K12 111110 23)) [39, 41, 43] [] hP enters_18 (merkle_Tree_Root_n0.says h37) (by kernel_rfl) (hands_none _) (.cons (pass_d _) .nil) (st' := ⟨51, [(39, .b true), (41, .n .u32 (merkle_Tree_Root v2)), (43, .n .u32 v15)], [eR42 ([(⟨5, 7⟩ : api_Pair)] : List api_Pair), eB91 v2, eR42 ([(⟨5, 8⟩ : api_Pair)] : List api_Pair), eR44 v14]⟩) (by kernel_rfl) ?_
                    refine goK hT 3 (K12 111110 26) ⟨51, [(46, .b ((merkle_Tree_Root v2) != v15))], [eR42 ([(⟨5, 7⟩ : api_Pair)] : List api_Pair), eB91 v2, eR42 ([(⟨5, 8⟩ : api_Pair)] : List api_Pair), eR44 v14]⟩ ?_
                    by_cases c38 : (merkle_Tree_Root v2) = v15
                    · replace H := iT c38 H
                      rw [neF c38]
                      refine goK hT 6 (K12 11111 1) ⟨51, [(0, .b false)], [eR42 ([(⟨5, 7⟩ : api_Pair)] : List api_Pair), eB91 v2, eR42 ([(⟨5, 8⟩ : api_Pair)] : List api_Pair), eR44 v14]⟩ ?_
                      refine cutK [] ⟨51, [(0, .b false)], []⟩ h0 ?_
                      exact Jj3 false H
                    · replace H := iF c38 H
                      rw [neT c38]
                      refine goK hT 1 (K12 111110 27) ⟨51, [(46, .b true), (47, .d (.agg [.i 0, .b false]))], [eR42 ([(⟨5, 7⟩ : api_Pair)] : List api_Pair), eB91 v2, eR42 ([(⟨5, 8⟩ : api_Pair)] : List api_Pair), eR44 v14]⟩ ?_
                      obtain ⟨v16, h39, H⟩ := ibC H
                      refine ak_callP (avs := [.d (.agg [.i 0, .b false])]) (dst := some 48) (k' := (K12 111110 28)) [46, 48] [] hP enters_19 (merkle_Number.says (⟨0, false⟩ : api_Cell) h39) (by kernel_rfl) (hands_none _) (.cons (pass_d _) .nil) (st' := ⟨51, [(46, .b true), (48, .n .u32 v16)], [eR42 ([(⟨5, 7⟩ : api_Pair)] : List api_Pair), eB91 v2, eR42 ([(⟨5, 8⟩ : api_Pair)] : List api_Pair), eR44 v14]⟩) (by kernel_rfl) ?_
                      refine goK hT 4 (K12 11111 1) ⟨51, [(0, .b (v16 == 0))], [eR42 ([(⟨5, 7⟩ : api_Pair)] : List api_Pair), eB91 v2, eR42 ([(⟨5, 8⟩ : api_Pair)] : List api_Pair), eR44 v14]⟩ ?_
                      refine cutK [] ⟨51, [(0, .b (v16 == 0))], []⟩ h0 ?_
                      exact Jj3 (v16 == 0) H
                  · replace H := iF c36 H
                    rw [eqF c36]
                    refine goK hT 13 (K12 11111 1) ⟨51, [(0, .b false)], [eR42 ([(⟨5, 7⟩ : api_Pair)] : List api_Pair), eB91 v2, eR42 ([(⟨5, 8⟩ : api_Pair)] : List api_Pair), eR44 v14]⟩ ?_
                    refine cutK [] ⟨51, [(0, .b false)], []⟩ h0 ?_
                    exact Jj3 false H
                · replace H := iF c35 H
                  rw [eqF c35]
                  by_cases c40 : ((v14.getD 0 api_Span.z).Hi) = 6
                  · replace H := iT c40 H
                    rw [eqT c40]
                    refine goK hT 13 (K12 11111 1) ⟨51, [(0, .b false)], [eR42 ([(⟨5, 7⟩ : api_Pair)] : List api_Pair), eB91 v2, eR42 ([(⟨5, 8⟩ : api_Pair)] : List api_Pair), eR44 v14]⟩ ?_
                    refine cutK [] ⟨51, [(0, .b false)], []⟩ h0 ?_
                    exact Jj3 false H
                  · replace H := iF c40 H
                    rw [eqF c40]
                    refine goK hT 13 (K12 11111 1) ⟨51, [(0, .b false)], [eR42 ([(⟨5, 7⟩ : api_Pair)] : List api_Pair), eB91 v2, eR42 ([(⟨5, 8⟩ : api_Pair)] : List api_Pair), eR44 v14]⟩ ?_
                    refine cutK [] ⟨51, [(0, .b false)], []⟩ h0 ?_
                    exact Jj3 false H
              · replace H := iF c33 H
                rw [eqF c33]
                refine goK hT 20 (K12 11111 1) ⟨51, [(0, .b false)], [eR42 ([(⟨5, 7⟩ : api_Pair)] : List api_Pair), eB91 v2, eR42 ([(⟨5, 8⟩ : api_Pair)] : List api_Pair), eR44 v14]⟩ ?_
                refine cutK [] ⟨51, [(0, .b false)], []⟩ h0 ?_
                exact Jj3 false H
            · replace H := iF c32 H
              rw [eqF c32]
              refine goK hT 25 (K12 11111 1) ⟨51, [(0, .b false)], [eR42 ([(⟨5, 7⟩ : api_Pair)] : List api_Pair), eB91 v2, eR42 ([(⟨5, 8⟩ : api_Pair)] : List api_Pair), eR44 v14]⟩ ?_
              refine cutK [] ⟨51, [(0, .b false)], []⟩ h0 ?_
              exact Jj3 false H
          · replace H := iF c31 H
            rw [eqF c31]
            refine goK hT 29 (K12 11111 1) ⟨51, [(0, .b false)], [eR42 ([(⟨5, 7⟩ : api_Pair)] : List api_Pair), eB91 v2, eR42 ([(⟨5, 8⟩ : api_Pair)] : List api_Pair), eR44 v14]⟩ ?_
            refine cutK [] ⟨51, [(0, .b false)], []⟩ h0 ?_
            exact Jj3 false H
      | some v13 =>
          rw [q29] at H
          replace H := ioptS H
          have Sq29 := merkle_New.says (t0 := false) ([(⟨5, 8⟩ : api_Pair)] : List api_Pair) h28
          rw [q29] at Sq29
          refine ak_callP (avs := [.own 2 2 0 (([(⟨5, 8⟩ : api_Pair)] : List api_Pair).length)]) (dst := some 15) (k' := (K12 1110 3)) [1, 2, 15] [] hP enters_10 (Sq29) (by kernel_rfl) (hands_none _) (.cons (.lend (ty := 42) (by kernel_rfl) rfl) .nil) (st' := ⟨51, [(1, .ptr 1 0 0 0), (2, .i v1.2), (15, .tup [.ptr 3 0 0 0, .i v12.2])], [eR42 ([(⟨5, 7⟩ : api_Pair)] : List api_Pair), eB91 v2, eR42 ([(⟨5, 8⟩ : api_Pair)] : List api_Pair), eB91 v13]⟩) (by kernel_rfl) ?_
          refine goK hT 10 (K12 11110 2) ⟨51, [(1, .ptr 1 0 0 0), (2, .i v1.2), (3, .ptr 3 0 0 0), (4, .i v12.2), (18, .ptr 1 0 0 0), (19, .ptr 3 0 0 0)], [eR42 ([(⟨5, 7⟩ : api_Pair)] : List api_Pair), eB91 v2, eR42 ([(⟨5, 8⟩ : api_Pair)] : List api_Pair), eB91 v13]⟩ ?_
          obtain ⟨v17, h41, H⟩ := ibC H
          have Jj4 : ∀ (y4_0 : Bool), (splicelaw20_awake.j4 y4_0) = some r → AK X 12 ((K12 11111 1)) (Back X [] (.b r)) ⟨51, [(0, .b y4_0)], []⟩ := by
            intro y4_0 H
            obtain rfl := retC H
            exact ak_ret hf hX (av := .b y4_0) (by kernel_rfl) [] (sel_of_eq (by kernel_rfl)) (by decide) (by rw [h0]; rfl) (by kernel_rfl) (fun _ h => all_nil h) (.d (.v _))
          refine ak_callP (avs := [.ptr 1 0 0 0, .ptr 3 0 0 0]) (dst := some 20) (k' := (K12 11110 3)) [1, 2, 3, 4, 20] [1, 3] hP enters_14 (merkle_Diff.says v2 v13 h41) (by kernel_rfl) (hands_two rfl rfl rfl rfl (by decide)) (.cons (.same (.ptr 0 0 0 0)) (.cons (.same (.ptr 1 0 0 0)) .nil)) (st' := ⟨51, [(1, .ptr 1 0 0 0), (2, .i v1.2), (3, .ptr 3 0 0 0), (4, .i v12.2), (20, .own 4 2 0 v17.length)], [eR42 ([(⟨5, 7⟩ : api_Pair)] : List api_Pair), eB91 v2, eR42 ([(⟨5, 8⟩ : api_Pair)] : List api_Pair), eB91 v13, eR44 v17]⟩) (by kernel_rfl) ?_
          refine goK hT 7 (K12 111110 3) ⟨51, [(1, .ptr 1 0 0 0), (3, .ptr 3 0 0 0), (4, .i v12.2), (5, .own 4 2 0 v17.length), (23, .b (v1.2 == 0))], [eR42 ([(⟨5, 7⟩ : api_Pair)] : List api_Pair), eB91 v2, eR42 ([(⟨5, 8⟩ : api_Pair)] : List api_Pair), eB91 v13, eR44 v17]⟩ ?_
          by_cases c42 : v1.2 = 0
          · replace H := iT c42 H
            rw [eqT c42]
            refine goK hT 4 (K12 111110 7) ⟨51, [(1, .ptr 1 0 0 0), (3, .ptr 3 0 0 0), (5, .own 4 2 0 v17.length), (27, .b (v12.2 == 0))], [eR42 ([(⟨5, 7⟩ : api_Pair)] : List api_Pair), eB91 v2, eR42 ([(⟨5, 8⟩ : api_Pair)] : List api_Pair), eB91 v13, eR44 v17]⟩ ?_
            by_cases c43 : v12.2 = 0
            · replace H := iT c43 H
              rw [eqT c43]
              refine goK hT 5 (K12 111110 12) ⟨51, [(1, .ptr 1 0 0 0), (3, .ptr 3 0 0 0), (5, .own 4 2 0 v17.length), (32, .b ((v17.length : Int) == 1))], [eR42 ([(⟨5, 7⟩ : api_Pair)] : List api_Pair), eB91 v2, eR42 ([(⟨5, 8⟩ : api_Pair)] : List api_Pair), eB91 v13, eR44 v17]⟩ ?_
              by_cases c44 : (v17.length : Int) = 1
              · replace H := iT c44 H
                rw [eqT c44]
                refine goK hT 1 (K12 111110 13) ⟨51, [(1, .ptr 1 0 0 0), (3, .ptr 3 0 0 0), (32, .b true), (33, .own 4 2 0 v17.length)], [eR42 ([(⟨5, 7⟩ : api_Pair)] : List api_Pair), eB91 v2, eR42 ([(⟨5, 8⟩ : api_Pair)] : List api_Pair), eB91 v13, eR44 v17]⟩ ?_
                obtain ⟨h45, H⟩ := iC H
                refine ak_idx hT [1, 3, 32, 34] (i := 0) (n := (v17.length : Int)) h45.1 h45.2 (k' := (K12 111110 14)) (st' := ⟨51, [(1, .ptr 1 0 0 0), (3, .ptr 3 0 0 0), (32, .b true), (34, .ptr 4 2 0 0)], [eR42 ([(⟨5, 7⟩ : api_Pair)] : List api_Pair), eB91 v2, eR42 ([(⟨5, 8⟩ : api_Pair)] : List api_Pair), eB91 v13, eR44 v17]⟩) (by kernel_rfl) ?_
                refine ak_ld hT [1, 3, 32, 35] (i := 0) (n := v17.length) (by omega) (k' := (K12 111110 15)) (st' := ⟨51, [(1, .ptr 1 0 0 0), (3, .ptr 3 0 0 0), (32, .b true), (35, .d (eG44 (v17.getD 0 api_Span.z)))], [eR42 ([(⟨5, 7⟩ : api_Pair)] : List api_Pair), eB91 v2, eR42 ([(⟨5, 8⟩ : api_Pair)] : List api_Pair), eB91 v13, eR44 v17]⟩) (by kernel_rfl) ?_
                refine goK hT 4 (K12 111110 19) ⟨51, [(1, .ptr 1 0 0 0), (3, .ptr 3 0 0 0), (39, .b ((((v17.getD 0 api_Span.z).Lo) == 5) && (((v17.getD 0 api_Span.z).Hi) == 6)))], [eR42 ([(⟨5, 7⟩ : api_Pair)] : List api_Pair), eB91 v2, eR42 ([(⟨5, 8⟩ : api_Pair)] : List api_Pair), eB91 v13, eR44 v17]⟩ ?_
                by_cases c46 : ((v17.getD 0 api_Span.z).Lo) = 5
                · replace H := iT c46 H
                  rw [eqT c46]
                  by_cases c47 : ((v17.getD 0 api_Span.z).Hi) = 6
                  · replace H := iT c47 H
                    rw [eqT c47]
                    refine goK hT 1 (K12 111110 20) ⟨51, [(3, .ptr 3 0 0 0), (39, .b true), (40, .ptr 1 0 0 0)], [eR42 ([(⟨5, 7⟩ : api_Pair)] : List api_Pair), eB91 v2, eR42 ([(⟨5, 8⟩ : api_Pair)] : List api_Pair), eB91 v13, eR44 v17]⟩ ?_
                    refine ak_callP (avs := [.ptr 1 0 0 0]) (dst := some 41) (k' := (K12 111110 21)) [3, 39, 41] [1] hP enters_18 (merkle_Tree_Root.says v2) (by kernel_rfl) (hands_one rfl rfl) (.cons (.same (.ptr 0 0 0 0)) .nil) (st' := ⟨51, [(3, .ptr 3 0 0 0), (39, .b true), (41, .n .u32 (merkle_Tree_Root v2))], [eR42 ([(⟨5, 7⟩ : api_Pair)] : List api_Pair), eB91 v2, eR42 ([(⟨5, 8⟩ : api_Pair)] : List api_Pair), eB91 v13, eR44 v17]⟩) (by kernel_rfl) ?_
                    refine goK hT 1 (K12 111110 22) ⟨51, [(39, .b true), (41, .n .u32 (merkle_Tree_Root v2)), (42, .ptr 3 0 0 0)], [eR42 ([(⟨5, 7⟩ : api_Pair)] : List api_Pair), eB91 v2, eR42 ([(⟨5, 8⟩ : api_Pair)] : List api_Pair), eB91 v13, eR44 v17]⟩ ?_
                    refine ak_callP (avs := [.ptr 3 0 0 0]) (dst := some 43) (k' := (K12 111110 23)) [39, 41, 43] [3] hP enters_18 (merkle_Tree_Root.says v13) (by kernel_rfl) (hands_one rfl rfl) (.cons (.same (.ptr 0 0 0 0)) .nil) (st' := ⟨51, [(39, .b true), (41, .n .u32 (merkle_Tree_Root v2)), (43, .n .u32 (merkle_Tree_Root v13))], [eR42 ([(⟨5, 7⟩ : api_Pair)] : List api_Pair), eB91 v2, eR42 ([(⟨5, 8⟩ : api_Pair)] : List api_Pair), eB91 v13, eR44 v17]⟩) (by kernel_rfl) ?_
                    refine goK hT 3 (K12 111110 26) ⟨51, [(46, .b ((merkle_Tree_Root v2) != (merkle_Tree_Root v13)))], [eR42 ([(⟨5, 7⟩ : api_Pair)] : List api_Pair), eB91 v2, eR42 ([(⟨5, 8⟩ : api_Pair)] : List api_Pair), eB91 v13, eR44 v17]⟩ ?_
                    by_cases c48 : (merkle_Tree_Root v2) = (merkle_Tree_Root v13)
                    · replace H := iT c48 H
                      rw [neF c48]
                      refine goK hT 6 (K12 11111 1) ⟨51, [(0, .b false)], [eR42 ([(⟨5, 7⟩ : api_Pair)] : List api_Pair), eB91 v2, eR42 ([(⟨5, 8⟩ : api_Pair)] : List api_Pair), eB91 v13, eR44 v17]⟩ ?_
                      refine cutK [] ⟨51, [(0, .b false)], []⟩ h0 ?_
                      exact Jj4 false H
                    · replace H := iF c48 H
                      rw [neT c48]
                      refine goK hT 1 (K12 111110 27) ⟨51, [(46, .b true), (47, .d (.agg [.i 0, .b false]))], [eR42 ([(⟨5, 7⟩ : api_Pair)] : List api_Pair), eB91 v2, eR42 ([(⟨5, 8⟩ : api_Pair)] : List api_Pair), eB91 v13, eR44 v17]⟩ ?_
                      obtain ⟨v18, h49, H⟩ := ibC H
                      refine ak_callP (avs := [.d (.agg [.i 0, .b false])]) (dst := some 48) (k' := (K12 111110 28)) [46, 48] [] hP enters_19 (merkle_Number.says (⟨0, false⟩ : api_Cell) h49) (by kernel_rfl) (hands_none _) (.cons (pass_d _) .nil) (st' := ⟨51, [(46, .b true), (48, .n .u32 v18)], [eR42 ([(⟨5, 7⟩ : api_Pair)] : List api_Pair), eB91 v2, eR42 ([(⟨5, 8⟩ : api_Pair)] : List api_Pair), eB91 v13, eR44 v17]⟩) (by kernel_rfl) ?_
                      refine goK hT 4 (K12 11111 1) ⟨51, [(0, .b (v18 == 0))], [eR42 ([(⟨5, 7⟩ : api_Pair)] : List api_Pair), eB91 v2, eR42 ([(⟨5, 8⟩ : api_Pair)] : List api_Pair), eB91 v13, eR44 v17]⟩ ?_
                      refine cutK [] ⟨51, [(0, .b (v18 == 0))], []⟩ h0 ?_
                      exact Jj4 (v18 == 0) H
                  · replace H := iF c47 H
                    rw [eqF c47]
                    refine goK hT 13 (K12 11111 1) ⟨51, [(0, .b false)], [eR42 ([(⟨5, 7⟩ : api_Pair)] : List api_Pair), eB91 v2, eR42 ([(⟨5, 8⟩ : api_Pair)] : List api_Pair), eB91 v13, eR44 v17]⟩ ?_
                    refine cutK [] ⟨51, [(0, .b false)], []⟩ h0 ?_
                    exact Jj4 false H
                · replace H := iF c46 H
                  rw [eqF c46]
                  by_cases c50 : ((v17.getD 0 api_Span.z).Hi) = 6
                  · replace H := iT c50 H
                    rw [eqT c50]
                    refine goK hT 13 (K12 11111 1) ⟨51, [(0, .b false)], [eR42 ([(⟨5, 7⟩ : api_Pair)] : List api_Pair), eB91 v2, eR42 ([(⟨5, 8⟩ : api_Pair)] : List api_Pair), eB91 v13, eR44 v17]⟩ ?_
                    refine cutK [] ⟨51, [(0, .b false)], []⟩ h0 ?_
                    exact Jj4 false H
                  · replace H := iF c50 H
                    rw [eqF c50]
                    refine goK hT 13 (K12 11111 1) ⟨51, [(0, .b false)], [eR42 ([(⟨5, 7⟩ : api_Pair)] : List api_Pair), eB91 v2, eR42 ([(⟨5, 8⟩ : api_Pair)] : List api_Pair), eB91 v13, eR44 v17]⟩ ?_
                    refine cutK [] ⟨51, [(0, .b false)], []⟩ h0 ?_
                    exact Jj4 false H
              · replace H := iF c44 H
                rw [eqF c44]
                refine goK hT 20 (K12 11111 1) ⟨51, [(0, .b false)], [eR42 ([(⟨5, 7⟩ : api_Pair)] : List api_Pair), eB91 v2, eR42 ([(⟨5, 8⟩ : api_Pair)] : List api_Pair), eB91 v13, eR44 v17]⟩ ?_
                refine cutK [] ⟨51, [(0, .b false)], []⟩ h0 ?_
                exact Jj4 false H
            · replace H := iF c43 H
              rw [eqF c43]
              refine goK hT 25 (K12 11111 1) ⟨51, [(0, .b false)], [eR42 ([(⟨5, 7⟩ : api_Pair)] : List api_Pair), eB91 v2, eR42 ([(⟨5, 8⟩ : api_Pair)] : List api_Pair), eB91 v13, eR44 v17]⟩ ?_
              refine cutK [] ⟨51, [(0, .b false)], []⟩ h0 ?_
              exact Jj4 false H
          · replace H := iF c42 H
            rw [eqF c42]
            refine goK hT 29 (K12 11111 1) ⟨51, [(0, .b false)], [eR42 ([(⟨5, 7⟩ : api_Pair)] : List api_Pair), eB91 v2, eR42 ([(⟨5, 8⟩ : api_Pair)] : List api_Pair), eB91 v13, eR44 v17]⟩ ?_
            refine cutK [] ⟨51, [(0, .b false)], []⟩ h0 ?_
            exact Jj4 false H


theorem splicelaw05_Refs.says {t0 : Bool} (a0 : List api_Pair) {r : List spliceref04_Pair} (H : splicelaw05_Refs a0 = some r) : Says Try.prog 22 [] [.d (eL42 t0 a0)] [eR94 r] (.own 0 2 0 r.length) := by
  refine says_of Try.func22 rfl (nt := 19) rfl (Nat.le_of_ble_eq_true rfl) fun X hP h0 hX => ?_
  have hT : TabOk X.P T := hP ▸ tok
  have hf : X.P.funcs[22]? = some Try.f22 := hP ▸ Try.func22
  refine goK hT 15 (K22 111010 0) ⟨19, [(0, .d (eL42 t0 a0)), (3, .ns), (4, .i 0)], []⟩ ?_
  refine ak_nilS [0, 3, 4] 3 2 94 (vec spliceref04_Pair.e spliceref04_Pair.z []) (st' := ⟨19, [(0, .d (eL42 t0 a0)), (3, .own 0 2 0 0), (4, .i 0)], [eR94 ([] : List spliceref04_Pair)]⟩) (by kernel_rfl) (by kernel_rfl) ?_
  have L : ∀ n, (∀ (x1_4 : Int) (x1_r0 : List spliceref04_Pair), iter (splicelaw05_Refs.step a0) n (.l1 x1_4 x1_r0) = some r → AK X 22 ((K22 111010 0)) (Back X [eR94 r] (.own 0 2 0 r.length)) ⟨19, [(0, .d (eL42 t0 a0)), (3, .own 0 2 0 x1_r0.length), (4, .i x1_4)], [eR94 x1_r0]⟩) := by
    intro n
    induction n with
    | zero => exact fun _ _ H => iter0 H
    | succ n ih =>
      · intro x1_4 x1_r0 H
        refine goK hT 8 (K22 11101000 1) ⟨19, [(0, .d (eL42 t0 a0)), (3, .own 0 2 0 x1_r0.length), (4, .i x1_4), (8, .b (decide (x1_4 < (a0.length : Int))))], [eR94 x1_r0]⟩ ?_
        by_cases c1 : x1_4 < (a0.length : Int)
        · replace H := sT c1 H
          rw [decide_eq_true c1]
          refine goK hT 2 (K22 1110100 1) ⟨19, [(0, .d (eL42 t0 a0)), (3, .own 0 2 0 x1_r0.length), (4, .i x1_4)], [eR94 x1_r0]⟩ ?_
          refine goK hT 6 (K22 1110100100 3) ⟨19, [(0, .d (eL42 t0 a0)), (4, .i x1_4), (11, .own 0 2 0 x1_r0.length), (12, .d (eL42 t0 a0)), (13, .i x1_4)], [eR94 x1_r0]⟩ ?_
          obtain ⟨h2, H⟩ := sC H
          refine ak_idx hT [0, 4, 11, 14] (i := x1_4) (n := (a0.length : Int)) h2.1 h2.2 (k' := (K22 1110100100 4)) (st' := ⟨19, [(0, .d (eL42 t0 a0)), (4, .i x1_4), (11, .own 0 2 0 x1_r0.length), (14, .d (eP42 t0 a0 x1_4.toNat 0))], [eR94 x1_r0]⟩) (by kernel_rfl) ?_
          refine goK hT 2 (K22 1110100100 6) ⟨19, [(0, .d (eL42 t0 a0)), (4, .i x1_4), (11, .own 0 2 0 x1_r0.length), (16, .own 1 2 0 1)], [eR94 x1_r0, .flat false 2 94 1 (fun j => [api_Pair.e (a0.getD x1_4.toNat api_Pair.z)].getD j [])]⟩ ?_
          obtain ⟨h3, H⟩ := sC H
          refine ak_append1 (id := 0) (kk := 2) (by' := 16) (t := 53) (e := 94) (z := [.int .i64 0, .int .i64 0]) (dst := some 17) (id2 := 1) (e2 := 94) (fz := false) (k' := (K22 1110100100 7)) hT spliceref04_Pair.e spliceref04_Pair.z x1_r0 (⟨(a0.getD x1_4.toNat api_Pair.z).Key, (a0.getD x1_4.toNat api_Pair.z).Val⟩ : spliceref04_Pair) [0, 4, 17] (by kernel_rfl) (by kernel_rfl) (by kernel_rfl) (by kernel_rfl) (by kernel_rfl) (by kernel_rfl) (by kernel_rfl) h3 (by omega) (st' := ⟨19, [(0, .d (eL42 t0 a0)), (4, .i x1_4), (17, .own 2 2 0 ((x1_r0 ++ [(⟨(a0.getD x1_4.toNat api_Pair.z).Key, (a0.getD x1_4.toNat api_Pair.z).Val⟩ : spliceref04_Pair)]).length))], [.gone, .flat false 2 94 1 (fun j => [api_Pair.e (a0.getD x1_4.toNat api_Pair.z)].getD j []), eR94 (x1_r0 ++ [(⟨(a0.getD x1_4.toNat api_Pair.z).Key, (a0.getD x1_4.toNat api_Pair.z).Val⟩ : spliceref04_Pair)])]⟩) (by kernel_rfl) ?_
          refine goK hT 9 (K22 111010 0) ⟨19, [(0, .d (eL42 t0 a0)), (3, .own 2 2 0 ((x1_r0 ++ [(⟨(a0.getD x1_4.toNat api_Pair.z).Key, (a0.getD x1_4.toNat api_Pair.z).Val⟩ : spliceref04_Pair)]).length)), (4, .i (IntKind.wrap .i64 (x1_4 + 1)))], [.gone, .flat false 2 94 1 (fun j => [api_Pair.e (a0.getD x1_4.toNat api_Pair.z)].getD j []), eR94 (x1_r0 ++ [(⟨(a0.getD x1_4.toNat api_Pair.z).Key, (a0.getD x1_4.toNat api_Pair.z).Val⟩ : spliceref04_Pair)])]⟩ ?_
          refine cutK [2] ⟨19, [(0, .d (eL42 t0 a0)), (3, .own 0 2 0 (x1_r0 ++ [(⟨(a0.getD x1_4.toNat api_Pair.z).Key, (a0.getD x1_4.toNat api_Pair.z).Val⟩ : spliceref04_Pair)]).length), (4, .i (IntKind.wrap .i64 (x1_4 + 1)))], [eR94 (x1_r0 ++ [(⟨(a0.getD x1_4.toNat api_Pair.z).Key, (a0.getD x1_4.toNat api_Pair.z).Val⟩ : spliceref04_Pair)])]⟩ h0 ?_
          exact ih (IntKind.wrap .i64 (x1_4 + 1)) (x1_r0 ++ [(⟨(a0.getD x1_4.toNat api_Pair.z).Key, (a0.getD x1_4.toNat api_Pair.z).Val⟩ : spliceref04_Pair)]) H
        · replace H := sF c1 H
          rw [decide_eq_false c1]
          refine goK hT 7 (K22 1111 1) ⟨19, [(2, .own 0 2 0 x1_r0.length)], [eR94 x1_r0]⟩ ?_
          obtain rfl := retC H
          exact ak_ret hf hX (av := .own 0 2 0 x1_r0.length) (by kernel_rfl) [0] (sel_of_eq (by kernel_rfl)) (by decide) (by rw [h0]; rfl) (by kernel_rfl) (fun _ h => all_cons (nr_vec spliceref04_Pair.nl) (fun _ h => all_nil h) h) (.own _ _ _ _)
  refine cutK [0] ⟨19, [(0, .d (eL42 t0 a0)), (3, .own 0 2 0 ([] : List spliceref04_Pair).length), (4, .i 0)], [eR94 ([] : List spliceref04_Pair)]⟩ h0 ?_
  obtain ⟨n, H⟩ := loopC H
  exact (L n) 0 ([] : List spliceref04_Pair) H


theorem spliceref02_Sum.says (a0 : ByteArray) {r : Int} (H : spliceref02_Sum a0 = some r) : Says Try.prog 41 [] [.s a0] [] (.n .u32 r) := by
  refine says_of Try.func41 rfl (nt := 37) rfl (Nat.le_of_ble_eq_true rfl) fun X hP h0 hX => ?_
  have hT : TabOk X.P T := hP ▸ tok
  have hf : X.P.funcs[41]? = some Try.f41 := hP ▸ Try.func41
  refine goK hT 15 (K41 111010 0) ⟨37, [(0, .s a0), (3, .n .u32 4294967295), (4, .i 0)], []⟩ ?_
  have L : ∀ n, (∀ (x1_3 : Int) (x1_4 : Int), iter (spliceref02_Sum.step a0) n (.l1 x1_3 x1_4) = some r → AK X 41 ((K41 111010 0)) (Back X [] (.n .u32 r)) ⟨37, [(0, .s a0), (3, .n .u32 x1_3), (4, .i x1_4)], []⟩) ∧ (∀ (x2_3 : Int) (x2_4 : Int) (x2_5 : Int), iter (spliceref02_Sum.step a0) n (.l2 x2_3 x2_4 x2_5) = some r → AK X 41 ((K41 111010010010 0)) (Back X [] (.n .u32 r)) ⟨37, [(0, .s a0), (3, .n .u32 x2_3), (4, .i x2_4), (5, .i x2_5)], []⟩) := by
    intro n
    induction n with
    | zero => exact ⟨fun _ _ H => iter0 H, fun _ _ _ H => iter0 H⟩
    | succ n ih =>
      refine ⟨?_, ?_⟩
      · intro x1_3 x1_4 H
        refine goK hT 8 (K41 11101000 1) ⟨37, [(0, .s a0), (3, .n .u32 x1_3), (4, .i x1_4), (11, .b (decide (x1_4 < (a0.size : Int))))], []⟩ ?_
        by_cases c1 : x1_4 < (a0.size : Int)
        · replace H := sT c1 H
          rw [decide_eq_true c1]
          refine goK hT 2 (K41 1110100 1) ⟨37, [(0, .s a0), (3, .n .u32 x1_3), (4, .i x1_4)], []⟩ ?_
          refine goK hT 8 (K41 111010010010 0) ⟨37, [(0, .s a0), (3, .n .u32 x1_3), (4, .i x1_4), (5, .i 0)], []⟩ ?_
          refine cutK [] ⟨37, [(0, .s a0), (3, .n .u32 x1_3), (4, .i x1_4), (5, .i 0)], []⟩ h0 ?_
          exact ih.2 x1_3 x1_4 0 H
        · replace H := sF c1 H
          rw [decide_eq_false c1]
          refine goK hT 8 (K41 1111 1) ⟨37, [(2, .n .u32 (IntKind.wrap .u32 (4294967295 - x1_3)))], []⟩ ?_
          obtain rfl := retC H
          exact ak_ret hf hX (av := .n .u32 (IntKind.wrap .u32 (4294967295 - x1_3))) (by kernel_rfl) [] (sel_of_eq (by kernel_rfl)) (by decide) (by rw [h0]; rfl) (by kernel_rfl) (fun _ h => all_nil h) (.d (.v _))
      · intro x2_3 x2_4 x2_5 H
        refine goK hT 6 (K41 11101001001000 1) ⟨37, [(0, .s a0), (3, .n .u32 x2_3), (4, .i x2_4), (5, .i x2_5), (15, .b (decide (x2_5 < 8)))], []⟩ ?_
        by_cases c2 : x2_5 < 8
        · replace H := sT c2 H
          rw [decide_eq_true c2]
          refine goK hT 2 (K41 1110100100100 1) ⟨37, [(0, .s a0), (3, .n .u32 x2_3), (4, .i x2_4), (5, .i x2_5)], []⟩ ?_
          refine goK hT 6 (K41 11101001001001000 2) ⟨37, [(0, .s a0), (3, .n .u32 x2_3), (4, .i x2_4), (5, .i x2_5), (18, .s a0), (19, .i x2_4)], []⟩ ?_
          obtain ⟨h3, H⟩ := sC H
          refine ak_idx hT [0, 3, 4, 5, 20] (i := x2_4) (n := (a0.size : Int)) h3.1 h3.2 (k' := (K41 11101001001001000 3)) (st' := ⟨37, [(0, .s a0), (3, .n .u32 x2_3), (4, .i x2_4), (5, .i x2_5), (20, .n .u8 (byteAt a0 x2_4))], []⟩) (by kernel_rfl) ?_
          refine goK hT 2 (K41 11101001001001000 5) ⟨37, [(0, .s a0), (3, .n .u32 x2_3), (4, .i x2_4), (5, .i x2_5), (20, .n .u8 (byteAt a0 x2_4)), (22, .n .u64 (IntKind.wrap .u64 x2_5))], []⟩ ?_
          obtain ⟨h4, H⟩ := sC H
          refine ak_bin (op := .shr) (t := 5) (u := .int .u8 (byteAt a0 x2_4)) (v := .int .u64 (IntKind.wrap .u64 x2_5)) (z := .int .u8 (Int.fdiv (byteAt a0 x2_4) (2 ^ (min (IntKind.wrap .u64 x2_5).toNat 8)))) (dst := some 23) (k' := (K41 11101001001001000 6)) hT [0, 3, 4, 5, 23] (by kernel_rfl) (by simp only [binV, if_pos h4]; rfl) (st' := ⟨37, [(0, .s a0), (3, .n .u32 x2_3), (4, .i x2_4), (5, .i x2_5), (23, .n .u8 (Int.fdiv (byteAt a0 x2_4) (2 ^ (min (IntKind.wrap .u64 x2_5).toNat 8))))], []⟩) (by kernel_rfl) ?_
          refine goK hT 3 (K41 11101001001001000 9) ⟨37, [(0, .s a0), (3, .n .u32 x2_3), (4, .i x2_4), (5, .i x2_5), (6, .n .u32 (Int.tmod (IntKind.wrap .u32 (Int.fdiv (byteAt a0 x2_4) (2 ^ (min (IntKind.wrap .u64 x2_5).toNat 8)))) 2))], []⟩ ?_
          obtain ⟨v1, h5, H⟩ := sdC H
          have Jj1 : ∀ (y1_3 : Int), stk (spliceref02_Sum.j1 x2_4 x2_5 y1_3) (iter (spliceref02_Sum.step a0) n) = some r → AK X 41 ((K41 11101001001001 1)) (Back X [] (.n .u32 r)) ⟨37, [(0, .s a0), (3, .n .u32 y1_3), (4, .i x2_4), (5, .i x2_5)], []⟩ := by
            intro y1_3 H
            refine goK hT 6 (K41 111010010010 0) ⟨37, [(0, .s a0), (3, .n .u32 y1_3), (4, .i x2_4), (5, .i (IntKind.wrap .i64 (x2_5 + 1)))], []⟩ ?_
            refine cutK [] ⟨37, [(0, .s a0), (3, .n .u32 y1_3), (4, .i x2_4), (5, .i (IntKind.wrap .i64 (x2_5 + 1)))], []⟩ h0 ?_
            exact ih.2 y1_3 x2_4 (IntKind.wrap .i64 (x2_5 + 1)) H
          rw [← h5]
          refine goK hT 19 (K41 1110100100100100111 1) ⟨37, [(0, .s a0), (3, .n .u32 (IntKind.wrap .u32 (Int.tdiv x2_3 2))), (4, .i x2_4), (5, .i x2_5), (32, .b ((Int.tmod x2_3 2) != v1))], []⟩ ?_
          by_cases c6 : (Int.tmod x2_3 2) = v1
          · replace H := sT c6 H
            rw [neF c6]
            refine goK hT 3 (K41 11101001001001 1) ⟨37, [(0, .s a0), (3, .n .u32 (IntKind.wrap .u32 (Int.tdiv x2_3 2))), (4, .i x2_4), (5, .i x2_5)], []⟩ ?_
            refine cutK [] ⟨37, [(0, .s a0), (3, .n .u32 (IntKind.wrap .u32 (Int.tdiv x2_3 2))), (4, .i x2_4), (5, .i x2_5)], []⟩ h0 ?_
            exact Jj1 (IntKind.wrap .u32 (Int.tdiv x2_3 2)) H
          · replace H := sF c6 H
            rw [neT c6]
            refine goK hT 7 (K41 11101001001001 1) ⟨37, [(0, .s a0), (3, .n .u32 (bXor .u32 (IntKind.wrap .u32 (Int.tdiv x2_3 2)) 3988292384)), (4, .i x2_4), (5, .i x2_5)], []⟩ ?_
            refine cutK [] ⟨37, [(0, .s a0), (3, .n .u32 (bXor .u32 (IntKind.wrap .u32 (Int.tdiv x2_3 2)) 3988292384)), (4, .i x2_4), (5, .i x2_5)], []⟩ h0 ?_
            exact Jj1 (bXor .u32 (IntKind.wrap .u32 (Int.tdiv x2_3 2)) 3988292384) H
        · replace H := sF c2 H
          rw [decide_eq_false c2]
          refine goK hT 9 (K41 111010 0) ⟨37, [(0, .s a0), (3, .n .u32 x2_3), (4, .i (IntKind.wrap .i64 (x2_4 + 1)))], []⟩ ?_
          refine cutK [] ⟨37, [(0, .s a0), (3, .n .u32 x2_3), (4, .i (IntKind.wrap .i64 (x2_4 + 1)))], []⟩ h0 ?_
          exact ih.1 x2_3 (IntKind.wrap .i64 (x2_4 + 1)) H
  refine cutK [] ⟨37, [(0, .s a0), (3, .n .u32 4294967295), (4, .i 0)], []⟩ h0 ?_
  obtain ⟨n, H⟩ := loopC H
  exact (L n).1 4294967295 0 H


theorem spliceref20_Number.says (a0 : spliceref05_Cell) {r : Int} (H : spliceref20_Number a0 = some r) : Says Try.prog 20 [] [.d (eG51 a0)] [] (.n .u32 r) := by
  refine says_of Try.func20 rfl (nt := 29) rfl (Nat.le_of_ble_eq_true rfl) fun X hP h0 hX => ?_
  have hT : TabOk X.P T := hP ▸ tok
  have hf : X.P.funcs[20]? = some Try.f20 := hP ▸ Try.func20
  refine goK hT 12 (K20 110 1) ⟨29, [(1, .ptr 0 0 0 0), (8, .b (!a0.Some))], [.box 51 (eC51 a0)]⟩ ?_
  by_cases c1 : a0.Some = true
  · replace H := iT c1 H
    rw [c1]
    refine goK hT 2 (K20 11 1) ⟨29, [(1, .ptr 0 0 0 0)], [.box 51 (eC51 a0)]⟩ ?_
    refine goK hT 19 (K20 11111010 0) ⟨29, [(3, .n .u64 (IntKind.wrap .u64 a0.Val)), (4, .own 1 1 0 1), (5, .i 7)], [.box 51 (eC51 a0), .flat false 1 5 1 (fun j => [[.n .u8 1]].getD j [])]⟩ ?_
    refine ak_row 1 (kk := 1) (fz := false) (ty := 5) (n := ([1] : List Int).length) (vec (eI .u8) 0 ([1] : List Int)) (by kernel_rfl) vec_lit (st' := ⟨29, [(3, .n .u64 (IntKind.wrap .u64 a0.Val)), (4, .own 1 1 0 (([1] : List Int).length)), (5, .i 7)], [.box 51 (eC51 a0), eR5 ([1] : List Int)]⟩) (by kernel_rfl) ?_
    have L : ∀ n, (∀ (x1_5 : Int) (x1_r0 : List Int), iter (spliceref20_Number.step a0) n (.l1 x1_5 x1_r0) = some r → AK X 20 ((K20 11111010 0)) (Back X [] (.n .u32 r)) ⟨29, [(3, .n .u64 (IntKind.wrap .u64 a0.Val)), (4, .own 0 1 0 x1_r0.length), (5, .i x1_5)], [eR5 x1_r0]⟩) := by
      intro n
      induction n with
      | zero => exact fun _ _ H => iter0 H
      | succ n ih =>
        · intro x1_5 x1_r0 H
          refine goK hT 6 (K20 1111101000 1) ⟨29, [(3, .n .u64 (IntKind.wrap .u64 a0.Val)), (4, .own 0 1 0 x1_r0.length), (5, .i x1_5), (14, .b (decide (x1_5 ≥ 0)))], [eR5 x1_r0]⟩ ?_
          by_cases c2 : x1_5 ≥ 0
          · replace H := sT c2 H
            rw [decide_eq_true c2]
            refine goK hT 2 (K20 111110100 1) ⟨29, [(3, .n .u64 (IntKind.wrap .u64 a0.Val)), (4, .own 0 1 0 x1_r0.length), (5, .i x1_5)], [eR5 x1_r0]⟩ ?_
            refine goK hT 8 (K20 111110100100 5) ⟨29, [(3, .n .u64 (IntKind.wrap .u64 a0.Val)), (5, .i x1_5), (17, .own 0 1 0 x1_r0.length), (18, .n .u64 (IntKind.wrap .u64 a0.Val)), (21, .n .u64 (IntKind.wrap .u64 (IntKind.wrap .i64 (8 * x1_5))))], [eR5 x1_r0]⟩ ?_
            obtain ⟨h4, H⟩ := sC H
            refine ak_bin (op := .shr) (t := 40) (u := .int .u64 (IntKind.wrap .u64 a0.Val)) (v := .int .u64 (IntKind.wrap .u64 (IntKind.wrap .i64 (8 * x1_5)))) (z := .int .u64 (Int.fdiv (IntKind.wrap .u64 a0.Val) (2 ^ (min (IntKind.wrap .u64 (IntKind.wrap .i64 (8 * x1_5))).toNat 64)))) (dst := some 22) (k' := (K20 111110100100 6)) hT [3, 5, 17, 22] (by kernel_rfl) (by simp only [binV, if_pos h4]; rfl) (st' := ⟨29, [(3, .n .u64 (IntKind.wrap .u64 a0.Val)), (5, .i x1_5), (17, .own 0 1 0 x1_r0.length), (22, .n .u64 (Int.fdiv (IntKind.wrap .u64 a0.Val) (2 ^ (min (IntKind.wrap .u64 (IntKind.wrap .i64 (8 * x1_5))).toNat 64))))], [eR5 x1_r0]⟩) (by kernel_rfl) ?_
            refine goK hT 2 (K20 111110100100 8) ⟨29, [(3, .n .u64 (IntKind.wrap .u64 a0.Val)), (5, .i x1_5), (17, .own 0 1 0 x1_r0.length), (24, .own 1 1 0 1)], [eR5 x1_r0, .flat false 1 5 1 (fun j => [[.n .u8 (IntKind.wrap .u8 (Int.fdiv (IntKind.wrap .u64 a0.Val) (2 ^ (min (IntKind.wrap .u64 (IntKind.wrap .i64 (8 * x1_5))).toNat 64))))]].getD j [])]⟩ ?_
            obtain ⟨h5, H⟩ := sC H
            refine ak_append1 (id := 0) (kk := 1) (by' := 1) (t := 92) (e := 5) (z := [.int .u8 0]) (dst := some 25) (id2 := 1) (e2 := 5) (fz := false) (k' := (K20 111110100100 9)) hT (eI .u8) 0 x1_r0 (IntKind.wrap .u8 (Int.fdiv (IntKind.wrap .u64 a0.Val) (2 ^ (min (IntKind.wrap .u64 (IntKind.wrap .i64 (8 * x1_5))).toNat 64)))) [3, 5, 25] (by kernel_rfl) (by kernel_rfl) (by kernel_rfl) (by kernel_rfl) (by kernel_rfl) (by kernel_rfl) (by kernel_rfl) h5 (by omega) (st' := ⟨29, [(3, .n .u64 (IntKind.wrap .u64 a0.Val)), (5, .i x1_5), (25, .own 2 1 0 ((x1_r0 ++ [IntKind.wrap .u8 (Int.fdiv (IntKind.wrap .u64 a0.Val) (2 ^ (min (IntKind.wrap .u64 (IntKind.wrap .i64 (8 * x1_5))).toNat 64)))]).length))], [.gone, .flat false 1 5 1 (fun j => [[.n .u8 (IntKind.wrap .u8 (Int.fdiv (IntKind.wrap .u64 a0.Val) (2 ^ (min (IntKind.wrap .u64 (IntKind.wrap .i64 (8 * x1_5))).toNat 64))))]].getD j []), eR5 (x1_r0 ++ [IntKind.wrap .u8 (Int.fdiv (IntKind.wrap .u64 a0.Val) (2 ^ (min (IntKind.wrap .u64 (IntKind.wrap .i64 (8 * x1_5))).toNat 64)))])]⟩) (by kernel_rfl) ?_
            refine goK hT 9 (K20 11111010 0) ⟨29, [(3, .n .u64 (IntKind.wrap .u64 a0.Val)), (4, .own 2 1 0 ((x1_r0 ++ [IntKind.wrap .u8 (Int.fdiv (IntKind.wrap .u64 a0.Val) (2 ^ (min (IntKind.wrap .u64 (IntKind.wrap .i64 (8 * x1_5))).toNat 64)))]).length)), (5, .i (IntKind.wrap .i64 (x1_5 - 1)))], [.gone, .flat false 1 5 1 (fun j => [[.n .u8 (IntKind.wrap .u8 (Int.fdiv (IntKind.wrap .u64 a0.Val) (2 ^ (min (IntKind.wrap .u64 (IntKind.wrap .i64 (8 * x1_5))).toNat 64))))]].getD j []), eR5 (x1_r0 ++ [IntKind.wrap .u8 (Int.fdiv (IntKind.wrap .u64 a0.Val) (2 ^ (min (IntKind.wrap .u64 (IntKind.wrap .i64 (8 * x1_5))).toNat 64)))])]⟩ ?_
            refine cutK [2] ⟨29, [(3, .n .u64 (IntKind.wrap .u64 a0.Val)), (4, .own 0 1 0 (x1_r0 ++ [IntKind.wrap .u8 (Int.fdiv (IntKind.wrap .u64 a0.Val) (2 ^ (min (IntKind.wrap .u64 (IntKind.wrap .i64 (8 * x1_5))).toNat 64)))]).length), (5, .i (IntKind.wrap .i64 (x1_5 - 1)))], [eR5 (x1_r0 ++ [IntKind.wrap .u8 (Int.fdiv (IntKind.wrap .u64 a0.Val) (2 ^ (min (IntKind.wrap .u64 (IntKind.wrap .i64 (8 * x1_5))).toNat 64)))])]⟩ h0 ?_
            exact ih (IntKind.wrap .i64 (x1_5 - 1)) (x1_r0 ++ [IntKind.wrap .u8 (Int.fdiv (IntKind.wrap .u64 a0.Val) (2 ^ (min (IntKind.wrap .u64 (IntKind.wrap .i64 (8 * x1_5))).toNat 64)))]) H
          · replace H := sF c2 H
            rw [decide_eq_false c2]
            refine goK hT 5 (K20 1111110 1) ⟨29, [(26, .own 0 1 0 x1_r0.length)], [eR5 x1_r0]⟩ ?_
            refine ak_toStr (av := .own 0 1 0 x1_r0.length) (dst := some 27) (k' := (K20 1111110 2)) hT [27] x1_r0 (by kernel_rfl) (.own (fz := false) (e := 5) (by kernel_rfl)) (st' := ⟨29, [(27, .s (strB x1_r0))], [eR5 x1_r0]⟩) (by kernel_rfl) ?_
            obtain ⟨v1, h3, H⟩ := sbC H
            refine ak_callP (avs := [.s (strB x1_r0)]) (dst := some 28) (k' := (K20 1111110 3)) [28] [] hP enters_41 (spliceref02_Sum.says (strB x1_r0) h3) (by kernel_rfl) (hands_none _) (.cons (pass_d _) .nil) (st' := ⟨29, [(28, .n .u32 v1)], [eR5 x1_r0]⟩) (by kernel_rfl) ?_
            refine goK hT 2 (K20 111111 1) ⟨29, [(2, .n .u32 v1)], [eR5 x1_r0]⟩ ?_
            obtain rfl := retC H
            exact ak_ret hf hX (av := .n .u32 v1) (by kernel_rfl) [] (sel_of_eq (by kernel_rfl)) (by decide) (by rw [h0]; rfl) (by kernel_rfl) (fun _ h => all_nil h) (.d (.v _))
    refine cutK [1] ⟨29, [(3, .n .u64 (IntKind.wrap .u64 a0.Val)), (4, .own 0 1 0 ([1] : List Int).length), (5, .i 7)], [eR5 ([1] : List Int)]⟩ h0 ?_
    obtain ⟨n, H⟩ := loopC H
    exact (L n) 7 ([1] : List Int) H
  · replace H := iF c1 H
    rw [boF c1]
    refine goK hT 5 (K20 11010 1) ⟨29, [(2, .n .u32 0)], [.box 51 (eC51 a0)]⟩ ?_
    obtain rfl := retC H
    exact ak_ret hf hX (av := .n .u32 0) (by kernel_rfl) [] (sel_of_eq (by kernel_rfl)) (by decide) (by rw [h0]; rfl) (by kernel_rfl) (fun _ h => all_nil h) (.d (.v _))


theorem spliceref20_Leaves.says {t0 : Bool} (a0 : List spliceref04_Pair) {r : List Int} (H : spliceref20_Leaves a0 = some r) : Says Try.prog 52 [] [.d (eL94 t0 a0)] [eR37 r] (.own 0 1 0 r.length) := by
  refine says_of Try.func52 rfl (nt := 34) rfl (Nat.le_of_ble_eq_true rfl) fun X hP h0 hX => ?_
  have hT : TabOk X.P T := hP ▸ tok
  have hf : X.P.funcs[52]? = some Try.f52 := hP ▸ Try.func52
  refine goK hT 15 (K52 111010 0) ⟨34, [(0, .d (eL94 t0 a0)), (3, .ns), (4, .i 0)], []⟩ ?_
  refine ak_nilS [0, 3, 4] 3 1 37 (vec (eI .u32) 0 []) (st' := ⟨34, [(0, .d (eL94 t0 a0)), (3, .own 0 1 0 0), (4, .i 0)], [eR37 ([] : List Int)]⟩) (by kernel_rfl) (by kernel_rfl) ?_
  have L : ∀ n, (∀ (x1_4 : Int) (x1_r0 : List Int), iter (spliceref20_Leaves.step a0) n (.l1 x1_4 x1_r0) = some r → AK X 52 ((K52 111010 0)) (Back X [eR37 r] (.own 0 1 0 r.length)) ⟨34, [(0, .d (eL94 t0 a0)), (3, .own 0 1 0 x1_r0.length), (4, .i x1_4)], [eR37 x1_r0]⟩) ∧ (∀ (x2_5 : Int) (x2_r0 : List Int), iter (spliceref20_Leaves.step a0) n (.l2 x2_5 x2_r0) = some r → AK X 52 ((K52 1111010 0)) (Back X [eR37 r] (.own 0 1 0 r.length)) ⟨34, [(0, .d (eL94 t0 a0)), (3, .own 0 1 0 x2_r0.length), (5, .i x2_5)], [eR37 x2_r0]⟩) := by
    intro n
    induction n with
    | zero => exact ⟨fun _ _ H => iter0 H, fun _ _ H => iter0 H⟩
    | succ n ih =>
      refine ⟨?_, ?_⟩
      · intro x1_4 x1_r0 H
        refine goK hT 6 (K52 11101000 1) ⟨34, [(0, .d (eL94 t0 a0)), (3, .own 0 1 0 x1_r0.length), (4, .i x1_4), (7, .b (decide (x1_4 < 4096)))], [eR37 x1_r0]⟩ ?_
        by_cases c1 : x1_4 < 4096
        · replace H := sT c1 H
          rw [decide_eq_true c1]
          refine goK hT 2 (K52 1110100 1) ⟨34, [(0, .d (eL94 t0 a0)), (3, .own 0 1 0 x1_r0.length), (4, .i x1_4)], [eR37 x1_r0]⟩ ?_
          refine goK hT 5 (K52 1110100100 2) ⟨34, [(0, .d (eL94 t0 a0)), (4, .i x1_4), (10, .own 0 1 0 x1_r0.length), (11, .own 1 1 0 1)], [eR37 x1_r0, .flat false 1 37 1 (fun j => [[.n .u32 0]].getD j [])]⟩ ?_
          obtain ⟨h2, H⟩ := sC H
          refine ak_append1 (id := 0) (kk := 1) (by' := 4) (t := 57) (e := 37) (z := [.int .u32 0]) (dst := some 12) (id2 := 1) (e2 := 37) (fz := false) (k' := (K52 1110100100 3)) hT (eI .u32) 0 x1_r0 0 [0, 4, 12] (by kernel_rfl) (by kernel_rfl) (by kernel_rfl) (by kernel_rfl) (by kernel_rfl) (by kernel_rfl) (by kernel_rfl) h2 (by omega) (st' := ⟨34, [(0, .d (eL94 t0 a0)), (4, .i x1_4), (12, .own 2 1 0 ((x1_r0 ++ [0]).length))], [.gone, .flat false 1 37 1 (fun j => [[.n .u32 0]].getD j []), eR37 (x1_r0 ++ [0])]⟩) (by kernel_rfl) ?_
          refine goK hT 9 (K52 111010 0) ⟨34, [(0, .d (eL94 t0 a0)), (3, .own 2 1 0 ((x1_r0 ++ [0]).length)), (4, .i (IntKind.wrap .i64 (x1_4 + 1)))], [.gone, .flat false 1 37 1 (fun j => [[.n .u32 0]].getD j []), eR37 (x1_r0 ++ [0])]⟩ ?_
          refine cutK [2] ⟨34, [(0, .d (eL94 t0 a0)), (3, .own 0 1 0 (x1_r0 ++ [0]).length), (4, .i (IntKind.wrap .i64 (x1_4 + 1)))], [eR37 (x1_r0 ++ [0])]⟩ h0 ?_
          exact ih.1 (IntKind.wrap .i64 (x1_4 + 1)) (x1_r0 ++ [0]) H
        · replace H := sF c1 H
          rw [decide_eq_false c1]
          refine goK hT 9 (K52 1111010 0) ⟨34, [(0, .d (eL94 t0 a0)), (3, .own 0 1 0 x1_r0.length), (5, .i 0)], [eR37 x1_r0]⟩ ?_
          refine cutK [0] ⟨34, [(0, .d (eL94 t0 a0)), (3, .own 0 1 0 x1_r0.length), (5, .i 0)], [eR37 x1_r0]⟩ h0 ?_
          exact ih.2 0 x1_r0 H
      · intro x2_5 x2_r0 H
        refine goK hT 8 (K52 111101000 1) ⟨34, [(0, .d (eL94 t0 a0)), (3, .own 0 1 0 x2_r0.length), (5, .i x2_5), (16, .b (decide (x2_5 < (a0.length : Int))))], [eR37 x2_r0]⟩ ?_
        by_cases c3 : x2_5 < (a0.length : Int)
        · replace H := sT c3 H
          rw [decide_eq_true c3]
          refine goK hT 2 (K52 11110100 1) ⟨34, [(0, .d (eL94 t0 a0)), (3, .own 0 1 0 x2_r0.length), (5, .i x2_5)], [eR37 x2_r0]⟩ ?_
          refine goK hT 2 (K52 1111010010 0) ⟨34, [(0, .d (eL94 t0 a0)), (3, .own 0 1 0 x2_r0.length), (5, .i x2_5)], [eR37 x2_r0]⟩ ?_
          obtain ⟨h4, H⟩ := sC H
          obtain ⟨v1, h5, H⟩ := sbC H
          refine drawK (hP ▸ mixed) 13 [0, 3, 5] [some (.own 0 1 0 x2_r0.length), some (.d (eL94 t0 a0)), some (.i x2_5), some (.d (eP94 t0 a0 x2_5.toNat 0)), some (.d (eP94 t0 a0 x2_5.toNat 0)), some (.i ((a0.getD x2_5.toNat spliceref04_Pair.z).Key)), some (.d (eL94 t0 a0)), some (.i x2_5), some (.d (eP94 t0 a0 x2_5.toNat 0)), some (.d (eP94 t0 a0 x2_5.toNat 1)), some (.i ((a0.getD x2_5.toNat spliceref04_Pair.z).Val)), some (.d (.agg [.i ((a0.getD x2_5.toNat spliceref04_Pair.z).Val), .b true])), some (.n .u32 v1)] (opS (opG (opG (opG (opS (opG (opG (opG (opG (opS (opG (opG (opG op0 hT) hT) hT) (fun R rest h => ak_idx0 hT (i := x2_5) (n := (a0.length : Int)) h4.1 h4.2 (by kernel_rfl) h)) hT) hT) hT) hT) (fun R rest h => ak_idx0 hT (i := x2_5) (n := (a0.length : Int)) h4.1 h4.2 (by kernel_rfl) h)) hT) hT) hT) (fun R rest h => ak_callD (avs := [.d (.agg [.i ((a0.getD x2_5.toNat spliceref04_Pair.z).Val), .b true])]) (dst := some 31) hP enters_20 (spliceref20_Number.says (⟨(a0.getD x2_5.toNat spliceref04_Pair.z).Val, true⟩ : spliceref05_Cell) h5) (by kernel_rfl) (.cons (pass_d _) .nil) (by kernel_rfl) h)) ?_
          refine goK hT 0 (K52 11110100100 13) ⟨34, [(0, .d (eL94 t0 a0)), (3, .own 0 1 0 x2_r0.length), (5, .i x2_5), (19, .own 0 1 0 x2_r0.length), (24, .i ((a0.getD x2_5.toNat spliceref04_Pair.z).Key)), (31, .n .u32 v1)], [eR37 x2_r0]⟩ ?_
          obtain ⟨h6, H⟩ := sC H
          refine ak_idx hT [0, 3, 5, 31, 32] (i := (a0.getD x2_5.toNat spliceref04_Pair.z).Key) (n := (x2_r0.length : Int)) h6.1 h6.2 (k' := (K52 11110100100 14)) (st' := ⟨34, [(0, .d (eL94 t0 a0)), (3, .own 0 1 0 x2_r0.length), (5, .i x2_5), (31, .n .u32 v1), (32, .ptr 0 1 (((a0.getD x2_5.toNat spliceref04_Pair.z).Key).toNat) 0)], [eR37 x2_r0]⟩) (by kernel_rfl) ?_
          refine ak_st (id := 0) (kk := 1) (i := (((a0.getD x2_5.toNat spliceref04_Pair.z).Key).toNat)) (off := 0) (s := 1) (n := x2_r0.length) (ty := 37) (ds := [.n .u32 v1]) (g := vec (eI .u32) 0 x2_r0) (k' := (K52 11110100100 15)) hT [0, 3, 5] (vec (eI .u32) 0 (x2_r0.set (((a0.getD x2_5.toNat spliceref04_Pair.z).Key).toNat) v1)) (by kernel_rfl) (by kernel_rfl) (ltN h6.1 h6.2) ((vec_set (ltN h6.1 h6.2)).trans (by kernel_rfl)) vec_set_ne (st' := ⟨34, [(0, .d (.sl t0 a0.length (vec spliceref04_Pair.e spliceref04_Pair.z a0))), (3, .own 0 1 0 (x2_r0.length)), (5, .i x2_5)], [.flat false 1 37 x2_r0.length (vec (eI .u32) 0 (x2_r0.set (((a0.getD x2_5.toNat spliceref04_Pair.z).Key).toNat) v1))]⟩) (by kernel_rfl) ?_
          refine ak_eq (show x2_r0.length = (x2_r0.set (((a0.getD x2_5.toNat spliceref04_Pair.z).Key).toNat) v1).length from (List.length_set ..).symm) (fun nn => ⟨34, [(0, .d (.sl t0 a0.length (vec spliceref04_Pair.e spliceref04_Pair.z a0))), (3, .own 0 1 0 (nn)), (5, .i x2_5)], [.flat false 1 37 nn (vec (eI .u32) 0 (x2_r0.set (((a0.getD x2_5.toNat spliceref04_Pair.z).Key).toNat) v1))]⟩) ?_
          refine goK hT 8 (K52 1111010 0) ⟨34, [(0, .d (eL94 t0 a0)), (3, .own 0 1 0 ((x2_r0.set (((a0.getD x2_5.toNat spliceref04_Pair.z).Key).toNat) v1).length)), (5, .i (IntKind.wrap .i64 (x2_5 + 1)))], [eR37 (x2_r0.set (((a0.getD x2_5.toNat spliceref04_Pair.z).Key).toNat) v1)]⟩ ?_
          refine cutK [0] ⟨34, [(0, .d (eL94 t0 a0)), (3, .own 0 1 0 (x2_r0.set (((a0.getD x2_5.toNat spliceref04_Pair.z).Key).toNat) v1).length), (5, .i (IntKind.wrap .i64 (x2_5 + 1)))], [eR37 (x2_r0.set (((a0.getD x2_5.toNat spliceref04_Pair.z).Key).toNat) v1)]⟩ h0 ?_
          exact ih.2 (IntKind.wrap .i64 (x2_5 + 1)) (x2_r0.set (((a0.getD x2_5.toNat spliceref04_Pair.z).Key).toNat) v1) H
        · replace H := sF c3 H
          rw [decide_eq_false c3]
          refine goK hT 7 (K52 11111 1) ⟨34, [(2, .own 0 1 0 x2_r0.length)], [eR37 x2_r0]⟩ ?_
          obtain rfl := retC H
          exact ak_ret hf hX (av := .own 0 1 0 x2_r0.length) (by kernel_rfl) [0] (sel_of_eq (by kernel_rfl)) (by decide) (by rw [h0]; rfl) (by kernel_rfl) (fun _ h => all_cons (nr_vec (nlI .u32)) (fun _ h => all_nil h) h) (.own _ _ _ _)
  refine cutK [0] ⟨34, [(0, .d (eL94 t0 a0)), (3, .own 0 1 0 ([] : List Int).length), (4, .i 0)], [eR37 ([] : List Int)]⟩ h0 ?_
  obtain ⟨n, H⟩ := loopC H
  exact (L n).1 0 ([] : List Int) H


theorem spliceref20_Over.says {t0 : Bool} (a0 : List Int) {r : Int} (H : spliceref20_Over a0 = some r) : Says Try.prog 47 [] [.d (eL37 t0 a0)] [] (.n .u32 r) := by
  refine says_of Try.func47 rfl (nt := 49) rfl (Nat.le_of_ble_eq_true rfl) fun X hP h0 hX => ?_
  have hT : TabOk X.P T := hP ▸ tok
  have hf : X.P.funcs[47]? = some Try.f47 := hP ▸ Try.func47
  refine goK hT 15 (K47 111010 0) ⟨49, [(0, .d (eL37 t0 a0)), (3, .ns), (4, .i 0)], []⟩ ?_
  refine ak_nilS [0, 3, 4] 3 1 5 (vec (eI .u8) 0 []) (st' := ⟨49, [(0, .d (eL37 t0 a0)), (3, .own 0 1 0 0), (4, .i 0)], [eR5 ([] : List Int)]⟩) (by kernel_rfl) (by kernel_rfl) ?_
  have L : ∀ n, (∀ (x1_4 : Int) (x1_r0 : List Int), iter (spliceref20_Over.step a0) n (.l1 x1_4 x1_r0) = some r → AK X 47 ((K47 111010 0)) (Back X [] (.n .u32 r)) ⟨49, [(0, .d (eL37 t0 a0)), (3, .own 0 1 0 x1_r0.length), (4, .i x1_4)], [eR5 x1_r0]⟩) := by
    intro n
    induction n with
    | zero => exact fun _ _ H => iter0 H
    | succ n ih =>
      · intro x1_4 x1_r0 H
        refine goK hT 8 (K47 11101000 1) ⟨49, [(0, .d (eL37 t0 a0)), (3, .own 0 1 0 x1_r0.length), (4, .i x1_4), (8, .b (decide (x1_4 < (a0.length : Int))))], [eR5 x1_r0]⟩ ?_
        by_cases c1 : x1_4 < (a0.length : Int)
        · replace H := sT c1 H
          rw [decide_eq_true c1]
          refine goK hT 2 (K47 1110100 1) ⟨49, [(0, .d (eL37 t0 a0)), (3, .own 0 1 0 x1_r0.length), (4, .i x1_4)], [eR5 x1_r0]⟩ ?_
          refine goK hT 7 (K47 11101001000 3) ⟨49, [(0, .d (eL37 t0 a0)), (4, .i x1_4), (11, .own 0 1 0 x1_r0.length), (12, .d (eL37 t0 a0)), (13, .i x1_4)], [eR5 x1_r0]⟩ ?_
          obtain ⟨h3, H⟩ := sC H
          refine ak_idx hT [0, 4, 11, 14] (i := x1_4) (n := (a0.length : Int)) h3.1 h3.2 (k' := (K47 11101001000 4)) (st' := ⟨49, [(0, .d (eL37 t0 a0)), (4, .i x1_4), (11, .own 0 1 0 x1_r0.length), (14, .d (eP37 t0 a0 x1_4.toNat 0))], [eR5 x1_r0]⟩) (by kernel_rfl) ?_
          refine goK hT 4 (K47 11101001000 8) ⟨49, [(0, .d (eL37 t0 a0)), (4, .i x1_4), (11, .own 0 1 0 x1_r0.length), (18, .own 1 1 0 1)], [eR5 x1_r0, .flat false 1 5 1 (fun j => [[.n .u8 (IntKind.wrap .u8 (IntKind.wrap .u32 (Int.tdiv (a0.getD x1_4.toNat 0) 16777216)))]].getD j [])]⟩ ?_
          obtain ⟨h4, H⟩ := sC H
          refine ak_append1 (id := 0) (kk := 1) (by' := 1) (t := 92) (e := 5) (z := [.int .u8 0]) (dst := some 19) (id2 := 1) (e2 := 5) (fz := false) (k' := (K47 11101001000 9)) hT (eI .u8) 0 x1_r0 (IntKind.wrap .u8 (IntKind.wrap .u32 (Int.tdiv (a0.getD x1_4.toNat 0) 16777216))) [0, 4, 19] (by kernel_rfl) (by kernel_rfl) (by kernel_rfl) (by kernel_rfl) (by kernel_rfl) (by kernel_rfl) (by kernel_rfl) h4 (by omega) (st' := ⟨49, [(0, .d (eL37 t0 a0)), (4, .i x1_4), (19, .own 2 1 0 ((x1_r0 ++ [IntKind.wrap .u8 (IntKind.wrap .u32 (Int.tdiv (a0.getD x1_4.toNat 0) 16777216))]).length))], [.gone, .flat false 1 5 1 (fun j => [[.n .u8 (IntKind.wrap .u8 (IntKind.wrap .u32 (Int.tdiv (a0.getD x1_4.toNat 0) 16777216)))]].getD j []), eR5 (x1_r0 ++ [IntKind.wrap .u8 (IntKind.wrap .u32 (Int.tdiv (a0.getD x1_4.toNat 0) 16777216))])]⟩) (by kernel_rfl) ?_
          refine goK hT 7 (K47 111010010010 3) ⟨49, [(0, .d (eL37 t0 a0)), (4, .i x1_4), (20, .own 2 1 0 ((x1_r0 ++ [IntKind.wrap .u8 (IntKind.wrap .u32 (Int.tdiv (a0.getD x1_4.toNat 0) 16777216))]).length)), (21, .d (eL37 t0 a0)), (22, .i x1_4)], [.gone, .flat false 1 5 1 (fun j => [[.n .u8 (IntKind.wrap .u8 (IntKind.wrap .u32 (Int.tdiv (a0.getD x1_4.toNat 0) 16777216)))]].getD j []), eR5 (x1_r0 ++ [IntKind.wrap .u8 (IntKind.wrap .u32 (Int.tdiv (a0.getD x1_4.toNat 0) 16777216))])]⟩ ?_
          refine ak_idx hT [0, 4, 20, 23] (i := x1_4) (n := (a0.length : Int)) h3.1 h3.2 (k' := (K47 111010010010 4)) (st' := ⟨49, [(0, .d (eL37 t0 a0)), (4, .i x1_4), (20, .own 2 1 0 ((x1_r0 ++ [IntKind.wrap .u8 (IntKind.wrap .u32 (Int.tdiv (a0.getD x1_4.toNat 0) 16777216))]).length)), (23, .d (eP37 t0 a0 x1_4.toNat 0))], [.gone, .flat false 1 5 1 (fun j => [[.n .u8 (IntKind.wrap .u8 (IntKind.wrap .u32 (Int.tdiv (a0.getD x1_4.toNat 0) 16777216)))]].getD j []), eR5 (x1_r0 ++ [IntKind.wrap .u8 (IntKind.wrap .u32 (Int.tdiv (a0.getD x1_4.toNat 0) 16777216))])]⟩) (by kernel_rfl) ?_
          refine goK hT 4 (K47 111010010010 8) ⟨49, [(0, .d (eL37 t0 a0)), (4, .i x1_4), (20, .own 2 1 0 ((x1_r0 ++ [IntKind.wrap .u8 (IntKind.wrap .u32 (Int.tdiv (a0.getD x1_4.toNat 0) 16777216))]).length)), (27, .own 3 1 0 1)], [.gone, .flat false 1 5 1 (fun j => [[.n .u8 (IntKind.wrap .u8 (IntKind.wrap .u32 (Int.tdiv (a0.getD x1_4.toNat 0) 16777216)))]].getD j []), eR5 (x1_r0 ++ [IntKind.wrap .u8 (IntKind.wrap .u32 (Int.tdiv (a0.getD x1_4.toNat 0) 16777216))]), .flat false 1 5 1 (fun j => [[.n .u8 (IntKind.wrap .u8 (IntKind.wrap .u32 (Int.tdiv (a0.getD x1_4.toNat 0) 65536)))]].getD j [])]⟩ ?_
          obtain ⟨h5, H⟩ := sC H
          refine ak_append1 (id := 2) (kk := 1) (by' := 1) (t := 92) (e := 5) (z := [.int .u8 0]) (dst := some 28) (id2 := 3) (e2 := 5) (fz := false) (k' := (K47 111010010010 9)) hT (eI .u8) 0 (x1_r0 ++ [IntKind.wrap .u8 (IntKind.wrap .u32 (Int.tdiv (a0.getD x1_4.toNat 0) 16777216))]) (IntKind.wrap .u8 (IntKind.wrap .u32 (Int.tdiv (a0.getD x1_4.toNat 0) 65536))) [0, 4, 28] (by kernel_rfl) (by kernel_rfl) (by kernel_rfl) (by kernel_rfl) (by kernel_rfl) (by kernel_rfl) (by kernel_rfl) h5 (by omega) (st' := ⟨49, [(0, .d (eL37 t0 a0)), (4, .i x1_4), (28, .own 4 1 0 (((x1_r0 ++ [IntKind.wrap .u8 (IntKind.wrap .u32 (Int.tdiv (a0.getD x1_4.toNat 0) 16777216))]) ++ [IntKind.wrap .u8 (IntKind.wrap .u32 (Int.tdiv (a0.getD x1_4.toNat 0) 65536))]).length))], [.gone, .flat false 1 5 1 (fun j => [[.n .u8 (IntKind.wrap .u8 (IntKind.wrap .u32 (Int.tdiv (a0.getD x1_4.toNat 0) 16777216)))]].getD j []), .gone, .flat false 1 5 1 (fun j => [[.n .u8 (IntKind.wrap .u8 (IntKind.wrap .u32 (Int.tdiv (a0.getD x1_4.toNat 0) 65536)))]].getD j []), eR5 ((x1_r0 ++ [IntKind.wrap .u8 (IntKind.wrap .u32 (Int.tdiv (a0.getD x1_4.toNat 0) 16777216))]) ++ [IntKind.wrap .u8 (IntKind.wrap .u32 (Int.tdiv (a0.getD x1_4.toNat 0) 65536))])]⟩) (by kernel_rfl) ?_
          refine goK hT 7 (K47 1110100100110 3) ⟨49, [(0, .d (eL37 t0 a0)), (4, .i x1_4), (29, .own 4 1 0 (((x1_r0 ++ [IntKind.wrap .u8 (IntKind.wrap .u32 (Int.tdiv (a0.getD x1_4.toNat 0) 16777216))]) ++ [IntKind.wrap .u8 (IntKind.wrap .u32 (Int.tdiv (a0.getD x1_4.toNat 0) 65536))]).length)), (30, .d (eL37 t0 a0)), (31, .i x1_4)], [.gone, .flat false 1 5 1 (fun j => [[.n .u8 (IntKind.wrap .u8 (IntKind.wrap .u32 (Int.tdiv (a0.getD x1_4.toNat 0) 16777216)))]].getD j []), .gone, .flat false 1 5 1 (fun j => [[.n .u8 (IntKind.wrap .u8 (IntKind.wrap .u32 (Int.tdiv (a0.getD x1_4.toNat 0) 65536)))]].getD j []), eR5 ((x1_r0 ++ [IntKind.wrap .u8 (IntKind.wrap .u32 (Int.tdiv (a0.getD x1_4.toNat 0) 16777216))]) ++ [IntKind.wrap .u8 (IntKind.wrap .u32 (Int.tdiv (a0.getD x1_4.toNat 0) 65536))])]⟩ ?_
          refine ak_idx hT [0, 4, 29, 32] (i := x1_4) (n := (a0.length : Int)) h3.1 h3.2 (k' := (K47 1110100100110 4)) (st' := ⟨49, [(0, .d (eL37 t0 a0)), (4, .i x1_4), (29, .own 4 1 0 (((x1_r0 ++ [IntKind.wrap .u8 (IntKind.wrap .u32 (Int.tdiv (a0.getD x1_4.toNat 0) 16777216))]) ++ [IntKind.wrap .u8 (IntKind.wrap .u32 (Int.tdiv (a0.getD x1_4.toNat 0) 65536))]).length)), (32, .d (eP37 t0 a0 x1_4.toNat 0))], [.gone, .flat false 1 5 1 (fun j => [[.n .u8 (IntKind.wrap .u8 (IntKind.wrap .u32 (Int.tdiv (a0.getD x1_4.toNat 0) 16777216)))]].getD j []), .gone, .flat false 1 5 1 (fun j => [[.n .u8 (IntKind.wrap .u8 (IntKind.wrap .u32 (Int.tdiv (a0.getD x1_4.toNat 0) 65536)))]].getD j []), eR5 ((x1_r0 ++ [IntKind.wrap .u8 (IntKind.wrap .u32 (Int.tdiv (a0.getD x1_4.toNat 0) 16777216))]) ++ [IntKind.wrap .u8 (IntKind.wrap .u32 (Int.tdiv (a0.getD x1_4.toNat 0) 65536))])]⟩) (by kernel_rfl) ?_
          refine goK hT 4 (K47 1110100100110 8) ⟨49, [(0, .d (eL37 t0 a0)), (4, .i x1_4), (29, .own 4 1 0 (((x1_r0 ++ [IntKind.wrap .u8 (IntKind.wrap .u32 (Int.tdiv (a0.getD x1_4.toNat 0) 16777216))]) ++ [IntKind.wrap .u8 (IntKind.wrap .u32 (Int.tdiv (a0.getD x1_4.toNat 0) 65536))]).length)), (36, .own 5 1 0 1)], [.gone, .flat false 1 5 1 (fun j => [[.n .u8 (IntKind.wrap .u8 (IntKind.wrap .u32 (Int.tdiv (a0.getD x1_4.toNat 0) 16777216)))]].getD j []), .gone, .flat false 1 5 1 (fun j => [[.n .u8 (IntKind.wrap .u8 (IntKind.wrap .u32 (Int.tdiv (a0.getD x1_4.toNat 0) 65536)))]].getD j []), eR5 ((x1_r0 ++ [IntKind.wrap .u8 (IntKind.wrap .u32 (Int.tdiv (a0.getD x1_4.toNat 0) 16777216))]) ++ [IntKind.wrap .u8 (IntKind.wrap .u32 (Int.tdiv (a0.getD x1_4.toNat 0) 65536))]), .flat false 1 5 1 (fun j => [[.n .u8 (IntKind.wrap .u8 (IntKind.wrap .u32 (Int.tdiv (a0.getD x1_4.toNat 0) 256)))]].getD j [])]⟩ ?_
          obtain ⟨h6, H⟩ := sC H
          refine ak_append1 (id := 4) (kk := 1) (by' := 1) (t := 92) (e := 5) (z := [.int .u8 0]) (dst := some 37) (id2 := 5) (e2 := 5) (fz := false) (k' := (K47 1110100100110 9)) hT (eI .u8) 0 ((x1_r0 ++ [IntKind.wrap .u8 (IntKind.wrap .u32 (Int.tdiv (a0.getD x1_4.toNat 0) 16777216))]) ++ [IntKind.wrap .u8 (IntKind.wrap .u32 (Int.tdiv (a0.getD x1_4.toNat 0) 65536))]) (IntKind.wrap .u8 (IntKind.wrap .u32 (Int.tdiv (a0.getD x1_4.toNat 0) 256))) [0, 4, 37] (by kernel_rfl) (by kernel_rfl) (by kernel_rfl) (by kernel_rfl) (by kernel_rfl) (by kernel_rfl) (by kernel_rfl) h6 (by omega) (st' := ⟨49, [(0, .d (eL37 t0 a0)), (4, .i x1_4), (37, .own 6 1 0 ((((x1_r0 ++ [IntKind.wrap .u8 (IntKind.wrap .u32 (Int.tdiv (a0.getD x1_4.toNat 0) 16777216))]) ++ [IntKind.wrap .u8 (IntKind.wrap .u32 (Int.tdiv (a0.getD x1_4.toNat 0) 65536))]) ++ [IntKind.wrap .u8 (IntKind.wrap .u32 (Int.tdiv (a0.getD x1_4.toNat 0) 256))]).length))], [.gone, .flat false 1 5 1 (fun j => [[.n .u8 (IntKind.wrap .u8 (IntKind.wrap .u32 (Int.tdiv (a0.getD x1_4.toNat 0) 16777216)))]].getD j []), .gone, .flat false 1 5 1 (fun j => [[.n .u8 (IntKind.wrap .u8 (IntKind.wrap .u32 (Int.tdiv (a0.getD x1_4.toNat 0) 65536)))]].getD j []), .gone, .flat false 1 5 1 (fun j => [[.n .u8 (IntKind.wrap .u8 (IntKind.wrap .u32 (Int.tdiv (a0.getD x1_4.toNat 0) 256)))]].getD j []), eR5 (((x1_r0 ++ [IntKind.wrap .u8 (IntKind.wrap .u32 (Int.tdiv (a0.getD x1_4.toNat 0) 16777216))]) ++ [IntKind.wrap .u8 (IntKind.wrap .u32 (Int.tdiv (a0.getD x1_4.toNat 0) 65536))]) ++ [IntKind.wrap .u8 (IntKind.wrap .u32 (Int.tdiv (a0.getD x1_4.toNat 0) 256))])]⟩) (by kernel_rfl) ?_
          refine goK hT 6 (K47 1110100100111 3) ⟨49, [(0, .d (eL37 t0 a0)), (4, .i x1_4), (38, .own 6 1 0 ((((x1_r0 ++ [IntKind.wrap .u8 (IntKind.wrap .u32 (Int.tdiv (a0.getD x1_4.toNat 0) 16777216))]) ++ [IntKind.wrap .u8 (IntKind.wrap .u32 (Int.tdiv (a0.getD x1_4.toNat 0) 65536))]) ++ [IntKind.wrap .u8 (IntKind.wrap .u32 (Int.tdiv (a0.getD x1_4.toNat 0) 256))]).length)), (39, .d (eL37 t0 a0)), (40, .i x1_4)], [.gone, .flat false 1 5 1 (fun j => [[.n .u8 (IntKind.wrap .u8 (IntKind.wrap .u32 (Int.tdiv (a0.getD x1_4.toNat 0) 16777216)))]].getD j []), .gone, .flat false 1 5 1 (fun j => [[.n .u8 (IntKind.wrap .u8 (IntKind.wrap .u32 (Int.tdiv (a0.getD x1_4.toNat 0) 65536)))]].getD j []), .gone, .flat false 1 5 1 (fun j => [[.n .u8 (IntKind.wrap .u8 (IntKind.wrap .u32 (Int.tdiv (a0.getD x1_4.toNat 0) 256)))]].getD j []), eR5 (((x1_r0 ++ [IntKind.wrap .u8 (IntKind.wrap .u32 (Int.tdiv (a0.getD x1_4.toNat 0) 16777216))]) ++ [IntKind.wrap .u8 (IntKind.wrap .u32 (Int.tdiv (a0.getD x1_4.toNat 0) 65536))]) ++ [IntKind.wrap .u8 (IntKind.wrap .u32 (Int.tdiv (a0.getD x1_4.toNat 0) 256))])]⟩ ?_
          refine ak_idx hT [0, 4, 38, 41] (i := x1_4) (n := (a0.length : Int)) h3.1 h3.2 (k' := (K47 1110100100111 4)) (st' := ⟨49, [(0, .d (eL37 t0 a0)), (4, .i x1_4), (38, .own 6 1 0 ((((x1_r0 ++ [IntKind.wrap .u8 (IntKind.wrap .u32 (Int.tdiv (a0.getD x1_4.toNat 0) 16777216))]) ++ [IntKind.wrap .u8 (IntKind.wrap .u32 (Int.tdiv (a0.getD x1_4.toNat 0) 65536))]) ++ [IntKind.wrap .u8 (IntKind.wrap .u32 (Int.tdiv (a0.getD x1_4.toNat 0) 256))]).length)), (41, .d (eP37 t0 a0 x1_4.toNat 0))], [.gone, .flat false 1 5 1 (fun j => [[.n .u8 (IntKind.wrap .u8 (IntKind.wrap .u32 (Int.tdiv (a0.getD x1_4.toNat 0) 16777216)))]].getD j []), .gone, .flat false 1 5 1 (fun j => [[.n .u8 (IntKind.wrap .u8 (IntKind.wrap .u32 (Int.tdiv (a0.getD x1_4.toNat 0) 65536)))]].getD j []), .gone, .flat false 1 5 1 (fun j => [[.n .u8 (IntKind.wrap .u8 (IntKind.wrap .u32 (Int.tdiv (a0.getD x1_4.toNat 0) 256)))]].getD j []), eR5 (((x1_r0 ++ [IntKind.wrap .u8 (IntKind.wrap .u32 (Int.tdiv (a0.getD x1_4.toNat 0) 16777216))]) ++ [IntKind.wrap .u8 (IntKind.wrap .u32 (Int.tdiv (a0.getD x1_4.toNat 0) 65536))]) ++ [IntKind.wrap .u8 (IntKind.wrap .u32 (Int.tdiv (a0.getD x1_4.toNat 0) 256))])]⟩) (by kernel_rfl) ?_
          refine goK hT 3 (K47 1110100100111 7) ⟨49, [(0, .d (eL37 t0 a0)), (4, .i x1_4), (38, .own 6 1 0 ((((x1_r0 ++ [IntKind.wrap .u8 (IntKind.wrap .u32 (Int.tdiv (a0.getD x1_4.toNat 0) 16777216))]) ++ [IntKind.wrap .u8 (IntKind.wrap .u32 (Int.tdiv (a0.getD x1_4.toNat 0) 65536))]) ++ [IntKind.wrap .u8 (IntKind.wrap .u32 (Int.tdiv (a0.getD x1_4.toNat 0) 256))]).length)), (44, .own 7 1 0 1)], [.gone, .flat false 1 5 1 (fun j => [[.n .u8 (IntKind.wrap .u8 (IntKind.wrap .u32 (Int.tdiv (a0.getD x1_4.toNat 0) 16777216)))]].getD j []), .gone, .flat false 1 5 1 (fun j => [[.n .u8 (IntKind.wrap .u8 (IntKind.wrap .u32 (Int.tdiv (a0.getD x1_4.toNat 0) 65536)))]].getD j []), .gone, .flat false 1 5 1 (fun j => [[.n .u8 (IntKind.wrap .u8 (IntKind.wrap .u32 (Int.tdiv (a0.getD x1_4.toNat 0) 256)))]].getD j []), eR5 (((x1_r0 ++ [IntKind.wrap .u8 (IntKind.wrap .u32 (Int.tdiv (a0.getD x1_4.toNat 0) 16777216))]) ++ [IntKind.wrap .u8 (IntKind.wrap .u32 (Int.tdiv (a0.getD x1_4.toNat 0) 65536))]) ++ [IntKind.wrap .u8 (IntKind.wrap .u32 (Int.tdiv (a0.getD x1_4.toNat 0) 256))]), .flat false 1 5 1 (fun j => [[.n .u8 (IntKind.wrap .u8 (a0.getD x1_4.toNat 0))]].getD j [])]⟩ ?_
          obtain ⟨h7, H⟩ := sC H
          refine ak_append1 (id := 6) (kk := 1) (by' := 1) (t := 92) (e := 5) (z := [.int .u8 0]) (dst := some 45) (id2 := 7) (e2 := 5) (fz := false) (k' := (K47 1110100100111 8)) hT (eI .u8) 0 (((x1_r0 ++ [IntKind.wrap .u8 (IntKind.wrap .u32 (Int.tdiv (a0.getD x1_4.toNat 0) 16777216))]) ++ [IntKind.wrap .u8 (IntKind.wrap .u32 (Int.tdiv (a0.getD x1_4.toNat 0) 65536))]) ++ [IntKind.wrap .u8 (IntKind.wrap .u32 (Int.tdiv (a0.getD x1_4.toNat 0) 256))]) (IntKind.wrap .u8 (a0.getD x1_4.toNat 0)) [0, 4, 45] (by kernel_rfl) (by kernel_rfl) (by kernel_rfl) (by kernel_rfl) (by kernel_rfl) (by kernel_rfl) (by kernel_rfl) h7 (by omega) (st' := ⟨49, [(0, .d (eL37 t0 a0)), (4, .i x1_4), (45, .own 8 1 0 (((((x1_r0 ++ [IntKind.wrap .u8 (IntKind.wrap .u32 (Int.tdiv (a0.getD x1_4.toNat 0) 16777216))]) ++ [IntKind.wrap .u8 (IntKind.wrap .u32 (Int.tdiv (a0.getD x1_4.toNat 0) 65536))]) ++ [IntKind.wrap .u8 (IntKind.wrap .u32 (Int.tdiv (a0.getD x1_4.toNat 0) 256))]) ++ [IntKind.wrap .u8 (a0.getD x1_4.toNat 0)]).length))], [.gone, .flat false 1 5 1 (fun j => [[.n .u8 (IntKind.wrap .u8 (IntKind.wrap .u32 (Int.tdiv (a0.getD x1_4.toNat 0) 16777216)))]].getD j []), .gone, .flat false 1 5 1 (fun j => [[.n .u8 (IntKind.wrap .u8 (IntKind.wrap .u32 (Int.tdiv (a0.getD x1_4.toNat 0) 65536)))]].getD j []), .gone, .flat false 1 5 1 (fun j => [[.n .u8 (IntKind.wrap .u8 (IntKind.wrap .u32 (Int.tdiv (a0.getD x1_4.toNat 0) 256)))]].getD j []), .gone, .flat false 1 5 1 (fun j => [[.n .u8 (IntKind.wrap .u8 (a0.getD x1_4.toNat 0))]].getD j []), eR5 ((((x1_r0 ++ [IntKind.wrap .u8 (IntKind.wrap .u32 (Int.tdiv (a0.getD x1_4.toNat 0) 16777216))]) ++ [IntKind.wrap .u8 (IntKind.wrap .u32 (Int.tdiv (a0.getD x1_4.toNat 0) 65536))]) ++ [IntKind.wrap .u8 (IntKind.wrap .u32 (Int.tdiv (a0.getD x1_4.toNat 0) 256))]) ++ [IntKind.wrap .u8 (a0.getD x1_4.toNat 0)])]⟩) (by kernel_rfl) ?_
          refine goK hT 9 (K47 111010 0) ⟨49, [(0, .d (eL37 t0 a0)), (3, .own 8 1 0 (((((x1_r0 ++ [IntKind.wrap .u8 (IntKind.wrap .u32 (Int.tdiv (a0.getD x1_4.toNat 0) 16777216))]) ++ [IntKind.wrap .u8 (IntKind.wrap .u32 (Int.tdiv (a0.getD x1_4.toNat 0) 65536))]) ++ [IntKind.wrap .u8 (IntKind.wrap .u32 (Int.tdiv (a0.getD x1_4.toNat 0) 256))]) ++ [IntKind.wrap .u8 (a0.getD x1_4.toNat 0)]).length)), (4, .i (IntKind.wrap .i64 (x1_4 + 1)))], [.gone, .flat false 1 5 1 (fun j => [[.n .u8 (IntKind.wrap .u8 (IntKind.wrap .u32 (Int.tdiv (a0.getD x1_4.toNat 0) 16777216)))]].getD j []), .gone, .flat false 1 5 1 (fun j => [[.n .u8 (IntKind.wrap .u8 (IntKind.wrap .u32 (Int.tdiv (a0.getD x1_4.toNat 0) 65536)))]].getD j []), .gone, .flat false 1 5 1 (fun j => [[.n .u8 (IntKind.wrap .u8 (IntKind.wrap .u32 (Int.tdiv (a0.getD x1_4.toNat 0) 256)))]].getD j []), .gone, .flat false 1 5 1 (fun j => [[.n .u8 (IntKind.wrap .u8 (a0.getD x1_4.toNat 0))]].getD j []), eR5 ((((x1_r0 ++ [IntKind.wrap .u8 (IntKind.wrap .u32 (Int.tdiv (a0.getD x1_4.toNat 0) 16777216))]) ++ [IntKind.wrap .u8 (IntKind.wrap .u32 (Int.tdiv (a0.getD x1_4.toNat 0) 65536))]) ++ [IntKind.wrap .u8 (IntKind.wrap .u32 (Int.tdiv (a0.getD x1_4.toNat 0) 256))]) ++ [IntKind.wrap .u8 (a0.getD x1_4.toNat 0)])]⟩ ?_
          refine cutK [8] ⟨49, [(0, .d (eL37 t0 a0)), (3, .own 0 1 0 ((((x1_r0 ++ [IntKind.wrap .u8 (IntKind.wrap .u32 (Int.tdiv (a0.getD x1_4.toNat 0) 16777216))]) ++ [IntKind.wrap .u8 (IntKind.wrap .u32 (Int.tdiv (a0.getD x1_4.toNat 0) 65536))]) ++ [IntKind.wrap .u8 (IntKind.wrap .u32 (Int.tdiv (a0.getD x1_4.toNat 0) 256))]) ++ [IntKind.wrap .u8 (a0.getD x1_4.toNat 0)]).length), (4, .i (IntKind.wrap .i64 (x1_4 + 1)))], [eR5 ((((x1_r0 ++ [IntKind.wrap .u8 (IntKind.wrap .u32 (Int.tdiv (a0.getD x1_4.toNat 0) 16777216))]) ++ [IntKind.wrap .u8 (IntKind.wrap .u32 (Int.tdiv (a0.getD x1_4.toNat 0) 65536))]) ++ [IntKind.wrap .u8 (IntKind.wrap .u32 (Int.tdiv (a0.getD x1_4.toNat 0) 256))]) ++ [IntKind.wrap .u8 (a0.getD x1_4.toNat 0)])]⟩ h0 ?_
          exact ih (IntKind.wrap .i64 (x1_4 + 1)) ((((x1_r0 ++ [IntKind.wrap .u8 (IntKind.wrap .u32 (Int.tdiv (a0.getD x1_4.toNat 0) 16777216))]) ++ [IntKind.wrap .u8 (IntKind.wrap .u32 (Int.tdiv (a0.getD x1_4.toNat 0) 65536))]) ++ [IntKind.wrap .u8 (IntKind.wrap .u32 (Int.tdiv (a0.getD x1_4.toNat 0) 256))]) ++ [IntKind.wrap .u8 (a0.getD x1_4.toNat 0)]) H
        · replace H := sF c1 H
          rw [decide_eq_false c1]
          refine goK hT 5 (K47 11110 1) ⟨49, [(46, .own 0 1 0 x1_r0.length)], [eR5 x1_r0]⟩ ?_
          refine ak_toStr (av := .own 0 1 0 x1_r0.length) (dst := some 47) (k' := (K47 11110 2)) hT [47] x1_r0 (by kernel_rfl) (.own (fz := false) (e := 5) (by kernel_rfl)) (st' := ⟨49, [(47, .s (strB x1_r0))], [eR5 x1_r0]⟩) (by kernel_rfl) ?_
          obtain ⟨v1, h2, H⟩ := sbC H
          refine ak_callP (avs := [.s (strB x1_r0)]) (dst := some 48) (k' := (K47 11110 3)) [48] [] hP enters_41 (spliceref02_Sum.says (strB x1_r0) h2) (by kernel_rfl) (hands_none _) (.cons (pass_d _) .nil) (st' := ⟨49, [(48, .n .u32 v1)], [eR5 x1_r0]⟩) (by kernel_rfl) ?_
          refine goK hT 2 (K47 1111 1) ⟨49, [(2, .n .u32 v1)], [eR5 x1_r0]⟩ ?_
          obtain rfl := retC H
          exact ak_ret hf hX (av := .n .u32 v1) (by kernel_rfl) [] (sel_of_eq (by kernel_rfl)) (by decide) (by rw [h0]; rfl) (by kernel_rfl) (fun _ h => all_nil h) (.d (.v _))
  refine cutK [0] ⟨49, [(0, .d (eL37 t0 a0)), (3, .own 0 1 0 ([] : List Int).length), (4, .i 0)], [eR5 ([] : List Int)]⟩ h0 ?_
  obtain ⟨n, H⟩ := loopC H
  exact (L n) 0 ([] : List Int) H


theorem spliceref20_Above.says {t0 : Bool} (a0 : List Int) {r : List Int} (H : spliceref20_Above a0 = some r) : Says Try.prog 29 [] [.d (eL37 t0 a0)] [eR37 r] (.own 0 1 0 r.length) := by
  refine says_of Try.func29 rfl (nt := 56) rfl (Nat.le_of_ble_eq_true rfl) fun X hP h0 hX => ?_
  have hT : TabOk X.P T := hP ▸ tok
  have hf : X.P.funcs[29]? = some Try.f29 := hP ▸ Try.func29
  refine goK hT 15 (K29 111010 0) ⟨56, [(0, .d (eL37 t0 a0)), (3, .ns), (4, .i 0)], []⟩ ?_
  refine ak_nilS [0, 3, 4] 3 1 37 (vec (eI .u32) 0 []) (st' := ⟨56, [(0, .d (eL37 t0 a0)), (3, .own 0 1 0 0), (4, .i 0)], [eR37 ([] : List Int)]⟩) (by kernel_rfl) (by kernel_rfl) ?_
  have L : ∀ n, (∀ (x1_4 : Int) (x1_r0 : List Int), iter (spliceref20_Above.step a0) n (.l1 x1_4 x1_r0) = some r → AK X 29 ((K29 111010 0)) (Back X [eR37 r] (.own 0 1 0 r.length)) ⟨56, [(0, .d (eL37 t0 a0)), (3, .own 0 1 0 x1_r0.length), (4, .i x1_4)], [eR37 x1_r0]⟩) ∧ (∀ (v1 : Int) (x2_7 : Int) (x2_r0 : List Int), iter (spliceref20_Above.step a0) n (.l2 v1 x2_7 x2_r0) = some r → AK X 29 ((K29 111111010 0)) (Back X [eR37 r] (.own 0 1 0 r.length)) ⟨56, [(0, .d (eL37 t0 a0)), (5, .n .u32 v1), (6, .own 0 1 0 x2_r0.length), (7, .i x2_7)], [eR37 x2_r0]⟩) ∧ (∀ (v1 : Int) (x3_7 : Int) (x3_8 : Bool) (x3_9 : Int) (x3_r0 : List Int), iter (spliceref20_Above.step a0) n (.l3 v1 x3_7 x3_8 x3_9 x3_r0) = some r → AK X 29 ((K29 11111101001001010 0)) (Back X [eR37 r] (.own 0 1 0 r.length)) ⟨56, [(0, .d (eL37 t0 a0)), (5, .n .u32 v1), (6, .own 0 1 0 x3_r0.length), (7, .i x3_7), (8, .b x3_8), (9, .i x3_9)], [eR37 x3_r0]⟩) := by
    intro n
    induction n with
    | zero => exact ⟨fun _ _ H => iter0 H, fun _ _ _ H => iter0 H, fun _ _ _ _ _ H => iter0 H⟩
    | succ n ih =>
      refine ⟨?_, ?_, ?_⟩
      · intro x1_4 x1_r0 H
        refine goK hT 6 (K29 11101000 1) ⟨56, [(0, .d (eL37 t0 a0)), (3, .own 0 1 0 x1_r0.length), (4, .i x1_4), (11, .b (decide (x1_4 < 16)))], [eR37 x1_r0]⟩ ?_
        by_cases c1 : x1_4 < 16
        · replace H := sT c1 H
          rw [decide_eq_true c1]
          refine goK hT 2 (K29 1110100 1) ⟨56, [(0, .d (eL37 t0 a0)), (3, .own 0 1 0 x1_r0.length), (4, .i x1_4)], [eR37 x1_r0]⟩ ?_
          refine goK hT 5 (K29 1110100100 2) ⟨56, [(0, .d (eL37 t0 a0)), (4, .i x1_4), (14, .own 0 1 0 x1_r0.length), (15, .own 1 1 0 1)], [eR37 x1_r0, .flat false 1 37 1 (fun j => [[.n .u32 0]].getD j [])]⟩ ?_
          obtain ⟨h3, H⟩ := sC H
          refine ak_append1 (id := 0) (kk := 1) (by' := 4) (t := 57) (e := 37) (z := [.int .u32 0]) (dst := some 16) (id2 := 1) (e2 := 37) (fz := false) (k' := (K29 1110100100 3)) hT (eI .u32) 0 x1_r0 0 [0, 4, 16] (by kernel_rfl) (by kernel_rfl) (by kernel_rfl) (by kernel_rfl) (by kernel_rfl) (by kernel_rfl) (by kernel_rfl) h3 (by omega) (st' := ⟨56, [(0, .d (eL37 t0 a0)), (4, .i x1_4), (16, .own 2 1 0 ((x1_r0 ++ [0]).length))], [.gone, .flat false 1 37 1 (fun j => [[.n .u32 0]].getD j []), eR37 (x1_r0 ++ [0])]⟩) (by kernel_rfl) ?_
          refine goK hT 9 (K29 111010 0) ⟨56, [(0, .d (eL37 t0 a0)), (3, .own 2 1 0 ((x1_r0 ++ [0]).length)), (4, .i (IntKind.wrap .i64 (x1_4 + 1)))], [.gone, .flat false 1 37 1 (fun j => [[.n .u32 0]].getD j []), eR37 (x1_r0 ++ [0])]⟩ ?_
          refine cutK [2] ⟨56, [(0, .d (eL37 t0 a0)), (3, .own 0 1 0 (x1_r0 ++ [0]).length), (4, .i (IntKind.wrap .i64 (x1_4 + 1)))], [eR37 (x1_r0 ++ [0])]⟩ h0 ?_
          exact ih.1 (IntKind.wrap .i64 (x1_4 + 1)) (x1_r0 ++ [0]) H
        · replace H := sF c1 H
          rw [decide_eq_false c1]
          refine goK hT 5 (K29 11110 1) ⟨56, [(0, .d (eL37 t0 a0)), (17, .own 0 1 0 x1_r0.length)], [eR37 x1_r0]⟩ ?_
          obtain ⟨v1, h2, H⟩ := sbC H
          refine ak_callP (avs := [.own 0 1 0 x1_r0.length]) (dst := some 18) (k' := (K29 11110 2)) [0, 18] [] hP enters_47 (spliceref20_Over.says (t0 := false) x1_r0 h2) (by kernel_rfl) (hands_none _) (.cons (.lend (ty := 37) (by kernel_rfl) rfl) .nil) (st' := ⟨56, [(0, .d (eL37 t0 a0)), (18, .n .u32 v1)], [eR37 x1_r0]⟩) (by kernel_rfl) ?_
          refine goK hT 13 (K29 111111010 0) ⟨56, [(0, .d (eL37 t0 a0)), (5, .n .u32 v1), (6, .ns), (7, .i 0)], [eR37 x1_r0]⟩ ?_
          refine ak_nilS [0, 5, 6, 7] 6 1 37 (vec (eI .u32) 0 []) (st' := ⟨56, [(0, .d (eL37 t0 a0)), (5, .n .u32 v1), (6, .own 1 1 0 0), (7, .i 0)], [eR37 x1_r0, eR37 ([] : List Int)]⟩) (by kernel_rfl) (by kernel_rfl) ?_
          refine cutK [1] ⟨56, [(0, .d (eL37 t0 a0)), (5, .n .u32 v1), (6, .own 0 1 0 ([] : List Int).length), (7, .i 0)], [eR37 ([] : List Int)]⟩ h0 ?_
          exact ih.2.1 v1 0 ([] : List Int) H
      · intro v1 x2_7 x2_r0 H
        refine goK hT 9 (K29 11111101000 1) ⟨56, [(0, .d (eL37 t0 a0)), (5, .n .u32 v1), (6, .own 0 1 0 x2_r0.length), (7, .i x2_7), (23, .b (decide ((IntKind.wrap .i64 (x2_7 + 16)) ≤ (a0.length : Int))))], [eR37 x2_r0]⟩ ?_
        by_cases c4 : (IntKind.wrap .i64 (x2_7 + 16)) ≤ (a0.length : Int)
        · replace H := sT c4 H
          rw [decide_eq_true c4]
          refine goK hT 2 (K29 1111110100 1) ⟨56, [(0, .d (eL37 t0 a0)), (5, .n .u32 v1), (6, .own 0 1 0 x2_r0.length), (7, .i x2_7)], [eR37 x2_r0]⟩ ?_
          refine goK hT 14 (K29 11111101001001010 0) ⟨56, [(0, .d (eL37 t0 a0)), (5, .n .u32 v1), (6, .own 0 1 0 x2_r0.length), (7, .i x2_7), (8, .b true), (9, .i x2_7)], [eR37 x2_r0]⟩ ?_
          refine cutK [0] ⟨56, [(0, .d (eL37 t0 a0)), (5, .n .u32 v1), (6, .own 0 1 0 x2_r0.length), (7, .i x2_7), (8, .b true), (9, .i x2_7)], [eR37 x2_r0]⟩ h0 ?_
          exact ih.2.2 v1 x2_7 true x2_7 x2_r0 H
        · replace H := sF c4 H
          rw [decide_eq_false c4]
          refine goK hT 7 (K29 1111111 1) ⟨56, [(2, .own 0 1 0 x2_r0.length)], [eR37 x2_r0]⟩ ?_
          obtain rfl := retC H
          exact ak_ret hf hX (av := .own 0 1 0 x2_r0.length) (by kernel_rfl) [0] (sel_of_eq (by kernel_rfl)) (by decide) (by rw [h0]; rfl) (by kernel_rfl) (fun _ h => all_cons (nr_vec (nlI .u32)) (fun _ h => all_nil h) h) (.own _ _ _ _)
      · intro v1 x3_7 x3_8 x3_9 x3_r0 H
        refine goK hT 8 (K29 1111110100100101000 1) ⟨56, [(0, .d (eL37 t0 a0)), (5, .n .u32 v1), (6, .own 0 1 0 x3_r0.length), (7, .i x3_7), (8, .b x3_8), (9, .i x3_9), (30, .b (decide (x3_9 < (IntKind.wrap .i64 (x3_7 + 16)))))], [eR37 x3_r0]⟩ ?_
        by_cases c5 : x3_9 < (IntKind.wrap .i64 (x3_7 + 16))
        · replace H := sT c5 H
          have Jj2 : ∀ (y2_8 : Bool), stk (spliceref20_Above.j2 x3_7 x3_9 x3_r0 v1 y2_8) (iter (spliceref20_Above.step a0) n) = some r → AK X 29 ((K29 1111110100100101001 1)) (Back X [eR37 r] (.own 0 1 0 r.length)) ⟨56, [(0, .d (eL37 t0 a0)), (5, .n .u32 v1), (6, .own 0 1 0 x3_r0.length), (7, .i x3_7), (8, .b y2_8), (9, .i x3_9)], [eR37 x3_r0]⟩ := by
            intro y2_8 H
            refine goK hT 6 (K29 11111101001001010 0) ⟨56, [(0, .d (eL37 t0 a0)), (5, .n .u32 v1), (6, .own 0 1 0 x3_r0.length), (7, .i x3_7), (8, .b y2_8), (9, .i (IntKind.wrap .i64 (x3_9 + 1)))], [eR37 x3_r0]⟩ ?_
            refine cutK [0] ⟨56, [(0, .d (eL37 t0 a0)), (5, .n .u32 v1), (6, .own 0 1 0 x3_r0.length), (7, .i x3_7), (8, .b y2_8), (9, .i (IntKind.wrap .i64 (x3_9 + 1)))], [eR37 x3_r0]⟩ h0 ?_
            exact ih.2.2 v1 x3_7 y2_8 (IntKind.wrap .i64 (x3_9 + 1)) x3_r0 H
          rw [decide_eq_true c5]
          refine goK hT 2 (K29 111111010010010100 1) ⟨56, [(0, .d (eL37 t0 a0)), (5, .n .u32 v1), (6, .own 0 1 0 x3_r0.length), (7, .i x3_7), (8, .b x3_8), (9, .i x3_9)], [eR37 x3_r0]⟩ ?_
          refine goK hT 5 (K29 111111010010010100100 2) ⟨56, [(0, .d (eL37 t0 a0)), (5, .n .u32 v1), (6, .own 0 1 0 x3_r0.length), (7, .i x3_7), (9, .i x3_9), (34, .b x3_8)], [eR37 x3_r0]⟩ ?_
          by_cases c11 : x3_8 = true
          · replace H := sT c11 H
            rw [c11]
            refine goK hT 2 (K29 111111010010010100100 4) ⟨56, [(0, .d (eL37 t0 a0)), (5, .n .u32 v1), (6, .own 0 1 0 x3_r0.length), (7, .i x3_7), (9, .i x3_9), (34, .b true), (35, .d (eL37 t0 a0)), (36, .i x3_9)], [eR37 x3_r0]⟩ ?_
            obtain ⟨h12, H⟩ := sC H
            refine ak_idx hT [0, 5, 6, 7, 9, 34, 37] (i := x3_9) (n := (a0.length : Int)) h12.1 h12.2 (k' := (K29 111111010010010100100 5)) (st' := ⟨56, [(0, .d (eL37 t0 a0)), (5, .n .u32 v1), (6, .own 0 1 0 x3_r0.length), (7, .i x3_7), (9, .i x3_9), (34, .b true), (37, .d (eP37 t0 a0 x3_9.toNat 0))], [eR37 x3_r0]⟩) (by kernel_rfl) ?_
            refine goK hT 6 (K29 1111110100100101001 1) ⟨56, [(0, .d (eL37 t0 a0)), (5, .n .u32 v1), (6, .own 0 1 0 x3_r0.length), (7, .i x3_7), (8, .b ((a0.getD x3_9.toNat 0) == 0)), (9, .i x3_9)], [eR37 x3_r0]⟩ ?_
            refine cutK [0] ⟨56, [(0, .d (eL37 t0 a0)), (5, .n .u32 v1), (6, .own 0 1 0 x3_r0.length), (7, .i x3_7), (8, .b ((a0.getD x3_9.toNat 0) == 0)), (9, .i x3_9)], [eR37 x3_r0]⟩ h0 ?_
            exact Jj2 ((a0.getD x3_9.toNat 0) == 0) H
          · replace H := sF c11 H
            rw [boF c11]
            refine goK hT 9 (K29 1111110100100101001 1) ⟨56, [(0, .d (eL37 t0 a0)), (5, .n .u32 v1), (6, .own 0 1 0 x3_r0.length), (7, .i x3_7), (8, .b false), (9, .i x3_9)], [eR37 x3_r0]⟩ ?_
            refine cutK [0] ⟨56, [(0, .d (eL37 t0 a0)), (5, .n .u32 v1), (6, .own 0 1 0 x3_r0.length), (7, .i x3_7), (8, .b false), (9, .i x3_9)], [eR37 x3_r0]⟩ h0 ?_
            exact Jj2 false H
        · replace H := sF c5 H
          have Jj1 : ∀ (y1_r0 : List Int), stk (spliceref20_Above.j1 x3_7 v1 y1_r0) (iter (spliceref20_Above.step a0) n) = some r → AK X 29 ((K29 11111101001 1)) (Back X [eR37 r] (.own 0 1 0 r.length)) ⟨56, [(0, .d (eL37 t0 a0)), (5, .n .u32 v1), (6, .own 0 1 0 y1_r0.length), (7, .i x3_7)], [eR37 y1_r0]⟩ := by
            intro y1_r0 H
            refine goK hT 6 (K29 111111010 0) ⟨56, [(0, .d (eL37 t0 a0)), (5, .n .u32 v1), (6, .own 0 1 0 y1_r0.length), (7, .i (IntKind.wrap .i64 (x3_7 + 16)))], [eR37 y1_r0]⟩ ?_
            refine cutK [0] ⟨56, [(0, .d (eL37 t0 a0)), (5, .n .u32 v1), (6, .own 0 1 0 y1_r0.length), (7, .i (IntKind.wrap .i64 (x3_7 + 16)))], [eR37 y1_r0]⟩ h0 ?_
            exact ih.2.1 v1 (IntKind.wrap .i64 (x3_7 + 16)) y1_r0 H
          rw [decide_eq_false c5]
          refine goK hT 6 (K29 111111010010011 1) ⟨56, [(0, .d (eL37 t0 a0)), (5, .n .u32 v1), (6, .own 0 1 0 x3_r0.length), (7, .i x3_7), (41, .b x3_8)], [eR37 x3_r0]⟩ ?_
          by_cases c6 : x3_8 = true
          · replace H := sT c6 H
            rw [c6]
            refine goK hT 5 (K29 11111101001001110 3) ⟨56, [(0, .d (eL37 t0 a0)), (5, .n .u32 v1), (7, .i x3_7), (42, .own 0 1 0 x3_r0.length), (44, .own 1 1 0 1)], [eR37 x3_r0, .flat false 1 37 1 (fun j => [[.n .u32 v1]].getD j [])]⟩ ?_
            obtain ⟨h7, H⟩ := sC H
            refine ak_append1 (id := 0) (kk := 1) (by' := 4) (t := 57) (e := 37) (z := [.int .u32 0]) (dst := some 45) (id2 := 1) (e2 := 37) (fz := false) (k' := (K29 11111101001001110 4)) hT (eI .u32) 0 x3_r0 v1 [0, 5, 7, 45] (by kernel_rfl) (by kernel_rfl) (by kernel_rfl) (by kernel_rfl) (by kernel_rfl) (by kernel_rfl) (by kernel_rfl) h7 (by omega) (st' := ⟨56, [(0, .d (eL37 t0 a0)), (5, .n .u32 v1), (7, .i x3_7), (45, .own 2 1 0 ((x3_r0 ++ [v1]).length))], [.gone, .flat false 1 37 1 (fun j => [[.n .u32 v1]].getD j []), eR37 (x3_r0 ++ [v1])]⟩) (by kernel_rfl) ?_
            refine goK hT 3 (K29 11111101001 1) ⟨56, [(0, .d (eL37 t0 a0)), (5, .n .u32 v1), (6, .own 2 1 0 ((x3_r0 ++ [v1]).length)), (7, .i x3_7)], [.gone, .flat false 1 37 1 (fun j => [[.n .u32 v1]].getD j []), eR37 (x3_r0 ++ [v1])]⟩ ?_
            refine cutK [2] ⟨56, [(0, .d (eL37 t0 a0)), (5, .n .u32 v1), (6, .own 0 1 0 (x3_r0 ++ [v1]).length), (7, .i x3_7)], [eR37 (x3_r0 ++ [v1])]⟩ h0 ?_
            exact Jj1 (x3_r0 ++ [v1]) H
          · replace H := sF c6 H
            rw [boF c6]
            refine goK hT 7 (K29 11111101001001111 5) ⟨56, [(0, .d (eL37 t0 a0)), (5, .n .u32 v1), (7, .i x3_7), (46, .own 0 1 0 x3_r0.length), (47, .d (eL37 t0 a0)), (48, .i x3_7), (50, .i (IntKind.wrap .i64 (x3_7 + 16)))], [eR37 x3_r0]⟩ ?_
            obtain ⟨h8, H⟩ := sC H
            refine ak_sliceL (tg := t0) (s := 1) (l := (some (.i64, x3_7))) (h := (some (.i64, IntKind.wrap .i64 (x3_7 + 16)))) (dst := some 51) (k' := (K29 11111101001001111 6)) hT [0, 5, 7, 46, 51] (eI .u32) 0 a0 (by kernel_rfl) h8 (fun _ => rfl) (st' := ⟨56, [(0, .d (eL37 t0 a0)), (5, .n .u32 v1), (7, .i x3_7), (46, .own 0 1 0 x3_r0.length), (51, .d (eL37 t0 ((a0.drop x3_7.toNat).take ((IntKind.wrap .i64 (x3_7 + 16)).toNat - x3_7.toNat))))], [eR37 x3_r0]⟩) (by kernel_rfl) ?_
            obtain ⟨v2, h9, H⟩ := sbC H
            refine ak_callP (avs := [.d (eL37 t0 ((a0.drop x3_7.toNat).take ((IntKind.wrap .i64 (x3_7 + 16)).toNat - x3_7.toNat)))]) (dst := some 52) (k' := (K29 11111101001001111 7)) [0, 5, 7, 46, 52] [] hP enters_47 (spliceref20_Over.says (t0 := t0) ((a0.drop x3_7.toNat).take ((IntKind.wrap .i64 (x3_7 + 16)).toNat - x3_7.toNat)) h9) (by kernel_rfl) (hands_none _) (.cons (pass_d _) .nil) (st' := ⟨56, [(0, .d (eL37 t0 a0)), (5, .n .u32 v1), (7, .i x3_7), (46, .own 0 1 0 x3_r0.length), (52, .n .u32 v2)], [eR37 x3_r0]⟩) (by kernel_rfl) ?_
            refine goK hT 1 (K29 11111101001001111 8) ⟨56, [(0, .d (eL37 t0 a0)), (5, .n .u32 v1), (7, .i x3_7), (46, .own 0 1 0 x3_r0.length), (53, .own 1 1 0 1)], [eR37 x3_r0, .flat false 1 37 1 (fun j => [[.n .u32 v2]].getD j [])]⟩ ?_
            obtain ⟨h10, H⟩ := sC H
            refine ak_append1 (id := 0) (kk := 1) (by' := 4) (t := 57) (e := 37) (z := [.int .u32 0]) (dst := some 54) (id2 := 1) (e2 := 37) (fz := false) (k' := (K29 11111101001001111 9)) hT (eI .u32) 0 x3_r0 v2 [0, 5, 7, 54] (by kernel_rfl) (by kernel_rfl) (by kernel_rfl) (by kernel_rfl) (by kernel_rfl) (by kernel_rfl) (by kernel_rfl) h10 (by omega) (st' := ⟨56, [(0, .d (eL37 t0 a0)), (5, .n .u32 v1), (7, .i x3_7), (54, .own 2 1 0 ((x3_r0 ++ [v2]).length))], [.gone, .flat false 1 37 1 (fun j => [[.n .u32 v2]].getD j []), eR37 (x3_r0 ++ [v2])]⟩) (by kernel_rfl) ?_
            refine goK hT 3 (K29 11111101001 1) ⟨56, [(0, .d (eL37 t0 a0)), (5, .n .u32 v1), (6, .own 2 1 0 ((x3_r0 ++ [v2]).length)), (7, .i x3_7)], [.gone, .flat false 1 37 1 (fun j => [[.n .u32 v2]].getD j []), eR37 (x3_r0 ++ [v2])]⟩ ?_
            refine cutK [2] ⟨56, [(0, .d (eL37 t0 a0)), (5, .n .u32 v1), (6, .own 0 1 0 (x3_r0 ++ [v2]).length), (7, .i x3_7)], [eR37 (x3_r0 ++ [v2])]⟩ h0 ?_
            exact Jj1 (x3_r0 ++ [v2]) H
  refine cutK [0] ⟨56, [(0, .d (eL37 t0 a0)), (3, .own 0 1 0 ([] : List Int).length), (4, .i 0)], [eR37 ([] : List Int)]⟩ h0 ?_
  obtain ⟨n, H⟩ := loopC H
  exact (L n).1 0 ([] : List Int) H


theorem spliceref20_Levels.says {t0 : Bool} (a0 : List spliceref04_Pair) {r : List (List Int)} (H : spliceref20_Levels a0 = some r) : Says Try.prog 37 [] [.d (eL94 t0 a0)] [eR57 r] (.own 0 1 0 r.length) := by
  refine says_of Try.func37 rfl (nt := 18) rfl (Nat.le_of_ble_eq_true rfl) fun X hP h0 hX => ?_
  have hT : TabOk X.P T := hP ▸ tok
  have hf : X.P.funcs[37]? = some Try.f37 := hP ▸ Try.func37
  refine goK hT 7 (K37 110 1) ⟨18, [(6, .d (eL94 t0 a0))], []⟩ ?_
  obtain ⟨v1, h1, H⟩ := ibC H
  refine ak_callP (avs := [.d (eL94 t0 a0)]) (dst := some 7) (k' := (K37 110 2)) [7] [] hP enters_52 (spliceref20_Leaves.says (t0 := t0) a0 h1) (by kernel_rfl) (hands_none _) (.cons (pass_d _) .nil) (st' := ⟨18, [(7, .own 0 1 0 v1.length)], [eR37 v1]⟩) (by kernel_rfl) ?_
  refine goK hT 5 (K37 1110 1) ⟨18, [(3, .own 0 1 0 v1.length), (8, .own 0 1 0 v1.length)], [eR37 v1]⟩ ?_
  obtain ⟨v2, h2, H⟩ := ibC H
  refine ak_callP (avs := [.own 0 1 0 v1.length]) (dst := some 9) (k' := (K37 1110 2)) [3, 9] [] hP enters_29 (spliceref20_Above.says (t0 := false) v1 h2) (by kernel_rfl) (hands_none _) (.cons (.lend (ty := 37) (by kernel_rfl) rfl) .nil) (st' := ⟨18, [(3, .own 0 1 0 v1.length), (9, .own 1 1 0 v2.length)], [eR37 v1, eR37 v2]⟩) (by kernel_rfl) ?_
  refine goK hT 5 (K37 11110 1) ⟨18, [(3, .own 0 1 0 v1.length), (4, .own 1 1 0 v2.length), (10, .own 1 1 0 v2.length)], [eR37 v1, eR37 v2]⟩ ?_
  obtain ⟨v3, h3, H⟩ := ibC H
  refine ak_callP (avs := [.own 1 1 0 v2.length]) (dst := some 11) (k' := (K37 11110 2)) [3, 4, 11] [] hP enters_29 (spliceref20_Above.says (t0 := false) v2 h3) (by kernel_rfl) (hands_none _) (.cons (.lend (ty := 37) (by kernel_rfl) rfl) .nil) (st' := ⟨18, [(3, .own 0 1 0 v1.length), (4, .own 1 1 0 v2.length), (11, .own 2 1 0 v3.length)], [eR37 v1, eR37 v2, eR37 v3]⟩) (by kernel_rfl) ?_
  refine goK hT 8 (K37 111110 4) ⟨18, [(12, .own 0 1 0 v1.length), (13, .own 1 1 0 v2.length), (14, .own 2 1 0 v3.length), (15, .own 2 1 0 v3.length)], [eR37 v1, eR37 v2, eR37 v3]⟩ ?_
  obtain ⟨v4, h4, H⟩ := ibC H
  refine ak_callP (avs := [.own 2 1 0 v3.length]) (dst := some 16) (k' := (K37 111110 5)) [12, 13, 14, 16] [] hP enters_29 (spliceref20_Above.says (t0 := false) v3 h4) (by kernel_rfl) (hands_none _) (.cons (.lend (ty := 37) (by kernel_rfl) rfl) .nil) (st' := ⟨18, [(12, .own 0 1 0 v1.length), (13, .own 1 1 0 v2.length), (14, .own 2 1 0 v3.length), (16, .own 3 1 0 v4.length)], [eR37 v1, eR37 v2, eR37 v3, eR37 v4]⟩) (by kernel_rfl) ?_
  refine ak_freeze 0 (kk := 1) (n := v1.length) (ty := 37) (g := vec (eI .u32) 0 v1) (by kernel_rfl) (st' := ⟨18, [(12, .own 0 1 0 v1.length), (13, .own 1 1 0 v2.length), (14, .own 2 1 0 v3.length), (16, .own 3 1 0 v4.length)], [eF37 v1, eR37 v2, eR37 v3, eR37 v4]⟩) (by kernel_rfl) ?_
  refine ak_sealS (av := .own 0 1 0 v1.length) (y := eL37 true v1) [12, 13, 14, 16] 12 (st' := ⟨18, [(12, .d (eL37 true v1)), (13, .own 1 1 0 v2.length), (14, .own 2 1 0 v3.length), (16, .own 3 1 0 v4.length)], [eF37 v1, eR37 v2, eR37 v3, eR37 v4]⟩) (by kernel_rfl) (.own (ty := 37) (k := 1) (by kernel_rfl)) (by kernel_rfl) ?_
  refine ak_freeze 1 (kk := 1) (n := v2.length) (ty := 37) (g := vec (eI .u32) 0 v2) (by kernel_rfl) (st' := ⟨18, [(12, .d (eL37 true v1)), (13, .own 1 1 0 v2.length), (14, .own 2 1 0 v3.length), (16, .own 3 1 0 v4.length)], [eF37 v1, eF37 v2, eR37 v3, eR37 v4]⟩) (by kernel_rfl) ?_
  refine ak_sealS (av := .own 1 1 0 v2.length) (y := eL37 true v2) [12, 13, 14, 16] 13 (st' := ⟨18, [(12, .d (eL37 true v1)), (13, .d (eL37 true v2)), (14, .own 2 1 0 v3.length), (16, .own 3 1 0 v4.length)], [eF37 v1, eF37 v2, eR37 v3, eR37 v4]⟩) (by kernel_rfl) (.own (ty := 37) (k := 1) (by kernel_rfl)) (by kernel_rfl) ?_
  refine ak_freeze 2 (kk := 1) (n := v3.length) (ty := 37) (g := vec (eI .u32) 0 v3) (by kernel_rfl) (st' := ⟨18, [(12, .d (eL37 true v1)), (13, .d (eL37 true v2)), (14, .own 2 1 0 v3.length), (16, .own 3 1 0 v4.length)], [eF37 v1, eF37 v2, eF37 v3, eR37 v4]⟩) (by kernel_rfl) ?_
  refine ak_sealS (av := .own 2 1 0 v3.length) (y := eL37 true v3) [12, 13, 14, 16] 14 (st' := ⟨18, [(12, .d (eL37 true v1)), (13, .d (eL37 true v2)), (14, .d (eL37 true v3)), (16, .own 3 1 0 v4.length)], [eF37 v1, eF37 v2, eF37 v3, eR37 v4]⟩) (by kernel_rfl) (.own (ty := 37) (k := 1) (by kernel_rfl)) (by kernel_rfl) ?_
  refine ak_freeze 3 (kk := 1) (n := v4.length) (ty := 37) (g := vec (eI .u32) 0 v4) (by kernel_rfl) (st' := ⟨18, [(12, .d (eL37 true v1)), (13, .d (eL37 true v2)), (14, .d (eL37 true v3)), (16, .own 3 1 0 v4.length)], [eF37 v1, eF37 v2, eF37 v3, eF37 v4]⟩) (by kernel_rfl) ?_
  refine ak_sealS (av := .own 3 1 0 v4.length) (y := eL37 true v4) [12, 13, 14, 16] 16 (st' := ⟨18, [(12, .d (eL37 true v1)), (13, .d (eL37 true v2)), (14, .d (eL37 true v3)), (16, .d (eL37 true v4))], [eF37 v1, eF37 v2, eF37 v3, eF37 v4]⟩) (by kernel_rfl) (.own (ty := 37) (k := 1) (by kernel_rfl)) (by kernel_rfl) ?_
  refine goK hT 3 (K37 11111 1) ⟨18, [(2, .own 4 1 0 4)], [eF37 v1, eF37 v2, eF37 v3, eF37 v4, .flat false 1 57 4 (fun j => [[eL37 true v1], [eL37 true v2], [eL37 true v3], [eL37 true v4]].getD j [])]⟩ ?_
  refine ak_row 4 (kk := 1) (fz := false) (ty := 57) (n := ([v1, v2, v3, v4] : List (List Int)).length) (vec (eL (eI .u32) 0) [] ([v1, v2, v3, v4] : List (List Int))) (by kernel_rfl) vec_lit (st' := ⟨18, [(2, .own 4 1 0 (([v1, v2, v3, v4] : List (List Int)).length))], [eF37 v1, eF37 v2, eF37 v3, eF37 v4, eR57 ([v1, v2, v3, v4] : List (List Int))]⟩) (by kernel_rfl) ?_
  obtain rfl := retC H
  exact ak_ret hf hX (av := .own 4 1 0 (([v1, v2, v3, v4] : List (List Int)).length)) (by kernel_rfl) [4] (sel_of_eq (by kernel_rfl)) (by decide) (by rw [h0]; rfl) (by kernel_rfl) (fun _ h => all_cons (nr_vec (nlL (nlI .u32))) (fun _ h => all_nil h) h) (.own _ _ _ _)


theorem splicelaw20_levels.says {t0 : Bool} (a0 : List api_Pair) {r : List (List Int)} (H : splicelaw20_levels a0 = some r) : Says Try.prog 13 [] [.d (eL42 t0 a0)] [eR57 r] (.own 0 1 0 r.length) := by
  refine says_of Try.func13 rfl (nt := 6) rfl (Nat.le_of_ble_eq_true rfl) fun X hP h0 hX => ?_
  have hT : TabOk X.P T := hP ▸ tok
  have hf : X.P.funcs[13]? = some Try.f13 := hP ▸ Try.func13
  refine goK hT 7 (K13 110 1) ⟨6, [(3, .d (eL42 t0 a0))], []⟩ ?_
  obtain ⟨v1, h1, H⟩ := ibC H
  refine ak_callP (avs := [.d (eL42 t0 a0)]) (dst := some 4) (k' := (K13 110 2)) [4] [] hP enters_22 (splicelaw05_Refs.says (t0 := t0) a0 h1) (by kernel_rfl) (hands_none _) (.cons (pass_d _) .nil) (st' := ⟨6, [(4, .own 0 2 0 v1.length)], [eR94 v1]⟩) (by kernel_rfl) ?_
  obtain ⟨v2, h2, H⟩ := ibC H
  refine ak_callP (avs := [.own 0 2 0 v1.length]) (dst := some 5) (k' := (K13 110 3)) [5] [] hP enters_37 (spliceref20_Levels.says (t0 := false) v1 h2) (by kernel_rfl) (hands_none _) (.cons (.lend (ty := 94) (by kernel_rfl) rfl) .nil) (st' := ⟨6, [(5, .own 1 1 0 v2.length)], [eR94 v1, eR57 v2]⟩) (by kernel_rfl) ?_
  refine goK hT 2 (K13 11 1) ⟨6, [(2, .own 1 1 0 v2.length)], [eR94 v1, eR57 v2]⟩ ?_
  obtain rfl := retC H
  exact ak_ret hf hX (av := .own 1 1 0 v2.length) (by kernel_rfl) [1] (sel_of_eq (by kernel_rfl)) (by decide) (by rw [h0]; rfl) (by kernel_rfl) (fun _ h => all_cons (nr_vec (nlL (nlI .u32))) (fun _ h => all_nil h) h) (.own _ _ _ _)


theorem merkle_isKey.says (a0 : Int) : Says Try.prog 43 [] [.i a0] [] (.b (merkle_isKey a0)) := by
  obtain ⟨r, H⟩ : ∃ r, merkle_isKey a0 = r := ⟨_, rfl⟩
  rw [H]
  refine says_of Try.func43 rfl (nt := 9) rfl (Nat.le_of_ble_eq_true rfl) fun X hP h0 hX => ?_
  have hT : TabOk X.P T := hP ▸ tok
  have hf : X.P.funcs[43]? = some Try.f43 := hP ▸ Try.func43
  have Jj1 : ∀ (y1_2 : Bool), (merkle_isKey.j1 y1_2) = r → AK X 43 ((K43 11 1)) (Back X [] (.b r)) ⟨9, [(2, .b y1_2)], []⟩ := by
    intro y1_2 H
    obtain rfl := H
    exact ak_ret hf hX (av := .b y1_2) (by kernel_rfl) [] (sel_of_eq (by kernel_rfl)) (by decide) (by rw [h0]; rfl) (by kernel_rfl) (fun _ h => all_nil h) (.d (.v _))
  refine goK hT 9 (K43 110 3) ⟨9, [(0, .i a0), (5, .b (decide (a0 ≥ 0)))], []⟩ ?_
  by_cases c1 : a0 ≥ 0
  · replace H := iT c1 H
    rw [decide_eq_true c1]
    refine goK hT 5 (K43 11 1) ⟨9, [(2, .b (decide (a0 < 4096)))], []⟩ ?_
    refine cutK [] ⟨9, [(2, .b (decide (a0 < 4096)))], []⟩ h0 ?_
    exact Jj1 (decide (a0 < 4096)) H
  · replace H := iF c1 H
    rw [decide_eq_false c1]
    refine goK hT 5 (K43 11 1) ⟨9, [(2, .b false)], []⟩ ?_
    refine cutK [] ⟨9, [(2, .b false)], []⟩ h0 ?_
    exact Jj1 false H


theorem merkle_Tree_Get.says (a0 : merkle_Tree) (a1 : Int) {r : api_Cell} (H : merkle_Tree_Get a0 a1 = some r) : Says Try.prog 26 [eB91 a0] [.ptr 0 0 0 0, .i a1] [eB91 a0] (.d (eG48 r)) := by
  refine says_of Try.func26 rfl (nt := 19) rfl (Nat.le_of_ble_eq_true rfl) fun X hP h0 hX => ?_
  have hT : TabOk X.P T := hP ▸ tok
  have hf : X.P.funcs[26]? = some Try.f26 := hP ▸ Try.func26
  refine goK hT 11 (K26 1100 4) ⟨19, [(0, .ptr 0 0 0 0), (1, .i a1), (4, .ptr 1 0 0 0), (7, .b false), (8, .i a1)], [eB91 a0, .box 48 [.i 0, .b false]]⟩ ?_
  refine ak_callP (avs := [.i a1]) (dst := some 9) (k' := (K26 1100 5)) [0, 1, 4, 7, 9] [] hP enters_43 (merkle_isKey.says a1) (by kernel_rfl) (hands_none _) (.cons (pass_d _) .nil) (st' := ⟨19, [(0, .ptr 0 0 0 0), (1, .i a1), (4, .ptr 1 0 0 0), (7, .b false), (9, .b (merkle_isKey a1))], [eB91 a0, .box 48 [.i 0, .b false]]⟩) (by kernel_rfl) ?_
  refine goK hT 3 (K26 110 1) ⟨19, [(0, .ptr 0 0 0 0), (1, .i a1), (4, .ptr 1 0 0 0), (11, .b (!(merkle_isKey a1)))], [eB91 a0, .box 48 [.i 0, .b false]]⟩ ?_
  by_cases c1 : (merkle_isKey a1) = true
  · replace H := iT c1 H
    rw [c1]
    refine goK hT 2 (K26 11 1) ⟨19, [(0, .ptr 0 0 0 0), (1, .i a1), (4, .ptr 1 0 0 0)], [eB91 a0, .box 48 [.i 0, .b false]]⟩ ?_
    refine goK hT 6 (K26 1110 4) ⟨19, [(4, .ptr 1 0 0 0), (14, .i a1), (16, .ptr 0 0 0 0)], [eB91 a0, .box 48 [.i 0, .b false]]⟩ ?_
    obtain ⟨h2, H⟩ := iC H
    refine ak_idx hT [4, 17] (i := a1) (n := 4096) h2.1 h2.2 (k' := (K26 1110 5)) (st' := ⟨19, [(4, .ptr 1 0 0 0), (17, .ptr 0 0 0 (0 + a1.toNat * 2))], [eB91 a0, .box 48 [.i 0, .b false]]⟩) (by kernel_rfl) ?_
    refine ak_bld hT [4, 18] (A := 0 * 0 + (0 + a1.toNat * 2)) (s := 2) (n := 12561) (agg := true) (g := merkle_Tree.g a0) (dst := some 18) (k' := (K26 1110 6)) (api_Cell.e (a0.cells a1.toNat)) (by kernel_rfl) (by omega) rfl (fun h => by cases h) (fun j hj => merkle_Tree.g_cells a0 (i := a1.toNat) (by omega) (by omega) hj) (st' := ⟨19, [(4, .ptr 1 0 0 0), (18, .d (eG48 (a0.cells a1.toNat)))], [eB91 a0, .box 48 [.i 0, .b false]]⟩) (by kernel_rfl) ?_
    refine goK hT 2 (K26 111 1) ⟨19, [(4, .ptr 1 0 0 0)], [eB91 a0, .box 48 [.i ((a0.cells a1.toNat).Val), .b ((a0.cells a1.toNat).Some)]]⟩ ?_
    obtain rfl := retC H
    exact ak_retM hT hf hX (av := .d (.agg [.i ((a0.cells a1.toNat).Val), .b ((a0.cells a1.toNat).Some)])) (by kernel_rfl) [0] (sel_of_eq (by kernel_rfl)) (by decide) (by rw [h0]; rfl) (by kernel_rfl) (fun _ h => all_cons (.flat fun _ _ => merkle_Tree.gnl _ _) (fun _ h => all_nil h) h) (.d (.agg (api_Cell.nl _)))
  · replace H := iF c1 H
    rw [boF c1]
    refine goK hT 6 (K26 11010 1) ⟨19, [(4, .ptr 1 0 0 0)], [eB91 a0, .box 48 [.i 0, .b false]]⟩ ?_
    obtain rfl := retC H
    exact ak_retM hT hf hX (av := .d (.agg [.i 0, .b false])) (by kernel_rfl) [0] (sel_of_eq (by kernel_rfl)) (by decide) (by rw [h0]; rfl) (by kernel_rfl) (fun _ h => all_cons (.flat fun _ _ => merkle_Tree.gnl _ _) (fun _ h => all_nil h) h) (.d (.agg (api_Cell.nl _)))


theorem merkle_Tree_kids.says0 (a0 : merkle_Tree) (a1 : Int) (a2 : Int) (c1 : a1 = 0) (h2 : 0 ≤ (IntKind.wrap .i64 ((IntKind.wrap .i64 (Int.tdiv a2 16)) * 16)) ∧ (IntKind.wrap .i64 ((IntKind.wrap .i64 (Int.tdiv a2 16)) * 16)) ≤ (IntKind.wrap .i64 ((IntKind.wrap .i64 ((IntKind.wrap .i64 (Int.tdiv a2 16)) + 1)) * 16)) ∧ (IntKind.wrap .i64 ((IntKind.wrap .i64 ((IntKind.wrap .i64 (Int.tdiv a2 16)) + 1)) * 16)) ≤ 4096 ∧ (IntKind.wrap .i64 ((IntKind.wrap .i64 (Int.tdiv a2 16)) * 16)) < 4096) : Says Try.prog 45 [eB91 a0] [.ptr 0 0 0 0, .i a1, .i a2] [eB91 a0] (.win 0 (8192 + (IntKind.wrap .i64 ((IntKind.wrap .i64 (Int.tdiv a2 16)) * 16)).toNat) ((IntKind.wrap .i64 ((IntKind.wrap .i64 ((IntKind.wrap .i64 (Int.tdiv a2 16)) + 1)) * 16)).toNat - (IntKind.wrap .i64 ((IntKind.wrap .i64 (Int.tdiv a2 16)) * 16)).toNat)) := by
  refine says_of Try.func45 rfl (nt := 41) rfl (Nat.le_of_ble_eq_true rfl) fun X hP h0 hX => ?_
  have hT : TabOk X.P T := hP ▸ tok
  have hf : X.P.funcs[45]? = some Try.f45 := hP ▸ Try.func45
  refine goK hT 15 (K45 11010 1) ⟨41, [(0, .ptr 0 0 0 0), (2, .i a2), (9, .i a1), (10, .b (a1 == 0))], [eB91 a0]⟩ ?_
  rw [eqT c1]
  refine goK hT 17 (K45 110101010 8) ⟨41, [(16, .ptr 0 0 0 8192), (18, .i (IntKind.wrap .i64 ((IntKind.wrap .i64 (Int.tdiv a2 16)) * 16))), (21, .i (IntKind.wrap .i64 ((IntKind.wrap .i64 ((IntKind.wrap .i64 (Int.tdiv a2 16)) + 1)) * 16)))], [eB91 a0]⟩ ?_
  refine ak_win hT [22] (id := 0) (A := 0 * 0 + 8192) (len := 4096) (m := ((IntKind.wrap .i64 ((IntKind.wrap .i64 ((IntKind.wrap .i64 (Int.tdiv a2 16)) + 1)) * 16)).toNat - (IntKind.wrap .i64 ((IntKind.wrap .i64 (Int.tdiv a2 16)) * 16)).toNat)) (q := (8192 + (IntKind.wrap .i64 ((IntKind.wrap .i64 (Int.tdiv a2 16)) * 16)).toNat)) (l := (some (.i64, (IntKind.wrap .i64 ((IntKind.wrap .i64 (Int.tdiv a2 16)) * 16))))) (h := (some (.i64, (IntKind.wrap .i64 ((IntKind.wrap .i64 ((IntKind.wrap .i64 (Int.tdiv a2 16)) + 1)) * 16))))) (dst := some 22) (by kernel_rfl) h2.1 h2.2.1 h2.2.2.1 h2.2.2.2 rfl (by show (8192 + (IntKind.wrap .i64 ((IntKind.wrap .i64 (Int.tdiv a2 16)) * 16)).toNat) = 0 * 0 + 8192 + _; first | rfl | omega) (k' := (K45 110101010 9)) (st' := ⟨41, [(22, .win 0 (8192 + (IntKind.wrap .i64 ((IntKind.wrap .i64 (Int.tdiv a2 16)) * 16)).toNat) ((IntKind.wrap .i64 ((IntKind.wrap .i64 ((IntKind.wrap .i64 (Int.tdiv a2 16)) + 1)) * 16)).toNat - (IntKind.wrap .i64 ((IntKind.wrap .i64 (Int.tdiv a2 16)) * 16)).toNat))], [eB91 a0]⟩) (by kernel_rfl) ?_
  refine goK hT 2 (K45 11010101 1) ⟨41, [(6, .win 0 (8192 + (IntKind.wrap .i64 ((IntKind.wrap .i64 (Int.tdiv a2 16)) * 16)).toNat) ((IntKind.wrap .i64 ((IntKind.wrap .i64 ((IntKind.wrap .i64 (Int.tdiv a2 16)) + 1)) * 16)).toNat - (IntKind.wrap .i64 ((IntKind.wrap .i64 (Int.tdiv a2 16)) * 16)).toNat))], [eB91 a0]⟩ ?_
  exact ak_ret hf hX (av := .win 0 (8192 + (IntKind.wrap .i64 ((IntKind.wrap .i64 (Int.tdiv a2 16)) * 16)).toNat) ((IntKind.wrap .i64 ((IntKind.wrap .i64 ((IntKind.wrap .i64 (Int.tdiv a2 16)) + 1)) * 16)).toNat - (IntKind.wrap .i64 ((IntKind.wrap .i64 (Int.tdiv a2 16)) * 16)).toNat)) (by kernel_rfl) [0] (sel_of_eq (by kernel_rfl)) (by decide) (by rw [h0]; rfl) (by kernel_rfl) (fun _ h => all_cons (.flat fun _ _ => merkle_Tree.gnl _ _) (fun _ h => all_nil h) h) (.win _ _ _)


theorem merkle_Tree_kids.says1 (a0 : merkle_Tree) (a1 : Int) (a2 : Int) (c1 : ¬ (a1 = 0)) (c3 : a1 = 1) (h4 : 0 ≤ (IntKind.wrap .i64 ((IntKind.wrap .i64 (Int.tdiv (IntKind.wrap .i64 (Int.tdiv a2 16)) 16)) * 16)) ∧ (IntKind.wrap .i64 ((IntKind.wrap .i64 (Int.tdiv (IntKind.wrap .i64 (Int.tdiv a2 16)) 16)) * 16)) ≤ (IntKind.wrap .i64 ((IntKind.wrap .i64 ((IntKind.wrap .i64 (Int.tdiv (IntKind.wrap .i64 (Int.tdiv a2 16)) 16)) + 1)) * 16)) ∧ (IntKind.wrap .i64 ((IntKind.wrap .i64 ((IntKind.wrap .i64 (Int.tdiv (IntKind.wrap .i64 (Int.tdiv a2 16)) 16)) + 1)) * 16)) ≤ 256 ∧ (IntKind.wrap .i64 ((IntKind.wrap .i64 (Int.tdiv (IntKind.wrap .i64 (Int.tdiv a2 16)) 16)) * 16)) < 256) : Says Try.prog 45 [eB91 a0] [.ptr 0 0 0 0, .i a1, .i a2] [eB91 a0] (.win 0 (12288 + (IntKind.wrap .i64 ((IntKind.wrap .i64 (Int.tdiv (IntKind.wrap .i64 (Int.tdiv a2 16)) 16)) * 16)).toNat) ((IntKind.wrap .i64 ((IntKind.wrap .i64 ((IntKind.wrap .i64 (Int.tdiv (IntKind.wrap .i64 (Int.tdiv a2 16)) 16)) + 1)) * 16)).toNat - (IntKind.wrap .i64 ((IntKind.wrap .i64 (Int.tdiv (IntKind.wrap .i64 (Int.tdiv a2 16)) 16)) * 16)).toNat)) := by
  refine says_of Try.func45 rfl (nt := 41) rfl (Nat.le_of_ble_eq_true rfl) fun X hP h0 hX => ?_
  have hT : TabOk X.P T := hP ▸ tok
  have hf : X.P.funcs[45]? = some Try.f45 := hP ▸ Try.func45
  refine goK hT 15 (K45 11010 1) ⟨41, [(0, .ptr 0 0 0 0), (2, .i a2), (9, .i a1), (10, .b (a1 == 0))], [eB91 a0]⟩ ?_
  rw [eqF c1]
  refine goK hT 6 (K45 1101011 1) ⟨41, [(0, .ptr 0 0 0 0), (2, .i a2), (23, .b (a1 == 1))], [eB91 a0]⟩ ?_
  rw [eqT c3]
  refine goK hT 18 (K45 11010111010 8) ⟨41, [(30, .ptr 0 0 0 12288), (32, .i (IntKind.wrap .i64 ((IntKind.wrap .i64 (Int.tdiv (IntKind.wrap .i64 (Int.tdiv a2 16)) 16)) * 16))), (35, .i (IntKind.wrap .i64 ((IntKind.wrap .i64 ((IntKind.wrap .i64 (Int.tdiv (IntKind.wrap .i64 (Int.tdiv a2 16)) 16)) + 1)) * 16)))], [eB91 a0]⟩ ?_
  refine ak_win hT [36] (id := 0) (A := 0 * 0 + 12288) (len := 256) (m := ((IntKind.wrap .i64 ((IntKind.wrap .i64 ((IntKind.wrap .i64 (Int.tdiv (IntKind.wrap .i64 (Int.tdiv a2 16)) 16)) + 1)) * 16)).toNat - (IntKind.wrap .i64 ((IntKind.wrap .i64 (Int.tdiv (IntKind.wrap .i64 (Int.tdiv a2 16)) 16)) * 16)).toNat)) (q := (12288 + (IntKind.wrap .i64 ((IntKind.wrap .i64 (Int.tdiv (IntKind.wrap .i64 (Int.tdiv a2 16)) 16)) * 16)).toNat)) (l := (some (.i64, (IntKind.wrap .i64 ((IntKind.wrap .i64 (Int.tdiv (IntKind.wrap .i64 (Int.tdiv a2 16)) 16)) * 16))))) (h := (some (.i64, (IntKind.wrap .i64 ((IntKind.wrap .i64 ((IntKind.wrap .i64 (Int.tdiv (IntKind.wrap .i64 (Int.tdiv a2 16)) 16)) + 1)) * 16))))) (dst := some 36) (by kernel_rfl) h4.1 h4.2.1 h4.2.2.1 h4.2.2.2 rfl (by show (12288 + (IntKind.wrap .i64 ((IntKind.wrap .i64 (Int.tdiv (IntKind.wrap .i64 (Int.tdiv a2 16)) 16)) * 16)).toNat) = 0 * 0 + 12288 + _; first | rfl | omega) (k' := (K45 11010111010 9)) (st' := ⟨41, [(36, .win 0 (12288 + (IntKind.wrap .i64 ((IntKind.wrap .i64 (Int.tdiv (IntKind.wrap .i64 (Int.tdiv a2 16)) 16)) * 16)).toNat) ((IntKind.wrap .i64 ((IntKind.wrap .i64 ((IntKind.wrap .i64 (Int.tdiv (IntKind.wrap .i64 (Int.tdiv a2 16)) 16)) + 1)) * 16)).toNat - (IntKind.wrap .i64 ((IntKind.wrap .i64 (Int.tdiv (IntKind.wrap .i64 (Int.tdiv a2 16)) 16)) * 16)).toNat))], [eB91 a0]⟩) (by kernel_rfl) ?_
  refine goK hT 2 (K45 1101011101 1) ⟨41, [(6, .win 0 (12288 + (IntKind.wrap .i64 ((IntKind.wrap .i64 (Int.tdiv (IntKind.wrap .i64 (Int.tdiv a2 16)) 16)) * 16)).toNat) ((IntKind.wrap .i64 ((IntKind.wrap .i64 ((IntKind.wrap .i64 (Int.tdiv (IntKind.wrap .i64 (Int.tdiv a2 16)) 16)) + 1)) * 16)).toNat - (IntKind.wrap .i64 ((IntKind.wrap .i64 (Int.tdiv (IntKind.wrap .i64 (Int.tdiv a2 16)) 16)) * 16)).toNat))], [eB91 a0]⟩ ?_
  exact ak_ret hf hX (av := .win 0 (12288 + (IntKind.wrap .i64 ((IntKind.wrap .i64 (Int.tdiv (IntKind.wrap .i64 (Int.tdiv a2 16)) 16)) * 16)).toNat) ((IntKind.wrap .i64 ((IntKind.wrap .i64 ((IntKind.wrap .i64 (Int.tdiv (IntKind.wrap .i64 (Int.tdiv a2 16)) 16)) + 1)) * 16)).toNat - (IntKind.wrap .i64 ((IntKind.wrap .i64 (Int.tdiv (IntKind.wrap .i64 (Int.tdiv a2 16)) 16)) * 16)).toNat)) (by kernel_rfl) [0] (sel_of_eq (by kernel_rfl)) (by decide) (by rw [h0]; rfl) (by kernel_rfl) (fun _ h => all_cons (.flat fun _ _ => merkle_Tree.gnl _ _) (fun _ h => all_nil h) h) (.win _ _ _)


theorem merkle_Tree_kids.says2 (a0 : merkle_Tree) (a1 : Int) (a2 : Int) (c1 : ¬ (a1 = 0)) (c3 : ¬ (a1 = 1)) : Says Try.prog 45 [eB91 a0] [.ptr 0 0 0 0, .i a1, .i a2] [eB91 a0] (.win 0 12544 16) := by
  refine says_of Try.func45 rfl (nt := 41) rfl (Nat.le_of_ble_eq_true rfl) fun X hP h0 hX => ?_
  have hT : TabOk X.P T := hP ▸ tok
  have hf : X.P.funcs[45]? = some Try.f45 := hP ▸ Try.func45
  refine goK hT 15 (K45 11010 1) ⟨41, [(0, .ptr 0 0 0 0), (2, .i a2), (9, .i a1), (10, .b (a1 == 0))], [eB91 a0]⟩ ?_
  rw [eqF c1]
  refine goK hT 6 (K45 1101011 1) ⟨41, [(0, .ptr 0 0 0 0), (2, .i a2), (23, .b (a1 == 1))], [eB91 a0]⟩ ?_
  rw [eqF c3]
  refine goK hT 3 (K45 11 1) ⟨41, [(0, .ptr 0 0 0 0)], [eB91 a0]⟩ ?_
  refine goK hT 5 (K45 1110 3) ⟨41, [(39, .ptr 0 0 0 12544)], [eB91 a0]⟩ ?_
  refine ak_win hT [40] (id := 0) (A := 0 * 0 + 12544) (len := 16) (m := 16) (q := 12544) (l := none) (h := none) (dst := some 40) (by kernel_rfl) (by decide) (by decide) (by decide) (by decide) rfl (by show 12544 = 0 * 0 + 12544 + _; first | rfl | omega) (k' := (K45 1110 4)) (st' := ⟨41, [(40, .win 0 12544 16)], [eB91 a0]⟩) (by kernel_rfl) ?_
  refine goK hT 2 (K45 111 1) ⟨41, [(6, .win 0 12544 16)], [eB91 a0]⟩ ?_
  exact ak_ret hf hX (av := .win 0 12544 16) (by kernel_rfl) [0] (sel_of_eq (by kernel_rfl)) (by decide) (by rw [h0]; rfl) (by kernel_rfl) (fun _ h => all_cons (.flat fun _ _ => merkle_Tree.gnl _ _) (fun _ h => all_nil h) h) (.win _ _ _)


theorem merkle_place.says (a0 : Int) (a1 : Int) {r : Int} (H : merkle_place a0 a1 = some r) : Says Try.prog 46 [] [.i a0, .i a1] [] (.i r) := by
  refine says_of Try.func46 rfl (nt := 13) rfl (Nat.le_of_ble_eq_true rfl) fun X hP h0 hX => ?_
  have hT : TabOk X.P T := hP ▸ tok
  have hf : X.P.funcs[46]? = some Try.f46 := hP ▸ Try.func46
  refine goK hT 12 (K46 11010 0) ⟨13, [(1, .i a1), (5, .i a0), (6, .i 0)], []⟩ ?_
  have L : ∀ n, (∀ (x1_1 : Int) (x1_6 : Int), iter (merkle_place.step a0) n (.l1 x1_1 x1_6) = some r → AK X 46 ((K46 11010 0)) (Back X [] (.i r)) ⟨13, [(1, .i x1_1), (5, .i a0), (6, .i x1_6)], []⟩) := by
    intro n
    induction n with
    | zero => exact fun _ _ H => iter0 H
    | succ n ih =>
      · intro x1_1 x1_6 H
        refine goK hT 5 (K46 1101001 0) ⟨13, [(1, .i x1_1), (5, .i a0), (6, .i x1_6), (7, .b (decide (x1_6 < a0)))], []⟩ ?_
        by_cases c1 : x1_6 < a0
        · replace H := sT c1 H
          rw [decide_eq_true c1]
          refine goK hT 2 (K46 1101001 1) ⟨13, [(1, .i x1_1), (5, .i a0), (6, .i x1_6)], []⟩ ?_
          refine goK hT 13 (K46 11010 0) ⟨13, [(1, .i (IntKind.wrap .i64 (Int.tdiv x1_1 16))), (5, .i a0), (6, .i (IntKind.wrap .i64 (x1_6 + 1)))], []⟩ ?_
          refine cutK [] ⟨13, [(1, .i (IntKind.wrap .i64 (Int.tdiv x1_1 16))), (5, .i a0), (6, .i (IntKind.wrap .i64 (x1_6 + 1)))], []⟩ h0 ?_
          exact ih (IntKind.wrap .i64 (Int.tdiv x1_1 16)) (IntKind.wrap .i64 (x1_6 + 1)) H
        · replace H := sF c1 H
          rw [decide_eq_false c1]
          refine goK hT 8 (K46 111 1) ⟨13, [(4, .i (Int.tmod x1_1 16))], []⟩ ?_
          obtain rfl := retC H
          exact ak_ret hf hX (av := .i (Int.tmod x1_1 16)) (by kernel_rfl) [] (sel_of_eq (by kernel_rfl)) (by decide) (by rw [h0]; rfl) (by kernel_rfl) (fun _ h => all_nil h) (.d (.v _))
  refine cutK [] ⟨13, [(1, .i a1), (5, .i a0), (6, .i 0)], []⟩ h0 ?_
  obtain ⟨n, H⟩ := loopC H
  exact (L n) a1 0 H


theorem merkle_Tree_Prove.says (a0 : merkle_Tree) (a1 : Int) {r : (List Int) × Int} (H : merkle_Tree_Prove a0 a1 = some r) : Says Try.prog 28 [eB91 a0] [.ptr 0 0 0 0, .i a1] [eB91 a0, eR37 r.1] (.tup [.own 1 1 0 r.1.length, .i r.2]) := by
  refine says_of Try.func28 rfl (nt := 42) rfl (Nat.le_of_ble_eq_true rfl) fun X hP h0 hX => ?_
  have hT : TabOk X.P T := hP ▸ tok
  have hf : X.P.funcs[28]? = some Try.f28 := hP ▸ Try.func28
  refine goK hT 12 (K28 1100 4) ⟨42, [(0, .ptr 0 0 0 0), (1, .i a1), (12, .b false), (13, .i a1)], [eB91 a0]⟩ ?_
  refine ak_callP (avs := [.i a1]) (dst := some 14) (k' := (K28 1100 5)) [0, 1, 12, 14] [] hP enters_43 (merkle_isKey.says a1) (by kernel_rfl) (hands_none _) (.cons (pass_d _) .nil) (st' := ⟨42, [(0, .ptr 0 0 0 0), (1, .i a1), (12, .b false), (14, .b (merkle_isKey a1))], [eB91 a0]⟩) (by kernel_rfl) ?_
  refine goK hT 3 (K28 110 1) ⟨42, [(0, .ptr 0 0 0 0), (1, .i a1), (16, .b (!(merkle_isKey a1)))], [eB91 a0]⟩ ?_
  by_cases c1 : (merkle_isKey a1) = true
  · replace H := iT c1 H
    rw [c1]
    refine goK hT 2 (K28 11 1) ⟨42, [(0, .ptr 0 0 0 0), (1, .i a1)], [eB91 a0]⟩ ?_
    refine goK hT 30 (K28 11110100110010 3) ⟨42, [(0, .ptr 0 0 0 0), (1, .i a1), (6, .ns), (7, .i 0), (17, .i 0), (20, .ptr 0 0 0 0), (21, .i 0), (22, .i a1)], [eB91 a0]⟩ ?_
    obtain ⟨h2, H⟩ := iC H
    refine ak_callP (avs := [.ptr 0 0 0 0, .i 0, .i a1]) (dst := some 23) (k' := (K28 11110100110010 4)) [0, 1, 6, 7, 17, 23] [0] hP enters_45 (merkle_Tree_kids.says0 a0 0 a1 (by decide) h2) (by kernel_rfl) (hands_one rfl rfl) (.cons (.same (.ptr 0 0 0 0)) (.cons (pass_d _) (.cons (pass_d _) .nil))) (st' := ⟨42, [(0, .ptr 0 0 0 0), (1, .i a1), (6, .ns), (7, .i 0), (17, .i 0), (23, .win 0 (8192 + (IntKind.wrap .i64 ((IntKind.wrap .i64 (Int.tdiv a1 16)) * 16)).toNat) ((IntKind.wrap .i64 ((IntKind.wrap .i64 ((IntKind.wrap .i64 (Int.tdiv a1 16)) + 1)) * 16)).toNat - (IntKind.wrap .i64 ((IntKind.wrap .i64 (Int.tdiv a1 16)) * 16)).toNat))], [eB91 a0]⟩) (by kernel_rfl) ?_
    refine goK hT 5 (K28 111101001100110 0) ⟨42, [(0, .ptr 0 0 0 0), (1, .i a1), (6, .ns), (7, .i 0), (17, .i 0), (23, .win 0 (8192 + (IntKind.wrap .i64 ((IntKind.wrap .i64 (Int.tdiv a1 16)) * 16)).toNat) ((IntKind.wrap .i64 ((IntKind.wrap .i64 ((IntKind.wrap .i64 (Int.tdiv a1 16)) + 1)) * 16)).toNat - (IntKind.wrap .i64 ((IntKind.wrap .i64 (Int.tdiv a1 16)) * 16)).toNat)), (24, .i ((((IntKind.wrap .i64 ((IntKind.wrap .i64 ((IntKind.wrap .i64 (Int.tdiv a1 16)) + 1)) * 16)).toNat - (IntKind.wrap .i64 ((IntKind.wrap .i64 (Int.tdiv a1 16)) * 16)).toNat) : Nat) : Int)), (25, .i 0)], [eB91 a0]⟩ ?_
    refine ak_nilS [0, 1, 6, 7, 17, 23, 24, 25] 6 1 37 (vec (eI .u32) 0 []) (st' := ⟨42, [(0, .ptr 0 0 0 0), (1, .i a1), (6, .own 1 1 0 0), (7, .i 0), (17, .i 0), (23, .win 0 (8192 + (IntKind.wrap .i64 ((IntKind.wrap .i64 (Int.tdiv a1 16)) * 16)).toNat) ((IntKind.wrap .i64 ((IntKind.wrap .i64 ((IntKind.wrap .i64 (Int.tdiv a1 16)) + 1)) * 16)).toNat - (IntKind.wrap .i64 ((IntKind.wrap .i64 (Int.tdiv a1 16)) * 16)).toNat)), (24, .i ((((IntKind.wrap .i64 ((IntKind.wrap .i64 ((IntKind.wrap .i64 (Int.tdiv a1 16)) + 1)) * 16)).toNat - (IntKind.wrap .i64 ((IntKind.wrap .i64 (Int.tdiv a1 16)) * 16)).toNat) : Nat) : Int)), (25, .i 0)], [eB91 a0, eR37 ([] : List Int)]⟩) (by kernel_rfl) (by kernel_rfl) ?_
    have L : ∀ n, (∀ (x1_25 : Int) (x1_r1 : List Int), iter (merkle_Tree_Prove.step a0 a1) n (.l1 x1_25 x1_r1) = some r → AK X 28 ((K28 111101001100110 0)) (Back X [eB91 a0, eR37 r.1] (.tup [.own 1 1 0 r.1.length, .i r.2])) ⟨42, [(0, .ptr 0 0 0 0), (1, .i a1), (6, .own 1 1 0 x1_r1.length), (7, .i 0), (17, .i 0), (23, .win 0 (8192 + (IntKind.wrap .i64 ((IntKind.wrap .i64 (Int.tdiv a1 16)) * 16)).toNat) ((IntKind.wrap .i64 ((IntKind.wrap .i64 ((IntKind.wrap .i64 (Int.tdiv a1 16)) + 1)) * 16)).toNat - (IntKind.wrap .i64 ((IntKind.wrap .i64 (Int.tdiv a1 16)) * 16)).toNat)), (24, .i ((((IntKind.wrap .i64 ((IntKind.wrap .i64 ((IntKind.wrap .i64 (Int.tdiv a1 16)) + 1)) * 16)).toNat - (IntKind.wrap .i64 ((IntKind.wrap .i64 (Int.tdiv a1 16)) * 16)).toNat) : Nat) : Int)), (25, .i x1_25)], [eB91 a0, eR37 x1_r1]⟩) ∧ (∀ (x2_25 : Int) (x2_r1 : List Int), iter (merkle_Tree_Prove.step a0 a1) n (.l2 x2_25 x2_r1) = some r → AK X 28 ((K28 111101001100110 0)) (Back X [eB91 a0, eR37 r.1] (.tup [.own 1 1 0 r.1.length, .i r.2])) ⟨42, [(0, .ptr 0 0 0 0), (1, .i a1), (6, .own 1 1 0 x2_r1.length), (7, .i 1), (17, .i 1), (23, .win 0 (12288 + (IntKind.wrap .i64 ((IntKind.wrap .i64 (Int.tdiv (IntKind.wrap .i64 (Int.tdiv a1 16)) 16)) * 16)).toNat) ((IntKind.wrap .i64 ((IntKind.wrap .i64 ((IntKind.wrap .i64 (Int.tdiv (IntKind.wrap .i64 (Int.tdiv a1 16)) 16)) + 1)) * 16)).toNat - (IntKind.wrap .i64 ((IntKind.wrap .i64 (Int.tdiv (IntKind.wrap .i64 (Int.tdiv a1 16)) 16)) * 16)).toNat)), (24, .i ((((IntKind.wrap .i64 ((IntKind.wrap .i64 ((IntKind.wrap .i64 (Int.tdiv (IntKind.wrap .i64 (Int.tdiv a1 16)) 16)) + 1)) * 16)).toNat - (IntKind.wrap .i64 ((IntKind.wrap .i64 (Int.tdiv (IntKind.wrap .i64 (Int.tdiv a1 16)) 16)) * 16)).toNat) : Nat) : Int)), (25, .i x2_25)], [eB91 a0, eR37 x2_r1]⟩) ∧ (∀ (x3_25 : Int) (x3_r1 : List Int), iter (merkle_Tree_Prove.step a0 a1) n (.l3 x3_25 x3_r1) = some r → AK X 28 ((K28 111101001100110 0)) (Back X [eB91 a0, eR37 r.1] (.tup [.own 1 1 0 r.1.length, .i r.2])) ⟨42, [(0, .ptr 0 0 0 0), (1, .i a1), (6, .own 1 1 0 x3_r1.length), (7, .i 2), (17, .i 2), (23, .win 0 12544 16), (24, .i 16), (25, .i x3_25)], [eB91 a0, eR37 x3_r1]⟩) := by
      intro n
      induction n with
      | zero => exact ⟨fun _ _ H => iter0 H, fun _ _ H => iter0 H, fun _ _ H => iter0 H⟩
      | succ n ih =>
        refine ⟨?_, ?_, ?_⟩
        · intro x1_25 x1_r1 H
          refine goK hT 5 (K28 11110100110011001 0) ⟨42, [(0, .ptr 0 0 0 0), (1, .i a1), (6, .own 1 1 0 x1_r1.length), (7, .i 0), (17, .i 0), (23, .win 0 (8192 + (IntKind.wrap .i64 ((IntKind.wrap .i64 (Int.tdiv a1 16)) * 16)).toNat) ((IntKind.wrap .i64 ((IntKind.wrap .i64 ((IntKind.wrap .i64 (Int.tdiv a1 16)) + 1)) * 16)).toNat - (IntKind.wrap .i64 ((IntKind.wrap .i64 (Int.tdiv a1 16)) * 16)).toNat)), (24, .i ((((IntKind.wrap .i64 ((IntKind.wrap .i64 ((IntKind.wrap .i64 (Int.tdiv a1 16)) + 1)) * 16)).toNat - (IntKind.wrap .i64 ((IntKind.wrap .i64 (Int.tdiv a1 16)) * 16)).toNat) : Nat) : Int)), (25, .i x1_25), (26, .b (decide (x1_25 < ((((IntKind.wrap .i64 ((IntKind.wrap .i64 ((IntKind.wrap .i64 (Int.tdiv a1 16)) + 1)) * 16)).toNat - (IntKind.wrap .i64 ((IntKind.wrap .i64 (Int.tdiv a1 16)) * 16)).toNat) : Nat) : Int))))], [eB91 a0, eR37 x1_r1]⟩ ?_
          by_cases c3 : x1_25 < ((((IntKind.wrap .i64 ((IntKind.wrap .i64 ((IntKind.wrap .i64 (Int.tdiv a1 16)) + 1)) * 16)).toNat - (IntKind.wrap .i64 ((IntKind.wrap .i64 (Int.tdiv a1 16)) * 16)).toNat) : Nat) : Int)
          · replace H := sT c3 H
            rw [decide_eq_true c3]
            refine goK hT 2 (K28 11110100110011001 1) ⟨42, [(0, .ptr 0 0 0 0), (1, .i a1), (6, .own 1 1 0 x1_r1.length), (7, .i 0), (17, .i 0), (23, .win 0 (8192 + (IntKind.wrap .i64 ((IntKind.wrap .i64 (Int.tdiv a1 16)) * 16)).toNat) ((IntKind.wrap .i64 ((IntKind.wrap .i64 ((IntKind.wrap .i64 (Int.tdiv a1 16)) + 1)) * 16)).toNat - (IntKind.wrap .i64 ((IntKind.wrap .i64 (Int.tdiv a1 16)) * 16)).toNat)), (24, .i ((((IntKind.wrap .i64 ((IntKind.wrap .i64 ((IntKind.wrap .i64 (Int.tdiv a1 16)) + 1)) * 16)).toNat - (IntKind.wrap .i64 ((IntKind.wrap .i64 (Int.tdiv a1 16)) * 16)).toNat) : Nat) : Int)), (25, .i x1_25)], [eB91 a0, eR37 x1_r1]⟩ ?_
            refine goK hT 5 (K28 111101001100110011000 1) ⟨42, [(0, .ptr 0 0 0 0), (1, .i a1), (6, .own 1 1 0 x1_r1.length), (7, .i 0), (17, .i 0), (23, .win 0 (8192 + (IntKind.wrap .i64 ((IntKind.wrap .i64 (Int.tdiv a1 16)) * 16)).toNat) ((IntKind.wrap .i64 ((IntKind.wrap .i64 ((IntKind.wrap .i64 (Int.tdiv a1 16)) + 1)) * 16)).toNat - (IntKind.wrap .i64 ((IntKind.wrap .i64 (Int.tdiv a1 16)) * 16)).toNat)), (24, .i ((((IntKind.wrap .i64 ((IntKind.wrap .i64 ((IntKind.wrap .i64 (Int.tdiv a1 16)) + 1)) * 16)).toNat - (IntKind.wrap .i64 ((IntKind.wrap .i64 (Int.tdiv a1 16)) * 16)).toNat) : Nat) : Int)), (25, .i x1_25), (27, .i x1_25)], [eB91 a0, eR37 x1_r1]⟩ ?_
            obtain ⟨h5, H⟩ := sC H
            obtain ⟨h6, H⟩ := sC H
            refine ak_idx hT [0, 1, 6, 7, 17, 23, 24, 25, 27, 28] (i := x1_25) (n := ((((IntKind.wrap .i64 ((IntKind.wrap .i64 ((IntKind.wrap .i64 (Int.tdiv a1 16)) + 1)) * 16)).toNat - (IntKind.wrap .i64 ((IntKind.wrap .i64 (Int.tdiv a1 16)) * 16)).toNat) : Nat) : Int)) h6.1 h6.2 (k' := (K28 111101001100110011000 2)) (st' := ⟨42, [(0, .ptr 0 0 0 0), (1, .i a1), (6, .own 1 1 0 x1_r1.length), (7, .i 0), (17, .i 0), (23, .win 0 (8192 + (IntKind.wrap .i64 ((IntKind.wrap .i64 (Int.tdiv a1 16)) * 16)).toNat) ((IntKind.wrap .i64 ((IntKind.wrap .i64 ((IntKind.wrap .i64 (Int.tdiv a1 16)) + 1)) * 16)).toNat - (IntKind.wrap .i64 ((IntKind.wrap .i64 (Int.tdiv a1 16)) * 16)).toNat)), (24, .i ((((IntKind.wrap .i64 ((IntKind.wrap .i64 ((IntKind.wrap .i64 (Int.tdiv a1 16)) + 1)) * 16)).toNat - (IntKind.wrap .i64 ((IntKind.wrap .i64 (Int.tdiv a1 16)) * 16)).toNat) : Nat) : Int)), (25, .i x1_25), (27, .i x1_25), (28, .ptr 0 0 0 ((8192 + (IntKind.wrap .i64 ((IntKind.wrap .i64 (Int.tdiv a1 16)) * 16)).toNat) + x1_25.toNat))], [eB91 a0, eR37 x1_r1]⟩) (by kernel_rfl) ?_
            refine ak_bld hT [0, 1, 6, 7, 17, 23, 24, 25, 27, 29] (A := 0 * 0 + ((8192 + (IntKind.wrap .i64 ((IntKind.wrap .i64 (Int.tdiv a1 16)) * 16)).toNat) + x1_25.toNat)) (s := 1) (n := 12561) (agg := false) (g := merkle_Tree.g a0) (dst := some 29) (k' := (K28 111101001100110011000 3)) ((eI .u32) (a0.leaf ((IntKind.wrap .i64 ((IntKind.wrap .i64 (Int.tdiv a1 16)) * 16)).toNat + x1_25.toNat))) (by kernel_rfl) (by omega) rfl (fun _ => rfl) (fun j hj => merkle_Tree.g_leaf a0 (i := ((IntKind.wrap .i64 ((IntKind.wrap .i64 (Int.tdiv a1 16)) * 16)).toNat + x1_25.toNat)) (by omega) (by omega) hj) (st' := ⟨42, [(0, .ptr 0 0 0 0), (1, .i a1), (6, .own 1 1 0 x1_r1.length), (7, .i 0), (17, .i 0), (23, .win 0 (8192 + (IntKind.wrap .i64 ((IntKind.wrap .i64 (Int.tdiv a1 16)) * 16)).toNat) ((IntKind.wrap .i64 ((IntKind.wrap .i64 ((IntKind.wrap .i64 (Int.tdiv a1 16)) + 1)) * 16)).toNat - (IntKind.wrap .i64 ((IntKind.wrap .i64 (Int.tdiv a1 16)) * 16)).toNat)), (24, .i ((((IntKind.wrap .i64 ((IntKind.wrap .i64 ((IntKind.wrap .i64 (Int.tdiv a1 16)) + 1)) * 16)).toNat - (IntKind.wrap .i64 ((IntKind.wrap .i64 (Int.tdiv a1 16)) * 16)).toNat) : Nat) : Int)), (25, .i x1_25), (27, .i x1_25), (29, .n .u32 (a0.leaf ((IntKind.wrap .i64 ((IntKind.wrap .i64 (Int.tdiv a1 16)) * 16)).toNat + x1_25.toNat)))], [eB91 a0, eR37 x1_r1]⟩) (by kernel_rfl) ?_
            refine goK hT 2 (K28 111101001100110011000 5) ⟨42, [(0, .ptr 0 0 0 0), (1, .i a1), (6, .own 1 1 0 x1_r1.length), (7, .i 0), (8, .i x1_25), (9, .n .u32 (a0.leaf ((IntKind.wrap .i64 ((IntKind.wrap .i64 (Int.tdiv a1 16)) * 16)).toNat + x1_25.toNat))), (17, .i 0), (23, .win 0 (8192 + (IntKind.wrap .i64 ((IntKind.wrap .i64 (Int.tdiv a1 16)) * 16)).toNat) ((IntKind.wrap .i64 ((IntKind.wrap .i64 ((IntKind.wrap .i64 (Int.tdiv a1 16)) + 1)) * 16)).toNat - (IntKind.wrap .i64 ((IntKind.wrap .i64 (Int.tdiv a1 16)) * 16)).toNat)), (24, .i ((((IntKind.wrap .i64 ((IntKind.wrap .i64 ((IntKind.wrap .i64 (Int.tdiv a1 16)) + 1)) * 16)).toNat - (IntKind.wrap .i64 ((IntKind.wrap .i64 (Int.tdiv a1 16)) * 16)).toNat) : Nat) : Int)), (25, .i x1_25)], [eB91 a0, eR37 x1_r1]⟩ ?_
            obtain ⟨v1, h7, H⟩ := sdC H
            rw [← h7]
            refine goK hT 6 (K28 1111010011001100110010 3) ⟨42, [(0, .ptr 0 0 0 0), (1, .i a1), (6, .own 1 1 0 x1_r1.length), (7, .i 0), (9, .n .u32 v1), (17, .i 0), (23, .win 0 (8192 + (IntKind.wrap .i64 ((IntKind.wrap .i64 (Int.tdiv a1 16)) * 16)).toNat) ((IntKind.wrap .i64 ((IntKind.wrap .i64 ((IntKind.wrap .i64 (Int.tdiv a1 16)) + 1)) * 16)).toNat - (IntKind.wrap .i64 ((IntKind.wrap .i64 (Int.tdiv a1 16)) * 16)).toNat)), (24, .i ((((IntKind.wrap .i64 ((IntKind.wrap .i64 ((IntKind.wrap .i64 (Int.tdiv a1 16)) + 1)) * 16)).toNat - (IntKind.wrap .i64 ((IntKind.wrap .i64 (Int.tdiv a1 16)) * 16)).toNat) : Nat) : Int)), (25, .i x1_25), (30, .i x1_25), (31, .i 0), (32, .i a1)], [eB91 a0, eR37 x1_r1]⟩ ?_
            obtain ⟨v2, h8, H⟩ := sbC H
            have Jj1 : ∀ (y1_r1 : List Int), stk (merkle_Tree_Prove.j1 x1_25 y1_r1) (iter (merkle_Tree_Prove.step a0 a1) n) = some r → AK X 28 ((K28 111101001100110011 1)) (Back X [eB91 a0, eR37 r.1] (.tup [.own 1 1 0 r.1.length, .i r.2])) ⟨42, [(0, .ptr 0 0 0 0), (1, .i a1), (6, .own 1 1 0 y1_r1.length), (7, .i 0), (17, .i 0), (23, .win 0 (8192 + (IntKind.wrap .i64 ((IntKind.wrap .i64 (Int.tdiv a1 16)) * 16)).toNat) ((IntKind.wrap .i64 ((IntKind.wrap .i64 ((IntKind.wrap .i64 (Int.tdiv a1 16)) + 1)) * 16)).toNat - (IntKind.wrap .i64 ((IntKind.wrap .i64 (Int.tdiv a1 16)) * 16)).toNat)), (24, .i ((((IntKind.wrap .i64 ((IntKind.wrap .i64 ((IntKind.wrap .i64 (Int.tdiv a1 16)) + 1)) * 16)).toNat - (IntKind.wrap .i64 ((IntKind.wrap .i64 (Int.tdiv a1 16)) * 16)).toNat) : Nat) : Int)), (25, .i x1_25)], [eB91 a0, eR37 y1_r1]⟩ := by
              intro y1_r1 H
              refine goK hT 5 (K28 111101001100110 0) ⟨42, [(0, .ptr 0 0 0 0), (1, .i a1), (6, .own 1 1 0 y1_r1.length), (7, .i 0), (17, .i 0), (23, .win 0 (8192 + (IntKind.wrap .i64 ((IntKind.wrap .i64 (Int.tdiv a1 16)) * 16)).toNat) ((IntKind.wrap .i64 ((IntKind.wrap .i64 ((IntKind.wrap .i64 (Int.tdiv a1 16)) + 1)) * 16)).toNat - (IntKind.wrap .i64 ((IntKind.wrap .i64 (Int.tdiv a1 16)) * 16)).toNat)), (24, .i ((((IntKind.wrap .i64 ((IntKind.wrap .i64 ((IntKind.wrap .i64 (Int.tdiv a1 16)) + 1)) * 16)).toNat - (IntKind.wrap .i64 ((IntKind.wrap .i64 (Int.tdiv a1 16)) * 16)).toNat) : Nat) : Int)), (25, .i (IntKind.wrap .i64 (x1_25 + 1)))], [eB91 a0, eR37 y1_r1]⟩ ?_
              refine cutK [0, 1] ⟨42, [(0, .ptr 0 0 0 0), (1, .i a1), (6, .own 1 1 0 y1_r1.length), (7, .i 0), (17, .i 0), (23, .win 0 (8192 + (IntKind.wrap .i64 ((IntKind.wrap .i64 (Int.tdiv a1 16)) * 16)).toNat) ((IntKind.wrap .i64 ((IntKind.wrap .i64 ((IntKind.wrap .i64 (Int.tdiv a1 16)) + 1)) * 16)).toNat - (IntKind.wrap .i64 ((IntKind.wrap .i64 (Int.tdiv a1 16)) * 16)).toNat)), (24, .i ((((IntKind.wrap .i64 ((IntKind.wrap .i64 ((IntKind.wrap .i64 (Int.tdiv a1 16)) + 1)) * 16)).toNat - (IntKind.wrap .i64 ((IntKind.wrap .i64 (Int.tdiv a1 16)) * 16)).toNat) : Nat) : Int)), (25, .i (IntKind.wrap .i64 (x1_25 + 1)))], [eB91 a0, eR37 y1_r1]⟩ h0 ?_
              exact ih.1 (IntKind.wrap .i64 (x1_25 + 1)) y1_r1 H
            refine ak_callP (avs := [.i 0, .i a1]) (dst := some 33) (k' := (K28 1111010011001100110010 4)) [0, 1, 6, 7, 9, 17, 23, 24, 25, 30, 33] [] hP enters_46 (merkle_place.says 0 a1 h8) (by kernel_rfl) (hands_none _) (.cons (pass_d _) (.cons (pass_d _) .nil)) (st' := ⟨42, [(0, .ptr 0 0 0 0), (1, .i a1), (6, .own 1 1 0 x1_r1.length), (7, .i 0), (9, .n .u32 v1), (17, .i 0), (23, .win 0 (8192 + (IntKind.wrap .i64 ((IntKind.wrap .i64 (Int.tdiv a1 16)) * 16)).toNat) ((IntKind.wrap .i64 ((IntKind.wrap .i64 ((IntKind.wrap .i64 (Int.tdiv a1 16)) + 1)) * 16)).toNat - (IntKind.wrap .i64 ((IntKind.wrap .i64 (Int.tdiv a1 16)) * 16)).toNat)), (24, .i ((((IntKind.wrap .i64 ((IntKind.wrap .i64 ((IntKind.wrap .i64 (Int.tdiv a1 16)) + 1)) * 16)).toNat - (IntKind.wrap .i64 ((IntKind.wrap .i64 (Int.tdiv a1 16)) * 16)).toNat) : Nat) : Int)), (25, .i x1_25), (30, .i x1_25), (33, .i v2)], [eB91 a0, eR37 x1_r1]⟩) (by kernel_rfl) ?_
            refine goK hT 2 (K28 111101001100110011001 1) ⟨42, [(0, .ptr 0 0 0 0), (1, .i a1), (6, .own 1 1 0 x1_r1.length), (7, .i 0), (9, .n .u32 v1), (17, .i 0), (23, .win 0 (8192 + (IntKind.wrap .i64 ((IntKind.wrap .i64 (Int.tdiv a1 16)) * 16)).toNat) ((IntKind.wrap .i64 ((IntKind.wrap .i64 ((IntKind.wrap .i64 (Int.tdiv a1 16)) + 1)) * 16)).toNat - (IntKind.wrap .i64 ((IntKind.wrap .i64 (Int.tdiv a1 16)) * 16)).toNat)), (24, .i ((((IntKind.wrap .i64 ((IntKind.wrap .i64 ((IntKind.wrap .i64 (Int.tdiv a1 16)) + 1)) * 16)).toNat - (IntKind.wrap .i64 ((IntKind.wrap .i64 (Int.tdiv a1 16)) * 16)).toNat) : Nat) : Int)), (25, .i x1_25), (34, .b (x1_25 != v2))], [eB91 a0, eR37 x1_r1]⟩ ?_
            by_cases c9 : x1_25 = v2
            · replace H := sT c9 H
              rw [neF c9]
              refine goK hT 3 (K28 111101001100110011 1) ⟨42, [(0, .ptr 0 0 0 0), (1, .i a1), (6, .own 1 1 0 x1_r1.length), (7, .i 0), (17, .i 0), (23, .win 0 (8192 + (IntKind.wrap .i64 ((IntKind.wrap .i64 (Int.tdiv a1 16)) * 16)).toNat) ((IntKind.wrap .i64 ((IntKind.wrap .i64 ((IntKind.wrap .i64 (Int.tdiv a1 16)) + 1)) * 16)).toNat - (IntKind.wrap .i64 ((IntKind.wrap .i64 (Int.tdiv a1 16)) * 16)).toNat)), (24, .i ((((IntKind.wrap .i64 ((IntKind.wrap .i64 ((IntKind.wrap .i64 (Int.tdiv a1 16)) + 1)) * 16)).toNat - (IntKind.wrap .i64 ((IntKind.wrap .i64 (Int.tdiv a1 16)) * 16)).toNat) : Nat) : Int)), (25, .i x1_25)], [eB91 a0, eR37 x1_r1]⟩ ?_
              refine cutK [0, 1] ⟨42, [(0, .ptr 0 0 0 0), (1, .i a1), (6, .own 1 1 0 x1_r1.length), (7, .i 0), (17, .i 0), (23, .win 0 (8192 + (IntKind.wrap .i64 ((IntKind.wrap .i64 (Int.tdiv a1 16)) * 16)).toNat) ((IntKind.wrap .i64 ((IntKind.wrap .i64 ((IntKind.wrap .i64 (Int.tdiv a1 16)) + 1)) * 16)).toNat - (IntKind.wrap .i64 ((IntKind.wrap .i64 (Int.tdiv a1 16)) * 16)).toNat)), (24, .i ((((IntKind.wrap .i64 ((IntKind.wrap .i64 ((IntKind.wrap .i64 (Int.tdiv a1 16)) + 1)) * 16)).toNat - (IntKind.wrap .i64 ((IntKind.wrap .i64 (Int.tdiv a1 16)) * 16)).toNat) : Nat) : Int)), (25, .i x1_25)], [eB91 a0, eR37 x1_r1]⟩ h0 ?_
              exact Jj1 x1_r1 H
            · replace H := sF c9 H
              rw [neT c9]
              refine goK hT 5 (K28 11110100110011001100110 3) ⟨42, [(0, .ptr 0 0 0 0), (1, .i a1), (7, .i 0), (17, .i 0), (23, .win 0 (8192 + (IntKind.wrap .i64 ((IntKind.wrap .i64 (Int.tdiv a1 16)) * 16)).toNat) ((IntKind.wrap .i64 ((IntKind.wrap .i64 ((IntKind.wrap .i64 (Int.tdiv a1 16)) + 1)) * 16)).toNat - (IntKind.wrap .i64 ((IntKind.wrap .i64 (Int.tdiv a1 16)) * 16)).toNat)), (24, .i ((((IntKind.wrap .i64 ((IntKind.wrap .i64 ((IntKind.wrap .i64 (Int.tdiv a1 16)) + 1)) * 16)).toNat - (IntKind.wrap .i64 ((IntKind.wrap .i64 (Int.tdiv a1 16)) * 16)).toNat) : Nat) : Int)), (25, .i x1_25), (35, .own 1 1 0 x1_r1.length), (37, .own 2 1 0 1)], [eB91 a0, eR37 x1_r1, .flat false 1 37 1 (fun j => [[.n .u32 v1]].getD j [])]⟩ ?_
              obtain ⟨h10, H⟩ := sC H
              refine ak_append1 (id := 1) (kk := 1) (by' := 4) (t := 57) (e := 37) (z := [.int .u32 0]) (dst := some 38) (id2 := 2) (e2 := 37) (fz := false) (k' := (K28 11110100110011001100110 4)) hT (eI .u32) 0 x1_r1 v1 [0, 1, 7, 17, 23, 24, 25, 38] (by kernel_rfl) (by kernel_rfl) (by kernel_rfl) (by kernel_rfl) (by kernel_rfl) (by kernel_rfl) (by kernel_rfl) h10 (by omega) (st' := ⟨42, [(0, .ptr 0 0 0 0), (1, .i a1), (7, .i 0), (17, .i 0), (23, .win 0 (8192 + (IntKind.wrap .i64 ((IntKind.wrap .i64 (Int.tdiv a1 16)) * 16)).toNat) ((IntKind.wrap .i64 ((IntKind.wrap .i64 ((IntKind.wrap .i64 (Int.tdiv a1 16)) + 1)) * 16)).toNat - (IntKind.wrap .i64 ((IntKind.wrap .i64 (Int.tdiv a1 16)) * 16)).toNat)), (24, .i ((((IntKind.wrap .i64 ((IntKind.wrap .i64 ((IntKind.wrap .i64 (Int.tdiv a1 16)) + 1)) * 16)).toNat - (IntKind.wrap .i64 ((IntKind.wrap .i64 (Int.tdiv a1 16)) * 16)).toNat) : Nat) : Int)), (25, .i x1_25), (38, .own 3 1 0 ((x1_r1 ++ [v1]).length))], [eB91 a0, .gone, .flat false 1 37 1 (fun j => [[.n .u32 v1]].getD j []), eR37 (x1_r1 ++ [v1])]⟩) (by kernel_rfl) ?_
              refine goK hT 3 (K28 111101001100110011 1) ⟨42, [(0, .ptr 0 0 0 0), (1, .i a1), (6, .own 3 1 0 ((x1_r1 ++ [v1]).length)), (7, .i 0), (17, .i 0), (23, .win 0 (8192 + (IntKind.wrap .i64 ((IntKind.wrap .i64 (Int.tdiv a1 16)) * 16)).toNat) ((IntKind.wrap .i64 ((IntKind.wrap .i64 ((IntKind.wrap .i64 (Int.tdiv a1 16)) + 1)) * 16)).toNat - (IntKind.wrap .i64 ((IntKind.wrap .i64 (Int.tdiv a1 16)) * 16)).toNat)), (24, .i ((((IntKind.wrap .i64 ((IntKind.wrap .i64 ((IntKind.wrap .i64 (Int.tdiv a1 16)) + 1)) * 16)).toNat - (IntKind.wrap .i64 ((IntKind.wrap .i64 (Int.tdiv a1 16)) * 16)).toNat) : Nat) : Int)), (25, .i x1_25)], [eB91 a0, .gone, .flat false 1 37 1 (fun j => [[.n .u32 v1]].getD j []), eR37 (x1_r1 ++ [v1])]⟩ ?_
              refine cutK [0, 3] ⟨42, [(0, .ptr 0 0 0 0), (1, .i a1), (6, .own 1 1 0 (x1_r1 ++ [v1]).length), (7, .i 0), (17, .i 0), (23, .win 0 (8192 + (IntKind.wrap .i64 ((IntKind.wrap .i64 (Int.tdiv a1 16)) * 16)).toNat) ((IntKind.wrap .i64 ((IntKind.wrap .i64 ((IntKind.wrap .i64 (Int.tdiv a1 16)) + 1)) * 16)).toNat - (IntKind.wrap .i64 ((IntKind.wrap .i64 (Int.tdiv a1 16)) * 16)).toNat)), (24, .i ((((IntKind.wrap .i64 ((IntKind.wrap .i64 ((IntKind.wrap .i64 (Int.tdiv a1 16)) + 1)) * 16)).toNat - (IntKind.wrap .i64 ((IntKind.wrap .i64 (Int.tdiv a1 16)) * 16)).toNat) : Nat) : Int)), (25, .i x1_25)], [eB91 a0, eR37 (x1_r1 ++ [v1])]⟩ h0 ?_
              exact Jj1 (x1_r1 ++ [v1]) H
          · replace H := sF c3 H
            rw [decide_eq_false c3]
            refine goK hT 27 (K28 11110100110010 3) ⟨42, [(0, .ptr 0 0 0 0), (1, .i a1), (6, .own 1 1 0 x1_r1.length), (7, .i 1), (17, .i 1), (20, .ptr 0 0 0 0), (21, .i 1), (22, .i a1)], [eB91 a0, eR37 x1_r1]⟩ ?_
            obtain ⟨h4, H⟩ := sC H
            refine ak_callP (avs := [.ptr 0 0 0 0, .i 1, .i a1]) (dst := some 23) (k' := (K28 11110100110010 4)) [0, 1, 6, 7, 17, 23] [0] hP enters_45 (merkle_Tree_kids.says1 a0 1 a1 (by decide) (by decide) h4) (by kernel_rfl) (hands_one rfl rfl) (.cons (.same (.ptr 0 0 0 0)) (.cons (pass_d _) (.cons (pass_d _) .nil))) (st' := ⟨42, [(0, .ptr 0 0 0 0), (1, .i a1), (6, .own 1 1 0 x1_r1.length), (7, .i 1), (17, .i 1), (23, .win 0 (12288 + (IntKind.wrap .i64 ((IntKind.wrap .i64 (Int.tdiv (IntKind.wrap .i64 (Int.tdiv a1 16)) 16)) * 16)).toNat) ((IntKind.wrap .i64 ((IntKind.wrap .i64 ((IntKind.wrap .i64 (Int.tdiv (IntKind.wrap .i64 (Int.tdiv a1 16)) 16)) + 1)) * 16)).toNat - (IntKind.wrap .i64 ((IntKind.wrap .i64 (Int.tdiv (IntKind.wrap .i64 (Int.tdiv a1 16)) 16)) * 16)).toNat))], [eB91 a0, eR37 x1_r1]⟩) (by kernel_rfl) ?_
            refine goK hT 5 (K28 111101001100110 0) ⟨42, [(0, .ptr 0 0 0 0), (1, .i a1), (6, .own 1 1 0 x1_r1.length), (7, .i 1), (17, .i 1), (23, .win 0 (12288 + (IntKind.wrap .i64 ((IntKind.wrap .i64 (Int.tdiv (IntKind.wrap .i64 (Int.tdiv a1 16)) 16)) * 16)).toNat) ((IntKind.wrap .i64 ((IntKind.wrap .i64 ((IntKind.wrap .i64 (Int.tdiv (IntKind.wrap .i64 (Int.tdiv a1 16)) 16)) + 1)) * 16)).toNat - (IntKind.wrap .i64 ((IntKind.wrap .i64 (Int.tdiv (IntKind.wrap .i64 (Int.tdiv a1 16)) 16)) * 16)).toNat)), (24, .i ((((IntKind.wrap .i64 ((IntKind.wrap .i64 ((IntKind.wrap .i64 (Int.tdiv (IntKind.wrap .i64 (Int.tdiv a1 16)) 16)) + 1)) * 16)).toNat - (IntKind.wrap .i64 ((IntKind.wrap .i64 (Int.tdiv (IntKind.wrap .i64 (Int.tdiv a1 16)) 16)) * 16)).toNat) : Nat) : Int)), (25, .i 0)], [eB91 a0, eR37 x1_r1]⟩ ?_
            refine cutK [0, 1] ⟨42, [(0, .ptr 0 0 0 0), (1, .i a1), (6, .own 1 1 0 x1_r1.length), (7, .i 1), (17, .i 1), (23, .win 0 (12288 + (IntKind.wrap .i64 ((IntKind.wrap .i64 (Int.tdiv (IntKind.wrap .i64 (Int.tdiv a1 16)) 16)) * 16)).toNat) ((IntKind.wrap .i64 ((IntKind.wrap .i64 ((IntKind.wrap .i64 (Int.tdiv (IntKind.wrap .i64 (Int.tdiv a1 16)) 16)) + 1)) * 16)).toNat - (IntKind.wrap .i64 ((IntKind.wrap .i64 (Int.tdiv (IntKind.wrap .i64 (Int.tdiv a1 16)) 16)) * 16)).toNat)), (24, .i ((((IntKind.wrap .i64 ((IntKind.wrap .i64 ((IntKind.wrap .i64 (Int.tdiv (IntKind.wrap .i64 (Int.tdiv a1 16)) 16)) + 1)) * 16)).toNat - (IntKind.wrap .i64 ((IntKind.wrap .i64 (Int.tdiv (IntKind.wrap .i64 (Int.tdiv a1 16)) 16)) * 16)).toNat) : Nat) : Int)), (25, .i 0)], [eB91 a0, eR37 x1_r1]⟩ h0 ?_
            exact ih.2.1 0 x1_r1 H
        · intro x2_25 x2_r1 H
          refine goK hT 5 (K28 11110100110011001 0) ⟨42, [(0, .ptr 0 0 0 0), (1, .i a1), (6, .own 1 1 0 x2_r1.length), (7, .i 1), (17, .i 1), (23, .win 0 (12288 + (IntKind.wrap .i64 ((IntKind.wrap .i64 (Int.tdiv (IntKind.wrap .i64 (Int.tdiv a1 16)) 16)) * 16)).toNat) ((IntKind.wrap .i64 ((IntKind.wrap .i64 ((IntKind.wrap .i64 (Int.tdiv (IntKind.wrap .i64 (Int.tdiv a1 16)) 16)) + 1)) * 16)).toNat - (IntKind.wrap .i64 ((IntKind.wrap .i64 (Int.tdiv (IntKind.wrap .i64 (Int.tdiv a1 16)) 16)) * 16)).toNat)), (24, .i ((((IntKind.wrap .i64 ((IntKind.wrap .i64 ((IntKind.wrap .i64 (Int.tdiv (IntKind.wrap .i64 (Int.tdiv a1 16)) 16)) + 1)) * 16)).toNat - (IntKind.wrap .i64 ((IntKind.wrap .i64 (Int.tdiv (IntKind.wrap .i64 (Int.tdiv a1 16)) 16)) * 16)).toNat) : Nat) : Int)), (25, .i x2_25), (26, .b (decide (x2_25 < ((((IntKind.wrap .i64 ((IntKind.wrap .i64 ((IntKind.wrap .i64 (Int.tdiv (IntKind.wrap .i64 (Int.tdiv a1 16)) 16)) + 1)) * 16)).toNat - (IntKind.wrap .i64 ((IntKind.wrap .i64 (Int.tdiv (IntKind.wrap .i64 (Int.tdiv a1 16)) 16)) * 16)).toNat) : Nat) : Int))))], [eB91 a0, eR37 x2_r1]⟩ ?_
          by_cases c11 : x2_25 < ((((IntKind.wrap .i64 ((IntKind.wrap .i64 ((IntKind.wrap .i64 (Int.tdiv (IntKind.wrap .i64 (Int.tdiv a1 16)) 16)) + 1)) * 16)).toNat - (IntKind.wrap .i64 ((IntKind.wrap .i64 (Int.tdiv (IntKind.wrap .i64 (Int.tdiv a1 16)) 16)) * 16)).toNat) : Nat) : Int)
          · replace H := sT c11 H
            rw [decide_eq_true c11]
            refine goK hT 2 (K28 11110100110011001 1) ⟨42, [(0, .ptr 0 0 0 0), (1, .i a1), (6, .own 1 1 0 x2_r1.length), (7, .i 1), (17, .i 1), (23, .win 0 (12288 + (IntKind.wrap .i64 ((IntKind.wrap .i64 (Int.tdiv (IntKind.wrap .i64 (Int.tdiv a1 16)) 16)) * 16)).toNat) ((IntKind.wrap .i64 ((IntKind.wrap .i64 ((IntKind.wrap .i64 (Int.tdiv (IntKind.wrap .i64 (Int.tdiv a1 16)) 16)) + 1)) * 16)).toNat - (IntKind.wrap .i64 ((IntKind.wrap .i64 (Int.tdiv (IntKind.wrap .i64 (Int.tdiv a1 16)) 16)) * 16)).toNat)), (24, .i ((((IntKind.wrap .i64 ((IntKind.wrap .i64 ((IntKind.wrap .i64 (Int.tdiv (IntKind.wrap .i64 (Int.tdiv a1 16)) 16)) + 1)) * 16)).toNat - (IntKind.wrap .i64 ((IntKind.wrap .i64 (Int.tdiv (IntKind.wrap .i64 (Int.tdiv a1 16)) 16)) * 16)).toNat) : Nat) : Int)), (25, .i x2_25)], [eB91 a0, eR37 x2_r1]⟩ ?_
            refine goK hT 5 (K28 111101001100110011000 1) ⟨42, [(0, .ptr 0 0 0 0), (1, .i a1), (6, .own 1 1 0 x2_r1.length), (7, .i 1), (17, .i 1), (23, .win 0 (12288 + (IntKind.wrap .i64 ((IntKind.wrap .i64 (Int.tdiv (IntKind.wrap .i64 (Int.tdiv a1 16)) 16)) * 16)).toNat) ((IntKind.wrap .i64 ((IntKind.wrap .i64 ((IntKind.wrap .i64 (Int.tdiv (IntKind.wrap .i64 (Int.tdiv a1 16)) 16)) + 1)) * 16)).toNat - (IntKind.wrap .i64 ((IntKind.wrap .i64 (Int.tdiv (IntKind.wrap .i64 (Int.tdiv a1 16)) 16)) * 16)).toNat)), (24, .i ((((IntKind.wrap .i64 ((IntKind.wrap .i64 ((IntKind.wrap .i64 (Int.tdiv (IntKind.wrap .i64 (Int.tdiv a1 16)) 16)) + 1)) * 16)).toNat - (IntKind.wrap .i64 ((IntKind.wrap .i64 (Int.tdiv (IntKind.wrap .i64 (Int.tdiv a1 16)) 16)) * 16)).toNat) : Nat) : Int)), (25, .i x2_25), (27, .i x2_25)], [eB91 a0, eR37 x2_r1]⟩ ?_
            obtain ⟨h12, H⟩ := sC H
            obtain ⟨h13, H⟩ := sC H
            refine ak_idx hT [0, 1, 6, 7, 17, 23, 24, 25, 27, 28] (i := x2_25) (n := ((((IntKind.wrap .i64 ((IntKind.wrap .i64 ((IntKind.wrap .i64 (Int.tdiv (IntKind.wrap .i64 (Int.tdiv a1 16)) 16)) + 1)) * 16)).toNat - (IntKind.wrap .i64 ((IntKind.wrap .i64 (Int.tdiv (IntKind.wrap .i64 (Int.tdiv a1 16)) 16)) * 16)).toNat) : Nat) : Int)) h13.1 h13.2 (k' := (K28 111101001100110011000 2)) (st' := ⟨42, [(0, .ptr 0 0 0 0), (1, .i a1), (6, .own 1 1 0 x2_r1.length), (7, .i 1), (17, .i 1), (23, .win 0 (12288 + (IntKind.wrap .i64 ((IntKind.wrap .i64 (Int.tdiv (IntKind.wrap .i64 (Int.tdiv a1 16)) 16)) * 16)).toNat) ((IntKind.wrap .i64 ((IntKind.wrap .i64 ((IntKind.wrap .i64 (Int.tdiv (IntKind.wrap .i64 (Int.tdiv a1 16)) 16)) + 1)) * 16)).toNat - (IntKind.wrap .i64 ((IntKind.wrap .i64 (Int.tdiv (IntKind.wrap .i64 (Int.tdiv a1 16)) 16)) * 16)).toNat)), (24, .i ((((IntKind.wrap .i64 ((IntKind.wrap .i64 ((IntKind.wrap .i64 (Int.tdiv (IntKind.wrap .i64 (Int.tdiv a1 16)) 16)) + 1)) * 16)).toNat - (IntKind.wrap .i64 ((IntKind.wrap .i64 (Int.tdiv (IntKind.wrap .i64 (Int.tdiv a1 16)) 16)) * 16)).toNat) : Nat) : Int)), (25, .i x2_25), (27, .i x2_25), (28, .ptr 0 0 0 ((12288 + (IntKind.wrap .i64 ((IntKind.wrap .i64 (Int.tdiv (IntKind.wrap .i64 (Int.tdiv a1 16)) 16)) * 16)).toNat) + x2_25.toNat))], [eB91 a0, eR37 x2_r1]⟩) (by kernel_rfl) ?_
            refine ak_bld hT [0, 1, 6, 7, 17, 23, 24, 25, 27, 29] (A := 0 * 0 + ((12288 + (IntKind.wrap .i64 ((IntKind.wrap .i64 (Int.tdiv (IntKind.wrap .i64 (Int.tdiv a1 16)) 16)) * 16)).toNat) + x2_25.toNat)) (s := 1) (n := 12561) (agg := false) (g := merkle_Tree.g a0) (dst := some 29) (k' := (K28 111101001100110011000 3)) ((eI .u32) (a0.low ((IntKind.wrap .i64 ((IntKind.wrap .i64 (Int.tdiv (IntKind.wrap .i64 (Int.tdiv a1 16)) 16)) * 16)).toNat + x2_25.toNat))) (by kernel_rfl) (by omega) rfl (fun _ => rfl) (fun j hj => merkle_Tree.g_low a0 (i := ((IntKind.wrap .i64 ((IntKind.wrap .i64 (Int.tdiv (IntKind.wrap .i64 (Int.tdiv a1 16)) 16)) * 16)).toNat + x2_25.toNat)) (by omega) (by omega) hj) (st' := ⟨42, [(0, .ptr 0 0 0 0), (1, .i a1), (6, .own 1 1 0 x2_r1.length), (7, .i 1), (17, .i 1), (23, .win 0 (12288 + (IntKind.wrap .i64 ((IntKind.wrap .i64 (Int.tdiv (IntKind.wrap .i64 (Int.tdiv a1 16)) 16)) * 16)).toNat) ((IntKind.wrap .i64 ((IntKind.wrap .i64 ((IntKind.wrap .i64 (Int.tdiv (IntKind.wrap .i64 (Int.tdiv a1 16)) 16)) + 1)) * 16)).toNat - (IntKind.wrap .i64 ((IntKind.wrap .i64 (Int.tdiv (IntKind.wrap .i64 (Int.tdiv a1 16)) 16)) * 16)).toNat)), (24, .i ((((IntKind.wrap .i64 ((IntKind.wrap .i64 ((IntKind.wrap .i64 (Int.tdiv (IntKind.wrap .i64 (Int.tdiv a1 16)) 16)) + 1)) * 16)).toNat - (IntKind.wrap .i64 ((IntKind.wrap .i64 (Int.tdiv (IntKind.wrap .i64 (Int.tdiv a1 16)) 16)) * 16)).toNat) : Nat) : Int)), (25, .i x2_25), (27, .i x2_25), (29, .n .u32 (a0.low ((IntKind.wrap .i64 ((IntKind.wrap .i64 (Int.tdiv (IntKind.wrap .i64 (Int.tdiv a1 16)) 16)) * 16)).toNat + x2_25.toNat)))], [eB91 a0, eR37 x2_r1]⟩) (by kernel_rfl) ?_
            refine goK hT 2 (K28 111101001100110011000 5) ⟨42, [(0, .ptr 0 0 0 0), (1, .i a1), (6, .own 1 1 0 x2_r1.length), (7, .i 1), (8, .i x2_25), (9, .n .u32 (a0.low ((IntKind.wrap .i64 ((IntKind.wrap .i64 (Int.tdiv (IntKind.wrap .i64 (Int.tdiv a1 16)) 16)) * 16)).toNat + x2_25.toNat))), (17, .i 1), (23, .win 0 (12288 + (IntKind.wrap .i64 ((IntKind.wrap .i64 (Int.tdiv (IntKind.wrap .i64 (Int.tdiv a1 16)) 16)) * 16)).toNat) ((IntKind.wrap .i64 ((IntKind.wrap .i64 ((IntKind.wrap .i64 (Int.tdiv (IntKind.wrap .i64 (Int.tdiv a1 16)) 16)) + 1)) * 16)).toNat - (IntKind.wrap .i64 ((IntKind.wrap .i64 (Int.tdiv (IntKind.wrap .i64 (Int.tdiv a1 16)) 16)) * 16)).toNat)), (24, .i ((((IntKind.wrap .i64 ((IntKind.wrap .i64 ((IntKind.wrap .i64 (Int.tdiv (IntKind.wrap .i64 (Int.tdiv a1 16)) 16)) + 1)) * 16)).toNat - (IntKind.wrap .i64 ((IntKind.wrap .i64 (Int.tdiv (IntKind.wrap .i64 (Int.tdiv a1 16)) 16)) * 16)).toNat) : Nat) : Int)), (25, .i x2_25)], [eB91 a0, eR37 x2_r1]⟩ ?_
            obtain ⟨v3, h14, H⟩ := sdC H
            rw [← h14]
            refine goK hT 6 (K28 1111010011001100110010 3) ⟨42, [(0, .ptr 0 0 0 0), (1, .i a1), (6, .own 1 1 0 x2_r1.length), (7, .i 1), (9, .n .u32 v3), (17, .i 1), (23, .win 0 (12288 + (IntKind.wrap .i64 ((IntKind.wrap .i64 (Int.tdiv (IntKind.wrap .i64 (Int.tdiv a1 16)) 16)) * 16)).toNat) ((IntKind.wrap .i64 ((IntKind.wrap .i64 ((IntKind.wrap .i64 (Int.tdiv (IntKind.wrap .i64 (Int.tdiv a1 16)) 16)) + 1)) * 16)).toNat - (IntKind.wrap .i64 ((IntKind.wrap .i64 (Int.tdiv (IntKind.wrap .i64 (Int.tdiv a1 16)) 16)) * 16)).toNat)), (24, .i ((((IntKind.wrap .i64 ((IntKind.wrap .i64 ((IntKind.wrap .i64 (Int.tdiv (IntKind.wrap .i64 (Int.tdiv a1 16)) 16)) + 1)) * 16)).toNat - (IntKind.wrap .i64 ((IntKind.wrap .i64 (Int.tdiv (IntKind.wrap .i64 (Int.tdiv a1 16)) 16)) * 16)).toNat) : Nat) : Int)), (25, .i x2_25), (30, .i x2_25), (31, .i 1), (32, .i a1)], [eB91 a0, eR37 x2_r1]⟩ ?_
            obtain ⟨v4, h15, H⟩ := sbC H
            have Jj2 : ∀ (y2_r1 : List Int), stk (merkle_Tree_Prove.j2 x2_25 y2_r1) (iter (merkle_Tree_Prove.step a0 a1) n) = some r → AK X 28 ((K28 111101001100110011 1)) (Back X [eB91 a0, eR37 r.1] (.tup [.own 1 1 0 r.1.length, .i r.2])) ⟨42, [(0, .ptr 0 0 0 0), (1, .i a1), (6, .own 1 1 0 y2_r1.length), (7, .i 1), (17, .i 1), (23, .win 0 (12288 + (IntKind.wrap .i64 ((IntKind.wrap .i64 (Int.tdiv (IntKind.wrap .i64 (Int.tdiv a1 16)) 16)) * 16)).toNat) ((IntKind.wrap .i64 ((IntKind.wrap .i64 ((IntKind.wrap .i64 (Int.tdiv (IntKind.wrap .i64 (Int.tdiv a1 16)) 16)) + 1)) * 16)).toNat - (IntKind.wrap .i64 ((IntKind.wrap .i64 (Int.tdiv (IntKind.wrap .i64 (Int.tdiv a1 16)) 16)) * 16)).toNat)), (24, .i ((((IntKind.wrap .i64 ((IntKind.wrap .i64 ((IntKind.wrap .i64 (Int.tdiv (IntKind.wrap .i64 (Int.tdiv a1 16)) 16)) + 1)) * 16)).toNat - (IntKind.wrap .i64 ((IntKind.wrap .i64 (Int.tdiv (IntKind.wrap .i64 (Int.tdiv a1 16)) 16)) * 16)).toNat) : Nat) : Int)), (25, .i x2_25)], [eB91 a0, eR37 y2_r1]⟩ := by
              intro y2_r1 H
              refine goK hT 5 (K28 111101001100110 0) ⟨42, [(0, .ptr 0 0 0 0), (1, .i a1), (6, .own 1 1 0 y2_r1.length), (7, .i 1), (17, .i 1), (23, .win 0 (12288 + (IntKind.wrap .i64 ((IntKind.wrap .i64 (Int.tdiv (IntKind.wrap .i64 (Int.tdiv a1 16)) 16)) * 16)).toNat) ((IntKind.wrap .i64 ((IntKind.wrap .i64 ((IntKind.wrap .i64 (Int.tdiv (IntKind.wrap .i64 (Int.tdiv a1 16)) 16)) + 1)) * 16)).toNat - (IntKind.wrap .i64 ((IntKind.wrap .i64 (Int.tdiv (IntKind.wrap .i64 (Int.tdiv a1 16)) 16)) * 16)).toNat)), (24, .i ((((IntKind.wrap .i64 ((IntKind.wrap .i64 ((IntKind.wrap .i64 (Int.tdiv (IntKind.wrap .i64 (Int.tdiv a1 16)) 16)) + 1)) * 16)).toNat - (IntKind.wrap .i64 ((IntKind.wrap .i64 (Int.tdiv (IntKind.wrap .i64 (Int.tdiv a1 16)) 16)) * 16)).toNat) : Nat) : Int)), (25, .i (IntKind.wrap .i64 (x2_25 + 1)))], [eB91 a0, eR37 y2_r1]⟩ ?_
              refine cutK [0, 1] ⟨42, [(0, .ptr 0 0 0 0), (1, .i a1), (6, .own 1 1 0 y2_r1.length), (7, .i 1), (17, .i 1), (23, .win 0 (12288 + (IntKind.wrap .i64 ((IntKind.wrap .i64 (Int.tdiv (IntKind.wrap .i64 (Int.tdiv a1 16)) 16)) * 16)).toNat) ((IntKind.wrap .i64 ((IntKind.wrap .i64 ((IntKind.wrap .i64 (Int.tdiv (IntKind.wrap .i64 (Int.tdiv a1 16)) 16)) + 1)) * 16)).toNat - (IntKind.wrap .i64 ((IntKind.wrap .i64 (Int.tdiv (IntKind.wrap .i64 (Int.tdiv a1 16)) 16)) * 16)).toNat)), (24, .i ((((IntKind.wrap .i64 ((IntKind.wrap .i64 ((IntKind.wrap .i64 (Int.tdiv (IntKind.wrap .i64 (Int.tdiv a1 16)) 16)) + 1)) * 16)).toNat - (IntKind.wrap .i64 ((IntKind.wrap .i64 (Int.tdiv (IntKind.wrap .i64 (Int.tdiv a1 16)) 16)) * 16)).toNat) : Nat) : Int)), (25, .i (IntKind.wrap .i64 (x2_25 + 1)))], [eB91 a0, eR37 y2_r1]⟩ h0 ?_
              exact ih.2.1 (IntKind.wrap .i64 (x2_25 + 1)) y2_r1 H
            refine ak_callP (avs := [.i 1, .i a1]) (dst := some 33) (k' := (K28 1111010011001100110010 4)) [0, 1, 6, 7, 9, 17, 23, 24, 25, 30, 33] [] hP enters_46 (merkle_place.says 1 a1 h15) (by kernel_rfl) (hands_none _) (.cons (pass_d _) (.cons (pass_d _) .nil)) (st' := ⟨42, [(0, .ptr 0 0 0 0), (1, .i a1), (6, .own 1 1 0 x2_r1.length), (7, .i 1), (9, .n .u32 v3), (17, .i 1), (23, .win 0 (12288 + (IntKind.wrap .i64 ((IntKind.wrap .i64 (Int.tdiv (IntKind.wrap .i64 (Int.tdiv a1 16)) 16)) * 16)).toNat) ((IntKind.wrap .i64 ((IntKind.wrap .i64 ((IntKind.wrap .i64 (Int.tdiv (IntKind.wrap .i64 (Int.tdiv a1 16)) 16)) + 1)) * 16)).toNat - (IntKind.wrap .i64 ((IntKind.wrap .i64 (Int.tdiv (IntKind.wrap .i64 (Int.tdiv a1 16)) 16)) * 16)).toNat)), (24, .i ((((IntKind.wrap .i64 ((IntKind.wrap .i64 ((IntKind.wrap .i64 (Int.tdiv (IntKind.wrap .i64 (Int.tdiv a1 16)) 16)) + 1)) * 16)).toNat - (IntKind.wrap .i64 ((IntKind.wrap .i64 (Int.tdiv (IntKind.wrap .i64 (Int.tdiv a1 16)) 16)) * 16)).toNat) : Nat) : Int)), (25, .i x2_25), (30, .i x2_25), (33, .i v4)], [eB91 a0, eR37 x2_r1]⟩) (by kernel_rfl) ?_
            refine goK hT 2 (K28 111101001100110011001 1) ⟨42, [(0, .ptr 0 0 0 0), (1, .i a1), (6, .own 1 1 0 x2_r1.length), (7, .i 1), (9, .n .u32 v3), (17, .i 1), (23, .win 0 (12288 + (IntKind.wrap .i64 ((IntKind.wrap .i64 (Int.tdiv (IntKind.wrap .i64 (Int.tdiv a1 16)) 16)) * 16)).toNat) ((IntKind.wrap .i64 ((IntKind.wrap .i64 ((IntKind.wrap .i64 (Int.tdiv (IntKind.wrap .i64 (Int.tdiv a1 16)) 16)) + 1)) * 16)).toNat - (IntKind.wrap .i64 ((IntKind.wrap .i64 (Int.tdiv (IntKind.wrap .i64 (Int.tdiv a1 16)) 16)) * 16)).toNat)), (24, .i ((((IntKind.wrap .i64 ((IntKind.wrap .i64 ((IntKind.wrap .i64 (Int.tdiv (IntKind.wrap .i64 (Int.tdiv a1 16)) 16)) + 1)) * 16)).toNat - (IntKind.wrap .i64 ((IntKind.wrap .i64 (Int.tdiv (IntKind.wrap .i64 (Int.tdiv a1 16)) 16)) * 16)).toNat) : Nat) : Int)), (25, .i x2_25), (34, .b (x2_25 != v4))], [eB91 a0, eR37 x2_r1]⟩ ?_
            by_cases c16 : x2_25 = v4
            · replace H := sT c16 H
              rw [neF c16]
              refine goK hT 3 (K28 111101001100110011 1) ⟨42, [(0, .ptr 0 0 0 0), (1, .i a1), (6, .own 1 1 0 x2_r1.length), (7, .i 1), (17, .i 1), (23, .win 0 (12288 + (IntKind.wrap .i64 ((IntKind.wrap .i64 (Int.tdiv (IntKind.wrap .i64 (Int.tdiv a1 16)) 16)) * 16)).toNat) ((IntKind.wrap .i64 ((IntKind.wrap .i64 ((IntKind.wrap .i64 (Int.tdiv (IntKind.wrap .i64 (Int.tdiv a1 16)) 16)) + 1)) * 16)).toNat - (IntKind.wrap .i64 ((IntKind.wrap .i64 (Int.tdiv (IntKind.wrap .i64 (Int.tdiv a1 16)) 16)) * 16)).toNat)), (24, .i ((((IntKind.wrap .i64 ((IntKind.wrap .i64 ((IntKind.wrap .i64 (Int.tdiv (IntKind.wrap .i64 (Int.tdiv a1 16)) 16)) + 1)) * 16)).toNat - (IntKind.wrap .i64 ((IntKind.wrap .i64 (Int.tdiv (IntKind.wrap .i64 (Int.tdiv a1 16)) 16)) * 16)).toNat) : Nat) : Int)), (25, .i x2_25)], [eB91 a0, eR37 x2_r1]⟩ ?_
              refine cutK [0, 1] ⟨42, [(0, .ptr 0 0 0 0), (1, .i a1), (6, .own 1 1 0 x2_r1.length), (7, .i 1), (17, .i 1), (23, .win 0 (12288 + (IntKind.wrap .i64 ((IntKind.wrap .i64 (Int.tdiv (IntKind.wrap .i64 (Int.tdiv a1 16)) 16)) * 16)).toNat) ((IntKind.wrap .i64 ((IntKind.wrap .i64 ((IntKind.wrap .i64 (Int.tdiv (IntKind.wrap .i64 (Int.tdiv a1 16)) 16)) + 1)) * 16)).toNat - (IntKind.wrap .i64 ((IntKind.wrap .i64 (Int.tdiv (IntKind.wrap .i64 (Int.tdiv a1 16)) 16)) * 16)).toNat)), (24, .i ((((IntKind.wrap .i64 ((IntKind.wrap .i64 ((IntKind.wrap .i64 (Int.tdiv (IntKind.wrap .i64 (Int.tdiv a1 16)) 16)) + 1)) * 16)).toNat - (IntKind.wrap .i64 ((IntKind.wrap .i64 (Int.tdiv (IntKind.wrap .i64 (Int.tdiv a1 16)) 16)) * 16)).toNat) : Nat) : Int)), (25, .i x2_25)], [eB91 a0, eR37 x2_r1]⟩ h0 ?_
              exact Jj2 x2_r1 H
            · replace H := sF c16 H
              rw [neT c16]
              refine goK hT 5 (K28 11110100110011001100110 3) ⟨42, [(0, .ptr 0 0 0 0), (1, .i a1), (7, .i 1), (17, .i 1), (23, .win 0 (12288 + (IntKind.wrap .i64 ((IntKind.wrap .i64 (Int.tdiv (IntKind.wrap .i64 (Int.tdiv a1 16)) 16)) * 16)).toNat) ((IntKind.wrap .i64 ((IntKind.wrap .i64 ((IntKind.wrap .i64 (Int.tdiv (IntKind.wrap .i64 (Int.tdiv a1 16)) 16)) + 1)) * 16)).toNat - (IntKind.wrap .i64 ((IntKind.wrap .i64 (Int.tdiv (IntKind.wrap .i64 (Int.tdiv a1 16)) 16)) * 16)).toNat)), (24, .i ((((IntKind.wrap .i64 ((IntKind.wrap .i64 ((IntKind.wrap .i64 (Int.tdiv (IntKind.wrap .i64 (Int.tdiv a1 16)) 16)) + 1)) * 16)).toNat - (IntKind.wrap .i64 ((IntKind.wrap .i64 (Int.tdiv (IntKind.wrap .i64 (Int.tdiv a1 16)) 16)) * 16)).toNat) : Nat) : Int)), (25, .i x2_25), (35, .own 1 1 0 x2_r1.length), (37, .own 2 1 0 1)], [eB91 a0, eR37 x2_r1, .flat false 1 37 1 (fun j => [[.n .u32 v3]].getD j [])]⟩ ?_
              obtain ⟨h17, H⟩ := sC H
              refine ak_append1 (id := 1) (kk := 1) (by' := 4) (t := 57) (e := 37) (z := [.int .u32 0]) (dst := some 38) (id2 := 2) (e2 := 37) (fz := false) (k' := (K28 11110100110011001100110 4)) hT (eI .u32) 0 x2_r1 v3 [0, 1, 7, 17, 23, 24, 25, 38] (by kernel_rfl) (by kernel_rfl) (by kernel_rfl) (by kernel_rfl) (by kernel_rfl) (by kernel_rfl) (by kernel_rfl) h17 (by omega) (st' := ⟨42, [(0, .ptr 0 0 0 0), (1, .i a1), (7, .i 1), (17, .i 1), (23, .win 0 (12288 + (IntKind.wrap .i64 ((IntKind.wrap .i64 (Int.tdiv (IntKind.wrap .i64 (Int.tdiv a1 16)) 16)) * 16)).toNat) ((IntKind.wrap .i64 ((IntKind.wrap .i64 ((IntKind.wrap .i64 (Int.tdiv (IntKind.wrap .i64 (Int.tdiv a1 16)) 16)) + 1)) * 16)).toNat - (IntKind.wrap .i64 ((IntKind.wrap .i64 (Int.tdiv (IntKind.wrap .i64 (Int.tdiv a1 16)) 16)) * 16)).toNat)), (24, .i ((((IntKind.wrap .i64 ((IntKind.wrap .i64 ((IntKind.wrap .i64 (Int.tdiv (IntKind.wrap .i64 (Int.tdiv a1 16)) 16)) + 1)) * 16)).toNat - (IntKind.wrap .i64 ((IntKind.wrap .i64 (Int.tdiv (IntKind.wrap .i64 (Int.tdiv a1 16)) 16)) * 16)).toNat) : Nat) : Int)), (25, .i x2_25), (38, .own 3 1 0 ((x2_r1 ++ [v3]).length))], [eB91 a0, .gone, .flat false 1 37 1 (fun j => [[.n .u32 v3]].getD j []), eR37 (x2_r1 ++ [v3])]⟩) (by kernel_rfl) ?_
              refine goK hT 3 (K28 111101001100110011 1) ⟨42, [(0, .ptr 0 0 0 0), (1, .i a1), (6, .own 3 1 0 ((x2_r1 ++ [v3]).length)), (7, .i 1), (17, .i 1), (23, .win 0 (12288 + (IntKind.wrap .i64 ((IntKind.wrap .i64 (Int.tdiv (IntKind.wrap .i64 (Int.tdiv a1 16)) 16)) * 16)).toNat) ((IntKind.wrap .i64 ((IntKind.wrap .i64 ((IntKind.wrap .i64 (Int.tdiv (IntKind.wrap .i64 (Int.tdiv a1 16)) 16)) + 1)) * 16)).toNat - (IntKind.wrap .i64 ((IntKind.wrap .i64 (Int.tdiv (IntKind.wrap .i64 (Int.tdiv a1 16)) 16)) * 16)).toNat)), (24, .i ((((IntKind.wrap .i64 ((IntKind.wrap .i64 ((IntKind.wrap .i64 (Int.tdiv (IntKind.wrap .i64 (Int.tdiv a1 16)) 16)) + 1)) * 16)).toNat - (IntKind.wrap .i64 ((IntKind.wrap .i64 (Int.tdiv (IntKind.wrap .i64 (Int.tdiv a1 16)) 16)) * 16)).toNat) : Nat) : Int)), (25, .i x2_25)], [eB91 a0, .gone, .flat false 1 37 1 (fun j => [[.n .u32 v3]].getD j []), eR37 (x2_r1 ++ [v3])]⟩ ?_
              refine cutK [0, 3] ⟨42, [(0, .ptr 0 0 0 0), (1, .i a1), (6, .own 1 1 0 (x2_r1 ++ [v3]).length), (7, .i 1), (17, .i 1), (23, .win 0 (12288 + (IntKind.wrap .i64 ((IntKind.wrap .i64 (Int.tdiv (IntKind.wrap .i64 (Int.tdiv a1 16)) 16)) * 16)).toNat) ((IntKind.wrap .i64 ((IntKind.wrap .i64 ((IntKind.wrap .i64 (Int.tdiv (IntKind.wrap .i64 (Int.tdiv a1 16)) 16)) + 1)) * 16)).toNat - (IntKind.wrap .i64 ((IntKind.wrap .i64 (Int.tdiv (IntKind.wrap .i64 (Int.tdiv a1 16)) 16)) * 16)).toNat)), (24, .i ((((IntKind.wrap .i64 ((IntKind.wrap .i64 ((IntKind.wrap .i64 (Int.tdiv (IntKind.wrap .i64 (Int.tdiv a1 16)) 16)) + 1)) * 16)).toNat - (IntKind.wrap .i64 ((IntKind.wrap .i64 (Int.tdiv (IntKind.wrap .i64 (Int.tdiv a1 16)) 16)) * 16)).toNat) : Nat) : Int)), (25, .i x2_25)], [eB91 a0, eR37 (x2_r1 ++ [v3])]⟩ h0 ?_
              exact Jj2 (x2_r1 ++ [v3]) H
          · replace H := sF c11 H
            rw [decide_eq_false c11]
            refine goK hT 27 (K28 11110100110010 3) ⟨42, [(0, .ptr 0 0 0 0), (1, .i a1), (6, .own 1 1 0 x2_r1.length), (7, .i 2), (17, .i 2), (20, .ptr 0 0 0 0), (21, .i 2), (22, .i a1)], [eB91 a0, eR37 x2_r1]⟩ ?_
            refine ak_callP (avs := [.ptr 0 0 0 0, .i 2, .i a1]) (dst := some 23) (k' := (K28 11110100110010 4)) [0, 1, 6, 7, 17, 23] [0] hP enters_45 (merkle_Tree_kids.says2 a0 2 a1 (by decide) (by decide)) (by kernel_rfl) (hands_one rfl rfl) (.cons (.same (.ptr 0 0 0 0)) (.cons (pass_d _) (.cons (pass_d _) .nil))) (st' := ⟨42, [(0, .ptr 0 0 0 0), (1, .i a1), (6, .own 1 1 0 x2_r1.length), (7, .i 2), (17, .i 2), (23, .win 0 12544 16)], [eB91 a0, eR37 x2_r1]⟩) (by kernel_rfl) ?_
            refine goK hT 5 (K28 111101001100110 0) ⟨42, [(0, .ptr 0 0 0 0), (1, .i a1), (6, .own 1 1 0 x2_r1.length), (7, .i 2), (17, .i 2), (23, .win 0 12544 16), (24, .i 16), (25, .i 0)], [eB91 a0, eR37 x2_r1]⟩ ?_
            refine cutK [0, 1] ⟨42, [(0, .ptr 0 0 0 0), (1, .i a1), (6, .own 1 1 0 x2_r1.length), (7, .i 2), (17, .i 2), (23, .win 0 12544 16), (24, .i 16), (25, .i 0)], [eB91 a0, eR37 x2_r1]⟩ h0 ?_
            exact ih.2.2 0 x2_r1 H
        · intro x3_25 x3_r1 H
          refine goK hT 5 (K28 11110100110011001 0) ⟨42, [(0, .ptr 0 0 0 0), (1, .i a1), (6, .own 1 1 0 x3_r1.length), (7, .i 2), (17, .i 2), (23, .win 0 12544 16), (24, .i 16), (25, .i x3_25), (26, .b (decide (x3_25 < 16)))], [eB91 a0, eR37 x3_r1]⟩ ?_
          by_cases c18 : x3_25 < 16
          · replace H := sT c18 H
            rw [decide_eq_true c18]
            refine goK hT 2 (K28 11110100110011001 1) ⟨42, [(0, .ptr 0 0 0 0), (1, .i a1), (6, .own 1 1 0 x3_r1.length), (7, .i 2), (17, .i 2), (23, .win 0 12544 16), (24, .i 16), (25, .i x3_25)], [eB91 a0, eR37 x3_r1]⟩ ?_
            refine goK hT 5 (K28 111101001100110011000 1) ⟨42, [(0, .ptr 0 0 0 0), (1, .i a1), (6, .own 1 1 0 x3_r1.length), (7, .i 2), (17, .i 2), (23, .win 0 12544 16), (24, .i 16), (25, .i x3_25), (27, .i x3_25)], [eB91 a0, eR37 x3_r1]⟩ ?_
            obtain ⟨h19, H⟩ := sC H
            refine ak_idx hT [0, 1, 6, 7, 17, 23, 24, 25, 27, 28] (i := x3_25) (n := 16) h19.1 h19.2 (k' := (K28 111101001100110011000 2)) (st' := ⟨42, [(0, .ptr 0 0 0 0), (1, .i a1), (6, .own 1 1 0 x3_r1.length), (7, .i 2), (17, .i 2), (23, .win 0 12544 16), (24, .i 16), (25, .i x3_25), (27, .i x3_25), (28, .ptr 0 0 0 (12544 + x3_25.toNat))], [eB91 a0, eR37 x3_r1]⟩) (by kernel_rfl) ?_
            refine ak_bld hT [0, 1, 6, 7, 17, 23, 24, 25, 27, 29] (A := 0 * 0 + (12544 + x3_25.toNat)) (s := 1) (n := 12561) (agg := false) (g := merkle_Tree.g a0) (dst := some 29) (k' := (K28 111101001100110011000 3)) ((eI .u32) (a0.mid x3_25.toNat)) (by kernel_rfl) (by omega) rfl (fun _ => rfl) (fun j hj => merkle_Tree.g_mid a0 (i := x3_25.toNat) (by omega) (by omega) hj) (st' := ⟨42, [(0, .ptr 0 0 0 0), (1, .i a1), (6, .own 1 1 0 x3_r1.length), (7, .i 2), (17, .i 2), (23, .win 0 12544 16), (24, .i 16), (25, .i x3_25), (27, .i x3_25), (29, .n .u32 (a0.mid x3_25.toNat))], [eB91 a0, eR37 x3_r1]⟩) (by kernel_rfl) ?_
            refine goK hT 8 (K28 1111010011001100110010 3) ⟨42, [(0, .ptr 0 0 0 0), (1, .i a1), (6, .own 1 1 0 x3_r1.length), (7, .i 2), (9, .n .u32 (a0.mid x3_25.toNat)), (17, .i 2), (23, .win 0 12544 16), (24, .i 16), (25, .i x3_25), (30, .i x3_25), (31, .i 2), (32, .i a1)], [eB91 a0, eR37 x3_r1]⟩ ?_
            obtain ⟨v5, h20, H⟩ := sbC H
            have Jj3 : ∀ (y3_r1 : List Int), stk (merkle_Tree_Prove.j3 x3_25 y3_r1) (iter (merkle_Tree_Prove.step a0 a1) n) = some r → AK X 28 ((K28 111101001100110011 1)) (Back X [eB91 a0, eR37 r.1] (.tup [.own 1 1 0 r.1.length, .i r.2])) ⟨42, [(0, .ptr 0 0 0 0), (1, .i a1), (6, .own 1 1 0 y3_r1.length), (7, .i 2), (17, .i 2), (23, .win 0 12544 16), (24, .i 16), (25, .i x3_25)], [eB91 a0, eR37 y3_r1]⟩ := by
              intro y3_r1 H
              refine goK hT 5 (K28 111101001100110 0) ⟨42, [(0, .ptr 0 0 0 0), (1, .i a1), (6, .own 1 1 0 y3_r1.length), (7, .i 2), (17, .i 2), (23, .win 0 12544 16), (24, .i 16), (25, .i (IntKind.wrap .i64 (x3_25 + 1)))], [eB91 a0, eR37 y3_r1]⟩ ?_
              refine cutK [0, 1] ⟨42, [(0, .ptr 0 0 0 0), (1, .i a1), (6, .own 1 1 0 y3_r1.length), (7, .i 2), (17, .i 2), (23, .win 0 12544 16), (24, .i 16), (25, .i (IntKind.wrap .i64 (x3_25 + 1)))], [eB91 a0, eR37 y3_r1]⟩ h0 ?_
              exact ih.2.2 (IntKind.wrap .i64 (x3_25 + 1)) y3_r1 H
            refine ak_callP (avs := [.i 2, .i a1]) (dst := some 33) (k' := (K28 1111010011001100110010 4)) [0, 1, 6, 7, 9, 17, 23, 24, 25, 30, 33] [] hP enters_46 (merkle_place.says 2 a1 h20) (by kernel_rfl) (hands_none _) (.cons (pass_d _) (.cons (pass_d _) .nil)) (st' := ⟨42, [(0, .ptr 0 0 0 0), (1, .i a1), (6, .own 1 1 0 x3_r1.length), (7, .i 2), (9, .n .u32 (a0.mid x3_25.toNat)), (17, .i 2), (23, .win 0 12544 16), (24, .i 16), (25, .i x3_25), (30, .i x3_25), (33, .i v5)], [eB91 a0, eR37 x3_r1]⟩) (by kernel_rfl) ?_
            refine goK hT 2 (K28 111101001100110011001 1) ⟨42, [(0, .ptr 0 0 0 0), (1, .i a1), (6, .own 1 1 0 x3_r1.length), (7, .i 2), (9, .n .u32 (a0.mid x3_25.toNat)), (17, .i 2), (23, .win 0 12544 16), (24, .i 16), (25, .i x3_25), (34, .b (x3_25 != v5))], [eB91 a0, eR37 x3_r1]⟩ ?_
            by_cases c21 : x3_25 = v5
            · replace H := sT c21 H
              rw [neF c21]
              refine goK hT 3 (K28 111101001100110011 1) ⟨42, [(0, .ptr 0 0 0 0), (1, .i a1), (6, .own 1 1 0 x3_r1.length), (7, .i 2), (17, .i 2), (23, .win 0 12544 16), (24, .i 16), (25, .i x3_25)], [eB91 a0, eR37 x3_r1]⟩ ?_
              refine cutK [0, 1] ⟨42, [(0, .ptr 0 0 0 0), (1, .i a1), (6, .own 1 1 0 x3_r1.length), (7, .i 2), (17, .i 2), (23, .win 0 12544 16), (24, .i 16), (25, .i x3_25)], [eB91 a0, eR37 x3_r1]⟩ h0 ?_
              exact Jj3 x3_r1 H
            · replace H := sF c21 H
              rw [neT c21]
              refine goK hT 5 (K28 11110100110011001100110 3) ⟨42, [(0, .ptr 0 0 0 0), (1, .i a1), (7, .i 2), (17, .i 2), (23, .win 0 12544 16), (24, .i 16), (25, .i x3_25), (35, .own 1 1 0 x3_r1.length), (37, .own 2 1 0 1)], [eB91 a0, eR37 x3_r1, .flat false 1 37 1 (fun j => [[.n .u32 (a0.mid x3_25.toNat)]].getD j [])]⟩ ?_
              obtain ⟨h22, H⟩ := sC H
              refine ak_append1 (id := 1) (kk := 1) (by' := 4) (t := 57) (e := 37) (z := [.int .u32 0]) (dst := some 38) (id2 := 2) (e2 := 37) (fz := false) (k' := (K28 11110100110011001100110 4)) hT (eI .u32) 0 x3_r1 (a0.mid x3_25.toNat) [0, 1, 7, 17, 23, 24, 25, 38] (by kernel_rfl) (by kernel_rfl) (by kernel_rfl) (by kernel_rfl) (by kernel_rfl) (by kernel_rfl) (by kernel_rfl) h22 (by omega) (st' := ⟨42, [(0, .ptr 0 0 0 0), (1, .i a1), (7, .i 2), (17, .i 2), (23, .win 0 12544 16), (24, .i 16), (25, .i x3_25), (38, .own 3 1 0 ((x3_r1 ++ [a0.mid x3_25.toNat]).length))], [eB91 a0, .gone, .flat false 1 37 1 (fun j => [[.n .u32 (a0.mid x3_25.toNat)]].getD j []), eR37 (x3_r1 ++ [a0.mid x3_25.toNat])]⟩) (by kernel_rfl) ?_
              refine goK hT 3 (K28 111101001100110011 1) ⟨42, [(0, .ptr 0 0 0 0), (1, .i a1), (6, .own 3 1 0 ((x3_r1 ++ [a0.mid x3_25.toNat]).length)), (7, .i 2), (17, .i 2), (23, .win 0 12544 16), (24, .i 16), (25, .i x3_25)], [eB91 a0, .gone, .flat false 1 37 1 (fun j => [[.n .u32 (a0.mid x3_25.toNat)]].getD j []), eR37 (x3_r1 ++ [a0.mid x3_25.toNat])]⟩ ?_
              refine cutK [0, 3] ⟨42, [(0, .ptr 0 0 0 0), (1, .i a1), (6, .own 1 1 0 (x3_r1 ++ [a0.mid x3_25.toNat]).length), (7, .i 2), (17, .i 2), (23, .win 0 12544 16), (24, .i 16), (25, .i x3_25)], [eB91 a0, eR37 (x3_r1 ++ [a0.mid x3_25.toNat])]⟩ h0 ?_
              exact Jj3 (x3_r1 ++ [a0.mid x3_25.toNat]) H
          · replace H := sF c18 H
            rw [decide_eq_false c18]
            refine goK hT 21 (K28 11111 1) ⟨42, [(4, .own 1 1 0 x3_r1.length), (5, .i 0)], [eB91 a0, eR37 x3_r1]⟩ ?_
            obtain rfl := retC H
            exact ak_ret hf hX (av := .tup [.own 1 1 0 x3_r1.length, .i 0]) (by kernel_rfl) [0, 1] (sel_of_eq (by kernel_rfl)) (by decide) (by rw [h0]; rfl) (by kernel_rfl) (fun _ h => all_cons (.flat fun _ _ => merkle_Tree.gnl _ _) (fun _ h => all_cons (nr_vec (nlI .u32)) (fun _ h => all_nil h) h) h) (.tup (.cons (.own _ _ _ _) (.cons (.d (.v _)) .nil)))
    refine cutK [0, 1] ⟨42, [(0, .ptr 0 0 0 0), (1, .i a1), (6, .own 1 1 0 ([] : List Int).length), (7, .i 0), (17, .i 0), (23, .win 0 (8192 + (IntKind.wrap .i64 ((IntKind.wrap .i64 (Int.tdiv a1 16)) * 16)).toNat) ((IntKind.wrap .i64 ((IntKind.wrap .i64 ((IntKind.wrap .i64 (Int.tdiv a1 16)) + 1)) * 16)).toNat - (IntKind.wrap .i64 ((IntKind.wrap .i64 (Int.tdiv a1 16)) * 16)).toNat)), (24, .i ((((IntKind.wrap .i64 ((IntKind.wrap .i64 ((IntKind.wrap .i64 (Int.tdiv a1 16)) + 1)) * 16)).toNat - (IntKind.wrap .i64 ((IntKind.wrap .i64 (Int.tdiv a1 16)) * 16)).toNat) : Nat) : Int)), (25, .i 0)], [eB91 a0, eR37 ([] : List Int)]⟩ h0 ?_
    obtain ⟨n, H⟩ := loopC H
    exact (L n).1 0 ([] : List Int) H
  · replace H := iF c1 H
    rw [boF c1]
    refine goK hT 6 (K28 11010 1) ⟨42, [(4, .ns), (5, .i 1)], [eB91 a0]⟩ ?_
    refine ak_nilS [4, 5] 4 1 37 (vec (eI .u32) 0 []) (st' := ⟨42, [(4, .own 1 1 0 0), (5, .i 1)], [eB91 a0, eR37 ([] : List Int)]⟩) (by kernel_rfl) (by kernel_rfl) ?_
    obtain rfl := retC H
    exact ak_ret hf hX (av := .tup [.own 1 1 0 0, .i 1]) (by kernel_rfl) [0, 1] (sel_of_eq (by kernel_rfl)) (by decide) (by rw [h0]; rfl) (by kernel_rfl) (fun _ h => all_cons (.flat fun _ _ => merkle_Tree.gnl _ _) (fun _ h => all_cons (nr_vec (nlI .u32)) (fun _ h => all_nil h) h) h) (.tup (.cons (.own _ _ _ _) (.cons (.d (.v _)) .nil)))


theorem merkle_Verify.says {t3 : Bool} (a0 : Int) (a1 : Int) (a2 : api_Cell) (a3 : List Int) {r : Bool} (H : merkle_Verify a0 a1 a2 a3 = some r) : Says Try.prog 31 [] [.n .u32 a0, .i a1, .d (eG48 a2), .d (eL37 t3 a3)] [] (.b r) := by
  refine says_of Try.func31 rfl (nt := 45) rfl (Nat.le_of_ble_eq_true rfl) fun X hP h0 hX => ?_
  have hT : TabOk X.P T := hP ▸ tok
  have hf : X.P.funcs[31]? = some Try.f31 := hP ▸ Try.func31
  have Jj1 : ∀ (y1_19 : Bool), (merkle_Verify.j1 a0 a1 a2 a3 y1_19) = some r → AK X 31 ((K31 110 1)) (Back X [] (.b r)) ⟨45, [(0, .n .u32 a0), (1, .i a1), (3, .d (eL37 t3 a3)), (6, .ptr 0 0 0 0), (19, .b y1_19)], [.box 48 (eC48 a2)]⟩ := by
    intro y1_19 H
    by_cases c2 : y1_19 = true
    · replace H := iT c2 H
      rw [c2]
      refine goK hT 5 (K31 11010 1) ⟨45, [(8, .b false)], [.box 48 (eC48 a2)]⟩ ?_
      obtain rfl := retC H
      exact ak_ret hf hX (av := .b false) (by kernel_rfl) [] (sel_of_eq (by kernel_rfl)) (by decide) (by rw [h0]; rfl) (by kernel_rfl) (fun _ h => all_nil h) (.d (.v _))
    · replace H := iF c2 H
      rw [boF c2]
      refine goK hT 2 (K31 11 1) ⟨45, [(0, .n .u32 a0), (1, .i a1), (3, .d (eL37 t3 a3)), (6, .ptr 0 0 0 0)], [.box 48 (eC48 a2)]⟩ ?_
      refine goK hT 3 (K31 1110 1) ⟨45, [(0, .n .u32 a0), (1, .i a1), (3, .d (eL37 t3 a3)), (20, .d (eG48 a2))], [.box 48 (eC48 a2)]⟩ ?_
      obtain ⟨v1, h3, H⟩ := ibC H
      refine ak_callP (avs := [.d (eG48 a2)]) (dst := some 21) (k' := (K31 1110 2)) [0, 1, 3, 21] [] hP enters_19 (merkle_Number.says a2 h3) (by kernel_rfl) (hands_none _) (.cons (pass_d _) .nil) (st' := ⟨45, [(0, .n .u32 a0), (1, .i a1), (3, .d (eL37 t3 a3)), (21, .n .u32 v1)], [.box 48 (eC48 a2)]⟩) (by kernel_rfl) ?_
      refine goK hT 31 (K31 11110100110010 6) ⟨45, [(0, .n .u32 a0), (1, .i a1), (3, .d (eL37 t3 a3)), (9, .n .u32 v1), (10, .i 0), (22, .i 0), (25, .d (eL37 t3 a3)), (27, .i 0), (30, .i 15)], [.box 48 (eC48 a2)]⟩ ?_
      obtain ⟨h4, H⟩ := iC H
      refine ak_sliceL (tg := t3) (s := 1) (l := (some (.i64, 0))) (h := (some (.i64, 15))) (dst := some 31) (k' := (K31 11110100110010 7)) hT [0, 1, 3, 9, 10, 22, 31] (eI .u32) 0 a3 (by kernel_rfl) h4 (fun _ => rfl) (st' := ⟨45, [(0, .n .u32 a0), (1, .i a1), (3, .d (eL37 t3 a3)), (9, .n .u32 v1), (10, .i 0), (22, .i 0), (31, .d (eL37 t3 ((a3.drop 0).take (15 - 0))))], [.box 48 (eC48 a2)]⟩) (by kernel_rfl) ?_
      refine goK hT 4 (K31 11110100110011 1) ⟨45, [(0, .n .u32 a0), (1, .i a1), (3, .d (eL37 t3 a3)), (9, .n .u32 v1), (10, .i 0), (22, .i 0), (32, .d (eL37 t3 ((a3.drop 0).take (15 - 0))))], [.box 48 (eC48 a2)]⟩ ?_
      obtain ⟨h5, H⟩ := iC H
      refine ak_callP (avs := [.d (eL37 t3 ((a3.drop 0).take (15 - 0)))]) (dst := some 33) (k' := (K31 11110100110011 2)) [0, 1, 3, 9, 10, 22, 33] [] hP enters_50 (clone50 (tg := t3) ((a3.drop 0).take (15 - 0)) h5) (by kernel_rfl) (hands_none _) (.cons (pass_d _) .nil) (st' := ⟨45, [(0, .n .u32 a0), (1, .i a1), (3, .d (eL37 t3 a3)), (9, .n .u32 v1), (10, .i 0), (22, .i 0), (33, .own 1 1 0 (((a3.drop 0).take (15 - 0)).length))], [.box 48 (eC48 a2), eR37 ((a3.drop 0).take (15 - 0))]⟩) (by kernel_rfl) ?_
      refine goK hT 2 (K31 11110100110011 4) ⟨45, [(0, .n .u32 a0), (1, .i a1), (3, .d (eL37 t3 a3)), (9, .n .u32 v1), (22, .i 0), (33, .own 1 1 0 (((a3.drop 0).take (15 - 0)).length)), (34, .i 0), (35, .i a1)], [.box 48 (eC48 a2), eR37 ((a3.drop 0).take (15 - 0))]⟩ ?_
      obtain ⟨v2, h6, H⟩ := ibC H
      refine ak_callP (avs := [.i 0, .i a1]) (dst := some 36) (k' := (K31 11110100110011 5)) [0, 1, 3, 9, 22, 33, 36] [] hP enters_46 (merkle_place.says 0 a1 h6) (by kernel_rfl) (hands_none _) (.cons (pass_d _) (.cons (pass_d _) .nil)) (st' := ⟨45, [(0, .n .u32 a0), (1, .i a1), (3, .d (eL37 t3 a3)), (9, .n .u32 v1), (22, .i 0), (33, .own 1 1 0 (((a3.drop 0).take (15 - 0)).length)), (36, .i v2)], [.box 48 (eC48 a2), eR37 ((a3.drop 0).take (15 - 0))]⟩) (by kernel_rfl) ?_
      refine goK hT 2 (K31 11110100110011 7) ⟨45, [(0, .n .u32 a0), (1, .i a1), (3, .d (eL37 t3 a3)), (22, .i 0), (33, .own 1 1 0 (((a3.drop 0).take (15 - 0)).length)), (36, .i v2), (38, .own 2 1 0 1)], [.box 48 (eC48 a2), eR37 ((a3.drop 0).take (15 - 0)), .flat false 1 37 1 (fun j => [[.n .u32 v1]].getD j [])]⟩ ?_
      obtain ⟨h7, H⟩ := iC H
      refine ak_callP (avs := [.own 1 1 0 (((a3.drop 0).take (15 - 0)).length), .i v2, .own 2 1 0 1]) (dst := some 39) (k' := (K31 11110100110011 8)) [0, 1, 3, 22, 39] [1, 2] hP enters_49 (insert49 ((a3.drop 0).take (15 - 0)) v2 v1 h7) (by kernel_rfl) (hands_two rfl rfl rfl rfl (by decide)) (.cons (.same (.own 0 1 0 (((a3.drop 0).take (15 - 0)).length))) (.cons (pass_d _) (.cons (.same (.own 1 1 0 1)) .nil))) (st' := ⟨45, [(0, .n .u32 a0), (1, .i a1), (3, .d (eL37 t3 a3)), (22, .i 0), (39, .own 3 1 0 ((((a3.drop 0).take (15 - 0)).take v2.toNat ++ v1 :: ((a3.drop 0).take (15 - 0)).drop v2.toNat).length))], [.box 48 (eC48 a2), .gone, .gone, eR37 (((a3.drop 0).take (15 - 0)).take v2.toNat ++ v1 :: ((a3.drop 0).take (15 - 0)).drop v2.toNat)]⟩) (by kernel_rfl) ?_
      obtain ⟨v3, h8, H⟩ := ibC H
      refine ak_callP (avs := [.own 3 1 0 ((((a3.drop 0).take (15 - 0)).take v2.toNat ++ v1 :: ((a3.drop 0).take (15 - 0)).drop v2.toNat).length)]) (dst := some 40) (k' := (K31 11110100110011 9)) [0, 1, 3, 22, 40] [] hP enters_48 (merkle_over.says (t0 := false) (((a3.drop 0).take (15 - 0)).take v2.toNat ++ v1 :: ((a3.drop 0).take (15 - 0)).drop v2.toNat) h8) (by kernel_rfl) (hands_none _) (.cons (.lend (ty := 37) (by kernel_rfl) rfl) .nil) (st' := ⟨45, [(0, .n .u32 a0), (1, .i a1), (3, .d (eL37 t3 a3)), (22, .i 0), (40, .n .u32 v3)], [.box 48 (eC48 a2), .gone, .gone, eR37 (((a3.drop 0).take (15 - 0)).take v2.toNat ++ v1 :: ((a3.drop 0).take (15 - 0)).drop v2.toNat)]⟩) (by kernel_rfl) ?_
      refine goK hT 30 (K31 11110100110010 6) ⟨45, [(0, .n .u32 a0), (1, .i a1), (3, .d (eL37 t3 a3)), (9, .n .u32 v3), (10, .i 1), (22, .i 1), (25, .d (eL37 t3 a3)), (27, .i 15), (30, .i 30)], [.box 48 (eC48 a2), .gone, .gone, eR37 (((a3.drop 0).take (15 - 0)).take v2.toNat ++ v1 :: ((a3.drop 0).take (15 - 0)).drop v2.toNat)]⟩ ?_
      obtain ⟨h9, H⟩ := iC H
      refine ak_sliceL (tg := t3) (s := 1) (l := (some (.i64, 15))) (h := (some (.i64, 30))) (dst := some 31) (k' := (K31 11110100110010 7)) hT [0, 1, 3, 9, 10, 22, 31] (eI .u32) 0 a3 (by kernel_rfl) h9 (fun _ => rfl) (st' := ⟨45, [(0, .n .u32 a0), (1, .i a1), (3, .d (eL37 t3 a3)), (9, .n .u32 v3), (10, .i 1), (22, .i 1), (31, .d (eL37 t3 ((a3.drop 15).take (30 - 15))))], [.box 48 (eC48 a2), .gone, .gone, eR37 (((a3.drop 0).take (15 - 0)).take v2.toNat ++ v1 :: ((a3.drop 0).take (15 - 0)).drop v2.toNat)]⟩) (by kernel_rfl) ?_
      refine goK hT 4 (K31 11110100110011 1) ⟨45, [(0, .n .u32 a0), (1, .i a1), (3, .d (eL37 t3 a3)), (9, .n .u32 v3), (10, .i 1), (22, .i 1), (32, .d (eL37 t3 ((a3.drop 15).take (30 - 15))))], [.box 48 (eC48 a2), .gone, .gone, eR37 (((a3.drop 0).take (15 - 0)).take v2.toNat ++ v1 :: ((a3.drop 0).take (15 - 0)).drop v2.toNat)]⟩ ?_
      obtain ⟨h10, H⟩ := iC H
      refine ak_callP (avs := [.d (eL37 t3 ((a3.drop 15).take (30 - 15)))]) (dst := some 33) (k' := (K31 11110100110011 2)) [0, 1, 3, 9, 10, 22, 33] [] hP enters_50 (clone50 (tg := t3) ((a3.drop 15).take (30 - 15)) h10) (by kernel_rfl) (hands_none _) (.cons (pass_d _) .nil) (st' := ⟨45, [(0, .n .u32 a0), (1, .i a1), (3, .d (eL37 t3 a3)), (9, .n .u32 v3), (10, .i 1), (22, .i 1), (33, .own 4 1 0 (((a3.drop 15).take (30 - 15)).length))], [.box 48 (eC48 a2), .gone, .gone, eR37 (((a3.drop 0).take (15 - 0)).take v2.toNat ++ v1 :: ((a3.drop 0).take (15 - 0)).drop v2.toNat), eR37 ((a3.drop 15).take (30 - 15))]⟩) (by kernel_rfl) ?_
      refine goK hT 2 (K31 11110100110011 4) ⟨45, [(0, .n .u32 a0), (1, .i a1), (3, .d (eL37 t3 a3)), (9, .n .u32 v3), (22, .i 1), (33, .own 4 1 0 (((a3.drop 15).take (30 - 15)).length)), (34, .i 1), (35, .i a1)], [.box 48 (eC48 a2), .gone, .gone, eR37 (((a3.drop 0).take (15 - 0)).take v2.toNat ++ v1 :: ((a3.drop 0).take (15 - 0)).drop v2.toNat), eR37 ((a3.drop 15).take (30 - 15))]⟩ ?_
      obtain ⟨v4, h11, H⟩ := ibC H
      refine ak_callP (avs := [.i 1, .i a1]) (dst := some 36) (k' := (K31 11110100110011 5)) [0, 1, 3, 9, 22, 33, 36] [] hP enters_46 (merkle_place.says 1 a1 h11) (by kernel_rfl) (hands_none _) (.cons (pass_d _) (.cons (pass_d _) .nil)) (st' := ⟨45, [(0, .n .u32 a0), (1, .i a1), (3, .d (eL37 t3 a3)), (9, .n .u32 v3), (22, .i 1), (33, .own 4 1 0 (((a3.drop 15).take (30 - 15)).length)), (36, .i v4)], [.box 48 (eC48 a2), .gone, .gone, eR37 (((a3.drop 0).take (15 - 0)).take v2.toNat ++ v1 :: ((a3.drop 0).take (15 - 0)).drop v2.toNat), eR37 ((a3.drop 15).take (30 - 15))]⟩) (by kernel_rfl) ?_
      refine goK hT 2 (K31 11110100110011 7) ⟨45, [(0, .n .u32 a0), (1, .i a1), (3, .d (eL37 t3 a3)), (22, .i 1), (33, .own 4 1 0 (((a3.drop 15).take (30 - 15)).length)), (36, .i v4), (38, .own 5 1 0 1)], [.box 48 (eC48 a2), .gone, .gone, eR37 (((a3.drop 0).take (15 - 0)).take v2.toNat ++ v1 :: ((a3.drop 0).take (15 - 0)).drop v2.toNat), eR37 ((a3.drop 15).take (30 - 15)), .flat false 1 37 1 (fun j => [[.n .u32 v3]].getD j [])]⟩ ?_
      obtain ⟨h12, H⟩ := iC H
      refine ak_callP (avs := [.own 4 1 0 (((a3.drop 15).take (30 - 15)).length), .i v4, .own 5 1 0 1]) (dst := some 39) (k' := (K31 11110100110011 8)) [0, 1, 3, 22, 39] [4, 5] hP enters_49 (insert49 ((a3.drop 15).take (30 - 15)) v4 v3 h12) (by kernel_rfl) (hands_two rfl rfl rfl rfl (by decide)) (.cons (.same (.own 0 1 0 (((a3.drop 15).take (30 - 15)).length))) (.cons (pass_d _) (.cons (.same (.own 1 1 0 1)) .nil))) (st' := ⟨45, [(0, .n .u32 a0), (1, .i a1), (3, .d (eL37 t3 a3)), (22, .i 1), (39, .own 6 1 0 ((((a3.drop 15).take (30 - 15)).take v4.toNat ++ v3 :: ((a3.drop 15).take (30 - 15)).drop v4.toNat).length))], [.box 48 (eC48 a2), .gone, .gone, eR37 (((a3.drop 0).take (15 - 0)).take v2.toNat ++ v1 :: ((a3.drop 0).take (15 - 0)).drop v2.toNat), .gone, .gone, eR37 (((a3.drop 15).take (30 - 15)).take v4.toNat ++ v3 :: ((a3.drop 15).take (30 - 15)).drop v4.toNat)]⟩) (by kernel_rfl) ?_
      obtain ⟨v5, h13, H⟩ := ibC H
      refine ak_callP (avs := [.own 6 1 0 ((((a3.drop 15).take (30 - 15)).take v4.toNat ++ v3 :: ((a3.drop 15).take (30 - 15)).drop v4.toNat).length)]) (dst := some 40) (k' := (K31 11110100110011 9)) [0, 1, 3, 22, 40] [] hP enters_48 (merkle_over.says (t0 := false) (((a3.drop 15).take (30 - 15)).take v4.toNat ++ v3 :: ((a3.drop 15).take (30 - 15)).drop v4.toNat) h13) (by kernel_rfl) (hands_none _) (.cons (.lend (ty := 37) (by kernel_rfl) rfl) .nil) (st' := ⟨45, [(0, .n .u32 a0), (1, .i a1), (3, .d (eL37 t3 a3)), (22, .i 1), (40, .n .u32 v5)], [.box 48 (eC48 a2), .gone, .gone, eR37 (((a3.drop 0).take (15 - 0)).take v2.toNat ++ v1 :: ((a3.drop 0).take (15 - 0)).drop v2.toNat), .gone, .gone, eR37 (((a3.drop 15).take (30 - 15)).take v4.toNat ++ v3 :: ((a3.drop 15).take (30 - 15)).drop v4.toNat)]⟩) (by kernel_rfl) ?_
      refine goK hT 30 (K31 11110100110010 6) ⟨45, [(0, .n .u32 a0), (1, .i a1), (3, .d (eL37 t3 a3)), (9, .n .u32 v5), (10, .i 2), (22, .i 2), (25, .d (eL37 t3 a3)), (27, .i 30), (30, .i 45)], [.box 48 (eC48 a2), .gone, .gone, eR37 (((a3.drop 0).take (15 - 0)).take v2.toNat ++ v1 :: ((a3.drop 0).take (15 - 0)).drop v2.toNat), .gone, .gone, eR37 (((a3.drop 15).take (30 - 15)).take v4.toNat ++ v3 :: ((a3.drop 15).take (30 - 15)).drop v4.toNat)]⟩ ?_
      obtain ⟨h14, H⟩ := iC H
      refine ak_sliceL (tg := t3) (s := 1) (l := (some (.i64, 30))) (h := (some (.i64, 45))) (dst := some 31) (k' := (K31 11110100110010 7)) hT [0, 1, 3, 9, 10, 22, 31] (eI .u32) 0 a3 (by kernel_rfl) h14 (fun _ => rfl) (st' := ⟨45, [(0, .n .u32 a0), (1, .i a1), (3, .d (eL37 t3 a3)), (9, .n .u32 v5), (10, .i 2), (22, .i 2), (31, .d (eL37 t3 ((a3.drop 30).take (45 - 30))))], [.box 48 (eC48 a2), .gone, .gone, eR37 (((a3.drop 0).take (15 - 0)).take v2.toNat ++ v1 :: ((a3.drop 0).take (15 - 0)).drop v2.toNat), .gone, .gone, eR37 (((a3.drop 15).take (30 - 15)).take v4.toNat ++ v3 :: ((a3.drop 15).take (30 - 15)).drop v4.toNat)]⟩) (by kernel_rfl) ?_
      refine goK hT 4 (K31 11110100110011 1) ⟨45, [(0, .n .u32 a0), (1, .i a1), (3, .d (eL37 t3 a3)), (9, .n .u32 v5), (10, .i 2), (22, .i 2), (32, .d (eL37 t3 ((a3.drop 30).take (45 - 30))))], [.box 48 (eC48 a2), .gone, .gone, eR37 (((a3.drop 0).take (15 - 0)).take v2.toNat ++ v1 :: ((a3.drop 0).take (15 - 0)).drop v2.toNat), .gone, .gone, eR37 (((a3.drop 15).take (30 - 15)).take v4.toNat ++ v3 :: ((a3.drop 15).take (30 - 15)).drop v4.toNat)]⟩ ?_
      obtain ⟨h15, H⟩ := iC H
      refine ak_callP (avs := [.d (eL37 t3 ((a3.drop 30).take (45 - 30)))]) (dst := some 33) (k' := (K31 11110100110011 2)) [0, 1, 3, 9, 10, 22, 33] [] hP enters_50 (clone50 (tg := t3) ((a3.drop 30).take (45 - 30)) h15) (by kernel_rfl) (hands_none _) (.cons (pass_d _) .nil) (st' := ⟨45, [(0, .n .u32 a0), (1, .i a1), (3, .d (eL37 t3 a3)), (9, .n .u32 v5), (10, .i 2), (22, .i 2), (33, .own 7 1 0 (((a3.drop 30).take (45 - 30)).length))], [.box 48 (eC48 a2), .gone, .gone, eR37 (((a3.drop 0).take (15 - 0)).take v2.toNat ++ v1 :: ((a3.drop 0).take (15 - 0)).drop v2.toNat), .gone, .gone, eR37 (((a3.drop 15).take (30 - 15)).take v4.toNat ++ v3 :: ((a3.drop 15).take (30 - 15)).drop v4.toNat), eR37 ((a3.drop 30).take (45 - 30))]⟩) (by kernel_rfl) ?_
      refine goK hT 2 (K31 11110100110011 4) ⟨45, [(0, .n .u32 a0), (1, .i a1), (3, .d (eL37 t3 a3)), (9, .n .u32 v5), (22, .i 2), (33, .own 7 1 0 (((a3.drop 30).take (45 - 30)).length)), (34, .i 2), (35, .i a1)], [.box 48 (eC48 a2), .gone, .gone, eR37 (((a3.drop 0).take (15 - 0)).take v2.toNat ++ v1 :: ((a3.drop 0).take (15 - 0)).drop v2.toNat), .gone, .gone, eR37 (((a3.drop 15).take (30 - 15)).take v4.toNat ++ v3 :: ((a3.drop 15).take (30 - 15)).drop v4.toNat), eR37 ((a3.drop 30).take (45 - 30))]⟩ ?_
      obtain ⟨v6, h16, H⟩ := ibC H
      refine ak_callP (avs := [.i 2, .i a1]) (dst := some 36) (k' := (K31 11110100110011 5)) [0, 1, 3, 9, 22, 33, 36] [] hP enters_46 (merkle_place.says 2 a1 h16) (by kernel_rfl) (hands_none _) (.cons (pass_d _) (.cons (pass_d _) .nil)) (st' := ⟨45, [(0, .n .u32 a0), (1, .i a1), (3, .d (eL37 t3 a3)), (9, .n .u32 v5), (22, .i 2), (33, .own 7 1 0 (((a3.drop 30).take (45 - 30)).length)), (36, .i v6)], [.box 48 (eC48 a2), .gone, .gone, eR37 (((a3.drop 0).take (15 - 0)).take v2.toNat ++ v1 :: ((a3.drop 0).take (15 - 0)).drop v2.toNat), .gone, .gone, eR37 (((a3.drop 15).take (30 - 15)).take v4.toNat ++ v3 :: ((a3.drop 15).take (30 - 15)).drop v4.toNat), eR37 ((a3.drop 30).take (45 - 30))]⟩) (by kernel_rfl) ?_
      refine goK hT 2 (K31 11110100110011 7) ⟨45, [(0, .n .u32 a0), (1, .i a1), (3, .d (eL37 t3 a3)), (22, .i 2), (33, .own 7 1 0 (((a3.drop 30).take (45 - 30)).length)), (36, .i v6), (38, .own 8 1 0 1)], [.box 48 (eC48 a2), .gone, .gone, eR37 (((a3.drop 0).take (15 - 0)).take v2.toNat ++ v1 :: ((a3.drop 0).take (15 - 0)).drop v2.toNat), .gone, .gone, eR37 (((a3.drop 15).take (30 - 15)).take v4.toNat ++ v3 :: ((a3.drop 15).take (30 - 15)).drop v4.toNat), eR37 ((a3.drop 30).take (45 - 30)), .flat false 1 37 1 (fun j => [[.n .u32 v5]].getD j [])]⟩ ?_
      obtain ⟨h17, H⟩ := iC H
      refine ak_callP (avs := [.own 7 1 0 (((a3.drop 30).take (45 - 30)).length), .i v6, .own 8 1 0 1]) (dst := some 39) (k' := (K31 11110100110011 8)) [0, 1, 3, 22, 39] [7, 8] hP enters_49 (insert49 ((a3.drop 30).take (45 - 30)) v6 v5 h17) (by kernel_rfl) (hands_two rfl rfl rfl rfl (by decide)) (.cons (.same (.own 0 1 0 (((a3.drop 30).take (45 - 30)).length))) (.cons (pass_d _) (.cons (.same (.own 1 1 0 1)) .nil))) (st' := ⟨45, [(0, .n .u32 a0), (1, .i a1), (3, .d (eL37 t3 a3)), (22, .i 2), (39, .own 9 1 0 ((((a3.drop 30).take (45 - 30)).take v6.toNat ++ v5 :: ((a3.drop 30).take (45 - 30)).drop v6.toNat).length))], [.box 48 (eC48 a2), .gone, .gone, eR37 (((a3.drop 0).take (15 - 0)).take v2.toNat ++ v1 :: ((a3.drop 0).take (15 - 0)).drop v2.toNat), .gone, .gone, eR37 (((a3.drop 15).take (30 - 15)).take v4.toNat ++ v3 :: ((a3.drop 15).take (30 - 15)).drop v4.toNat), .gone, .gone, eR37 (((a3.drop 30).take (45 - 30)).take v6.toNat ++ v5 :: ((a3.drop 30).take (45 - 30)).drop v6.toNat)]⟩) (by kernel_rfl) ?_
      obtain ⟨v7, h18, H⟩ := ibC H
      refine ak_callP (avs := [.own 9 1 0 ((((a3.drop 30).take (45 - 30)).take v6.toNat ++ v5 :: ((a3.drop 30).take (45 - 30)).drop v6.toNat).length)]) (dst := some 40) (k' := (K31 11110100110011 9)) [0, 1, 3, 22, 40] [] hP enters_48 (merkle_over.says (t0 := false) (((a3.drop 30).take (45 - 30)).take v6.toNat ++ v5 :: ((a3.drop 30).take (45 - 30)).drop v6.toNat) h18) (by kernel_rfl) (hands_none _) (.cons (.lend (ty := 37) (by kernel_rfl) rfl) .nil) (st' := ⟨45, [(0, .n .u32 a0), (1, .i a1), (3, .d (eL37 t3 a3)), (22, .i 2), (40, .n .u32 v7)], [.box 48 (eC48 a2), .gone, .gone, eR37 (((a3.drop 0).take (15 - 0)).take v2.toNat ++ v1 :: ((a3.drop 0).take (15 - 0)).drop v2.toNat), .gone, .gone, eR37 (((a3.drop 15).take (30 - 15)).take v4.toNat ++ v3 :: ((a3.drop 15).take (30 - 15)).drop v4.toNat), .gone, .gone, eR37 (((a3.drop 30).take (45 - 30)).take v6.toNat ++ v5 :: ((a3.drop 30).take (45 - 30)).drop v6.toNat)]⟩) (by kernel_rfl) ?_
      refine goK hT 22 (K31 11111 1) ⟨45, [(8, .b (v7 == a0))], [.box 48 (eC48 a2), .gone, .gone, eR37 (((a3.drop 0).take (15 - 0)).take v2.toNat ++ v1 :: ((a3.drop 0).take (15 - 0)).drop v2.toNat), .gone, .gone, eR37 (((a3.drop 15).take (30 - 15)).take v4.toNat ++ v3 :: ((a3.drop 15).take (30 - 15)).drop v4.toNat), .gone, .gone, eR37 (((a3.drop 30).take (45 - 30)).take v6.toNat ++ v5 :: ((a3.drop 30).take (45 - 30)).drop v6.toNat)]⟩ ?_
      obtain rfl := retC H
      exact ak_ret hf hX (av := .b (v7 == a0)) (by kernel_rfl) [] (sel_of_eq (by kernel_rfl)) (by decide) (by rw [h0]; rfl) (by kernel_rfl) (fun _ h => all_nil h) (.d (.v _))
  refine goK hT 12 (K31 1100 4) ⟨45, [(0, .n .u32 a0), (1, .i a1), (3, .d (eL37 t3 a3)), (6, .ptr 0 0 0 0), (15, .b ((a3.length : Int) != 45))], [.box 48 (eC48 a2)]⟩ ?_
  by_cases c1 : (a3.length : Int) = 45
  · replace H := iT c1 H
    rw [neF c1]
    refine goK hT 1 (K31 1100 5) ⟨45, [(0, .n .u32 a0), (1, .i a1), (3, .d (eL37 t3 a3)), (6, .ptr 0 0 0 0), (15, .b false), (16, .i a1)], [.box 48 (eC48 a2)]⟩ ?_
    refine ak_callP (avs := [.i a1]) (dst := some 17) (k' := (K31 1100 6)) [0, 1, 3, 6, 15, 17] [] hP enters_43 (merkle_isKey.says a1) (by kernel_rfl) (hands_none _) (.cons (pass_d _) .nil) (st' := ⟨45, [(0, .n .u32 a0), (1, .i a1), (3, .d (eL37 t3 a3)), (6, .ptr 0 0 0 0), (15, .b false), (17, .b (merkle_isKey a1))], [.box 48 (eC48 a2)]⟩) (by kernel_rfl) ?_
    refine goK hT 3 (K31 110 1) ⟨45, [(0, .n .u32 a0), (1, .i a1), (3, .d (eL37 t3 a3)), (6, .ptr 0 0 0 0), (19, .b (!(merkle_isKey a1)))], [.box 48 (eC48 a2)]⟩ ?_
    refine cutK [0] ⟨45, [(0, .n .u32 a0), (1, .i a1), (3, .d (eL37 t3 a3)), (6, .ptr 0 0 0 0), (19, .b (!(merkle_isKey a1)))], [.box 48 (eC48 a2)]⟩ h0 ?_
    exact Jj1 (!(merkle_isKey a1)) H
  · replace H := iF c1 H
    rw [neT c1]
    refine goK hT 5 (K31 110 1) ⟨45, [(0, .n .u32 a0), (1, .i a1), (3, .d (eL37 t3 a3)), (6, .ptr 0 0 0 0), (19, .b true)], [.box 48 (eC48 a2)]⟩ ?_
    refine cutK [0] ⟨45, [(0, .n .u32 a0), (1, .i a1), (3, .d (eL37 t3 a3)), (6, .ptr 0 0 0 0), (19, .b true)], [.box 48 (eC48 a2)]⟩ h0 ?_
    exact Jj1 true H


theorem spliceref20_Prove.says {t0 : Bool} (a0 : List (List Int)) (a1 : Int) {r : List Int} (H : spliceref20_Prove a0 a1 = some r) : Says Try.prog 32 [] [.d (eL57 t0 a0), .i a1] [eR37 r] (.own 0 1 0 r.length) := by
  refine says_of Try.func32 rfl (nt := 39) rfl (Nat.le_of_ble_eq_true rfl) fun X hP h0 hX => ?_
  have hT : TabOk X.P T := hP ▸ tok
  have hf : X.P.funcs[32]? = some Try.f32 := hP ▸ Try.func32
  refine goK hT 15 (K32 111010 0) ⟨39, [(0, .d (eL57 t0 a0)), (1, .i a1), (5, .ns), (6, .i 0)], []⟩ ?_
  refine ak_nilS [0, 1, 5, 6] 5 1 37 (vec (eI .u32) 0 []) (st' := ⟨39, [(0, .d (eL57 t0 a0)), (1, .i a1), (5, .own 0 1 0 0), (6, .i 0)], [eR37 ([] : List Int)]⟩) (by kernel_rfl) (by kernel_rfl) ?_
  have L : ∀ n, (∀ (x1_1 : Int) (x1_6 : Int) (x1_r0 : List Int), iter (spliceref20_Prove.step a0) n (.l1 x1_1 x1_6 x1_r0) = some r → AK X 32 ((K32 111010 0)) (Back X [eR37 r] (.own 0 1 0 r.length)) ⟨39, [(0, .d (eL57 t0 a0)), (1, .i x1_1), (5, .own 0 1 0 x1_r0.length), (6, .i x1_6)], [eR37 x1_r0]⟩) ∧ (∀ (v1 : Int) (x2_1 : Int) (x2_6 : Int) (x2_8 : Int) (x2_r0 : List Int), iter (spliceref20_Prove.step a0) n (.l2 v1 x2_1 x2_6 x2_8 x2_r0) = some r → AK X 32 ((K32 11101001001010 0)) (Back X [eR37 r] (.own 0 1 0 r.length)) ⟨39, [(0, .d (eL57 t0 a0)), (1, .i x2_1), (5, .own 0 1 0 x2_r0.length), (6, .i x2_6), (7, .i v1), (8, .i x2_8)], [eR37 x2_r0]⟩) := by
    intro n
    induction n with
    | zero => exact ⟨fun _ _ _ H => iter0 H, fun _ _ _ _ _ H => iter0 H⟩
    | succ n ih =>
      refine ⟨?_, ?_⟩
      · intro x1_1 x1_6 x1_r0 H
        refine goK hT 6 (K32 11101000 1) ⟨39, [(0, .d (eL57 t0 a0)), (1, .i x1_1), (5, .own 0 1 0 x1_r0.length), (6, .i x1_6), (10, .b (decide (x1_6 < 3)))], [eR37 x1_r0]⟩ ?_
        by_cases c1 : x1_6 < 3
        · replace H := sT c1 H
          rw [decide_eq_true c1]
          refine goK hT 2 (K32 1110100 1) ⟨39, [(0, .d (eL57 t0 a0)), (1, .i x1_1), (5, .own 0 1 0 x1_r0.length), (6, .i x1_6)], [eR37 x1_r0]⟩ ?_
          refine goK hT 8 (K32 11101001000 4) ⟨39, [(0, .d (eL57 t0 a0)), (1, .i x1_1), (5, .own 0 1 0 x1_r0.length), (6, .i x1_6), (7, .i (IntKind.wrap .i64 ((IntKind.wrap .i64 (Int.tdiv x1_1 16)) * 16)))], [eR37 x1_r0]⟩ ?_
          obtain ⟨v1, h2, H⟩ := sdC H
          rw [← h2]
          refine goK hT 9 (K32 11101001001010 0) ⟨39, [(0, .d (eL57 t0 a0)), (1, .i x1_1), (5, .own 0 1 0 x1_r0.length), (6, .i x1_6), (7, .i v1), (8, .i v1)], [eR37 x1_r0]⟩ ?_
          refine cutK [0] ⟨39, [(0, .d (eL57 t0 a0)), (1, .i x1_1), (5, .own 0 1 0 x1_r0.length), (6, .i x1_6), (7, .i v1), (8, .i v1)], [eR37 x1_r0]⟩ h0 ?_
          exact ih.2 v1 x1_1 x1_6 v1 x1_r0 H
        · replace H := sF c1 H
          rw [decide_eq_false c1]
          refine goK hT 7 (K32 1111 1) ⟨39, [(4, .own 0 1 0 x1_r0.length)], [eR37 x1_r0]⟩ ?_
          obtain rfl := retC H
          exact ak_ret hf hX (av := .own 0 1 0 x1_r0.length) (by kernel_rfl) [0] (sel_of_eq (by kernel_rfl)) (by decide) (by rw [h0]; rfl) (by kernel_rfl) (fun _ h => all_cons (nr_vec (nlI .u32)) (fun _ h => all_nil h) h) (.own _ _ _ _)
      · intro v1 x2_1 x2_6 x2_8 x2_r0 H
        refine goK hT 8 (K32 1110100100101000 1) ⟨39, [(0, .d (eL57 t0 a0)), (1, .i x2_1), (5, .own 0 1 0 x2_r0.length), (6, .i x2_6), (7, .i v1), (8, .i x2_8), (20, .b (decide (x2_8 < (IntKind.wrap .i64 (v1 + 16)))))], [eR37 x2_r0]⟩ ?_
        by_cases c3 : x2_8 < (IntKind.wrap .i64 (v1 + 16))
        · replace H := sT c3 H
          have Jj1 : ∀ (y1_r0 : List Int), stk (spliceref20_Prove.j1 x2_1 x2_6 x2_8 v1 y1_r0) (iter (spliceref20_Prove.step a0) n) = some r → AK X 32 ((K32 1110100100101001 1)) (Back X [eR37 r] (.own 0 1 0 r.length)) ⟨39, [(0, .d (eL57 t0 a0)), (1, .i x2_1), (5, .own 0 1 0 y1_r0.length), (6, .i x2_6), (7, .i v1), (8, .i x2_8)], [eR37 y1_r0]⟩ := by
            intro y1_r0 H
            refine goK hT 6 (K32 11101001001010 0) ⟨39, [(0, .d (eL57 t0 a0)), (1, .i x2_1), (5, .own 0 1 0 y1_r0.length), (6, .i x2_6), (7, .i v1), (8, .i (IntKind.wrap .i64 (x2_8 + 1)))], [eR37 y1_r0]⟩ ?_
            refine cutK [0] ⟨39, [(0, .d (eL57 t0 a0)), (1, .i x2_1), (5, .own 0 1 0 y1_r0.length), (6, .i x2_6), (7, .i v1), (8, .i (IntKind.wrap .i64 (x2_8 + 1)))], [eR37 y1_r0]⟩ h0 ?_
            exact ih.2 v1 x2_1 x2_6 (IntKind.wrap .i64 (x2_8 + 1)) y1_r0 H
          rw [decide_eq_true c3]
          refine goK hT 2 (K32 111010010010100 1) ⟨39, [(0, .d (eL57 t0 a0)), (1, .i x2_1), (5, .own 0 1 0 x2_r0.length), (6, .i x2_6), (7, .i v1), (8, .i x2_8)], [eR37 x2_r0]⟩ ?_
          refine goK hT 8 (K32 111010010010100100 1) ⟨39, [(0, .d (eL57 t0 a0)), (1, .i x2_1), (5, .own 0 1 0 x2_r0.length), (6, .i x2_6), (7, .i v1), (8, .i x2_8), (25, .b (x2_8 != x2_1))], [eR37 x2_r0]⟩ ?_
          by_cases c4 : x2_8 = x2_1
          · replace H := sT c4 H
            rw [neF c4]
            refine goK hT 3 (K32 1110100100101001 1) ⟨39, [(0, .d (eL57 t0 a0)), (1, .i x2_1), (5, .own 0 1 0 x2_r0.length), (6, .i x2_6), (7, .i v1), (8, .i x2_8)], [eR37 x2_r0]⟩ ?_
            refine cutK [0] ⟨39, [(0, .d (eL57 t0 a0)), (1, .i x2_1), (5, .own 0 1 0 x2_r0.length), (6, .i x2_6), (7, .i v1), (8, .i x2_8)], [eR37 x2_r0]⟩ h0 ?_
            exact Jj1 x2_r0 H
          · replace H := sF c4 H
            rw [neT c4]
            refine goK hT 5 (K32 11101001001010010010 3) ⟨39, [(0, .d (eL57 t0 a0)), (1, .i x2_1), (6, .i x2_6), (7, .i v1), (8, .i x2_8), (26, .own 0 1 0 x2_r0.length), (27, .d (eL57 t0 a0)), (28, .i x2_6)], [eR37 x2_r0]⟩ ?_
            obtain ⟨h5, H⟩ := sC H
            refine ak_idx hT [0, 1, 6, 7, 8, 26, 29] (i := x2_6) (n := (a0.length : Int)) h5.1 h5.2 (k' := (K32 11101001001010010010 4)) (st' := ⟨39, [(0, .d (eL57 t0 a0)), (1, .i x2_1), (6, .i x2_6), (7, .i v1), (8, .i x2_8), (26, .own 0 1 0 x2_r0.length), (29, .d (eP57 t0 a0 x2_6.toNat 0))], [eR37 x2_r0]⟩) (by kernel_rfl) ?_
            refine goK hT 2 (K32 11101001001010010010 6) ⟨39, [(0, .d (eL57 t0 a0)), (1, .i x2_1), (6, .i x2_6), (7, .i v1), (8, .i x2_8), (26, .own 0 1 0 x2_r0.length), (30, .d (eL37 true (a0.getD x2_6.toNat []))), (31, .i x2_8)], [eR37 x2_r0]⟩ ?_
            obtain ⟨h6, H⟩ := sC H
            refine ak_idx hT [0, 1, 6, 7, 8, 26, 32] (i := x2_8) (n := ((a0.getD x2_6.toNat []).length : Int)) h6.1 h6.2 (k' := (K32 11101001001010010010 7)) (st' := ⟨39, [(0, .d (eL57 t0 a0)), (1, .i x2_1), (6, .i x2_6), (7, .i v1), (8, .i x2_8), (26, .own 0 1 0 x2_r0.length), (32, .d (eP37 true (a0.getD x2_6.toNat []) x2_8.toNat 0))], [eR37 x2_r0]⟩) (by kernel_rfl) ?_
            refine goK hT 2 (K32 11101001001010010010 9) ⟨39, [(0, .d (eL57 t0 a0)), (1, .i x2_1), (6, .i x2_6), (7, .i v1), (8, .i x2_8), (26, .own 0 1 0 x2_r0.length), (34, .own 1 1 0 1)], [eR37 x2_r0, .flat false 1 37 1 (fun j => [[.n .u32 ((a0.getD x2_6.toNat []).getD x2_8.toNat 0)]].getD j [])]⟩ ?_
            obtain ⟨h7, H⟩ := sC H
            refine ak_append1 (id := 0) (kk := 1) (by' := 4) (t := 57) (e := 37) (z := [.int .u32 0]) (dst := some 35) (id2 := 1) (e2 := 37) (fz := false) (k' := (K32 11101001001010010010 10)) hT (eI .u32) 0 x2_r0 ((a0.getD x2_6.toNat []).getD x2_8.toNat 0) [0, 1, 6, 7, 8, 35] (by kernel_rfl) (by kernel_rfl) (by kernel_rfl) (by kernel_rfl) (by kernel_rfl) (by kernel_rfl) (by kernel_rfl) h7 (by omega) (st' := ⟨39, [(0, .d (eL57 t0 a0)), (1, .i x2_1), (6, .i x2_6), (7, .i v1), (8, .i x2_8), (35, .own 2 1 0 ((x2_r0 ++ [(a0.getD x2_6.toNat []).getD x2_8.toNat 0]).length))], [.gone, .flat false 1 37 1 (fun j => [[.n .u32 ((a0.getD x2_6.toNat []).getD x2_8.toNat 0)]].getD j []), eR37 (x2_r0 ++ [(a0.getD x2_6.toNat []).getD x2_8.toNat 0])]⟩) (by kernel_rfl) ?_
            refine goK hT 3 (K32 1110100100101001 1) ⟨39, [(0, .d (eL57 t0 a0)), (1, .i x2_1), (5, .own 2 1 0 ((x2_r0 ++ [(a0.getD x2_6.toNat []).getD x2_8.toNat 0]).length)), (6, .i x2_6), (7, .i v1), (8, .i x2_8)], [.gone, .flat false 1 37 1 (fun j => [[.n .u32 ((a0.getD x2_6.toNat []).getD x2_8.toNat 0)]].getD j []), eR37 (x2_r0 ++ [(a0.getD x2_6.toNat []).getD x2_8.toNat 0])]⟩ ?_
            refine cutK [2] ⟨39, [(0, .d (eL57 t0 a0)), (1, .i x2_1), (5, .own 0 1 0 (x2_r0 ++ [(a0.getD x2_6.toNat []).getD x2_8.toNat 0]).length), (6, .i x2_6), (7, .i v1), (8, .i x2_8)], [eR37 (x2_r0 ++ [(a0.getD x2_6.toNat []).getD x2_8.toNat 0])]⟩ h0 ?_
            exact Jj1 (x2_r0 ++ [(a0.getD x2_6.toNat []).getD x2_8.toNat 0]) H
        · replace H := sF c3 H
          rw [decide_eq_false c3]
          refine goK hT 14 (K32 111010 0) ⟨39, [(0, .d (eL57 t0 a0)), (1, .i (IntKind.wrap .i64 (Int.tdiv x2_1 16))), (5, .own 0 1 0 x2_r0.length), (6, .i (IntKind.wrap .i64 (x2_6 + 1)))], [eR37 x2_r0]⟩ ?_
          refine cutK [0] ⟨39, [(0, .d (eL57 t0 a0)), (1, .i (IntKind.wrap .i64 (Int.tdiv x2_1 16))), (5, .own 0 1 0 x2_r0.length), (6, .i (IntKind.wrap .i64 (x2_6 + 1)))], [eR37 x2_r0]⟩ h0 ?_
          exact ih.1 (IntKind.wrap .i64 (Int.tdiv x2_1 16)) (IntKind.wrap .i64 (x2_6 + 1)) x2_r0 H
  refine cutK [0] ⟨39, [(0, .d (eL57 t0 a0)), (1, .i a1), (5, .own 0 1 0 ([] : List Int).length), (6, .i 0)], [eR37 ([] : List Int)]⟩ h0 ?_
  obtain ⟨n, H⟩ := loopC H
  exact (L n).1 a1 0 ([] : List Int) H


theorem spliceref20_Verify.says {t3 : Bool} (a0 : Int) (a1 : Int) (a2 : spliceref05_Cell) (a3 : List Int) {r : Bool} (H : spliceref20_Verify a0 a1 a2 a3 = some r) : Says Try.prog 33 [] [.n .u32 a0, .i a1, .d (eG51 a2), .d (eL37 t3 a3)] [] (.b r) := by
  refine says_of Try.func33 rfl (nt := 61) rfl (Nat.le_of_ble_eq_true rfl) fun X hP h0 hX => ?_
  have hT : TabOk X.P T := hP ▸ tok
  have hf : X.P.funcs[33]? = some Try.f33 := hP ▸ Try.func33
  have Jj1 : ∀ (y1_24 : Bool), (spliceref20_Verify.j1 a0 a1 a2 a3 y1_24) = some r → AK X 33 ((K33 110 1)) (Back X [] (.b r)) ⟨61, [(0, .n .u32 a0), (1, .i a1), (3, .d (eL37 t3 a3)), (6, .ptr 0 0 0 0), (24, .b y1_24)], [.box 51 (eC51 a2)]⟩ := by
    intro y1_24 H
    by_cases c3 : y1_24 = true
    · replace H := iT c3 H
      rw [c3]
      refine goK hT 5 (K33 11010 1) ⟨61, [(8, .b false)], [.box 51 (eC51 a2)]⟩ ?_
      obtain rfl := retC H
      exact ak_ret hf hX (av := .b false) (by kernel_rfl) [] (sel_of_eq (by kernel_rfl)) (by decide) (by rw [h0]; rfl) (by kernel_rfl) (fun _ h => all_nil h) (.d (.v _))
    · replace H := iF c3 H
      rw [boF c3]
      refine goK hT 2 (K33 11 1) ⟨61, [(0, .n .u32 a0), (1, .i a1), (3, .d (eL37 t3 a3)), (6, .ptr 0 0 0 0)], [.box 51 (eC51 a2)]⟩ ?_
      refine goK hT 3 (K33 1110 1) ⟨61, [(0, .n .u32 a0), (1, .i a1), (3, .d (eL37 t3 a3)), (25, .d (eG51 a2))], [.box 51 (eC51 a2)]⟩ ?_
      obtain ⟨v1, h4, H⟩ := ibC H
      refine ak_callP (avs := [.d (eG51 a2)]) (dst := some 26) (k' := (K33 1110 2)) [0, 1, 3, 26] [] hP enters_20 (spliceref20_Number.says a2 h4) (by kernel_rfl) (hands_none _) (.cons (pass_d _) .nil) (st' := ⟨61, [(0, .n .u32 a0), (1, .i a1), (3, .d (eL37 t3 a3)), (26, .n .u32 v1)], [.box 51 (eC51 a2)]⟩) (by kernel_rfl) ?_
      refine goK hT 9 (K33 1111010 0) ⟨61, [(0, .n .u32 a0), (1, .i a1), (3, .d (eL37 t3 a3)), (9, .n .u32 v1), (10, .i 0)], [.box 51 (eC51 a2)]⟩ ?_
      have L : ∀ n, (∀ (x1_1 : Int) (x1_9 : Int) (x1_10 : Int), iter (spliceref20_Verify.step a0 a3) n (.l1 x1_1 x1_9 x1_10) = some r → AK X 33 ((K33 1111010 0)) (Back X [] (.b r)) ⟨61, [(0, .n .u32 a0), (1, .i x1_1), (3, .d (eL37 t3 a3)), (9, .n .u32 x1_9), (10, .i x1_10)], []⟩) ∧ (∀ (x2_1 : Int) (x2_9 : Int) (x2_10 : Int) (x2_12 : Int) (x2_13 : Int) (x2_r0 : List Int), iter (spliceref20_Verify.step a0 a3) n (.l2 x2_1 x2_9 x2_10 x2_12 x2_13 x2_r0) = some r → AK X 33 ((K33 1111010010011010 0)) (Back X [] (.b r)) ⟨61, [(0, .n .u32 a0), (1, .i x2_1), (3, .d (eL37 t3 a3)), (9, .n .u32 x2_9), (10, .i x2_10), (11, .own 0 1 0 x2_r0.length), (12, .i x2_12), (13, .i x2_13)], [eR37 x2_r0]⟩) := by
        intro n
        induction n with
        | zero => exact ⟨fun _ _ _ H => iter0 H, fun _ _ _ _ _ _ H => iter0 H⟩
        | succ n ih =>
          refine ⟨?_, ?_⟩
          · intro x1_1 x1_9 x1_10 H
            refine goK hT 6 (K33 111101000 1) ⟨61, [(0, .n .u32 a0), (1, .i x1_1), (3, .d (eL37 t3 a3)), (9, .n .u32 x1_9), (10, .i x1_10), (28, .b (decide (x1_10 < 3)))], []⟩ ?_
            by_cases c5 : x1_10 < 3
            · replace H := sT c5 H
              rw [decide_eq_true c5]
              refine goK hT 2 (K33 11110100 1) ⟨61, [(0, .n .u32 a0), (1, .i x1_1), (3, .d (eL37 t3 a3)), (9, .n .u32 x1_9), (10, .i x1_10)], []⟩ ?_
              refine goK hT 19 (K33 1111010010011010 0) ⟨61, [(0, .n .u32 a0), (1, .i x1_1), (3, .d (eL37 t3 a3)), (9, .n .u32 x1_9), (10, .i x1_10), (11, .ns), (12, .i (IntKind.wrap .i64 (15 * x1_10))), (13, .i 0)], []⟩ ?_
              refine ak_nilS [0, 1, 3, 9, 10, 11, 12, 13] 11 1 37 (vec (eI .u32) 0 []) (st' := ⟨61, [(0, .n .u32 a0), (1, .i x1_1), (3, .d (eL37 t3 a3)), (9, .n .u32 x1_9), (10, .i x1_10), (11, .own 0 1 0 0), (12, .i (IntKind.wrap .i64 (15 * x1_10))), (13, .i 0)], [eR37 ([] : List Int)]⟩) (by kernel_rfl) (by kernel_rfl) ?_
              refine cutK [0] ⟨61, [(0, .n .u32 a0), (1, .i x1_1), (3, .d (eL37 t3 a3)), (9, .n .u32 x1_9), (10, .i x1_10), (11, .own 0 1 0 ([] : List Int).length), (12, .i (IntKind.wrap .i64 (15 * x1_10))), (13, .i 0)], [eR37 ([] : List Int)]⟩ h0 ?_
              exact ih.2 x1_1 x1_9 x1_10 (IntKind.wrap .i64 (15 * x1_10)) 0 ([] : List Int) H
            · replace H := sF c5 H
              rw [decide_eq_false c5]
              refine goK hT 9 (K33 11111 1) ⟨61, [(8, .b (x1_9 == a0))], []⟩ ?_
              obtain rfl := retC H
              exact ak_ret hf hX (av := .b (x1_9 == a0)) (by kernel_rfl) [] (sel_of_eq (by kernel_rfl)) (by decide) (by rw [h0]; rfl) (by kernel_rfl) (fun _ h => all_nil h) (.d (.v _))
          · intro x2_1 x2_9 x2_10 x2_12 x2_13 x2_r0 H
            refine goK hT 6 (K33 111101001001101000 1) ⟨61, [(0, .n .u32 a0), (1, .i x2_1), (3, .d (eL37 t3 a3)), (9, .n .u32 x2_9), (10, .i x2_10), (11, .own 0 1 0 x2_r0.length), (12, .i x2_12), (13, .i x2_13), (34, .b (decide (x2_13 < 16)))], [eR37 x2_r0]⟩ ?_
            by_cases c6 : x2_13 < 16
            · replace H := sT c6 H
              have Jj2 : ∀ (y2_12 : Int) (y2_r0 : List Int), stk (spliceref20_Verify.j2 x2_1 x2_9 x2_10 x2_13 y2_12 y2_r0) (iter (spliceref20_Verify.step a0 a3) n) = some r → AK X 33 ((K33 111101001001101001 1)) (Back X [] (.b r)) ⟨61, [(0, .n .u32 a0), (1, .i x2_1), (3, .d (eL37 t3 a3)), (9, .n .u32 x2_9), (10, .i x2_10), (11, .own 0 1 0 y2_r0.length), (12, .i y2_12), (13, .i x2_13)], [eR37 y2_r0]⟩ := by
                intro y2_12 y2_r0 H
                refine goK hT 6 (K33 1111010010011010 0) ⟨61, [(0, .n .u32 a0), (1, .i x2_1), (3, .d (eL37 t3 a3)), (9, .n .u32 x2_9), (10, .i x2_10), (11, .own 0 1 0 y2_r0.length), (12, .i y2_12), (13, .i (IntKind.wrap .i64 (x2_13 + 1)))], [eR37 y2_r0]⟩ ?_
                refine cutK [0] ⟨61, [(0, .n .u32 a0), (1, .i x2_1), (3, .d (eL37 t3 a3)), (9, .n .u32 x2_9), (10, .i x2_10), (11, .own 0 1 0 y2_r0.length), (12, .i y2_12), (13, .i (IntKind.wrap .i64 (x2_13 + 1)))], [eR37 y2_r0]⟩ h0 ?_
                exact ih.2 x2_1 x2_9 x2_10 y2_12 (IntKind.wrap .i64 (x2_13 + 1)) y2_r0 H
              rw [decide_eq_true c6]
              refine goK hT 2 (K33 11110100100110100 1) ⟨61, [(0, .n .u32 a0), (1, .i x2_1), (3, .d (eL37 t3 a3)), (9, .n .u32 x2_9), (10, .i x2_10), (11, .own 0 1 0 x2_r0.length), (12, .i x2_12), (13, .i x2_13)], [eR37 x2_r0]⟩ ?_
              refine goK hT 9 (K33 11110100100110100100 1) ⟨61, [(0, .n .u32 a0), (1, .i x2_1), (3, .d (eL37 t3 a3)), (9, .n .u32 x2_9), (10, .i x2_10), (11, .own 0 1 0 x2_r0.length), (12, .i x2_12), (13, .i x2_13), (40, .b (x2_13 == (Int.tmod x2_1 16)))], [eR37 x2_r0]⟩ ?_
              by_cases c8 : x2_13 = (Int.tmod x2_1 16)
              · replace H := sT c8 H
                rw [eqT c8]
                refine goK hT 5 (K33 1111010010011010010010 3) ⟨61, [(0, .n .u32 a0), (1, .i x2_1), (3, .d (eL37 t3 a3)), (9, .n .u32 x2_9), (10, .i x2_10), (12, .i x2_12), (13, .i x2_13), (41, .own 0 1 0 x2_r0.length), (43, .own 1 1 0 1)], [eR37 x2_r0, .flat false 1 37 1 (fun j => [[.n .u32 x2_9]].getD j [])]⟩ ?_
                obtain ⟨h9, H⟩ := sC H
                refine ak_append1 (id := 0) (kk := 1) (by' := 4) (t := 57) (e := 37) (z := [.int .u32 0]) (dst := some 44) (id2 := 1) (e2 := 37) (fz := false) (k' := (K33 1111010010011010010010 4)) hT (eI .u32) 0 x2_r0 x2_9 [0, 1, 3, 9, 10, 12, 13, 44] (by kernel_rfl) (by kernel_rfl) (by kernel_rfl) (by kernel_rfl) (by kernel_rfl) (by kernel_rfl) (by kernel_rfl) h9 (by omega) (st' := ⟨61, [(0, .n .u32 a0), (1, .i x2_1), (3, .d (eL37 t3 a3)), (9, .n .u32 x2_9), (10, .i x2_10), (12, .i x2_12), (13, .i x2_13), (44, .own 2 1 0 ((x2_r0 ++ [x2_9]).length))], [.gone, .flat false 1 37 1 (fun j => [[.n .u32 x2_9]].getD j []), eR37 (x2_r0 ++ [x2_9])]⟩) (by kernel_rfl) ?_
                refine goK hT 3 (K33 111101001001101001 1) ⟨61, [(0, .n .u32 a0), (1, .i x2_1), (3, .d (eL37 t3 a3)), (9, .n .u32 x2_9), (10, .i x2_10), (11, .own 2 1 0 ((x2_r0 ++ [x2_9]).length)), (12, .i x2_12), (13, .i x2_13)], [.gone, .flat false 1 37 1 (fun j => [[.n .u32 x2_9]].getD j []), eR37 (x2_r0 ++ [x2_9])]⟩ ?_
                refine cutK [2] ⟨61, [(0, .n .u32 a0), (1, .i x2_1), (3, .d (eL37 t3 a3)), (9, .n .u32 x2_9), (10, .i x2_10), (11, .own 0 1 0 (x2_r0 ++ [x2_9]).length), (12, .i x2_12), (13, .i x2_13)], [eR37 (x2_r0 ++ [x2_9])]⟩ h0 ?_
                exact Jj2 x2_12 (x2_r0 ++ [x2_9]) H
              · replace H := sF c8 H
                rw [eqF c8]
                refine goK hT 6 (K33 11110100100110100100110 3) ⟨61, [(0, .n .u32 a0), (1, .i x2_1), (3, .d (eL37 t3 a3)), (9, .n .u32 x2_9), (10, .i x2_10), (12, .i x2_12), (13, .i x2_13), (45, .own 0 1 0 x2_r0.length), (46, .d (eL37 t3 a3)), (47, .i x2_12)], [eR37 x2_r0]⟩ ?_
                obtain ⟨h10, H⟩ := sC H
                refine ak_idx hT [0, 1, 3, 9, 10, 12, 13, 45, 48] (i := x2_12) (n := (a3.length : Int)) h10.1 h10.2 (k' := (K33 11110100100110100100110 4)) (st' := ⟨61, [(0, .n .u32 a0), (1, .i x2_1), (3, .d (eL37 t3 a3)), (9, .n .u32 x2_9), (10, .i x2_10), (12, .i x2_12), (13, .i x2_13), (45, .own 0 1 0 x2_r0.length), (48, .d (eP37 t3 a3 x2_12.toNat 0))], [eR37 x2_r0]⟩) (by kernel_rfl) ?_
                refine goK hT 2 (K33 11110100100110100100110 6) ⟨61, [(0, .n .u32 a0), (1, .i x2_1), (3, .d (eL37 t3 a3)), (9, .n .u32 x2_9), (10, .i x2_10), (12, .i x2_12), (13, .i x2_13), (45, .own 0 1 0 x2_r0.length), (50, .own 1 1 0 1)], [eR37 x2_r0, .flat false 1 37 1 (fun j => [[.n .u32 (a3.getD x2_12.toNat 0)]].getD j [])]⟩ ?_
                obtain ⟨h11, H⟩ := sC H
                refine ak_append1 (id := 0) (kk := 1) (by' := 4) (t := 57) (e := 37) (z := [.int .u32 0]) (dst := some 51) (id2 := 1) (e2 := 37) (fz := false) (k' := (K33 11110100100110100100110 7)) hT (eI .u32) 0 x2_r0 (a3.getD x2_12.toNat 0) [0, 1, 3, 9, 10, 12, 13, 51] (by kernel_rfl) (by kernel_rfl) (by kernel_rfl) (by kernel_rfl) (by kernel_rfl) (by kernel_rfl) (by kernel_rfl) h11 (by omega) (st' := ⟨61, [(0, .n .u32 a0), (1, .i x2_1), (3, .d (eL37 t3 a3)), (9, .n .u32 x2_9), (10, .i x2_10), (12, .i x2_12), (13, .i x2_13), (51, .own 2 1 0 ((x2_r0 ++ [a3.getD x2_12.toNat 0]).length))], [.gone, .flat false 1 37 1 (fun j => [[.n .u32 (a3.getD x2_12.toNat 0)]].getD j []), eR37 (x2_r0 ++ [a3.getD x2_12.toNat 0])]⟩) (by kernel_rfl) ?_
                refine goK hT 8 (K33 111101001001101001 1) ⟨61, [(0, .n .u32 a0), (1, .i x2_1), (3, .d (eL37 t3 a3)), (9, .n .u32 x2_9), (10, .i x2_10), (11, .own 2 1 0 ((x2_r0 ++ [a3.getD x2_12.toNat 0]).length)), (12, .i (IntKind.wrap .i64 (x2_12 + 1))), (13, .i x2_13)], [.gone, .flat false 1 37 1 (fun j => [[.n .u32 (a3.getD x2_12.toNat 0)]].getD j []), eR37 (x2_r0 ++ [a3.getD x2_12.toNat 0])]⟩ ?_
                refine cutK [2] ⟨61, [(0, .n .u32 a0), (1, .i x2_1), (3, .d (eL37 t3 a3)), (9, .n .u32 x2_9), (10, .i x2_10), (11, .own 0 1 0 (x2_r0 ++ [a3.getD x2_12.toNat 0]).length), (12, .i (IntKind.wrap .i64 (x2_12 + 1))), (13, .i x2_13)], [eR37 (x2_r0 ++ [a3.getD x2_12.toNat 0])]⟩ h0 ?_
                exact Jj2 (IntKind.wrap .i64 (x2_12 + 1)) (x2_r0 ++ [a3.getD x2_12.toNat 0]) H
            · replace H := sF c6 H
              rw [decide_eq_false c6]
              refine goK hT 5 (K33 111101001001110 1) ⟨61, [(0, .n .u32 a0), (1, .i x2_1), (3, .d (eL37 t3 a3)), (10, .i x2_10), (54, .own 0 1 0 x2_r0.length)], [eR37 x2_r0]⟩ ?_
              obtain ⟨v2, h7, H⟩ := sbC H
              refine ak_callP (avs := [.own 0 1 0 x2_r0.length]) (dst := some 55) (k' := (K33 111101001001110 2)) [0, 1, 3, 10, 55] [] hP enters_47 (spliceref20_Over.says (t0 := false) x2_r0 h7) (by kernel_rfl) (hands_none _) (.cons (.lend (ty := 37) (by kernel_rfl) rfl) .nil) (st' := ⟨61, [(0, .n .u32 a0), (1, .i x2_1), (3, .d (eL37 t3 a3)), (10, .i x2_10), (55, .n .u32 v2)], [eR37 x2_r0]⟩) (by kernel_rfl) ?_
              refine goK hT 14 (K33 1111010 0) ⟨61, [(0, .n .u32 a0), (1, .i (IntKind.wrap .i64 (Int.tdiv x2_1 16))), (3, .d (eL37 t3 a3)), (9, .n .u32 v2), (10, .i (IntKind.wrap .i64 (x2_10 + 1)))], [eR37 x2_r0]⟩ ?_
              refine cutK [] ⟨61, [(0, .n .u32 a0), (1, .i (IntKind.wrap .i64 (Int.tdiv x2_1 16))), (3, .d (eL37 t3 a3)), (9, .n .u32 v2), (10, .i (IntKind.wrap .i64 (x2_10 + 1)))], []⟩ h0 ?_
              exact ih.1 (IntKind.wrap .i64 (Int.tdiv x2_1 16)) v2 (IntKind.wrap .i64 (x2_10 + 1)) H
      refine cutK [] ⟨61, [(0, .n .u32 a0), (1, .i a1), (3, .d (eL37 t3 a3)), (9, .n .u32 v1), (10, .i 0)], []⟩ h0 ?_
      obtain ⟨n, H⟩ := loopC H
      exact (L n).1 a1 v1 0 H
  refine goK hT 12 (K33 1100 4) ⟨61, [(0, .n .u32 a0), (1, .i a1), (3, .d (eL37 t3 a3)), (6, .ptr 0 0 0 0), (17, .b ((a3.length : Int) != 45))], [.box 51 (eC51 a2)]⟩ ?_
  by_cases c1 : (a3.length : Int) = 45
  · replace H := iT c1 H
    rw [neF c1]
    refine goK hT 4 (K33 1100 8) ⟨61, [(0, .n .u32 a0), (1, .i a1), (3, .d (eL37 t3 a3)), (6, .ptr 0 0 0 0), (21, .b (decide (a1 < 0)))], [.box 51 (eC51 a2)]⟩ ?_
    by_cases c2 : a1 < 0
    · replace H := iT c2 H
      rw [decide_eq_true c2]
      refine goK hT 4 (K33 110 1) ⟨61, [(0, .n .u32 a0), (1, .i a1), (3, .d (eL37 t3 a3)), (6, .ptr 0 0 0 0), (24, .b true)], [.box 51 (eC51 a2)]⟩ ?_
      refine cutK [0] ⟨61, [(0, .n .u32 a0), (1, .i a1), (3, .d (eL37 t3 a3)), (6, .ptr 0 0 0 0), (24, .b true)], [.box 51 (eC51 a2)]⟩ h0 ?_
      exact Jj1 true H
    · replace H := iF c2 H
      rw [decide_eq_false c2]
      refine goK hT 4 (K33 110 1) ⟨61, [(0, .n .u32 a0), (1, .i a1), (3, .d (eL37 t3 a3)), (6, .ptr 0 0 0 0), (24, .b (decide (a1 ≥ 4096)))], [.box 51 (eC51 a2)]⟩ ?_
      refine cutK [0] ⟨61, [(0, .n .u32 a0), (1, .i a1), (3, .d (eL37 t3 a3)), (6, .ptr 0 0 0 0), (24, .b (decide (a1 ≥ 4096)))], [.box 51 (eC51 a2)]⟩ h0 ?_
      exact Jj1 (decide (a1 ≥ 4096)) H
  · replace H := iF c1 H
    rw [neT c1]
    refine goK hT 8 (K33 110 1) ⟨61, [(0, .n .u32 a0), (1, .i a1), (3, .d (eL37 t3 a3)), (6, .ptr 0 0 0 0), (24, .b true)], [.box 51 (eC51 a2)]⟩ ?_
    refine cutK [0] ⟨61, [(0, .n .u32 a0), (1, .i a1), (3, .d (eL37 t3 a3)), (6, .ptr 0 0 0 0), (24, .b true)], [.box 51 (eC51 a2)]⟩ h0 ?_
    exact Jj1 true H


theorem splicelaw20_MerkleProves.says {t0 : Bool} {t2 : Bool} (a0 : List api_Pair) (a1 : Int) (a2 : List Int) {r : Bool} (H : splicelaw20_MerkleProves a0 a1 a2 = some r) : Says Try.prog 9 [] [.d (eL42 t0 a0), .i a1, .d (eL37 t2 a2)] [] (.b r) := by
  refine says_of Try.func9 rfl (nt := 122) rfl (Nat.le_of_ble_eq_true rfl) fun X hP h0 hX => ?_
  have hT : TabOk X.P T := hP ▸ tok
  have hf : X.P.funcs[9]? = some Try.f9 := hP ▸ Try.func9
  refine goK hT 7 (K9 110 1) ⟨122, [(0, .d (eL42 t0 a0)), (1, .i a1), (2, .d (eL37 t2 a2)), (15, .d (eL42 t0 a0))], []⟩ ?_
  obtain ⟨v1, h1, H⟩ := ibC H
  cases q2 : v1.1 with
  | none =>
      rw [q2] at H
      replace H := ioptN H
      have Jj1 : (splicelaw20_MerkleProves.j1) = some r → AK X 9 ((K9 1110 1)) (Back X [] (.b r)) ⟨122, [(0, .d (eL42 t0 a0)), (1, .i a1), (2, .d (eL37 t2 a2)), (7, .d .np), (34, .b true)], []⟩ := by
        intro H
        refine goK hT 3 (K9 1110100 0) ⟨122, [], []⟩ ?_
        obtain ⟨v3, h5, H⟩ := ibC H
        refine ak_callP (avs := []) (dst := some 35) (k' := (K9 1110100 1)) [35] [] hP enters_12 (splicelaw20_awake.says h5) (by kernel_rfl) (hands_none _) .nil (st' := ⟨122, [(35, .b v3)], []⟩) (by kernel_rfl) ?_
        refine goK hT 2 (K9 111010 1) ⟨122, [(6, .b v3)], []⟩ ?_
        obtain rfl := retC H
        exact ak_ret hf hX (av := .b v3) (by kernel_rfl) [] (sel_of_eq (by kernel_rfl)) (by decide) (by rw [h0]; rfl) (by kernel_rfl) (fun _ h => all_nil h) (.d (.v _))
      have Sq2 := merkle_New.says (t0 := t0) a0 h1
      rw [q2] at Sq2
      refine ak_callP (avs := [.d (eL42 t0 a0)]) (dst := some 16) (k' := (K9 110 2)) [0, 1, 2, 16] [] hP enters_10 (Sq2) (by kernel_rfl) (hands_none _) (.cons (pass_d _) .nil) (st' := ⟨122, [(0, .d (eL42 t0 a0)), (1, .i a1), (2, .d (eL37 t2 a2)), (16, .tup [.d .np, .i v1.2])], []⟩) (by kernel_rfl) ?_
      refine goK hT 10 (K9 11100 1) ⟨122, [(0, .d (eL42 t0 a0)), (1, .i a1), (2, .d (eL37 t2 a2)), (7, .d .np), (8, .i v1.2), (19, .d (eL42 t0 a0))], []⟩ ?_
      refine ak_callP (avs := [.d (eL42 t0 a0)]) (dst := some 20) (k' := (K9 11100 2)) [0, 1, 2, 7, 8, 20] [] hP enters_11 (splicelaw20_few.says (t0 := t0) a0) (by kernel_rfl) (hands_none _) (.cons (pass_d _) .nil) (st' := ⟨122, [(0, .d (eL42 t0 a0)), (1, .i a1), (2, .d (eL37 t2 a2)), (7, .d .np), (8, .i v1.2), (20, .b (splicelaw20_few a0))], []⟩) (by kernel_rfl) ?_
      refine goK hT 2 (K9 11100 4) ⟨122, [(0, .d (eL42 t0 a0)), (1, .i a1), (2, .d (eL37 t2 a2)), (7, .d .np), (8, .i v1.2), (22, .b (!(splicelaw20_few a0)))], []⟩ ?_
      by_cases c3 : (splicelaw20_few a0) = true
      · replace H := iT c3 H
        rw [c3]
        refine goK hT 4 (K9 11100 8) ⟨122, [(0, .d (eL42 t0 a0)), (1, .i a1), (2, .d (eL37 t2 a2)), (7, .d .np), (26, .b (v1.2 != 0))], []⟩ ?_
        by_cases c4 : v1.2 = 0
        · replace H := iT c4 H
          rw [neF c4]
          refine goK hT 9 (K9 1110 1) ⟨122, [(0, .d (eL42 t0 a0)), (1, .i a1), (2, .d (eL37 t2 a2)), (7, .d .np), (34, .b true)], []⟩ ?_
          refine cutK [] ⟨122, [(0, .d (eL42 t0 a0)), (1, .i a1), (2, .d (eL37 t2 a2)), (7, .d .np), (34, .b true)], []⟩ h0 ?_
          exact Jj1 H
        · replace H := iF c4 H
          rw [neT c4]
          refine goK hT 9 (K9 1110 1) ⟨122, [(0, .d (eL42 t0 a0)), (1, .i a1), (2, .d (eL37 t2 a2)), (7, .d .np), (34, .b true)], []⟩ ?_
          refine cutK [] ⟨122, [(0, .d (eL42 t0 a0)), (1, .i a1), (2, .d (eL37 t2 a2)), (7, .d .np), (34, .b true)], []⟩ h0 ?_
          exact Jj1 H
      · replace H := iF c3 H
        rw [boF c3]
        refine goK hT 13 (K9 1110 1) ⟨122, [(0, .d (eL42 t0 a0)), (1, .i a1), (2, .d (eL37 t2 a2)), (7, .d .np), (34, .b true)], []⟩ ?_
        refine cutK [] ⟨122, [(0, .d (eL42 t0 a0)), (1, .i a1), (2, .d (eL37 t2 a2)), (7, .d .np), (34, .b true)], []⟩ h0 ?_
        exact Jj1 H
  | some v2 =>
      rw [q2] at H
      replace H := ioptS H
      have Jj2 : ∀ (y2_34 : Bool), (splicelaw20_MerkleProves.j2 a0 a1 a2 v2 y2_34) = some r → AK X 9 ((K9 1110 1)) (Back X [] (.b r)) ⟨122, [(0, .d (eL42 t0 a0)), (1, .i a1), (2, .d (eL37 t2 a2)), (7, .ptr 0 0 0 0), (34, .b y2_34)], [eB91 v2]⟩ := by
        intro y2_34 H
        by_cases c8 : y2_34 = true
        · replace H := iT c8 H
          rw [c8]
          refine goK hT 3 (K9 1110100 0) ⟨122, [], [eB91 v2]⟩ ?_
          obtain ⟨v4, h9, H⟩ := ibC H
          refine ak_callP (avs := []) (dst := some 35) (k' := (K9 1110100 1)) [35] [] hP enters_12 (splicelaw20_awake.says h9) (by kernel_rfl) (hands_none _) .nil (st' := ⟨122, [(35, .b v4)], [eB91 v2]⟩) (by kernel_rfl) ?_
          refine goK hT 2 (K9 111010 1) ⟨122, [(6, .b v4)], [eB91 v2]⟩ ?_
          obtain rfl := retC H
          exact ak_ret hf hX (av := .b v4) (by kernel_rfl) [] (sel_of_eq (by kernel_rfl)) (by decide) (by rw [h0]; rfl) (by kernel_rfl) (fun _ h => all_nil h) (.d (.v _))
        · replace H := iF c8 H
          rw [boF c8]
          refine goK hT 2 (K9 111 1) ⟨122, [(0, .d (eL42 t0 a0)), (1, .i a1), (2, .d (eL37 t2 a2)), (7, .ptr 0 0 0 0)], [eB91 v2]⟩ ?_
          refine goK hT 4 (K9 11110 2) ⟨122, [(0, .d (eL42 t0 a0)), (1, .i a1), (2, .d (eL37 t2 a2)), (7, .ptr 0 0 0 0), (36, .ptr 0 0 0 0), (37, .i a1)], [eB91 v2]⟩ ?_
          obtain ⟨v5, h10, H⟩ := ibC H
          refine ak_callP (avs := [.ptr 0 0 0 0, .i a1]) (dst := some 38) (k' := (K9 11110 3)) [0, 1, 2, 7, 38] [0] hP enters_26 (merkle_Tree_Get.says v2 a1 h10) (by kernel_rfl) (hands_one rfl rfl) (.cons (.same (.ptr 0 0 0 0)) (.cons (pass_d _) .nil)) (st' := ⟨122, [(0, .d (eL42 t0 a0)), (1, .i a1), (2, .d (eL37 t2 a2)), (7, .ptr 0 0 0 0), (38, .d (eG48 v5))], [eB91 v2]⟩) (by kernel_rfl) ?_
          refine goK hT 7 (K9 111110 2) ⟨122, [(0, .d (eL42 t0 a0)), (1, .i a1), (2, .d (eL37 t2 a2)), (7, .ptr 0 0 0 0), (9, .ptr 1 0 0 0), (40, .ptr 0 0 0 0), (41, .i a1)], [eB91 v2, .box 48 (eC48 v5)]⟩ ?_
          obtain ⟨v6, h11, H⟩ := ibC H
          have Jj3 : ∀ (y3_50 : Bool), (splicelaw20_MerkleProves.j3 a0 a1 a2 v2 v5 v6 y3_50) = some r → AK X 9 ((K9 1111110 1)) (Back X [] (.b r)) ⟨122, [(0, .d (eL42 t0 a0)), (1, .i a1), (2, .d (eL37 t2 a2)), (7, .ptr 0 0 0 0), (9, .ptr 1 0 0 0), (10, .own 2 1 0 v6.1.length), (11, .i v6.2), (50, .b y3_50)], [eB91 v2, .box 48 (eC48 v5), eR37 v6.1]⟩ := by
            intro y3_50 H
            by_cases c13 : y3_50 = true
            · replace H := iT c13 H
              rw [c13]
              refine goK hT 2 (K9 111111010 0) ⟨122, [(1, .i a1), (2, .d (eL37 t2 a2)), (7, .ptr 0 0 0 0), (9, .ptr 1 0 0 0), (10, .own 2 1 0 v6.1.length), (11, .i v6.2)], [eB91 v2, .box 48 (eC48 v5), eR37 v6.1]⟩ ?_
              obtain ⟨v7, h14, H⟩ := ibC H
              have Jj4 : ∀ (y4_6 : Bool), (splicelaw20_MerkleProves.j4 y4_6) = some r → AK X 9 ((K9 111111010 1)) (Back X [] (.b r)) ⟨122, [(6, .b y4_6)], []⟩ := by
                intro y4_6 H
                obtain rfl := retC H
                exact ak_ret hf hX (av := .b y4_6) (by kernel_rfl) [] (sel_of_eq (by kernel_rfl)) (by decide) (by rw [h0]; rfl) (by kernel_rfl) (fun _ h => all_nil h) (.d (.v _))
              by_cases c15 : v7 = true
              · replace H := iT c15 H
                by_cases c16 : (v6.1.length : Int) = 0
                · replace H := iT c16 H
                  by_cases c17 : v6.2 = 1
                  · replace H := iT c17 H
                    refine ak_drawAtE (nt := 122) (hP ▸ mixed) 16 [12] [1, 2, 7, 9, 10, 11] [(1, .i a1), (2, .d (eL37 t2 a2)), (7, .ptr 0 0 0 0), (9, .ptr 1 0 0 0), (10, .own 2 1 0 v6.1.length), (11, .i v6.2)] [some (.b true), some (.b true), some (.own 2 1 0 v6.1.length), some (.i (v6.1.length : Int)), some (.b true), some (.b true), some (.b true), some (.i v6.2), some (.b true), some (.b true), some (.b true), some (.ptr 0 0 0 0), some (.n .u32 (merkle_Tree_Root v2)), some (.i a1), some (.d (eG48 v5)), some (.d (eL37 t2 a2))] [[eB91 v2, .box 48 (eC48 v5), eR37 v6.1], [eB91 v2, .box 48 (eC48 v5), eR37 v6.1]] (by kernel_rfl) (by kernel_rfl) (by kernel_rfl) (by kernel_rfl) ⟨(opGE (opGE (opGE (opXE (opGE (opGE (opGE (opVE (opGE (opGE (opGE (opVE (opGE (opGE (opGE (opES opE0 (fun R rest h => ak_callD (avs := []) (dst := some 51) hP enters_12 (by have q := splicelaw20_awake.says h14; rw [c15] at q; exact q) (by kernel_rfl) .nil (by kernel_rfl) h)) hT) hT) hT) hT 55 (.b ((v6.1.length : Int) == 0)) (.b true) (by rw [eqT c16] <;> rfl)) hT) hT) hT) hT 59 (.b (v6.2 == 1)) (.b true) (by rw [eqT c17] <;> rfl)) hT) hT) hT)) hT) hT) hT), (fun R rest h => ak_callDR (avs := [.ptr 0 0 0 0]) (dst := some 63) [0] hP enters_18 (merkle_Tree_Root.says v2) (by kernel_rfl) (hands_one rfl rfl) (.cons (.same (.ptr 0 0 0 0)) .nil) (by kernel_rfl) h), (opGE (opGE (opGE (opXE (opGE (opGE (opGE (opVE (opGE (opGE (opGE (opVE (opGE (opGE (opGE (opES opE0 (fun R rest h => ak_callD (avs := []) (dst := some 51) hP enters_12 (by have q := splicelaw20_awake.says h14; rw [c15] at q; exact q) (by kernel_rfl) .nil (by kernel_rfl) h)) hT) hT) hT) hT 55 (.b ((v6.1.length : Int) == 0)) (.b true) (by rw [eqT c16] <;> rfl)) hT) hT) hT) hT 59 (.b (v6.2 == 1)) (.b true) (by rw [eqT c17] <;> rfl)) hT) hT) hT)) hT) hT) hT)⟩ ?_
                    refine goK hT 0 (K9 1111110100 16) ⟨122, [(61, .b true), (63, .n .u32 (merkle_Tree_Root v2)), (64, .i a1), (65, .d (eG48 v5)), (66, .d (eL37 t2 a2))], [eB91 v2, .box 48 (eC48 v5), eR37 v6.1]⟩ ?_
                    obtain ⟨v8, h18, H⟩ := ibC H
                    refine ak_callP (avs := [.n .u32 (merkle_Tree_Root v2), .i a1, .d (eG48 v5), .d (eL37 t2 a2)]) (dst := some 67) (k' := (K9 1111110100 17)) [61, 67] [] hP enters_31 (merkle_Verify.says (t3 := t2) (merkle_Tree_Root v2) a1 v5 a2 h18) (by kernel_rfl) (hands_none _) (.cons (pass_d _) (.cons (pass_d _) (.cons (pass_d _) (.cons (pass_d _) .nil)))) (st' := ⟨122, [(61, .b true), (67, .b v8)], [eB91 v2, .box 48 (eC48 v5), eR37 v6.1]⟩) (by kernel_rfl) ?_
                    refine goK hT 4 (K9 111111010 1) ⟨122, [(6, .b (!v8))], [eB91 v2, .box 48 (eC48 v5), eR37 v6.1]⟩ ?_
                    refine cutK [] ⟨122, [(6, .b (!v8))], []⟩ h0 ?_
                    exact Jj4 (!v8) H
                  · replace H := iF c17 H
                    refine drawK (hP ▸ mixed) 16 [1, 2, 7, 9, 10, 11] [some (.b true), some (.b true), some (.own 2 1 0 v6.1.length), some (.i (v6.1.length : Int)), some (.b true), some (.b true), some (.b true), some (.i v6.2), some (.b false), some (.b false), some (.b false), some (.tup []), some (.tup []), some (.tup []), some (.tup []), some (.tup [])] (opG (opG (opG (opG (opG (opG (opG (opV (opG (opG (opG (opV (opG (opG (opG (opS op0 (fun R rest h => ak_callD (avs := []) (dst := some 51) hP enters_12 (by have q := splicelaw20_awake.says h14; rw [c15] at q; exact q) (by kernel_rfl) .nil (by kernel_rfl) h)) hT) hT) hT) hT 55 (.b ((v6.1.length : Int) == 0)) (.b true) (by rw [eqT c16] <;> rfl)) hT) hT) hT) hT 59 (.b (v6.2 == 1)) (.b false) (by rw [eqF c17] <;> rfl)) hT) hT) hT) hT) hT) hT) hT) ?_
                    refine goK hT 5 (K9 111111010 1) ⟨122, [(6, .b false)], [eB91 v2, .box 48 (eC48 v5), eR37 v6.1]⟩ ?_
                    refine cutK [] ⟨122, [(6, .b false)], []⟩ h0 ?_
                    exact Jj4 false H
                · replace H := iF c16 H
                  refine drawK (hP ▸ mixed) 16 [1, 2, 7, 9, 10, 11] [some (.b true), some (.b true), some (.own 2 1 0 v6.1.length), some (.i (v6.1.length : Int)), some (.b false), some (.b false), some (.b false), some (.tup []), some (.tup []), some (.b false), some (.b false), some (.tup []), some (.tup []), some (.tup []), some (.tup []), some (.tup [])] (opG (opG (opG (opG (opG (opG (opG (opG (opG (opG (opG (opV (opG (opG (opG (opS op0 (fun R rest h => ak_callD (avs := []) (dst := some 51) hP enters_12 (by have q := splicelaw20_awake.says h14; rw [c15] at q; exact q) (by kernel_rfl) .nil (by kernel_rfl) h)) hT) hT) hT) hT 55 (.b ((v6.1.length : Int) == 0)) (.b false) (by rw [eqF c16] <;> rfl)) hT) hT) hT) hT) hT) hT) hT) hT) hT) hT) hT) ?_
                  refine goK hT 5 (K9 111111010 1) ⟨122, [(6, .b false)], [eB91 v2, .box 48 (eC48 v5), eR37 v6.1]⟩ ?_
                  refine cutK [] ⟨122, [(6, .b false)], []⟩ h0 ?_
                  exact Jj4 false H
              · replace H := iF c15 H
                refine drawK (hP ▸ mixed) 16 [1, 2, 7, 9, 10, 11] [some (.b false), some (.b false), some (.tup []), some (.tup []), some (.tup []), some (.b false), some (.b false), some (.tup []), some (.tup []), some (.b false), some (.b false), some (.tup []), some (.tup []), some (.tup []), some (.tup []), some (.tup [])] (opG (opG (opG (opG (opG (opG (opG (opG (opG (opG (opG (opG (opG (opG (opG (opS op0 (fun R rest h => ak_callD (avs := []) (dst := some 51) hP enters_12 (by have q := splicelaw20_awake.says h14; rw [boF c15] at q; exact q) (by kernel_rfl) .nil (by kernel_rfl) h)) hT) hT) hT) hT) hT) hT) hT) hT) hT) hT) hT) hT) hT) hT) hT) ?_
                refine goK hT 5 (K9 111111010 1) ⟨122, [(6, .b false)], [eB91 v2, .box 48 (eC48 v5), eR37 v6.1]⟩ ?_
                refine cutK [] ⟨122, [(6, .b false)], []⟩ h0 ?_
                exact Jj4 false H
            · replace H := iF c13 H
              rw [boF c13]
              refine goK hT 2 (K9 111111 1) ⟨122, [(0, .d (eL42 t0 a0)), (1, .i a1), (2, .d (eL37 t2 a2)), (7, .ptr 0 0 0 0), (9, .ptr 1 0 0 0), (10, .own 2 1 0 v6.1.length), (11, .i v6.2)], [eB91 v2, .box 48 (eC48 v5), eR37 v6.1]⟩ ?_
              refine goK hT 3 (K9 11111110 1) ⟨122, [(1, .i a1), (2, .d (eL37 t2 a2)), (7, .ptr 0 0 0 0), (9, .ptr 1 0 0 0), (10, .own 2 1 0 v6.1.length), (11, .i v6.2), (70, .d (eL42 t0 a0))], [eB91 v2, .box 48 (eC48 v5), eR37 v6.1]⟩ ?_
              obtain ⟨v9, h19, H⟩ := ibC H
              refine ak_callP (avs := [.d (eL42 t0 a0)]) (dst := some 71) (k' := (K9 11111110 2)) [1, 2, 7, 9, 10, 11, 71] [] hP enters_13 (splicelaw20_levels.says (t0 := t0) a0 h19) (by kernel_rfl) (hands_none _) (.cons (pass_d _) .nil) (st' := ⟨122, [(1, .i a1), (2, .d (eL37 t2 a2)), (7, .ptr 0 0 0 0), (9, .ptr 1 0 0 0), (10, .own 2 1 0 v6.1.length), (11, .i v6.2), (71, .own 3 1 0 v9.length)], [eB91 v2, .box 48 (eC48 v5), eR37 v6.1, eR57 v9]⟩) (by kernel_rfl) ?_
              refine goK hT 1 (K9 11111110 3) ⟨122, [(1, .i a1), (2, .d (eL37 t2 a2)), (7, .ptr 0 0 0 0), (9, .ptr 1 0 0 0), (10, .own 2 1 0 v6.1.length), (11, .i v6.2), (71, .own 3 1 0 v9.length), (72, .i a1)], [eB91 v2, .box 48 (eC48 v5), eR37 v6.1, eR57 v9]⟩ ?_
              obtain ⟨v10, h20, H⟩ := ibC H
              have Jj5 : ∀ (y5_82 : Bool), (splicelaw20_MerkleProves.j5 a1 a2 v2 v5 v6 v10 y5_82) = some r → AK X 9 ((K9 111111110 1)) (Back X [] (.b r)) ⟨122, [(1, .i a1), (2, .d (eL37 t2 a2)), (7, .ptr 0 0 0 0), (9, .ptr 1 0 0 0), (10, .own 2 1 0 v6.1.length), (12, .own 3 1 0 v10.length), (82, .b y5_82)], [eB91 v2, .box 48 (eC48 v5), eR37 v6.1, eR37 v10]⟩ := by
                intro y5_82 H
                by_cases c22 : y5_82 = true
                · replace H := iT c22 H
                  rw [c22]
                  refine goK hT 5 (K9 11111111010 1) ⟨122, [(6, .b false)], [eB91 v2, .box 48 (eC48 v5), eR37 v6.1, eR37 v10]⟩ ?_
                  obtain rfl := retC H
                  exact ak_ret hf hX (av := .b false) (by kernel_rfl) [] (sel_of_eq (by kernel_rfl)) (by decide) (by rw [h0]; rfl) (by kernel_rfl) (fun _ h => all_nil h) (.d (.v _))
                · replace H := iF c22 H
                  rw [boF c22]
                  refine goK hT 2 (K9 11111111 1) ⟨122, [(1, .i a1), (2, .d (eL37 t2 a2)), (7, .ptr 0 0 0 0), (9, .ptr 1 0 0 0), (10, .own 2 1 0 v6.1.length), (12, .own 3 1 0 v10.length)], [eB91 v2, .box 48 (eC48 v5), eR37 v6.1, eR37 v10]⟩ ?_
                  refine goK hT 7 (K9 111111111010 0) ⟨122, [(1, .i a1), (2, .d (eL37 t2 a2)), (7, .ptr 0 0 0 0), (9, .ptr 1 0 0 0), (10, .own 2 1 0 v6.1.length), (12, .own 3 1 0 v10.length), (13, .i 0)], [eB91 v2, .box 48 (eC48 v5), eR37 v6.1, eR37 v10]⟩ ?_
                  have L : ∀ n, (∀ (x1_13 : Int), iter (splicelaw20_MerkleProves.step a1 a2 v2 v5 v6 v10) n (.l1 x1_13) = some r → AK X 9 ((K9 111111111010 0)) (Back X [] (.b r)) ⟨122, [(1, .i a1), (2, .d (eL37 t2 a2)), (7, .ptr 0 0 0 0), (9, .ptr 1 0 0 0), (10, .own 2 1 0 v6.1.length), (12, .own 3 1 0 v10.length), (13, .i x1_13)], [eB91 v2, .box 48 (eC48 v5), eR37 v6.1, eR37 v10]⟩) := by
                    intro n
                    induction n with
                    | zero => exact fun _ H => iter0 H
                    | succ n ih =>
                      · intro x1_13 H
                        refine goK hT 8 (K9 11111111101000 1) ⟨122, [(1, .i a1), (2, .d (eL37 t2 a2)), (7, .ptr 0 0 0 0), (9, .ptr 1 0 0 0), (10, .own 2 1 0 v6.1.length), (12, .own 3 1 0 v10.length), (13, .i x1_13), (86, .b (decide (x1_13 < (v6.1.length : Int))))], [eB91 v2, .box 48 (eC48 v5), eR37 v6.1, eR37 v10]⟩ ?_
                        by_cases c23 : x1_13 < (v6.1.length : Int)
                        · replace H := sT c23 H
                          rw [decide_eq_true c23]
                          refine goK hT 2 (K9 1111111110100 1) ⟨122, [(1, .i a1), (2, .d (eL37 t2 a2)), (7, .ptr 0 0 0 0), (9, .ptr 1 0 0 0), (10, .own 2 1 0 v6.1.length), (12, .own 3 1 0 v10.length), (13, .i x1_13)], [eB91 v2, .box 48 (eC48 v5), eR37 v6.1, eR37 v10]⟩ ?_
                          refine goK hT 3 (K9 1111111110100100 0) ⟨122, [(1, .i a1), (2, .d (eL37 t2 a2)), (7, .ptr 0 0 0 0), (9, .ptr 1 0 0 0), (10, .own 2 1 0 v6.1.length), (12, .own 3 1 0 v10.length), (13, .i x1_13)], [eB91 v2, .box 48 (eC48 v5), eR37 v6.1, eR37 v10]⟩ ?_
                          obtain ⟨h30, H⟩ := sC H
                          obtain ⟨h31, H⟩ := sC H
                          refine drawK (hP ▸ mixed) 9 [1, 2, 7, 9, 10, 12, 13] [some (.own 2 1 0 v6.1.length), some (.i x1_13), some (.ptr 2 1 x1_13.toNat 0), some (.n .u32 (v6.1.getD x1_13.toNat 0)), some (.own 3 1 0 v10.length), some (.i x1_13), some (.ptr 3 1 x1_13.toNat 0), some (.n .u32 (v10.getD x1_13.toNat 0)), some (.b ((v6.1.getD x1_13.toNat 0) != (v10.getD x1_13.toNat 0)))] (opG (opS (opS (opG (opG (opS (opS (opG (opG op0 hT) hT) (fun R rest h => ak_idx0 hT (i := x1_13) (n := (v6.1.length : Int)) h30.1 h30.2 (by kernel_rfl) h)) (fun R rest h => ak_ld0 hT (i := x1_13.toNat) (n := v6.1.length) (ltN h30.1 h30.2) (by kernel_rfl) h)) hT) hT) (fun R rest h => ak_idx0 hT (i := x1_13) (n := (v10.length : Int)) h31.1 h31.2 (by kernel_rfl) h)) (fun R rest h => ak_ld0 hT (i := x1_13.toNat) (n := v10.length) (ltN h31.1 h31.2) (by kernel_rfl) h)) hT) ?_
                          refine goK hT 1 (K9 1111111110100100 1) ⟨122, [(1, .i a1), (2, .d (eL37 t2 a2)), (7, .ptr 0 0 0 0), (9, .ptr 1 0 0 0), (10, .own 2 1 0 v6.1.length), (12, .own 3 1 0 v10.length), (13, .i x1_13), (97, .b ((v6.1.getD x1_13.toNat 0) != (v10.getD x1_13.toNat 0)))], [eB91 v2, .box 48 (eC48 v5), eR37 v6.1, eR37 v10]⟩ ?_
                          by_cases c32 : (v6.1.getD x1_13.toNat 0) = (v10.getD x1_13.toNat 0)
                          · replace H := sT c32 H
                            rw [neF c32]
                            refine goK hT 3 (K9 11111111101001 1) ⟨122, [(1, .i a1), (2, .d (eL37 t2 a2)), (7, .ptr 0 0 0 0), (9, .ptr 1 0 0 0), (10, .own 2 1 0 v6.1.length), (12, .own 3 1 0 v10.length), (13, .i x1_13)], [eB91 v2, .box 48 (eC48 v5), eR37 v6.1, eR37 v10]⟩ ?_
                            refine goK hT 6 (K9 111111111010 0) ⟨122, [(1, .i a1), (2, .d (eL37 t2 a2)), (7, .ptr 0 0 0 0), (9, .ptr 1 0 0 0), (10, .own 2 1 0 v6.1.length), (12, .own 3 1 0 v10.length), (13, .i (IntKind.wrap .i64 (x1_13 + 1)))], [eB91 v2, .box 48 (eC48 v5), eR37 v6.1, eR37 v10]⟩ ?_
                            refine cutK [0, 1, 2, 3] ⟨122, [(1, .i a1), (2, .d (eL37 t2 a2)), (7, .ptr 0 0 0 0), (9, .ptr 1 0 0 0), (10, .own 2 1 0 v6.1.length), (12, .own 3 1 0 v10.length), (13, .i (IntKind.wrap .i64 (x1_13 + 1)))], [eB91 v2, .box 48 (eC48 v5), eR37 v6.1, eR37 v10]⟩ h0 ?_
                            exact ih (IntKind.wrap .i64 (x1_13 + 1)) H
                          · replace H := sF c32 H
                            rw [neT c32]
                            refine goK hT 5 (K9 111111111010010010 1) ⟨122, [(6, .b false)], [eB91 v2, .box 48 (eC48 v5), eR37 v6.1, eR37 v10]⟩ ?_
                            obtain rfl := retC H
                            exact ak_ret hf hX (av := .b false) (by kernel_rfl) [] (sel_of_eq (by kernel_rfl)) (by decide) (by rw [h0]; rfl) (by kernel_rfl) (fun _ h => all_nil h) (.d (.v _))
                        · replace H := sF c23 H
                          rw [decide_eq_false c23]
                          refine goK hT 3 (K9 1111111111 0) ⟨122, [(1, .i a1), (2, .d (eL37 t2 a2)), (7, .ptr 0 0 0 0), (9, .ptr 1 0 0 0), (10, .own 2 1 0 v6.1.length)], [eB91 v2, .box 48 (eC48 v5), eR37 v6.1, eR37 v10]⟩ ?_
                          obtain ⟨v11, h24, H⟩ := sbC H
                          have Jj6 : ∀ (y6_6 : Bool), stk (splicelaw20_MerkleProves.j6 y6_6) (iter (splicelaw20_MerkleProves.step a1 a2 v2 v5 v6 v10) n) = some r → AK X 9 ((K9 1111111111 1)) (Back X [] (.b r)) ⟨122, [(6, .b y6_6)], []⟩ := by
                            intro y6_6 H
                            obtain rfl := retC H
                            exact ak_ret hf hX (av := .b y6_6) (by kernel_rfl) [] (sel_of_eq (by kernel_rfl)) (by decide) (by rw [h0]; rfl) (by kernel_rfl) (fun _ h => all_nil h) (.d (.v _))
                          by_cases c25 : v11 = true
                          · replace H := sT c25 H
                            obtain ⟨v12, h26, H⟩ := sbC H
                            by_cases c27 : v12 = true
                            · replace H := sT c27 H
                              obtain ⟨v13, h28, H⟩ := sbC H
                              refine ak_drawAtE (nt := 122) (hP ▸ mixed) 21 [3, 11, 17] [1, 2, 7, 9, 10] [(1, .i a1), (2, .d (eL37 t2 a2)), (7, .ptr 0 0 0 0), (9, .ptr 1 0 0 0), (10, .own 2 1 0 v6.1.length)] [some (.b true), some (.b true), some (.ptr 0 0 0 0), some (.n .u32 (merkle_Tree_Root v2)), some (.i a1), some (.d (eG48 v5)), some (.own 2 1 0 v6.1.length), some (.b true), some (.b true), some (.b true), some (.ptr 0 0 0 0), some (.n .u32 (merkle_Tree_Root v2)), some (.i a1), some (.d (eG48 v5)), some (.d (eL37 t2 a2)), some (.b v13), some (.ptr 0 0 0 0), some (.n .u32 (merkle_Tree_Root v2)), some (.i a1), some (.d (eG48 v5)), some (.d (eL37 t2 a2))] [[eB91 v2, .box 48 (eC48 v5), eR37 v6.1, eR37 v10], [eB91 v2, .box 48 (eC48 v5), eR37 v6.1, eR37 v10], [eB91 v2, .box 48 (eC48 v5), eR37 v6.1, eR37 v10], [eB91 v2, .box 48 (eC48 v5), eR37 v6.1, eR37 v10]] (by kernel_rfl) (by kernel_rfl) (by kernel_rfl) (by kernel_rfl) ⟨(opGE (opGE (opGE (opXE (opGE (opES (opGE (opGE (opGE (opXE (opGE (opGE (opGE (opES (opGE (opGE (opGE (opXE (opGE (opGE (opES opE0 (fun R rest h => ak_callD (avs := []) (dst := some 98) hP enters_12 (by have q := splicelaw20_awake.says h24; rw [c25] at q; exact q) (by kernel_rfl) .nil (by kernel_rfl) h)) hT) hT)) hT) hT) hT) (fun R rest h => ak_callD (avs := [.n .u32 (merkle_Tree_Root v2), .i a1, .d (eG48 v5), .own 2 1 0 v6.1.length]) (dst := some 105) hP enters_31 (by have q := merkle_Verify.says (t3 := false) (merkle_Tree_Root v2) a1 v5 v6.1 h26; rw [c27] at q; exact q) (by kernel_rfl) (.cons (pass_d _) (.cons (pass_d _) (.cons (pass_d _) (.cons (.lend (ty := 37) (by kernel_rfl) rfl) .nil)))) (by kernel_rfl) h)) hT) hT) hT)) hT) hT) hT) (fun R rest h => ak_callD (avs := [.n .u32 (merkle_Tree_Root v2), .i a1, .d (eG48 v5), .d (eL37 t2 a2)]) (dst := some 113) hP enters_31 (merkle_Verify.says (t3 := t2) (merkle_Tree_Root v2) a1 v5 a2 h28) (by kernel_rfl) (.cons (pass_d _) (.cons (pass_d _) (.cons (pass_d _) (.cons (pass_d _) .nil)))) (by kernel_rfl) h)) hT)) hT) hT) hT), (fun R rest h => ak_callDR (avs := [.ptr 0 0 0 0]) (dst := some 101) [0] hP enters_18 (merkle_Tree_Root.says v2) (by kernel_rfl) (hands_one rfl rfl) (.cons (.same (.ptr 0 0 0 0)) .nil) (by kernel_rfl) h), ⟨(opGE (opGE (opGE (opXE (opGE (opES (opGE (opGE (opGE (opXE (opGE (opGE (opGE (opES (opGE (opGE (opGE (opXE (opGE (opGE (opES opE0 (fun R rest h => ak_callD (avs := []) (dst := some 98) hP enters_12 (by have q := splicelaw20_awake.says h24; rw [c25] at q; exact q) (by kernel_rfl) .nil (by kernel_rfl) h)) hT) hT)) hT) hT) hT) (fun R rest h => ak_callD (avs := [.n .u32 (merkle_Tree_Root v2), .i a1, .d (eG48 v5), .own 2 1 0 v6.1.length]) (dst := some 105) hP enters_31 (by have q := merkle_Verify.says (t3 := false) (merkle_Tree_Root v2) a1 v5 v6.1 h26; rw [c27] at q; exact q) (by kernel_rfl) (.cons (pass_d _) (.cons (pass_d _) (.cons (pass_d _) (.cons (.lend (ty := 37) (by kernel_rfl) rfl) .nil)))) (by kernel_rfl) h)) hT) hT) hT)) hT) hT) hT) (fun R rest h => ak_callD (avs := [.n .u32 (merkle_Tree_Root v2), .i a1, .d (eG48 v5), .d (eL37 t2 a2)]) (dst := some 113) hP enters_31 (merkle_Verify.says (t3 := t2) (merkle_Tree_Root v2) a1 v5 a2 h28) (by kernel_rfl) (.cons (pass_d _) (.cons (pass_d _) (.cons (pass_d _) (.cons (pass_d _) .nil)))) (by kernel_rfl) h)) hT)) hT) hT) hT), (fun R rest h => ak_callDR (avs := [.ptr 0 0 0 0]) (dst := some 109) [0] hP enters_18 (merkle_Tree_Root.says v2) (by kernel_rfl) (hands_one rfl rfl) (.cons (.same (.ptr 0 0 0 0)) .nil) (by kernel_rfl) h), ⟨(opGE (opGE (opGE (opXE (opGE (opES (opGE (opGE (opGE (opXE (opGE (opGE (opGE (opES (opGE (opGE (opGE (opXE (opGE (opGE (opES opE0 (fun R rest h => ak_callD (avs := []) (dst := some 98) hP enters_12 (by have q := splicelaw20_awake.says h24; rw [c25] at q; exact q) (by kernel_rfl) .nil (by kernel_rfl) h)) hT) hT)) hT) hT) hT) (fun R rest h => ak_callD (avs := [.n .u32 (merkle_Tree_Root v2), .i a1, .d (eG48 v5), .own 2 1 0 v6.1.length]) (dst := some 105) hP enters_31 (by have q := merkle_Verify.says (t3 := false) (merkle_Tree_Root v2) a1 v5 v6.1 h26; rw [c27] at q; exact q) (by kernel_rfl) (.cons (pass_d _) (.cons (pass_d _) (.cons (pass_d _) (.cons (.lend (ty := 37) (by kernel_rfl) rfl) .nil)))) (by kernel_rfl) h)) hT) hT) hT)) hT) hT) hT) (fun R rest h => ak_callD (avs := [.n .u32 (merkle_Tree_Root v2), .i a1, .d (eG48 v5), .d (eL37 t2 a2)]) (dst := some 113) hP enters_31 (merkle_Verify.says (t3 := t2) (merkle_Tree_Root v2) a1 v5 a2 h28) (by kernel_rfl) (.cons (pass_d _) (.cons (pass_d _) (.cons (pass_d _) (.cons (pass_d _) .nil)))) (by kernel_rfl) h)) hT)) hT) hT) hT), (fun R rest h => ak_callDR (avs := [.ptr 0 0 0 0]) (dst := some 115) [0] hP enters_18 (merkle_Tree_Root.says v2) (by kernel_rfl) (hands_one rfl rfl) (.cons (.same (.ptr 0 0 0 0)) .nil) (by kernel_rfl) h), (opGE (opGE (opGE (opXE (opGE (opES (opGE (opGE (opGE (opXE (opGE (opGE (opGE (opES (opGE (opGE (opGE (opXE (opGE (opGE (opES opE0 (fun R rest h => ak_callD (avs := []) (dst := some 98) hP enters_12 (by have q := splicelaw20_awake.says h24; rw [c25] at q; exact q) (by kernel_rfl) .nil (by kernel_rfl) h)) hT) hT)) hT) hT) hT) (fun R rest h => ak_callD (avs := [.n .u32 (merkle_Tree_Root v2), .i a1, .d (eG48 v5), .own 2 1 0 v6.1.length]) (dst := some 105) hP enters_31 (by have q := merkle_Verify.says (t3 := false) (merkle_Tree_Root v2) a1 v5 v6.1 h26; rw [c27] at q; exact q) (by kernel_rfl) (.cons (pass_d _) (.cons (pass_d _) (.cons (pass_d _) (.cons (.lend (ty := 37) (by kernel_rfl) rfl) .nil)))) (by kernel_rfl) h)) hT) hT) hT)) hT) hT) hT) (fun R rest h => ak_callD (avs := [.n .u32 (merkle_Tree_Root v2), .i a1, .d (eG48 v5), .d (eL37 t2 a2)]) (dst := some 113) hP enters_31 (merkle_Verify.says (t3 := t2) (merkle_Tree_Root v2) a1 v5 a2 h28) (by kernel_rfl) (.cons (pass_d _) (.cons (pass_d _) (.cons (pass_d _) (.cons (pass_d _) .nil)))) (by kernel_rfl) h)) hT)) hT) hT) hT)⟩⟩⟩ ?_
                              refine goK hT 0 (K9 11111111110 21) ⟨122, [(107, .b true), (113, .b v13), (115, .n .u32 (merkle_Tree_Root v2)), (116, .i a1), (117, .d (eG48 v5)), (118, .d (eL37 t2 a2))], [eB91 v2, .box 48 (eC48 v5), eR37 v6.1, eR37 v10]⟩ ?_
                              obtain ⟨v14, h29, H⟩ := sbC H
                              refine ak_callP (avs := [.n .u32 (merkle_Tree_Root v2), .i a1, .d (eG48 v5), .d (eL37 t2 a2)]) (dst := some 119) (k' := (K9 11111111110 22)) [107, 113, 119] [] hP enters_33 (spliceref20_Verify.says (t3 := t2) (merkle_Tree_Root v2) a1 (⟨v5.Val, v5.Some⟩ : spliceref05_Cell) a2 h29) (by kernel_rfl) (hands_none _) (.cons (pass_d _) (.cons (pass_d _) (.cons (pass_d _) (.cons (pass_d _) .nil)))) (st' := ⟨122, [(107, .b true), (113, .b v13), (119, .b v14)], [eB91 v2, .box 48 (eC48 v5), eR37 v6.1, eR37 v10]⟩) (by kernel_rfl) ?_
                              refine goK hT 4 (K9 1111111111 1) ⟨122, [(6, .b (v13 == v14))], [eB91 v2, .box 48 (eC48 v5), eR37 v6.1, eR37 v10]⟩ ?_
                              refine cutK [] ⟨122, [(6, .b (v13 == v14))], []⟩ h0 ?_
                              exact Jj6 (v13 == v14) H
                            · replace H := sF c27 H
                              refine ak_drawAtE (nt := 122) (hP ▸ mixed) 21 [3] [1, 2, 7, 9, 10] [(1, .i a1), (2, .d (eL37 t2 a2)), (7, .ptr 0 0 0 0), (9, .ptr 1 0 0 0), (10, .own 2 1 0 v6.1.length)] [some (.b true), some (.b true), some (.ptr 0 0 0 0), some (.n .u32 (merkle_Tree_Root v2)), some (.i a1), some (.d (eG48 v5)), some (.own 2 1 0 v6.1.length), some (.b false), some (.b false), some (.b false), some (.tup []), some (.tup []), some (.tup []), some (.tup []), some (.tup []), some (.tup []), some (.tup []), some (.tup []), some (.tup []), some (.tup []), some (.tup [])] [[eB91 v2, .box 48 (eC48 v5), eR37 v6.1, eR37 v10], [eB91 v2, .box 48 (eC48 v5), eR37 v6.1, eR37 v10]] (by kernel_rfl) (by kernel_rfl) (by kernel_rfl) (by kernel_rfl) ⟨(opGE (opGE (opGE (opGE (opGE (opGE (opGE (opGE (opGE (opGE (opGE (opGE (opGE (opES (opGE (opGE (opGE (opXE (opGE (opGE (opES opE0 (fun R rest h => ak_callD (avs := []) (dst := some 98) hP enters_12 (by have q := splicelaw20_awake.says h24; rw [c25] at q; exact q) (by kernel_rfl) .nil (by kernel_rfl) h)) hT) hT)) hT) hT) hT) (fun R rest h => ak_callD (avs := [.n .u32 (merkle_Tree_Root v2), .i a1, .d (eG48 v5), .own 2 1 0 v6.1.length]) (dst := some 105) hP enters_31 (by have q := merkle_Verify.says (t3 := false) (merkle_Tree_Root v2) a1 v5 v6.1 h26; rw [boF c27] at q; exact q) (by kernel_rfl) (.cons (pass_d _) (.cons (pass_d _) (.cons (pass_d _) (.cons (.lend (ty := 37) (by kernel_rfl) rfl) .nil)))) (by kernel_rfl) h)) hT) hT) hT) hT) hT) hT) hT) hT) hT) hT) hT) hT) hT), (fun R rest h => ak_callDR (avs := [.ptr 0 0 0 0]) (dst := some 101) [0] hP enters_18 (merkle_Tree_Root.says v2) (by kernel_rfl) (hands_one rfl rfl) (.cons (.same (.ptr 0 0 0 0)) .nil) (by kernel_rfl) h), (opGE (opGE (opGE (opGE (opGE (opGE (opGE (opGE (opGE (opGE (opGE (opGE (opGE (opES (opGE (opGE (opGE (opXE (opGE (opGE (opES opE0 (fun R rest h => ak_callD (avs := []) (dst := some 98) hP enters_12 (by have q := splicelaw20_awake.says h24; rw [c25] at q; exact q) (by kernel_rfl) .nil (by kernel_rfl) h)) hT) hT)) hT) hT) hT) (fun R rest h => ak_callD (avs := [.n .u32 (merkle_Tree_Root v2), .i a1, .d (eG48 v5), .own 2 1 0 v6.1.length]) (dst := some 105) hP enters_31 (by have q := merkle_Verify.says (t3 := false) (merkle_Tree_Root v2) a1 v5 v6.1 h26; rw [boF c27] at q; exact q) (by kernel_rfl) (.cons (pass_d _) (.cons (pass_d _) (.cons (pass_d _) (.cons (.lend (ty := 37) (by kernel_rfl) rfl) .nil)))) (by kernel_rfl) h)) hT) hT) hT) hT) hT) hT) hT) hT) hT) hT) hT) hT) hT)⟩ ?_
                              refine goK hT 5 (K9 1111111111 1) ⟨122, [(6, .b false)], [eB91 v2, .box 48 (eC48 v5), eR37 v6.1, eR37 v10]⟩ ?_
                              refine cutK [] ⟨122, [(6, .b false)], []⟩ h0 ?_
                              exact Jj6 false H
                          · replace H := sF c25 H
                            refine drawK (hP ▸ mixed) 21 [1, 2, 7, 9, 10] [some (.b false), some (.b false), some (.tup []), some (.tup []), some (.tup []), some (.tup []), some (.tup []), some (.tup []), some (.b false), some (.b false), some (.tup []), some (.tup []), some (.tup []), some (.tup []), some (.tup []), some (.tup []), some (.tup []), some (.tup []), some (.tup []), some (.tup []), some (.tup [])] (opG (opG (opG (opG (opG (opG (opG (opG (opG (opG (opG (opG (opG (opG (opG (opG (opG (opG (opG (opG (opS op0 (fun R rest h => ak_callD (avs := []) (dst := some 98) hP enters_12 (by have q := splicelaw20_awake.says h24; rw [boF c25] at q; exact q) (by kernel_rfl) .nil (by kernel_rfl) h)) hT) hT) hT) hT) hT) hT) hT) hT) hT) hT) hT) hT) hT) hT) hT) hT) hT) hT) hT) hT) ?_
                            refine goK hT 5 (K9 1111111111 1) ⟨122, [(6, .b false)], [eB91 v2, .box 48 (eC48 v5), eR37 v6.1, eR37 v10]⟩ ?_
                            refine cutK [] ⟨122, [(6, .b false)], []⟩ h0 ?_
                            exact Jj6 false H
                  refine cutK [0, 1, 2, 3] ⟨122, [(1, .i a1), (2, .d (eL37 t2 a2)), (7, .ptr 0 0 0 0), (9, .ptr 1 0 0 0), (10, .own 2 1 0 v6.1.length), (12, .own 3 1 0 v10.length), (13, .i 0)], [eB91 v2, .box 48 (eC48 v5), eR37 v6.1, eR37 v10]⟩ h0 ?_
                  obtain ⟨n, H⟩ := loopC H
                  exact (L n) 0 H
              refine ak_callP (avs := [.own 3 1 0 v9.length, .i a1]) (dst := some 73) (k' := (K9 11111110 4)) [1, 2, 7, 9, 10, 11, 73] [] hP enters_32 (spliceref20_Prove.says (t0 := false) v9 a1 h20) (by kernel_rfl) (hands_none _) (.cons (.lend (ty := 57) (by kernel_rfl) rfl) (.cons (pass_d _) .nil)) (st' := ⟨122, [(1, .i a1), (2, .d (eL37 t2 a2)), (7, .ptr 0 0 0 0), (9, .ptr 1 0 0 0), (10, .own 2 1 0 v6.1.length), (11, .i v6.2), (73, .own 4 1 0 v10.length)], [eB91 v2, .box 48 (eC48 v5), eR37 v6.1, eR57 v9, eR37 v10]⟩) (by kernel_rfl) ?_
              refine goK hT 8 (K9 1111111100 3) ⟨122, [(1, .i a1), (2, .d (eL37 t2 a2)), (7, .ptr 0 0 0 0), (9, .ptr 1 0 0 0), (10, .own 2 1 0 v6.1.length), (12, .own 4 1 0 v10.length), (76, .b (v6.2 != 0))], [eB91 v2, .box 48 (eC48 v5), eR37 v6.1, eR57 v9, eR37 v10]⟩ ?_
              by_cases c21 : v6.2 = 0
              · replace H := iT c21 H
                rw [neF c21]
                refine goK hT 7 (K9 111111110 1) ⟨122, [(1, .i a1), (2, .d (eL37 t2 a2)), (7, .ptr 0 0 0 0), (9, .ptr 1 0 0 0), (10, .own 2 1 0 v6.1.length), (12, .own 4 1 0 v10.length), (82, .b ((v6.1.length : Int) != (v10.length : Int)))], [eB91 v2, .box 48 (eC48 v5), eR37 v6.1, eR57 v9, eR37 v10]⟩ ?_
                refine cutK [0, 1, 2, 4] ⟨122, [(1, .i a1), (2, .d (eL37 t2 a2)), (7, .ptr 0 0 0 0), (9, .ptr 1 0 0 0), (10, .own 2 1 0 v6.1.length), (12, .own 3 1 0 v10.length), (82, .b ((v6.1.length : Int) != (v10.length : Int)))], [eB91 v2, .box 48 (eC48 v5), eR37 v6.1, eR37 v10]⟩ h0 ?_
                exact Jj5 ((v6.1.length : Int) != (v10.length : Int)) H
              · replace H := iF c21 H
                rw [neT c21]
                refine goK hT 7 (K9 111111110 1) ⟨122, [(1, .i a1), (2, .d (eL37 t2 a2)), (7, .ptr 0 0 0 0), (9, .ptr 1 0 0 0), (10, .own 2 1 0 v6.1.length), (12, .own 4 1 0 v10.length), (82, .b true)], [eB91 v2, .box 48 (eC48 v5), eR37 v6.1, eR57 v9, eR37 v10]⟩ ?_
                refine cutK [0, 1, 2, 4] ⟨122, [(1, .i a1), (2, .d (eL37 t2 a2)), (7, .ptr 0 0 0 0), (9, .ptr 1 0 0 0), (10, .own 2 1 0 v6.1.length), (12, .own 3 1 0 v10.length), (82, .b true)], [eB91 v2, .box 48 (eC48 v5), eR37 v6.1, eR37 v10]⟩ h0 ?_
                exact Jj5 true H
          refine ak_callP (avs := [.ptr 0 0 0 0, .i a1]) (dst := some 42) (k' := (K9 111110 3)) [0, 1, 2, 7, 9, 42] [0] hP enters_28 (merkle_Tree_Prove.says v2 a1 h11) (by kernel_rfl) (hands_one rfl rfl) (.cons (.same (.ptr 0 0 0 0)) (.cons (pass_d _) .nil)) (st' := ⟨122, [(0, .d (eL42 t0 a0)), (1, .i a1), (2, .d (eL37 t2 a2)), (7, .ptr 0 0 0 0), (9, .ptr 1 0 0 0), (42, .tup [.own 2 1 0 v6.1.length, .i v6.2])], [eB91 v2, .box 48 (eC48 v5), eR37 v6.1]⟩) (by kernel_rfl) ?_
          refine goK hT 12 (K9 11111100 3) ⟨122, [(0, .d (eL42 t0 a0)), (1, .i a1), (2, .d (eL37 t2 a2)), (7, .ptr 0 0 0 0), (9, .ptr 1 0 0 0), (10, .own 2 1 0 v6.1.length), (11, .i v6.2), (47, .b (decide (a1 < 0)))], [eB91 v2, .box 48 (eC48 v5), eR37 v6.1]⟩ ?_
          by_cases c12 : a1 < 0
          · replace H := iT c12 H
            rw [decide_eq_true c12]
            refine goK hT 4 (K9 1111110 1) ⟨122, [(0, .d (eL42 t0 a0)), (1, .i a1), (2, .d (eL37 t2 a2)), (7, .ptr 0 0 0 0), (9, .ptr 1 0 0 0), (10, .own 2 1 0 v6.1.length), (11, .i v6.2), (50, .b true)], [eB91 v2, .box 48 (eC48 v5), eR37 v6.1]⟩ ?_
            refine cutK [0, 1, 2] ⟨122, [(0, .d (eL42 t0 a0)), (1, .i a1), (2, .d (eL37 t2 a2)), (7, .ptr 0 0 0 0), (9, .ptr 1 0 0 0), (10, .own 2 1 0 v6.1.length), (11, .i v6.2), (50, .b true)], [eB91 v2, .box 48 (eC48 v5), eR37 v6.1]⟩ h0 ?_
            exact Jj3 true H
          · replace H := iF c12 H
            rw [decide_eq_false c12]
            refine goK hT 4 (K9 1111110 1) ⟨122, [(0, .d (eL42 t0 a0)), (1, .i a1), (2, .d (eL37 t2 a2)), (7, .ptr 0 0 0 0), (9, .ptr 1 0 0 0), (10, .own 2 1 0 v6.1.length), (11, .i v6.2), (50, .b (decide (a1 ≥ 4096)))], [eB91 v2, .box 48 (eC48 v5), eR37 v6.1]⟩ ?_
            refine cutK [0, 1, 2] ⟨122, [(0, .d (eL42 t0 a0)), (1, .i a1), (2, .d (eL37 t2 a2)), (7, .ptr 0 0 0 0), (9, .ptr 1 0 0 0), (10, .own 2 1 0 v6.1.length), (11, .i v6.2), (50, .b (decide (a1 ≥ 4096)))], [eB91 v2, .box 48 (eC48 v5), eR37 v6.1]⟩ h0 ?_
            exact Jj3 (decide (a1 ≥ 4096)) H
      have Sq2 := merkle_New.says (t0 := t0) a0 h1
      rw [q2] at Sq2
      refine ak_callP (avs := [.d (eL42 t0 a0)]) (dst := some 16) (k' := (K9 110 2)) [0, 1, 2, 16] [] hP enters_10 (Sq2) (by kernel_rfl) (hands_none _) (.cons (pass_d _) .nil) (st' := ⟨122, [(0, .d (eL42 t0 a0)), (1, .i a1), (2, .d (eL37 t2 a2)), (16, .tup [.ptr 0 0 0 0, .i v1.2])], [eB91 v2]⟩) (by kernel_rfl) ?_
      refine goK hT 10 (K9 11100 1) ⟨122, [(0, .d (eL42 t0 a0)), (1, .i a1), (2, .d (eL37 t2 a2)), (7, .ptr 0 0 0 0), (8, .i v1.2), (19, .d (eL42 t0 a0))], [eB91 v2]⟩ ?_
      refine ak_callP (avs := [.d (eL42 t0 a0)]) (dst := some 20) (k' := (K9 11100 2)) [0, 1, 2, 7, 8, 20] [] hP enters_11 (splicelaw20_few.says (t0 := t0) a0) (by kernel_rfl) (hands_none _) (.cons (pass_d _) .nil) (st' := ⟨122, [(0, .d (eL42 t0 a0)), (1, .i a1), (2, .d (eL37 t2 a2)), (7, .ptr 0 0 0 0), (8, .i v1.2), (20, .b (splicelaw20_few a0))], [eB91 v2]⟩) (by kernel_rfl) ?_
      refine goK hT 2 (K9 11100 4) ⟨122, [(0, .d (eL42 t0 a0)), (1, .i a1), (2, .d (eL37 t2 a2)), (7, .ptr 0 0 0 0), (8, .i v1.2), (22, .b (!(splicelaw20_few a0)))], [eB91 v2]⟩ ?_
      by_cases c6 : (splicelaw20_few a0) = true
      · replace H := iT c6 H
        rw [c6]
        refine goK hT 4 (K9 11100 8) ⟨122, [(0, .d (eL42 t0 a0)), (1, .i a1), (2, .d (eL37 t2 a2)), (7, .ptr 0 0 0 0), (26, .b (v1.2 != 0))], [eB91 v2]⟩ ?_
        by_cases c7 : v1.2 = 0
        · replace H := iT c7 H
          rw [neF c7]
          refine goK hT 9 (K9 1110 1) ⟨122, [(0, .d (eL42 t0 a0)), (1, .i a1), (2, .d (eL37 t2 a2)), (7, .ptr 0 0 0 0), (34, .b (decide ((a2.length : Int) > 100)))], [eB91 v2]⟩ ?_
          refine cutK [0] ⟨122, [(0, .d (eL42 t0 a0)), (1, .i a1), (2, .d (eL37 t2 a2)), (7, .ptr 0 0 0 0), (34, .b (decide ((a2.length : Int) > 100)))], [eB91 v2]⟩ h0 ?_
          exact Jj2 (decide ((a2.length : Int) > 100)) H
        · replace H := iF c7 H
          rw [neT c7]
          refine goK hT 9 (K9 1110 1) ⟨122, [(0, .d (eL42 t0 a0)), (1, .i a1), (2, .d (eL37 t2 a2)), (7, .ptr 0 0 0 0), (34, .b true)], [eB91 v2]⟩ ?_
          refine cutK [0] ⟨122, [(0, .d (eL42 t0 a0)), (1, .i a1), (2, .d (eL37 t2 a2)), (7, .ptr 0 0 0 0), (34, .b true)], [eB91 v2]⟩ h0 ?_
          exact Jj2 true H
      · replace H := iF c6 H
        rw [boF c6]
        refine goK hT 13 (K9 1110 1) ⟨122, [(0, .d (eL42 t0 a0)), (1, .i a1), (2, .d (eL37 t2 a2)), (7, .ptr 0 0 0 0), (34, .b true)], [eB91 v2]⟩ ?_
        refine cutK [0] ⟨122, [(0, .d (eL42 t0 a0)), (1, .i a1), (2, .d (eL37 t2 a2)), (7, .ptr 0 0 0 0), (34, .b true)], [eB91 v2]⟩ h0 ?_
        exact Jj2 true H
end Go.SyP
