/- Certificates, printed by gen.py. -/
import Derived.Test.YtckflmadcnfpeaaG20Cp0
set_option linter.unusedVariables false
set_option linter.unusedSimpArgs false
namespace Go.SyP
open Go Go.Sy Go.Proofs


theorem splicelaw20_awake.says {r : Bool} (H : splicelaw20_awake = some r) : Says Try.prog 12 [] [] [] (.b r) := by
  refine says_of Try.func12 rfl (nt := 51) rfl (Nat.le_of_ble_eq_true rfl) fun X hP h0 hX => ?_
  have hT : TabOk X.P T := hP ▸ tok
  have hf : X.P.funcs[12]? = some Try.f12 := hP ▸ Try.func12
  refine goK hT 8 (K12 110 2) ⟨51, [(8, .own 0 2 0 1)], [.flat false 2 42 1 (fun j => [[.i 5, .i 7]].getD j [])]⟩ ?_
  refine ak_row 0 (kk := 2) (fz := false) (ty := 42) (n := ([(⟨5, 7⟩ : api_Pair)] : List api_Pair).length) (vec api_Pair.e api_Pair.z ([(⟨5, 7⟩ : api_Pair)] : List api_Pair)) (by kernel_rfl) vec_lit (st' := ⟨51, [(8, .own 0 2 0 (([(⟨5, 7⟩ : api_Pair)] : List api_Pair).length))], [eR42 ([(⟨5, 7⟩ : api_Pair)] : List api_Pair)]⟩) (by kernel_rfl) ?_
  obtain ⟨v1, h1, H⟩ := ibC H
  cases q2 : v1.1 with
  | none =>
      rw [q2] at H
      replace H := ioptN H
      have Sq2 := merkle_New.says (t0 := false) ([(⟨5, 7⟩ : api_Pair)] : List api_Pair) h1
      rw [q2] at Sq2
      refine ak_callP (avs := [.own 0 2 0 (([(⟨5, 7⟩ : api_Pair)] : List api_Pair).length)]) (dst := some 9) (k' := (K12 110 3)) [9] [] hP enters_10 (Sq2) (by kernel_rfl) (hands_none _) (.cons (.lend (ty := 42) (by kernel_rfl) rfl) .nil) (st' := ⟨51, [(9, .tup [.d .np, .i v1.2])], [eR42 ([(⟨5, 7⟩ : api_Pair)] : List api_Pair)]⟩) (by kernel_rfl) ?_
      refine goK hT 10 (K12 1110 2) ⟨51, [(1, .d .np), (2, .i v1.2), (14, .own 1 2 0 1)], [eR42 ([(⟨5, 7⟩ : api_Pair)] : List api_Pair), .flat false 2 42 1 (fun j => [[.i 5, .i 8]].getD j [])]⟩ ?_
      refine ak_row 1 (kk := 2) (fz := false) (ty := 42) (n := ([(⟨5, 8⟩ : api_Pair)] : List api_Pair).length) (vec api_Pair.e api_Pair.z ([(⟨5, 8⟩ : api_Pair)] : List api_Pair)) (by kernel_rfl) vec_lit (st' := ⟨51, [(1, .d .np), (2, .i v1.2), (14, .own 1 2 0 (([(⟨5, 8⟩ : api_Pair)] : List api_Pair).length))], [eR42 ([(⟨5, 7⟩ : api_Pair)] : List api_Pair), eR42 ([(⟨5, 8⟩ : api_Pair)] : List api_Pair)]⟩) (by kernel_rfl) ?_
      obtain ⟨v3, h3, H⟩ := ibC H
      cases q4 : v3.1 with
      | none =>
          rw [q4] at H
          replace H := ioptN H
          have Sq4 := merkle_New.says (t0 := false) ([(⟨5, 8⟩ : api_Pair)] : List api_Pair) h3
          rw [q4] at Sq4
          refine ak_callP (avs := [.own 1 2 0 (([(⟨5, 8⟩ : api_Pair)] : List api_Pair).length)]) (dst := some 15) (k' := (K12 1110 3)) [1, 2, 15] [] hP enters_10 (Sq4) (by kernel_rfl) (hands_none _) (.cons (.lend (ty := 42) (by kernel_rfl) rfl) .nil) (st' := ⟨51, [(1, .d .np), (2, .i v1.2), (15, .tup [.d .np, .i v3.2])], [eR42 ([(⟨5, 7⟩ : api_Pair)] : List api_Pair), eR42 ([(⟨5, 8⟩ : api_Pair)] : List api_Pair)]⟩) (by kernel_rfl) ?_
          refine goK hT 10 (K12 11110 2) ⟨51, [(1, .d .np), (2, .i v1.2), (3, .d .np), (4, .i v3.2), (18, .d .np), (19, .d .np)], [eR42 ([(⟨5, 7⟩ : api_Pair)] : List api_Pair), eR42 ([(⟨5, 8⟩ : api_Pair)] : List api_Pair)]⟩ ?_
          obtain ⟨v5, h5, H⟩ := ibC H
          have Jj1 : ∀ (y1_0 : Bool), (splicelaw20_awake.j1 y1_0) = some r → AK X 12 ((K12 11111 1)) (Back X [] (.b r)) ⟨51, [(0, .b y1_0)], []⟩ := by
            intro y1_0 H
            obtain rfl := retC H
            exact ak_ret hf hX (av := .b y1_0) (by kernel_rfl) [] (sel_of_eq (by kernel_rfl)) (by decide) (by rw [h0]; rfl) (by kernel_rfl) (fun _ h => all_nil h) (.d (.v _))
          refine ak_callP (avs := [.d .np, .d .np]) (dst := some 20) (k' := (K12 11110 3)) [1, 2, 3, 4, 20] [] hP enters_14 (merkle_Diff_n01.says h5) (by kernel_rfl) (hands_none _) (.cons (pass_d _) (.cons (pass_d _) .nil)) (st' := ⟨51, [(1, .d .np), (2, .i v1.2), (3, .d .np), (4, .i v3.2), (20, .own 2 2 0 v5.length)], [eR42 ([(⟨5, 7⟩ : api_Pair)] : List api_Pair), eR42 ([(⟨5, 8⟩ : api_Pair)] : List api_Pair), eR44 v5]⟩) (by kernel_rfl) ?_
          refine goK hT 7 (K12 111110 3) ⟨51, [(1, .d .np), (3, .d .np), (4, .i v3.2), (5, .own 2 2 0 v5.length), (23, .b (v1.2 == 0))], [eR42 ([(⟨5, 7⟩ : api_Pair)] : List api_Pair), eR42 ([(⟨5, 8⟩ : api_Pair)] : List api_Pair), eR44 v5]⟩ ?_
          by_cases c6 : v1.2 = 0
          · replace H := iT c6 H
            rw [eqT c6]
            refine goK hT 4 (K12 111110 7) ⟨51, [(1, .d .np), (3, .d .np), (5, .own 2 2 0 v5.length), (27, .b (v3.2 == 0))], [eR42 ([(⟨5, 7⟩ : api_Pair)] : List api_Pair), eR42 ([(⟨5, 8⟩ : api_Pair)] : List api_Pair), eR44 v5]⟩ ?_
            by_cases c7 : v3.2 = 0
            · replace H := iT c7 H
              rw [eqT c7]
              refine goK hT 5 (K12 111110 12) ⟨51, [(1, .d .np), (3, .d .np), (5, .own 2 2 0 v5.length), (32, .b ((v5.length : Int) == 1))], [eR42 ([(⟨5, 7⟩ : api_Pair)] : List api_Pair), eR42 ([(⟨5, 8⟩ : api_Pair)] : List api_Pair), eR44 v5]⟩ ?_
              by_cases c8 : (v5.length : Int) = 1
              · replace H := iT c8 H
                rw [eqT c8]
                refine goK hT 1 (K12 111110 13) ⟨51, [(1, .d .np), (3, .d .np), (32, .b true), (33, .own 2 2 0 v5.length)], [eR42 ([(⟨5, 7⟩ : api_Pair)] : List api_Pair), eR42 ([(⟨5, 8⟩ : api_Pair)] : List api_Pair), eR44 v5]⟩ ?_
                obtain ⟨h9, H⟩ := iC H
                refine ak_idx hT [1, 3, 32, 34] (i := 0) (n := (v5.length : Int)) h9.1 h9.2 (k' := (K12 111110 14)) (st' := ⟨51, [(1, .d .np), (3, .d .np), (32, .b true), (34, .ptr 2 2 0 0)], [eR42 ([(⟨5, 7⟩ : api_Pair)] : List api_Pair), eR42 ([(⟨5, 8⟩ : api_Pair)] : List api_Pair), eR44 v5]⟩) (by kernel_rfl) ?_
                refine ak_ld hT [1, 3, 32, 35] (i := 0) (n := v5.length) (by omega) (k' := (K12 111110 15)) (st' := ⟨51, [(1, .d .np), (3, .d .np), (32, .b true), (35, .d (eG44 (v5.getD 0 api_Span.z)))], [eR42 ([(⟨5, 7⟩ : api_Pair)] : List api_Pair), eR42 ([(⟨5, 8⟩ : api_Pair)] : List api_Pair), eR44 v5]⟩) (by kernel_rfl) ?_
                refine goK hT 4 (K12 111110 19) ⟨51, [(1, .d .np), (3, .d .np), (39, .b ((((v5.getD 0 api_Span.z).Lo) == 5) && (((v5.getD 0 api_Span.z).Hi) == 6)))], [eR42 ([(⟨5, 7⟩ : api_Pair)] : List api_Pair), eR42 ([(⟨5, 8⟩ : api_Pair)] : List api_Pair), eR44 v5]⟩ ?_
                by_cases c10 : ((v5.getD 0 api_Span.z).Lo) = 5
                · replace H := iT c10 H
                  rw [eqT c10]
                  by_cases c11 : ((v5.getD 0 api_Span.z).Hi) = 6
                  · replace H := iT c11 H
                    rw [eqT c11]
                    refine goK hT 1 (K12 111110 20) ⟨51, [(3, .d .np), (39, .b true), (40, .d .np)], [eR42 ([(⟨5, 7⟩ : api_Pair)] : List api_Pair), eR42 ([(⟨5, 8⟩ : api_Pair)] : List api_Pair), eR44 v5]⟩ ?_
                    obtain ⟨v6, h12, H⟩ := ibC H
                    refine ak_callP (avs := [.d .np]) (dst := some 41) (k' := (K12 111110 21)) [3, 39, 41] [] hP enters_18 (merkle_Tree_Root_n0.says h12) (by kernel_rfl) (hands_none _) (.cons (pass_d _) .nil) (st' := ⟨51, [(3, .d .np), (39, .b true), (41, .n .u32 v6)], [eR42 ([(⟨5, 7⟩ : api_Pair)] : List api_Pair), eR42 ([(⟨5, 8⟩ : api_Pair)] : List api_Pair), eR44 v5]⟩) (by kernel_rfl) ?_
                    refine goK hT 1 (K12 111110 22) ⟨51, [(39, .b true), (41, .n .u32 v6), (42, .d .np)], [eR42 ([(⟨5, 7⟩ : api_Pair)] : List api_Pair), eR42 ([(⟨5, 8⟩ : api_Pair)] : List api_Pair), eR44 v5]⟩ ?_
                    obtain ⟨v7, h13, H⟩ := ibC H
                    refine ak_callP (avs := [.d .np]) (dst := some 43) (k' := (K12 111110 23)) [39, 41, 43] [] hP enters_18 (merkle_Tree_Root_n0.says h13) (by kernel_rfl) (hands_none _) (.cons (pass_d _) .nil) (st' := ⟨51, [(39, .b true), (41, .n .u32 v6), (43, .n .u32 v7)], [eR42 ([(⟨5, 7⟩ : api_Pair)] : List api_Pair), eR42 ([(⟨5, 8⟩ : api_Pair)] : List api_Pair), eR44 v5]⟩) (by kernel_rfl) ?_
                    refine goK hT 3 (K12 111110 26) ⟨51, [(46, .b (v6 != v7))], [eR42 ([(⟨5, 7⟩ : api_Pair)] : List api_Pair), eR42 ([(⟨5, 8⟩ : api_Pair)] : List api_Pair), eR44 v5]⟩ ?_
                    by_cases c14 : v6 = v7
                    · replace H := iT c14 H
                      rw [neF c14]
                      refine goK hT 6 (K12 11111 1) ⟨51, [(0, .b false)], [eR42 ([(⟨5, 7⟩ : api_Pair)] : List api_Pair), eR42 ([(⟨5, 8⟩ : api_Pair)] : List api_Pair), eR44 v5]⟩ ?_
                      refine cutK [] ⟨51, [(0, .b false)], []⟩ h0 ?_
                      exact Jj1 false H
                    · replace H := iF c14 H
                      rw [neT c14]
                      refine goK hT 1 (K12 111110 27) ⟨51, [(46, .b true), (47, .d (.agg [.i 0, .b false]))], [eR42 ([(⟨5, 7⟩ : api_Pair)] : List api_Pair), eR42 ([(⟨5, 8⟩ : api_Pair)] : List api_Pair), eR44 v5]⟩ ?_
                      obtain ⟨v8, h15, H⟩ := ibC H
                      refine ak_callP (avs := [.d (.agg [.i 0, .b false])]) (dst := some 48) (k' := (K12 111110 28)) [46, 48] [] hP enters_19 (merkle_Number.says (⟨0, false⟩ : api_Cell) h15) (by kernel_rfl) (hands_none _) (.cons (pass_d _) .nil) (st' := ⟨51, [(46, .b true), (48, .n .u32 v8)], [eR42 ([(⟨5, 7⟩ : api_Pair)] : List api_Pair), eR42 ([(⟨5, 8⟩ : api_Pair)] : List api_Pair), eR44 v5]⟩) (by kernel_rfl) ?_
                      refine goK hT 4 (K12 11111 1) ⟨51, [(0, .b (v8 == 0))], [eR42 ([(⟨5, 7⟩ : api_Pair)] : List api_Pair), eR42 ([(⟨5, 8⟩ : api_Pair)] : List api_Pair), eR44 v5]⟩ ?_
                      refine cutK [] ⟨51, [(0, .b (v8 == 0))], []⟩ h0 ?_
                      exact Jj1 (v8 == 0) H
                  · replace H := iF c11 H
                    rw [eqF c11]
                    refine goK hT 13 (K12 11111 1) ⟨51, [(0, .b false)], [eR42 ([(⟨5, 7⟩ : api_Pair)] : List api_Pair), eR42 ([(⟨5, 8⟩ : api_Pair)] : List api_Pair), eR44 v5]⟩ ?_
                    refine cutK [] ⟨51, [(0, .b false)], []⟩ h0 ?_
                    exact Jj1 false H
                · replace H := iF c10 H
                  rw [eqF c10]
                  by_cases c16 : ((v5.getD 0 api_Span.z).Hi) = 6
                  · replace H := iT c16 H
                    rw [eqT c16]
                    refine goK hT 13 (K12 11111 1) ⟨51, [(0, .b false)], [eR42 ([(⟨5, 7⟩ : api_Pair)] : List api_Pair), eR42 ([(⟨5, 8⟩ : api_Pair)] : List api_Pair), eR44 v5]⟩ ?_
                    refine cutK [] ⟨51, [(0, .b false)], []⟩ h0 ?_
                    exact Jj1 false H
                  · replace H := iF c16 H
                    rw [eqF c16]
                    refine goK hT 13 (K12 11111 1) ⟨51, [(0, .b false)], [eR42 ([(⟨5, 7⟩ : api_Pair)] : List api_Pair), eR42 ([(⟨5, 8⟩ : api_Pair)] : List api_Pair), eR44 v5]⟩ ?_
                    refine cutK [] ⟨51, [(0, .b false)], []⟩ h0 ?_
                    exact Jj1 false H
              · replace H := iF c8 H
                rw [eqF c8]
                refine goK hT 20 (K12 11111 1) ⟨51, [(0, .b false)], [eR42 ([(⟨5, 7⟩ : api_Pair)] : List api_Pair), eR42 ([(⟨5, 8⟩ : api_Pair)] : List api_Pair), eR44 v5]⟩ ?_
                refine cutK [] ⟨51, [(0, .b false)], []⟩ h0 ?_
                exact Jj1 false H
            · replace H := iF c7 H
              rw [eqF c7]
              refine goK hT 25 (K12 11111 1) ⟨51, [(0, .b false)], [eR42 ([(⟨5, 7⟩ : api_Pair)] : List api_Pair), eR42 ([(⟨5, 8⟩ : api_Pair)] : List api_Pair), eR44 v5]⟩ ?_
              refine cutK [] ⟨51, [(0, .b false)], []⟩ h0 ?_
              exact Jj1 false H
          · replace H := iF c6 H
            rw [eqF c6]
            refine goK hT 29 (K12 11111 1) ⟨51, [(0, .b false)], [eR42 ([(⟨5, 7⟩ : api_Pair)] : List api_Pair), eR42 ([(⟨5, 8⟩ : api_Pair)] : List api_Pair), eR44 v5]⟩ ?_
            refine cutK [] ⟨51, [(0, .b false)], []⟩ h0 ?_
            exact Jj1 false H
      | some v4 =>
          rw [q4] at H
          replace H := ioptS H
          have Sq4 := merkle_New.says (t0 := false) ([(⟨5, 8⟩ : api_Pair)] : List api_Pair) h3
          rw [q4] at Sq4
          refine ak_callP (avs := [.own 1 2 0 (([(⟨5, 8⟩ : api_Pair)] : List api_Pair).length)]) (dst := some 15) (k' := (K12 1110 3)) [1, 2, 15] [] hP enters_10 (Sq4) (by kernel_rfl) (hands_none _) (.cons (.lend (ty := 42) (by kernel_rfl) rfl) .nil) (st' := ⟨51, [(1, .d .np), (2, .i v1.2), (15, .tup [.ptr 2 0 0 0, .i v3.2])], [eR42 ([(⟨5, 7⟩ : api_Pair)] : List api_Pair), eR42 ([(⟨5, 8⟩ : api_Pair)] : List api_Pair), eB91 v4]⟩) (by kernel_rfl) ?_
          refine goK hT 10 (K12 11110 2) ⟨51, [(1, .d .np), (2, .i v1.2), (3, .ptr 2 0 0 0), (4, .i v3.2), (18, .d .np), (19, .ptr 2 0 0 0)], [eR42 ([(⟨5, 7⟩ : api_Pair)] : List api_Pair), eR42 ([(⟨5, 8⟩ : api_Pair)] : List api_Pair), eB91 v4]⟩ ?_
          obtain ⟨v9, h17, H⟩ := ibC H
          have Jj2 : ∀ (y2_0 : Bool), (splicelaw20_awake.j2 y2_0) = some r → AK X 12 ((K12 11111 1)) (Back X [] (.b r)) ⟨51, [(0, .b y2_0)], []⟩ := by
            intro y2_0 H
            obtain rfl := retC H
            exact ak_ret hf hX (av := .b y2_0) (by kernel_rfl) [] (sel_of_eq (by kernel_rfl)) (by decide) (by rw [h0]; rfl) (by kernel_rfl) (fun _ h => all_nil h) (.d (.v _))
          refine ak_callP (avs := [.d .np, .ptr 2 0 0 0]) (dst := some 20) (k' := (K12 11110 3)) [1, 2, 3, 4, 20] [2] hP enters_14 (merkle_Diff_n0.says v4 h17) (by kernel_rfl) (hands_one rfl rfl) (.cons (pass_d _) (.cons (.same (.ptr 0 0 0 0)) .nil)) (st' := ⟨51, [(1, .d .np), (2, .i v1.2), (3, .ptr 2 0 0 0), (4, .i v3.2), (20, .own 3 2 0 v9.length)], [eR42 ([(⟨5, 7⟩ : api_Pair)] : List api_Pair), eR42 ([(⟨5, 8⟩ : api_Pair)] : List api_Pair), eB91 v4, eR44 v9]⟩) (by kernel_rfl) ?_
          refine goK hT 7 (K12 111110 3) ⟨51, [(1, .d .np), (3, .ptr 2 0 0 0), (4, .i v3.2), (5, .own 3 2 0 v9.length), (23, .b (v1.2 == 0))], [eR42 ([(⟨5, 7⟩ : api_Pair)] : List api_Pair), eR42 ([(⟨5, 8⟩ : api_Pair)] : List api_Pair), eB91 v4, eR44 v9]⟩ ?_
          by_cases c18 : v1.2 = 0
          · replace H := iT c18 H
            rw [eqT c18]
            refine goK hT 4 (K12 111110 7) ⟨51, [(1, .d .np), (3, .ptr 2 0 0 0), (5, .own 3 2 0 v9.length), (27, .b (v3.2 == 0))], [eR42 ([(⟨5, 7⟩ : api_Pair)] : List api_Pair), eR42 ([(⟨5, 8⟩ : api_Pair)] : List api_Pair), eB91 v4, eR44 v9]⟩ ?_
            by_cases c19 : v3.2 = 0
            · replace H := iT c19 H
              rw [eqT c19]
              refine goK hT 5 (K12 111110 12) ⟨51, [(1, .d .np), (3, .ptr 2 0 0 0), (5, .own 3 2 0 v9.length), (32, .b ((v9.length : Int) == 1))], [eR42 ([(⟨5, 7⟩ : api_Pair)] : List api_Pair), eR42 ([(⟨5, 8⟩ : api_Pair)] : List api_Pair), eB91 v4, eR44 v9]⟩ ?_
              by_cases c20 : (v9.length : Int) = 1
              · replace H := iT c20 H
                rw [eqT c20]
                refine goK hT 1 (K12 111110 13) ⟨51, [(1, .d .np), (3, .ptr 2 0 0 0), (32, .b true), (33, .own 3 2 0 v9.length)], [eR42 ([(⟨5, 7⟩ : api_Pair)] : List api_Pair), eR42 ([(⟨5, 8⟩ : api_Pair)] : List api_Pair), eB91 v4, eR44 v9]⟩ ?_
                obtain ⟨h21, H⟩ := iC H
                refine ak_idx hT [1, 3, 32, 34] (i := 0) (n := (v9.length : Int)) h21.1 h21.2 (k' := (K12 111110 14)) (st' := ⟨51, [(1, .d .np), (3, .ptr 2 0 0 0), (32, .b true), (34, .ptr 3 2 0 0)], [eR42 ([(⟨5, 7⟩ : api_Pair)] : List api_Pair), eR42 ([(⟨5, 8⟩ : api_Pair)] : List api_Pair), eB91 v4, eR44 v9]⟩) (by kernel_rfl) ?_
                refine ak_ld hT [1, 3, 32, 35] (i := 0) (n := v9.length) (by omega) (k' := (K12 111110 15)) (st' := ⟨51, [(1, .d .np), (3, .ptr 2 0 0 0), (32, .b true), (35, .d (eG44 (v9.getD 0 api_Span.z)))], [eR42 ([(⟨5, 7⟩ : api_Pair)] : List api_Pair), eR42 ([(⟨5, 8⟩ : api_Pair)] : List api_Pair), eB91 v4, eR44 v9]⟩) (by kernel_rfl) ?_
                refine goK hT 4 (K12 111110 19) ⟨51, [(1, .d .np), (3, .ptr 2 0 0 0), (39, .b ((((v9.getD 0 api_Span.z).Lo) == 5) && (((v9.getD 0 api_Span.z).Hi) == 6)))], [eR42 ([(⟨5, 7⟩ : api_Pair)] : List api_Pair), eR42 ([(⟨5, 8⟩ : api_Pair)] : List api_Pair), eB91 v4, eR44 v9]⟩ ?_
                by_cases c22 : ((v9.getD 0 api_Span.z).Lo) = 5
                · replace H := iT c22 H
                  rw [eqT c22]
                  by_cases c23 : ((v9.getD 0 api_Span.z).Hi) = 6
                  · replace H := iT c23 H
                    rw [eqT c23]
                    refine goK hT 1 (K12 111110 20) ⟨51, [(3, .ptr 2 0 0 0), (39, .b true), (40, .d .np)], [eR42 ([(⟨5, 7⟩ : api_Pair)] : List api_Pair), eR42 ([(⟨5, 8⟩ : api_Pair)] : List api_Pair), eB91 v4, eR44 v9]⟩ ?_
                    obtain ⟨v10, h24, H⟩ := ibC H
                    refine ak_callP (avs := [.d .np]) (dst := some 41) (k' := (K12 111110 21)) [3, 39, 41] [] hP enters_18 (merkle_Tree_Root_n0.says h24) (by kernel_rfl) (hands_none _) (.cons (pass_d _) .nil) (st' := ⟨51, [(3, .ptr 2 0 0 0), (39, .b true), (41, .n .u32 v10)], [eR42 ([(⟨5, 7⟩ : api_Pair)] : List api_Pair), eR42 ([(⟨5, 8⟩ : api_Pair)] : List api_Pair), eB91 v4, eR44 v9]⟩) (by kernel_rfl) ?_
                    refine goK hT 1 (K12 111110 22) ⟨51, [(39, .b true), (41, .n .u32 v10), (42, .ptr 2 0 0 0)], [eR42 ([(⟨5, 7⟩ : api_Pair)] : List api_Pair), eR42 ([(⟨5, 8⟩ : api_Pair)] : List api_Pair), eB91 v4, eR44 v9]⟩ ?_
                    refine ak_callP (avs := [.ptr 2 0 0 0]) (dst := some 43) (k' := (K12 111110 23)) [39, 41, 43] [2] hP enters_18 (merkle_Tree_Root.says v4) (by kernel_rfl) (hands_one rfl rfl) (.cons (.same (.ptr 0 0 0 0)) .nil) (st' := ⟨51, [(39, .b true), (41, .n .u32 v10), (43, .n .u32 (merkle_Tree_Root v4))], [eR42 ([(⟨5, 7⟩ : api_Pair)] : List api_Pair), eR42 ([(⟨5, 8⟩ : api_Pair)] : List api_Pair), eB91 v4, eR44 v9]⟩) (by kernel_rfl) ?_
                    refine goK hT 3 (K12 111110 26) ⟨51, [(46, .b (v10 != (merkle_Tree_Root v4)))], [eR42 ([(⟨5, 7⟩ : api_Pair)] : List api_Pair), eR42 ([(⟨5, 8⟩ : api_Pair)] : List api_Pair), eB91 v4, eR44 v9]⟩ ?_
                    by_cases c25 : v10 = (merkle_Tree_Root v4)
                    · replace H := iT c25 H
                      rw [neF c25]
                      refine goK hT 6 (K12 11111 1) ⟨51, [(0, .b false)], [eR42 ([(⟨5, 7⟩ : api_Pair)] : List api_Pair), eR42 ([(⟨5, 8⟩ : api_Pair)] : List api_Pair), eB91 v4, eR44 v9]⟩ ?_
                      refine cutK [] ⟨51, [(0, .b false)], []⟩ h0 ?_
                      exact Jj2 false H
                    · replace H := iF c25 H
                      rw [neT c25]
                      refine goK hT 1 (K12 111110 27) ⟨51, [(46, .b true), (47, .d (.agg [.i 0, .b false]))], [eR42 ([(⟨5, 7⟩ : api_Pair)] : List api_Pair), eR42 ([(⟨5, 8⟩ : api_Pair)] : List api_Pair), eB91 v4, eR44 v9]⟩ ?_
                      obtain ⟨v11, h26, H⟩ := ibC H
                      refine ak_callP (avs := [.d (.agg [.i 0, .b false])]) (dst := some 48) (k' := (K12 111110 28)) [46, 48] [] hP enters_19 (merkle_Number.says (⟨0, false⟩ : api_Cell) h26) (by kernel_rfl) (hands_none _) (.cons (pass_d _) .nil) (st' := ⟨51, [(46, .b true), (48, .n .u32 v11)], [eR42 ([(⟨5, 7⟩ : api_Pair)] : List api_Pair), eR42 ([(⟨5, 8⟩ : api_Pair)] : List api_Pair), eB91 v4, eR44 v9]⟩) (by kernel_rfl) ?_
                      refine goK hT 4 (K12 11111 1) ⟨51, [(0, .b (v11 == 0))], [eR42 ([(⟨5, 7⟩ : api_Pair)] : List api_Pair), eR42 ([(⟨5, 8⟩ : api_Pair)] : List api_Pair), eB91 v4, eR44 v9]⟩ ?_
                      refine cutK [] ⟨51, [(0, .b (v11 == 0))], []⟩ h0 ?_
                      exact Jj2 (v11 == 0) H
                  · replace H := iF c23 H
                    rw [eqF c23]
                    refine goK hT 13 (K12 11111 1) ⟨51, [(0, .b false)], [eR42 ([(⟨5, 7⟩ : api_Pair)] : List api_Pair), eR42 ([(⟨5, 8⟩ : api_Pair)] : List api_Pair), eB91 v4, eR44 v9]⟩ ?_
                    refine cutK [] ⟨51, [(0, .b false)], []⟩ h0 ?_
                    exact Jj2 false H
                · replace H := iF c22 H
                  rw [eqF c22]
                  by_cases c27 : ((v9.getD 0 api_Span.z).Hi) = 6
                  · replace H := iT c27 H
                    rw [eqT c27]
                    refine goK hT 13 (K12 11111 1) ⟨51, [(0, .b false)], [eR42 ([(⟨5, 7⟩ : api_Pair)] : List api_Pair), eR42 ([(⟨5, 8⟩ : api_Pair)] : List api_Pair), eB91 v4, eR44 v9]⟩ ?_
                    refine cutK [] ⟨51, [(0, .b false)], []⟩ h0 ?_
                    exact Jj2 false H
                  · replace H := iF c27 H
                    rw [eqF c27]
                    refine goK hT 13 (K12 11111 1) ⟨51, [(0, .b false)], [eR42 ([(⟨5, 7⟩ : api_Pair)] : List api_Pair), eR42 ([(⟨5, 8⟩ : api_Pair)] : List api_Pair), eB91 v4, eR44 v9]⟩ ?_
                    refine cutK [] ⟨51, [(0, .b false)], []⟩ h0 ?_
                    exact Jj2 false H
              · replace H := iF c20 H
                rw [eqF c20]
                refine goK hT 20 (K12 11111 1) ⟨51, [(0, .b false)], [eR42 ([(⟨5, 7⟩ : api_Pair)] : List api_Pair), eR42 ([(⟨5, 8⟩ : api_Pair)] : List api_Pair), eB91 v4, eR44 v9]⟩ ?_
                refine cutK [] ⟨51, [(0, .b false)], []⟩ h0 ?_
                exact Jj2 false H
            · replace H := iF c19 H
              rw [eqF c19]
              refine goK hT 25 (K12 11111 1) ⟨51, [(0, .b false)], [eR42 ([(⟨5, 7⟩ : api_Pair)] : List api_Pair), eR42 ([(⟨5, 8⟩ : api_Pair)] : List api_Pair), eB91 v4, eR44 v9]⟩ ?_
              refine cutK [] ⟨51, [(0, .b false)], []⟩ h0 ?_
              exact Jj2 false H
          · replace H := iF c18 H
            rw [eqF c18]
            refine goK hT 29 (K12 11111 1) ⟨51, [(0, .b false)], [eR42 ([(⟨5, 7⟩ : api_Pair)] : List api_Pair), eR42 ([(⟨5, 8⟩ : api_Pair)] : List api_Pair), eB91 v4, eR44 v9]⟩ ?_
            refine cutK [] ⟨51, [(0, .b false)], []⟩ h0 ?_
            exact Jj2 false H
  | some v2 =>
      rw [q2] at H
      replace H := ioptS H
      have Sq2 := merkle_New.says (t0 := false) ([(⟨5, 7⟩ : api_Pair)] : List api_Pair) h1
      rw [q2] at Sq2
      refine ak_callP (avs := [.own 0 2 0 (([(⟨5, 7⟩ : api_Pair)] : List api_Pair).length)]) (dst := some 9) (k' := (K12 110 3)) [9] [] hP enters_10 (Sq2) (by kernel_rfl) (hands_none _) (.cons (.lend (ty := 42) (by kernel_rfl) rfl) .nil) (st' := ⟨51, [(9, .tup [.ptr 1 0 0 0, .i v1.2])], [eR42 ([(⟨5, 7⟩ : api_Pair)] : List api_Pair), eB91 v2]⟩) (by kernel_rfl) ?_
      refine goK hT 10 (K12 1110 2) ⟨51, [(1, .ptr 1 0 0 0), (2, .i v1.2), (14, .own 2 2 0 1)], [eR42 ([(⟨5, 7⟩ : api_Pair)] : List api_Pair), eB91 v2, .flat false 2 42 1 (fun j => [[.i 5, .i 8]].getD j [])]⟩ ?_
      refine ak_row 2 (kk := 2) (fz := false) (ty := 42) (n := ([(⟨5, 8⟩ : api_Pair)] : List api_Pair).length) (vec api_Pair.e api_Pair.z ([(⟨5, 8⟩ : api_Pair)] : List api_Pair)) (by kernel_rfl) vec_lit (st' := ⟨51, [(1, .ptr 1 0 0 0), (2, .i v1.2), (14, .own 2 2 0 (([(⟨5, 8⟩ : api_Pair)] : List api_Pair).length))], [eR42 ([(⟨5, 7⟩ : api_Pair)] : List api_Pair), eB91 v2, eR42 ([(⟨5, 8⟩ : api_Pair)] : List api_Pair)]⟩) (by kernel_rfl) ?_
      obtain ⟨v12, h28, H⟩ := ibC H
      cases q29 : v12.1 with
      | none =>
          rw [q29] at H
          replace H := ioptN H
          have Sq29 := merkle_New.says (t0 := false) ([(⟨5, 8⟩ : api_Pair)] : List api_Pair) h28
          rw [q29] at Sq29
          refine ak_callP (avs := [.own 2 2 0 (([(⟨5, 8⟩ : api_Pair)] : List api_Pair).length)]) (dst := some 15) (k' := (K12 1110 3)) [1, 2, 15] [] hP enters_10 (Sq29) (by kernel_rfl) (hands_none _) (.cons (.lend (ty := 42) (by kernel_rfl) rfl) .nil) (st' := ⟨51, [(1, .ptr 1 0 0 0), (2, .i v1.2), (15, .tup [.d .np, .i v12.2])], [eR42 ([(⟨5, 7⟩ : api_Pair)] : List api_Pair), eB91 v2, eR42 ([(⟨5, 8⟩ : api_Pair)] : List api_Pair)]⟩) (by kernel_rfl) ?_
          refine goK hT 10 (K12 11110 2) ⟨51, [(1, .ptr 1 0 0 0), (2, .i v1.2), (3, .d .np), (4, .i v12.2), (18, .ptr 1 0 0 0), (19, .d .np)], [eR42 ([(⟨5, 7⟩ : api_Pair)] : List api_Pair), eB91 v2, eR42 ([(⟨5, 8⟩ : api_Pair)] : List api_Pair)]⟩ ?_
          obtain ⟨v14, h30, H⟩ := ibC H
          have Jj3 : ∀ (y3_0 : Bool), (splicelaw20_awake.j3 y3_0) = some r → AK X 12 ((K12 11111 1)) (Back X [] (.b r)) ⟨51, [(0, .b y3_0)], []⟩ := by
            intro y3_0 H
            obtain rfl := retC H
            exact ak_ret hf hX (av := .b y3_0) (by kernel_rfl) [] (sel_of_eq (by kernel_rfl)) (by decide) (by rw [h0]; rfl) (by kernel_rfl) (fun _ h => all_nil h) (.d (.v _))
          refine ak_callP (avs := [.ptr 1 0 0 0, .d .np]) (dst := some 20) (k' := (K12 11110 3)) [1, 2, 3, 4, 20] [1] hP enters_14 (merkle_Diff_n1.says v2 h30) (by kernel_rfl) (hands_one rfl rfl) (.cons (.same (.ptr 0 0 0 0)) (.cons (pass_d _) .nil)) (st' := ⟨51, [(1, .ptr 1 0 0 0), (2, .i v1.2), (3, .d .np), (4, .i v12.2), (20, .own 3 2 0 v14.length)], [eR42 ([(⟨5, 7⟩ : api_Pair)] : List api_Pair), eB91 v2, eR42 ([(⟨5, 8⟩ : api_Pair)] : List api_Pair), eR44 v14]⟩) (by kernel_rfl) ?_
          refine goK hT 7 (K12 111110 3) ⟨51, [(1, .ptr 1 0 0 0), (3, .d .np), (4, .i v12.2), (5, .own 3 2 0 v14.length), (23, .b (v1.2 == 0))], [eR42 ([(⟨5, 7⟩ : api_Pair)] : List api_Pair), eB91 v2, eR42 ([(⟨5, 8⟩ : api_Pair)] : List api_Pair), eR44 v14]⟩ ?_
          by_cases c31 : v1.2 = 0
          · replace H := iT c31 H
            rw [eqT c31]
            refine goK hT 4 (K12 111110 7) ⟨51, [(1, .ptr 1 0 0 0), (3, .d .np), (5, .own 3 2 0 v14.length), (27, .b (v12.2 == 0))], [eR42 ([(⟨5, 7⟩ : api_Pair)] : List api_Pair), eB91 v2, eR42 ([(⟨5, 8⟩ : api_Pair)] : List api_Pair), eR44 v14]⟩ ?_
            by_cases c32 : v12.2 = 0
            · replace H := iT c32 H
              rw [eqT c32]
              refine goK hT 5 (K12 111110 12) ⟨51, [(1, .ptr 1 0 0 0), (3, .d .np), (5, .own 3 2 0 v14.length), (32, .b ((v14.length : Int) == 1))], [eR42 ([(⟨5, 7⟩ : api_Pair)] : List api_Pair), eB91 v2, eR42 ([(⟨5, 8⟩ : api_Pair)] : List api_Pair), eR44 v14]⟩ ?_
              by_cases c33 : (v14.length : Int) = 1
              · replace H := iT c33 H
                rw [eqT c33]
                refine goK hT 1 (K12 111110 13) ⟨51, [(1, .ptr 1 0 0 0), (3, .d .np), (32, .b true), (33, .own 3 2 0 v14.length)], [eR42 ([(⟨5, 7⟩ : api_Pair)] : List api_Pair), eB91 v2, eR42 ([(⟨5, 8⟩ : api_Pair)] : List api_Pair), eR44 v14]⟩ ?_
                obtain ⟨h34, H⟩ := iC H
                refine ak_idx hT [1, 3, 32, 34] (i := 0) (n := (v14.length : Int)) h34.1 h34.2 (k' := (K12 111110 14)) (st' := ⟨51, [(1, .ptr 1 0 0 0), (3, .d .np), (32, .b true), (34, .ptr 3 2 0 0)], [eR42 ([(⟨5, 7⟩ : api_Pair)] : List api_Pair), eB91 v2, eR42 ([(⟨5, 8⟩ : api_Pair)] : List api_Pair), eR44 v14]⟩) (by kernel_rfl) ?_
                refine ak_ld hT [1, 3, 32, 35] (i := 0) (n := v14.length) (by omega) (k' := (K12 111110 15)) (st' := ⟨51, [(1, .ptr 1 0 0 0), (3, .d .np), (32, .b true), (35, .d (eG44 (v14.getD 0 api_Span.z)))], [eR42 ([(⟨5, 7⟩ : api_Pair)] : List api_Pair), eB91 v2, eR42 ([(⟨5, 8⟩ : api_Pair)] : List api_Pair), eR44 v14]⟩) (by kernel_rfl) ?_
                refine goK hT 4 (K12 111110 19) ⟨51, [(1, .ptr 1 0 0 0), (3, .d .np), (39, .b ((((v14.getD 0 api_Span.z).Lo) == 5) && (((v14.getD 0 api_Span.z).Hi) == 6)))], [eR42 ([(⟨5, 7⟩ : api_Pair)] : List api_Pair), eB91 v2, eR42 ([(⟨5, 8⟩ : api_Pair)] : List api_Pair), eR44 v14]⟩ ?_
                by_cases c35 : ((v14.getD 0 api_Span.z).Lo) = 5
                · replace H := iT c35 H
                  rw [eqT c35]
                  by_cases c36 : ((v14.getD 0 api_Span.z).Hi) = 6
                  · replace H := iT c36 H
                    rw [eqT c36]
                    refine goK hT 1 (K12 111110 20) ⟨51, [(3, .d .np), (39, .b true), (40, .ptr 1 0 0 0)], [eR42 ([(⟨5, 7⟩ : api_Pair)] : List api_Pair), eB91 v2, eR42 ([(⟨5, 8⟩ : api_Pair)] : List api_Pair), eR44 v14]⟩ ?_
                    refine ak_callP (avs := [.ptr 1 0 0 0]) (dst := some 41) (k' := (K12 111110 21)) [3, 39, 41] [1] hP enters_18 (merkle_Tree_Root.says v2) (by kernel_rfl) (hands_one rfl rfl) (.cons (.same (.ptr 0 0 0 0)) .nil) (st' := ⟨51, [(3, .d .np), (39, .b true), (41, .n .u32 (merkle_Tree_Root v2))], [eR42 ([(⟨5, 7⟩ : api_Pair)] : List api_Pair), eB91 v2, eR42 ([(⟨5, 8⟩ : api_Pair)] : List api_Pair), eR44 v14]⟩) (by kernel_rfl) ?_
                    refine goK hT 1 (K12 111110 22) ⟨51, [(39, .b true), (41, .n .u32 (merkle_Tree_Root v2)), (42, .d .np)], [eR42 ([(⟨5, 7⟩ : api_Pair)] : List api_Pair), eB91 v2, eR42 ([(⟨5, 8⟩ : api_Pair)] : List api_Pair), eR44 v14]⟩ ?_
                    obtain ⟨v15, h37, H⟩ := ibC H
                    refine ak_callP (avs := [.d .np]) (dst := some 43) (k' := (K12 111110 23)) [39, 41, 43] [] hP enters_18 (merkle_Tree_Root_n0.says h37) (by kernel_rfl) (hands_none _) (.cons (pass_d _) .nil) (st' := ⟨51, [(39, .b true), (41, .n .u32 (merkle_Tree_Root v2)), (43, .n .u32 v15)], [eR42 ([(⟨5, 7⟩ : api_Pair)] : List api_Pair), eB91 v2, eR42 ([(⟨5, 8⟩ : api_Pair)] : List api_Pair), eR44 v14]⟩) (by kernel_rfl) ?_
                    refine goK hT 3 (K12 111110 26) ⟨51, [(46, .b ((merkle_Tree_Root v2) != v15))], [eR42 ([(⟨5, 7⟩ : api_Pair)] : List api_Pair), eB91 v2, eR42 ([(⟨5, 8⟩ : api_Pair)] : List api_Pair), eR44 v14]⟩ ?_
                    by_cases c38 : (merkle_Tree_Root v2) = v15
                    · replace H := iT c38 H
                      rw [neF c38]
                      refine goK hT 6 (K12 11111 1) ⟨51, [(0, .b false)], [eR42 ([(⟨5, 7⟩ : api_Pair)] : List api_Pair), eB91 v2, eR42 ([(⟨5, 8⟩ : api_Pair)] : List api_Pair), eR44 v14]⟩ ?_
                      refine cutK [] ⟨51, [(0, .b false)], []⟩ h0 ?_
                      exact Jj3 false H
                    · replace H := iF c38 H
                      rw [neT c38]
                      refine goK hT 1 (K12 111110 27) ⟨51, [(46, .b true), (47, .d (.agg [.i 0, .b false]))], [eR42 ([(⟨5, 7⟩ : api_Pair)] : List api_Pair), eB91 v2, eR42 ([(⟨5, 8⟩ : api_Pair)] : List api_Pair), eR44 v14]⟩ ?_
                      obtain ⟨v16, h39, H⟩ := ibC H
                      refine ak_callP (avs := [.d (.agg [.i 0, .b false])]) (dst := some 48) (k' := (K12 111110 28)) [46, 48] [] hP enters_19 (merkle_Number.says (⟨0, false⟩ : api_Cell) h39) (by kernel_rfl) (hands_none _) (.cons (pass_d _) .nil) (st' := ⟨51, [(46, .b true), (48, .n .u32 v16)], [eR42 ([(⟨5, 7⟩ : api_Pair)] : List api_Pair), eB91 v2, eR42 ([(⟨5, 8⟩ : api_Pair)] : List api_Pair), eR44 v14]⟩) (by kernel_rfl) ?_
                      refine goK hT 4 (K12 11111 1) ⟨51, [(0, .b (v16 == 0))], [eR42 ([(⟨5, 7⟩ : api_Pair)] : List api_Pair), eB91 v2, eR42 ([(⟨5, 8⟩ : api_Pair)] : List api_Pair), eR44 v14]⟩ ?_
                      refine cutK [] ⟨51, [(0, .b (v16 == 0))], []⟩ h0 ?_
                      exact Jj3 (v16 == 0) H
                  · replace H := iF c36 H
                    rw [eqF c36]
                    refine goK hT 13 (K12 11111 1) ⟨51, [(0, .b false)], [eR42 ([(⟨5, 7⟩ : api_Pair)] : List api_Pair), eB91 v2, eR42 ([(⟨5, 8⟩ : api_Pair)] : List api_Pair), eR44 v14]⟩ ?_
                    refine cutK [] ⟨51, [(0, .b false)], []⟩ h0 ?_
                    exact Jj3 false H
                · replace H := iF c35 H
                  rw [eqF c35]
                  by_cases c40 : ((v14.getD 0 api_Span.z).Hi) = 6
                  · replace H := iT c40 H
                    rw [eqT c40]
                    refine goK hT 13 (K12 11111 1) ⟨51, [(0, .b false)], [eR42 ([(⟨5, 7⟩ : api_Pair)] : List api_Pair), eB91 v2, eR42 ([(⟨5, 8⟩ : api_Pair)] : List api_Pair), eR44 v14]⟩ ?_
                    refine cutK [] ⟨51, [(0, .b false)], []⟩ h0 ?_
                    exact Jj3 false H
                  · replace H := iF c40 H
                    rw [eqF c40]
                    refine goK hT 13 (K12 11111 1) ⟨51, [(0, .b false)], [eR42 ([(⟨5, 7⟩ : api_Pair)] : List api_Pair), eB91 v2, eR42 ([(⟨5, 8⟩ : api_Pair)] : List api_Pair), eR44 v14]⟩ ?_
                    refine cutK [] ⟨51, [(0, .b false)], []⟩ h0 ?_
                    exact Jj3 false H
              · replace H := iF c33 H
                rw [eqF c33]
                refine goK hT 20 (K12 11111 1) ⟨51, [(0, .b false)], [eR42 ([(⟨5, 7⟩ : api_Pair)] : List api_Pair), eB91 v2, eR42 ([(⟨5, 8⟩ : api_Pair)] : List api_Pair), eR44 v14]⟩ ?_
                refine cutK [] ⟨51, [(0, .b false)], []⟩ h0 ?_
                exact Jj3 false H
            · replace H := iF c32 H
              rw [eqF c32]
              refine goK hT 25 (K12 11111 1) ⟨51, [(0, .b false)], [eR42 ([(⟨5, 7⟩ : api_Pair)] : List api_Pair), eB91 v2, eR42 ([(⟨5, 8⟩ : api_Pair)] : List api_Pair), eR44 v14]⟩ ?_
              refine cutK [] ⟨51, [(0, .b false)], []⟩ h0 ?_
              exact Jj3 false H
          · replace H := iF c31 H
            rw [eqF c31]
            refine goK hT 29 (K12 11111 1) ⟨51, [(0, .b false)], [eR42 ([(⟨5, 7⟩ : api_Pair)] : List api_Pair), eB91 v2, eR42 ([(⟨5, 8⟩ : api_Pair)] : List api_Pair), eR44 v14]⟩ ?_
            refine cutK [] ⟨51, [(0, .b false)], []⟩ h0 ?_
            exact Jj3 false H
      | some v13 =>
          rw [q29] at H
          replace H := ioptS H
          have Sq29 := merkle_New.says (t0 := false) ([(⟨5, 8⟩ : api_Pair)] : List api_Pair) h28
          rw [q29] at Sq29
          refine ak_callP (avs := [.own 2 2 0 (([(⟨5, 8⟩ : api_Pair)] : List api_Pair).length)]) (dst := some 15) (k' := (K12 1110 3)) [1, 2, 15] [] hP enters_10 (Sq29) (by kernel_rfl) (hands_none _) (.cons (.lend (ty := 42) (by kernel_rfl) rfl) .nil) (st' := ⟨51, [(1, .ptr 1 0 0 0), (2, .i v1.2), (15, .tup [.ptr 3 0 0 0, .i v12.2])], [eR42 ([(⟨5, 7⟩ : api_Pair)] : List api_Pair), eB91 v2, eR42 ([(⟨5, 8⟩ : api_Pair)] : List api_Pair), eB91 v13]⟩) (by kernel_rfl) ?_
          refine goK hT 10 (K12 11110 2) ⟨51, [(1, .ptr 1 0 0 0), (2, .i v1.2), (3, .ptr 3 0 0 0), (4, .i v12.2), (18, .ptr 1 0 0 0), (19, .ptr 3 0 0 0)], [eR42 ([(⟨5, 7⟩ : api_Pair)] : List api_Pair), eB91 v2, eR42 ([(⟨5, 8⟩ : api_Pair)] : List api_Pair), eB91 v13]⟩ ?_
          obtain ⟨v17, h41, H⟩ := ibC H
          have Jj4 : ∀ (y4_0 : Bool), (splicelaw20_awake.j4 y4_0) = some r → AK X 12 ((K12 11111 1)) (Back X [] (.b r)) ⟨51, [(0, .b y4_0)], []⟩ := by
            intro y4_0 H
            obtain rfl := retC H
            exact ak_ret hf hX (av := .b y4_0) (by kernel_rfl) [] (sel_of_eq (by kernel_rfl)) (by decide) (by rw [h0]; rfl) (by kernel_rfl) (fun _ h => all_nil h) (.d (.v _))
          refine ak_callP (avs := [.ptr 1 0 0 0, .ptr 3 0 0 0]) (dst := some 20) (k' := (K12 11110 3)) [1, 2, 3, 4, 20] [1, 3] hP enters_14 (merkle_Diff.says v2 v13 h41) (by kernel_rfl) (hands_two rfl rfl rfl rfl (by decide)) (.cons (.same (.ptr 0 0 0 0)) (.cons (.same (.ptr 1 0 0 0)) .nil)) (st' := ⟨51, [(1, .ptr 1 0 0 0), (2, .i v1.2), (3, .ptr 3 0 0 0), (4, .i v12.2), (20, .own 4 2 0 v17.length)], [eR42 ([(⟨5, 7⟩ : api_Pair)] : List api_Pair), eB91 v2, eR42 ([(⟨5, 8⟩ : api_Pair)] : List api_Pair), eB91 v13, eR44 v17]⟩) (by kernel_rfl) ?_
          refine goK hT 7 (K12 111110 3) ⟨51, [(1, .ptr 1 0 0 0), (3, .ptr 3 0 0 0), (4, .i v12.2), (5, .own 4 2 0 v17.length), (23, .b (v1.2 == 0))], [eR42 ([(⟨5, 7⟩ : api_Pair)] : List api_Pair), eB91 v2, eR42 ([(⟨5, 8⟩ : api_Pair)] : List api_Pair), eB91 v13, eR44 v17]⟩ ?_
          by_cases c42 : v1.2 = 0
          · replace H := iT c42 H
            rw [eqT c42]
            refine goK hT 4 (K12 111110 7) ⟨51, [(1, .ptr 1 0 0 0), (3, .ptr 3 0 0 0), (5, .own 4 2 0 v17.length), (27, .b (v12.2 == 0))], [eR42 ([(⟨5, 7⟩ : api_Pair)] : List api_Pair), eB91 v2, eR42 ([(⟨5, 8⟩ : api_Pair)] : List api_Pair), eB91 v13, eR44 v17]⟩ ?_
            by_cases c43 : v12.2 = 0
            · replace H := iT c43 H
              rw [eqT c43]
              refine goK hT 5 (K12 111110 12) ⟨51, [(1, .ptr 1 0 0 0), (3, .ptr 3 0 0 0), (5, .own 4 2 0 v17.length), (32, .b ((v17.length : Int) == 1))], [eR42 ([(⟨5, 7⟩ : api_Pair)] : List api_Pair), eB91 v2, eR42 ([(⟨5, 8⟩ : api_Pair)] : List api_Pair), eB91 v13, eR44 v17]⟩ ?_
              by_cases c44 : (v17.length : Int) = 1
              · replace H := iT c44 H
                rw [eqT c44]
                refine goK hT 1 (K12 111110 13) ⟨51, [(1, .ptr 1 0 0 0), (3, .ptr 3 0 0 0), (32, .b true), (33, .own 4 2 0 v17.length)], [eR42 ([(⟨5, 7⟩ : api_Pair)] : List api_Pair), eB91 v2, eR42 ([(⟨5, 8⟩ : api_Pair)] : List api_Pair), eB91 v13, eR44 v17]⟩ ?_
                obtain ⟨h45, H⟩ := iC H
                refine ak_idx hT [1, 3, 32, 34] (i := 0) (n := (v17.length : Int)) h45.1 h45.2 (k' := (K12 111110 14)) (st' := ⟨51, [(1, .ptr 1 0 0 0), (3, .ptr 3 0 0 0), (32, .b true), (34, .ptr 4 2 0 0)], [eR42 ([(⟨5, 7⟩ : api_Pair)] : List api_Pair), eB91 v2, eR42 ([(⟨5, 8⟩ : api_Pair)] : List api_Pair), eB91 v13, eR44 v17]⟩) (by kernel_rfl) ?_
                refine ak_ld hT [1, 3, 32, 35] (i := 0) (n := v17.length) (by omega) (k' := (K12 111110 15)) (st' := ⟨51, [(1, .ptr 1 0 0 0), (3, .ptr 3 0 0 0), (32, .b true), (35, .d (eG44 (v17.getD 0 api_Span.z)))], [eR42 ([(⟨5, 7⟩ : api_Pair)] : List api_Pair), eB91 v2, eR42 ([(⟨5, 8⟩ : api_Pair)] : List api_Pair), eB91 v13, eR44 v17]⟩) (by kernel_rfl) ?_
                refine goK hT 4 (K12 111110 19) ⟨51, [(1, .ptr 1 0 0 0), (3, .ptr 3 0 0 0), (39, .b ((((v17.getD 0 api_Span.z).Lo) == 5) && (((v17.getD 0 api_Span.z).Hi) == 6)))], [eR42 ([(⟨5, 7⟩ : api_Pair)] : List api_Pair), eB91 v2, eR42 ([(⟨5, 8⟩ : api_Pair)] : List api_Pair), eB91 v13, eR44 v17]⟩ ?_
                by_cases c46 : ((v17.getD 0 api_Span.z).Lo) = 5
                · replace H := iT c46 H
                  rw [eqT c46]
                  by_cases c47 : ((v17.getD 0 api_Span.z).Hi) = 6
                  · replace H := iT c47 H
                    rw [eqT c47]
                    refine goK hT 1 (K12 111110 20) ⟨51, [(3, .ptr 3 0 0 0), (39, .b true), (40, .ptr 1 0 0 0)], [eR42 ([(⟨5, 7⟩ : api_Pair)] : List api_Pair), eB91 v2, eR42 ([(⟨5, 8⟩ : api_Pair)] : List api_Pair), eB91 v13, eR44 v17]⟩ ?_
                    refine ak_callP (avs := [.ptr 1 0 0 0]) (dst := some 41) (k' := (K12 111110 21)) [3, 39, 41] [1] hP enters_18 (merkle_Tree_Root.says v2) (by kernel_rfl) (hands_one rfl rfl) (.cons (.same (.ptr 0 0 0 0)) .nil) (st' := ⟨51, [(3, .ptr 3 0 0 0), (39, .b true), (41, .n .u32 (merkle_Tree_Root v2))], [eR42 ([(⟨5, 7⟩ : api_Pair)] : List api_Pair), eB91 v2, eR42 ([(⟨5, 8⟩ : api_Pair)] : List api_Pair), eB91 v13, eR44 v17]⟩) (by kernel_rfl) ?_
                    refine goK hT 1 (K12 111110 22) ⟨51, [(39, .b true), (41, .n .u32 (merkle_Tree_Root v2)), (42, .ptr 3 0 0 0)], [eR42 ([(⟨5, 7⟩ : api_Pair)] : List api_Pair), eB91 v2, eR42 ([(⟨5, 8⟩ : api_Pair)] : List api_Pair), eB91 v13, eR44 v17]⟩ ?_
                    refine ak_callP (avs := [.ptr 3 0 0 0]) (dst := some 43) (k' := (K12 111110 23)) [39, 41, 43] [3] hP enters_18 (merkle_Tree_Root.says v13) (by kernel_rfl) (hands_one rfl rfl) (.cons (.same (.ptr 0 0 0 0)) .nil) (st' := ⟨51, [(39, .b true), (41, .n .u32 (merkle_Tree_Root v2)), (43, .n .u32 (merkle_Tree_Root v13))], [eR42 ([(⟨5, 7⟩ : api_Pair)] : List api_Pair), eB91 v2, eR42 ([(⟨5, 8⟩ : api_Pair)] : List api_Pair), eB91 v13, eR44 v17]⟩) (by kernel_rfl) ?_
                    refine goK hT 3 (K12 111110 26) ⟨51, [(46, .b ((merkle_Tree_Root v2) != (merkle_Tree_Root v13)))], [eR42 ([(⟨5, 7⟩ : api_Pair)] : List api_Pair), eB91 v2, eR42 ([(⟨5, 8⟩ : api_Pair)] : List api_Pair), eB91 v13, eR44 v17]⟩ ?_
                    by_cases c48 : (merkle_Tree_Root v2) = (merkle_Tree_Root v13)
                    · replace H := iT c48 H
                      rw [neF c48]
                      refine goK hT 6 (K12 11111 1) ⟨51, [(0, .b false)], [eR42 ([(⟨5, 7⟩ : api_Pair)] : List api_Pair), eB91 v2, eR42 ([(⟨5, 8⟩ : api_Pair)] : List api_Pair), eB91 v13, eR44 v17]⟩ ?_
                      refine cutK [] ⟨51, [(0, .b false)], []⟩ h0 ?_
                      exact Jj4 false H
                    · replace H := iF c48 H
                      rw [neT c48]
                      refine goK hT 1 (K12 111110 27) ⟨51, [(46, .b true), (47, .d (.agg [.i 0, .b false]))], [eR42 ([(⟨5, 7⟩ : api_Pair)] : List api_Pair), eB91 v2, eR42 ([(⟨5, 8⟩ : api_Pair)] : List api_Pair), eB91 v13, eR44 v17]⟩ ?_
                      obtain ⟨v18, h49, H⟩ := ibC H
                      refine ak_callP (avs := [.d (.agg [.i 0, .b false])]) (dst := some 48) (k' := (K12 111110 28)) [46, 48] [] hP enters_19 (merkle_Number.says (⟨0, false⟩ : api_Cell) h49) (by kernel_rfl) (hands_none _) (.cons (pass_d _) .nil) (st' := ⟨51, [(46, .b true), (48, .n .u32 v18)], [eR42 ([(⟨5, 7⟩ : api_Pair)] : List api_Pair), eB91 v2, eR42 ([(⟨5, 8⟩ : api_Pair)] : List api_Pair), eB91 v13, eR44 v17]⟩) (by kernel_rfl) ?_
                      refine goK hT 4 (K12 11111 1) ⟨51, [(0, .b (v18 == 0))], [eR42 ([(⟨5, 7⟩ : api_Pair)] : List api_Pair), eB91 v2, eR42 ([(⟨5, 8⟩ : api_Pair)] : List api_Pair), eB91 v13, eR44 v17]⟩ ?_
                      refine cutK [] ⟨51, [(0, .b (v18 == 0))], []⟩ h0 ?_
                      exact Jj4 (v18 == 0) H
                  · replace H := iF c47 H
                    rw [eqF c47]
                    refine goK hT 13 (K12 11111 1) ⟨51, [(0, .b false)], [eR42 ([(⟨5, 7⟩ : api_Pair)] : List api_Pair), eB91 v2, eR42 ([(⟨5, 8⟩ : api_Pair)] : List api_Pair), eB91 v13, eR44 v17]⟩ ?_
                    refine cutK [] ⟨51, [(0, .b false)], []⟩ h0 ?_
                    exact Jj4 false H
                · replace H := iF c46 H
                  rw [eqF c46]
                  by_cases c50 : ((v17.getD 0 api_Span.z).Hi) = 6
                  · replace H := iT c50 H
                    rw [eqT c50]
                    refine goK hT 13 (K12 11111 1) ⟨51, [(0, .b false)], [eR42 ([(⟨5, 7⟩ : api_Pair)] : List api_Pair), eB91 v2, eR42 ([(⟨5, 8⟩ : api_Pair)] : List api_Pair), eB91 v13, eR44 v17]⟩ ?_
                    refine cutK [] ⟨51, [(0, .b false)], []⟩ h0 ?_
                    exact Jj4 false H
                  · replace H := iF c50 H
                    rw [eqF c50]
                    refine goK hT 13 (K12 11111 1) ⟨51, [(0, .b false)], [eR42 ([(⟨5, 7⟩ : api_Pair)] : List api_Pair), eB91 v2, eR42 ([(⟨5, 8⟩ : api_Pair)] : List api_Pair), eB91 v13, eR44 v17]⟩ ?_
                    refine cutK [] ⟨51, [(0, .b false)], []⟩ h0 ?_
                    exact Jj4 false H
              · replace H := iF c44 H
                rw [eqF c44]
                refine goK hT 20 (K12 11111 1) ⟨51, [(0, .b false)], [eR42 ([(⟨5, 7⟩ : api_Pair)] : List api_Pair), eB91 v2, eR42 ([(⟨5, 8⟩ : api_Pair)] : List api_Pair), eB91 v13, eR44 v17]⟩ ?_
                refine cutK [] ⟨51, [(0, .b false)], []⟩ h0 ?_
                exact Jj4 false H
            · replace H := iF c43 H
              rw [eqF c43]
              refine goK hT 25 (K12 11111 1) ⟨51, [(0, .b false)], [eR42 ([(⟨5, 7⟩ : api_Pair)] : List api_Pair), eB91 v2, eR42 ([(⟨5, 8⟩ : api_Pair)] : List api_Pair), eB91 v13, eR44 v17]⟩ ?_
              refine cutK [] ⟨51, [(0, .b false)], []⟩ h0 ?_
              exact Jj4 false H
          · replace H := iF c42 H
            rw [eqF c42]
            refine goK hT 29 (K12 11111 1) ⟨51, [(0, .b false)], [eR42 ([(⟨5, 7⟩ : api_Pair)] : List api_Pair), eB91 v2, eR42 ([(⟨5, 8⟩ : api_Pair)] : List api_Pair), eB91 v13, eR44 v17]⟩ ?_
            refine cutK [] ⟨51, [(0, .b false)], []⟩ h0 ?_
            exact Jj4 false H


theorem splicelaw05_Refs.says {t0 : Bool} (a0 : List api_Pair) {r : List spliceref04_Pair} (H : splicelaw05_Refs a0 = some r) : Says Try.prog 22 [] [.d (eL42 t0 a0)] [eR94 r] (.own 0 2 0 r.length) := by
  refine says_of Try.func22 rfl (nt := 19) rfl (Nat.le_of_ble_eq_true rfl) fun X hP h0 hX => ?_
  have hT : TabOk X.P T := hP ▸ tok
  have hf : X.P.funcs[22]? = some Try.f22 := hP ▸ Try.func22
  refine goK hT 15 (K22 111010 0) ⟨19, [(0, .d (eL42 t0 a0)), (3, .ns), (4, .i 0)], []⟩ ?_
  refine ak_nilS [0, 3, 4] 3 2 94 (vec spliceref04_Pair.e spliceref04_Pair.z []) (st' := ⟨19, [(0, .d (eL42 t0 a0)), (3, .own 0 2 0 0), (4, .i 0)], [eR94 ([] : List spliceref04_Pair)]⟩) (by kernel_rfl) (by kernel_rfl) ?_
  have L : ∀ n, (∀ (x1_4 : Int) (x1_r0 : List spliceref04_Pair), iter (splicelaw05_Refs.step a0) n (.l1 x1_4 x1_r0) = some r → AK X 22 ((K22 111010 0)) (Back X [eR94 r] (.own 0 2 0 r.length)) ⟨19, [(0, .d (eL42 t0 a0)), (3, .own 0 2 0 x1_r0.length), (4, .i x1_4)], [eR94 x1_r0]⟩) := by
    intro n
    induction n with
    | zero => exact fun _ _ H => iter0 H
    | succ n ih =>
      · intro x1_4 x1_r0 H
        refine goK hT 8 (K22 11101000 1) ⟨19, [(0, .d (eL42 t0 a0)), (3, .own 0 2 0 x1_r0.length), (4, .i x1_4), (8, .b (decide (x1_4 < (a0.length : Int))))], [eR94 x1_r0]⟩ ?_
        by_cases c1 : x1_4 < (a0.length : Int)
        · replace H := sT c1 H
          rw [decide_eq_true c1]
          refine goK hT 2 (K22 1110100 1) ⟨19, [(0, .d (eL42 t0 a0)), (3, .own 0 2 0 x1_r0.length), (4, .i x1_4)], [eR94 x1_r0]⟩ ?_
          refine goK hT 6 (K22 1110100100 3) ⟨19, [(0, .d (eL42 t0 a0)), (4, .i x1_4), (11, .own 0 2 0 x1_r0.length), (12, .d (eL42 t0 a0)), (13, .i x1_4)], [eR94 x1_r0]⟩ ?_
          obtain ⟨h2, H⟩ := sC H
          refine ak_idx hT [0, 4, 11, 14] (i := x1_4) (n := (a0.length : Int)) h2.1 h2.2 (k' := (K22 1110100100 4)) (st' := ⟨19, [(0, .d (eL42 t0 a0)), (4, .i x1_4), (11, .own 0 2 0 x1_r0.length), (14, .d (eP42 t0 a0 x1_4.toNat 0))], [eR94 x1_r0]⟩) (by kernel_rfl) ?_
          refine goK hT 2 (K22 1110100100 6) ⟨19, [(0, .d (eL42 t0 a0)), (4, .i x1_4), (11, .own 0 2 0 x1_r0.length), (16, .own 1 2 0 1)], [eR94 x1_r0, .flat false 2 94 1 (fun j => [api_Pair.e (a0.getD x1_4.toNat api_Pair.z)].getD j [])]⟩ ?_
          obtain ⟨h3, H⟩ := sC H
          refine ak_append1 (id := 0) (kk := 2) (by' := 16) (t := 53) (e := 94) (z := [.int .i64 0, .int .i64 0]) (dst := some 17) (id2 := 1) (e2 := 94) (fz := false) (k' := (K22 1110100100 7)) hT spliceref04_Pair.e spliceref04_Pair.z x1_r0 (⟨(a0.getD x1_4.toNat api_Pair.z).Key, (a0.getD x1_4.toNat api_Pair.z).Val⟩ : spliceref04_Pair) [0, 4, 17] (by kernel_rfl) (by kernel_rfl) (by kernel_rfl) (by kernel_rfl) (by kernel_rfl) (by kernel_rfl) (by kernel_rfl) h3 (by omega) (st' := ⟨19, [(0, .d (eL42 t0 a0)), (4, .i x1_4), (17, .own 2 2 0 ((x1_r0 ++ [(⟨(a0.getD x1_4.toNat api_Pair.z).Key, (a0.getD x1_4.toNat api_Pair.z).Val⟩ : spliceref04_Pair)]).length))], [.gone, .flat false 2 94 1 (fun j => [api_Pair.e (a0.getD x1_4.toNat api_Pair.z)].getD j []), eR94 (x1_r0 ++ [(⟨(a0.getD x1_4.toNat api_Pair.z).Key, (a0.getD x1_4.toNat api_Pair.z).Val⟩ : spliceref04_Pair)])]⟩) (by kernel_rfl) ?_
          refine goK hT 9 (K22 111010 0) ⟨19, [(0, .d (eL42 t0 a0)), (3, .own 2 2 0 ((x1_r0 ++ [(⟨(a0.getD x1_4.toNat api_Pair.z).Key, (a0.getD x1_4.toNat api_Pair.z).Val⟩ : spliceref04_Pair)]).length)), (4, .i (IntKind.wrap .i64 (x1_4 + 1)))], [.gone, .flat false 2 94 1 (fun j => [api_Pair.e (a0.getD x1_4.toNat api_Pair.z)].getD j []), eR94 (x1_r0 ++ [(⟨(a0.getD x1_4.toNat api_Pair.z).Key, (a0.getD x1_4.toNat api_Pair.z).Val⟩ : spliceref04_Pair)])]⟩ ?_
          refine cutK [2] ⟨19, [(0, .d (eL42 t0 a0)), (3, .own 0 2 0 (x1_r0 ++ [(⟨(a0.getD x1_4.toNat api_Pair.z).Key, (a0.getD x1_4.toNat api_Pair.z).Val⟩ : spliceref04_Pair)]).length), (4, .i (IntKind.wrap .i64 (x1_4 + 1)))], [eR94 (x1_r0 ++ [(⟨(a0.getD x1_4.toNat api_Pair.z).Key, (a0.getD x1_4.toNat api_Pair.z).Val⟩ : spliceref04_Pair)])]⟩ h0 ?_
          exact ih (IntKind.wrap .i64 (x1_4 + 1)) (x1_r0 ++ [(⟨(a0.getD x1_4.toNat api_Pair.z).Key, (a0.getD x1_4.toNat api_Pair.z).Val⟩ : spliceref04_Pair)]) H
        · replace H := sF c1 H
          rw [decide_eq_false c1]
          refine goK hT 7 (K22 1111 1) ⟨19, [(2, .own 0 2 0 x1_r0.length)], [eR94 x1_r0]⟩ ?_
          obtain rfl := retC H
          exact ak_ret hf hX (av := .own 0 2 0 x1_r0.length) (by kernel_rfl) [0] (sel_of_eq (by kernel_rfl)) (by decide) (by rw [h0]; rfl) (by kernel_rfl) (fun _ h => all_cons (nr_vec spliceref04_Pair.nl) (fun _ h => all_nil h) h) (.own _ _ _ _)
  refine cutK [0] ⟨19, [(0, .d (eL42 t0 a0)), (3, .own 0 2 0 ([] : List spliceref04_Pair).length), (4, .i 0)], [eR94 ([] : List spliceref04_Pair)]⟩ h0 ?_
  obtain ⟨n, H⟩ := loopC H
  exact (L n) 0 ([] : List spliceref04_Pair) H


theorem spliceref02_Sum.says (a0 : ByteArray) {r : Int} (H : spliceref02_Sum a0 = some r) : Says Try.prog 41 [] [.s a0] [] (.n .u32 r) := by
  refine says_of Try.func41 rfl (nt := 37) rfl (Nat.le_of_ble_eq_true rfl) fun X hP h0 hX => ?_
  have hT : TabOk X.P T := hP ▸ tok
  have hf : X.P.funcs[41]? = some Try.f41 := hP ▸ Try.func41
  refine goK hT 15 (K41 111010 0) ⟨37, [(0, .s a0), (3, .n .u32 4294967295), (4, .i 0)], []⟩ ?_
  have L : ∀ n, (∀ (x1_3 : Int) (x1_4 : Int), iter (spliceref02_Sum.step a0) n (.l1 x1_3 x1_4) = some r → AK X 41 ((K41 111010 0)) (Back X [] (.n .u32 r)) ⟨37, [(0, .s a0), (3, .n .u32 x1_3), (4, .i x1_4)], []⟩) ∧ (∀ (x2_3 : Int) (x2_4 : Int) (x2_5 : Int), iter (spliceref02_Sum.step a0) n (.l2 x2_3 x2_4 x2_5) = some r → AK X 41 ((K41 111010010010 0)) (Back X [] (.n .u32 r)) ⟨37, [(0, .s a0), (3, .n .u32 x2_3), (4, .i x2_4), (5, .i x2_5)], []⟩) := by
    intro n
    induction n with
    | zero => exact ⟨fun _ _ H => iter0 H, fun _ _ _ H => iter0 H⟩
    | succ n ih =>
      refine ⟨?_, ?_⟩
      · intro x1_3 x1_4 H
        refine goK hT 8 (K41 11101000 1) ⟨37, [(0, .s a0), (3, .n .u32 x1_3), (4, .i x1_4), (11, .b (decide (x1_4 < (a0.size : Int))))], []⟩ ?_
        by_cases c1 : x1_4 < (a0.size : Int)
        · replace H := sT c1 H
          rw [decide_eq_true c1]
          refine goK hT 2 (K41 1110100 1) ⟨37, [(0, .s a0), (3, .n .u32 x1_3), (4, .i x1_4)], []⟩ ?_
          refine goK hT 8 (K41 111010010010 0) ⟨37, [(0, .s a0), (3, .n .u32 x1_3), (4, .i x1_4), (5, .i 0)], []⟩ ?_
          refine cutK [] ⟨37, [(0, .s a0), (3, .n .u32 x1_3), (4, .i x1_4), (5, .i 0)], []⟩ h0 ?_
          exact ih.2 x1_3 x1_4 0 H
        · replace H := sF c1 H
          rw [decide_eq_false c1]
          refine goK hT 8 (K41 1111 1) ⟨37, [(2, .n .u32 (IntKind.wrap .u32 (4294967295 - x1_3)))], []⟩ ?_
          obtain rfl := retC H
          exact ak_ret hf hX (av := .n .u32 (IntKind.wrap .u32 (4294967295 - x1_3))) (by kernel_rfl) [] (sel_of_eq (by kernel_rfl)) (by decide) (by rw [h0]; rfl) (by kernel_rfl) (fun _ h => all_nil h) (.d (.v _))
      · intro x2_3 x2_4 x2_5 H
        refine goK hT 6 (K41 11101001001000 1) ⟨37, [(0, .s a0), (3, .n .u32 x2_3), (4, .i x2_4), (5, .i x2_5), (15, .b (decide (x2_5 < 8)))], []⟩ ?_
        by_cases c2 : x2_5 < 8
        · replace H := sT c2 H
          rw [decide_eq_true c2]
          refine goK hT 2 (K41 1110100100100 1) ⟨37, [(0, .s a0), (3, .n .u32 x2_3), (4, .i x2_4), (5, .i x2_5)], []⟩ ?_
          refine goK hT 6 (K41 11101001001001000 2) ⟨37, [(0, .s a0), (3, .n .u32 x2_3), (4, .i x2_4), (5, .i x2_5), (18, .s a0), (19, .i x2_4)], []⟩ ?_
          obtain ⟨h3, H⟩ := sC H
          refine ak_idx hT [0, 3, 4, 5, 20] (i := x2_4) (n := (a0.size : Int)) h3.1 h3.2 (k' := (K41 11101001001001000 3)) (st' := ⟨37, [(0, .s a0), (3, .n .u32 x2_3), (4, .i x2_4), (5, .i x2_5), (20, .n .u8 (byteAt a0 x2_4))], []⟩) (by kernel_rfl) ?_
          refine goK hT 2 (K41 11101001001001000 5) ⟨37, [(0, .s a0), (3, .n .u32 x2_3), (4, .i x2_4), (5, .i x2_5), (20, .n .u8 (byteAt a0 x2_4)), (22, .n .u64 (IntKind.wrap .u64 x2_5))], []⟩ ?_
          obtain ⟨h4, H⟩ := sC H
          refine ak_bin (op := .shr) (t := 5) (u := .int .u8 (byteAt a0 x2_4)) (v := .int .u64 (IntKind.wrap .u64 x2_5)) (z := .int .u8 (Int.fdiv (byteAt a0 x2_4) (2 ^ (min (IntKind.wrap .u64 x2_5).toNat 8)))) (dst := some 23) (k' := (K41 11101001001001000 6)) hT [0, 3, 4, 5, 23] (by kernel_rfl) (by simp only [binV, if_pos h4]; rfl) (st' := ⟨37, [(0, .s a0), (3, .n .u32 x2_3), (4, .i x2_4), (5, .i x2_5), (23, .n .u8 (Int.fdiv (byteAt a0 x2_4) (2 ^ (min (IntKind.wrap .u64 x2_5).toNat 8))))], []⟩) (by kernel_rfl) ?_
          refine goK hT 3 (K41 11101001001001000 9) ⟨37, [(0, .s a0), (3, .n .u32 x2_3), (4, .i x2_4), (5, .i x2_5), (6, .n .u32 (Int.tmod (IntKind.wrap .u32 (Int.fdiv (byteAt a0 x2_4) (2 ^ (min (IntKind.wrap .u64 x2_5).toNat 8)))) 2))], []⟩ ?_
          obtain ⟨v1, h5, H⟩ := sdC H
          have Jj1 : ∀ (y1_3 : Int), stk (spliceref02_Sum.j1 x2_4 x2_5 y1_3) (iter (spliceref02_Sum.step a0) n) = some r → AK X 41 ((K41 11101001001001 1)) (Back X [] (.n .u32 r)) ⟨37, [(0, .s a0), (3, .n .u32 y1_3), (4, .i x2_4), (5, .i x2_5)], []⟩ := by
            intro y1_3 H
            refine goK hT 6 (K41 111010010010 0) ⟨37, [(0, .s a0), (3, .n .u32 y1_3), (4, .i x2_4), (5, .i (IntKind.wrap .i64 (x2_5 + 1)))], []⟩ ?_
            refine cutK [] ⟨37, [(0, .s a0), (3, .n .u32 y1_3), (4, .i x2_4), (5, .i (IntKind.wrap .i64 (x2_5 + 1)))], []⟩ h0 ?_
            exact ih.2 y1_3 x2_4 (IntKind.wrap .i64 (x2_5 + 1)) H
          rw [← h5]
          refine goK hT 19 (K41 1110100100100100111 1) ⟨37, [(0, .s a0), (3, .n .u32 (IntKind.wrap .u32 (Int.tdiv x2_3 2))), (4, .i x2_4), (5, .i x2_5), (32, .b ((Int.tmod x2_3 2) != v1))], []⟩ ?_
          by_cases c6 : (Int.tmod x2_3 2) = v1
          · replace H := sT c6 H
            rw [neF c6]
            refine goK hT 3 (K41 11101001001001 1) ⟨37, [(0, .s a0), (3, .n .u32 (IntKind.wrap .u32 (Int.tdiv x2_3 2))), (4, .i x2_4), (5, .i x2_5)], []⟩ ?_
            refine cutK [] ⟨37, [(0, .s a0), (3, .n .u32 (IntKind.wrap .u32 (Int.tdiv x2_3 2))), (4, .i x2_4), (5, .i x2_5)], []⟩ h0 ?_
            exact Jj1 (IntKind.wrap .u32 (Int.tdiv x2_3 2)) H
          · replace H := sF c6 H
            rw [neT c6]
            refine goK hT 7 (K41 11101001001001 1) ⟨37, [(0, .s a0), (3, .n .u32 (bXor .u32 (IntKind.wrap .u32 (Int.tdiv x2_3 2)) 3988292384)), (4, .i x2_4), (5, .i x2_5)], []⟩ ?_
            refine cutK [] ⟨37, [(0, .s a0), (3, .n .u32 (bXor .u32 (IntKind.wrap .u32 (Int.tdiv x2_3 2)) 3988292384)), (4, .i x2_4), (5, .i x2_5)], []⟩ h0 ?_
            exact Jj1 (bXor .u32 (IntKind.wrap .u32 (Int.tdiv x2_3 2)) 3988292384) H
        · replace H := sF c2 H
          rw [decide_eq_false c2]
          refine goK hT 9 (K41 111010 0) ⟨37, [(0, .s a0), (3, .n .u32 x2_3), (4, .i (IntKind.wrap .i64 (x2_4 + 1)))], []⟩ ?_
          refine cutK [] ⟨37, [(0, .s a0), (3, .n .u32 x2_3), (4, .i (IntKind.wrap .i64 (x2_4 + 1)))], []⟩ h0 ?_
          exact ih.1 x2_3 (IntKind.wrap .i64 (x2_4 + 1)) H
  refine cutK [] ⟨37, [(0, .s a0), (3, .n .u32 4294967295), (4, .i 0)], []⟩ h0 ?_
  obtain ⟨n, H⟩ := loopC H
  exact (L n).1 4294967295 0 H


theorem spliceref20_Number.says (a0 : spliceref05_Cell) {r : Int} (H : spliceref20_Number a0 = some r) : Says Try.prog 20 [] [.d (eG51 a0)] [] (.n .u32 r) := by
  refine says_of Try.func20 rfl (nt := 29) rfl (Nat.le_of_ble_eq_true rfl) fun X hP h0 hX => ?_
  have hT : TabOk X.P T := hP ▸ tok
  have hf : X.P.funcs[20]? = some Try.f20 := hP ▸ Try.func20
  refine goK hT 12 (K20 110 1) ⟨29, [(1, .ptr 0 0 0 0), (8, .b (!a0.Some))], [.box 51 (eC51 a0)]⟩ ?_
  by_cases c1 : a0.Some = true
  · replace H := iT c1 H
    rw [c1]
    refine goK hT 2 (K20 11 1) ⟨29, [(1, .ptr 0 0 0 0)], [.box 51 (eC51 a0)]⟩ ?_
    refine goK hT 19 (K20 11111010 0) ⟨29, [(3, .n .u64 (IntKind.wrap .u64 a0.Val)), (4, .own 1 1 0 1), (5, .i 7)], [.box 51 (eC51 a0), .flat false 1 5 1 (fun j => [[.n .u8 1]].getD j [])]⟩ ?_
    refine ak_row 1 (kk := 1) (fz := false) (ty := 5) (n := ([1] : List Int).length) (vec (eI .u8) 0 ([1] : List Int)) (by kernel_rfl) vec_lit (st' := ⟨29, [(3, .n .u64 (IntKind.wrap .u64 a0.Val)), (4, .own 1 1 0 (([1] : List Int).length)), (5, .i 7)], [.box 51 (eC51 a0), eR5 ([1] : List Int)]⟩) (by kernel_rfl) ?_
    have L : ∀ n, (∀ (x1_5 : Int) (x1_r0 : List Int), iter (spliceref20_Number.step a0) n (.l1 x1_5 x1_r0) = some r → AK X 20 ((K20 11111010 0)) (Back X [] (.n .u32 r)) ⟨29, [(3, .n .u64 (IntKind.wrap .u64 a0.Val)), (4, .own 0 1 0 x1_r0.length), (5, .i x1_5)], [eR5 x1_r0]⟩) := by
      intro n
      induction n with
      | zero => exact fun _ _ H => iter0 H
      | succ n ih =>
        · intro x1_5 x1_r0 H
          refine goK hT 6 (K20 1111101000 1) ⟨29, [(3, .n .u64 (IntKind.wrap .u64 a0.Val)), (4, .own 0 1 0 x1_r0.length), (5, .i x1_5), (14, .b (decide (x1_5 ≥ 0)))], [eR5 x1_r0]⟩ ?_
          by_cases c2 : x1_5 ≥ 0
          · replace H := sT c2 H
            rw [decide_eq_true c2]
            refine goK hT 2 (K20 111110100 1) ⟨29, [(3, .n .u64 (IntKind.wrap .u64 a0.Val)), (4, .own 0 1 0 x1_r0.length), (5, .i x1_5)], [eR5 x1_r0]⟩ ?_
            refine goK hT 8 (K20 111110100100 5) ⟨29, [(3, .n .u64 (IntKind.wrap .u64 a0.Val)), (5, .i x1_5), (17, .own 0 1 0 x1_r0.length), (18, .n .u64 (IntKind.wrap .u64 a0.Val)), (21, .n .u64 (IntKind.wrap .u64 (IntKind.wrap .i64 (8 * x1_5))))], [eR5 x1_r0]⟩ ?_
            obtain ⟨h4, H⟩ := sC H
            refine ak_bin (op := .shr) (t := 40) (u := .int .u64 (IntKind.wrap .u64 a0.Val)) (v := .int .u64 (IntKind.wrap .u64 (IntKind.wrap .i64 (8 * x1_5)))) (z := .int .u64 (Int.fdiv (IntKind.wrap .u64 a0.Val) (2 ^ (min (IntKind.wrap .u64 (IntKind.wrap .i64 (8 * x1_5))).toNat 64)))) (dst := some 22) (k' := (K20 111110100100 6)) hT [3, 5, 17, 22] (by kernel_rfl) (by simp only [binV, if_pos h4]; rfl) (st' := ⟨29, [(3, .n .u64 (IntKind.wrap .u64 a0.Val)), (5, .i x1_5), (17, .own 0 1 0 x1_r0.length), (22, .n .u64 (Int.fdiv (IntKind.wrap .u64 a0.Val) (2 ^ (min (IntKind.wrap .u64 (IntKind.wrap .i64 (8 * x1_5))).toNat 64))))], [eR5 x1_r0]⟩) (by kernel_rfl) ?_
            refine goK hT 2 (K20 111110100100 8) ⟨29, [(3, .n .u64 (IntKind.wrap .u64 a0.Val)), (5, .i x1_5), (17, .own 0 1 0 x1_r0.length), (24, .own 1 1 0 1)], [eR5 x1_r0, .flat false 1 5 1 (fun j => [[.n .u8 (IntKind.wrap .u8 (Int.fdiv (IntKind.wrap .u64 a0.Val) (2 ^ (min (IntKind.wrap .u64 (IntKind.wrap .i64 (8 * x1_5))).toNat 64))))]].getD j [])]⟩ ?_
            obtain ⟨h5, H⟩ := sC H
            refine ak_append1 (id := 0) (kk := 1) (by' := 1) (t := 92) (e := 5) (z := [.int .u8 0]) (dst := some 25) (id2 := 1) (e2 := 5) (fz := false) (k' := (K20 111110100100 9)) hT (eI .u8) 0 x1_r0 (IntKind.wrap .u8 (Int.fdiv (IntKind.wrap .u64 a0.Val) (2 ^ (min (IntKind.wrap .u64 (IntKind.wrap .i64 (8 * x1_5))).toNat 64)))) [3, 5, 25] (by kernel_rfl) (by kernel_rfl) (by kernel_rfl) (by kernel_rfl) (by kernel_rfl) (by kernel_rfl) (by kernel_rfl) h5 (by omega) (st' := ⟨29, [(3, .n .u64 (IntKind.wrap .u64 a0.Val)), (5, .i x1_5), (25, .own 2 1 0 ((x1_r0 ++ [IntKind.wrap .u8 (Int.fdiv (IntKind.wrap .u64 a0.Val) (2 ^ (min (IntKind.wrap .u64 (IntKind.wrap .i64 (8 * x1_5))).toNat 64)))]).length))], [.gone, .flat false 1 5 1 (fun j => [[.n .u8 (IntKind.wrap .u8 (Int.fdiv (IntKind.wrap .u64 a0.Val) (2 ^ (min (IntKind.wrap .u64 (IntKind.wrap .i64 (8 * x1_5))).toNat 64))))]].getD j []), eR5 (x1_r0 ++ [IntKind.wrap .u8 (Int.fdiv (IntKind.wrap .u64 a0.Val) (2 ^ (min (IntKind.wrap .u64 (IntKind.wrap .i64 (8 * x1_5))).toNat 64)))])]⟩) (by kernel_rfl) ?_
            refine goK hT 9 (K20 11111010 0) ⟨29, [(3, .n .u64 (IntKind.wrap .u64 a0.Val)), (4, .own 2 1 0 ((x1_r0 ++ [IntKind.wrap .u8 (Int.fdiv (IntKind.wrap .u64 a0.Val) (2 ^ (min (IntKind.wrap .u64 (IntKind.wrap .i64 (8 * x1_5))).toNat 64)))]).length)), (5, .i (IntKind.wrap .i64 (x1_5 - 1)))], [.gone, .flat false 1 5 1 (fun j => [[.n .u8 (IntKind.wrap .u8 (Int.fdiv (IntKind.wrap .u64 a0.Val) (2 ^ (min (IntKind.wrap .u64 (IntKind.wrap .i64 (8 * x1_5))).toNat 64))))]].getD j []), eR5 (x1_r0 ++ [IntKind.wrap .u8 (Int.fdiv (IntKind.wrap .u64 a0.Val) (2 ^ (min (IntKind.wrap .u64 (IntKind.wrap .i64 (8 * x1_5))).toNat 64)))])]⟩ ?_
            refine cutK [2] ⟨29, [(3, .n .u64 (IntKind.wrap .u64 a0.Val)), (4, .own 0 1 0 (x1_r0 ++ [IntKind.wrap .u8 (Int.fdiv (IntKind.wrap .u64 a0.Val) (2 ^ (min (IntKind.wrap .u64 (IntKind.wrap .i64 (8 * x1_5))).toNat 64)))]).length), (5, .i (IntKind.wrap .i64 (x1_5 - 1)))], [eR5 (x1_r0 ++ [IntKind.wrap .u8 (Int.fdiv (IntKind.wrap .u64 a0.Val) (2 ^ (min (IntKind.wrap .u64 (IntKind.wrap .i64 (8 * x1_5))).toNat 64)))])]⟩ h0 ?_
            exact ih (IntKind.wrap .i64 (x1_5 - 1)) (x1_r0 ++ [IntKind.wrap .u8 (Int.fdiv (IntKind.wrap .u64 a0.Val) (2 ^ (min (IntKind.wrap .u64 (IntKind.wrap .i64 (8 * x1_5))).toNat 64)))]) H
          · replace H := sF c2 H
            rw [decide_eq_false c2]
            refine goK hT 5 (K20 1111110 1) ⟨29, [(26, .own 0 1 0 x1_r0.length)], [eR5 x1_r0]⟩ ?_
            refine ak_toStr (av := .own 0 1 0 x1_r0.length) (dst := some 27) (k' := (K20 1111110 2)) hT [27] x1_r0 (by kernel_rfl) (.own (fz := false) (e := 5) (by kernel_rfl)) (st' := ⟨29, [(27, .s (strB x1_r0))], [eR5 x1_r0]⟩) (by kernel_rfl) ?_
            obtain ⟨v1, h3, H⟩ := sbC H
            refine ak_callP (avs := [.s (strB x1_r0)]) (dst := some 28) (k' := (K20 1111110 3)) [28] [] hP enters_41 (spliceref02_Sum.says (strB x1_r0) h3) (by kernel_rfl) (hands_none _) (.cons (pass_d _) .nil) (st' := ⟨29, [(28, .n .u32 v1)], [eR5 x1_r0]⟩) (by kernel_rfl) ?_
            refine goK hT 2 (K20 111111 1) ⟨29, [(2, .n .u32 v1)], [eR5 x1_r0]⟩ ?_
            obtain rfl := retC H
            exact ak_ret hf hX (av := .n .u32 v1) (by kernel_rfl) [] (sel_of_eq (by kernel_rfl)) (by decide) (by rw [h0]; rfl) (by kernel_rfl) (fun _ h => all_nil h) (.d (.v _))
    refine cutK [1] ⟨29, [(3, .n .u64 (IntKind.wrap .u64 a0.Val)), (4, .own 0 1 0 ([1] : List Int).length), (5, .i 7)], [eR5 ([1] : List Int)]⟩ h0 ?_
    obtain ⟨n, H⟩ := loopC H
    exact (L n) 7 ([1] : List Int) H
  · replace H := iF c1 H
    rw [boF c1]
    refine goK hT 5 (K20 11010 1) ⟨29, [(2, .n .u32 0)], [.box 51 (eC51 a0)]⟩ ?_
    obtain rfl := retC H
    exact ak_ret hf hX (av := .n .u32 0) (by kernel_rfl) [] (sel_of_eq (by kernel_rfl)) (by decide) (by rw [h0]; rfl) (by kernel_rfl) (fun _ h => all_nil h) (.d (.v _))


theorem spliceref20_Leaves.says {t0 : Bool} (a0 : List spliceref04_Pair) {r : List Int} (H : spliceref20_Leaves a0 = some r) : Says Try.prog 52 [] [.d (eL94 t0 a0)] [eR37 r] (.own 0 1 0 r.length) := by
  refine says_of Try.func52 rfl (nt := 34) rfl (Nat.le_of_ble_eq_true rfl) fun X hP h0 hX => ?_
  have hT : TabOk X.P T := hP ▸ tok
  have hf : X.P.funcs[52]? = some Try.f52 := hP ▸ Try.func52
  refine goK hT 15 (K52 111010 0) ⟨34, [(0, .d (eL94 t0 a0)), (3, .ns), (4, .i 0)], []⟩ ?_
  refine ak_nilS [0, 3, 4] 3 1 37 (vec (eI .u32) 0 []) (st' := ⟨34, [(0, .d (eL94 t0 a0)), (3, .own 0 1 0 0), (4, .i 0)], [eR37 ([] : List Int)]⟩) (by kernel_rfl) (by kernel_rfl) ?_
  have L : ∀ n, (∀ (x1_4 : Int) (x1_r0 : List Int), iter (spliceref20_Leaves.step a0) n (.l1 x1_4 x1_r0) = some r → AK X 52 ((K52 111010 0)) (Back X [eR37 r] (.own 0 1 0 r.length)) ⟨34, [(0, .d (eL94 t0 a0)), (3, .own 0 1 0 x1_r0.length), (4, .i x1_4)], [eR37 x1_r0]⟩) ∧ (∀ (x2_5 : Int) (x2_r0 : List Int), iter (spliceref20_Leaves.step a0) n (.l2 x2_5 x2_r0) = some r → AK X 52 ((K52 1111010 0)) (Back X [eR37 r] (.own 0 1 0 r.length)) ⟨34, [(0, .d (eL94 t0 a0)), (3, .own 0 1 0 x2_r0.length), (5, .i x2_5)], [eR37 x2_r0]⟩) := by
    intro n
    induction n with
    | zero => exact ⟨fun _ _ H => iter0 H, fun _ _ H => iter0 H⟩
    | succ n ih =>
      refine ⟨?_, ?_⟩
      · intro x1_4 x1_r0 H
        refine goK hT 6 (K52 11101000 1) ⟨34, [(0, .d (eL94 t0 a0)), (3, .own 0 1 0 x1_r0.length), (4, .i x1_4), (7, .b (decide (x1_4 < 4096)))], [eR37 x1_r0]⟩ ?_
        by_cases c1 : x1_4 < 4096
        · replace H := sT c1 H
          rw [decide_eq_true c1]
          refine goK hT 2 (K52 1110100 1) ⟨34, [(0, .d (eL94 t0 a0)), (3, .own 0 1 0 x1_r0.length), (4, .i x1_4)], [eR37 x1_r0]⟩ ?_
          refine goK hT 5 (K52 1110100100 2) ⟨34, [(0, .d (eL94 t0 a0)), (4, .i x1_4), (10, .own 0 1 0 x1_r0.length), (11, .own 1 1 0 1)], [eR37 x1_r0, .flat false 1 37 1 (fun j => [[.n .u32 0]].getD j [])]⟩ ?_
          obtain ⟨h2, H⟩ := sC H
          refine ak_append1 (id := 0) (kk := 1) (by' := 4) (t := 57) (e := 37) (z := [.int .u32 0]) (dst := some 12) (id2 := 1) (e2 := 37) (fz := false) (k' := (K52 1110100100 3)) hT (eI .u32) 0 x1_r0 0 [0, 4, 12] (by kernel_rfl) (by kernel_rfl) (by kernel_rfl) (by kernel_rfl) (by kernel_rfl) (by kernel_rfl) (by kernel_rfl) h2 (by omega) (st' := ⟨34, [(0, .d (eL94 t0 a0)), (4, .i x1_4), (12, .own 2 1 0 ((x1_r0 ++ [0]).length))], [.gone, .flat false 1 37 1 (fun j => [[.n .u32 0]].getD j []), eR37 (x1_r0 ++ [0])]⟩) (by kernel_rfl) ?_
          refine goK hT 9 (K52 111010 0) ⟨34, [(0, .d (eL94 t0 a0)), (3, .own 2 1 0 ((x1_r0 ++ [0]).length)), (4, .i (IntKind.wrap .i64 (x1_4 + 1)))], [.gone, .flat false 1 37 1 (fun j => [[.n .u32 0]].getD j []), eR37 (x1_r0 ++ [0])]⟩ ?_
          refine cutK [2] ⟨34, [(0, .d (eL94 t0 a0)), (3, .own 0 1 0 (x1_r0 ++ [0]).length), (4, .i (IntKind.wrap .i64 (x1_4 + 1)))], [eR37 (x1_r0 ++ [0])]⟩ h0 ?_
          exact ih.1 (IntKind.wrap .i64 (x1_4 + 1)) (x1_r0 ++ [0]) H
        · replace H := sF c1 H
          rw [decide_eq_false c1]
          refine goK hT 9 (K52 1111010 0) ⟨34, [(0, .d (eL94 t0 a0)), (3, .own 0 1 0 x1_r0.length), (5, .i 0)], [eR37 x1_r0]⟩ ?_
          refine cutK [0] ⟨34, [(0, .d (eL94 t0 a0)), (3, .own 0 1 0 x1_r0.length), (5, .i 0)], [eR37 x1_r0]⟩ h0 ?_
          exact ih.2 0 x1_r0 H
      · intro x2_5 x2_r0 H
        refine goK hT 8 (K52 111101000 1) ⟨34, [(0, .d (eL94 t0 a0)), (3, .own 0 1 0 x2_r0.length), (5, .i x2_5), (16, .b (decide (x2_5 < (a0.length : Int))))], [eR37 x2_r0]⟩ ?_
        by_cases c3 : x2_5 < (a0.length : Int)
        · replace H := sT c3 H
          rw [decide_eq_true c3]
          refine goK hT 2 (K52 11110100 1) ⟨34, [(0, .d (eL94 t0 a0)), (3, .own 0 1 0 x2_r0.length), (5, .i x2_5)], [eR37 x2_r0]⟩ ?_
          refine goK hT 2 (K52 1111010010 0) ⟨34, [(0, .d (eL94 t0 a0)), (3, .own 0 1 0 x2_r0.length), (5, .i x2_5)], [eR37 x2_r0]⟩ ?_
          obtain ⟨h4, H⟩ := sC H
          obtain ⟨v1, h5, H⟩ := sbC H
          refine drawK (hP ▸ mixed) 13 [0, 3, 5] [some (.own 0 1 0 x2_r0.length), some (.d (eL94 t0 a0)), some (.i x2_5), some (.d (eP94 t0 a0 x2_5.toNat 0)), some (.d (eP94 t0 a0 x2_5.toNat 0)), some (.i ((a0.getD x2_5.toNat spliceref04_Pair.z).Key)), some (.d (eL94 t0 a0)), some (.i x2_5), some (.d (eP94 t0 a0 x2_5.toNat 0)), some (.d (eP94 t0 a0 x2_5.toNat 1)), some (.i ((a0.getD x2_5.toNat spliceref04_Pair.z).Val)), some (.d (.agg [.i ((a0.getD x2_5.toNat spliceref04_Pair.z).Val), .b true])), some (.n .u32 v1)] (opS (opG (opG (opG (opS (opG (opG (opG (opG (opS (opG (opG (opG op0 hT) hT) hT) (fun R rest h => ak_idx0 hT (i := x2_5) (n := (a0.length : Int)) h4.1 h4.2 (by kernel_rfl) h)) hT) hT) hT) hT) (fun R rest h => ak_idx0 hT (i := x2_5) (n := (a0.length : Int)) h4.1 h4.2 (by kernel_rfl) h)) hT) hT) hT) (fun R rest h => ak_callD (avs := [.d (.agg [.i ((a0.getD x2_5.toNat spliceref04_Pair.z).Val), .b true])]) (dst := some 31) hP enters_20 (spliceref20_Number.says (⟨(a0.getD x2_5.toNat spliceref04_Pair.z).Val, true⟩ : spliceref05_Cell) h5) (by kernel_rfl) (.cons (pass_d _) .nil) (by kernel_rfl) h)) ?_
          refine goK hT 0 (K52 11110100100 13) ⟨34, [(0, .d (eL94 t0 a0)), (3, .own 0 1 0 x2_r0.length), (5, .i x2_5), (19, .own 0 1 0 x2_r0.length), (24, .i ((a0.getD x2_5.toNat spliceref04_Pair.z).Key)), (31, .n .u32 v1)], [eR37 x2_r0]⟩ ?_
          obtain ⟨h6, H⟩ := sC H
          refine ak_idx hT [0, 3, 5, 31, 32] (i := (a0.getD x2_5.toNat spliceref04_Pair.z).Key) (n := (x2_r0.length : Int)) h6.1 h6.2 (k' := (K52 11110100100 14)) (st' := ⟨34, [(0, .d (eL94 t0 a0)), (3, .own 0 1 0 x2_r0.length), (5, .i x2_5), (31, .n .u32 v1), (32, .ptr 0 1 (((a0.getD x2_5.toNat spliceref04_Pair.z).Key).toNat) 0)], [eR37 x2_r0]⟩) (by kernel_rfl) ?_
          refine ak_st (id := 0) (kk := 1) (i := (((a0.getD x2_5.toNat spliceref04_Pair.z).Key).toNat)) (off := 0) (s := 1) (n := x2_r0.length) (ty := 37) (ds := [.n .u32 v1]) (g := vec (eI .u32) 0 x2_r0) (k' := (K52 11110100100 15)) hT [0, 3, 5] (vec (eI .u32) 0 (x2_r0.set (((a0.getD x2_5.toNat spliceref04_Pair.z).Key).toNat) v1)) (by kernel_rfl) (by kernel_rfl) (ltN h6.1 h6.2) ((vec_set (ltN h6.1 h6.2)).trans (by kernel_rfl)) vec_set_ne (st' := ⟨34, [(0, .d (.sl t0 a0.length (vec spliceref04_Pair.e spliceref04_Pair.z a0))), (3, .own 0 1 0 (x2_r0.length)), (5, .i x2_5)], [.flat false 1 37 x2_r0.length (vec (eI .u32) 0 (x2_r0.set (((a0.getD x2_5.toNat spliceref04_Pair.z).Key).toNat) v1))]⟩) (by kernel_rfl) ?_
          refine ak_eq (show x2_r0.length = (x2_r0.set (((a0.getD x2_5.toNat spliceref04_Pair.z).Key).toNat) v1).length from (List.length_set ..).symm) (fun nn => ⟨34, [(0, .d (.sl t0 a0.length (vec spliceref04_Pair.e spliceref04_Pair.z a0))), (3, .own 0 1 0 (nn)), (5, .i x2_5)], [.flat false 1 37 nn (vec (eI .u32) 0 (x2_r0.set (((a0.getD x2_5.toNat spliceref04_Pair.z).Key).toNat) v1))]⟩) ?_
          refine goK hT 8 (K52 1111010 0) ⟨34, [(0, .d (eL94 t0 a0)), (3, .own 0 1 0 ((x2_r0.set (((a0.getD x2_5.toNat spliceref04_Pair.z).Key).toNat) v1).length)), (5, .i (IntKind.wrap .i64 (x2_5 + 1)))], [eR37 (x2_r0.set (((a0.getD x2_5.toNat spliceref04_Pair.z).Key).toNat) v1)]⟩ ?_
          refine cutK [0] ⟨34, [(0, .d (eL94 t0 a0)), (3, .own 0 1 0 (x2_r0.set (((a0.getD x2_5.toNat spliceref04_Pair.z).Key).toNat) v1).length), (5, .i (IntKind.wrap .i64 (x2_5 + 1)))], [eR37 (x2_r0.set (((a0.getD x2_5.toNat spliceref04_Pair.z).Key).toNat) v1)]⟩ h0 ?_
          exact ih.2 (IntKind.wrap .i64 (x2_5 + 1)) (x2_r0.set (((a0.getD x2_5.toNat spliceref04_Pair.z).Key).toNat) v1) H
        · replace H := sF c3 H
          rw [decide_eq_false c3]
          refine goK hT 7 (K52 11111 1) ⟨34, [(2, .own 0 1 0 x2_r0.length)], [eR37 x2_r0]⟩ ?_
          obtain rfl := retC H
          exact ak_ret hf hX (av := .own 0 1 0 x2_r0.length) (by kernel_rfl) [0] (sel_of_eq (by kernel_rfl)) (by decide) (by rw [h0]; rfl) (by kernel_rfl) (fun _ h => all_cons (nr_vec (nlI .u32)) (fun _ h => all_nil h) h) (.own _ _ _ _)
  refine cutK [0] ⟨34, [(0, .d (eL94 t0 a0)), (3, .own 0 1 0 ([] : List Int).length), (4, .i 0)], [eR37 ([] : List Int)]⟩ h0 ?_
  obtain ⟨n, H⟩ := loopC H
  exact (L n).1 0 ([] : List Int) H


theorem spliceref20_Over.says {t0 : Bool} (a0 : List Int) {r : Int} (H : spliceref20_Over a0 = some r) : Says Try.prog 47 [] [.d (eL37 t0 a0)] [] (.n .u32 r) := by
  refine says_of Try.func47 rfl (nt := 49) rfl (Nat.le_of_ble_eq_true rfl) fun X hP h0 hX => ?_
  have hT : TabOk X.P T := hP ▸ tok
  have hf : X.P.funcs[47]? = some Try.f47 := hP ▸ Try.func47
  refine goK hT 15 (K47 111010 0) ⟨49, [(0, .d (eL37 t0 a0)), (3, .ns), (4, .i 0)], []⟩ ?_
  refine ak_nilS [0, 3, 4] 3 1 5 (vec (eI .u8) 0 []) (st' := ⟨49, [(0, .d (eL37 t0 a0)), (3, .own 0 1 0 0), (4, .i 0)], [eR5 ([] : List Int)]⟩) (by kernel_rfl) (by kernel_rfl) ?_
  have L : ∀ n, (∀ (x1_4 : Int) (x1_r0 : List Int), iter (spliceref20_Over.step a0) n (.l1 x1_4 x1_r0) = some r → AK X 47 ((K47 111010 0)) (Back X [] (.n .u32 r)) ⟨49, [(0, .d (eL37 t0 a0)), (3, .own 0 1 0 x1_r0.length), (4, .i x1_4)], [eR5 x1_r0]⟩) := by
    intro n
    induction n with
    | zero => exact fun _ _ H => iter0 H
    | succ n ih =>
      · intro x1_4 x1_r0 H
        refine goK hT 8 (K47 11101000 1) ⟨49, [(0, .d (eL37 t0 a0)), (3, .own 0 1 0 x1_r0.length), (4, .i x1_4), (8, .b (decide (x1_4 < (a0.length : Int))))], [eR5 x1_r0]⟩ ?_
        by_cases c1 : x1_4 < (a0.length : Int)
        · replace H := sT c1 H
          rw [decide_eq_true c1]
          refine goK hT 2 (K47 1110100 1) ⟨49, [(0, .d (eL37 t0 a0)), (3, .own 0 1 0 x1_r0.length), (4, .i x1_4)], [eR5 x1_r0]⟩ ?_
          refine goK hT 7 (K47 11101001000 3) ⟨49, [(0, .d (eL37 t0 a0)), (4, .i x1_4), (11, .own 0 1 0 x1_r0.length), (12, .d (eL37 t0 a0)), (13, .i x1_4)], [eR5 x1_r0]⟩ ?_
          obtain ⟨h3, H⟩ := sC H
          refine ak_idx hT [0, 4, 11, 14] (i := x1_4) (n := (a0.length : Int)) h3.1 h3.2 (k' := (K47 11101001000 4)) (st' := ⟨49, [(0, .d (eL37 t0 a0)), (4, .i x1_4), (11, .own 0 1 0 x1_r0.length), (14, .d (eP37 t0 a0 x1_4.toNat 0))], [eR5 x1_r0]⟩) (by kernel_rfl) ?_
          refine goK hT 4 (K47 11101001000 8) ⟨49, [(0, .d (eL37 t0 a0)), (4, .i x1_4), (11, .own 0 1 0 x1_r0.length), (18, .own 1 1 0 1)], [eR5 x1_r0, .flat false 1 5 1 (fun j => [[.n .u8 (IntKind.wrap .u8 (IntKind.wrap .u32 (Int.tdiv (a0.getD x1_4.toNat 0) 16777216)))]].getD j [])]⟩ ?_
          obtain ⟨h4, H⟩ := sC H
          refine ak_append1 (id := 0) (kk := 1) (by' := 1) (t := 92) (e := 5) (z := [.int .u8 0]) (dst := some 19) (id2 := 1) (e2 := 5) (fz := false) (k' := (K47 11101001000 9)) hT (eI .u8) 0 x1_r0 (IntKind.wrap .u8 (IntKind.wrap .u32 (Int.tdiv (a0.getD x1_4.toNat 0) 16777216))) [0, 4, 19] (by kernel_rfl) (by kernel_rfl) (by kernel_rfl) (by kernel_rfl) (by kernel_rfl) (by kernel_rfl) (by kernel_rfl) h4 (by omega) (st' := ⟨49, [(0, .d (eL37 t0 a0)), (4, .i x1_4), (19, .own 2 1 0 ((x1_r0 ++ [IntKind.wrap .u8 (IntKind.wrap .u32 (Int.tdiv (a0.getD x1_4.toNat 0) 16777216))]).length))], [.gone, .flat false 1 5 1 (fun j => [[.n .u8 (IntKind.wrap .u8 (IntKind.wrap .u32 (Int.tdiv (a0.getD x1_4.toNat 0) 16777216)))]].getD j []), eR5 (x1_r0 ++ [IntKind.wrap .u8 (IntKind.wrap .u32 (Int.tdiv (a0.getD x1_4.toNat 0) 16777216))])]⟩) (by kernel_rfl) ?_
          refine goK hT 7 (K47 111010010010 3) ⟨49, [(0, .d (eL37 t0 a0)), (4, .i x1_4), (20, .own 2 1 0 ((x1_r0 ++ [IntKind.wrap .u8 (IntKind.wrap .u32 (Int.tdiv (a0.getD x1_4.toNat 0) 16777216))]).length)), (21, .d (eL37 t0 a0)), (22, .i x1_4)], [.gone, .flat false 1 5 1 (fun j => [[.n .u8 (IntKind.wrap .u8 (IntKind.wrap .u32 (Int.tdiv (a0.getD x1_4.toNat 0) 16777216)))]].getD j []), eR5 (x1_r0 ++ [IntKind.wrap .u8 (IntKind.wrap .u32 (Int.tdiv (a0.getD x1_4.toNat 0) 16777216))])]⟩ ?_
          refine ak_idx hT [0, 4, 20, 23] (i := x1_4) (n := (a0.length : Int)) h3.1 h3.2 (k' := (K47 111010010010 4)) (st' := ⟨49, [(0, .d (eL37 t0 a0)), (4, .i x1_4), (20, .own 2 1 0 ((x1_r0 ++ [IntKind.wrap .u8 (IntKind.wrap .u32 (Int.tdiv (a0.getD x1_4.toNat 0) 16777216))]).length)), (23, .d (eP37 t0 a0 x1_4.toNat 0))], [.gone, .flat false 1 5 1 (fun j => [[.n .u8 (IntKind.wrap .u8 (IntKind.wrap .u32 (Int.tdiv (a0.getD x1_4.toNat 0) 16777216)))]].getD j []), eR5 (x1_r0 ++ [IntKind.wrap .u8 (IntKind.wrap .u32 (Int.tdiv (a0.getD x1_4.toNat 0) 16777216))])]⟩) (by kernel_rfl) ?_
          refine goK hT 4 (K47 111010010010 8) ⟨49, [(0, .d (eL37 t0 a0)), (4, .i x1_4), (20, .own 2 1 0 ((x1_r0 ++ [IntKind.wrap .u8 (IntKind.wrap .u32 (Int.tdiv (a0.getD x1_4.toNat 0) 16777216))]).length)), (27, .own 3 1 0 1)], [.gone, .flat false 1 5 1 (fun j => [[.n .u8 (IntKind.wrap .u8 (IntKind.wrap .u32 (Int.tdiv (a0.getD x1_4.toNat 0) 16777216)))]].getD j []), eR5 (x1_r0 ++ [IntKind.wrap .u8 (IntKind.wrap .u32 (Int.tdiv (a0.getD x1_4.toNat 0) 16777216))]), .flat false 1 5 1 (fun j => [[.n .u8 (IntKind.wrap .u8 (IntKind.wrap .u32 (Int.tdiv (a0.getD x1_4.toNat 0) 65536)))]].getD j [])]⟩ ?_
          obtain ⟨h5, H⟩ := sC H
          refine ak_append1 (id := 2) (kk := 1) (by' := 1) (t := 92) (e := 5) (z := [.int .u8 0]) (dst := some 28) (id2 := 3) (e2 := 5) (fz := false) (k' := (K47 111010010010 9)) hT (eI .u8) 0 (x1_r0 ++ [IntKind.wrap .u8 (IntKind.wrap .u32 (Int.tdiv (a0.getD x1_4.toNat 0) 16777216))]) (IntKind.wrap .u8 (IntKind.wrap .u32 (Int.tdiv (a0.getD x1_4.toNat 0) 65536))) [0, 4, 28] (by kernel_rfl) (by kernel_rfl) (by kernel_rfl) (by kernel_rfl) (by kernel_rfl) (by kernel_rfl) (by kernel_rfl) h5 (by omega) (st' := ⟨49, [(0, .d (eL37 t0 a0)), (4, .i x1_4), (28, .own 4 1 0 (((x1_r0 ++ [IntKind.wrap .u8 (IntKind.wrap .u32 (Int.tdiv (a0.getD x1_4.toNat 0) 16777216))]) ++ [IntKind.wrap .u8 (IntKind.wrap .u32 (Int.tdiv (a0.getD x1_4.toNat 0) 65536))]).length))], [.gone, .flat false 1 5 1 (fun j => [[.n .u8 (IntKind.wrap .u8 (IntKind.wrap .u32 (Int.tdiv (a0.getD x1_4.toNat 0) 16777216)))]].getD j []), .gone, .flat false 1 5 1 (fun j => [[.n .u8 (IntKind.wrap .u8 (IntKind.wrap .u32 (Int.tdiv (a0.getD x1_4.toNat 0) 65536)))]].getD j []), eR5 ((x1_r0 ++ [IntKind.wrap .u8 (IntKind.wrap .u32 (Int.tdiv (a0.getD x1_4.toNat 0) 16777216))]) ++ [IntKind.wrap .u8 (IntKind.wrap .u32 (Int.tdiv (a0.getD x1_4.toNat 0) 65536))])]⟩) (by kernel_rfl) ?_
          refine goK hT 7 (K47 1110100100110 3) ⟨49, [(0, .d (eL37 t0 a0)), (4, .i x1_4), (29, .own 4 1 0 (((x1_r0 ++ [IntKind.wrap .u8 (IntKind.wrap .u32 (Int.tdiv (a0.getD x1_4.toNat 0) 16777216))]) ++ [IntKind.wrap .u8 (IntKind.wrap .u32 (Int.tdiv (a0.getD x1_4.toNat 0) 65536))]).length)), (30, .d (eL37 t0 a0)), (31, .i x1_4)], [.gone, .flat false 1 5 1 (fun j => [[.n .u8 (IntKind.wrap .u8 (IntKind.wrap .u32 (Int.tdiv (a0.getD x1_4.toNat 0) 16777216)))]].getD j []), .gone, .flat false 1 5 1 (fun j => [[.n .u8 (IntKind.wrap .u8 (IntKind.wrap .u32 (Int.tdiv (a0.getD x1_4.toNat 0) 65536)))]].getD j []), eR5 ((x1_r0 ++ [IntKind.wrap .u8 (IntKind.wrap .u32 (Int.tdiv (a0.getD x1_4.toNat 0) 16777216))]) ++ [IntKind.wrap .u8 (IntKind.wrap .u32 (Int.tdiv (a0.getD x1_4.toNat 0) 65536))])]⟩ ?_
          refine ak_idx hT [0, 4, 29, 32] (i := x1_4) (n := (a0.length : Int)) h3.1 h3.2 (k' := (K47 1110100100110 4)) (st' := ⟨49, [(0, .d (eL37 t0 a0)), (4, .i x1_4), (29, .own 4 1 0 (((x1_r0 ++ [IntKind.wrap .u8 (IntKind.wrap .u32 (Int.tdiv (a0.getD x1_4.toNat 0) 16777216))]) ++ [IntKind.wrap .u8 (IntKind.wrap .u32 (Int.tdiv (a0.getD x1_4.toNat 0) 65536))]).length)), (32, .d (eP37 t0 a0 x1_4.toNat 0))], [.gone, .flat false 1 5 1 (fun j => [[.n .u8 (IntKind.wrap .u8 (IntKind.wrap .u32 (Int.tdiv (a0.getD x1_4.toNat 0) 16777216)))]].getD j []), .gone, .flat false 1 5 1 (fun j => [[.n .u8 (IntKind.wrap .u8 (IntKind.wrap .u32 (Int.tdiv (a0.getD x1_4.toNat 0) 65536)))]].getD j []), eR5 ((x1_r0 ++ [IntKind.wrap .u8 (IntKind.wrap .u32 (Int.tdiv (a0.getD x1_4.toNat 0) 16777216))]) ++ [IntKind.wrap .u8 (IntKind.wrap .u32 (Int.tdiv (a0.getD x1_4.toNat 0) 65536))])]⟩) (by kernel_rfl) ?_
          refine goK hT 4 (K47 1110100100110 8) ⟨49, [(0, .d (eL37 t0 a0)), (4, .i x1_4), (29, .own 4 1 0 (((x1_r0 ++ [IntKind.wrap .u8 (IntKind.wrap .u32 (Int.tdiv (a0.getD x1_4.toNat 0) 16777216))]) ++ [IntKind.wrap .u8 (IntKind.wrap .u32 (Int.tdiv (a0.getD x1_4.toNat 0) 65536))]).length)), (36, .own 5 1 0 1)], [.gone, .flat false 1 5 1 (fun j => [[.n .u8 (IntKind.wrap .u8 (IntKind.wrap .u32 (Int.tdiv (a0.getD x1_4.toNat 0) 16777216)))]].getD j []), .gone, .flat false 1 5 1 (fun j => [[.n .u8 (IntKind.wrap .u8 (IntKind.wrap .u32 (Int.tdiv (a0.getD x1_4.toNat 0) 65536)))]].getD j []), eR5 ((x1_r0 ++ [IntKind.wrap .u8 (IntKind.wrap .u32 (Int.tdiv (a0.getD x1_4.toNat 0) 16777216))]) ++ [IntKind.wrap .u8 (IntKind.wrap .u32 (Int.tdiv (a0.getD x1_4.toNat 0) 65536))]), .flat false 1 5 1 (fun j => [[.n .u8 (IntKind.wrap .u8 (IntKind.wrap .u32 (Int.tdiv (a0.getD x1_4.toNat 0) 256)))]].getD j [])]⟩ ?_
          obtain ⟨h6, H⟩ := sC H
          refine ak_append1 (id := 4) (kk := 1) (by' := 1) (t := 92) (e := 5) (z := [.int .u8 0]) (dst := some 37) (id2 := 5) (e2 := 5) (fz := false) (k' := (K47 1110100100110 9)) hT (eI .u8) 0 ((x1_r0 ++ [IntKind.wrap .u8 (IntKind.wrap .u32 (Int.tdiv (a0.getD x1_4.toNat 0) 16777216))]) ++ [IntKind.wrap .u8 (IntKind.wrap .u32 (Int.tdiv (a0.getD x1_4.toNat 0) 65536))]) (IntKind.wrap .u8 (IntKind.wrap .u32 (Int.tdiv (a0.getD x1_4.toNat 0) 256))) [0, 4, 37] (by kernel_rfl) (by kernel_rfl) (by kernel_rfl) (by kernel_rfl) (by kernel_rfl) (by kernel_rfl) (by kernel_rfl) h6 (by omega) (st' := ⟨49, [(0, .d (eL37 t0 a0)), (4, .i x1_4), (37, .own 6 1 0 ((((x1_r0 ++ [IntKind.wrap .u8 (IntKind.wrap .u32 (Int.tdiv (a0.getD x1_4.toNat 0) 16777216))]) ++ [IntKind.wrap .u8 (IntKind.wrap .u32 (Int.tdiv (a0.getD x1_4.toNat 0) 65536))]) ++ [IntKind.wrap .u8 (IntKind.wrap .u32 (Int.tdiv (a0.getD x1_4.toNat 0) 256))]).length))], [.gone, .flat false 1 5 1 (fun j => [[.n .u8 (IntKind.wrap .u8 (IntKind.wrap .u32 (Int.tdiv (a0.getD x1_4.toNat 0) 16777216)))]].getD j []), .gone, .flat false 1 5 1 (fun j => [[.n .u8 (IntKind.wrap .u8 (IntKind.wrap .u32 (Int.tdiv (a0.getD x1_4.toNat 0) 65536)))]].getD j []), .gone, .flat false 1 5 1 (fun j => [[.n .u8 (IntKind.wrap .u8 (IntKind.wrap .u32 (Int.tdiv (a0.getD x1_4.toNat 0) 256)))]].getD j []), eR5 (((x1_r0 ++ [IntKind.wrap .u8 (IntKind.wrap .u32 (Int.tdiv (a0.getD x1_4.toNat 0) 16777216))]) ++ [IntKind.wrap .u8 (IntKind.wrap .u32 (Int.tdiv (a0.getD x1_4.toNat 0) 65536))]) ++ [IntKind.wrap .u8 (IntKind.wrap .u32 (Int.tdiv (a0.getD x1_4.toNat 0) 256))])]⟩) (by kernel_rfl) ?_
          refine goK hT 6 (K47 1110100100111 3) ⟨49, [(0, .d (eL37 t0 a0)), (4, .i x1_4), (38, .own 6 1 0 ((((x1_r0 ++ [IntKind.wrap .u8 (IntKind.wrap .u32 (Int.tdiv (a0.getD x1_4.toNat 0) 16777216))]) ++ [IntKind.wrap .u8 (IntKind.wrap .u32 (Int.tdiv (a0.getD x1_4.toNat 0) 65536))]) ++ [IntKind.wrap .u8 (IntKind.wrap .u32 (Int.tdiv (a0.getD x1_4.toNat 0) 256))]).length)), (39, .d (eL37 t0 a0)), (40, .i x1_4)], [.gone, .flat false 1 5 1 (fun j => [[.n .u8 (IntKind.wrap .u8 (IntKind.wrap .u32 (Int.tdiv (a0.getD x1_4.toNat 0) 16777216)))]].getD j []), .gone, .flat false 1 5 1 (fun j => [[.n .u8 (IntKind.wrap .u8 (IntKind.wrap .u32 (Int.tdiv (a0.getD x1_4.toNat 0) 65536)))]].getD j []), .gone, .flat false 1 5 1 (fun j => [[.n .u8 (IntKind.wrap .u8 (IntKind.wrap .u32 (Int.tdiv (a0.getD x1_4.toNat 0) 256)))]].getD j []), eR5 (((x1_r0 ++ [IntKind.wrap .u8 (IntKind.wrap .u32 (Int.tdiv (a0.getD x1_4.toNat 0) 16777216))]) ++ [IntKind.wrap .u8 (IntKind.wrap .u32 (Int.tdiv (a0.getD x1_4.toNat 0) 65536))]) ++ [IntKind.wrap .u8 (IntKind.wrap .u32 (Int.tdiv (a0.getD x1_4.toNat 0) 256))])]⟩ ?_
          refine ak_idx hT [0, 4, 38, 41] (i := x1_4) (n := (a0.length : Int)) h3.1 h3.2 (k' := (K47 1110100100111 4)) (st' := ⟨49, [(0, .d (eL37 t0 a0)), (4, .i x1_4), (38, .own 6 1 0 ((((x1_r0 ++ [IntKind.wrap .u8 (IntKind.wrap .u32 (Int.tdiv (a0.getD x1_4.toNat 0) 16777216))]) ++ [IntKind.wrap .u8 (IntKind.wrap .u32 (Int.tdiv (a0.getD x1_4.toNat 0) 65536))]) ++ [IntKind.wrap .u8 (IntKind.wrap .u32 (Int.tdiv (a0.getD x1_4.toNat 0) 256))]).length)), (41, .d (eP37 t0 a0 x1_4.toNat 0))], [.gone, .flat false 1 5 1 (fun j => [[.n .u8 (IntKind.wrap .u8 (IntKind.wrap .u32 (Int.tdiv (a0.getD x1_4.toNat 0) 16777216)))]].getD j []), .gone, .flat false 1 5 1 (fun j => [[.n .u8 (IntKind.wrap .u8 (IntKind.wrap .u32 (Int.tdiv (a0.getD x1_4.toNat 0) 65536)))]].getD j []), .gone, .flat false 1 5 1 (fun j => [[.n .u8 (IntKind.wrap .u8 (IntKind.wrap .u32 (Int.tdiv (a0.getD x1_4.toNat 0) 256)))]].getD j []), eR5 (((x1_r0 ++ [IntKind.wrap .u8 (IntKind.wrap .u32 (Int.tdiv (a0.getD x1_4.toNat 0) 16777216))]) ++ [IntKind.wrap .u8 (IntKind.wrap .u32 (Int.tdiv (a0.getD x1_4.toNat 0) 65536))]) ++ [IntKind.wrap .u8 (IntKind.wrap .u32 (Int.tdiv (a0.getD x1_4.toNat 0) 256))])]⟩) (by kernel_rfl) ?_
          refine goK hT 3 (K47 1110100100111 7) ⟨49, [(0, .d (eL37 t0 a0)), (4, .i x1_4), (38, .own 6 1 0 ((((x1_r0 ++ [IntKind.wrap .u8 (IntKind.wrap .u32 (Int.tdiv (a0.getD x1_4.toNat 0) 16777216))]) ++ [IntKind.wrap .u8 (IntKind.wrap .u32 (Int.tdiv (a0.getD x1_4.toNat 0) 65536))]) ++ [IntKind.wrap .u8 (IntKind.wrap .u32 (Int.tdiv (a0.getD x1_4.toNat 0) 256))]).length)), (44, .own 7 1 0 1)], [.gone, .flat false 1 5 1 (fun j => [[.n .u8 (IntKind.wrap .u8 (IntKind.wrap .u32 (Int.tdiv (a0.getD x1_4.toNat 0) 16777216)))]].getD j []), .gone, .flat false 1 5 1 (fun j => [[.n .u8 (IntKind.wrap .u8 (IntKind.wrap .u32 (Int.tdiv (a0.getD x1_4.toNat 0) 65536)))]].getD j []), .gone, .flat false 1 5 1 (fun j => [[.n .u8 (IntKind.wrap .u8 (IntKind.wrap .u32 (Int.tdiv (a0.getD x1_4.toNat 0) 256)))]].getD j []), eR5 (((x1_r0 ++ [IntKind.wrap .u8 (IntKind.wrap .u32 (Int.tdiv (a0.getD x1_4.toNat 0) 16777216))]) ++ [IntKind.wrap .u8 (IntKind.wrap .u32 (Int.tdiv (a0.getD x1_4.toNat 0) 65536))]) ++ [IntKind.wrap .u8 (IntKind.wrap .u32 (Int.tdiv (a0.getD x1_4.toNat 0) 256))]), .flat false 1 5 1 (fun j => [[.n .u8 (IntKind.wrap .u8 (a0.getD x1_4.toNat 0))]].getD j [])]⟩ ?_
          obtain ⟨h7, H⟩ := sC H
          refine ak_append1 (id := 6) (kk := 1) (by' := 1) (t := 92) (e := 5) (z := [.int .u8 0]) (dst := some 45) (id2 := 7) (e2 := 5) (fz := false) (k' := (K47 1110100100111 8)) hT (eI .u8) 0 (((x1_r0 ++ [IntKind.wrap .u8 (IntKind.wrap .u32 (Int.tdiv (a0.getD x1_4.toNat 0) 16777216))]) ++ [IntKind.wrap .u8 (IntKind.wrap .u32 (Int.tdiv (a0.getD x1_4.toNat 0) 65536))]) ++ [IntKind.wrap .u8 (IntKind.wrap .u32 (Int.tdiv (a0.getD x1_4.toNat 0) 256))]) (IntKind.wrap .u8 (a0.getD x1_4.toNat 0)) [0, 4, 45] (by kernel_rfl) (by kernel_rfl) (by kernel_rfl) (by kernel_rfl) (by kernel_rfl) (by kernel_rfl) (by kernel_rfl) h7 (by omega) (st' := ⟨49, [(0, .d (eL37 t0 a0)), (4, .i x1_4), (45, .own 8 1 0 (((((x1_r0 ++ [IntKind.wrap .u8 (IntKind.wrap .u32 (Int.tdiv (a0.getD x1_4.toNat 0) 16777216))]) ++ [IntKind.wrap .u8 (IntKind.wrap .u32 (Int.tdiv (a0.getD x1_4.toNat 0) 65536))]) ++ [IntKind.wrap .u8 (IntKind.wrap .u32 (Int.tdiv (a0.getD x1_4.toNat 0) 256))]) ++ [IntKind.wrap .u8 (a0.getD x1_4.toNat 0)]).length))], [.gone, .flat false 1 5 1 (fun j => [[.n .u8 (IntKind.wrap .u8 (IntKind.wrap .u32 (Int.tdiv (a0.getD x1_4.toNat 0) 16777216)))]].getD j []), .gone, .flat false 1 5 1 (fun j => [[.n .u8 (IntKind.wrap .u8 (IntKind.wrap .u32 (Int.tdiv (a0.getD x1_4.toNat 0) 65536)))]].getD j []), .gone, .flat false 1 5 1 (fun j => [[.n .u8 (IntKind.wrap .u8 (IntKind.wrap .u32 (Int.tdiv (a0.getD x1_4.toNat 0) 256)))]].getD j []), .gone, .flat false 1 5 1 (fun j => [[.n .u8 (IntKind.wrap .u8 (a0.getD x1_4.toNat 0))]].getD j []), eR5 ((((x1_r0 ++ [IntKind.wrap .u8 (IntKind.wrap .u32 (Int.tdiv (a0.getD x1_4.toNat 0) 16777216))]) ++ [IntKind.wrap .u8 (IntKind.wrap .u32 (Int.tdiv (a0.getD x1_4.toNat 0) 65536))]) ++ [IntKind.wrap .u8 (IntKind.wrap .u32 (Int.tdiv (a0.getD x1_4.toNat 0) 256))]) ++ [IntKind.wrap .u8 (a0.getD x1_4.toNat 0)])]⟩) (by kernel_rfl) ?_
          refine goK hT 9 (K47 111010 0) ⟨49, [(0, .d (eL37 t0 a0)), (3, .own 8 1 0 (((((x1_r0 ++ [IntKind.wrap .u8 (IntKind.wrap .u32 (Int.tdiv (a0.getD x1_4.toNat 0) 16777216))]) ++ [IntKind.wrap .u8 (IntKind.wrap .u32 (Int.tdiv (a0.getD x1_4.toNat 0) 65536))]) ++ [IntKind.wrap .u8 (IntKind.wrap .u32 (Int.tdiv (a0.getD x1_4.toNat 0) 256))]) ++ [IntKind.wrap .u8 (a0.getD x1_4.toNat 0)]).length)), (4, .i (IntKind.wrap .i64 (x1_4 + 1)))], [.gone, .flat false 1 5 1 (fun j => [[.n .u8 (IntKind.wrap .u8 (IntKind.wrap .u32 (Int.tdiv (a0.getD x1_4.toNat 0) 16777216)))]].getD j []), .gone, .flat false 1 5 1 (fun j => [[.n .u8 (IntKind.wrap .u8 (IntKind.wrap .u32 (Int.tdiv (a0.getD x1_4.toNat 0) 65536)))]].getD j []), .gone, .flat false 1 5 1 (fun j => [[.n .u8 (IntKind.wrap .u8 (IntKind.wrap .u32 (Int.tdiv (a0.getD x1_4.toNat 0) 256)))]].getD j []), .gone, .flat false 1 5 1 (fun j => [[.n .u8 (IntKind.wrap .u8 (a0.getD x1_4.toNat 0))]].getD j []), eR5 ((((x1_r0 ++ [IntKind.wrap .u8 (IntKind.wrap .u32 (Int.tdiv (a0.getD x1_4.toNat 0) 16777216))]) ++ [IntKind.wrap .u8 (IntKind.wrap .u32 (Int.tdiv (a0.getD x1_4.toNat 0) 65536))]) ++ [IntKind.wrap .u8 (IntKind.wrap .u32 (Int.tdiv (a0.getD x1_4.toNat 0) 256))]) ++ [IntKind.wrap .u8 (a0.getD x1_4.toNat 0)])]⟩ ?_
          refine cutK [8] ⟨49, [(0, .d (eL37 t0 a0)), (3, .own 0 1 0 ((((x1_r0 ++ [IntKind.wrap .u8 (IntKind.wrap .u32 (Int.tdiv (a0.getD x1_4.toNat 0) 16777216))]) ++ [IntKind.wrap .u8 (IntKind.wrap .u32 (Int.tdiv (a0.getD x1_4.toNat 0) 65536))]) ++ [IntKind.wrap .u8 (IntKind.wrap .u32 (Int.tdiv (a0.getD x1_4.toNat 0) 256))]) ++ [IntKind.wrap .u8 (a0.getD x1_4.toNat 0)]).length), (4, .i (IntKind.wrap .i64 (x1_4 + 1)))], [eR5 ((((x1_r0 ++ [IntKind.wrap .u8 (IntKind.wrap .u32 (Int.tdiv (a0.getD x1_4.toNat 0) 16777216))]) ++ [IntKind.wrap .u8 (IntKind.wrap .u32 (Int.tdiv (a0.getD x1_4.toNat 0) 65536))]) ++ [IntKind.wrap .u8 (IntKind.wrap .u32 (Int.tdiv (a0.getD x1_4.toNat 0) 256))]) ++ [IntKind.wrap .u8 (a0.getD x1_4.toNat 0)])]⟩ h0 ?_
          exact ih (IntKind.wrap .i64 (x1_4 + 1)) ((((x1_r0 ++ [IntKind.wrap .u8 (IntKind.wrap .u32 (Int.tdiv (a0.getD x1_4.toNat 0) 16777216))]) ++ [IntKind.wrap .u8 (IntKind.wrap .u32 (Int.tdiv (a0.getD x1_4.toNat 0) 65536))]) ++ [IntKind.wrap .u8 (IntKind.wrap .u32 (Int.tdiv (a0.getD x1_4.toNat 0) 256))]) ++ [IntKind.wrap .u8 (a0.getD x1_4.toNat 0)]) H
        · replace H := sF c1 H
          rw [decide_eq_false c1]
          refine goK hT 5 (K47 11110 1) ⟨49, [(46, .own 0 1 0 x1_r0.length)], [eR5 x1_r0]⟩ ?_
          refine ak_toStr (av := .own 0 1 0 x1_r0.length) (dst := some 47) (k' := (K47 11110 2)) hT [47] x1_r0 (by kernel_rfl) (.own (fz := false) (e := 5) (by kernel_rfl)) (st' := ⟨49, [(47, .s (strB x1_r0))], [eR5 x1_r0]⟩) (by kernel_rfl) ?_
          obtain ⟨v1, h2, H⟩ := sbC H
          refine ak_callP (avs := [.s (strB x1_r0)]) (dst := some 48) (k' := (K47 11110 3)) [48] [] hP enters_41 (spliceref02_Sum.says (strB x1_r0) h2) (by kernel_rfl) (hands_none _) (.cons (pass_d _) .nil) (st' := ⟨49, [(48, .n .u32 v1)], [eR5 x1_r0]⟩) (by kernel_rfl) ?_
          refine goK hT 2 (K47 1111 1) ⟨49, [(2, .n .u32 v1)], [eR5 x1_r0]⟩ ?_
          obtain rfl := retC H
          exact ak_ret hf hX (av := .n .u32 v1) (by kernel_rfl) [] (sel_of_eq (by kernel_rfl)) (by decide) (by rw [h0]; rfl) (by kernel_rfl) (fun _ h => all_nil h) (.d (.v _))
  refine cutK [0] ⟨49, [(0, .d (eL37 t0 a0)), (3, .own 0 1 0 ([] : List Int).length), (4, .i 0)], [eR5 ([] : List Int)]⟩ h0 ?_
  obtain ⟨n, H⟩ := loopC H
  exact (L n) 0 ([] : List Int) H


theorem spliceref20_Above.says {t0 : Bool} (a0 : List Int) {r : List Int} (H : spliceref20_Above a0 = some r) : Says Try.prog 29 [] [.d (eL37 t0 a0)] [eR37 r] (.own 0 1 0 r.length) := by
  refine says_of Try.func29 rfl (nt := 56) rfl (Nat.le_of_ble_eq_true rfl) fun X hP h0 hX => ?_
  have hT : TabOk X.P T := hP ▸ tok
  have hf : X.P.funcs[29]? = some Try.f29 := hP ▸ Try.func29
  refine goK hT 15 (K29 111010 0) ⟨56, [(0, .d (eL37 t0 a0)), (3, .ns), (4, .i 0)], []⟩ ?_
  refine ak_nilS [0, 3, 4] 3 1 37 (vec (eI .u32) 0 []) (st' := ⟨56, [(0, .d (eL37 t0 a0)), (3, .own 0 1 0 0), (4, .i 0)], [eR37 ([] : List Int)]⟩) (by kernel_rfl) (by kernel_rfl) ?_
  have L : ∀ n, (∀ (x1_4 : Int) (x1_r0 : List Int), iter (spliceref20_Above.step a0) n (.l1 x1_4 x1_r0) = some r → AK X 29 ((K29 111010 0)) (Back X [eR37 r] (.own 0 1 0 r.length)) ⟨56, [(0, .d (eL37 t0 a0)), (3, .own 0 1 0 x1_r0.length), (4, .i x1_4)], [eR37 x1_r0]⟩) ∧ (∀ (v1 : Int) (x2_7 : Int) (x2_r0 : List Int), iter (spliceref20_Above.step a0) n (.l2 v1 x2_7 x2_r0) = some r → AK X 29 ((K29 111111010 0)) (Back X [eR37 r] (.own 0 1 0 r.length)) ⟨56, [(0, .d (eL37 t0 a0)), (5, .n .u32 v1), (6, .own 0 1 0 x2_r0.length), (7, .i x2_7)], [eR37 x2_r0]⟩) ∧ (∀ (v1 : Int) (x3_7 : Int) (x3_8 : Bool) (x3_9 : Int) (x3_r0 : List Int), iter (spliceref20_Above.step a0) n (.l3 v1 x3_7 x3_8 x3_9 x3_r0) = some r → AK X 29 ((K29 11111101001001010 0)) (Back X [eR37 r] (.own 0 1 0 r.length)) ⟨56, [(0, .d (eL37 t0 a0)), (5, .n .u32 v1), (6, .own 0 1 0 x3_r0.length), (7, .i x3_7), (8, .b x3_8), (9, .i x3_9)], [eR37 x3_r0]⟩) := by
    intro n
    induction n with
    | zero => exact ⟨fun _ _ H => iter0 H, fun _ _ _ H => iter0 H, fun _ _ _ _ _ H => iter0 H⟩
    | succ n ih =>
      refine ⟨?_, ?_, ?_⟩
      · intro x1_4 x1_r0 H
        refine goK hT 6 (K29 11101000 1) ⟨56, [(0, .d (eL37 t0 a0)), (3, .own 0 1 0 x1_r0.length), (4, .i x1_4), (11, .b (decide (x1_4 < 16)))], [eR37 x1_r0]⟩ ?_
        by_cases c1 : x1_4 < 16
        · replace H := sT c1 H
          rw [decide_eq_true c1]
          refine goK hT 2 (K29 1110100 1) ⟨56, [(0, .d (eL37 t0 a0)), (3, .own 0 1 0 x1_r0.length), (4, .i x1_4)], [eR37 x1_r0]⟩ ?_
          refine goK hT 5 (K29 1110100100 2) ⟨56, [(0, .d (eL37 t0 a0)), (4, .i x1_4), (14, .own 0 1 0 x1_r0.length), (15, .own 1 1 0 1)], [eR37 x1_r0, .flat false 1 37 1 (fun j => [[.n .u32 0]].getD j [])]⟩ ?_
          obtain ⟨h3, H⟩ := sC H
          refine ak_append1 (id := 0) (kk := 1) (by' := 4) (t := 57) (e := 37) (z := [.int .u32 0]) (dst := some 16) (id2 := 1) (e2 := 37) (fz := false) (k' := (K29 1110100100 3)) hT (eI .u32) 0 x1_r0 0 [0, 4, 16] (by kernel_rfl) (by kernel_rfl) (by kernel_rfl) (by kernel_rfl) (by kernel_rfl) (by kernel_rfl) (by kernel_rfl) h3 (by omega) (st' := ⟨56, [(0, .d (eL37 t0 a0)), (4, .i x1_4), (16, .own 2 1 0 ((x1_r0 ++ [0]).length))], [.gone, .flat false 1 37 1 (fun j => [[.n .u32 0]].getD j []), eR37 (x1_r0 ++ [0])]⟩) (by kernel_rfl) ?_
          refine goK hT 9 (K29 111010 0) ⟨56, [(0, .d (eL37 t0 a0)), (3, .own 2 1 0 ((x1_r0 ++ [0]).length)), (4, .i (IntKind.wrap .i64 (x1_4 + 1)))], [.gone, .flat false 1 37 1 (fun j => [[.n .u32 0]].getD j []), eR37 (x1_r0 ++ [0])]⟩ ?_
          refine cutK [2] ⟨56, [(0, .d (eL37 t0 a0)), (3, .own 0 1 0 (x1_r0 ++ [0]).length), (4, .i (IntKind.wrap .i64 (x1_4 + 1)))], [eR37 (x1_r0 ++ [0])]⟩ h0 ?_
          exact ih.1 (IntKind.wrap .i64 (x1_4 + 1)) (x1_r0 ++ [0]) H
        · replace H := sF c1 H
          rw [decide_eq_false c1]
          refine goK hT 5 (K29 11110 1) ⟨56, [(0, .d (eL37 t0 a0)), (17, .own 0 1 0 x1_r0.length)], [eR37 x1_r0]⟩ ?_
          obtain ⟨v1, h2, H⟩ := sbC H
          refine ak_callP (avs := [.own 0 1 0 x1_r0.length]) (dst := some 18) (k' := (K29 11110 2)) [0, 18] [] hP enters_47 (spliceref20_Over.says (t0 := false) x1_r0 h2) (by kernel_rfl) (hands_none _) (.cons (.lend (ty := 37) (by kernel_rfl) rfl) .nil) (st' := ⟨56, [(0, .d (eL37 t0 a0)), (18, .n .u32 v1)], [eR37 x1_r0]⟩) (by kernel_rfl) ?_
          refine goK hT 13 (K29 111111010 0) ⟨56, [(0, .d (eL37 t0 a0)), (5, .n .u32 v1), (6, .ns), (7, .i 0)], [eR37 x1_r0]⟩ ?_
          refine ak_nilS [0, 5, 6, 7] 6 1 37 (vec (eI .u32) 0 []) (st' := ⟨56, [(0, .d (eL37 t0 a0)), (5, .n .u32 v1), (6, .own 1 1 0 0), (7, .i 0)], [eR37 x1_r0, eR37 ([] : List Int)]⟩) (by kernel_rfl) (by kernel_rfl) ?_
          refine cutK [1] ⟨56, [(0, .d (eL37 t0 a0)), (5, .n .u32 v1), (6, .own 0 1 0 ([] : List Int).length), (7, .i 0)], [eR37 ([] : List Int)]⟩ h0 ?_
          exact ih.2.1 v1 0 ([] : List Int) H
      · intro v1 x2_7 x2_r0 H
        refine goK hT 9 (K29 11111101000 1) ⟨56, [(0, .d (eL37 t0 a0)), (5, .n .u32 v1), (6, .own 0 1 0 x2_r0.length), (7, .i x2_7), (23, .b (decide ((IntKind.wrap .i64 (x2_7 + 16)) ≤ (a0.length : Int))))], [eR37 x2_r0]⟩ ?_
        by_cases c4 : (IntKind.wrap .i64 (x2_7 + 16)) ≤ (a0.length : Int)
        · replace H := sT c4 H
          rw [decide_eq_true c4]
          refine goK hT 2 (K29 1111110100 1) ⟨56, [(0, .d (eL37 t0 a0)), (5, .n .u32 v1), (6, .own 0 1 0 x2_r0.length), (7, .i x2_7)], [eR37 x2_r0]⟩ ?_
          refine goK hT 14 (K29 11111101001001010 0) ⟨56, [(0, .d (eL37 t0 a0)), (5, .n .u32 v1), (6, .own 0 1 0 x2_r0.length), (7, .i x2_7), (8, .b true), (9, .i x2_7)], [eR37 x2_r0]⟩ ?_
          refine cutK [0] ⟨56, [(0, .d (eL37 t0 a0)), (5, .n .u32 v1), (6, .own 0 1 0 x2_r0.length), (7, .i x2_7), (8, .b true), (9, .i x2_7)], [eR37 x2_r0]⟩ h0 ?_
          exact ih.2.2 v1 x2_7 true x2_7 x2_r0 H
        · replace H := sF c4 H
          rw [decide_eq_false c4]
          refine goK hT 7 (K29 1111111 1) ⟨56, [(2, .own 0 1 0 x2_r0.length)], [eR37 x2_r0]⟩ ?_
          obtain rfl := retC H
          exact ak_ret hf hX (av := .own 0 1 0 x2_r0.length) (by kernel_rfl) [0] (sel_of_eq (by kernel_rfl)) (by decide) (by rw [h0]; rfl) (by kernel_rfl) (fun _ h => all_cons (nr_vec (nlI .u32)) (fun _ h => all_nil h) h) (.own _ _ _ _)
      · intro v1 x3_7 x3_8 x3_9 x3_r0 H
        refine goK hT 8 (K29 1111110100100101000 1) ⟨56, [(0, .d (eL37 t0 a0)), (5, .n .u32 v1), (6, .own 0 1 0 x3_r0.length), (7, .i x3_7), (8, .b x3_8), (9, .i x3_9), (30, .b (decide (x3_9 < (IntKind.wrap .i64 (x3_7 + 16)))))], [eR37 x3_r0]⟩ ?_
        by_cases c5 : x3_9 < (IntKind.wrap .i64 (x3_7 + 16))
        · replace H := sT c5 H
          have Jj2 : ∀ (y2_8 : Bool), stk (spliceref20_Above.j2 x3_7 x3_9 x3_r0 v1 y2_8) (iter (spliceref20_Above.step a0) n) = some r → AK X 29 ((K29 1111110100100101001 1)) (Back X [eR37 r] (.own 0 1 0 r.length)) ⟨56, [(0, .d (eL37 t0 a0)), (5, .n .u32 v1), (6, .own 0 1 0 x3_r0.length), (7, .i x3_7), (8, .b y2_8), (9, .i x3_9)], [eR37 x3_r0]⟩ := by
            intro y2_8 H
            refine goK hT 6 (K29 11111101001001010 0) ⟨56, [(0, .d (eL37 t0 a0)), (5, .n .u32 v1), (6, .own 0 1 0 x3_r0.length), (7, .i x3_7), (8, .b y2_8), (9, .i (IntKind.wrap .i64 (x3_9 + 1)))], [eR37 x3_r0]⟩ ?_
            refine cutK [0] ⟨56, [(0, .d (eL37 t0 a0)), (5, .n .u32 v1), (6, .own 0 1 0 x3_r0.length), (7, .i x3_7), (8, .b y2_8), (9, .i (IntKind.wrap .i64 (x3_9 + 1)))], [eR37 x3_r0]⟩ h0 ?_
            exact ih.2.2 v1 x3_7 y2_8 (IntKind.wrap .i64 (x3_9 + 1)) x3_r0 H
          rw [decide_eq_true c5]
          refine goK hT 2 (K29 111111010010010100 1) ⟨56, [(0, .d (eL37 t0 a0)), (5, .n .u32 v1), (6, .own 0 1 0 x3_r0.length), (7, .i x3_7), (8, .b x3_8), (9, .i x3_9)], [eR37 x3_r0]⟩ ?_
          refine goK hT 5 (K29 111111010010010100100 2) ⟨56, [(0, .d (eL37 t0 a0)), (5, .n .u32 v1), (6, .own 0 1 0 x3_r0.length), (7, .i x3_7), (9, .i x3_9), (34, .b x3_8)], [eR37 x3_r0]⟩ ?_
          by_cases c11 : x3_8 = true
          · replace H := sT c11 H
            rw [c11]
            refine goK hT 2 (K29 111111010010010100100 4) ⟨56, [(0, .d (eL37 t0 a0)), (5, .n .u32 v1), (6, .own 0 1 0 x3_r0.length), (7, .i x3_7), (9, .i x3_9), (34, .b true), (35, .d (eL37 t0 a0)), (36, .i x3_9)], [eR37 x3_r0]⟩ ?_
            obtain ⟨h12, H⟩ := sC H
            refine ak_idx hT [0, 5, 6, 7, 9, 34, 37] (i := x3_9) (n := (a0.length : Int)) h12.1 h12.2 (k' := (K29 111111010010010100100 5)) (st' := ⟨56, [(0, .d (eL37 t0 a0)), (5, .n .u32 v1), (6, .own 0 1 0 x3_r0.length), (7, .i x3_7), (9, .i x3_9), (34, .b true), (37, .d (eP37 t0 a0 x3_9.toNat 0))], [eR37 x3_r0]⟩) (by kernel_rfl) ?_
            refine goK hT 6 (K29 1111110100100101001 1) ⟨56, [(0, .d (eL37 t0 a0)), (5, .n .u32 v1), (6, .own 0 1 0 x3_r0.length), (7, .i x3_7), (8, .b ((a0.getD x3_9.toNat 0) == 0)), (9, .i x3_9)], [eR37 x3_r0]⟩ ?_
            refine cutK [0] ⟨56, [(0, .d (eL37 t0 a0)), (5, .n .u32 v1), (6, .own 0 1 0 x3_r0.length), (7, .i x3_7), (8, .b ((a0.getD x3_9.toNat 0) == 0)), (9, .i x3_9)], [eR37 x3_r0]⟩ h0 ?_
            exact Jj2 ((a0.getD x3_9.toNat 0) == 0) H
          · replace H := sF c11 H
            rw [boF c11]
            refine goK hT 9 (K29 1111110100100101001 1) ⟨56, [(0, .d (eL37 t0 a0)), (5, .n .u32 v1), (6, .own 0 1 0 x3_r0.length), (7, .i x3_7), (8, .b false), (9, .i x3_9)], [eR37 x3_r0]⟩ ?_
            refine cutK [0] ⟨56, [(0, .d (eL37 t0 a0)), (5, .n .u32 v1), (6, .own 0 1 0 x3_r0.length), (7, .i x3_7), (8, .b false), (9, .i x3_9)], [eR37 x3_r0]⟩ h0 ?_
            exact Jj2 false H
        · replace H := sF c5 H
          have Jj1 : ∀ (y1_r0 : List Int), stk (spliceref20_Above.j1 x3_7 v1 y1_r0) (iter (spliceref20_Above.step a0) n) = some r → AK X 29 ((K29 11111101001 1)) (Back X [eR37 r] (.own 0 1 0 r.length)) ⟨56, [(0, .d (eL37 t0 a0)), (5, .n .u32 v1), (6, .own 0 1 0 y1_r0.length), (7, .i x3_7)], [eR37 y1_r0]⟩ := by
            intro y1_r0 H
            refine goK hT 6 (K29 111111010 0) ⟨56, [(0, .d (eL37 t0 a0)), (5, .n .u32 v1), (6, .own 0 1 0 y1_r0.length), (7, .i (IntKind.wrap .i64 (x3_7 + 16)))], [eR37 y1_r0]⟩ ?_
            refine cutK [0] ⟨56, [(0, .d (eL37 t0 a0)), (5, .n .u32 v1), (6, .own 0 1 0 y1_r0.length), (7, .i (IntKind.wrap .i64 (x3_7 + 16)))], [eR37 y1_r0]⟩ h0 ?_
            exact ih.2.1 v1 (IntKind.wrap .i64 (x3_7 + 16)) y1_r0 H
          rw [decide_eq_false c5]
          refine goK hT 6 (K29 111111010010011 1) ⟨56, [(0, .d (eL37 t0 a0)), (5, .n .u32 v1), (6, .own 0 1 0 x3_r0.length), (7, .i x3_7), (41, .b x3_8)], [eR37 x3_r0]⟩ ?_
          by_cases c6 : x3_8 = true
          · replace H := sT c6 H
            rw [c6]
            refine goK hT 5 (K29 11111101001001110 3) ⟨56, [(0, .d (eL37 t0 a0)), (5, .n .u32 v1), (7, .i x3_7), (42, .own 0 1 0 x3_r0.length), (44, .own 1 1 0 1)], [eR37 x3_r0, .flat false 1 37 1 (fun j => [[.n .u32 v1]].getD j [])]⟩ ?_
            obtain ⟨h7, H⟩ := sC H
            refine ak_append1 (id := 0) (kk := 1) (by' := 4) (t := 57) (e := 37) (z := [.int .u32 0]) (dst := some 45) (id2 := 1) (e2 := 37) (fz := false) (k' := (K29 11111101001001110 4)) hT (eI .u32) 0 x3_r0 v1 [0, 5, 7, 45] (by kernel_rfl) (by kernel_rfl) (by kernel_rfl) (by kernel_rfl) (by kernel_rfl) (by kernel_rfl) (by kernel_rfl) h7 (by omega) (st' := ⟨56, [(0, .d (eL37 t0 a0)), (5, .n .u32 v1), (7, .i x3_7), (45, .own 2 1 0 ((x3_r0 ++ [v1]).length))], [.gone, .flat false 1 37 1 (fun j => [[.n .u32 v1]].getD j []), eR37 (x3_r0 ++ [v1])]⟩) (by kernel_rfl) ?_
            refine goK hT 3 (K29 11111101001 1) ⟨56, [(0, .d (eL37 t0 a0)), (5, .n .u32 v1), (6, .own 2 1 0 ((x3_r0 ++ [v1]).length)), (7, .i x3_7)], [.gone, .flat false 1 37 1 (fun j => [[.n .u32 v1]].getD j []), eR37 (x3_r0 ++ [v1])]⟩ ?_
            refine cutK [2] ⟨56, [(0, .d (eL37 t0 a0)), (5, .n .u32 v1), (6, .own 0 1 0 (x3_r0 ++ [v1]).length), (7, .i x3_7)], [eR37 (x3_r0 ++ [v1])]⟩ h0 ?_
            exact Jj1 (x3_r0 ++ [v1]) H
          · replace H := sF c6 H
            rw [boF c6]
            refine goK hT 7 (K29 11111101001001111 5) ⟨56, [(0, .d (eL37 t0 a0)), (5, .n .u32 v1), (7, .i x3_7), (46, .own 0 1 0 x3_r0.length), (47, .d (eL37 t0 a0)), (48, .i x3_7), (50, .i (IntKind.wrap .i64 (x3_7 + 16)))], [eR37 x3_r0]⟩ ?_
            obtain ⟨h8, H⟩ := sC H
            refine ak_sliceL (tg := t0) (s := 1) (l := (some (.i64, x3_7))) (h := (some (.i64, IntKind.wrap .i64 (x3_7 + 16)))) (dst := some 51) (k' := (K29 11111101001001111 6)) hT [0, 5, 7, 46, 51] (eI .u32) 0 a0 (by kernel_rfl) h8 (fun _ => rfl) (st' := ⟨56, [(0, .d (eL37 t0 a0)), (5, .n .u32 v1), (7, .i x3_7), (46, .own 0 1 0 x3_r0.length), (51, .d (eL37 t0 ((a0.drop x3_7.toNat).take ((IntKind.wrap .i64 (x3_7 + 16)).toNat - x3_7.toNat))))], [eR37 x3_r0]⟩) (by kernel_rfl) ?_
            obtain ⟨v2, h9, H⟩ := sbC H
            refine ak_callP (avs := [.d (eL37 t0 ((a0.drop x3_7.toNat).take ((IntKind.wrap .i64 (x3_7 + 16)).toNat - x3_7.toNat)))]) (dst := some 52) (k' := (K29 11111101001001111 7)) [0, 5, 7, 46, 52] [] hP enters_47 (spliceref20_Over.says (t0 := t0) ((a0.drop x3_7.toNat).take ((IntKind.wrap .i64 (x3_7 + 16)).toNat - x3_7.toNat)) h9) (by kernel_rfl) (hands_none _) (.cons (pass_d _) .nil) (st' := ⟨56, [(0, .d (eL37 t0 a0)), (5, .n .u32 v1), (7, .i x3_7), (46, .own 0 1 0 x3_r0.length), (52, .n .u32 v2)], [eR37 x3_r0]⟩) (by kernel_rfl) ?_
            refine goK hT 1 (K29 11111101001001111 8) ⟨56, [(0, .d (eL37 t0 a0)), (5, .n .u32 v1), (7, .i x3_7), (46, .own 0 1 0 x3_r0.length), (53, .own 1 1 0 1)], [eR37 x3_r0, .flat false 1 37 1 (fun j => [[.n .u32 v2]].getD j [])]⟩ ?_
            obtain ⟨h10, H⟩ := sC H
            refine ak_append1 (id := 0) (kk := 1) (by' := 4) (t := 57) (e := 37) (z := [.int .u32 0]) (dst := some 54) (id2 := 1) (e2 := 37) (fz := false) (k' := (K29 11111101001001111 9)) hT (eI .u32) 0 x3_r0 v2 [0, 5, 7, 54] (by kernel_rfl) (by kernel_rfl) (by kernel_rfl) (by kernel_rfl) (by kernel_rfl) (by kernel_rfl) (by kernel_rfl) h10 (by omega) (st' := ⟨56, [(0, .d (eL37 t0 a0)), (5, .n .u32 v1), (7, .i x3_7), (54, .own 2 1 0 ((x3_r0 ++ [v2]).length))], [.gone, .flat false 1 37 1 (fun j => [[.n .u32 v2]].getD j []), eR37 (x3_r0 ++ [v2])]⟩) (by kernel_rfl) ?_
            refine goK hT 3 (K29 11111101001 1) ⟨56, [(0, .d (eL37 t0 a0)), (5, .n .u32 v1), (6, .own 2 1 0 ((x3_r0 ++ [v2]).length)), (7, .i x3_7)], [.gone, .flat false 1 37 1 (fun j => [[.n .u32 v2]].getD j []), eR37 (x3_r0 ++ [v2])]⟩ ?_
            refine cutK [2] ⟨56, [(0, .d (eL37 t0 a0)), (5, .n .u32 v1), (6, .own 0 1 0 (x3_r0 ++ [v2]).length), (7, .i x3_7)], [eR37 (x3_r0 ++ [v2])]⟩ h0 ?_
            exact Jj1 (x3_r0 ++ [v2]) H
  refine cutK [0] ⟨56, [(0, .d (eL37 t0 a0)), (3, .own 0 1 0 ([] : List Int).length), (4, .i 0)], [eR37 ([] : List Int)]⟩ h0 ?_
  obtain ⟨n, H⟩ := loopC H
  exact (L n).1 0 ([] : List Int) H


theorem spliceref20_Levels.says {t0 : Bool} (a0 : List spliceref04_Pair) {r : List (List Int)} (H : spliceref20_Levels a0 = some r) : Says Try.prog 37 [] [.d (eL94 t0 a0)] [eR57 r] (.own 0 1 0 r.length) := by
  refine says_of Try.func37 rfl (nt := 18) rfl (Nat.le_of_ble_eq_true rfl) fun X hP h0 hX => ?_
  have hT : TabOk X.P T := hP ▸ tok
  have hf : X.P.funcs[37]? = some Try.f37 := hP ▸ Try.func37
  refine goK hT 7 (K37 110 1) ⟨18, [(6, .d (eL94 t0 a0))], []⟩ ?_
  obtain ⟨v1, h1, H⟩ := ibC H
  refine ak_callP (avs := [.d (eL94 t0 a0)]) (dst := some 7) (k' := (K37 110 2)) [7] [] hP enters_52 (spliceref20_Leaves.says (t0 := t0) a0 h1) (by kernel_rfl) (hands_none _) (.cons (pass_d _) .nil) (st' := ⟨18, [(7, .own 0 1 0 v1.length)], [eR37 v1]⟩) (by kernel_rfl) ?_
  refine goK hT 5 (K37 1110 1) ⟨18, [(3, .own 0 1 0 v1.length), (8, .own 0 1 0 v1.length)], [eR37 v1]⟩ ?_
  obtain ⟨v2, h2, H⟩ := ibC H
  refine ak_callP (avs := [.own 0 1 0 v1.length]) (dst := some 9) (k' := (K37 1110 2)) [3, 9] [] hP enters_29 (spliceref20_Above.says (t0 := false) v1 h2) (by kernel_rfl) (hands_none _) (.cons (.lend (ty := 37) (by kernel_rfl) rfl) .nil) (st' := ⟨18, [(3, .own 0 1 0 v1.length), (9, .own 1 1 0 v2.length)], [eR37 v1, eR37 v2]⟩) (by kernel_rfl) ?_
  refine goK hT 5 (K37 11110 1) ⟨18, [(3, .own 0 1 0 v1.length), (4, .own 1 1 0 v2.length), (10, .own 1 1 0 v2.length)], [eR37 v1, eR37 v2]⟩ ?_
  obtain ⟨v3, h3, H⟩ := ibC H
  refine ak_callP (avs := [.own 1 1 0 v2.length]) (dst := some 11) (k' := (K37 11110 2)) [3, 4, 11] [] hP enters_29 (spliceref20_Above.says (t0 := false) v2 h3) (by kernel_rfl) (hands_none _) (.cons (.lend (ty := 37) (by kernel_rfl) rfl) .nil) (st' := ⟨18, [(3, .own 0 1 0 v1.length), (4, .own 1 1 0 v2.length), (11, .own 2 1 0 v3.length)], [eR37 v1, eR37 v2, eR37 v3]⟩) (by kernel_rfl) ?_
  refine goK hT 8 (K37 111110 4) ⟨18, [(12, .own 0 1 0 v1.length), (13, .own 1 1 0 v2.length), (14, .own 2 1 0 v3.length), (15, .own 2 1 0 v3.length)], [eR37 v1, eR37 v2, eR37 v3]⟩ ?_
  obtain ⟨v4, h4, H⟩ := ibC H
  refine ak_callP (avs := [.own 2 1 0 v3.length]) (dst := some 16) (k' := (K37 111110 5)) [12, 13, 14, 16] [] hP enters_29 (spliceref20_Above.says (t0 := false) v3 h4) (by kernel_rfl) (hands_none _) (.cons (.lend (ty := 37) (by kernel_rfl) rfl) .nil) (st' := ⟨18, [(12, .own 0 1 0 v1.length), (13, .own 1 1 0 v2.length), (14, .own 2 1 0 v3.length), (16, .own 3 1 0 v4.length)], [eR37 v1, eR37 v2, eR37 v3, eR37 v4]⟩) (by kernel_rfl) ?_
  refine ak_freeze 0 (kk := 1) (n := v1.length) (ty := 37) (g := vec (eI .u32) 0 v1) (by kernel_rfl) (st' := ⟨18, [(12, .own 0 1 0 v1.length), (13, .own 1 1 0 v2.length), (14, .own 2 1 0 v3.length), (16, .own 3 1 0 v4.length)], [eF37 v1, eR37 v2, eR37 v3, eR37 v4]⟩) (by kernel_rfl) ?_
  refine ak_sealS (av := .own 0 1 0 v1.length) (y := eL37 true v1) [12, 13, 14, 16] 12 (st' := ⟨18, [(12, .d (eL37 true v1)), (13, .own 1 1 0 v2.length), (14, .own 2 1 0 v3.length), (16, .own 3 1 0 v4.length)], [eF37 v1, eR37 v2, eR37 v3, eR37 v4]⟩) (by kernel_rfl) (.own (ty := 37) (k := 1) (by kernel_rfl)) (by kernel_rfl) ?_
  refine ak_freeze 1 (kk := 1) (n := v2.length) (ty := 37) (g := vec (eI .u32) 0 v2) (by kernel_rfl) (st' := ⟨18, [(12, .d (eL37 true v1)), (13, .own 1 1 0 v2.length), (14, .own 2 1 0 v3.length), (16, .own 3 1 0 v4.length)], [eF37 v1, eF37 v2, eR37 v3, eR37 v4]⟩) (by kernel_rfl) ?_
  refine ak_sealS (av := .own 1 1 0 v2.length) (y := eL37 true v2) [12, 13, 14, 16] 13 (st' := ⟨18, [(12, .d (eL37 true v1)), (13, .d (eL37 true v2)), (14, .own 2 1 0 v3.length), (16, .own 3 1 0 v4.length)], [eF37 v1, eF37 v2, eR37 v3, eR37 v4]⟩) (by kernel_rfl) (.own (ty := 37) (k := 1) (by kernel_rfl)) (by kernel_rfl) ?_
  refine ak_freeze 2 (kk := 1) (n := v3.length) (ty := 37) (g := vec (eI .u32) 0 v3) (by kernel_rfl) (st' := ⟨18, [(12, .d (eL37 true v1)), (13, .d (eL37 true v2)), (14, .own 2 1 0 v3.length), (16, .own 3 1 0 v4.length)], [eF37 v1, eF37 v2, eF37 v3, eR37 v4]⟩) (by kernel_rfl) ?_
  refine ak_sealS (av := .own 2 1 0 v3.length) (y := eL37 true v3) [12, 13, 14, 16] 14 (st' := ⟨18, [(12, .d (eL37 true v1)), (13, .d (eL37 true v2)), (14, .d (eL37 true v3)), (16, .own 3 1 0 v4.length)], [eF37 v1, eF37 v2, eF37 v3, eR37 v4]⟩) (by kernel_rfl) (.own (ty := 37) (k := 1) (by kernel_rfl)) (by kernel_rfl) ?_
  refine ak_freeze 3 (kk := 1) (n := v4.length) (ty := 37) (g := vec (eI .u32) 0 v4) (by kernel_rfl) (st' := ⟨18, [(12, .d (eL37 true v1)), (13, .d (eL37 true v2)), (14, .d (eL37 true v3)), (16, .own 3 1 0 v4.length)], [eF37 v1, eF37 v2, eF37 v3, eF37 v4]⟩) (by kernel_rfl) ?_
  refine ak_sealS (av := .own 3 1 0 v4.length) (y := eL37 true v4) [12, 13, 14, 16] 16 (st' := ⟨18, [(12, .d (eL37 true v1)), (13, .d (eL37 true v2)), (14, .d (eL37 true v3)), (16, .d (eL37 true v4))], [eF37 v1, eF37 v2, eF37 v3, eF37 v4]⟩) (by kernel_rfl) (.own (ty := 37) (k := 1) (by kernel_rfl)) (by kernel_rfl) ?_
  refine goK hT 3 (K37 11111 1) ⟨18, [(2, .own 4 1 0 4)], [eF37 v1, eF37 v2, eF37 v3, eF37 v4, .flat false 1 57 4 (fun j => [[eL37 true v1], [eL37 true v2], [eL37 true v3], [eL37 true v4]].getD j [])]⟩ ?_
  refine ak_row 4 (kk := 1) (fz := false) (ty := 57) (n := ([v1, v2, v3, v4] : List (List Int)).length) (vec (eL (eI .u32) 0) [] ([v1, v2, v3, v4] : List (List Int))) (by kernel_rfl) vec_lit (st' := ⟨18, [(2, .own 4 1 0 (([v1, v2, v3, v4] : List (List Int)).length))], [eF37 v1, eF37 v2, eF37 v3, eF37 v4, eR57 ([v1, v2, v3, v4] : List (List Int))]⟩) (by kernel_rfl) ?_
  obtain rfl := retC H
  exact ak_ret hf hX (av := .own 4 1 0 (([v1, v2, v3, v4] : List (List Int)).length)) (by kernel_rfl) [4] (sel_of_eq (by kernel_rfl)) (by decide) (by rw [h0]; rfl) (by kernel_rfl) (fun _ h => all_cons (nr_vec (nlL (nlI .u32))) (fun _ h => all_nil h) h) (.own _ _ _ _)


theorem splicelaw20_levels.says {t0 : Bool} (a0 : List api_Pair) {r : List (List Int)} (H : splicelaw20_levels a0 = some r) : Says Try.prog 13 [] [.d (eL42 t0 a0)] [eR57 r] (.own 0 1 0 r.length) := by
  refine says_of Try.func13 rfl (nt := 6) rfl (Nat.le_of_ble_eq_true rfl) fun X hP h0 hX => ?_
  have hT : TabOk X.P T := hP ▸ tok
  have hf : X.P.funcs[13]? = some Try.f13 := hP ▸ Try.func13
  refine goK hT 7 (K13 110 1) ⟨6, [(3, .d (eL42 t0 a0))], []⟩ ?_
  obtain ⟨v1, h1, H⟩ := ibC H
  refine ak_callP (avs := [.d (eL42 t0 a0)]) (dst := some 4) (k' := (K13 110 2)) [4] [] hP enters_22 (splicelaw05_Refs.says (t0 := t0) a0 h1) (by kernel_rfl) (hands_none _) (.cons (pass_d _) .nil) (st' := ⟨6, [(4, .own 0 2 0 v1.length)], [eR94 v1]⟩) (by kernel_rfl) ?_
  obtain ⟨v2, h2, H⟩ := ibC H
  refine ak_callP (avs := [.own 0 2 0 v1.length]) (dst := some 5) (k' := (K13 110 3)) [5] [] hP enters_37 (spliceref20_Levels.says (t0 := false) v1 h2) (by kernel_rfl) (hands_none _) (.cons (.lend (ty := 94) (by kernel_rfl) rfl) .nil) (st' := ⟨6, [(5, .own 1 1 0 v2.length)], [eR94 v1, eR57 v2]⟩) (by kernel_rfl) ?_
  refine goK hT 2 (K13 11 1) ⟨6, [(2, .own 1 1 0 v2.length)], [eR94 v1, eR57 v2]⟩ ?_
  obtain rfl := retC H
  exact ak_ret hf hX (av := .own 1 1 0 v2.length) (by kernel_rfl) [1] (sel_of_eq (by kernel_rfl)) (by decide) (by rw [h0]; rfl) (by kernel_rfl) (fun _ h => all_cons (nr_vec (nlL (nlI .u32))) (fun _ h => all_nil h) h) (.own _ _ _ _)


theorem spliceref05_Check.says {t0 : Bool} (a0 : List spliceref04_Pair) {r : Bool} (H : spliceref05_Check a0 = some r) : Says Try.prog 21 [] [.d (eL94 t0 a0)] [] (.b r) := by
  refine says_of Try.func21 rfl (nt := 56) rfl (Nat.le_of_ble_eq_true rfl) fun X hP h0 hX => ?_
  have hT : TabOk X.P T := hP ▸ tok
  have hf : X.P.funcs[21]? = some Try.f21 := hP ▸ Try.func21
  refine goK hT 11 (K21 11010 0) ⟨56, [(0, .d (eL94 t0 a0)), (3, .i 0)], []⟩ ?_
  have L : ∀ n, (∀ (x1_3 : Int), iter (spliceref05_Check.step a0) n (.l1 x1_3) = some r → AK X 21 ((K21 11010 0)) (Back X [] (.b r)) ⟨56, [(0, .d (eL94 t0 a0)), (3, .i x1_3)], []⟩) := by
    intro n
    induction n with
    | zero => exact fun _ H => iter0 H
    | succ n ih =>
      · intro x1_3 H
        refine goK hT 8 (K21 1101000 1) ⟨56, [(0, .d (eL94 t0 a0)), (3, .i x1_3), (7, .b (decide (x1_3 < (a0.length : Int))))], []⟩ ?_
        by_cases c1 : x1_3 < (a0.length : Int)
        · replace H := sT c1 H
          rw [decide_eq_true c1]
          refine goK hT 2 (K21 110100 1) ⟨56, [(0, .d (eL94 t0 a0)), (3, .i x1_3)], []⟩ ?_
          refine goK hT 7 (K21 11010010000 2) ⟨56, [(0, .d (eL94 t0 a0)), (3, .i x1_3), (10, .d (eL94 t0 a0)), (11, .i x1_3)], []⟩ ?_
          obtain ⟨h2, H⟩ := sC H
          have Jj1 : ∀ (y1_39 : Bool), stk (spliceref05_Check.j1 a0 x1_3 y1_39) (iter (spliceref05_Check.step a0) n) = some r → AK X 21 ((K21 1101001000 1)) (Back X [] (.b r)) ⟨56, [(0, .d (eL94 t0 a0)), (3, .i x1_3), (39, .b y1_39)], []⟩ := by
            intro y1_39 H
            by_cases c6 : y1_39 = true
            · replace H := sT c6 H
              rw [c6]
              refine goK hT 5 (K21 110100100010 1) ⟨56, [(2, .b false)], []⟩ ?_
              obtain rfl := retC H
              exact ak_ret hf hX (av := .b false) (by kernel_rfl) [] (sel_of_eq (by kernel_rfl)) (by decide) (by rw [h0]; rfl) (by kernel_rfl) (fun _ h => all_nil h) (.d (.v _))
            · replace H := sF c6 H
              have Jj2 : ∀ (y2_55 : Bool), stk (spliceref05_Check.j2 x1_3 y2_55) (iter (spliceref05_Check.step a0) n) = some r → AK X 21 ((K21 1101001001 1)) (Back X [] (.b r)) ⟨56, [(0, .d (eL94 t0 a0)), (3, .i x1_3), (55, .b y2_55)], []⟩ := by
                intro y2_55 H
                by_cases c9 : y2_55 = true
                · replace H := sT c9 H
                  rw [c9]
                  refine goK hT 5 (K21 110100100110 1) ⟨56, [(2, .b false)], []⟩ ?_
                  obtain rfl := retC H
                  exact ak_ret hf hX (av := .b false) (by kernel_rfl) [] (sel_of_eq (by kernel_rfl)) (by decide) (by rw [h0]; rfl) (by kernel_rfl) (fun _ h => all_nil h) (.d (.v _))
                · replace H := sF c9 H
                  rw [boF c9]
                  refine goK hT 3 (K21 1101001 1) ⟨56, [(0, .d (eL94 t0 a0)), (3, .i x1_3)], []⟩ ?_
                  refine goK hT 6 (K21 11010 0) ⟨56, [(0, .d (eL94 t0 a0)), (3, .i (IntKind.wrap .i64 (x1_3 + 1)))], []⟩ ?_
                  refine cutK [] ⟨56, [(0, .d (eL94 t0 a0)), (3, .i (IntKind.wrap .i64 (x1_3 + 1)))], []⟩ h0 ?_
                  exact ih (IntKind.wrap .i64 (x1_3 + 1)) H
              rw [boF c6]
              refine goK hT 2 (K21 110100100 1) ⟨56, [(0, .d (eL94 t0 a0)), (3, .i x1_3)], []⟩ ?_
              refine goK hT 1 (K21 1101001001 0) ⟨56, [(0, .d (eL94 t0 a0)), (3, .i x1_3)], []⟩ ?_
              by_cases c7 : x1_3 > 0
              · replace H := sT c7 H
                obtain ⟨h8, H⟩ := sC H
                refine drawK (hP ▸ mixed) 16 [0, 3] [some (.i x1_3), some (.b true), some (.b true), some (.d (eL94 t0 a0)), some (.i x1_3), some (.d (eP94 t0 a0 x1_3.toNat 0)), some (.d (eP94 t0 a0 x1_3.toNat 0)), some (.i ((a0.getD x1_3.toNat spliceref04_Pair.z).Key)), some (.d (eL94 t0 a0)), some (.i x1_3), some (.i (IntKind.wrap .i64 (x1_3 - 1))), some (.d (eP94 t0 a0 ((IntKind.wrap .i64 (x1_3 - 1)).toNat) 0)), some (.d (eP94 t0 a0 ((IntKind.wrap .i64 (x1_3 - 1)).toNat) 0)), some (.i ((a0.getD ((IntKind.wrap .i64 (x1_3 - 1)).toNat) spliceref04_Pair.z).Key)), some (.b (decide (((a0.getD x1_3.toNat spliceref04_Pair.z).Key) ≤ ((a0.getD ((IntKind.wrap .i64 (x1_3 - 1)).toNat) spliceref04_Pair.z).Key)))), some (.b (decide (((a0.getD x1_3.toNat spliceref04_Pair.z).Key) ≤ ((a0.getD ((IntKind.wrap .i64 (x1_3 - 1)).toNat) spliceref04_Pair.z).Key))))] (opG (opG (opG (opG (opS (opG (opG (opG (opG (opG (opS (opG (opG (opG (opV (opG op0 hT) hT 41 (.b (decide (x1_3 > 0))) (.b true) (by rw [decide_eq_true c7] <;> rfl)) hT) hT) hT) (fun R rest h => ak_idx0 hT (i := x1_3) (n := (a0.length : Int)) h2.1 h2.2 (by kernel_rfl) h)) hT) hT) hT) hT) hT) (fun R rest h => ak_idx0 hT (i := IntKind.wrap .i64 (x1_3 - 1)) (n := (a0.length : Int)) h8.1 h8.2 (by kernel_rfl) h)) hT) hT) hT) hT) ?_
                refine goK hT 1 (K21 1101001001 1) ⟨56, [(0, .d (eL94 t0 a0)), (3, .i x1_3), (55, .b (decide (((a0.getD x1_3.toNat spliceref04_Pair.z).Key) ≤ ((a0.getD ((IntKind.wrap .i64 (x1_3 - 1)).toNat) spliceref04_Pair.z).Key))))], []⟩ ?_
                refine cutK [] ⟨56, [(0, .d (eL94 t0 a0)), (3, .i x1_3), (55, .b (decide (((a0.getD x1_3.toNat spliceref04_Pair.z).Key) ≤ ((a0.getD ((IntKind.wrap .i64 (x1_3 - 1)).toNat) spliceref04_Pair.z).Key))))], []⟩ h0 ?_
                exact Jj2 (decide (((a0.getD x1_3.toNat spliceref04_Pair.z).Key) ≤ ((a0.getD ((IntKind.wrap .i64 (x1_3 - 1)).toNat) spliceref04_Pair.z).Key))) H
              · replace H := sF c7 H
                refine drawK (hP ▸ mixed) 16 [0, 3] [some (.i x1_3), some (.b false), some (.b false), some (.tup []), some (.tup []), some (.tup []), some (.tup []), some (.tup []), some (.tup []), some (.tup []), some (.tup []), some (.tup []), some (.tup []), some (.tup []), some (.tup []), some (.b false)] (opG (opG (opG (opG (opG (opG (opG (opG (opG (opG (opG (opG (opG (opG (opV (opG op0 hT) hT 41 (.b (decide (x1_3 > 0))) (.b false) (by rw [decide_eq_false c7] <;> rfl)) hT) hT) hT) hT) hT) hT) hT) hT) hT) hT) hT) hT) hT) hT) ?_
                refine goK hT 1 (K21 1101001001 1) ⟨56, [(0, .d (eL94 t0 a0)), (3, .i x1_3), (55, .b false)], []⟩ ?_
                refine cutK [] ⟨56, [(0, .d (eL94 t0 a0)), (3, .i x1_3), (55, .b false)], []⟩ h0 ?_
                exact Jj2 false H
          refine ak_idx hT [0, 3, 12] (i := x1_3) (n := (a0.length : Int)) h2.1 h2.2 (k' := (K21 11010010000 3)) (st' := ⟨56, [(0, .d (eL94 t0 a0)), (3, .i x1_3), (12, .d (eP94 t0 a0 x1_3.toNat 0))], []⟩) (by kernel_rfl) ?_
          refine goK hT 4 (K21 11010010000 7) ⟨56, [(0, .d (eL94 t0 a0)), (3, .i x1_3), (16, .b (decide (((a0.getD x1_3.toNat spliceref04_Pair.z).Key) < 0)))], []⟩ ?_
          by_cases c3 : ((a0.getD x1_3.toNat spliceref04_Pair.z).Key) < 0
          · replace H := sT c3 H
            rw [decide_eq_true c3]
            refine goK hT 24 (K21 1101001000 1) ⟨56, [(0, .d (eL94 t0 a0)), (3, .i x1_3), (39, .b true)], []⟩ ?_
            refine cutK [] ⟨56, [(0, .d (eL94 t0 a0)), (3, .i x1_3), (39, .b true)], []⟩ h0 ?_
            exact Jj1 true H
          · replace H := sF c3 H
            rw [decide_eq_false c3]
            refine goK hT 2 (K21 11010010000 9) ⟨56, [(0, .d (eL94 t0 a0)), (3, .i x1_3), (16, .b false), (17, .d (eL94 t0 a0)), (18, .i x1_3)], []⟩ ?_
            refine ak_idx hT [0, 3, 16, 19] (i := x1_3) (n := (a0.length : Int)) h2.1 h2.2 (k' := (K21 11010010000 10)) (st' := ⟨56, [(0, .d (eL94 t0 a0)), (3, .i x1_3), (16, .b false), (19, .d (eP94 t0 a0 x1_3.toNat 0))], []⟩) (by kernel_rfl) ?_
            refine goK hT 5 (K21 11010010000 15) ⟨56, [(0, .d (eL94 t0 a0)), (3, .i x1_3), (24, .b (decide (((a0.getD x1_3.toNat spliceref04_Pair.z).Key) > 4095)))], []⟩ ?_
            by_cases c4 : ((a0.getD x1_3.toNat spliceref04_Pair.z).Key) > 4095
            · replace H := sT c4 H
              rw [decide_eq_true c4]
              refine goK hT 16 (K21 1101001000 1) ⟨56, [(0, .d (eL94 t0 a0)), (3, .i x1_3), (39, .b true)], []⟩ ?_
              refine cutK [] ⟨56, [(0, .d (eL94 t0 a0)), (3, .i x1_3), (39, .b true)], []⟩ h0 ?_
              exact Jj1 true H
            · replace H := sF c4 H
              rw [decide_eq_false c4]
              refine goK hT 2 (K21 11010010000 17) ⟨56, [(0, .d (eL94 t0 a0)), (3, .i x1_3), (24, .b false), (25, .d (eL94 t0 a0)), (26, .i x1_3)], []⟩ ?_
              refine ak_idx hT [0, 3, 24, 27] (i := x1_3) (n := (a0.length : Int)) h2.1 h2.2 (k' := (K21 11010010000 18)) (st' := ⟨56, [(0, .d (eL94 t0 a0)), (3, .i x1_3), (24, .b false), (27, .d (eP94 t0 a0 x1_3.toNat 0))], []⟩) (by kernel_rfl) ?_
              refine goK hT 5 (K21 11010010000 23) ⟨56, [(0, .d (eL94 t0 a0)), (3, .i x1_3), (32, .b (decide (((a0.getD x1_3.toNat spliceref04_Pair.z).Val) < (-1099511627776))))], []⟩ ?_
              by_cases c5 : ((a0.getD x1_3.toNat spliceref04_Pair.z).Val) < (-1099511627776)
              · replace H := sT c5 H
                rw [decide_eq_true c5]
                refine goK hT 8 (K21 1101001000 1) ⟨56, [(0, .d (eL94 t0 a0)), (3, .i x1_3), (39, .b true)], []⟩ ?_
                refine cutK [] ⟨56, [(0, .d (eL94 t0 a0)), (3, .i x1_3), (39, .b true)], []⟩ h0 ?_
                exact Jj1 true H
              · replace H := sF c5 H
                rw [decide_eq_false c5]
                refine goK hT 2 (K21 11010010000 25) ⟨56, [(0, .d (eL94 t0 a0)), (3, .i x1_3), (32, .b false), (33, .d (eL94 t0 a0)), (34, .i x1_3)], []⟩ ?_
                refine ak_idx hT [0, 3, 32, 35] (i := x1_3) (n := (a0.length : Int)) h2.1 h2.2 (k' := (K21 11010010000 26)) (st' := ⟨56, [(0, .d (eL94 t0 a0)), (3, .i x1_3), (32, .b false), (35, .d (eP94 t0 a0 x1_3.toNat 0))], []⟩) (by kernel_rfl) ?_
                refine goK hT 5 (K21 1101001000 1) ⟨56, [(0, .d (eL94 t0 a0)), (3, .i x1_3), (39, .b (decide (((a0.getD x1_3.toNat spliceref04_Pair.z).Val) > 1099511627776)))], []⟩ ?_
                refine cutK [] ⟨56, [(0, .d (eL94 t0 a0)), (3, .i x1_3), (39, .b (decide (((a0.getD x1_3.toNat spliceref04_Pair.z).Val) > 1099511627776)))], []⟩ h0 ?_
                exact Jj1 (decide (((a0.getD x1_3.toNat spliceref04_Pair.z).Val) > 1099511627776)) H
        · replace H := sF c1 H
          rw [decide_eq_false c1]
          refine goK hT 6 (K21 111 1) ⟨56, [(2, .b true)], []⟩ ?_
          obtain rfl := retC H
          exact ak_ret hf hX (av := .b true) (by kernel_rfl) [] (sel_of_eq (by kernel_rfl)) (by decide) (by rw [h0]; rfl) (by kernel_rfl) (fun _ h => all_nil h) (.d (.v _))
  refine cutK [] ⟨56, [(0, .d (eL94 t0 a0)), (3, .i 0)], []⟩ h0 ?_
  obtain ⟨n, H⟩ := loopC H
  exact (L n) 0 H


theorem merkle_isKey.says (a0 : Int) : Says Try.prog 43 [] [.i a0] [] (.b (merkle_isKey a0)) := by
  obtain ⟨r, H⟩ : ∃ r, merkle_isKey a0 = r := ⟨_, rfl⟩
  rw [H]
  refine says_of Try.func43 rfl (nt := 9) rfl (Nat.le_of_ble_eq_true rfl) fun X hP h0 hX => ?_
  have hT : TabOk X.P T := hP ▸ tok
  have hf : X.P.funcs[43]? = some Try.f43 := hP ▸ Try.func43
  have Jj1 : ∀ (y1_2 : Bool), (merkle_isKey.j1 y1_2) = r → AK X 43 ((K43 11 1)) (Back X [] (.b r)) ⟨9, [(2, .b y1_2)], []⟩ := by
    intro y1_2 H
    obtain rfl := H
    exact ak_ret hf hX (av := .b y1_2) (by kernel_rfl) [] (sel_of_eq (by kernel_rfl)) (by decide) (by rw [h0]; rfl) (by kernel_rfl) (fun _ h => all_nil h) (.d (.v _))
  refine goK hT 9 (K43 110 3) ⟨9, [(0, .i a0), (5, .b (decide (a0 ≥ 0)))], []⟩ ?_
  by_cases c1 : a0 ≥ 0
  · replace H := iT c1 H
    rw [decide_eq_true c1]
    refine goK hT 5 (K43 11 1) ⟨9, [(2, .b (decide (a0 < 4096)))], []⟩ ?_
    refine cutK [] ⟨9, [(2, .b (decide (a0 < 4096)))], []⟩ h0 ?_
    exact Jj1 (decide (a0 < 4096)) H
  · replace H := iF c1 H
    rw [decide_eq_false c1]
    refine goK hT 5 (K43 11 1) ⟨9, [(2, .b false)], []⟩ ?_
    refine cutK [] ⟨9, [(2, .b false)], []⟩ h0 ?_
    exact Jj1 false H


theorem merkle_Tree_Leaf.says (a0 : merkle_Tree) (a1 : Int) {r : Int × Int} (H : merkle_Tree_Leaf a0 a1 = some r) : Says Try.prog 24 [eB91 a0] [.ptr 0 0 0 0, .i a1] [eB91 a0] (.tup [.n .u32 r.1, .i r.2]) := by
  refine says_of Try.func24 rfl (nt := 19) rfl (Nat.le_of_ble_eq_true rfl) fun X hP h0 hX => ?_
  have hT : TabOk X.P T := hP ▸ tok
  have hf : X.P.funcs[24]? = some Try.f24 := hP ▸ Try.func24
  refine goK hT 12 (K24 1100 4) ⟨19, [(0, .ptr 0 0 0 0), (1, .i a1), (8, .b false), (9, .i a1)], [eB91 a0]⟩ ?_
  refine ak_callP (avs := [.i a1]) (dst := some 10) (k' := (K24 1100 5)) [0, 1, 8, 10] [] hP enters_43 (merkle_isKey.says a1) (by kernel_rfl) (hands_none _) (.cons (pass_d _) .nil) (st' := ⟨19, [(0, .ptr 0 0 0 0), (1, .i a1), (8, .b false), (10, .b (merkle_isKey a1))], [eB91 a0]⟩) (by kernel_rfl) ?_
  refine goK hT 3 (K24 110 1) ⟨19, [(0, .ptr 0 0 0 0), (1, .i a1), (12, .b (!(merkle_isKey a1)))], [eB91 a0]⟩ ?_
  by_cases c1 : (merkle_isKey a1) = true
  · replace H := iT c1 H
    rw [c1]
    refine goK hT 2 (K24 11 1) ⟨19, [(0, .ptr 0 0 0 0), (1, .i a1)], [eB91 a0]⟩ ?_
    refine goK hT 6 (K24 1110 4) ⟨19, [(14, .i a1), (16, .ptr 0 0 0 8192)], [eB91 a0]⟩ ?_
    obtain ⟨h2, H⟩ := iC H
    refine ak_idx hT [17] (i := a1) (n := 4096) h2.1 h2.2 (k' := (K24 1110 5)) (st' := ⟨19, [(17, .ptr 0 0 0 (8192 + a1.toNat * 1))], [eB91 a0]⟩) (by kernel_rfl) ?_
    refine ak_bld hT [18] (A := 0 * 0 + (8192 + a1.toNat * 1)) (s := 1) (n := 12561) (agg := false) (g := merkle_Tree.g a0) (dst := some 18) (k' := (K24 1110 6)) ((eI .u32) (a0.leaf a1.toNat)) (by kernel_rfl) (by omega) rfl (fun _ => rfl) (fun j hj => merkle_Tree.g_leaf a0 (i := a1.toNat) (by omega) (by omega) hj) (st' := ⟨19, [(18, .n .u32 (a0.leaf a1.toNat))], [eB91 a0]⟩) (by kernel_rfl) ?_
    refine goK hT 3 (K24 111 1) ⟨19, [(4, .n .u32 (a0.leaf a1.toNat)), (5, .i 0)], [eB91 a0]⟩ ?_
    obtain rfl := retC H
    exact ak_ret hf hX (av := .tup [.n .u32 (a0.leaf a1.toNat), .i 0]) (by kernel_rfl) [0] (sel_of_eq (by kernel_rfl)) (by decide) (by rw [h0]; rfl) (by kernel_rfl) (fun _ h => all_cons (.flat fun _ _ => merkle_Tree.gnl _ _) (fun _ h => all_nil h) h) (.tup (.cons (.d (.v _)) (.cons (.d (.v _)) .nil)))
  · replace H := iF c1 H
    rw [boF c1]
    refine goK hT 6 (K24 11010 1) ⟨19, [(4, .n .u32 0), (5, .i 1)], [eB91 a0]⟩ ?_
    obtain rfl := retC H
    exact ak_ret hf hX (av := .tup [.n .u32 0, .i 1]) (by kernel_rfl) [0] (sel_of_eq (by kernel_rfl)) (by decide) (by rw [h0]; rfl) (by kernel_rfl) (fun _ h => all_cons (.flat fun _ _ => merkle_Tree.gnl _ _) (fun _ h => all_nil h) h) (.tup (.cons (.d (.v _)) (.cons (.d (.v _)) .nil)))


theorem merkle_Tree_Table.says (a0 : merkle_Tree) {r : List api_Pair} (H : merkle_Tree_Table a0 = some r) : Says Try.prog 27 [eB91 a0] [.ptr 0 0 0 0] [eB91 a0, eR42 r] (.own 1 2 0 r.length) := by
  refine says_of Try.func27 rfl (nt := 26) rfl (Nat.le_of_ble_eq_true rfl) fun X hP h0 hX => ?_
  have hT : TabOk X.P T := hP ▸ tok
  have hf : X.P.funcs[27]? = some Try.f27 := hP ▸ Try.func27
  refine goK hT 12 (K27 11100 1) ⟨26, [(3, .ns), (6, .ptr 0 0 0 0)], [eB91 a0]⟩ ?_
  refine ak_callP (avs := [.ptr 0 0 0 0]) (dst := some 7) (k' := (K27 11100 2)) [3, 7] [0] hP enters_39 (merkle_Tree_some.says a0) (by kernel_rfl) (hands_one rfl rfl) (.cons (.same (.ptr 0 0 0 0)) .nil) (st' := ⟨26, [(3, .ns), (7, .ptr 0 0 0 0)], [eB91 a0]⟩) (by kernel_rfl) ?_
  refine goK hT 2 (K27 11100 4) ⟨26, [(3, .ns), (9, .ptr 0 0 0 0)], [eB91 a0]⟩ ?_
  refine ak_bld hT [3, 10] (A := 0 * 0 + 0) (s := 8192) (n := 12561) (agg := true) (g := merkle_Tree.g a0) (dst := some 10) (k' := (K27 11100 5)) (arrL api_Cell.e a0.cells 4096) (by kernel_rfl) (by omega) (arrL_length (s := 2) (fun _ => rfl) _ _) (fun h => by cases h) (fun j hj => merkle_Tree.a_cells a0 (by omega) hj) (st' := ⟨26, [(3, .ns), (10, .d (.agg (arrL api_Cell.e a0.cells 4096)))], [eB91 a0]⟩) (by kernel_rfl) ?_
  refine goK hT 4 (K27 111010 0) ⟨26, [(3, .ns), (10, .d (.agg (arrL api_Cell.e a0.cells 4096))), (11, .i 0)], [eB91 a0]⟩ ?_
  refine ak_nilS [3, 10, 11] 3 2 42 (vec api_Pair.e api_Pair.z []) (st' := ⟨26, [(3, .own 1 2 0 0), (10, .d (.agg (arrL api_Cell.e a0.cells 4096))), (11, .i 0)], [eB91 a0, eR42 ([] : List api_Pair)]⟩) (by kernel_rfl) (by kernel_rfl) ?_
  have L : ∀ n, (∀ (x1_11 : Int) (x1_r1 : List api_Pair), iter (merkle_Tree_Table.step a0) n (.l1 x1_11 x1_r1) = some r → AK X 27 ((K27 111010 0)) (Back X [eB91 a0, eR42 r] (.own 1 2 0 r.length)) ⟨26, [(3, .own 1 2 0 x1_r1.length), (10, .d (.agg (arrL api_Cell.e a0.cells 4096))), (11, .i x1_11)], [eB91 a0, eR42 x1_r1]⟩) := by
    intro n
    induction n with
    | zero => exact fun _ _ H => iter0 H
    | succ n ih =>
      · intro x1_11 x1_r1 H
        refine goK hT 5 (K27 11101001 0) ⟨26, [(3, .own 1 2 0 x1_r1.length), (10, .d (.agg (arrL api_Cell.e a0.cells 4096))), (11, .i x1_11), (12, .b (decide (x1_11 < 4096)))], [eB91 a0, eR42 x1_r1]⟩ ?_
        by_cases c1 : x1_11 < 4096
        · replace H := sT c1 H
          rw [decide_eq_true c1]
          refine goK hT 2 (K27 11101001 1) ⟨26, [(3, .own 1 2 0 x1_r1.length), (10, .d (.agg (arrL api_Cell.e a0.cells 4096))), (11, .i x1_11)], [eB91 a0, eR42 x1_r1]⟩ ?_
          refine goK hT 5 (K27 111010011000 1) ⟨26, [(3, .own 1 2 0 x1_r1.length), (10, .d (.agg (arrL api_Cell.e a0.cells 4096))), (11, .i x1_11), (13, .i x1_11)], [eB91 a0, eR42 x1_r1]⟩ ?_
          obtain ⟨h2, H⟩ := sC H
          have Jj1 : ∀ (y1_r1 : List api_Pair), stk (merkle_Tree_Table.j1 x1_11 y1_r1) (iter (merkle_Tree_Table.step a0) n) = some r → AK X 27 ((K27 111010011 1)) (Back X [eB91 a0, eR42 r] (.own 1 2 0 r.length)) ⟨26, [(3, .own 1 2 0 y1_r1.length), (10, .d (.agg (arrL api_Cell.e a0.cells 4096))), (11, .i x1_11)], [eB91 a0, eR42 y1_r1]⟩ := by
            intro y1_r1 H
            refine goK hT 5 (K27 111010 0) ⟨26, [(3, .own 1 2 0 y1_r1.length), (10, .d (.agg (arrL api_Cell.e a0.cells 4096))), (11, .i (IntKind.wrap .i64 (x1_11 + 1)))], [eB91 a0, eR42 y1_r1]⟩ ?_
            refine cutK [0, 1] ⟨26, [(3, .own 1 2 0 y1_r1.length), (10, .d (.agg (arrL api_Cell.e a0.cells 4096))), (11, .i (IntKind.wrap .i64 (x1_11 + 1)))], [eB91 a0, eR42 y1_r1]⟩ h0 ?_
            exact ih (IntKind.wrap .i64 (x1_11 + 1)) y1_r1 H
          refine ak_idxV hT [3, 10, 11, 13, 14] (ds := arrL api_Cell.e a0.cells 4096) (i := x1_11) (len := 4096) (s := 2) (agg := true) (dst := some 14) (k' := (K27 111010011000 2)) (api_Cell.e (a0.cells x1_11.toNat)) (by kernel_rfl) h2.1 h2.2 (arrL_at (e := api_Cell.e) (s := 2) (n := 4096) (i := x1_11.toNat) (fun _ => rfl) a0.cells (by omega)) rfl (fun h => by cases h) (st' := ⟨26, [(3, .own 1 2 0 x1_r1.length), (10, .d (.agg (arrL api_Cell.e a0.cells 4096))), (11, .i x1_11), (13, .i x1_11), (14, .d (eG48 (a0.cells x1_11.toNat)))], [eB91 a0, eR42 x1_r1]⟩) (by kernel_rfl) ?_
          refine goK hT 9 (K27 111010011001 1) ⟨26, [(3, .own 1 2 0 x1_r1.length), (4, .i x1_11), (5, .ptr 2 0 0 0), (10, .d (.agg (arrL api_Cell.e a0.cells 4096))), (11, .i x1_11), (16, .b ((a0.cells x1_11.toNat).Some))], [eB91 a0, eR42 x1_r1, .box 48 [.i ((a0.cells x1_11.toNat).Val), .b ((a0.cells x1_11.toNat).Some)]]⟩ ?_
          by_cases c3 : ((a0.cells x1_11.toNat).Some) = true
          · replace H := sT c3 H
            rw [c3]
            refine goK hT 8 (K27 11101001100110 6) ⟨26, [(10, .d (.agg (arrL api_Cell.e a0.cells 4096))), (11, .i x1_11), (17, .own 1 2 0 x1_r1.length), (22, .own 3 2 0 1)], [eB91 a0, eR42 x1_r1, .box 48 [.i ((a0.cells x1_11.toNat).Val), .b true], .flat false 2 42 1 (fun j => [[.i x1_11, .i ((a0.cells x1_11.toNat).Val)]].getD j [])]⟩ ?_
            obtain ⟨h4, H⟩ := sC H
            refine ak_append1 (id := 1) (kk := 2) (by' := 16) (t := 22) (e := 42) (z := [.int .i64 0, .int .i64 0]) (dst := some 23) (id2 := 3) (e2 := 42) (fz := false) (k' := (K27 11101001100110 7)) hT api_Pair.e api_Pair.z x1_r1 (⟨x1_11, (a0.cells x1_11.toNat).Val⟩ : api_Pair) [10, 11, 23] (by kernel_rfl) (by kernel_rfl) (by kernel_rfl) (by kernel_rfl) (by kernel_rfl) (by kernel_rfl) (by kernel_rfl) h4 (by omega) (st' := ⟨26, [(10, .d (.agg (arrL api_Cell.e a0.cells 4096))), (11, .i x1_11), (23, .own 4 2 0 ((x1_r1 ++ [(⟨x1_11, (a0.cells x1_11.toNat).Val⟩ : api_Pair)]).length))], [eB91 a0, .gone, .box 48 [.i ((a0.cells x1_11.toNat).Val), .b true], .flat false 2 42 1 (fun j => [[.i x1_11, .i ((a0.cells x1_11.toNat).Val)]].getD j []), eR42 (x1_r1 ++ [(⟨x1_11, (a0.cells x1_11.toNat).Val⟩ : api_Pair)])]⟩) (by kernel_rfl) ?_
            refine goK hT 3 (K27 111010011 1) ⟨26, [(3, .own 4 2 0 ((x1_r1 ++ [(⟨x1_11, (a0.cells x1_11.toNat).Val⟩ : api_Pair)]).length)), (10, .d (.agg (arrL api_Cell.e a0.cells 4096))), (11, .i x1_11)], [eB91 a0, .gone, .box 48 [.i ((a0.cells x1_11.toNat).Val), .b true], .flat false 2 42 1 (fun j => [[.i x1_11, .i ((a0.cells x1_11.toNat).Val)]].getD j []), eR42 (x1_r1 ++ [(⟨x1_11, (a0.cells x1_11.toNat).Val⟩ : api_Pair)])]⟩ ?_
            refine cutK [0, 4] ⟨26, [(3, .own 1 2 0 (x1_r1 ++ [(⟨x1_11, (a0.cells x1_11.toNat).Val⟩ : api_Pair)]).length), (10, .d (.agg (arrL api_Cell.e a0.cells 4096))), (11, .i x1_11)], [eB91 a0, eR42 (x1_r1 ++ [(⟨x1_11, (a0.cells x1_11.toNat).Val⟩ : api_Pair)])]⟩ h0 ?_
            exact Jj1 (x1_r1 ++ [(⟨x1_11, (a0.cells x1_11.toNat).Val⟩ : api_Pair)]) H
          · replace H := sF c3 H
            rw [boF c3]
            refine goK hT 3 (K27 111010011 1) ⟨26, [(3, .own 1 2 0 x1_r1.length), (10, .d (.agg (arrL api_Cell.e a0.cells 4096))), (11, .i x1_11)], [eB91 a0, eR42 x1_r1, .box 48 [.i ((a0.cells x1_11.toNat).Val), .b false]]⟩ ?_
            refine cutK [0, 1] ⟨26, [(3, .own 1 2 0 x1_r1.length), (10, .d (.agg (arrL api_Cell.e a0.cells 4096))), (11, .i x1_11)], [eB91 a0, eR42 x1_r1]⟩ h0 ?_
            exact Jj1 x1_r1 H
        · replace H := sF c1 H
          rw [decide_eq_false c1]
          refine goK hT 7 (K27 1111 1) ⟨26, [(2, .own 1 2 0 x1_r1.length)], [eB91 a0, eR42 x1_r1]⟩ ?_
          obtain rfl := retC H
          exact ak_ret hf hX (av := .own 1 2 0 x1_r1.length) (by kernel_rfl) [0, 1] (sel_of_eq (by kernel_rfl)) (by decide) (by rw [h0]; rfl) (by kernel_rfl) (fun _ h => all_cons (.flat fun _ _ => merkle_Tree.gnl _ _) (fun _ h => all_cons (nr_vec api_Pair.nl) (fun _ h => all_nil h) h) h) (.own _ _ _ _)
  refine cutK [0, 1] ⟨26, [(3, .own 1 2 0 ([] : List api_Pair).length), (10, .d (.agg (arrL api_Cell.e a0.cells 4096))), (11, .i 0)], [eB91 a0, eR42 ([] : List api_Pair)]⟩ h0 ?_
  obtain ⟨n, H⟩ := loopC H
  exact (L n) 0 ([] : List api_Pair) H


theorem merkle_isCell.says (a0 : api_Cell) : Says Try.prog 44 [] [.d (eG48 a0)] [] (.b (merkle_isCell a0)) := by
  obtain ⟨r, H⟩ : ∃ r, merkle_isCell a0 = r := ⟨_, rfl⟩
  rw [H]
  refine says_of Try.func44 rfl (nt := 17) rfl (Nat.le_of_ble_eq_true rfl) fun X hP h0 hX => ?_
  have hT : TabOk X.P T := hP ▸ tok
  have hf : X.P.funcs[44]? = some Try.f44 := hP ▸ Try.func44
  refine goK hT 12 (K44 110 1) ⟨17, [(1, .ptr 0 0 0 0), (5, .b (!a0.Some))], [.box 48 (eC48 a0)]⟩ ?_
  by_cases c1 : a0.Some = true
  · replace H := iT c1 H
    have Jj1 : ∀ (y1_2 : Bool), (merkle_isCell.j1 y1_2) = r → AK X 44 ((K44 111 1)) (Back X [] (.b r)) ⟨17, [(2, .b y1_2)], []⟩ := by
      intro y1_2 H
      obtain rfl := H
      exact ak_ret hf hX (av := .b y1_2) (by kernel_rfl) [] (sel_of_eq (by kernel_rfl)) (by decide) (by rw [h0]; rfl) (by kernel_rfl) (fun _ h => all_nil h) (.d (.v _))
    rw [c1]
    refine goK hT 2 (K44 11 1) ⟨17, [(1, .ptr 0 0 0 0)], [.box 48 (eC48 a0)]⟩ ?_
    refine goK hT 6 (K44 1110 4) ⟨17, [(1, .ptr 0 0 0 0), (12, .b (decide (a0.Val ≥ (-1099511627776))))], [.box 48 (eC48 a0)]⟩ ?_
    by_cases c2 : a0.Val ≥ (-1099511627776)
    · replace H := iT c2 H
      rw [decide_eq_true c2]
      refine goK hT 6 (K44 111 1) ⟨17, [(2, .b (decide (a0.Val ≤ 1099511627776)))], [.box 48 (eC48 a0)]⟩ ?_
      refine cutK [] ⟨17, [(2, .b (decide (a0.Val ≤ 1099511627776)))], []⟩ h0 ?_
      exact Jj1 (decide (a0.Val ≤ 1099511627776)) H
    · replace H := iF c2 H
      rw [decide_eq_false c2]
      refine goK hT 6 (K44 111 1) ⟨17, [(2, .b false)], [.box 48 (eC48 a0)]⟩ ?_
      refine cutK [] ⟨17, [(2, .b false)], []⟩ h0 ?_
      exact Jj1 false H
  · replace H := iF c1 H
    rw [boF c1]
    refine goK hT 8 (K44 11010 1) ⟨17, [(2, .b (a0.Val == 0))], [.box 48 (eC48 a0)]⟩ ?_
    obtain rfl := H
    exact ak_ret hf hX (av := .b (a0.Val == 0)) (by kernel_rfl) [] (sel_of_eq (by kernel_rfl)) (by decide) (by rw [h0]; rfl) (by kernel_rfl) (fun _ h => all_nil h) (.d (.v _))


theorem merkle_Tree_Set.says (a0 : merkle_Tree) (a1 : Int) (a2 : api_Cell) {r : Int × merkle_Tree} (H : merkle_Tree_Set a0 a1 a2 = some r) : Says Try.prog 25 [eB91 a0] [.ptr 0 0 0 0, .i a1, .d (eG48 a2)] [eB91 r.2] (.i r.1) := by
  refine says_of Try.func25 rfl (nt := 23) rfl (Nat.le_of_ble_eq_true rfl) fun X hP h0 hX => ?_
  have hT : TabOk X.P T := hP ▸ tok
  have hf : X.P.funcs[25]? = some Try.f25 := hP ▸ Try.func25
  have Jj1 : ∀ (y1_18 : Bool), (merkle_Tree_Set.j1 a0 a1 a2 y1_18) = some r → AK X 25 ((K25 110 1)) (Back X [eB91 r.2] (.i r.1)) ⟨23, [(0, .ptr 0 0 0 0), (1, .i a1), (5, .ptr 1 0 0 0), (18, .b y1_18)], [eB91 a0, .box 48 (eC48 a2)]⟩ := by
    intro y1_18 H
    by_cases c2 : y1_18 = true
    · replace H := iT c2 H
      rw [c2]
      refine goK hT 5 (K25 11010 1) ⟨23, [(6, .i 1)], [eB91 a0, .box 48 (eC48 a2)]⟩ ?_
      obtain rfl := retC H
      exact ak_ret hf hX (av := .i 1) (by kernel_rfl) [0] (sel_of_eq (by kernel_rfl)) (by decide) (by rw [h0]; rfl) (by kernel_rfl) (fun _ h => all_cons (.flat fun _ _ => merkle_Tree.gnl _ _) (fun _ h => all_nil h) h) (.d (.v _))
    · replace H := iF c2 H
      rw [boF c2]
      refine goK hT 2 (K25 11 1) ⟨23, [(0, .ptr 0 0 0 0), (1, .i a1), (5, .ptr 1 0 0 0)], [eB91 a0, .box 48 (eC48 a2)]⟩ ?_
      refine goK hT 5 (K25 1110 3) ⟨23, [(19, .ptr 0 0 0 0), (20, .i a1), (21, .d (eG48 a2))], [eB91 a0, .box 48 (eC48 a2)]⟩ ?_
      obtain ⟨v1, h3, H⟩ := ibC H
      refine ak_callP (avs := [.ptr 0 0 0 0, .i a1, .d (eG48 a2)]) (dst := some 22) (k' := (K25 1110 4)) [] [0] hP enters_36 (merkle_Tree_put.says a0 a1 a2 h3) (by kernel_rfl) (hands_one rfl rfl) (.cons (.same (.ptr 0 0 0 0)) (.cons (pass_d _) (.cons (pass_d _) .nil))) (st' := ⟨23, [], [eB91 v1, .box 48 (eC48 a2)]⟩) (by kernel_rfl) ?_
      refine goK hT 5 (K25 1111 1) ⟨23, [(6, .i 0)], [eB91 v1, .box 48 (eC48 a2)]⟩ ?_
      obtain rfl := retC H
      exact ak_ret hf hX (av := .i 0) (by kernel_rfl) [0] (sel_of_eq (by kernel_rfl)) (by decide) (by rw [h0]; rfl) (by kernel_rfl) (fun _ h => all_cons (.flat fun _ _ => merkle_Tree.gnl _ _) (fun _ h => all_nil h) h) (.d (.v _))
  refine goK hT 12 (K25 1100 4) ⟨23, [(0, .ptr 0 0 0 0), (1, .i a1), (5, .ptr 1 0 0 0), (9, .b false), (10, .i a1)], [eB91 a0, .box 48 (eC48 a2)]⟩ ?_
  refine ak_callP (avs := [.i a1]) (dst := some 11) (k' := (K25 1100 5)) [0, 1, 5, 9, 11] [] hP enters_43 (merkle_isKey.says a1) (by kernel_rfl) (hands_none _) (.cons (pass_d _) .nil) (st' := ⟨23, [(0, .ptr 0 0 0 0), (1, .i a1), (5, .ptr 1 0 0 0), (9, .b false), (11, .b (merkle_isKey a1))], [eB91 a0, .box 48 (eC48 a2)]⟩) (by kernel_rfl) ?_
  refine goK hT 3 (K25 1100 8) ⟨23, [(0, .ptr 0 0 0 0), (1, .i a1), (5, .ptr 1 0 0 0), (14, .b (!(merkle_isKey a1)))], [eB91 a0, .box 48 (eC48 a2)]⟩ ?_
  by_cases c1 : (merkle_isKey a1) = true
  · replace H := iT c1 H
    rw [c1]
    refine goK hT 1 (K25 1100 9) ⟨23, [(0, .ptr 0 0 0 0), (1, .i a1), (5, .ptr 1 0 0 0), (14, .b false), (15, .d (eG48 a2))], [eB91 a0, .box 48 (eC48 a2)]⟩ ?_
    refine ak_callP (avs := [.d (eG48 a2)]) (dst := some 16) (k' := (K25 1100 10)) [0, 1, 5, 14, 16] [] hP enters_44 (merkle_isCell.says a2) (by kernel_rfl) (hands_none _) (.cons (pass_d _) .nil) (st' := ⟨23, [(0, .ptr 0 0 0 0), (1, .i a1), (5, .ptr 1 0 0 0), (14, .b false), (16, .b (merkle_isCell a2))], [eB91 a0, .box 48 (eC48 a2)]⟩) (by kernel_rfl) ?_
    refine goK hT 3 (K25 110 1) ⟨23, [(0, .ptr 0 0 0 0), (1, .i a1), (5, .ptr 1 0 0 0), (18, .b (!(merkle_isCell a2)))], [eB91 a0, .box 48 (eC48 a2)]⟩ ?_
    refine cutK [0, 1] ⟨23, [(0, .ptr 0 0 0 0), (1, .i a1), (5, .ptr 1 0 0 0), (18, .b (!(merkle_isCell a2)))], [eB91 a0, .box 48 (eC48 a2)]⟩ h0 ?_
    exact Jj1 (!(merkle_isCell a2)) H
  · replace H := iF c1 H
    rw [boF c1]
    refine goK hT 5 (K25 110 1) ⟨23, [(0, .ptr 0 0 0 0), (1, .i a1), (5, .ptr 1 0 0 0), (18, .b true)], [eB91 a0, .box 48 (eC48 a2)]⟩ ?_
    refine cutK [0, 1] ⟨23, [(0, .ptr 0 0 0 0), (1, .i a1), (5, .ptr 1 0 0 0), (18, .b true)], [eB91 a0, .box 48 (eC48 a2)]⟩ h0 ?_
    exact Jj1 true H


theorem merkle_Tree_Get.says (a0 : merkle_Tree) (a1 : Int) {r : api_Cell} (H : merkle_Tree_Get a0 a1 = some r) : Says Try.prog 26 [eB91 a0] [.ptr 0 0 0 0, .i a1] [eB91 a0] (.d (eG48 r)) := by
  refine says_of Try.func26 rfl (nt := 19) rfl (Nat.le_of_ble_eq_true rfl) fun X hP h0 hX => ?_
  have hT : TabOk X.P T := hP ▸ tok
  have hf : X.P.funcs[26]? = some Try.f26 := hP ▸ Try.func26
  refine goK hT 11 (K26 1100 4) ⟨19, [(0, .ptr 0 0 0 0), (1, .i a1), (4, .ptr 1 0 0 0), (7, .b false), (8, .i a1)], [eB91 a0, .box 48 [.i 0, .b false]]⟩ ?_
  refine ak_callP (avs := [.i a1]) (dst := some 9) (k' := (K26 1100 5)) [0, 1, 4, 7, 9] [] hP enters_43 (merkle_isKey.says a1) (by kernel_rfl) (hands_none _) (.cons (pass_d _) .nil) (st' := ⟨19, [(0, .ptr 0 0 0 0), (1, .i a1), (4, .ptr 1 0 0 0), (7, .b false), (9, .b (merkle_isKey a1))], [eB91 a0, .box 48 [.i 0, .b false]]⟩) (by kernel_rfl) ?_
  refine goK hT 3 (K26 110 1) ⟨19, [(0, .ptr 0 0 0 0), (1, .i a1), (4, .ptr 1 0 0 0), (11, .b (!(merkle_isKey a1)))], [eB91 a0, .box 48 [.i 0, .b false]]⟩ ?_
  by_cases c1 : (merkle_isKey a1) = true
  · replace H := iT c1 H
    rw [c1]
    refine goK hT 2 (K26 11 1) ⟨19, [(0, .ptr 0 0 0 0), (1, .i a1), (4, .ptr 1 0 0 0)], [eB91 a0, .box 48 [.i 0, .b false]]⟩ ?_
    refine goK hT 6 (K26 1110 4) ⟨19, [(4, .ptr 1 0 0 0), (14, .i a1), (16, .ptr 0 0 0 0)], [eB91 a0, .box 48 [.i 0, .b false]]⟩ ?_
    obtain ⟨h2, H⟩ := iC H
    refine ak_idx hT [4, 17] (i := a1) (n := 4096) h2.1 h2.2 (k' := (K26 1110 5)) (st' := ⟨19, [(4, .ptr 1 0 0 0), (17, .ptr 0 0 0 (0 + a1.toNat * 2))], [eB91 a0, .box 48 [.i 0, .b false]]⟩) (by kernel_rfl) ?_
    refine ak_bld hT [4, 18] (A := 0 * 0 + (0 + a1.toNat * 2)) (s := 2) (n := 12561) (agg := true) (g := merkle_Tree.g a0) (dst := some 18) (k' := (K26 1110 6)) (api_Cell.e (a0.cells a1.toNat)) (by kernel_rfl) (by omega) rfl (fun h => by cases h) (fun j hj => merkle_Tree.g_cells a0 (i := a1.toNat) (by omega) (by omega) hj) (st' := ⟨19, [(4, .ptr 1 0 0 0), (18, .d (eG48 (a0.cells a1.toNat)))], [eB91 a0, .box 48 [.i 0, .b false]]⟩) (by kernel_rfl) ?_
    refine goK hT 2 (K26 111 1) ⟨19, [(4, .ptr 1 0 0 0)], [eB91 a0, .box 48 [.i ((a0.cells a1.toNat).Val), .b ((a0.cells a1.toNat).Some)]]⟩ ?_
    obtain rfl := retC H
    exact ak_retM hT hf hX (av := .d (.agg [.i ((a0.cells a1.toNat).Val), .b ((a0.cells a1.toNat).Some)])) (by kernel_rfl) [0] (sel_of_eq (by kernel_rfl)) (by decide) (by rw [h0]; rfl) (by kernel_rfl) (fun _ h => all_cons (.flat fun _ _ => merkle_Tree.gnl _ _) (fun _ h => all_nil h) h) (.d (.agg (api_Cell.nl _)))
  · replace H := iF c1 H
    rw [boF c1]
    refine goK hT 6 (K26 11010 1) ⟨19, [(4, .ptr 1 0 0 0)], [eB91 a0, .box 48 [.i 0, .b false]]⟩ ?_
    obtain rfl := retC H
    exact ak_retM hT hf hX (av := .d (.agg [.i 0, .b false])) (by kernel_rfl) [0] (sel_of_eq (by kernel_rfl)) (by decide) (by rw [h0]; rfl) (by kernel_rfl) (fun _ h => all_cons (.flat fun _ _ => merkle_Tree.gnl _ _) (fun _ h => all_nil h) h) (.d (.agg (api_Cell.nl _)))


theorem splicelaw20_MerkleSets.says {t0 : Bool} {t1 : Bool} {t2 : Bool} (a0 : List api_Pair) (a1 : List api_Pair) (a2 : List Bool) {r : Bool} (H : splicelaw20_MerkleSets a0 a1 a2 = some r) : Says Try.prog 6 [] [.d (eL42 t0 a0), .d (eL42 t1 a1), .d (eL4 t2 a2)] [] (.b r) := by
  refine says_of Try.func6 rfl (nt := 219) rfl (Nat.le_of_ble_eq_true rfl) fun X hP h0 hX => ?_
  have hT : TabOk X.P T := hP ▸ tok
  have hf : X.P.funcs[6]? = some Try.f6 := hP ▸ Try.func6
  refine goK hT 7 (K6 110 1) ⟨219, [(0, .d (eL42 t0 a0)), (1, .d (eL42 t1 a1)), (2, .d (eL4 t2 a2)), (22, .d (eL42 t0 a0))], []⟩ ?_
  obtain ⟨v1, h1, H⟩ := ibC H
  cases q2 : v1.1 with
  | none =>
      rw [q2] at H
      replace H := ioptN H
      have Jj1 : (splicelaw20_MerkleSets.j1 a0) = some r → AK X 6 ((K6 1110 1)) (Back X [] (.b r)) ⟨219, [(0, .d (eL42 t0 a0)), (1, .d (eL42 t1 a1)), (2, .d (eL4 t2 a2)), (7, .d .np), (36, .b true)], []⟩ := by
        intro H
        refine goK hT 3 (K6 1110100 0) ⟨219, [(0, .d (eL42 t0 a0))], []⟩ ?_
        obtain ⟨v3, h5, H⟩ := ibC H
        have Jj2 : ∀ (y2_6 : Bool), (splicelaw20_MerkleSets.j2 y2_6) = some r → AK X 6 ((K6 111010 1)) (Back X [] (.b r)) ⟨219, [(6, .b y2_6)], []⟩ := by
          intro y2_6 H
          obtain rfl := retC H
          exact ak_ret hf hX (av := .b y2_6) (by kernel_rfl) [] (sel_of_eq (by kernel_rfl)) (by decide) (by rw [h0]; rfl) (by kernel_rfl) (fun _ h => all_nil h) (.d (.v _))
        refine ak_callP (avs := []) (dst := some 37) (k' := (K6 1110100 1)) [0, 37] [] hP enters_12 (splicelaw20_awake.says h5) (by kernel_rfl) (hands_none _) .nil (st' := ⟨219, [(0, .d (eL42 t0 a0)), (37, .b v3)], []⟩) (by kernel_rfl) ?_
        refine goK hT 1 (K6 1110100 2) ⟨219, [(0, .d (eL42 t0 a0)), (38, .b v3)], []⟩ ?_
        by_cases c6 : v3 = true
        · replace H := iT c6 H
          rw [c6]
          refine goK hT 4 (K6 1110100 6) ⟨219, [(0, .d (eL42 t0 a0)), (38, .b true), (42, .b (decide ((a0.length : Int) > 60)))], []⟩ ?_
          by_cases c7 : (a0.length : Int) > 60
          · replace H := iT c7 H
            rw [decide_eq_true c7]
            refine goK hT 8 (K6 111010 1) ⟨219, [(6, .b true)], []⟩ ?_
            refine cutK [] ⟨219, [(6, .b true)], []⟩ h0 ?_
            exact Jj2 true H
          · replace H := iF c7 H
            rw [decide_eq_false c7]
            refine goK hT 1 (K6 1110100 7) ⟨219, [(38, .b true), (42, .b false), (43, .d (eL42 t0 a0))], []⟩ ?_
            obtain ⟨v4, h8, H⟩ := ibC H
            refine ak_callP (avs := [.d (eL42 t0 a0)]) (dst := some 44) (k' := (K6 1110100 8)) [38, 42, 44] [] hP enters_22 (splicelaw05_Refs.says (t0 := t0) a0 h8) (by kernel_rfl) (hands_none _) (.cons (pass_d _) .nil) (st' := ⟨219, [(38, .b true), (42, .b false), (44, .own 0 2 0 v4.length)], [eR94 v4]⟩) (by kernel_rfl) ?_
            obtain ⟨v5, h9, H⟩ := ibC H
            refine ak_callP (avs := [.own 0 2 0 v4.length]) (dst := some 45) (k' := (K6 1110100 9)) [38, 42, 45] [] hP enters_21 (spliceref05_Check.says (t0 := false) v4 h9) (by kernel_rfl) (hands_none _) (.cons (.lend (ty := 94) (by kernel_rfl) rfl) .nil) (st' := ⟨219, [(38, .b true), (42, .b false), (45, .b v5)], [eR94 v4]⟩) (by kernel_rfl) ?_
            refine goK hT 5 (K6 111010 1) ⟨219, [(6, .b (!v5))], [eR94 v4]⟩ ?_
            refine cutK [] ⟨219, [(6, .b (!v5))], []⟩ h0 ?_
            exact Jj2 (!v5) H
        · replace H := iF c6 H
          rw [boF c6]
          refine goK hT 12 (K6 111010 1) ⟨219, [(6, .b false)], []⟩ ?_
          refine cutK [] ⟨219, [(6, .b false)], []⟩ h0 ?_
          exact Jj2 false H
      have Sq2 := merkle_New.says (t0 := t0) a0 h1
      rw [q2] at Sq2
      refine ak_callP (avs := [.d (eL42 t0 a0)]) (dst := some 23) (k' := (K6 110 2)) [0, 1, 2, 23] [] hP enters_10 (Sq2) (by kernel_rfl) (hands_none _) (.cons (pass_d _) .nil) (st' := ⟨219, [(0, .d (eL42 t0 a0)), (1, .d (eL42 t1 a1)), (2, .d (eL4 t2 a2)), (23, .tup [.d .np, .i v1.2])], []⟩) (by kernel_rfl) ?_
      refine goK hT 10 (K6 11100 1) ⟨219, [(0, .d (eL42 t0 a0)), (1, .d (eL42 t1 a1)), (2, .d (eL4 t2 a2)), (7, .d .np), (8, .i v1.2), (26, .d (eL42 t0 a0))], []⟩ ?_
      refine ak_callP (avs := [.d (eL42 t0 a0)]) (dst := some 27) (k' := (K6 11100 2)) [0, 1, 2, 7, 8, 27] [] hP enters_11 (splicelaw20_few.says (t0 := t0) a0) (by kernel_rfl) (hands_none _) (.cons (pass_d _) .nil) (st' := ⟨219, [(0, .d (eL42 t0 a0)), (1, .d (eL42 t1 a1)), (2, .d (eL4 t2 a2)), (7, .d .np), (8, .i v1.2), (27, .b (splicelaw20_few a0))], []⟩) (by kernel_rfl) ?_
      refine goK hT 2 (K6 11100 4) ⟨219, [(0, .d (eL42 t0 a0)), (1, .d (eL42 t1 a1)), (2, .d (eL4 t2 a2)), (7, .d .np), (8, .i v1.2), (29, .b (!(splicelaw20_few a0)))], []⟩ ?_
      by_cases c3 : (splicelaw20_few a0) = true
      · replace H := iT c3 H
        rw [c3]
        refine goK hT 4 (K6 11100 8) ⟨219, [(0, .d (eL42 t0 a0)), (1, .d (eL42 t1 a1)), (2, .d (eL4 t2 a2)), (7, .d .np), (33, .b (v1.2 != 0))], []⟩ ?_
        by_cases c4 : v1.2 = 0
        · replace H := iT c4 H
          rw [neF c4]
          refine goK hT 4 (K6 1110 1) ⟨219, [(0, .d (eL42 t0 a0)), (1, .d (eL42 t1 a1)), (2, .d (eL4 t2 a2)), (7, .d .np), (36, .b true)], []⟩ ?_
          refine cutK [] ⟨219, [(0, .d (eL42 t0 a0)), (1, .d (eL42 t1 a1)), (2, .d (eL4 t2 a2)), (7, .d .np), (36, .b true)], []⟩ h0 ?_
          exact Jj1 H
        · replace H := iF c4 H
          rw [neT c4]
          refine goK hT 4 (K6 1110 1) ⟨219, [(0, .d (eL42 t0 a0)), (1, .d (eL42 t1 a1)), (2, .d (eL4 t2 a2)), (7, .d .np), (36, .b true)], []⟩ ?_
          refine cutK [] ⟨219, [(0, .d (eL42 t0 a0)), (1, .d (eL42 t1 a1)), (2, .d (eL4 t2 a2)), (7, .d .np), (36, .b true)], []⟩ h0 ?_
          exact Jj1 H
      · replace H := iF c3 H
        rw [boF c3]
        refine goK hT 8 (K6 1110 1) ⟨219, [(0, .d (eL42 t0 a0)), (1, .d (eL42 t1 a1)), (2, .d (eL4 t2 a2)), (7, .d .np), (36, .b true)], []⟩ ?_
        refine cutK [] ⟨219, [(0, .d (eL42 t0 a0)), (1, .d (eL42 t1 a1)), (2, .d (eL4 t2 a2)), (7, .d .np), (36, .b true)], []⟩ h0 ?_
        exact Jj1 H
  | some v2 =>
      rw [q2] at H
      replace H := ioptS H
      have Jj3 : ∀ (y3_36 : Bool), (splicelaw20_MerkleSets.j3 a0 a1 a2 v2 y3_36) = some r → AK X 6 ((K6 1110 1)) (Back X [] (.b r)) ⟨219, [(0, .d (eL42 t0 a0)), (1, .d (eL42 t1 a1)), (2, .d (eL4 t2 a2)), (7, .ptr 0 0 0 0), (36, .b y3_36)], [eB91 v2]⟩ := by
        intro y3_36 H
        by_cases c12 : y3_36 = true
        · replace H := iT c12 H
          rw [c12]
          refine goK hT 3 (K6 1110100 0) ⟨219, [(0, .d (eL42 t0 a0))], [eB91 v2]⟩ ?_
          obtain ⟨v6, h13, H⟩ := ibC H
          have Jj4 : ∀ (y4_6 : Bool), (splicelaw20_MerkleSets.j4 y4_6) = some r → AK X 6 ((K6 111010 1)) (Back X [] (.b r)) ⟨219, [(6, .b y4_6)], []⟩ := by
            intro y4_6 H
            obtain rfl := retC H
            exact ak_ret hf hX (av := .b y4_6) (by kernel_rfl) [] (sel_of_eq (by kernel_rfl)) (by decide) (by rw [h0]; rfl) (by kernel_rfl) (fun _ h => all_nil h) (.d (.v _))
          refine ak_callP (avs := []) (dst := some 37) (k' := (K6 1110100 1)) [0, 37] [] hP enters_12 (splicelaw20_awake.says h13) (by kernel_rfl) (hands_none _) .nil (st' := ⟨219, [(0, .d (eL42 t0 a0)), (37, .b v6)], [eB91 v2]⟩) (by kernel_rfl) ?_
          refine goK hT 1 (K6 1110100 2) ⟨219, [(0, .d (eL42 t0 a0)), (38, .b v6)], [eB91 v2]⟩ ?_
          by_cases c14 : v6 = true
          · replace H := iT c14 H
            rw [c14]
            refine goK hT 4 (K6 1110100 6) ⟨219, [(0, .d (eL42 t0 a0)), (38, .b true), (42, .b (decide ((a0.length : Int) > 60)))], [eB91 v2]⟩ ?_
            by_cases c15 : (a0.length : Int) > 60
            · replace H := iT c15 H
              rw [decide_eq_true c15]
              refine goK hT 8 (K6 111010 1) ⟨219, [(6, .b true)], [eB91 v2]⟩ ?_
              refine cutK [] ⟨219, [(6, .b true)], []⟩ h0 ?_
              exact Jj4 true H
            · replace H := iF c15 H
              rw [decide_eq_false c15]
              refine goK hT 1 (K6 1110100 7) ⟨219, [(38, .b true), (42, .b false), (43, .d (eL42 t0 a0))], [eB91 v2]⟩ ?_
              obtain ⟨v7, h16, H⟩ := ibC H
              refine ak_callP (avs := [.d (eL42 t0 a0)]) (dst := some 44) (k' := (K6 1110100 8)) [38, 42, 44] [] hP enters_22 (splicelaw05_Refs.says (t0 := t0) a0 h16) (by kernel_rfl) (hands_none _) (.cons (pass_d _) .nil) (st' := ⟨219, [(38, .b true), (42, .b false), (44, .own 1 2 0 v7.length)], [eB91 v2, eR94 v7]⟩) (by kernel_rfl) ?_
              obtain ⟨v8, h17, H⟩ := ibC H
              refine ak_callP (avs := [.own 1 2 0 v7.length]) (dst := some 45) (k' := (K6 1110100 9)) [38, 42, 45] [] hP enters_21 (spliceref05_Check.says (t0 := false) v7 h17) (by kernel_rfl) (hands_none _) (.cons (.lend (ty := 94) (by kernel_rfl) rfl) .nil) (st' := ⟨219, [(38, .b true), (42, .b false), (45, .b v8)], [eB91 v2, eR94 v7]⟩) (by kernel_rfl) ?_
              refine goK hT 5 (K6 111010 1) ⟨219, [(6, .b (!v8))], [eB91 v2, eR94 v7]⟩ ?_
              refine cutK [] ⟨219, [(6, .b (!v8))], []⟩ h0 ?_
              exact Jj4 (!v8) H
          · replace H := iF c14 H
            rw [boF c14]
            refine goK hT 12 (K6 111010 1) ⟨219, [(6, .b false)], [eB91 v2]⟩ ?_
            refine cutK [] ⟨219, [(6, .b false)], []⟩ h0 ?_
            exact Jj4 false H
        · replace H := iF c12 H
          rw [boF c12]
          refine goK hT 2 (K6 111 1) ⟨219, [(1, .d (eL42 t1 a1)), (2, .d (eL4 t2 a2)), (7, .ptr 0 0 0 0)], [eB91 v2]⟩ ?_
          refine goK hT 7 (K6 1111010 0) ⟨219, [(1, .d (eL42 t1 a1)), (2, .d (eL4 t2 a2)), (7, .ptr 0 0 0 0), (9, .i 0)], [eB91 v2]⟩ ?_
          have L : ∀ n, (∀ (x1_9 : Int) (x1_r0 : merkle_Tree), iter (splicelaw20_MerkleSets.step a1 a2) n (.l1 x1_9 x1_r0) = some r → AK X 6 ((K6 1111010 0)) (Back X [] (.b r)) ⟨219, [(1, .d (eL42 t1 a1)), (2, .d (eL4 t2 a2)), (7, .ptr 0 0 0 0), (9, .i x1_9)], [eB91 x1_r0]⟩) ∧ (∀ (v9 : List api_Pair) (v11 : merkle_Tree) (x2_16 : Int) (x2_r0 : merkle_Tree), iter (splicelaw20_MerkleSets.step a1 a2) n (.l2 v9 v11 x2_16 x2_r0) = some r → AK X 6 ((K6 11111111010 0)) (Back X [] (.b r)) ⟨219, [(1, .d (eL42 t1 a1)), (7, .ptr 0 0 0 0), (13, .own 1 2 0 v9.length), (14, .ptr 2 0 0 0), (16, .i x2_16)], [eB91 x2_r0, eR42 v9, eB91 v11]⟩) := by
            intro n
            induction n with
            | zero => exact ⟨fun _ _ H => iter0 H, fun _ _ _ _ H => iter0 H⟩
            | succ n ih =>
              refine ⟨?_, ?_⟩
              · intro x1_9 x1_r0 H
                have Jj5 : ∀ (y5_62 : Bool), stk (splicelaw20_MerkleSets.j5 a1 a2 x1_9 x1_r0 y5_62) (iter (splicelaw20_MerkleSets.step a1 a2) n) = some r → AK X 6 ((K6 111101000 1)) (Back X [] (.b r)) ⟨219, [(1, .d (eL42 t1 a1)), (2, .d (eL4 t2 a2)), (7, .ptr 0 0 0 0), (9, .i x1_9), (62, .b y5_62)], [eB91 x1_r0]⟩ := by
                  intro y5_62 H
                  by_cases c20 : y5_62 = true
                  · replace H := sT c20 H
                    rw [c20]
                    refine goK hT 2 (K6 11110100 1) ⟨219, [(1, .d (eL42 t1 a1)), (2, .d (eL4 t2 a2)), (7, .ptr 0 0 0 0), (9, .i x1_9)], [eB91 x1_r0]⟩ ?_
                    refine goK hT 3 (K6 11110100100 0) ⟨219, [(1, .d (eL42 t1 a1)), (2, .d (eL4 t2 a2)), (7, .ptr 0 0 0 0), (9, .i x1_9)], [eB91 x1_r0]⟩ ?_
                    obtain ⟨h29, H⟩ := sC H
                    obtain ⟨h30, H⟩ := sC H
                    refine ak_drawAtE (nt := 219) (hP ▸ mixed) 11 [10] [1, 2, 7, 9] [(1, .d (eL42 t1 a1)), (2, .d (eL4 t2 a2)), (7, .ptr 0 0 0 0), (9, .i x1_9)] [some (.d (eL42 t1 a1)), some (.i x1_9), some (.d (eP42 t1 a1 x1_9.toNat 0)), some (.d (eP42 t1 a1 x1_9.toNat 1)), some (.i ((a1.getD x1_9.toNat api_Pair.z).Val)), some (.d (eL4 t2 a2)), some (.i x1_9), some (.d (eP4 t2 a2 x1_9.toNat 0)), some (.b (a2.getD x1_9.toNat false)), some (.d (.agg [.i ((a1.getD x1_9.toNat api_Pair.z).Val), .b (a2.getD x1_9.toNat false)])), some (.ptr 1 0 0 0)] [[eB91 x1_r0], [eB91 x1_r0, .box 48 [.i 0, .b false]]] (by kernel_rfl) (by kernel_rfl) (by kernel_rfl) (by kernel_rfl) ⟨(opXE (opGE (opGE (opES (opGE (opGE (opGE (opGE (opES (opGE (opGE opE0 hT) hT) (fun R rest h => ak_idx0 hT (i := x1_9) (n := (a1.length : Int)) h29.1 h29.2 (by kernel_rfl) h)) hT) hT) hT) hT) (fun R rest h => ak_idx0 hT (i := x1_9) (n := (a2.length : Int)) h30.1 h30.2 (by kernel_rfl) h)) hT) hT)), (op_goFK hT), (opXE (opGE (opGE (opES (opGE (opGE (opGE (opGE (opES (opGE (opGE opE0 hT) hT) (fun R rest h => ak_idx0 hT (i := x1_9) (n := (a1.length : Int)) h29.1 h29.2 (by kernel_rfl) h)) hT) hT) hT) hT) (fun R rest h => ak_idx0 hT (i := x1_9) (n := (a2.length : Int)) h30.1 h30.2 (by kernel_rfl) h)) hT) hT))⟩ ?_
                    refine goK hT 3 (K6 111101001001 0) ⟨219, [(1, .d (eL42 t1 a1)), (2, .d (eL4 t2 a2)), (7, .ptr 0 0 0 0), (9, .i x1_9), (10, .ptr 1 0 0 0)], [eB91 x1_r0, .box 48 [.i ((a1.getD x1_9.toNat api_Pair.z).Val), .b (a2.getD x1_9.toNat false)]]⟩ ?_
                    refine drawK (hP ▸ mixed) 7 [1, 2, 7, 9, 10] [some (.ptr 0 0 0 0), some (.d (eL42 t1 a1)), some (.i x1_9), some (.d (eP42 t1 a1 x1_9.toNat 0)), some (.d (eP42 t1 a1 x1_9.toNat 0)), some (.i ((a1.getD x1_9.toNat api_Pair.z).Key)), some (.d (.agg [.i ((a1.getD x1_9.toNat api_Pair.z).Val), .b (a2.getD x1_9.toNat false)]))] (opG (opG (opG (opS (opG (opG (opG op0 hT) hT) hT) (fun R rest h => ak_idx0 hT (i := x1_9) (n := (a1.length : Int)) h29.1 h29.2 (by kernel_rfl) h)) hT) hT) hT) ?_
                    refine goK hT 0 (K6 1111010010010 7) ⟨219, [(1, .d (eL42 t1 a1)), (2, .d (eL4 t2 a2)), (7, .ptr 0 0 0 0), (9, .i x1_9), (10, .ptr 1 0 0 0), (75, .ptr 0 0 0 0), (80, .i ((a1.getD x1_9.toNat api_Pair.z).Key)), (81, .d (.agg [.i ((a1.getD x1_9.toNat api_Pair.z).Val), .b (a2.getD x1_9.toNat false)]))], [eB91 x1_r0, .box 48 [.i ((a1.getD x1_9.toNat api_Pair.z).Val), .b (a2.getD x1_9.toNat false)]]⟩ ?_
                    obtain ⟨v13, h31, H⟩ := sbC H
                    have Jj8 : ∀ (y8_12 : Bool) (y8_b1_1 : Bool), stk (splicelaw20_MerkleSets.j8 a1 x1_9 v13 y8_12 y8_b1_1) (iter (splicelaw20_MerkleSets.step a1 a2) n) = some r → AK X 6 ((K6 1111010010011 1)) (Back X [] (.b r)) ⟨219, [(1, .d (eL42 t1 a1)), (2, .d (eL4 t2 a2)), (7, .ptr 0 0 0 0), (9, .i x1_9), (10, .ptr 1 0 0 0), (11, .i v13.1), (12, .b y8_12)], [eB91 v13.2, .box 48 [.i ((a1.getD x1_9.toNat api_Pair.z).Val), .b y8_b1_1]]⟩ := by
                      intro y8_12 y8_b1_1 H
                      have Jj9 : ∀ (y9_146 : Bool), stk (splicelaw20_MerkleSets.j9 x1_9 v13 y9_146) (iter (splicelaw20_MerkleSets.step a1 a2) n) = some r → AK X 6 ((K6 11110100100111 1)) (Back X [] (.b r)) ⟨219, [(1, .d (eL42 t1 a1)), (2, .d (eL4 t2 a2)), (7, .ptr 0 0 0 0), (9, .i x1_9), (146, .b y9_146)], [eB91 v13.2]⟩ := by
                        intro y9_146 H
                        by_cases c42 : y9_146 = true
                        · replace H := sT c42 H
                          rw [c42]
                          refine goK hT 5 (K6 1111010010011110 1) ⟨219, [(6, .b false)], [eB91 v13.2]⟩ ?_
                          obtain rfl := retC H
                          exact ak_ret hf hX (av := .b false) (by kernel_rfl) [] (sel_of_eq (by kernel_rfl)) (by decide) (by rw [h0]; rfl) (by kernel_rfl) (fun _ h => all_nil h) (.d (.v _))
                        · replace H := sF c42 H
                          rw [boF c42]
                          refine goK hT 3 (K6 111101001 1) ⟨219, [(1, .d (eL42 t1 a1)), (2, .d (eL4 t2 a2)), (7, .ptr 0 0 0 0), (9, .i x1_9)], [eB91 v13.2]⟩ ?_
                          refine goK hT 6 (K6 1111010 0) ⟨219, [(1, .d (eL42 t1 a1)), (2, .d (eL4 t2 a2)), (7, .ptr 0 0 0 0), (9, .i (IntKind.wrap .i64 (x1_9 + 1)))], [eB91 v13.2]⟩ ?_
                          refine cutK [0] ⟨219, [(1, .d (eL42 t1 a1)), (2, .d (eL4 t2 a2)), (7, .ptr 0 0 0 0), (9, .i (IntKind.wrap .i64 (x1_9 + 1)))], [eB91 v13.2]⟩ h0 ?_
                          exact ih.1 (IntKind.wrap .i64 (x1_9 + 1)) v13.2 H
                      refine goK hT 1 (K6 11110100100111 0) ⟨219, [(1, .d (eL42 t1 a1)), (2, .d (eL4 t2 a2)), (7, .ptr 0 0 0 0), (9, .i x1_9), (10, .ptr 1 0 0 0), (11, .i v13.1), (12, .b y8_12)], [eB91 v13.2, .box 48 [.i ((a1.getD x1_9.toNat api_Pair.z).Val), .b y8_b1_1]]⟩ ?_
                      by_cases c37 : v13.1 = 0
                      · replace H := sT c37 H
                        by_cases c38 : y8_12 = true
                        · replace H := sT c38 H
                          obtain ⟨v14, h39, H⟩ := sbC H
                          refine ak_drawAtE (nt := 219) (hP ▸ mixed) 26 [21] [1, 2, 7, 9, 10, 11, 12] [(1, .d (eL42 t1 a1)), (2, .d (eL4 t2 a2)), (7, .ptr 0 0 0 0), (9, .i x1_9), (10, .ptr 1 0 0 0), (11, .i v13.1), (12, .b y8_12)] [some (.i v13.1), some (.b true), some (.b true), some (.b false), some (.b false), some (.i v13.1), some (.b false), some (.b false), some (.tup []), some (.tup []), some (.b false), some (.b false), some (.b false), some (.b true), some (.b true), some (.ptr 0 0 0 0), some (.d (eL42 t1 a1)), some (.i x1_9), some (.d (eP42 t1 a1 x1_9.toNat 0)), some (.d (eP42 t1 a1 x1_9.toNat 0)), some (.i ((a1.getD x1_9.toNat api_Pair.z).Key)), some (.d (eG48 v14)), some (.d (.agg [.i ((a1.getD x1_9.toNat api_Pair.z).Val), .b y8_b1_1])), some (.b (!((v14.Val == ((a1.getD x1_9.toNat api_Pair.z).Val)) && (v14.Some == y8_b1_1)))), some (.b (!((v14.Val == ((a1.getD x1_9.toNat api_Pair.z).Val)) && (v14.Some == y8_b1_1)))), some (.b (!((v14.Val == ((a1.getD x1_9.toNat api_Pair.z).Val)) && (v14.Some == y8_b1_1))))] [[eB91 v13.2, .box 48 [.i ((a1.getD x1_9.toNat api_Pair.z).Val), .b y8_b1_1]], [eB91 v13.2, .box 48 [.i ((a1.getD x1_9.toNat api_Pair.z).Val), .b y8_b1_1]]] (by kernel_rfl) (by kernel_rfl) (by kernel_rfl) (by kernel_rfl) ⟨(opGE (opGE (opGE (opGE (opXE (opGE (opGE (opES (opGE (opGE (opGE (opGE (opVE (opGE (opGE (opGE (opGE (opGE (opGE (opVE (opGE (opGE (opGE (opVE (opVE (opGE opE0 hT) hT 122 (.b (v13.1 == 0)) (.b true) (by rw [eqT c37] <;> rfl)) hT 123 (.b y8_12) (.b true) (by rw [c38] <;> rfl)) hT) hT) hT) hT 127 (.b (v13.1 != 0)) (.b false) (by rw [neF c37] <;> rfl)) hT) hT) hT) hT) hT) hT) hT 134 (.b y8_12) (.b true) (by rw [c38] <;> rfl)) hT) hT) hT) hT) (fun R rest h => ak_idx0 hT (i := x1_9) (n := (a1.length : Int)) h29.1 h29.2 (by kernel_rfl) h)) hT) hT)) hT) hT) hT) hT), (fun R rest h => ak_callDR (avs := [.ptr 0 0 0 0, .i ((a1.getD x1_9.toNat api_Pair.z).Key)]) (dst := some 142) [0] hP enters_26 (merkle_Tree_Get.says v13.2 ((a1.getD x1_9.toNat api_Pair.z).Key) h39) (by kernel_rfl) (hands_one rfl rfl) (.cons (.same (.ptr 0 0 0 0)) (.cons (pass_d _) .nil)) (by kernel_rfl) h), (opGE (opGE (opGE (opGE (opXE (opGE (opGE (opES (opGE (opGE (opGE (opGE (opVE (opGE (opGE (opGE (opGE (opGE (opGE (opVE (opGE (opGE (opGE (opVE (opVE (opGE opE0 hT) hT 122 (.b (v13.1 == 0)) (.b true) (by rw [eqT c37] <;> rfl)) hT 123 (.b y8_12) (.b true) (by rw [c38] <;> rfl)) hT) hT) hT) hT 127 (.b (v13.1 != 0)) (.b false) (by rw [neF c37] <;> rfl)) hT) hT) hT) hT) hT) hT) hT 134 (.b y8_12) (.b true) (by rw [c38] <;> rfl)) hT) hT) hT) hT) (fun R rest h => ak_idx0 hT (i := x1_9) (n := (a1.length : Int)) h29.1 h29.2 (by kernel_rfl) h)) hT) hT)) hT) hT) hT) hT)⟩ ?_
                          refine goK hT 1 (K6 11110100100111 1) ⟨219, [(1, .d (eL42 t1 a1)), (2, .d (eL4 t2 a2)), (7, .ptr 0 0 0 0), (9, .i x1_9), (146, .b (!((v14.Val == ((a1.getD x1_9.toNat api_Pair.z).Val)) && (v14.Some == y8_b1_1))))], [eB91 v13.2, .box 48 [.i ((a1.getD x1_9.toNat api_Pair.z).Val), .b y8_b1_1]]⟩ ?_
                          refine cutK [0] ⟨219, [(1, .d (eL42 t1 a1)), (2, .d (eL4 t2 a2)), (7, .ptr 0 0 0 0), (9, .i x1_9), (146, .b (!((v14.Val == ((a1.getD x1_9.toNat api_Pair.z).Val)) && (v14.Some == y8_b1_1))))], [eB91 v13.2]⟩ h0 ?_
                          exact Jj9 (!((v14.Val == ((a1.getD x1_9.toNat api_Pair.z).Val)) && (v14.Some == y8_b1_1))) H
                        · replace H := sF c38 H
                          refine drawK (hP ▸ mixed) 26 [1, 2, 7, 9, 10, 11, 12] [some (.i v13.1), some (.b true), some (.b false), some (.b true), some (.b true), some (.tup []), some (.tup []), some (.tup []), some (.tup []), some (.tup []), some (.tup []), some (.b true), some (.b true), some (.tup []), some (.tup []), some (.tup []), some (.tup []), some (.tup []), some (.tup []), some (.tup []), some (.tup []), some (.tup []), some (.tup []), some (.tup []), some (.tup []), some (.b true)] (opG (opG (opG (opG (opG (opG (opG (opG (opG (opG (opG (opG (opG (opG (opG (opG (opG (opG (opG (opG (opG (opG (opG (opV (opV (opG op0 hT) hT 122 (.b (v13.1 == 0)) (.b true) (by rw [eqT c37] <;> rfl)) hT 123 (.b y8_12) (.b false) (by rw [boF c38] <;> rfl)) hT) hT) hT) hT) hT) hT) hT) hT) hT) hT) hT) hT) hT) hT) hT) hT) hT) hT) hT) hT) hT) hT) hT) ?_
                          refine goK hT 1 (K6 11110100100111 1) ⟨219, [(1, .d (eL42 t1 a1)), (2, .d (eL4 t2 a2)), (7, .ptr 0 0 0 0), (9, .i x1_9), (146, .b true)], [eB91 v13.2, .box 48 [.i ((a1.getD x1_9.toNat api_Pair.z).Val), .b y8_b1_1]]⟩ ?_
                          refine cutK [0] ⟨219, [(1, .d (eL42 t1 a1)), (2, .d (eL4 t2 a2)), (7, .ptr 0 0 0 0), (9, .i x1_9), (146, .b true)], [eB91 v13.2]⟩ h0 ?_
                          exact Jj9 true H
                      · replace H := sF c37 H
                        by_cases c40 : y8_12 = true
                        · replace H := sT c40 H
                          refine drawK (hP ▸ mixed) 26 [1, 2, 7, 9, 10, 11, 12] [some (.i v13.1), some (.b false), some (.b true), some (.b true), some (.b true), some (.tup []), some (.tup []), some (.tup []), some (.tup []), some (.tup []), some (.tup []), some (.b true), some (.b true), some (.tup []), some (.tup []), some (.tup []), some (.tup []), some (.tup []), some (.tup []), some (.tup []), some (.tup []), some (.tup []), some (.tup []), some (.tup []), some (.tup []), some (.b true)] (opG (opG (opG (opG (opG (opG (opG (opG (opG (opG (opG (opG (opG (opG (opG (opG (opG (opG (opG (opG (opG (opG (opG (opV (opV (opG op0 hT) hT 122 (.b (v13.1 == 0)) (.b false) (by rw [eqF c37] <;> rfl)) hT 123 (.b y8_12) (.b true) (by rw [c40] <;> rfl)) hT) hT) hT) hT) hT) hT) hT) hT) hT) hT) hT) hT) hT) hT) hT) hT) hT) hT) hT) hT) hT) hT) hT) ?_
                          refine goK hT 1 (K6 11110100100111 1) ⟨219, [(1, .d (eL42 t1 a1)), (2, .d (eL4 t2 a2)), (7, .ptr 0 0 0 0), (9, .i x1_9), (146, .b true)], [eB91 v13.2, .box 48 [.i ((a1.getD x1_9.toNat api_Pair.z).Val), .b y8_b1_1]]⟩ ?_
                          refine cutK [0] ⟨219, [(1, .d (eL42 t1 a1)), (2, .d (eL4 t2 a2)), (7, .ptr 0 0 0 0), (9, .i x1_9), (146, .b true)], [eB91 v13.2]⟩ h0 ?_
                          exact Jj9 true H
                        · replace H := sF c40 H
                          by_cases c41 : v13.1 = 1
                          · replace H := sT c41 H
                            refine drawK (hP ▸ mixed) 26 [1, 2, 7, 9, 10, 11, 12] [some (.i v13.1), some (.b false), some (.b false), some (.b false), some (.b false), some (.i v13.1), some (.b true), some (.b true), some (.i v13.1), some (.b false), some (.b false), some (.b false), some (.b false), some (.b false), some (.b false), some (.tup []), some (.tup []), some (.tup []), some (.tup []), some (.tup []), some (.tup []), some (.tup []), some (.tup []), some (.tup []), some (.b false), some (.b false)] (opG (opG (opG (opG (opG (opG (opG (opG (opG (opG (opG (opG (opV (opG (opG (opG (opV (opG (opG (opV (opG (opG (opG (opV (opV (opG op0 hT) hT 122 (.b (v13.1 == 0)) (.b false) (by rw [eqF c37] <;> rfl)) hT 123 (.b y8_12) (.b false) (by rw [boF c40] <;> rfl)) hT) hT) hT) hT 127 (.b (v13.1 != 0)) (.b true) (by rw [neT c37] <;> rfl)) hT) hT) hT 130 (.b (v13.1 != 1)) (.b false) (by rw [neF c41] <;> rfl)) hT) hT) hT) hT 134 (.b y8_12) (.b false) (by rw [boF c40] <;> rfl)) hT) hT) hT) hT) hT) hT) hT) hT) hT) hT) hT) hT) ?_
                            refine goK hT 1 (K6 11110100100111 1) ⟨219, [(1, .d (eL42 t1 a1)), (2, .d (eL4 t2 a2)), (7, .ptr 0 0 0 0), (9, .i x1_9), (146, .b false)], [eB91 v13.2, .box 48 [.i ((a1.getD x1_9.toNat api_Pair.z).Val), .b y8_b1_1]]⟩ ?_
                            refine cutK [0] ⟨219, [(1, .d (eL42 t1 a1)), (2, .d (eL4 t2 a2)), (7, .ptr 0 0 0 0), (9, .i x1_9), (146, .b false)], [eB91 v13.2]⟩ h0 ?_
                            exact Jj9 false H
                          · replace H := sF c41 H
                            refine drawK (hP ▸ mixed) 26 [1, 2, 7, 9, 10, 11, 12] [some (.i v13.1), some (.b false), some (.b false), some (.b false), some (.b false), some (.i v13.1), some (.b true), some (.b true), some (.i v13.1), some (.b true), some (.b true), some (.b true), some (.b true), some (.tup []), some (.tup []), some (.tup []), some (.tup []), some (.tup []), some (.tup []), some (.tup []), some (.tup []), some (.tup []), some (.tup []), some (.tup []), some (.tup []), some (.b true)] (opG (opG (opG (opG (opG (opG (opG (opG (opG (opG (opG (opG (opG (opG (opG (opG (opV (opG (opG (opV (opG (opG (opG (opV (opV (opG op0 hT) hT 122 (.b (v13.1 == 0)) (.b false) (by rw [eqF c37] <;> rfl)) hT 123 (.b y8_12) (.b false) (by rw [boF c40] <;> rfl)) hT) hT) hT) hT 127 (.b (v13.1 != 0)) (.b true) (by rw [neT c37] <;> rfl)) hT) hT) hT 130 (.b (v13.1 != 1)) (.b true) (by rw [neT c41] <;> rfl)) hT) hT) hT) hT) hT) hT) hT) hT) hT) hT) hT) hT) hT) hT) hT) hT) ?_
                            refine goK hT 1 (K6 11110100100111 1) ⟨219, [(1, .d (eL42 t1 a1)), (2, .d (eL4 t2 a2)), (7, .ptr 0 0 0 0), (9, .i x1_9), (146, .b true)], [eB91 v13.2, .box 48 [.i ((a1.getD x1_9.toNat api_Pair.z).Val), .b y8_b1_1]]⟩ ?_
                            refine cutK [0] ⟨219, [(1, .d (eL42 t1 a1)), (2, .d (eL4 t2 a2)), (7, .ptr 0 0 0 0), (9, .i x1_9), (146, .b true)], [eB91 v13.2]⟩ h0 ?_
                            exact Jj9 true H
                    refine ak_callP (avs := [.ptr 0 0 0 0, .i ((a1.getD x1_9.toNat api_Pair.z).Key), .d (.agg [.i ((a1.getD x1_9.toNat api_Pair.z).Val), .b (a2.getD x1_9.toNat false)])]) (dst := some 82) (k' := (K6 1111010010010 8)) [1, 2, 7, 9, 10, 82] [0] hP enters_25 (merkle_Tree_Set.says x1_r0 ((a1.getD x1_9.toNat api_Pair.z).Key) (⟨(a1.getD x1_9.toNat api_Pair.z).Val, a2.getD x1_9.toNat false⟩ : api_Cell) h31) (by kernel_rfl) (hands_one rfl rfl) (.cons (.same (.ptr 0 0 0 0)) (.cons (pass_d _) (.cons (pass_d _) .nil))) (st' := ⟨219, [(1, .d (eL42 t1 a1)), (2, .d (eL4 t2 a2)), (7, .ptr 0 0 0 0), (9, .i x1_9), (10, .ptr 1 0 0 0), (82, .i v13.1)], [eB91 v13.2, .box 48 [.i ((a1.getD x1_9.toNat api_Pair.z).Val), .b (a2.getD x1_9.toNat false)]]⟩) (by kernel_rfl) ?_
                    refine goK hT 6 (K6 11110100100110 2) ⟨219, [(1, .d (eL42 t1 a1)), (2, .d (eL4 t2 a2)), (7, .ptr 0 0 0 0), (9, .i x1_9), (10, .ptr 1 0 0 0), (11, .i v13.1), (83, .d (eL42 t1 a1)), (84, .i x1_9)], [eB91 v13.2, .box 48 [.i ((a1.getD x1_9.toNat api_Pair.z).Val), .b (a2.getD x1_9.toNat false)]]⟩ ?_
                    refine ak_idx hT [1, 2, 7, 9, 10, 11, 85] (i := x1_9) (n := (a1.length : Int)) h29.1 h29.2 (k' := (K6 11110100100110 3)) (st' := ⟨219, [(1, .d (eL42 t1 a1)), (2, .d (eL4 t2 a2)), (7, .ptr 0 0 0 0), (9, .i x1_9), (10, .ptr 1 0 0 0), (11, .i v13.1), (85, .d (eP42 t1 a1 x1_9.toNat 0))], [eB91 v13.2, .box 48 [.i ((a1.getD x1_9.toNat api_Pair.z).Val), .b (a2.getD x1_9.toNat false)]]⟩) (by kernel_rfl) ?_
                    refine goK hT 4 (K6 11110100100110 7) ⟨219, [(1, .d (eL42 t1 a1)), (2, .d (eL4 t2 a2)), (7, .ptr 0 0 0 0), (9, .i x1_9), (10, .ptr 1 0 0 0), (11, .i v13.1), (89, .b (decide (((a1.getD x1_9.toNat api_Pair.z).Key) ≥ 0)))], [eB91 v13.2, .box 48 [.i ((a1.getD x1_9.toNat api_Pair.z).Val), .b (a2.getD x1_9.toNat false)]]⟩ ?_
                    by_cases c32 : ((a1.getD x1_9.toNat api_Pair.z).Key) ≥ 0
                    · replace H := sT c32 H
                      rw [decide_eq_true c32]
                      refine goK hT 2 (K6 11110100100110 9) ⟨219, [(1, .d (eL42 t1 a1)), (2, .d (eL4 t2 a2)), (7, .ptr 0 0 0 0), (9, .i x1_9), (10, .ptr 1 0 0 0), (11, .i v13.1), (89, .b true), (90, .d (eL42 t1 a1)), (91, .i x1_9)], [eB91 v13.2, .box 48 [.i ((a1.getD x1_9.toNat api_Pair.z).Val), .b (a2.getD x1_9.toNat false)]]⟩ ?_
                      refine ak_idx hT [1, 2, 7, 9, 10, 11, 89, 92] (i := x1_9) (n := (a1.length : Int)) h29.1 h29.2 (k' := (K6 11110100100110 10)) (st' := ⟨219, [(1, .d (eL42 t1 a1)), (2, .d (eL4 t2 a2)), (7, .ptr 0 0 0 0), (9, .i x1_9), (10, .ptr 1 0 0 0), (11, .i v13.1), (89, .b true), (92, .d (eP42 t1 a1 x1_9.toNat 0))], [eB91 v13.2, .box 48 [.i ((a1.getD x1_9.toNat api_Pair.z).Val), .b (a2.getD x1_9.toNat false)]]⟩) (by kernel_rfl) ?_
                      refine goK hT 5 (K6 11110100100110 15) ⟨219, [(1, .d (eL42 t1 a1)), (2, .d (eL4 t2 a2)), (7, .ptr 0 0 0 0), (9, .i x1_9), (10, .ptr 1 0 0 0), (11, .i v13.1), (97, .b (decide (((a1.getD x1_9.toNat api_Pair.z).Key) < 4096)))], [eB91 v13.2, .box 48 [.i ((a1.getD x1_9.toNat api_Pair.z).Val), .b (a2.getD x1_9.toNat false)]]⟩ ?_
                      by_cases c33 : ((a1.getD x1_9.toNat api_Pair.z).Key) < 4096
                      · replace H := sT c33 H
                        rw [decide_eq_true c33]
                        refine goK hT 3 (K6 11110100100110 18) ⟨219, [(1, .d (eL42 t1 a1)), (2, .d (eL4 t2 a2)), (7, .ptr 0 0 0 0), (9, .i x1_9), (10, .ptr 1 0 0 0), (11, .i v13.1), (97, .b true), (100, .b (a2.getD x1_9.toNat false))], [eB91 v13.2, .box 48 [.i ((a1.getD x1_9.toNat api_Pair.z).Val), .b (a2.getD x1_9.toNat false)]]⟩ ?_
                        by_cases c34 : (a2.getD x1_9.toNat false) = true
                        · replace H := sT c34 H
                          rw [c34]
                          refine goK hT 5 (K6 11110100100110 23) ⟨219, [(1, .d (eL42 t1 a1)), (2, .d (eL4 t2 a2)), (7, .ptr 0 0 0 0), (9, .i x1_9), (10, .ptr 1 0 0 0), (11, .i v13.1), (97, .b true), (105, .b (decide (((a1.getD x1_9.toNat api_Pair.z).Val) ≥ (-1099511627776))))], [eB91 v13.2, .box 48 [.i ((a1.getD x1_9.toNat api_Pair.z).Val), .b true]]⟩ ?_
                          by_cases c35 : ((a1.getD x1_9.toNat api_Pair.z).Val) ≥ (-1099511627776)
                          · replace H := sT c35 H
                            rw [decide_eq_true c35]
                            refine goK hT 5 (K6 11110100100110 28) ⟨219, [(1, .d (eL42 t1 a1)), (2, .d (eL4 t2 a2)), (7, .ptr 0 0 0 0), (9, .i x1_9), (10, .ptr 1 0 0 0), (11, .i v13.1), (97, .b true), (110, .b (decide (((a1.getD x1_9.toNat api_Pair.z).Val) ≤ 1099511627776)))], [eB91 v13.2, .box 48 [.i ((a1.getD x1_9.toNat api_Pair.z).Val), .b true]]⟩ ?_
                            by_cases c36 : ((a1.getD x1_9.toNat api_Pair.z).Val) ≤ 1099511627776
                            · replace H := sT c36 H
                              rw [decide_eq_true c36]
                              refine goK hT 12 (K6 1111010010011 1) ⟨219, [(1, .d (eL42 t1 a1)), (2, .d (eL4 t2 a2)), (7, .ptr 0 0 0 0), (9, .i x1_9), (10, .ptr 1 0 0 0), (11, .i v13.1), (12, .b true)], [eB91 v13.2, .box 48 [.i ((a1.getD x1_9.toNat api_Pair.z).Val), .b true]]⟩ ?_
                              refine cutK [0, 1] ⟨219, [(1, .d (eL42 t1 a1)), (2, .d (eL4 t2 a2)), (7, .ptr 0 0 0 0), (9, .i x1_9), (10, .ptr 1 0 0 0), (11, .i v13.1), (12, .b true)], [eB91 v13.2, .box 48 [.i ((a1.getD x1_9.toNat api_Pair.z).Val), .b true]]⟩ h0 ?_
                              exact Jj8 true true H
                            · replace H := sF c36 H
                              rw [decide_eq_false c36]
                              refine goK hT 12 (K6 1111010010011 1) ⟨219, [(1, .d (eL42 t1 a1)), (2, .d (eL4 t2 a2)), (7, .ptr 0 0 0 0), (9, .i x1_9), (10, .ptr 1 0 0 0), (11, .i v13.1), (12, .b false)], [eB91 v13.2, .box 48 [.i ((a1.getD x1_9.toNat api_Pair.z).Val), .b true]]⟩ ?_
                              refine cutK [0, 1] ⟨219, [(1, .d (eL42 t1 a1)), (2, .d (eL4 t2 a2)), (7, .ptr 0 0 0 0), (9, .i x1_9), (10, .ptr 1 0 0 0), (11, .i v13.1), (12, .b false)], [eB91 v13.2, .box 48 [.i ((a1.getD x1_9.toNat api_Pair.z).Val), .b true]]⟩ h0 ?_
                              exact Jj8 false true H
                          · replace H := sF c35 H
                            rw [decide_eq_false c35]
                            refine goK hT 17 (K6 1111010010011 1) ⟨219, [(1, .d (eL42 t1 a1)), (2, .d (eL4 t2 a2)), (7, .ptr 0 0 0 0), (9, .i x1_9), (10, .ptr 1 0 0 0), (11, .i v13.1), (12, .b false)], [eB91 v13.2, .box 48 [.i ((a1.getD x1_9.toNat api_Pair.z).Val), .b true]]⟩ ?_
                            refine cutK [0, 1] ⟨219, [(1, .d (eL42 t1 a1)), (2, .d (eL4 t2 a2)), (7, .ptr 0 0 0 0), (9, .i x1_9), (10, .ptr 1 0 0 0), (11, .i v13.1), (12, .b false)], [eB91 v13.2, .box 48 [.i ((a1.getD x1_9.toNat api_Pair.z).Val), .b true]]⟩ h0 ?_
                            exact Jj8 false true H
                        · replace H := sF c34 H
                          rw [boF c34]
                          refine goK hT 22 (K6 1111010010011 1) ⟨219, [(1, .d (eL42 t1 a1)), (2, .d (eL4 t2 a2)), (7, .ptr 0 0 0 0), (9, .i x1_9), (10, .ptr 1 0 0 0), (11, .i v13.1), (12, .b (((a1.getD x1_9.toNat api_Pair.z).Val) == 0))], [eB91 v13.2, .box 48 [.i ((a1.getD x1_9.toNat api_Pair.z).Val), .b false]]⟩ ?_
                          refine cutK [0, 1] ⟨219, [(1, .d (eL42 t1 a1)), (2, .d (eL4 t2 a2)), (7, .ptr 0 0 0 0), (9, .i x1_9), (10, .ptr 1 0 0 0), (11, .i v13.1), (12, .b (((a1.getD x1_9.toNat api_Pair.z).Val) == 0))], [eB91 v13.2, .box 48 [.i ((a1.getD x1_9.toNat api_Pair.z).Val), .b false]]⟩ h0 ?_
                          exact Jj8 (((a1.getD x1_9.toNat api_Pair.z).Val) == 0) false H
                      · replace H := sF c33 H
                        rw [decide_eq_false c33]
                        refine goK hT 25 (K6 1111010010011 1) ⟨219, [(1, .d (eL42 t1 a1)), (2, .d (eL4 t2 a2)), (7, .ptr 0 0 0 0), (9, .i x1_9), (10, .ptr 1 0 0 0), (11, .i v13.1), (12, .b false)], [eB91 v13.2, .box 48 [.i ((a1.getD x1_9.toNat api_Pair.z).Val), .b (a2.getD x1_9.toNat false)]]⟩ ?_
                        refine cutK [0, 1] ⟨219, [(1, .d (eL42 t1 a1)), (2, .d (eL4 t2 a2)), (7, .ptr 0 0 0 0), (9, .i x1_9), (10, .ptr 1 0 0 0), (11, .i v13.1), (12, .b false)], [eB91 v13.2, .box 48 [.i ((a1.getD x1_9.toNat api_Pair.z).Val), .b (a2.getD x1_9.toNat false)]]⟩ h0 ?_
                        exact Jj8 false (a2.getD x1_9.toNat false) H
                    · replace H := sF c32 H
                      rw [decide_eq_false c32]
                      refine goK hT 33 (K6 1111010010011 1) ⟨219, [(1, .d (eL42 t1 a1)), (2, .d (eL4 t2 a2)), (7, .ptr 0 0 0 0), (9, .i x1_9), (10, .ptr 1 0 0 0), (11, .i v13.1), (12, .b false)], [eB91 v13.2, .box 48 [.i ((a1.getD x1_9.toNat api_Pair.z).Val), .b (a2.getD x1_9.toNat false)]]⟩ ?_
                      refine cutK [0, 1] ⟨219, [(1, .d (eL42 t1 a1)), (2, .d (eL4 t2 a2)), (7, .ptr 0 0 0 0), (9, .i x1_9), (10, .ptr 1 0 0 0), (11, .i v13.1), (12, .b false)], [eB91 v13.2, .box 48 [.i ((a1.getD x1_9.toNat api_Pair.z).Val), .b (a2.getD x1_9.toNat false)]]⟩ h0 ?_
                      exact Jj8 false (a2.getD x1_9.toNat false) H
                  · replace H := sF c20 H
                    rw [boF c20]
                    refine goK hT 5 (K6 111110 1) ⟨219, [(1, .d (eL42 t1 a1)), (7, .ptr 0 0 0 0), (147, .ptr 0 0 0 0)], [eB91 x1_r0]⟩ ?_
                    obtain ⟨v9, h21, H⟩ := sbC H
                    refine ak_callP (avs := [.ptr 0 0 0 0]) (dst := some 148) (k' := (K6 111110 2)) [1, 7, 148] [0] hP enters_27 (merkle_Tree_Table.says x1_r0 h21) (by kernel_rfl) (hands_one rfl rfl) (.cons (.same (.ptr 0 0 0 0)) .nil) (st' := ⟨219, [(1, .d (eL42 t1 a1)), (7, .ptr 0 0 0 0), (148, .own 1 2 0 v9.length)], [eB91 x1_r0, eR42 v9]⟩) (by kernel_rfl) ?_
                    refine goK hT 5 (K6 1111110 1) ⟨219, [(1, .d (eL42 t1 a1)), (7, .ptr 0 0 0 0), (13, .own 1 2 0 v9.length), (150, .own 1 2 0 v9.length)], [eB91 x1_r0, eR42 v9]⟩ ?_
                    obtain ⟨v10, h22, H⟩ := sbC H
                    cases q23 : v10.1 with
                    | none =>
                        rw [q23] at H
                        replace H := soptN H
                        have Jj6 : stk (splicelaw20_MerkleSets.j6) (iter (splicelaw20_MerkleSets.step a1 a2) n) = some r → AK X 6 ((K6 11111110 1)) (Back X [] (.b r)) ⟨219, [(1, .d (eL42 t1 a1)), (7, .ptr 0 0 0 0), (13, .own 1 2 0 v9.length), (14, .d .np), (173, .b true)], [eB91 x1_r0, eR42 v9]⟩ := by
                          intro H
                          refine goK hT 5 (K6 1111111010 1) ⟨219, [(6, .b false)], [eB91 x1_r0, eR42 v9]⟩ ?_
                          obtain rfl := retC H
                          exact ak_ret hf hX (av := .b false) (by kernel_rfl) [] (sel_of_eq (by kernel_rfl)) (by decide) (by rw [h0]; rfl) (by kernel_rfl) (fun _ h => all_nil h) (.d (.v _))
                        have Sq23 := merkle_New.says (t0 := false) v9 h22
                        rw [q23] at Sq23
                        refine ak_callP (avs := [.own 1 2 0 v9.length]) (dst := some 151) (k' := (K6 1111110 2)) [1, 7, 13, 151] [] hP enters_10 (Sq23) (by kernel_rfl) (hands_none _) (.cons (.lend (ty := 42) (by kernel_rfl) rfl) .nil) (st' := ⟨219, [(1, .d (eL42 t1 a1)), (7, .ptr 0 0 0 0), (13, .own 1 2 0 v9.length), (151, .tup [.d .np, .i v10.2])], [eB91 x1_r0, eR42 v9]⟩) (by kernel_rfl) ?_
                        refine goK hT 12 (K6 111111100 3) ⟨219, [(1, .d (eL42 t1 a1)), (7, .ptr 0 0 0 0), (13, .own 1 2 0 v9.length), (14, .d .np), (156, .b (v10.2 != 0))], [eB91 x1_r0, eR42 v9]⟩ ?_
                        by_cases c24 : v10.2 = 0
                        · replace H := sT c24 H
                          rw [neF c24]
                          refine goK hT 18 (K6 11111110 1) ⟨219, [(1, .d (eL42 t1 a1)), (7, .ptr 0 0 0 0), (13, .own 1 2 0 v9.length), (14, .d .np), (173, .b true)], [eB91 x1_r0, eR42 v9]⟩ ?_
                          refine cutK [0, 1] ⟨219, [(1, .d (eL42 t1 a1)), (7, .ptr 0 0 0 0), (13, .own 1 2 0 v9.length), (14, .d .np), (173, .b true)], [eB91 x1_r0, eR42 v9]⟩ h0 ?_
                          exact Jj6 H
                        · replace H := sF c24 H
                          rw [neT c24]
                          refine goK hT 18 (K6 11111110 1) ⟨219, [(1, .d (eL42 t1 a1)), (7, .ptr 0 0 0 0), (13, .own 1 2 0 v9.length), (14, .d .np), (173, .b true)], [eB91 x1_r0, eR42 v9]⟩ ?_
                          refine cutK [0, 1] ⟨219, [(1, .d (eL42 t1 a1)), (7, .ptr 0 0 0 0), (13, .own 1 2 0 v9.length), (14, .d .np), (173, .b true)], [eB91 x1_r0, eR42 v9]⟩ h0 ?_
                          exact Jj6 H
                    | some v11 =>
                        rw [q23] at H
                        replace H := soptS H
                        have Jj7 : ∀ (y7_173 : Bool), stk (splicelaw20_MerkleSets.j7 x1_r0 v9 v11 y7_173) (iter (splicelaw20_MerkleSets.step a1 a2) n) = some r → AK X 6 ((K6 11111110 1)) (Back X [] (.b r)) ⟨219, [(1, .d (eL42 t1 a1)), (7, .ptr 0 0 0 0), (13, .own 1 2 0 v9.length), (14, .ptr 2 0 0 0), (173, .b y7_173)], [eB91 x1_r0, eR42 v9, eB91 v11]⟩ := by
                          intro y7_173 H
                          by_cases c28 : y7_173 = true
                          · replace H := sT c28 H
                            rw [c28]
                            refine goK hT 5 (K6 1111111010 1) ⟨219, [(6, .b false)], [eB91 x1_r0, eR42 v9, eB91 v11]⟩ ?_
                            obtain rfl := retC H
                            exact ak_ret hf hX (av := .b false) (by kernel_rfl) [] (sel_of_eq (by kernel_rfl)) (by decide) (by rw [h0]; rfl) (by kernel_rfl) (fun _ h => all_nil h) (.d (.v _))
                          · replace H := sF c28 H
                            rw [boF c28]
                            refine goK hT 2 (K6 1111111 1) ⟨219, [(1, .d (eL42 t1 a1)), (7, .ptr 0 0 0 0), (13, .own 1 2 0 v9.length), (14, .ptr 2 0 0 0)], [eB91 x1_r0, eR42 v9, eB91 v11]⟩ ?_
                            refine goK hT 7 (K6 11111111010 0) ⟨219, [(1, .d (eL42 t1 a1)), (7, .ptr 0 0 0 0), (13, .own 1 2 0 v9.length), (14, .ptr 2 0 0 0), (16, .i 0)], [eB91 x1_r0, eR42 v9, eB91 v11]⟩ ?_
                            refine cutK [0, 1, 2] ⟨219, [(1, .d (eL42 t1 a1)), (7, .ptr 0 0 0 0), (13, .own 1 2 0 v9.length), (14, .ptr 2 0 0 0), (16, .i 0)], [eB91 x1_r0, eR42 v9, eB91 v11]⟩ h0 ?_
                            exact ih.2 v9 v11 0 x1_r0 H
                        have Sq23 := merkle_New.says (t0 := false) v9 h22
                        rw [q23] at Sq23
                        refine ak_callP (avs := [.own 1 2 0 v9.length]) (dst := some 151) (k' := (K6 1111110 2)) [1, 7, 13, 151] [] hP enters_10 (Sq23) (by kernel_rfl) (hands_none _) (.cons (.lend (ty := 42) (by kernel_rfl) rfl) .nil) (st' := ⟨219, [(1, .d (eL42 t1 a1)), (7, .ptr 0 0 0 0), (13, .own 1 2 0 v9.length), (151, .tup [.ptr 2 0 0 0, .i v10.2])], [eB91 x1_r0, eR42 v9, eB91 v11]⟩) (by kernel_rfl) ?_
                        refine goK hT 12 (K6 111111100 3) ⟨219, [(1, .d (eL42 t1 a1)), (7, .ptr 0 0 0 0), (13, .own 1 2 0 v9.length), (14, .ptr 2 0 0 0), (156, .b (v10.2 != 0))], [eB91 x1_r0, eR42 v9, eB91 v11]⟩ ?_
                        by_cases c25 : v10.2 = 0
                        · replace H := sT c25 H
                          rw [neF c25]
                          refine goK hT 5 (K6 111111100 8) ⟨219, [(1, .d (eL42 t1 a1)), (7, .ptr 0 0 0 0), (13, .own 1 2 0 v9.length), (14, .ptr 2 0 0 0), (160, .b false), (161, .ptr 2 0 0 0)], [eB91 x1_r0, eR42 v9, eB91 v11]⟩ ?_
                          refine ak_callP (avs := [.ptr 2 0 0 0]) (dst := some 162) (k' := (K6 111111100 9)) [1, 7, 13, 14, 160, 162] [2] hP enters_18 (merkle_Tree_Root.says v11) (by kernel_rfl) (hands_one rfl rfl) (.cons (.same (.ptr 0 0 0 0)) .nil) (st' := ⟨219, [(1, .d (eL42 t1 a1)), (7, .ptr 0 0 0 0), (13, .own 1 2 0 v9.length), (14, .ptr 2 0 0 0), (160, .b false), (162, .n .u32 (merkle_Tree_Root v11))], [eB91 x1_r0, eR42 v9, eB91 v11]⟩) (by kernel_rfl) ?_
                          refine goK hT 1 (K6 111111100 10) ⟨219, [(1, .d (eL42 t1 a1)), (7, .ptr 0 0 0 0), (13, .own 1 2 0 v9.length), (14, .ptr 2 0 0 0), (160, .b false), (162, .n .u32 (merkle_Tree_Root v11)), (163, .ptr 0 0 0 0)], [eB91 x1_r0, eR42 v9, eB91 v11]⟩ ?_
                          refine ak_callP (avs := [.ptr 0 0 0 0]) (dst := some 164) (k' := (K6 111111100 11)) [1, 7, 13, 14, 160, 162, 164] [0] hP enters_18 (merkle_Tree_Root.says x1_r0) (by kernel_rfl) (hands_one rfl rfl) (.cons (.same (.ptr 0 0 0 0)) .nil) (st' := ⟨219, [(1, .d (eL42 t1 a1)), (7, .ptr 0 0 0 0), (13, .own 1 2 0 v9.length), (14, .ptr 2 0 0 0), (160, .b false), (162, .n .u32 (merkle_Tree_Root v11)), (164, .n .u32 (merkle_Tree_Root x1_r0))], [eB91 x1_r0, eR42 v9, eB91 v11]⟩) (by kernel_rfl) ?_
                          refine goK hT 3 (K6 111111100 14) ⟨219, [(1, .d (eL42 t1 a1)), (7, .ptr 0 0 0 0), (13, .own 1 2 0 v9.length), (14, .ptr 2 0 0 0), (167, .b ((merkle_Tree_Root v11) != (merkle_Tree_Root x1_r0)))], [eB91 x1_r0, eR42 v9, eB91 v11]⟩ ?_
                          by_cases c26 : (merkle_Tree_Root v11) = (merkle_Tree_Root x1_r0)
                          · replace H := sT c26 H
                            rw [neF c26]
                            refine goK hT 2 (K6 111111100 16) ⟨219, [(1, .d (eL42 t1 a1)), (7, .ptr 0 0 0 0), (13, .own 1 2 0 v9.length), (14, .ptr 2 0 0 0), (167, .b false), (168, .ptr 0 0 0 0), (169, .ptr 2 0 0 0)], [eB91 x1_r0, eR42 v9, eB91 v11]⟩ ?_
                            obtain ⟨v12, h27, H⟩ := sbC H
                            refine ak_callP (avs := [.ptr 0 0 0 0, .ptr 2 0 0 0]) (dst := some 170) (k' := (K6 111111100 17)) [1, 7, 13, 14, 167, 170] [0, 2] hP enters_14 (merkle_Diff.says x1_r0 v11 h27) (by kernel_rfl) (hands_two rfl rfl rfl rfl (by decide)) (.cons (.same (.ptr 0 0 0 0)) (.cons (.same (.ptr 1 0 0 0)) .nil)) (st' := ⟨219, [(1, .d (eL42 t1 a1)), (7, .ptr 0 0 0 0), (13, .own 1 2 0 v9.length), (14, .ptr 2 0 0 0), (167, .b false), (170, .own 3 2 0 v12.length)], [eB91 x1_r0, eR42 v9, eB91 v11, eR44 v12]⟩) (by kernel_rfl) ?_
                            refine goK hT 4 (K6 11111110 1) ⟨219, [(1, .d (eL42 t1 a1)), (7, .ptr 0 0 0 0), (13, .own 1 2 0 v9.length), (14, .ptr 2 0 0 0), (173, .b ((v12.length : Int) != 0))], [eB91 x1_r0, eR42 v9, eB91 v11, eR44 v12]⟩ ?_
                            refine cutK [0, 1, 2] ⟨219, [(1, .d (eL42 t1 a1)), (7, .ptr 0 0 0 0), (13, .own 1 2 0 v9.length), (14, .ptr 2 0 0 0), (173, .b ((v12.length : Int) != 0))], [eB91 x1_r0, eR42 v9, eB91 v11]⟩ h0 ?_
                            exact Jj7 ((v12.length : Int) != 0) H
                          · replace H := sF c26 H
                            rw [neT c26]
                            refine goK hT 7 (K6 11111110 1) ⟨219, [(1, .d (eL42 t1 a1)), (7, .ptr 0 0 0 0), (13, .own 1 2 0 v9.length), (14, .ptr 2 0 0 0), (173, .b true)], [eB91 x1_r0, eR42 v9, eB91 v11]⟩ ?_
                            refine cutK [0, 1, 2] ⟨219, [(1, .d (eL42 t1 a1)), (7, .ptr 0 0 0 0), (13, .own 1 2 0 v9.length), (14, .ptr 2 0 0 0), (173, .b true)], [eB91 x1_r0, eR42 v9, eB91 v11]⟩ h0 ?_
                            exact Jj7 true H
                        · replace H := sF c25 H
                          rw [neT c25]
                          refine goK hT 18 (K6 11111110 1) ⟨219, [(1, .d (eL42 t1 a1)), (7, .ptr 0 0 0 0), (13, .own 1 2 0 v9.length), (14, .ptr 2 0 0 0), (173, .b true)], [eB91 x1_r0, eR42 v9, eB91 v11]⟩ ?_
                          refine cutK [0, 1, 2] ⟨219, [(1, .d (eL42 t1 a1)), (7, .ptr 0 0 0 0), (13, .own 1 2 0 v9.length), (14, .ptr 2 0 0 0), (173, .b true)], [eB91 x1_r0, eR42 v9, eB91 v11]⟩ h0 ?_
                          exact Jj7 true H
                refine goK hT 8 (K6 1111010000 5) ⟨219, [(1, .d (eL42 t1 a1)), (2, .d (eL4 t2 a2)), (7, .ptr 0 0 0 0), (9, .i x1_9), (53, .b (decide (x1_9 < (a1.length : Int))))], [eB91 x1_r0]⟩ ?_
                by_cases c18 : x1_9 < (a1.length : Int)
                · replace H := sT c18 H
                  rw [decide_eq_true c18]
                  refine goK hT 4 (K6 1111010000 9) ⟨219, [(1, .d (eL42 t1 a1)), (2, .d (eL4 t2 a2)), (7, .ptr 0 0 0 0), (9, .i x1_9), (57, .b (decide (x1_9 < 20)))], [eB91 x1_r0]⟩ ?_
                  by_cases c19 : x1_9 < 20
                  · replace H := sT c19 H
                    rw [decide_eq_true c19]
                    refine goK hT 6 (K6 111101000 1) ⟨219, [(1, .d (eL42 t1 a1)), (2, .d (eL4 t2 a2)), (7, .ptr 0 0 0 0), (9, .i x1_9), (62, .b (decide (x1_9 < (a2.length : Int))))], [eB91 x1_r0]⟩ ?_
                    refine cutK [0] ⟨219, [(1, .d (eL42 t1 a1)), (2, .d (eL4 t2 a2)), (7, .ptr 0 0 0 0), (9, .i x1_9), (62, .b (decide (x1_9 < (a2.length : Int))))], [eB91 x1_r0]⟩ h0 ?_
                    exact Jj5 (decide (x1_9 < (a2.length : Int))) H
                  · replace H := sF c19 H
                    rw [decide_eq_false c19]
                    refine goK hT 6 (K6 111101000 1) ⟨219, [(1, .d (eL42 t1 a1)), (2, .d (eL4 t2 a2)), (7, .ptr 0 0 0 0), (9, .i x1_9), (62, .b false)], [eB91 x1_r0]⟩ ?_
                    refine cutK [0] ⟨219, [(1, .d (eL42 t1 a1)), (2, .d (eL4 t2 a2)), (7, .ptr 0 0 0 0), (9, .i x1_9), (62, .b false)], [eB91 x1_r0]⟩ h0 ?_
                    exact Jj5 false H
                · replace H := sF c18 H
                  rw [decide_eq_false c18]
                  refine goK hT 10 (K6 111101000 1) ⟨219, [(1, .d (eL42 t1 a1)), (2, .d (eL4 t2 a2)), (7, .ptr 0 0 0 0), (9, .i x1_9), (62, .b false)], [eB91 x1_r0]⟩ ?_
                  refine cutK [0] ⟨219, [(1, .d (eL42 t1 a1)), (2, .d (eL4 t2 a2)), (7, .ptr 0 0 0 0), (9, .i x1_9), (62, .b false)], [eB91 x1_r0]⟩ h0 ?_
                  exact Jj5 false H
              · intro v9 v11 x2_16 x2_r0 H
                have Jj10 : ∀ (y10_181 : Bool), stk (splicelaw20_MerkleSets.j10 a1 x2_16 x2_r0 v9 v11 y10_181) (iter (splicelaw20_MerkleSets.step a1 a2) n) = some r → AK X 6 ((K6 1111111101000 1)) (Back X [] (.b r)) ⟨219, [(1, .d (eL42 t1 a1)), (7, .ptr 0 0 0 0), (13, .own 1 2 0 v9.length), (14, .ptr 2 0 0 0), (16, .i x2_16), (181, .b y10_181)], [eB91 x2_r0, eR42 v9, eB91 v11]⟩ := by
                  intro y10_181 H
                  by_cases c44 : y10_181 = true
                  · replace H := sT c44 H
                    rw [c44]
                    refine goK hT 2 (K6 111111110100 1) ⟨219, [(1, .d (eL42 t1 a1)), (7, .ptr 0 0 0 0), (13, .own 1 2 0 v9.length), (14, .ptr 2 0 0 0), (16, .i x2_16)], [eB91 x2_r0, eR42 v9, eB91 v11]⟩ ?_
                    refine goK hT 7 (K6 1111111101001000 3) ⟨219, [(1, .d (eL42 t1 a1)), (7, .ptr 0 0 0 0), (13, .own 1 2 0 v9.length), (14, .ptr 2 0 0 0), (16, .i x2_16), (185, .ptr 0 0 0 0), (186, .d (eL42 t1 a1)), (187, .i x2_16)], [eB91 x2_r0, eR42 v9, eB91 v11]⟩ ?_
                    obtain ⟨h50, H⟩ := sC H
                    refine ak_idx hT [1, 7, 13, 14, 16, 185, 188] (i := x2_16) (n := (a1.length : Int)) h50.1 h50.2 (k' := (K6 1111111101001000 4)) (st' := ⟨219, [(1, .d (eL42 t1 a1)), (7, .ptr 0 0 0 0), (13, .own 1 2 0 v9.length), (14, .ptr 2 0 0 0), (16, .i x2_16), (185, .ptr 0 0 0 0), (188, .d (eP42 t1 a1 x2_16.toNat 0))], [eB91 x2_r0, eR42 v9, eB91 v11]⟩) (by kernel_rfl) ?_
                    refine goK hT 2 (K6 1111111101001000 6) ⟨219, [(1, .d (eL42 t1 a1)), (7, .ptr 0 0 0 0), (13, .own 1 2 0 v9.length), (14, .ptr 2 0 0 0), (16, .i x2_16), (185, .ptr 0 0 0 0), (190, .i ((a1.getD x2_16.toNat api_Pair.z).Key))], [eB91 x2_r0, eR42 v9, eB91 v11]⟩ ?_
                    obtain ⟨v17, h51, H⟩ := sbC H
                    refine ak_callP (avs := [.ptr 0 0 0 0, .i ((a1.getD x2_16.toNat api_Pair.z).Key)]) (dst := some 191) (k' := (K6 1111111101001000 7)) [1, 7, 13, 14, 16, 191] [0] hP enters_24 (merkle_Tree_Leaf.says x2_r0 ((a1.getD x2_16.toNat api_Pair.z).Key) h51) (by kernel_rfl) (hands_one rfl rfl) (.cons (.same (.ptr 0 0 0 0)) (.cons (pass_d _) .nil)) (st' := ⟨219, [(1, .d (eL42 t1 a1)), (7, .ptr 0 0 0 0), (13, .own 1 2 0 v9.length), (14, .ptr 2 0 0 0), (16, .i x2_16), (191, .tup [.n .u32 v17.1, .i v17.2])], [eB91 x2_r0, eR42 v9, eB91 v11]⟩) (by kernel_rfl) ?_
                    refine goK hT 11 (K6 11111111010010010 3) ⟨219, [(1, .d (eL42 t1 a1)), (7, .ptr 0 0 0 0), (13, .own 1 2 0 v9.length), (14, .ptr 2 0 0 0), (16, .i x2_16), (17, .n .u32 v17.1), (195, .ptr 2 0 0 0), (196, .d (eL42 t1 a1)), (197, .i x2_16)], [eB91 x2_r0, eR42 v9, eB91 v11]⟩ ?_
                    refine ak_idx hT [1, 7, 13, 14, 16, 17, 195, 198] (i := x2_16) (n := (a1.length : Int)) h50.1 h50.2 (k' := (K6 11111111010010010 4)) (st' := ⟨219, [(1, .d (eL42 t1 a1)), (7, .ptr 0 0 0 0), (13, .own 1 2 0 v9.length), (14, .ptr 2 0 0 0), (16, .i x2_16), (17, .n .u32 v17.1), (195, .ptr 2 0 0 0), (198, .d (eP42 t1 a1 x2_16.toNat 0))], [eB91 x2_r0, eR42 v9, eB91 v11]⟩) (by kernel_rfl) ?_
                    refine goK hT 2 (K6 11111111010010010 6) ⟨219, [(1, .d (eL42 t1 a1)), (7, .ptr 0 0 0 0), (13, .own 1 2 0 v9.length), (14, .ptr 2 0 0 0), (16, .i x2_16), (17, .n .u32 v17.1), (195, .ptr 2 0 0 0), (200, .i ((a1.getD x2_16.toNat api_Pair.z).Key))], [eB91 x2_r0, eR42 v9, eB91 v11]⟩ ?_
                    obtain ⟨v18, h52, H⟩ := sbC H
                    refine ak_callP (avs := [.ptr 2 0 0 0, .i ((a1.getD x2_16.toNat api_Pair.z).Key)]) (dst := some 201) (k' := (K6 11111111010010010 7)) [1, 7, 13, 14, 16, 17, 201] [2] hP enters_24 (merkle_Tree_Leaf.says v11 ((a1.getD x2_16.toNat api_Pair.z).Key) h52) (by kernel_rfl) (hands_one rfl rfl) (.cons (.same (.ptr 0 0 0 0)) (.cons (pass_d _) .nil)) (st' := ⟨219, [(1, .d (eL42 t1 a1)), (7, .ptr 0 0 0 0), (13, .own 1 2 0 v9.length), (14, .ptr 2 0 0 0), (16, .i x2_16), (17, .n .u32 v17.1), (201, .tup [.n .u32 v18.1, .i v18.2])], [eB91 x2_r0, eR42 v9, eB91 v11]⟩) (by kernel_rfl) ?_
                    refine goK hT 12 (K6 11111111010010011 1) ⟨219, [(1, .d (eL42 t1 a1)), (7, .ptr 0 0 0 0), (13, .own 1 2 0 v9.length), (14, .ptr 2 0 0 0), (16, .i x2_16), (206, .b (v17.1 != v18.1))], [eB91 x2_r0, eR42 v9, eB91 v11]⟩ ?_
                    by_cases c53 : v17.1 = v18.1
                    · replace H := sT c53 H
                      rw [neF c53]
                      refine goK hT 3 (K6 1111111101001 1) ⟨219, [(1, .d (eL42 t1 a1)), (7, .ptr 0 0 0 0), (13, .own 1 2 0 v9.length), (14, .ptr 2 0 0 0), (16, .i x2_16)], [eB91 x2_r0, eR42 v9, eB91 v11]⟩ ?_
                      refine goK hT 6 (K6 11111111010 0) ⟨219, [(1, .d (eL42 t1 a1)), (7, .ptr 0 0 0 0), (13, .own 1 2 0 v9.length), (14, .ptr 2 0 0 0), (16, .i (IntKind.wrap .i64 (x2_16 + 1)))], [eB91 x2_r0, eR42 v9, eB91 v11]⟩ ?_
                      refine cutK [0, 1, 2] ⟨219, [(1, .d (eL42 t1 a1)), (7, .ptr 0 0 0 0), (13, .own 1 2 0 v9.length), (14, .ptr 2 0 0 0), (16, .i (IntKind.wrap .i64 (x2_16 + 1)))], [eB91 x2_r0, eR42 v9, eB91 v11]⟩ h0 ?_
                      exact ih.2 v9 v11 (IntKind.wrap .i64 (x2_16 + 1)) x2_r0 H
                    · replace H := sF c53 H
                      rw [neT c53]
                      refine goK hT 5 (K6 1111111101001001110 1) ⟨219, [(6, .b false)], [eB91 x2_r0, eR42 v9, eB91 v11]⟩ ?_
                      obtain rfl := retC H
                      exact ak_ret hf hX (av := .b false) (by kernel_rfl) [] (sel_of_eq (by kernel_rfl)) (by decide) (by rw [h0]; rfl) (by kernel_rfl) (fun _ h => all_nil h) (.d (.v _))
                  · replace H := sF c44 H
                    rw [boF c44]
                    refine goK hT 4 (K6 1111111110 0) ⟨219, [(7, .ptr 0 0 0 0), (13, .own 1 2 0 v9.length)], [eB91 x2_r0, eR42 v9, eB91 v11]⟩ ?_
                    obtain ⟨v15, h45, H⟩ := sbC H
                    have Jj11 : ∀ (y11_6 : Bool), stk (splicelaw20_MerkleSets.j11 y11_6) (iter (splicelaw20_MerkleSets.step a1 a2) n) = some r → AK X 6 ((K6 111111111 1)) (Back X [] (.b r)) ⟨219, [(6, .b y11_6)], []⟩ := by
                      intro y11_6 H
                      obtain rfl := retC H
                      exact ak_ret hf hX (av := .b y11_6) (by kernel_rfl) [] (sel_of_eq (by kernel_rfl)) (by decide) (by rw [h0]; rfl) (by kernel_rfl) (fun _ h => all_nil h) (.d (.v _))
                    refine ak_callP (avs := []) (dst := some 207) (k' := (K6 1111111110 1)) [7, 13, 207] [] hP enters_12 (splicelaw20_awake.says h45) (by kernel_rfl) (hands_none _) .nil (st' := ⟨219, [(7, .ptr 0 0 0 0), (13, .own 1 2 0 v9.length), (207, .b v15)], [eB91 x2_r0, eR42 v9, eB91 v11]⟩) (by kernel_rfl) ?_
                    refine goK hT 1 (K6 1111111110 2) ⟨219, [(7, .ptr 0 0 0 0), (13, .own 1 2 0 v9.length), (208, .b v15)], [eB91 x2_r0, eR42 v9, eB91 v11]⟩ ?_
                    by_cases c46 : v15 = true
                    · replace H := sT c46 H
                      rw [c46]
                      refine goK hT 1 (K6 1111111110 3) ⟨219, [(13, .own 1 2 0 v9.length), (208, .b true), (209, .ptr 0 0 0 0)], [eB91 x2_r0, eR42 v9, eB91 v11]⟩ ?_
                      refine ak_callP (avs := [.ptr 0 0 0 0]) (dst := some 210) (k' := (K6 1111111110 4)) [13, 208, 210] [0] hP enters_18 (merkle_Tree_Root.says x2_r0) (by kernel_rfl) (hands_one rfl rfl) (.cons (.same (.ptr 0 0 0 0)) .nil) (st' := ⟨219, [(13, .own 1 2 0 v9.length), (208, .b true), (210, .n .u32 (merkle_Tree_Root x2_r0))], [eB91 x2_r0, eR42 v9, eB91 v11]⟩) (by kernel_rfl) ?_
                      refine goK hT 1 (K6 1111111110 5) ⟨219, [(208, .b true), (210, .n .u32 (merkle_Tree_Root x2_r0)), (211, .own 1 2 0 v9.length)], [eB91 x2_r0, eR42 v9, eB91 v11]⟩ ?_
                      obtain ⟨v16, h47, H⟩ := sbC H
                      refine ak_callP (avs := [.own 1 2 0 v9.length]) (dst := some 212) (k' := (K6 1111111110 6)) [208, 210, 212] [] hP enters_13 (splicelaw20_levels.says (t0 := false) v9 h47) (by kernel_rfl) (hands_none _) (.cons (.lend (ty := 42) (by kernel_rfl) rfl) .nil) (st' := ⟨219, [(208, .b true), (210, .n .u32 (merkle_Tree_Root x2_r0)), (212, .own 3 1 0 v16.length)], [eB91 x2_r0, eR42 v9, eB91 v11, eR57 v16]⟩) (by kernel_rfl) ?_
                      obtain ⟨h48, H⟩ := sC H
                      refine ak_idx hT [208, 210, 213] (i := 3) (n := (v16.length : Int)) h48.1 h48.2 (k' := (K6 1111111110 7)) (st' := ⟨219, [(208, .b true), (210, .n .u32 (merkle_Tree_Root x2_r0)), (213, .ptr 3 1 3 0)], [eB91 x2_r0, eR42 v9, eB91 v11, eR57 v16]⟩) (by kernel_rfl) ?_
                      refine ak_ld hT [208, 210, 214] (i := 3) (n := v16.length) (by omega) (k' := (K6 1111111110 8)) (st' := ⟨219, [(208, .b true), (210, .n .u32 (merkle_Tree_Root x2_r0)), (214, .d (eL37 true (v16.getD 3 [])))], [eB91 x2_r0, eR42 v9, eB91 v11, eR57 v16]⟩) (by kernel_rfl) ?_
                      obtain ⟨h49, H⟩ := sC H
                      refine ak_idx hT [208, 210, 215] (i := 0) (n := ((v16.getD 3 []).length : Int)) h49.1 h49.2 (k' := (K6 1111111110 9)) (st' := ⟨219, [(208, .b true), (210, .n .u32 (merkle_Tree_Root x2_r0)), (215, .d (eP37 true (v16.getD 3 []) 0 0))], [eB91 x2_r0, eR42 v9, eB91 v11, eR57 v16]⟩) (by kernel_rfl) ?_
                      refine goK hT 5 (K6 111111111 1) ⟨219, [(6, .b ((merkle_Tree_Root x2_r0) == ((v16.getD 3 []).getD 0 0)))], [eB91 x2_r0, eR42 v9, eB91 v11, eR57 v16]⟩ ?_
                      refine cutK [] ⟨219, [(6, .b ((merkle_Tree_Root x2_r0) == ((v16.getD 3 []).getD 0 0)))], []⟩ h0 ?_
                      exact Jj11 ((merkle_Tree_Root x2_r0) == ((v16.getD 3 []).getD 0 0)) H
                    · replace H := sF c46 H
                      rw [boF c46]
                      refine goK hT 12 (K6 111111111 1) ⟨219, [(6, .b false)], [eB91 x2_r0, eR42 v9, eB91 v11]⟩ ?_
                      refine cutK [] ⟨219, [(6, .b false)], []⟩ h0 ?_
                      exact Jj11 false H
                refine goK hT 8 (K6 11111111010000 5) ⟨219, [(1, .d (eL42 t1 a1)), (7, .ptr 0 0 0 0), (13, .own 1 2 0 v9.length), (14, .ptr 2 0 0 0), (16, .i x2_16), (178, .b (decide (x2_16 < (a1.length : Int))))], [eB91 x2_r0, eR42 v9, eB91 v11]⟩ ?_
                by_cases c43 : x2_16 < (a1.length : Int)
                · replace H := sT c43 H
                  rw [decide_eq_true c43]
                  refine goK hT 4 (K6 1111111101000 1) ⟨219, [(1, .d (eL42 t1 a1)), (7, .ptr 0 0 0 0), (13, .own 1 2 0 v9.length), (14, .ptr 2 0 0 0), (16, .i x2_16), (181, .b (decide (x2_16 < 20)))], [eB91 x2_r0, eR42 v9, eB91 v11]⟩ ?_
                  refine cutK [0, 1, 2] ⟨219, [(1, .d (eL42 t1 a1)), (7, .ptr 0 0 0 0), (13, .own 1 2 0 v9.length), (14, .ptr 2 0 0 0), (16, .i x2_16), (181, .b (decide (x2_16 < 20)))], [eB91 x2_r0, eR42 v9, eB91 v11]⟩ h0 ?_
                  exact Jj10 (decide (x2_16 < 20)) H
                · replace H := sF c43 H
                  rw [decide_eq_false c43]
                  refine goK hT 4 (K6 1111111101000 1) ⟨219, [(1, .d (eL42 t1 a1)), (7, .ptr 0 0 0 0), (13, .own 1 2 0 v9.length), (14, .ptr 2 0 0 0), (16, .i x2_16), (181, .b false)], [eB91 x2_r0, eR42 v9, eB91 v11]⟩ ?_
                  refine cutK [0, 1, 2] ⟨219, [(1, .d (eL42 t1 a1)), (7, .ptr 0 0 0 0), (13, .own 1 2 0 v9.length), (14, .ptr 2 0 0 0), (16, .i x2_16), (181, .b false)], [eB91 x2_r0, eR42 v9, eB91 v11]⟩ h0 ?_
                  exact Jj10 false H
          refine cutK [0] ⟨219, [(1, .d (eL42 t1 a1)), (2, .d (eL4 t2 a2)), (7, .ptr 0 0 0 0), (9, .i 0)], [eB91 v2]⟩ h0 ?_
          obtain ⟨n, H⟩ := loopC H
          exact (L n).1 0 v2 H
      have Sq2 := merkle_New.says (t0 := t0) a0 h1
      rw [q2] at Sq2
      refine ak_callP (avs := [.d (eL42 t0 a0)]) (dst := some 23) (k' := (K6 110 2)) [0, 1, 2, 23] [] hP enters_10 (Sq2) (by kernel_rfl) (hands_none _) (.cons (pass_d _) .nil) (st' := ⟨219, [(0, .d (eL42 t0 a0)), (1, .d (eL42 t1 a1)), (2, .d (eL4 t2 a2)), (23, .tup [.ptr 0 0 0 0, .i v1.2])], [eB91 v2]⟩) (by kernel_rfl) ?_
      refine goK hT 10 (K6 11100 1) ⟨219, [(0, .d (eL42 t0 a0)), (1, .d (eL42 t1 a1)), (2, .d (eL4 t2 a2)), (7, .ptr 0 0 0 0), (8, .i v1.2), (26, .d (eL42 t0 a0))], [eB91 v2]⟩ ?_
      refine ak_callP (avs := [.d (eL42 t0 a0)]) (dst := some 27) (k' := (K6 11100 2)) [0, 1, 2, 7, 8, 27] [] hP enters_11 (splicelaw20_few.says (t0 := t0) a0) (by kernel_rfl) (hands_none _) (.cons (pass_d _) .nil) (st' := ⟨219, [(0, .d (eL42 t0 a0)), (1, .d (eL42 t1 a1)), (2, .d (eL4 t2 a2)), (7, .ptr 0 0 0 0), (8, .i v1.2), (27, .b (splicelaw20_few a0))], [eB91 v2]⟩) (by kernel_rfl) ?_
      refine goK hT 2 (K6 11100 4) ⟨219, [(0, .d (eL42 t0 a0)), (1, .d (eL42 t1 a1)), (2, .d (eL4 t2 a2)), (7, .ptr 0 0 0 0), (8, .i v1.2), (29, .b (!(splicelaw20_few a0)))], [eB91 v2]⟩ ?_
      by_cases c10 : (splicelaw20_few a0) = true
      · replace H := iT c10 H
        rw [c10]
        refine goK hT 4 (K6 11100 8) ⟨219, [(0, .d (eL42 t0 a0)), (1, .d (eL42 t1 a1)), (2, .d (eL4 t2 a2)), (7, .ptr 0 0 0 0), (33, .b (v1.2 != 0))], [eB91 v2]⟩ ?_
        by_cases c11 : v1.2 = 0
        · replace H := iT c11 H
          rw [neF c11]
          refine goK hT 4 (K6 1110 1) ⟨219, [(0, .d (eL42 t0 a0)), (1, .d (eL42 t1 a1)), (2, .d (eL4 t2 a2)), (7, .ptr 0 0 0 0), (36, .b false)], [eB91 v2]⟩ ?_
          refine cutK [0] ⟨219, [(0, .d (eL42 t0 a0)), (1, .d (eL42 t1 a1)), (2, .d (eL4 t2 a2)), (7, .ptr 0 0 0 0), (36, .b false)], [eB91 v2]⟩ h0 ?_
          exact Jj3 false H
        · replace H := iF c11 H
          rw [neT c11]
          refine goK hT 4 (K6 1110 1) ⟨219, [(0, .d (eL42 t0 a0)), (1, .d (eL42 t1 a1)), (2, .d (eL4 t2 a2)), (7, .ptr 0 0 0 0), (36, .b true)], [eB91 v2]⟩ ?_
          refine cutK [0] ⟨219, [(0, .d (eL42 t0 a0)), (1, .d (eL42 t1 a1)), (2, .d (eL4 t2 a2)), (7, .ptr 0 0 0 0), (36, .b true)], [eB91 v2]⟩ h0 ?_
          exact Jj3 true H
      · replace H := iF c10 H
        rw [boF c10]
        refine goK hT 8 (K6 1110 1) ⟨219, [(0, .d (eL42 t0 a0)), (1, .d (eL42 t1 a1)), (2, .d (eL4 t2 a2)), (7, .ptr 0 0 0 0), (36, .b true)], [eB91 v2]⟩ ?_
        refine cutK [0] ⟨219, [(0, .d (eL42 t0 a0)), (1, .d (eL42 t1 a1)), (2, .d (eL4 t2 a2)), (7, .ptr 0 0 0 0), (36, .b true)], [eB91 v2]⟩ h0 ?_
        exact Jj3 true H
end Go.SyP
