/- Certificates, printed by gen.py. -/
import Derived.Test.YtijabmambppfhaaG05Cp0
set_option linter.unusedVariables false
set_option linter.unusedSimpArgs false
namespace Go.SyP
open Go Go.Sy Go.Proofs


theorem splicelaw05_TableFar.says {t0 : Bool} (a0 : List api_Pair) (a1 : api_Mut) (a2 : api_Mut) {r : Bool} (H : splicelaw05_TableFar a0 a1 a2 = some r) : Says Try.prog 12 [] [.d (eL47 t0 a0), .d (eG26 a1), .d (eG26 a2)] [] (.b r) := by
  refine says_of Try.func12 rfl (nt := 96) rfl (Nat.le_of_ble_eq_true rfl) fun X hP h0 hX => ?_
  have hT : TabOk X.P T := hP ▸ tok
  have hf : X.P.funcs[12]? = some Try.f12 := hP ▸ Try.func12
  have Jj1 : ∀ (y1_48 : Bool), (splicelaw05_TableFar.j1 a0 a1 a2 y1_48) = some r → AK X 12 ((K12 1110 1)) (Back X [] (.b r)) ⟨96, [(0, .d (eL47 t0 a0)), (4, .ptr 0 0 0 0), (5, .ptr 1 0 0 0), (7, .own 2 2 0 (([(⟨0, 4096⟩ : api_Span)] : List api_Span).length)), (48, .b y1_48)], [.box 26 (eC26 a1), .box 26 (eC26 a2), eR24 ([(⟨0, 4096⟩ : api_Span)] : List api_Span)]⟩ := by
    intro y1_48 H
    by_cases c12 : y1_48 = true
    · replace H := iT c12 H
      rw [c12]
      refine goK hT 3 (K12 1110100 0) ⟨96, [], [.box 26 (eC26 a1), .box 26 (eC26 a2), eR24 ([(⟨0, 4096⟩ : api_Span)] : List api_Span)]⟩ ?_
      obtain ⟨v7, h13, H⟩ := ibC H
      refine ak_callP (avs := []) (dst := some 49) (k' := (K12 1110100 1)) [49] [] hP enters_15 (splicelaw05_awake.says h13) (by kernel_rfl) (hands_none _) .nil (st' := ⟨96, [(49, .b v7)], [.box 26 (eC26 a1), .box 26 (eC26 a2), eR24 ([(⟨0, 4096⟩ : api_Span)] : List api_Span)]⟩) (by kernel_rfl) ?_
      refine goK hT 2 (K12 111010 1) ⟨96, [(6, .b v7)], [.box 26 (eC26 a1), .box 26 (eC26 a2), eR24 ([(⟨0, 4096⟩ : api_Span)] : List api_Span)]⟩ ?_
      obtain rfl := retC H
      exact ak_ret hf hX (av := .b v7) (by kernel_rfl) [] (sel_of_eq (by kernel_rfl)) (by decide) (by rw [h0]; rfl) (by kernel_rfl) (fun _ h => all_nil h) (.d (.v _))
    · replace H := iF c12 H
      rw [boF c12]
      refine goK hT 2 (K12 111 1) ⟨96, [(0, .d (eL47 t0 a0)), (4, .ptr 0 0 0 0), (5, .ptr 1 0 0 0), (7, .own 2 2 0 (([(⟨0, 4096⟩ : api_Span)] : List api_Span).length))], [.box 26 (eC26 a1), .box 26 (eC26 a2), eR24 ([(⟨0, 4096⟩ : api_Span)] : List api_Span)]⟩ ?_
      refine goK hT 5 (K12 11110 3) ⟨96, [(0, .d (eL47 t0 a0)), (4, .ptr 0 0 0 0), (5, .ptr 1 0 0 0), (7, .own 2 2 0 (([(⟨0, 4096⟩ : api_Span)] : List api_Span).length)), (51, .d (eL47 t0 a0)), (52, .d (eG26 a1)), (53, .own 2 2 0 (([(⟨0, 4096⟩ : api_Span)] : List api_Span).length))], [.box 26 (eC26 a1), .box 26 (eC26 a2), eR24 ([(⟨0, 4096⟩ : api_Span)] : List api_Span)]⟩ ?_
      refine ak_freeze 2 (kk := 2) (n := ([(⟨0, 4096⟩ : api_Span)] : List api_Span).length) (ty := 24) (g := vec api_Span.e api_Span.z ([(⟨0, 4096⟩ : api_Span)] : List api_Span)) (by kernel_rfl) (st' := ⟨96, [(0, .d (eL47 t0 a0)), (4, .ptr 0 0 0 0), (5, .ptr 1 0 0 0), (7, .own 2 2 0 (([(⟨0, 4096⟩ : api_Span)] : List api_Span).length)), (51, .d (eL47 t0 a0)), (52, .d (eG26 a1)), (53, .own 2 2 0 (([(⟨0, 4096⟩ : api_Span)] : List api_Span).length))], [.box 26 (eC26 a1), .box 26 (eC26 a2), eF24 ([(⟨0, 4096⟩ : api_Span)] : List api_Span)]⟩) (by kernel_rfl) ?_
      obtain ⟨v8, h14, H⟩ := ibC H
      refine ak_callP (avs := [.d (eL47 t0 a0), .d (eG26 a1), .own 2 2 0 (([(⟨0, 4096⟩ : api_Span)] : List api_Span).length)]) (dst := some 54) (k' := (K12 11110 4)) [0, 4, 5, 7, 54] [] hP enters_16 (table_Apply.says (t0 := t0) a0 a1 ([(⟨0, 4096⟩ : api_Span)] : List api_Span) h14) (by kernel_rfl) (hands_none _) (.cons (pass_d _) (.cons (pass_d _) (.cons (.lend (ty := 24) (by kernel_rfl) rfl) .nil))) (st' := ⟨96, [(0, .d (eL47 t0 a0)), (4, .ptr 0 0 0 0), (5, .ptr 1 0 0 0), (7, .own 2 2 0 (([(⟨0, 4096⟩ : api_Span)] : List api_Span).length)), (54, .tup [.own 3 2 0 v8.1.length, .b v8.2])], [.box 26 (eC26 a1), .box 26 (eC26 a2), eF24 ([(⟨0, 4096⟩ : api_Span)] : List api_Span), eR47 v8.1]⟩) (by kernel_rfl) ?_
      refine goK hT 11 (K12 111110 3) ⟨96, [(0, .d (eL47 t0 a0)), (4, .ptr 0 0 0 0), (5, .ptr 1 0 0 0), (7, .own 2 2 0 (([(⟨0, 4096⟩ : api_Span)] : List api_Span).length)), (9, .b v8.2), (58, .own 3 2 0 v8.1.length), (59, .d (eG26 a2)), (60, .own 2 2 0 (([(⟨0, 4096⟩ : api_Span)] : List api_Span).length))], [.box 26 (eC26 a1), .box 26 (eC26 a2), eF24 ([(⟨0, 4096⟩ : api_Span)] : List api_Span), eR47 v8.1]⟩ ?_
      obtain ⟨v9, h15, H⟩ := ibC H
      refine ak_callP (avs := [.own 3 2 0 v8.1.length, .d (eG26 a2), .own 2 2 0 (([(⟨0, 4096⟩ : api_Span)] : List api_Span).length)]) (dst := some 61) (k' := (K12 111110 4)) [0, 4, 5, 7, 9, 61] [] hP enters_16 (table_Apply.says (t0 := false) v8.1 a2 ([(⟨0, 4096⟩ : api_Span)] : List api_Span) h15) (by kernel_rfl) (hands_none _) (.cons (.lend (ty := 47) (by kernel_rfl) rfl) (.cons (pass_d _) (.cons (.lend (ty := 24) (by kernel_rfl) rfl) .nil))) (st' := ⟨96, [(0, .d (eL47 t0 a0)), (4, .ptr 0 0 0 0), (5, .ptr 1 0 0 0), (7, .own 2 2 0 (([(⟨0, 4096⟩ : api_Span)] : List api_Span).length)), (9, .b v8.2), (61, .tup [.own 4 2 0 v9.1.length, .b v9.2])], [.box 26 (eC26 a1), .box 26 (eC26 a2), eF24 ([(⟨0, 4096⟩ : api_Span)] : List api_Span), eR47 v8.1, eR47 v9.1]⟩) (by kernel_rfl) ?_
      refine goK hT 11 (K12 1111110 3) ⟨96, [(4, .ptr 0 0 0 0), (7, .own 2 2 0 (([(⟨0, 4096⟩ : api_Span)] : List api_Span).length)), (9, .b v8.2), (10, .own 4 2 0 v9.1.length), (11, .b v9.2), (65, .d (eL47 t0 a0)), (66, .d (eG26 a2)), (67, .own 2 2 0 (([(⟨0, 4096⟩ : api_Span)] : List api_Span).length))], [.box 26 (eC26 a1), .box 26 (eC26 a2), eF24 ([(⟨0, 4096⟩ : api_Span)] : List api_Span), eR47 v8.1, eR47 v9.1]⟩ ?_
      obtain ⟨v10, h16, H⟩ := ibC H
      refine ak_callP (avs := [.d (eL47 t0 a0), .d (eG26 a2), .own 2 2 0 (([(⟨0, 4096⟩ : api_Span)] : List api_Span).length)]) (dst := some 68) (k' := (K12 1111110 4)) [4, 7, 9, 10, 11, 68] [] hP enters_16 (table_Apply.says (t0 := t0) a0 a2 ([(⟨0, 4096⟩ : api_Span)] : List api_Span) h16) (by kernel_rfl) (hands_none _) (.cons (pass_d _) (.cons (pass_d _) (.cons (.lend (ty := 24) (by kernel_rfl) rfl) .nil))) (st' := ⟨96, [(4, .ptr 0 0 0 0), (7, .own 2 2 0 (([(⟨0, 4096⟩ : api_Span)] : List api_Span).length)), (9, .b v8.2), (10, .own 4 2 0 v9.1.length), (11, .b v9.2), (68, .tup [.own 5 2 0 v10.1.length, .b v10.2])], [.box 26 (eC26 a1), .box 26 (eC26 a2), eF24 ([(⟨0, 4096⟩ : api_Span)] : List api_Span), eR47 v8.1, eR47 v9.1, eR47 v10.1]⟩) (by kernel_rfl) ?_
      refine goK hT 11 (K12 11111110 3) ⟨96, [(9, .b v8.2), (10, .own 4 2 0 v9.1.length), (11, .b v9.2), (13, .b v10.2), (72, .own 5 2 0 v10.1.length), (73, .d (eG26 a1)), (74, .own 2 2 0 (([(⟨0, 4096⟩ : api_Span)] : List api_Span).length))], [.box 26 (eC26 a1), .box 26 (eC26 a2), eF24 ([(⟨0, 4096⟩ : api_Span)] : List api_Span), eR47 v8.1, eR47 v9.1, eR47 v10.1]⟩ ?_
      obtain ⟨v11, h17, H⟩ := ibC H
      refine ak_callP (avs := [.own 5 2 0 v10.1.length, .d (eG26 a1), .own 2 2 0 (([(⟨0, 4096⟩ : api_Span)] : List api_Span).length)]) (dst := some 75) (k' := (K12 11111110 4)) [9, 10, 11, 13, 75] [] hP enters_16 (table_Apply.says (t0 := false) v10.1 a1 ([(⟨0, 4096⟩ : api_Span)] : List api_Span) h17) (by kernel_rfl) (hands_none _) (.cons (.lend (ty := 47) (by kernel_rfl) rfl) (.cons (pass_d _) (.cons (.lend (ty := 24) (by kernel_rfl) rfl) .nil))) (st' := ⟨96, [(9, .b v8.2), (10, .own 4 2 0 v9.1.length), (11, .b v9.2), (13, .b v10.2), (75, .tup [.own 6 2 0 v11.1.length, .b v11.2])], [.box 26 (eC26 a1), .box 26 (eC26 a2), eF24 ([(⟨0, 4096⟩ : api_Span)] : List api_Span), eR47 v8.1, eR47 v9.1, eR47 v10.1, eR47 v11.1]⟩) (by kernel_rfl) ?_
      refine goK hT 8 (K12 111111110 0) ⟨96, [(9, .b v8.2), (10, .own 4 2 0 v9.1.length), (11, .b v9.2), (13, .b v10.2), (14, .own 6 2 0 v11.1.length), (15, .b v11.2)], [.box 26 (eC26 a1), .box 26 (eC26 a2), eF24 ([(⟨0, 4096⟩ : api_Span)] : List api_Span), eR47 v8.1, eR47 v9.1, eR47 v10.1, eR47 v11.1]⟩ ?_
      obtain ⟨v12, h18, H⟩ := ibC H
      have Jj2 : ∀ (y2_6 : Bool), (splicelaw05_TableFar.j2 y2_6) = some r → AK X 12 ((K12 11111111 1)) (Back X [] (.b r)) ⟨96, [(6, .b y2_6)], []⟩ := by
        intro y2_6 H
        obtain rfl := retC H
        exact ak_ret hf hX (av := .b y2_6) (by kernel_rfl) [] (sel_of_eq (by kernel_rfl)) (by decide) (by rw [h0]; rfl) (by kernel_rfl) (fun _ h => all_nil h) (.d (.v _))
      refine ak_callP (avs := []) (dst := some 78) (k' := (K12 111111110 1)) [9, 10, 11, 13, 14, 15, 78] [] hP enters_15 (splicelaw05_awake.says h18) (by kernel_rfl) (hands_none _) .nil (st' := ⟨96, [(9, .b v8.2), (10, .own 4 2 0 v9.1.length), (11, .b v9.2), (13, .b v10.2), (14, .own 6 2 0 v11.1.length), (15, .b v11.2), (78, .b v12)], [.box 26 (eC26 a1), .box 26 (eC26 a2), eF24 ([(⟨0, 4096⟩ : api_Span)] : List api_Span), eR47 v8.1, eR47 v9.1, eR47 v10.1, eR47 v11.1]⟩) (by kernel_rfl) ?_
      refine goK hT 1 (K12 111111110 2) ⟨96, [(9, .b v8.2), (10, .own 4 2 0 v9.1.length), (11, .b v9.2), (13, .b v10.2), (14, .own 6 2 0 v11.1.length), (15, .b v11.2), (79, .b v12)], [.box 26 (eC26 a1), .box 26 (eC26 a2), eF24 ([(⟨0, 4096⟩ : api_Span)] : List api_Span), eR47 v8.1, eR47 v9.1, eR47 v10.1, eR47 v11.1]⟩ ?_
      by_cases c19 : v12 = true
      · replace H := iT c19 H
        rw [c19]
        refine goK hT 5 (K12 111111110 7) ⟨96, [(10, .own 4 2 0 v9.1.length), (11, .b v9.2), (13, .b v10.2), (14, .own 6 2 0 v11.1.length), (84, .b (v8.2 == v11.2))], [.box 26 (eC26 a1), .box 26 (eC26 a2), eF24 ([(⟨0, 4096⟩ : api_Span)] : List api_Span), eR47 v8.1, eR47 v9.1, eR47 v10.1, eR47 v11.1]⟩ ?_
        by_cases c20 : v8.2 = true
        · replace H := iT c20 H
          rw [c20]
          by_cases c21 : v11.2 = true
          · replace H := iT c21 H
            rw [c21]
            refine goK hT 5 (K12 111111110 12) ⟨96, [(10, .own 4 2 0 v9.1.length), (14, .own 6 2 0 v11.1.length), (89, .b (v9.2 == v10.2))], [.box 26 (eC26 a1), .box 26 (eC26 a2), eF24 ([(⟨0, 4096⟩ : api_Span)] : List api_Span), eR47 v8.1, eR47 v9.1, eR47 v10.1, eR47 v11.1]⟩ ?_
            by_cases c22 : v9.2 = true
            · replace H := iT c22 H
              rw [c22]
              by_cases c23 : v10.2 = true
              · replace H := iT c23 H
                rw [c23]
                refine goK hT 1 (K12 111111110 13) ⟨96, [(14, .own 6 2 0 v11.1.length), (89, .b true), (90, .own 4 2 0 v9.1.length)], [.box 26 (eC26 a1), .box 26 (eC26 a2), eF24 ([(⟨0, 4096⟩ : api_Span)] : List api_Span), eR47 v8.1, eR47 v9.1, eR47 v10.1, eR47 v11.1]⟩ ?_
                obtain ⟨v13, h24, H⟩ := ibC H
                refine ak_callP (avs := [.own 4 2 0 v9.1.length]) (dst := some 91) (k' := (K12 111111110 14)) [14, 89, 91] [] hP enters_18 (splicelaw05_Refs.says (t0 := false) v9.1 h24) (by kernel_rfl) (hands_none _) (.cons (.lend (ty := 47) (by kernel_rfl) rfl) .nil) (st' := ⟨96, [(14, .own 6 2 0 v11.1.length), (89, .b true), (91, .own 7 2 0 v13.length)], [.box 26 (eC26 a1), .box 26 (eC26 a2), eF24 ([(⟨0, 4096⟩ : api_Span)] : List api_Span), eR47 v8.1, eR47 v9.1, eR47 v10.1, eR47 v11.1, eR90 v13]⟩) (by kernel_rfl) ?_
                refine goK hT 1 (K12 111111110 15) ⟨96, [(89, .b true), (91, .own 7 2 0 v13.length), (92, .own 6 2 0 v11.1.length)], [.box 26 (eC26 a1), .box 26 (eC26 a2), eF24 ([(⟨0, 4096⟩ : api_Span)] : List api_Span), eR47 v8.1, eR47 v9.1, eR47 v10.1, eR47 v11.1, eR90 v13]⟩ ?_
                obtain ⟨v14, h25, H⟩ := ibC H
                refine ak_callP (avs := [.own 6 2 0 v11.1.length]) (dst := some 93) (k' := (K12 111111110 16)) [89, 91, 93] [] hP enters_18 (splicelaw05_Refs.says (t0 := false) v11.1 h25) (by kernel_rfl) (hands_none _) (.cons (.lend (ty := 47) (by kernel_rfl) rfl) .nil) (st' := ⟨96, [(89, .b true), (91, .own 7 2 0 v13.length), (93, .own 8 2 0 v14.length)], [.box 26 (eC26 a1), .box 26 (eC26 a2), eF24 ([(⟨0, 4096⟩ : api_Span)] : List api_Span), eR47 v8.1, eR47 v9.1, eR47 v10.1, eR47 v11.1, eR90 v13, eR90 v14]⟩) (by kernel_rfl) ?_
                obtain ⟨v15, h26, H⟩ := ibC H
                refine ak_callP (avs := [.own 7 2 0 v13.length, .own 8 2 0 v14.length]) (dst := some 94) (k' := (K12 111111110 17)) [89, 94] [] hP enters_21 (spliceref05_Same.says (t0 := false) (t1 := false) v13 v14 h26) (by kernel_rfl) (hands_none _) (.cons (.lend (ty := 90) (by kernel_rfl) rfl) (.cons (.lend (ty := 90) (by kernel_rfl) rfl) .nil)) (st' := ⟨96, [(89, .b true), (94, .b v15)], [.box 26 (eC26 a1), .box 26 (eC26 a2), eF24 ([(⟨0, 4096⟩ : api_Span)] : List api_Span), eR47 v8.1, eR47 v9.1, eR47 v10.1, eR47 v11.1, eR90 v13, eR90 v14]⟩) (by kernel_rfl) ?_
                refine goK hT 3 (K12 11111111 1) ⟨96, [(6, .b v15)], [.box 26 (eC26 a1), .box 26 (eC26 a2), eF24 ([(⟨0, 4096⟩ : api_Span)] : List api_Span), eR47 v8.1, eR47 v9.1, eR47 v10.1, eR47 v11.1, eR90 v13, eR90 v14]⟩ ?_
                refine cutK [] ⟨96, [(6, .b v15)], []⟩ h0 ?_
                exact Jj2 v15 H
              · replace H := iF c23 H
                rw [boF c23]
                refine goK hT 8 (K12 11111111 1) ⟨96, [(6, .b false)], [.box 26 (eC26 a1), .box 26 (eC26 a2), eF24 ([(⟨0, 4096⟩ : api_Span)] : List api_Span), eR47 v8.1, eR47 v9.1, eR47 v10.1, eR47 v11.1]⟩ ?_
                refine cutK [] ⟨96, [(6, .b false)], []⟩ h0 ?_
                exact Jj2 false H
            · replace H := iF c22 H
              rw [boF c22]
              by_cases c27 : v10.2 = true
              · replace H := iT c27 H
                rw [c27]
                refine goK hT 8 (K12 11111111 1) ⟨96, [(6, .b false)], [.box 26 (eC26 a1), .box 26 (eC26 a2), eF24 ([(⟨0, 4096⟩ : api_Span)] : List api_Span), eR47 v8.1, eR47 v9.1, eR47 v10.1, eR47 v11.1]⟩ ?_
                refine cutK [] ⟨96, [(6, .b false)], []⟩ h0 ?_
                exact Jj2 false H
              · replace H := iF c27 H
                rw [boF c27]
                refine goK hT 1 (K12 111111110 13) ⟨96, [(14, .own 6 2 0 v11.1.length), (89, .b true), (90, .own 4 2 0 v9.1.length)], [.box 26 (eC26 a1), .box 26 (eC26 a2), eF24 ([(⟨0, 4096⟩ : api_Span)] : List api_Span), eR47 v8.1, eR47 v9.1, eR47 v10.1, eR47 v11.1]⟩ ?_
                obtain ⟨v16, h28, H⟩ := ibC H
                refine ak_callP (avs := [.own 4 2 0 v9.1.length]) (dst := some 91) (k' := (K12 111111110 14)) [14, 89, 91] [] hP enters_18 (splicelaw05_Refs.says (t0 := false) v9.1 h28) (by kernel_rfl) (hands_none _) (.cons (.lend (ty := 47) (by kernel_rfl) rfl) .nil) (st' := ⟨96, [(14, .own 6 2 0 v11.1.length), (89, .b true), (91, .own 7 2 0 v16.length)], [.box 26 (eC26 a1), .box 26 (eC26 a2), eF24 ([(⟨0, 4096⟩ : api_Span)] : List api_Span), eR47 v8.1, eR47 v9.1, eR47 v10.1, eR47 v11.1, eR90 v16]⟩) (by kernel_rfl) ?_
                refine goK hT 1 (K12 111111110 15) ⟨96, [(89, .b true), (91, .own 7 2 0 v16.length), (92, .own 6 2 0 v11.1.length)], [.box 26 (eC26 a1), .box 26 (eC26 a2), eF24 ([(⟨0, 4096⟩ : api_Span)] : List api_Span), eR47 v8.1, eR47 v9.1, eR47 v10.1, eR47 v11.1, eR90 v16]⟩ ?_
                obtain ⟨v17, h29, H⟩ := ibC H
                refine ak_callP (avs := [.own 6 2 0 v11.1.length]) (dst := some 93) (k' := (K12 111111110 16)) [89, 91, 93] [] hP enters_18 (splicelaw05_Refs.says (t0 := false) v11.1 h29) (by kernel_rfl) (hands_none _) (.cons (.lend (ty := 47) (by kernel_rfl) rfl) .nil) (st' := ⟨96, [(89, .b true), (91, .own 7 2 0 v16.length), (93, .own 8 2 0 v17.length)], [.box 26 (eC26 a1), .box 26 (eC26 a2), eF24 ([(⟨0, 4096⟩ : api_Span)] : List api_Span), eR47 v8.1, eR47 v9.1, eR47 v10.1, eR47 v11.1, eR90 v16, eR90 v17]⟩) (by kernel_rfl) ?_
                obtain ⟨v18, h30, H⟩ := ibC H
                refine ak_callP (avs := [.own 7 2 0 v16.length, .own 8 2 0 v17.length]) (dst := some 94) (k' := (K12 111111110 17)) [89, 94] [] hP enters_21 (spliceref05_Same.says (t0 := false) (t1 := false) v16 v17 h30) (by kernel_rfl) (hands_none _) (.cons (.lend (ty := 90) (by kernel_rfl) rfl) (.cons (.lend (ty := 90) (by kernel_rfl) rfl) .nil)) (st' := ⟨96, [(89, .b true), (94, .b v18)], [.box 26 (eC26 a1), .box 26 (eC26 a2), eF24 ([(⟨0, 4096⟩ : api_Span)] : List api_Span), eR47 v8.1, eR47 v9.1, eR47 v10.1, eR47 v11.1, eR90 v16, eR90 v17]⟩) (by kernel_rfl) ?_
                refine goK hT 3 (K12 11111111 1) ⟨96, [(6, .b v18)], [.box 26 (eC26 a1), .box 26 (eC26 a2), eF24 ([(⟨0, 4096⟩ : api_Span)] : List api_Span), eR47 v8.1, eR47 v9.1, eR47 v10.1, eR47 v11.1, eR90 v16, eR90 v17]⟩ ?_
                refine cutK [] ⟨96, [(6, .b v18)], []⟩ h0 ?_
                exact Jj2 v18 H
          · replace H := iF c21 H
            rw [boF c21]
            refine goK hT 13 (K12 11111111 1) ⟨96, [(6, .b false)], [.box 26 (eC26 a1), .box 26 (eC26 a2), eF24 ([(⟨0, 4096⟩ : api_Span)] : List api_Span), eR47 v8.1, eR47 v9.1, eR47 v10.1, eR47 v11.1]⟩ ?_
            refine cutK [] ⟨96, [(6, .b false)], []⟩ h0 ?_
            exact Jj2 false H
        · replace H := iF c20 H
          rw [boF c20]
          by_cases c31 : v11.2 = true
          · replace H := iT c31 H
            rw [c31]
            refine goK hT 13 (K12 11111111 1) ⟨96, [(6, .b false)], [.box 26 (eC26 a1), .box 26 (eC26 a2), eF24 ([(⟨0, 4096⟩ : api_Span)] : List api_Span), eR47 v8.1, eR47 v9.1, eR47 v10.1, eR47 v11.1]⟩ ?_
            refine cutK [] ⟨96, [(6, .b false)], []⟩ h0 ?_
            exact Jj2 false H
          · replace H := iF c31 H
            rw [boF c31]
            refine goK hT 5 (K12 111111110 12) ⟨96, [(10, .own 4 2 0 v9.1.length), (14, .own 6 2 0 v11.1.length), (89, .b (v9.2 == v10.2))], [.box 26 (eC26 a1), .box 26 (eC26 a2), eF24 ([(⟨0, 4096⟩ : api_Span)] : List api_Span), eR47 v8.1, eR47 v9.1, eR47 v10.1, eR47 v11.1]⟩ ?_
            by_cases c32 : v9.2 = true
            · replace H := iT c32 H
              rw [c32]
              by_cases c33 : v10.2 = true
              · replace H := iT c33 H
                rw [c33]
                refine goK hT 1 (K12 111111110 13) ⟨96, [(14, .own 6 2 0 v11.1.length), (89, .b true), (90, .own 4 2 0 v9.1.length)], [.box 26 (eC26 a1), .box 26 (eC26 a2), eF24 ([(⟨0, 4096⟩ : api_Span)] : List api_Span), eR47 v8.1, eR47 v9.1, eR47 v10.1, eR47 v11.1]⟩ ?_
                obtain ⟨v19, h34, H⟩ := ibC H
                refine ak_callP (avs := [.own 4 2 0 v9.1.length]) (dst := some 91) (k' := (K12 111111110 14)) [14, 89, 91] [] hP enters_18 (splicelaw05_Refs.says (t0 := false) v9.1 h34) (by kernel_rfl) (hands_none _) (.cons (.lend (ty := 47) (by kernel_rfl) rfl) .nil) (st' := ⟨96, [(14, .own 6 2 0 v11.1.length), (89, .b true), (91, .own 7 2 0 v19.length)], [.box 26 (eC26 a1), .box 26 (eC26 a2), eF24 ([(⟨0, 4096⟩ : api_Span)] : List api_Span), eR47 v8.1, eR47 v9.1, eR47 v10.1, eR47 v11.1, eR90 v19]⟩) (by kernel_rfl) ?_
                refine goK hT 1 (K12 111111110 15) ⟨96, [(89, .b true), (91, .own 7 2 0 v19.length), (92, .own 6 2 0 v11.1.length)], [.box 26 (eC26 a1), .box 26 (eC26 a2), eF24 ([(⟨0, 4096⟩ : api_Span)] : List api_Span), eR47 v8.1, eR47 v9.1, eR47 v10.1, eR47 v11.1, eR90 v19]⟩ ?_
                obtain ⟨v20, h35, H⟩ := ibC H
                refine ak_callP (avs := [.own 6 2 0 v11.1.length]) (dst := some 93) (k' := (K12 111111110 16)) [89, 91, 93] [] hP enters_18 (splicelaw05_Refs.says (t0 := false) v11.1 h35) (by kernel_rfl) (hands_none _) (.cons (.lend (ty := 47) (by kernel_rfl) rfl) .nil) (st' := ⟨96, [(89, .b true), (91, .own 7 2 0 v19.length), (93, .own 8 2 0 v20.length)], [.box 26 (eC26 a1), .box 26 (eC26 a2), eF24 ([(⟨0, 4096⟩ : api_Span)] : List api_Span), eR47 v8.1, eR47 v9.1, eR47 v10.1, eR47 v11.1, eR90 v19, eR90 v20]⟩) (by kernel_rfl) ?_
                obtain ⟨v21, h36, H⟩ := ibC H
                refine ak_callP (avs := [.own 7 2 0 v19.length, .own 8 2 0 v20.length]) (dst := some 94) (k' := (K12 111111110 17)) [89, 94] [] hP enters_21 (spliceref05_Same.says (t0 := false) (t1 := false) v19 v20 h36) (by kernel_rfl) (hands_none _) (.cons (.lend (ty := 90) (by kernel_rfl) rfl) (.cons (.lend (ty := 90) (by kernel_rfl) rfl) .nil)) (st' := ⟨96, [(89, .b true), (94, .b v21)], [.box 26 (eC26 a1), .box 26 (eC26 a2), eF24 ([(⟨0, 4096⟩ : api_Span)] : List api_Span), eR47 v8.1, eR47 v9.1, eR47 v10.1, eR47 v11.1, eR90 v19, eR90 v20]⟩) (by kernel_rfl) ?_
                refine goK hT 3 (K12 11111111 1) ⟨96, [(6, .b v21)], [.box 26 (eC26 a1), .box 26 (eC26 a2), eF24 ([(⟨0, 4096⟩ : api_Span)] : List api_Span), eR47 v8.1, eR47 v9.1, eR47 v10.1, eR47 v11.1, eR90 v19, eR90 v20]⟩ ?_
                refine cutK [] ⟨96, [(6, .b v21)], []⟩ h0 ?_
                exact Jj2 v21 H
              · replace H := iF c33 H
                rw [boF c33]
                refine goK hT 8 (K12 11111111 1) ⟨96, [(6, .b false)], [.box 26 (eC26 a1), .box 26 (eC26 a2), eF24 ([(⟨0, 4096⟩ : api_Span)] : List api_Span), eR47 v8.1, eR47 v9.1, eR47 v10.1, eR47 v11.1]⟩ ?_
                refine cutK [] ⟨96, [(6, .b false)], []⟩ h0 ?_
                exact Jj2 false H
            · replace H := iF c32 H
              rw [boF c32]
              by_cases c37 : v10.2 = true
              · replace H := iT c37 H
                rw [c37]
                refine goK hT 8 (K12 11111111 1) ⟨96, [(6, .b false)], [.box 26 (eC26 a1), .box 26 (eC26 a2), eF24 ([(⟨0, 4096⟩ : api_Span)] : List api_Span), eR47 v8.1, eR47 v9.1, eR47 v10.1, eR47 v11.1]⟩ ?_
                refine cutK [] ⟨96, [(6, .b false)], []⟩ h0 ?_
                exact Jj2 false H
              · replace H := iF c37 H
                rw [boF c37]
                refine goK hT 1 (K12 111111110 13) ⟨96, [(14, .own 6 2 0 v11.1.length), (89, .b true), (90, .own 4 2 0 v9.1.length)], [.box 26 (eC26 a1), .box 26 (eC26 a2), eF24 ([(⟨0, 4096⟩ : api_Span)] : List api_Span), eR47 v8.1, eR47 v9.1, eR47 v10.1, eR47 v11.1]⟩ ?_
                obtain ⟨v22, h38, H⟩ := ibC H
                refine ak_callP (avs := [.own 4 2 0 v9.1.length]) (dst := some 91) (k' := (K12 111111110 14)) [14, 89, 91] [] hP enters_18 (splicelaw05_Refs.says (t0 := false) v9.1 h38) (by kernel_rfl) (hands_none _) (.cons (.lend (ty := 47) (by kernel_rfl) rfl) .nil) (st' := ⟨96, [(14, .own 6 2 0 v11.1.length), (89, .b true), (91, .own 7 2 0 v22.length)], [.box 26 (eC26 a1), .box 26 (eC26 a2), eF24 ([(⟨0, 4096⟩ : api_Span)] : List api_Span), eR47 v8.1, eR47 v9.1, eR47 v10.1, eR47 v11.1, eR90 v22]⟩) (by kernel_rfl) ?_
                refine goK hT 1 (K12 111111110 15) ⟨96, [(89, .b true), (91, .own 7 2 0 v22.length), (92, .own 6 2 0 v11.1.length)], [.box 26 (eC26 a1), .box 26 (eC26 a2), eF24 ([(⟨0, 4096⟩ : api_Span)] : List api_Span), eR47 v8.1, eR47 v9.1, eR47 v10.1, eR47 v11.1, eR90 v22]⟩ ?_
                obtain ⟨v23, h39, H⟩ := ibC H
                refine ak_callP (avs := [.own 6 2 0 v11.1.length]) (dst := some 93) (k' := (K12 111111110 16)) [89, 91, 93] [] hP enters_18 (splicelaw05_Refs.says (t0 := false) v11.1 h39) (by kernel_rfl) (hands_none _) (.cons (.lend (ty := 47) (by kernel_rfl) rfl) .nil) (st' := ⟨96, [(89, .b true), (91, .own 7 2 0 v22.length), (93, .own 8 2 0 v23.length)], [.box 26 (eC26 a1), .box 26 (eC26 a2), eF24 ([(⟨0, 4096⟩ : api_Span)] : List api_Span), eR47 v8.1, eR47 v9.1, eR47 v10.1, eR47 v11.1, eR90 v22, eR90 v23]⟩) (by kernel_rfl) ?_
                obtain ⟨v24, h40, H⟩ := ibC H
                refine ak_callP (avs := [.own 7 2 0 v22.length, .own 8 2 0 v23.length]) (dst := some 94) (k' := (K12 111111110 17)) [89, 94] [] hP enters_21 (spliceref05_Same.says (t0 := false) (t1 := false) v22 v23 h40) (by kernel_rfl) (hands_none _) (.cons (.lend (ty := 90) (by kernel_rfl) rfl) (.cons (.lend (ty := 90) (by kernel_rfl) rfl) .nil)) (st' := ⟨96, [(89, .b true), (94, .b v24)], [.box 26 (eC26 a1), .box 26 (eC26 a2), eF24 ([(⟨0, 4096⟩ : api_Span)] : List api_Span), eR47 v8.1, eR47 v9.1, eR47 v10.1, eR47 v11.1, eR90 v22, eR90 v23]⟩) (by kernel_rfl) ?_
                refine goK hT 3 (K12 11111111 1) ⟨96, [(6, .b v24)], [.box 26 (eC26 a1), .box 26 (eC26 a2), eF24 ([(⟨0, 4096⟩ : api_Span)] : List api_Span), eR47 v8.1, eR47 v9.1, eR47 v10.1, eR47 v11.1, eR90 v22, eR90 v23]⟩ ?_
                refine cutK [] ⟨96, [(6, .b v24)], []⟩ h0 ?_
                exact Jj2 v24 H
      · replace H := iF c19 H
        rw [boF c19]
        refine goK hT 18 (K12 11111111 1) ⟨96, [(6, .b false)], [.box 26 (eC26 a1), .box 26 (eC26 a2), eF24 ([(⟨0, 4096⟩ : api_Span)] : List api_Span), eR47 v8.1, eR47 v9.1, eR47 v10.1, eR47 v11.1]⟩ ?_
        refine cutK [] ⟨96, [(6, .b false)], []⟩ h0 ?_
        exact Jj2 false H
  refine goK hT 14 (K12 1110 0) ⟨96, [(0, .d (eL47 t0 a0)), (4, .ptr 0 0 0 0), (5, .ptr 1 0 0 0), (7, .own 2 2 0 1)], [.box 26 (eC26 a1), .box 26 (eC26 a2), .flat false 2 24 1 (fun j => [[.i 0, .i 4096]].getD j [])]⟩ ?_
  by_cases c1 : (splicelaw05_few a0 a1 ([] : List api_Span)) = true
  · replace H := iT c1 H
    by_cases c2 : (splicelaw05_few ([] : List api_Pair) a2 ([] : List api_Span)) = true
    · replace H := iT c2 H
      obtain ⟨v1, h3, H⟩ := ibC H
      by_cases c4 : v1 = true
      · replace H := iT c4 H
        obtain ⟨v2, h5, H⟩ := ibC H
        by_cases c6 : v2 = true
        · replace H := iT c6 H
          obtain ⟨v3, h7, H⟩ := ibC H
          by_cases c8 : v3 = true
          · replace H := iT c8 H
            obtain ⟨v4, h9, H⟩ := ibC H
            obtain ⟨v5, h10, H⟩ := ibC H
            obtain ⟨v6, h11, H⟩ := ibC H
            refine drawK (hP ▸ mixed) 31 [0, 4, 5, 7] [some (.d (eL47 t0 a0)), some (.d (eG26 a1)), some (.b true), some (.b false), some (.b false), some (.d (eG26 a2)), some (.b true), some (.b false), some (.b false), some (.b false), some (.d (eL47 t0 a0)), some (.b true), some (.b false), some (.b false), some (.b false), some (.d (eG26 a1)), some (.b true), some (.b false), some (.b false), some (.b false), some (.d (eG26 a2)), some (.b true), some (.b false), some (.b false), some (.b false), some (.d (eG26 a1)), some (.d (eL24 true v4)), some (.d (eG26 a2)), some (.d (eL24 true v5)), some (.b v6), some (.b v6)] (opG (opS (opS (opG (opS (opG (opG (opG (opG (opS (opG (opG (opG (opG (opS (opG (opG (opG (opG (opS (opG (opG (opG (opG (opS (opG (opG (opG (opS (opG (opG op0 hT) hT) (fun R rest h => ak_callD (avs := [.d (eL47 t0 a0), .d (eG26 a1), .ns]) (dst := some 20) hP enters_14 (by have q := splicelaw05_few.says (t0 := t0) (t2 := true) a0 a1 ([] : List api_Span); rw [c1] at q; exact q) (by kernel_rfl) (.cons (pass_d _) (.cons (pass_d _) (.cons (.nil _ _) .nil))) (by kernel_rfl) h)) hT) hT) hT) (fun R rest h => ak_callD (avs := [.ns, .d (eG26 a2), .ns]) (dst := some 24) hP enters_14 (by have q := splicelaw05_few.says (t0 := true) (t2 := true) ([] : List api_Pair) a2 ([] : List api_Span); rw [c2] at q; exact q) (by kernel_rfl) (.cons (.nil _ _) (.cons (pass_d _) (.cons (.nil _ _) .nil))) (by kernel_rfl) h)) hT) hT) hT) hT) (fun R rest h => ak_callD (avs := [.d (eL47 t0 a0)]) (dst := some 29) hP enters_22 (by have q := table_Check.says (t0 := t0) a0 h3; rw [c4] at q; exact q) (by kernel_rfl) (.cons (pass_d _) .nil) (by kernel_rfl) h)) hT) hT) hT) hT) (fun R rest h => ak_callD (avs := [.d (eG26 a1)]) (dst := some 34) hP enters_23 (by have q := mut_Check.says a1 h5; rw [c6] at q; exact q) (by kernel_rfl) (.cons (pass_d _) .nil) (by kernel_rfl) h)) hT) hT) hT) hT) (fun R rest h => ak_callD (avs := [.d (eG26 a2)]) (dst := some 39) hP enters_23 (by have q := mut_Check.says a2 h7; rw [c8] at q; exact q) (by kernel_rfl) (.cons (pass_d _) .nil) (by kernel_rfl) h)) hT) hT) hT) hT) (fun R rest h => ak_callD (avs := [.d (eG26 a1)]) (dst := some 44) hP enters_40 (mut_Touch.says a1 h9) (by kernel_rfl) (.cons (pass_d _) .nil) (by kernel_rfl) h)) hT) (fun R rest h => ak_callD (avs := [.d (eG26 a2)]) (dst := some 46) hP enters_40 (mut_Touch.says a2 h10) (by kernel_rfl) (.cons (pass_d _) .nil) (by kernel_rfl) h)) (fun R rest h => ak_callD (avs := [.d (eL24 true v4), .d (eL24 true v5)]) (dst := some 47) hP enters_39 (span_Touch.says (t0 := true) (t1 := true) v4 v5 h11) (by kernel_rfl) (.cons (pass_d _) (.cons (pass_d _) .nil)) (by kernel_rfl) h)) hT) ?_
            refine goK hT 1 (K12 1110 1) ⟨96, [(0, .d (eL47 t0 a0)), (4, .ptr 0 0 0 0), (5, .ptr 1 0 0 0), (7, .own 2 2 0 1), (48, .b v6)], [.box 26 (eC26 a1), .box 26 (eC26 a2), .flat false 2 24 1 (fun j => [[.i 0, .i 4096]].getD j [])]⟩ ?_
            refine ak_row 2 (kk := 2) (fz := false) (ty := 24) (n := ([(⟨0, 4096⟩ : api_Span)] : List api_Span).length) (vec api_Span.e api_Span.z ([(⟨0, 4096⟩ : api_Span)] : List api_Span)) (by kernel_rfl) vec_lit (st' := ⟨96, [(0, .d (eL47 t0 a0)), (4, .ptr 0 0 0 0), (5, .ptr 1 0 0 0), (7, .own 2 2 0 (([(⟨0, 4096⟩ : api_Span)] : List api_Span).length)), (48, .b v6)], [.box 26 (eC26 a1), .box 26 (eC26 a2), eR24 ([(⟨0, 4096⟩ : api_Span)] : List api_Span)]⟩) (by kernel_rfl) ?_
            refine cutK [0, 1, 2] ⟨96, [(0, .d (eL47 t0 a0)), (4, .ptr 0 0 0 0), (5, .ptr 1 0 0 0), (7, .own 2 2 0 (([(⟨0, 4096⟩ : api_Span)] : List api_Span).length)), (48, .b v6)], [.box 26 (eC26 a1), .box 26 (eC26 a2), eR24 ([(⟨0, 4096⟩ : api_Span)] : List api_Span)]⟩ h0 ?_
            exact Jj1 v6 H
          · replace H := iF c8 H
            refine drawK (hP ▸ mixed) 31 [0, 4, 5, 7] [some (.d (eL47 t0 a0)), some (.d (eG26 a1)), some (.b true), some (.b false), some (.b false), some (.d (eG26 a2)), some (.b true), some (.b false), some (.b false), some (.b false), some (.d (eL47 t0 a0)), some (.b true), some (.b false), some (.b false), some (.b false), some (.d (eG26 a1)), some (.b true), some (.b false), some (.b false), some (.b false), some (.d (eG26 a2)), some (.b false), some (.b true), some (.b true), some (.b true), some (.tup []), some (.tup []), some (.tup []), some (.tup []), some (.tup []), some (.b true)] (opG (opG (opG (opG (opG (opG (opG (opG (opG (opS (opG (opG (opG (opG (opS (opG (opG (opG (opG (opS (opG (opG (opG (opG (opS (opG (opG (opG (opS (opG (opG op0 hT) hT) (fun R rest h => ak_callD (avs := [.d (eL47 t0 a0), .d (eG26 a1), .ns]) (dst := some 20) hP enters_14 (by have q := splicelaw05_few.says (t0 := t0) (t2 := true) a0 a1 ([] : List api_Span); rw [c1] at q; exact q) (by kernel_rfl) (.cons (pass_d _) (.cons (pass_d _) (.cons (.nil _ _) .nil))) (by kernel_rfl) h)) hT) hT) hT) (fun R rest h => ak_callD (avs := [.ns, .d (eG26 a2), .ns]) (dst := some 24) hP enters_14 (by have q := splicelaw05_few.says (t0 := true) (t2 := true) ([] : List api_Pair) a2 ([] : List api_Span); rw [c2] at q; exact q) (by kernel_rfl) (.cons (.nil _ _) (.cons (pass_d _) (.cons (.nil _ _) .nil))) (by kernel_rfl) h)) hT) hT) hT) hT) (fun R rest h => ak_callD (avs := [.d (eL47 t0 a0)]) (dst := some 29) hP enters_22 (by have q := table_Check.says (t0 := t0) a0 h3; rw [c4] at q; exact q) (by kernel_rfl) (.cons (pass_d _) .nil) (by kernel_rfl) h)) hT) hT) hT) hT) (fun R rest h => ak_callD (avs := [.d (eG26 a1)]) (dst := some 34) hP enters_23 (by have q := mut_Check.says a1 h5; rw [c6] at q; exact q) (by kernel_rfl) (.cons (pass_d _) .nil) (by kernel_rfl) h)) hT) hT) hT) hT) (fun R rest h => ak_callD (avs := [.d (eG26 a2)]) (dst := some 39) hP enters_23 (by have q := mut_Check.says a2 h7; rw [boF c8] at q; exact q) (by kernel_rfl) (.cons (pass_d _) .nil) (by kernel_rfl) h)) hT) hT) hT) hT) hT) hT) hT) hT) hT) ?_
            refine goK hT 1 (K12 1110 1) ⟨96, [(0, .d (eL47 t0 a0)), (4, .ptr 0 0 0 0), (5, .ptr 1 0 0 0), (7, .own 2 2 0 1), (48, .b true)], [.box 26 (eC26 a1), .box 26 (eC26 a2), .flat false 2 24 1 (fun j => [[.i 0, .i 4096]].getD j [])]⟩ ?_
            refine ak_row 2 (kk := 2) (fz := false) (ty := 24) (n := ([(⟨0, 4096⟩ : api_Span)] : List api_Span).length) (vec api_Span.e api_Span.z ([(⟨0, 4096⟩ : api_Span)] : List api_Span)) (by kernel_rfl) vec_lit (st' := ⟨96, [(0, .d (eL47 t0 a0)), (4, .ptr 0 0 0 0), (5, .ptr 1 0 0 0), (7, .own 2 2 0 (([(⟨0, 4096⟩ : api_Span)] : List api_Span).length)), (48, .b true)], [.box 26 (eC26 a1), .box 26 (eC26 a2), eR24 ([(⟨0, 4096⟩ : api_Span)] : List api_Span)]⟩) (by kernel_rfl) ?_
            refine cutK [0, 1, 2] ⟨96, [(0, .d (eL47 t0 a0)), (4, .ptr 0 0 0 0), (5, .ptr 1 0 0 0), (7, .own 2 2 0 (([(⟨0, 4096⟩ : api_Span)] : List api_Span).length)), (48, .b true)], [.box 26 (eC26 a1), .box 26 (eC26 a2), eR24 ([(⟨0, 4096⟩ : api_Span)] : List api_Span)]⟩ h0 ?_
            exact Jj1 true H
        · replace H := iF c6 H
          refine drawK (hP ▸ mixed) 31 [0, 4, 5, 7] [some (.d (eL47 t0 a0)), some (.d (eG26 a1)), some (.b true), some (.b false), some (.b false), some (.d (eG26 a2)), some (.b true), some (.b false), some (.b false), some (.b false), some (.d (eL47 t0 a0)), some (.b true), some (.b false), some (.b false), some (.b false), some (.d (eG26 a1)), some (.b false), some (.b true), some (.b true), some (.b true), some (.tup []), some (.tup []), some (.tup []), some (.b true), some (.b true), some (.tup []), some (.tup []), some (.tup []), some (.tup []), some (.tup []), some (.b true)] (opG (opG (opG (opG (opG (opG (opG (opG (opG (opG (opG (opG (opG (opG (opS (opG (opG (opG (opG (opS (opG (opG (opG (opG (opS (opG (opG (opG (opS (opG (opG op0 hT) hT) (fun R rest h => ak_callD (avs := [.d (eL47 t0 a0), .d (eG26 a1), .ns]) (dst := some 20) hP enters_14 (by have q := splicelaw05_few.says (t0 := t0) (t2 := true) a0 a1 ([] : List api_Span); rw [c1] at q; exact q) (by kernel_rfl) (.cons (pass_d _) (.cons (pass_d _) (.cons (.nil _ _) .nil))) (by kernel_rfl) h)) hT) hT) hT) (fun R rest h => ak_callD (avs := [.ns, .d (eG26 a2), .ns]) (dst := some 24) hP enters_14 (by have q := splicelaw05_few.says (t0 := true) (t2 := true) ([] : List api_Pair) a2 ([] : List api_Span); rw [c2] at q; exact q) (by kernel_rfl) (.cons (.nil _ _) (.cons (pass_d _) (.cons (.nil _ _) .nil))) (by kernel_rfl) h)) hT) hT) hT) hT) (fun R rest h => ak_callD (avs := [.d (eL47 t0 a0)]) (dst := some 29) hP enters_22 (by have q := table_Check.says (t0 := t0) a0 h3; rw [c4] at q; exact q) (by kernel_rfl) (.cons (pass_d _) .nil) (by kernel_rfl) h)) hT) hT) hT) hT) (fun R rest h => ak_callD (avs := [.d (eG26 a1)]) (dst := some 34) hP enters_23 (by have q := mut_Check.says a1 h5; rw [boF c6] at q; exact q) (by kernel_rfl) (.cons (pass_d _) .nil) (by kernel_rfl) h)) hT) hT) hT) hT) hT) hT) hT) hT) hT) hT) hT) hT) hT) hT) ?_
          refine goK hT 1 (K12 1110 1) ⟨96, [(0, .d (eL47 t0 a0)), (4, .ptr 0 0 0 0), (5, .ptr 1 0 0 0), (7, .own 2 2 0 1), (48, .b true)], [.box 26 (eC26 a1), .box 26 (eC26 a2), .flat false 2 24 1 (fun j => [[.i 0, .i 4096]].getD j [])]⟩ ?_
          refine ak_row 2 (kk := 2) (fz := false) (ty := 24) (n := ([(⟨0, 4096⟩ : api_Span)] : List api_Span).length) (vec api_Span.e api_Span.z ([(⟨0, 4096⟩ : api_Span)] : List api_Span)) (by kernel_rfl) vec_lit (st' := ⟨96, [(0, .d (eL47 t0 a0)), (4, .ptr 0 0 0 0), (5, .ptr 1 0 0 0), (7, .own 2 2 0 (([(⟨0, 4096⟩ : api_Span)] : List api_Span).length)), (48, .b true)], [.box 26 (eC26 a1), .box 26 (eC26 a2), eR24 ([(⟨0, 4096⟩ : api_Span)] : List api_Span)]⟩) (by kernel_rfl) ?_
          refine cutK [0, 1, 2] ⟨96, [(0, .d (eL47 t0 a0)), (4, .ptr 0 0 0 0), (5, .ptr 1 0 0 0), (7, .own 2 2 0 (([(⟨0, 4096⟩ : api_Span)] : List api_Span).length)), (48, .b true)], [.box 26 (eC26 a1), .box 26 (eC26 a2), eR24 ([(⟨0, 4096⟩ : api_Span)] : List api_Span)]⟩ h0 ?_
          exact Jj1 true H
      · replace H := iF c4 H
        refine drawK (hP ▸ mixed) 31 [0, 4, 5, 7] [some (.d (eL47 t0 a0)), some (.d (eG26 a1)), some (.b true), some (.b false), some (.b false), some (.d (eG26 a2)), some (.b true), some (.b false), some (.b false), some (.b false), some (.d (eL47 t0 a0)), some (.b false), some (.b true), some (.b true), some (.b true), some (.tup []), some (.tup []), some (.tup []), some (.b true), some (.b true), some (.tup []), some (.tup []), some (.tup []), some (.b true), some (.b true), some (.tup []), some (.tup []), some (.tup []), some (.tup []), some (.tup []), some (.b true)] (opG (opG (opG (opG (opG (opG (opG (opG (opG (opG (opG (opG (opG (opG (opG (opG (opG (opG (opG (opS (opG (opG (opG (opG (opS (opG (opG (opG (opS (opG (opG op0 hT) hT) (fun R rest h => ak_callD (avs := [.d (eL47 t0 a0), .d (eG26 a1), .ns]) (dst := some 20) hP enters_14 (by have q := splicelaw05_few.says (t0 := t0) (t2 := true) a0 a1 ([] : List api_Span); rw [c1] at q; exact q) (by kernel_rfl) (.cons (pass_d _) (.cons (pass_d _) (.cons (.nil _ _) .nil))) (by kernel_rfl) h)) hT) hT) hT) (fun R rest h => ak_callD (avs := [.ns, .d (eG26 a2), .ns]) (dst := some 24) hP enters_14 (by have q := splicelaw05_few.says (t0 := true) (t2 := true) ([] : List api_Pair) a2 ([] : List api_Span); rw [c2] at q; exact q) (by kernel_rfl) (.cons (.nil _ _) (.cons (pass_d _) (.cons (.nil _ _) .nil))) (by kernel_rfl) h)) hT) hT) hT) hT) (fun R rest h => ak_callD (avs := [.d (eL47 t0 a0)]) (dst := some 29) hP enters_22 (by have q := table_Check.says (t0 := t0) a0 h3; rw [boF c4] at q; exact q) (by kernel_rfl) (.cons (pass_d _) .nil) (by kernel_rfl) h)) hT) hT) hT) hT) hT) hT) hT) hT) hT) hT) hT) hT) hT) hT) hT) hT) hT) hT) hT) ?_
        refine goK hT 1 (K12 1110 1) ⟨96, [(0, .d (eL47 t0 a0)), (4, .ptr 0 0 0 0), (5, .ptr 1 0 0 0), (7, .own 2 2 0 1), (48, .b true)], [.box 26 (eC26 a1), .box 26 (eC26 a2), .flat false 2 24 1 (fun j => [[.i 0, .i 4096]].getD j [])]⟩ ?_
        refine ak_row 2 (kk := 2) (fz := false) (ty := 24) (n := ([(⟨0, 4096⟩ : api_Span)] : List api_Span).length) (vec api_Span.e api_Span.z ([(⟨0, 4096⟩ : api_Span)] : List api_Span)) (by kernel_rfl) vec_lit (st' := ⟨96, [(0, .d (eL47 t0 a0)), (4, .ptr 0 0 0 0), (5, .ptr 1 0 0 0), (7, .own 2 2 0 (([(⟨0, 4096⟩ : api_Span)] : List api_Span).length)), (48, .b true)], [.box 26 (eC26 a1), .box 26 (eC26 a2), eR24 ([(⟨0, 4096⟩ : api_Span)] : List api_Span)]⟩) (by kernel_rfl) ?_
        refine cutK [0, 1, 2] ⟨96, [(0, .d (eL47 t0 a0)), (4, .ptr 0 0 0 0), (5, .ptr 1 0 0 0), (7, .own 2 2 0 (([(⟨0, 4096⟩ : api_Span)] : List api_Span).length)), (48, .b true)], [.box 26 (eC26 a1), .box 26 (eC26 a2), eR24 ([(⟨0, 4096⟩ : api_Span)] : List api_Span)]⟩ h0 ?_
        exact Jj1 true H
    · replace H := iF c2 H
      refine drawK (hP ▸ mixed) 31 [0, 4, 5, 7] [some (.d (eL47 t0 a0)), some (.d (eG26 a1)), some (.b true), some (.b false), some (.b false), some (.d (eG26 a2)), some (.b false), some (.b true), some (.b true), some (.b true), some (.tup []), some (.tup []), some (.tup []), some (.b true), some (.b true), some (.tup []), some (.tup []), some (.tup []), some (.b true), some (.b true), some (.tup []), some (.tup []), some (.tup []), some (.b true), some (.b true), some (.tup []), some (.tup []), some (.tup []), some (.tup []), some (.tup []), some (.b true)] (opG (opG (opG (opG (opG (opG (opG (opG (opG (opG (opG (opG (opG (opG (opG (opG (opG (opG (opG (opG (opG (opG (opG (opG (opS (opG (opG (opG (opS (opG (opG op0 hT) hT) (fun R rest h => ak_callD (avs := [.d (eL47 t0 a0), .d (eG26 a1), .ns]) (dst := some 20) hP enters_14 (by have q := splicelaw05_few.says (t0 := t0) (t2 := true) a0 a1 ([] : List api_Span); rw [c1] at q; exact q) (by kernel_rfl) (.cons (pass_d _) (.cons (pass_d _) (.cons (.nil _ _) .nil))) (by kernel_rfl) h)) hT) hT) hT) (fun R rest h => ak_callD (avs := [.ns, .d (eG26 a2), .ns]) (dst := some 24) hP enters_14 (by have q := splicelaw05_few.says (t0 := true) (t2 := true) ([] : List api_Pair) a2 ([] : List api_Span); rw [boF c2] at q; exact q) (by kernel_rfl) (.cons (.nil _ _) (.cons (pass_d _) (.cons (.nil _ _) .nil))) (by kernel_rfl) h)) hT) hT) hT) hT) hT) hT) hT) hT) hT) hT) hT) hT) hT) hT) hT) hT) hT) hT) hT) hT) hT) hT) hT) hT) ?_
      refine goK hT 1 (K12 1110 1) ⟨96, [(0, .d (eL47 t0 a0)), (4, .ptr 0 0 0 0), (5, .ptr 1 0 0 0), (7, .own 2 2 0 1), (48, .b true)], [.box 26 (eC26 a1), .box 26 (eC26 a2), .flat false 2 24 1 (fun j => [[.i 0, .i 4096]].getD j [])]⟩ ?_
      refine ak_row 2 (kk := 2) (fz := false) (ty := 24) (n := ([(⟨0, 4096⟩ : api_Span)] : List api_Span).length) (vec api_Span.e api_Span.z ([(⟨0, 4096⟩ : api_Span)] : List api_Span)) (by kernel_rfl) vec_lit (st' := ⟨96, [(0, .d (eL47 t0 a0)), (4, .ptr 0 0 0 0), (5, .ptr 1 0 0 0), (7, .own 2 2 0 (([(⟨0, 4096⟩ : api_Span)] : List api_Span).length)), (48, .b true)], [.box 26 (eC26 a1), .box 26 (eC26 a2), eR24 ([(⟨0, 4096⟩ : api_Span)] : List api_Span)]⟩) (by kernel_rfl) ?_
      refine cutK [0, 1, 2] ⟨96, [(0, .d (eL47 t0 a0)), (4, .ptr 0 0 0 0), (5, .ptr 1 0 0 0), (7, .own 2 2 0 (([(⟨0, 4096⟩ : api_Span)] : List api_Span).length)), (48, .b true)], [.box 26 (eC26 a1), .box 26 (eC26 a2), eR24 ([(⟨0, 4096⟩ : api_Span)] : List api_Span)]⟩ h0 ?_
      exact Jj1 true H
  · replace H := iF c1 H
    refine drawK (hP ▸ mixed) 31 [0, 4, 5, 7] [some (.d (eL47 t0 a0)), some (.d (eG26 a1)), some (.b false), some (.b true), some (.b true), some (.tup []), some (.tup []), some (.tup []), some (.b true), some (.b true), some (.tup []), some (.tup []), some (.tup []), some (.b true), some (.b true), some (.tup []), some (.tup []), some (.tup []), some (.b true), some (.b true), some (.tup []), some (.tup []), some (.tup []), some (.b true), some (.b true), some (.tup []), some (.tup []), some (.tup []), some (.tup []), some (.tup []), some (.b true)] (opG (opG (opG (opG (opG (opG (opG (opG (opG (opG (opG (opG (opG (opG (opG (opG (opG (opG (opG (opG (opG (opG (opG (opG (opG (opG (opG (opG (opS (opG (opG op0 hT) hT) (fun R rest h => ak_callD (avs := [.d (eL47 t0 a0), .d (eG26 a1), .ns]) (dst := some 20) hP enters_14 (by have q := splicelaw05_few.says (t0 := t0) (t2 := true) a0 a1 ([] : List api_Span); rw [boF c1] at q; exact q) (by kernel_rfl) (.cons (pass_d _) (.cons (pass_d _) (.cons (.nil _ _) .nil))) (by kernel_rfl) h)) hT) hT) hT) hT) hT) hT) hT) hT) hT) hT) hT) hT) hT) hT) hT) hT) hT) hT) hT) hT) hT) hT) hT) hT) hT) hT) hT) hT) ?_
    refine goK hT 1 (K12 1110 1) ⟨96, [(0, .d (eL47 t0 a0)), (4, .ptr 0 0 0 0), (5, .ptr 1 0 0 0), (7, .own 2 2 0 1), (48, .b true)], [.box 26 (eC26 a1), .box 26 (eC26 a2), .flat false 2 24 1 (fun j => [[.i 0, .i 4096]].getD j [])]⟩ ?_
    refine ak_row 2 (kk := 2) (fz := false) (ty := 24) (n := ([(⟨0, 4096⟩ : api_Span)] : List api_Span).length) (vec api_Span.e api_Span.z ([(⟨0, 4096⟩ : api_Span)] : List api_Span)) (by kernel_rfl) vec_lit (st' := ⟨96, [(0, .d (eL47 t0 a0)), (4, .ptr 0 0 0 0), (5, .ptr 1 0 0 0), (7, .own 2 2 0 (([(⟨0, 4096⟩ : api_Span)] : List api_Span).length)), (48, .b true)], [.box 26 (eC26 a1), .box 26 (eC26 a2), eR24 ([(⟨0, 4096⟩ : api_Span)] : List api_Span)]⟩) (by kernel_rfl) ?_
    refine cutK [0, 1, 2] ⟨96, [(0, .d (eL47 t0 a0)), (4, .ptr 0 0 0 0), (5, .ptr 1 0 0 0), (7, .own 2 2 0 (([(⟨0, 4096⟩ : api_Span)] : List api_Span).length)), (48, .b true)], [.box 26 (eC26 a1), .box 26 (eC26 a2), eR24 ([(⟨0, 4096⟩ : api_Span)] : List api_Span)]⟩ h0 ?_
    exact Jj1 true H
end Go.SyP
