/- Certificates, printed by gen.py. -/
import Derived.Test.YtbhipajnkkjceaaG04Cp0
set_option linter.unusedVariables false
set_option linter.unusedSimpArgs false
namespace Go.SyP
open Go Go.Sy Go.Proofs


theorem splicelaw04_MutTouches.says (a0 : api_Mut) (a1 : Int) {r : Bool} (H : splicelaw04_MutTouches a0 a1 = some r) : Says Try.prog 9 [] [.d (eG26 a0), .i a1] [] (.b r) := by
  refine says_of Try.func9 rfl (nt := 53) rfl (Nat.le_of_ble_eq_true rfl) fun X hP h0 hX => ?_
  have hT : TabOk X.P T := hP ▸ tok
  have hf : X.P.funcs[9]? = some Try.f9 := hP ▸ Try.func9
  refine goK hT 9 (K9 1100 1) ⟨53, [(1, .i a1), (2, .ptr 0 0 0 0), (6, .d (eG26 a0))], [.box 26 (eC26 a0)]⟩ ?_
  refine ak_callP (avs := [.d (eG26 a0)]) (dst := some 7) (k' := (K9 1100 2)) [1, 2, 7] [] hP enters_12 (splicelaw04_few.says a0) (by kernel_rfl) (hands_none _) (.cons (pass_d _) .nil) (st' := ⟨53, [(1, .i a1), (2, .ptr 0 0 0 0), (7, .b (splicelaw04_few a0))], [.box 26 (eC26 a0)]⟩) (by kernel_rfl) ?_
  refine goK hT 2 (K9 110 1) ⟨53, [(1, .i a1), (2, .ptr 0 0 0 0), (8, .b (!(splicelaw04_few a0)))], [.box 26 (eC26 a0)]⟩ ?_
  by_cases c1 : (splicelaw04_few a0) = true
  · replace H := iT c1 H
    rw [c1]
    refine goK hT 2 (K9 11 1) ⟨53, [(1, .i a1), (2, .ptr 0 0 0 0)], [.box 26 (eC26 a0)]⟩ ?_
    refine goK hT 3 (K9 1110 1) ⟨53, [(1, .i a1), (2, .ptr 0 0 0 0), (10, .d (eG26 a0))], [.box 26 (eC26 a0)]⟩ ?_
    obtain ⟨v2, h3, H⟩ := ibC H
    refine ak_callP (avs := [.d (eG26 a0)]) (dst := some 11) (k' := (K9 1110 2)) [1, 2, 11] [] hP enters_25 (mut_Touch.says a0 h3) (by kernel_rfl) (hands_none _) (.cons (pass_d _) .nil) (st' := ⟨53, [(1, .i a1), (2, .ptr 0 0 0 0), (11, .d (eL24 true v2))], [.box 26 (eC26 a0)]⟩) (by kernel_rfl) ?_
    refine goK hT 6 (K9 111100 1) ⟨53, [(1, .i a1), (2, .ptr 0 0 0 0), (5, .d (eL24 true v2)), (12, .d (eG26 a0))], [.box 26 (eC26 a0)]⟩ ?_
    obtain ⟨v3, h4, H⟩ := ibC H
    refine ak_callP (avs := [.d (eG26 a0)]) (dst := some 13) (k' := (K9 111100 2)) [1, 2, 5, 13] [] hP enters_16 (splicelaw04_Ref.says a0 h4) (by kernel_rfl) (hands_none _) (.cons (pass_d _) .nil) (st' := ⟨53, [(1, .i a1), (2, .ptr 0 0 0 0), (5, .d (eL24 true v2)), (13, .d (eG34 v3))], [.box 26 (eC26 a0)]⟩) (by kernel_rfl) ?_
    obtain ⟨v4, h5, H⟩ := ibC H
    refine ak_callP (avs := [.d (eG34 v3)]) (dst := some 14) (k' := (K9 111100 3)) [1, 2, 5, 14] [] hP enters_17 (spliceref04_Check.says v3 h5) (by kernel_rfl) (hands_none _) (.cons (pass_d _) .nil) (st' := ⟨53, [(1, .i a1), (2, .ptr 0 0 0 0), (5, .d (eL24 true v2)), (14, .b v4)], [.box 26 (eC26 a0)]⟩) (by kernel_rfl) ?_
    refine goK hT 2 (K9 11110 1) ⟨53, [(1, .i a1), (2, .ptr 0 0 0 0), (5, .d (eL24 true v2)), (15, .b (!v4))], [.box 26 (eC26 a0)]⟩ ?_
    by_cases c6 : v4 = true
    · replace H := iT c6 H
      rw [c6]
      refine goK hT 2 (K9 1111 1) ⟨53, [(1, .i a1), (2, .ptr 0 0 0 0), (5, .d (eL24 true v2))], [.box 26 (eC26 a0)]⟩ ?_
      refine goK hT 2 (K9 111110 0) ⟨53, [(1, .i a1), (2, .ptr 0 0 0 0), (5, .d (eL24 true v2))], [.box 26 (eC26 a0)]⟩ ?_
      obtain ⟨v6, h9, H⟩ := ibC H
      have Jj2 : ∀ (y2_43 : Bool), (splicelaw04_MutTouches.j2 a0 v2 y2_43) = some r → AK X 9 ((K9 111110 1)) (Back X [] (.b r)) ⟨53, [(2, .ptr 0 0 0 0), (5, .d (eL24 true v2)), (43, .b y2_43)], [.box 26 (eC26 a0)]⟩ := by
        intro y2_43 H
        by_cases c23 : y2_43 = true
        · replace H := iT c23 H
          rw [c23]
          refine goK hT 5 (K9 11111010 1) ⟨53, [(4, .b false)], [.box 26 (eC26 a0)]⟩ ?_
          obtain rfl := retC H
          exact ak_ret hf hX (av := .b false) (by kernel_rfl) [] (sel_of_eq (by kernel_rfl)) (by decide) (by rw [h0]; rfl) (by kernel_rfl) (fun _ h => all_nil h) (.d (.v _))
        · replace H := iF c23 H
          rw [boF c23]
          refine goK hT 2 (K9 11111 1) ⟨53, [(2, .ptr 0 0 0 0), (5, .d (eL24 true v2))], [.box 26 (eC26 a0)]⟩ ?_
          refine goK hT 1 (K9 111111 0) ⟨53, [(2, .ptr 0 0 0 0), (5, .d (eL24 true v2))], [.box 26 (eC26 a0)]⟩ ?_
          obtain ⟨v14, h24, H⟩ := ibC H
          have Jj3 : ∀ (y3_4 : Bool), (splicelaw04_MutTouches.j3 y3_4) = some r → AK X 9 ((K9 111111 1)) (Back X [] (.b r)) ⟨53, [(4, .b y3_4)], []⟩ := by
            intro y3_4 H
            obtain rfl := retC H
            exact ak_ret hf hX (av := .b y3_4) (by kernel_rfl) [] (sel_of_eq (by kernel_rfl)) (by decide) (by rw [h0]; rfl) (by kernel_rfl) (fun _ h => all_nil h) (.d (.v _))
          by_cases c25 : v14 = true
          · replace H := iT c25 H
            obtain ⟨v15, h26, H⟩ := ibC H
            refine ak_drawAtE (nt := 53) (hP ▸ mixed) 5 [3] [2, 5] [(2, .ptr 0 0 0 0), (5, .d (eL24 true v2))] [some (.b true), some (.b true), some (.d (eL24 true v2)), some (.own 1 2 0 v15.length), some (.d (eG26 a0))] [[.box 26 (eC26 a0)], [.box 26 (eC26 a0), eR32 v15]] (by kernel_rfl) (by kernel_rfl) (by kernel_rfl) (by kernel_rfl) ⟨(opGE (opXE (opGE (opGE (opES opE0 (fun R rest h => ak_callD (avs := []) (dst := some 44) hP enters_13 (by have q := splicelaw04_awake.says h24; rw [c25] at q; exact q) (by kernel_rfl) .nil (by kernel_rfl) h)) hT) hT)) hT), (fun R rest h => ak_callDE (avs := [.d (eL24 true v2)]) (dst := some 47) hP enters_31 (splicelaw03_Refs.says (t0 := true) v2 h26) (by kernel_rfl) (.cons (pass_d _) .nil) (by kernel_rfl) h), (opGE (opXE (opGE (opGE (opES opE0 (fun R rest h => ak_callD (avs := []) (dst := some 44) hP enters_13 (by have q := splicelaw04_awake.says h24; rw [c25] at q; exact q) (by kernel_rfl) .nil (by kernel_rfl) h)) hT) hT)) hT)⟩ ?_
            refine goK hT 0 (K9 1111110 5) ⟨53, [(45, .b true), (47, .own 1 2 0 v15.length), (48, .d (eG26 a0))], [.box 26 (eC26 a0), eR32 v15]⟩ ?_
            obtain ⟨v16, h27, H⟩ := ibC H
            refine ak_callP (avs := [.d (eG26 a0)]) (dst := some 49) (k' := (K9 1111110 6)) [45, 47, 49] [] hP enters_16 (splicelaw04_Ref.says a0 h27) (by kernel_rfl) (hands_none _) (.cons (pass_d _) .nil) (st' := ⟨53, [(45, .b true), (47, .own 1 2 0 v15.length), (49, .d (eG34 v16))], [.box 26 (eC26 a0), eR32 v15]⟩) (by kernel_rfl) ?_
            obtain ⟨v17, h28, H⟩ := ibC H
            refine ak_callP (avs := [.d (eG34 v16)]) (dst := some 50) (k' := (K9 1111110 7)) [45, 47, 50] [] hP enters_32 (spliceref04_Touch.says v16 h28) (by kernel_rfl) (hands_none _) (.cons (pass_d _) .nil) (st' := ⟨53, [(45, .b true), (47, .own 1 2 0 v15.length), (50, .own 2 2 0 v17.length)], [.box 26 (eC26 a0), eR32 v15, eR32 v17]⟩) (by kernel_rfl) ?_
            obtain ⟨v18, h29, H⟩ := ibC H
            refine ak_callP (avs := [.own 1 2 0 v15.length, .own 2 2 0 v17.length]) (dst := some 51) (k' := (K9 1111110 8)) [45, 51] [] hP enters_30 (spliceref03_Same.says (t0 := false) (t1 := false) v15 v17 h29) (by kernel_rfl) (hands_none _) (.cons (.lend (ty := 32) (by kernel_rfl) rfl) (.cons (.lend (ty := 32) (by kernel_rfl) rfl) .nil)) (st' := ⟨53, [(45, .b true), (51, .b v18)], [.box 26 (eC26 a0), eR32 v15, eR32 v17]⟩) (by kernel_rfl) ?_
            refine goK hT 3 (K9 111111 1) ⟨53, [(4, .b v18)], [.box 26 (eC26 a0), eR32 v15, eR32 v17]⟩ ?_
            refine cutK [] ⟨53, [(4, .b v18)], []⟩ h0 ?_
            exact Jj3 v18 H
          · replace H := iF c25 H
            refine drawK (hP ▸ mixed) 5 [2, 5] [some (.b false), some (.b false), some (.tup []), some (.tup []), some (.tup [])] (opG (opG (opG (opG (opS op0 (fun R rest h => ak_callD (avs := []) (dst := some 44) hP enters_13 (by have q := splicelaw04_awake.says h24; rw [boF c25] at q; exact q) (by kernel_rfl) .nil (by kernel_rfl) h)) hT) hT) hT) hT) ?_
            refine goK hT 6 (K9 111111 1) ⟨53, [(4, .b false)], [.box 26 (eC26 a0)]⟩ ?_
            refine cutK [] ⟨53, [(4, .b false)], []⟩ h0 ?_
            exact Jj3 false H
      by_cases c10 : v6 = true
      · replace H := iT c10 H
        obtain ⟨v7, h11, H⟩ := ibC H
        obtain ⟨v8, h12, H⟩ := ibC H
        obtain ⟨v9, h13, H⟩ := ibC H
        by_cases c14 : v7 = true
        · replace H := iT c14 H
          by_cases c15 : v9 = true
          · replace H := iT c15 H
            obtain ⟨v10, h16, H⟩ := ibC H
            by_cases c17 : v10 = true
            · replace H := iT c17 H
              obtain ⟨v11, h18, H⟩ := ibC H
              refine drawK (hP ▸ mixed) 22 [1, 2, 5] [some (.d (eL24 true v2)), some (.b true), some (.b false), some (.b false), some (.d (eL24 true v2)), some (.i a1), some (.b true), some (.d (eG26 a0)), some (.d (eG34 v8)), some (.i a1), some (.b true), some (.b false), some (.b false), some (.b false), some (.d (eG26 a0)), some (.b true), some (.b true), some (.d (eL24 true v2)), some (.i v11), some (.b (v11 != 1)), some (.b (v11 != 1)), some (.b (v11 != 1))] (opG (opG (opG (opS (opG (opG (opS (opG (opG (opG (opG (opS (opG (opS (opG (opS (opG (opG (opG (opG (opS (opG op0 hT) (fun R rest h => ak_callD (avs := [.d (eL24 true v2)]) (dst := some 23) hP enters_26 (by have q := span_Check.says (t0 := true) v2 h9; rw [c10] at q; exact q) (by kernel_rfl) (.cons (pass_d _) .nil) (by kernel_rfl) h)) hT) hT) hT) hT) (fun R rest h => ak_callD (avs := [.d (eL24 true v2), .i a1]) (dst := some 28) hP enters_27 (by have q := span_Has.says (t0 := true) v2 a1 h11; rw [c14] at q; exact q) (by kernel_rfl) (.cons (pass_d _) (.cons (pass_d _) .nil)) (by kernel_rfl) h)) hT) (fun R rest h => ak_callD (avs := [.d (eG26 a0)]) (dst := some 30) hP enters_16 (splicelaw04_Ref.says a0 h12) (by kernel_rfl) (.cons (pass_d _) .nil) (by kernel_rfl) h)) hT) (fun R rest h => ak_callD (avs := [.d (eG34 v8), .i a1]) (dst := some 32) hP enters_28 (by have q := spliceref04_Touches.says v8 a1 h13; rw [c15] at q; exact q) (by kernel_rfl) (.cons (pass_d _) (.cons (pass_d _) .nil)) (by kernel_rfl) h)) hT) hT) hT) hT) (fun R rest h => ak_callD (avs := [.d (eG26 a0)]) (dst := some 37) hP enters_19 (by have q := mut_Alone.says a0 h16; rw [c17] at q; exact q) (by kernel_rfl) (.cons (pass_d _) .nil) (by kernel_rfl) h)) hT) hT) (fun R rest h => ak_callD (avs := [.d (eL24 true v2)]) (dst := some 40) hP enters_29 (span_Count.says (t0 := true) v2 h18) (by kernel_rfl) (.cons (pass_d _) .nil) (by kernel_rfl) h)) hT) hT) hT) ?_
              refine goK hT 1 (K9 111110 1) ⟨53, [(2, .ptr 0 0 0 0), (5, .d (eL24 true v2)), (43, .b (v11 != 1))], [.box 26 (eC26 a0)]⟩ ?_
              refine cutK [0] ⟨53, [(2, .ptr 0 0 0 0), (5, .d (eL24 true v2)), (43, .b (v11 != 1))], [.box 26 (eC26 a0)]⟩ h0 ?_
              exact Jj2 (v11 != 1) H
            · replace H := iF c17 H
              refine drawK (hP ▸ mixed) 22 [1, 2, 5] [some (.d (eL24 true v2)), some (.b true), some (.b false), some (.b false), some (.d (eL24 true v2)), some (.i a1), some (.b true), some (.d (eG26 a0)), some (.d (eG34 v8)), some (.i a1), some (.b true), some (.b false), some (.b false), some (.b false), some (.d (eG26 a0)), some (.b false), some (.b false), some (.tup []), some (.tup []), some (.tup []), some (.b false), some (.b false)] (opG (opG (opG (opG (opG (opG (opS (opG (opG (opG (opG (opS (opG (opS (opG (opS (opG (opG (opG (opG (opS (opG op0 hT) (fun R rest h => ak_callD (avs := [.d (eL24 true v2)]) (dst := some 23) hP enters_26 (by have q := span_Check.says (t0 := true) v2 h9; rw [c10] at q; exact q) (by kernel_rfl) (.cons (pass_d _) .nil) (by kernel_rfl) h)) hT) hT) hT) hT) (fun R rest h => ak_callD (avs := [.d (eL24 true v2), .i a1]) (dst := some 28) hP enters_27 (by have q := span_Has.says (t0 := true) v2 a1 h11; rw [c14] at q; exact q) (by kernel_rfl) (.cons (pass_d _) (.cons (pass_d _) .nil)) (by kernel_rfl) h)) hT) (fun R rest h => ak_callD (avs := [.d (eG26 a0)]) (dst := some 30) hP enters_16 (splicelaw04_Ref.says a0 h12) (by kernel_rfl) (.cons (pass_d _) .nil) (by kernel_rfl) h)) hT) (fun R rest h => ak_callD (avs := [.d (eG34 v8), .i a1]) (dst := some 32) hP enters_28 (by have q := spliceref04_Touches.says v8 a1 h13; rw [c15] at q; exact q) (by kernel_rfl) (.cons (pass_d _) (.cons (pass_d _) .nil)) (by kernel_rfl) h)) hT) hT) hT) hT) (fun R rest h => ak_callD (avs := [.d (eG26 a0)]) (dst := some 37) hP enters_19 (by have q := mut_Alone.says a0 h16; rw [boF c17] at q; exact q) (by kernel_rfl) (.cons (pass_d _) .nil) (by kernel_rfl) h)) hT) hT) hT) hT) hT) hT) ?_
              refine goK hT 1 (K9 111110 1) ⟨53, [(2, .ptr 0 0 0 0), (5, .d (eL24 true v2)), (43, .b false)], [.box 26 (eC26 a0)]⟩ ?_
              refine cutK [0] ⟨53, [(2, .ptr 0 0 0 0), (5, .d (eL24 true v2)), (43, .b false)], [.box 26 (eC26 a0)]⟩ h0 ?_
              exact Jj2 false H
          · replace H := iF c15 H
            refine drawK (hP ▸ mixed) 22 [1, 2, 5] [some (.d (eL24 true v2)), some (.b true), some (.b false), some (.b false), some (.d (eL24 true v2)), some (.i a1), some (.b true), some (.d (eG26 a0)), some (.d (eG34 v8)), some (.i a1), some (.b false), some (.b true), some (.b true), some (.b true), some (.tup []), some (.tup []), some (.tup []), some (.tup []), some (.tup []), some (.tup []), some (.tup []), some (.b true)] (opG (opG (opG (opG (opG (opG (opG (opG (opG (opG (opG (opS (opG (opS (opG (opS (opG (opG (opG (opG (opS (opG op0 hT) (fun R rest h => ak_callD (avs := [.d (eL24 true v2)]) (dst := some 23) hP enters_26 (by have q := span_Check.says (t0 := true) v2 h9; rw [c10] at q; exact q) (by kernel_rfl) (.cons (pass_d _) .nil) (by kernel_rfl) h)) hT) hT) hT) hT) (fun R rest h => ak_callD (avs := [.d (eL24 true v2), .i a1]) (dst := some 28) hP enters_27 (by have q := span_Has.says (t0 := true) v2 a1 h11; rw [c14] at q; exact q) (by kernel_rfl) (.cons (pass_d _) (.cons (pass_d _) .nil)) (by kernel_rfl) h)) hT) (fun R rest h => ak_callD (avs := [.d (eG26 a0)]) (dst := some 30) hP enters_16 (splicelaw04_Ref.says a0 h12) (by kernel_rfl) (.cons (pass_d _) .nil) (by kernel_rfl) h)) hT) (fun R rest h => ak_callD (avs := [.d (eG34 v8), .i a1]) (dst := some 32) hP enters_28 (by have q := spliceref04_Touches.says v8 a1 h13; rw [boF c15] at q; exact q) (by kernel_rfl) (.cons (pass_d _) (.cons (pass_d _) .nil)) (by kernel_rfl) h)) hT) hT) hT) hT) hT) hT) hT) hT) hT) hT) hT) ?_
            refine goK hT 1 (K9 111110 1) ⟨53, [(2, .ptr 0 0 0 0), (5, .d (eL24 true v2)), (43, .b true)], [.box 26 (eC26 a0)]⟩ ?_
            refine cutK [0] ⟨53, [(2, .ptr 0 0 0 0), (5, .d (eL24 true v2)), (43, .b true)], [.box 26 (eC26 a0)]⟩ h0 ?_
            exact Jj2 true H
        · replace H := iF c14 H
          by_cases c19 : v9 = true
          · replace H := iT c19 H
            refine drawK (hP ▸ mixed) 22 [1, 2, 5] [some (.d (eL24 true v2)), some (.b true), some (.b false), some (.b false), some (.d (eL24 true v2)), some (.i a1), some (.b false), some (.d (eG26 a0)), some (.d (eG34 v8)), some (.i a1), some (.b true), some (.b true), some (.b true), some (.b true), some (.tup []), some (.tup []), some (.tup []), some (.tup []), some (.tup []), some (.tup []), some (.tup []), some (.b true)] (opG (opG (opG (opG (opG (opG (opG (opG (opG (opG (opG (opS (opG (opS (opG (opS (opG (opG (opG (opG (opS (opG op0 hT) (fun R rest h => ak_callD (avs := [.d (eL24 true v2)]) (dst := some 23) hP enters_26 (by have q := span_Check.says (t0 := true) v2 h9; rw [c10] at q; exact q) (by kernel_rfl) (.cons (pass_d _) .nil) (by kernel_rfl) h)) hT) hT) hT) hT) (fun R rest h => ak_callD (avs := [.d (eL24 true v2), .i a1]) (dst := some 28) hP enters_27 (by have q := span_Has.says (t0 := true) v2 a1 h11; rw [boF c14] at q; exact q) (by kernel_rfl) (.cons (pass_d _) (.cons (pass_d _) .nil)) (by kernel_rfl) h)) hT) (fun R rest h => ak_callD (avs := [.d (eG26 a0)]) (dst := some 30) hP enters_16 (splicelaw04_Ref.says a0 h12) (by kernel_rfl) (.cons (pass_d _) .nil) (by kernel_rfl) h)) hT) (fun R rest h => ak_callD (avs := [.d (eG34 v8), .i a1]) (dst := some 32) hP enters_28 (by have q := spliceref04_Touches.says v8 a1 h13; rw [c19] at q; exact q) (by kernel_rfl) (.cons (pass_d _) (.cons (pass_d _) .nil)) (by kernel_rfl) h)) hT) hT) hT) hT) hT) hT) hT) hT) hT) hT) hT) ?_
            refine goK hT 1 (K9 111110 1) ⟨53, [(2, .ptr 0 0 0 0), (5, .d (eL24 true v2)), (43, .b true)], [.box 26 (eC26 a0)]⟩ ?_
            refine cutK [0] ⟨53, [(2, .ptr 0 0 0 0), (5, .d (eL24 true v2)), (43, .b true)], [.box 26 (eC26 a0)]⟩ h0 ?_
            exact Jj2 true H
          · replace H := iF c19 H
            obtain ⟨v12, h20, H⟩ := ibC H
            by_cases c21 : v12 = true
            · replace H := iT c21 H
              obtain ⟨v13, h22, H⟩ := ibC H
              refine drawK (hP ▸ mixed) 22 [1, 2, 5] [some (.d (eL24 true v2)), some (.b true), some (.b false), some (.b false), some (.d (eL24 true v2)), some (.i a1), some (.b false), some (.d (eG26 a0)), some (.d (eG34 v8)), some (.i a1), some (.b false), some (.b false), some (.b false), some (.b false), some (.d (eG26 a0)), some (.b true), some (.b true), some (.d (eL24 true v2)), some (.i v13), some (.b (v13 != 1)), some (.b (v13 != 1)), some (.b (v13 != 1))] (opG (opG (opG (opS (opG (opG (opS (opG (opG (opG (opG (opS (opG (opS (opG (opS (opG (opG (opG (opG (opS (opG op0 hT) (fun R rest h => ak_callD (avs := [.d (eL24 true v2)]) (dst := some 23) hP enters_26 (by have q := span_Check.says (t0 := true) v2 h9; rw [c10] at q; exact q) (by kernel_rfl) (.cons (pass_d _) .nil) (by kernel_rfl) h)) hT) hT) hT) hT) (fun R rest h => ak_callD (avs := [.d (eL24 true v2), .i a1]) (dst := some 28) hP enters_27 (by have q := span_Has.says (t0 := true) v2 a1 h11; rw [boF c14] at q; exact q) (by kernel_rfl) (.cons (pass_d _) (.cons (pass_d _) .nil)) (by kernel_rfl) h)) hT) (fun R rest h => ak_callD (avs := [.d (eG26 a0)]) (dst := some 30) hP enters_16 (splicelaw04_Ref.says a0 h12) (by kernel_rfl) (.cons (pass_d _) .nil) (by kernel_rfl) h)) hT) (fun R rest h => ak_callD (avs := [.d (eG34 v8), .i a1]) (dst := some 32) hP enters_28 (by have q := spliceref04_Touches.says v8 a1 h13; rw [boF c19] at q; exact q) (by kernel_rfl) (.cons (pass_d _) (.cons (pass_d _) .nil)) (by kernel_rfl) h)) hT) hT) hT) hT) (fun R rest h => ak_callD (avs := [.d (eG26 a0)]) (dst := some 37) hP enters_19 (by have q := mut_Alone.says a0 h20; rw [c21] at q; exact q) (by kernel_rfl) (.cons (pass_d _) .nil) (by kernel_rfl) h)) hT) hT) (fun R rest h => ak_callD (avs := [.d (eL24 true v2)]) (dst := some 40) hP enters_29 (span_Count.says (t0 := true) v2 h22) (by kernel_rfl) (.cons (pass_d _) .nil) (by kernel_rfl) h)) hT) hT) hT) ?_
              refine goK hT 1 (K9 111110 1) ⟨53, [(2, .ptr 0 0 0 0), (5, .d (eL24 true v2)), (43, .b (v13 != 1))], [.box 26 (eC26 a0)]⟩ ?_
              refine cutK [0] ⟨53, [(2, .ptr 0 0 0 0), (5, .d (eL24 true v2)), (43, .b (v13 != 1))], [.box 26 (eC26 a0)]⟩ h0 ?_
              exact Jj2 (v13 != 1) H
            · replace H := iF c21 H
              refine drawK (hP ▸ mixed) 22 [1, 2, 5] [some (.d (eL24 true v2)), some (.b true), some (.b false), some (.b false), some (.d (eL24 true v2)), some (.i a1), some (.b false), some (.d (eG26 a0)), some (.d (eG34 v8)), some (.i a1), some (.b false), some (.b false), some (.b false), some (.b false), some (.d (eG26 a0)), some (.b false), some (.b false), some (.tup []), some (.tup []), some (.tup []), some (.b false), some (.b false)] (opG (opG (opG (opG (opG (opG (opS (opG (opG (opG (opG (opS (opG (opS (opG (opS (opG (opG (opG (opG (opS (opG op0 hT) (fun R rest h => ak_callD (avs := [.d (eL24 true v2)]) (dst := some 23) hP enters_26 (by have q := span_Check.says (t0 := true) v2 h9; rw [c10] at q; exact q) (by kernel_rfl) (.cons (pass_d _) .nil) (by kernel_rfl) h)) hT) hT) hT) hT) (fun R rest h => ak_callD (avs := [.d (eL24 true v2), .i a1]) (dst := some 28) hP enters_27 (by have q := span_Has.says (t0 := true) v2 a1 h11; rw [boF c14] at q; exact q) (by kernel_rfl) (.cons (pass_d _) (.cons (pass_d _) .nil)) (by kernel_rfl) h)) hT) (fun R rest h => ak_callD (avs := [.d (eG26 a0)]) (dst := some 30) hP enters_16 (splicelaw04_Ref.says a0 h12) (by kernel_rfl) (.cons (pass_d _) .nil) (by kernel_rfl) h)) hT) (fun R rest h => ak_callD (avs := [.d (eG34 v8), .i a1]) (dst := some 32) hP enters_28 (by have q := spliceref04_Touches.says v8 a1 h13; rw [boF c19] at q; exact q) (by kernel_rfl) (.cons (pass_d _) (.cons (pass_d _) .nil)) (by kernel_rfl) h)) hT) hT) hT) hT) (fun R rest h => ak_callD (avs := [.d (eG26 a0)]) (dst := some 37) hP enters_19 (by have q := mut_Alone.says a0 h20; rw [boF c21] at q; exact q) (by kernel_rfl) (.cons (pass_d _) .nil) (by kernel_rfl) h)) hT) hT) hT) hT) hT) hT) ?_
              refine goK hT 1 (K9 111110 1) ⟨53, [(2, .ptr 0 0 0 0), (5, .d (eL24 true v2)), (43, .b false)], [.box 26 (eC26 a0)]⟩ ?_
              refine cutK [0] ⟨53, [(2, .ptr 0 0 0 0), (5, .d (eL24 true v2)), (43, .b false)], [.box 26 (eC26 a0)]⟩ h0 ?_
              exact Jj2 false H
      · replace H := iF c10 H
        refine drawK (hP ▸ mixed) 22 [1, 2, 5] [some (.d (eL24 true v2)), some (.b false), some (.b true), some (.b true), some (.tup []), some (.tup []), some (.tup []), some (.tup []), some (.tup []), some (.tup []), some (.tup []), some (.tup []), some (.b true), some (.b true), some (.tup []), some (.tup []), some (.tup []), some (.tup []), some (.tup []), some (.tup []), some (.tup []), some (.b true)] (opG (opG (opG (opG (opG (opG (opG (opG (opG (opG (opG (opG (opG (opG (opG (opG (opG (opG (opG (opG (opS (opG op0 hT) (fun R rest h => ak_callD (avs := [.d (eL24 true v2)]) (dst := some 23) hP enters_26 (by have q := span_Check.says (t0 := true) v2 h9; rw [boF c10] at q; exact q) (by kernel_rfl) (.cons (pass_d _) .nil) (by kernel_rfl) h)) hT) hT) hT) hT) hT) hT) hT) hT) hT) hT) hT) hT) hT) hT) hT) hT) hT) hT) hT) hT) ?_
        refine goK hT 1 (K9 111110 1) ⟨53, [(2, .ptr 0 0 0 0), (5, .d (eL24 true v2)), (43, .b true)], [.box 26 (eC26 a0)]⟩ ?_
        refine cutK [0] ⟨53, [(2, .ptr 0 0 0 0), (5, .d (eL24 true v2)), (43, .b true)], [.box 26 (eC26 a0)]⟩ h0 ?_
        exact Jj2 true H
    · replace H := iF c6 H
      rw [boF c6]
      refine goK hT 3 (K9 11110100 0) ⟨53, [(5, .d (eL24 true v2))], [.box 26 (eC26 a0)]⟩ ?_
      obtain ⟨v5, h7, H⟩ := ibC H
      have Jj1 : ∀ (y1_4 : Bool), (splicelaw04_MutTouches.j1 y1_4) = some r → AK X 9 ((K9 1111010 1)) (Back X [] (.b r)) ⟨53, [(4, .b y1_4)], []⟩ := by
        intro y1_4 H
        obtain rfl := retC H
        exact ak_ret hf hX (av := .b y1_4) (by kernel_rfl) [] (sel_of_eq (by kernel_rfl)) (by decide) (by rw [h0]; rfl) (by kernel_rfl) (fun _ h => all_nil h) (.d (.v _))
      refine ak_callP (avs := []) (dst := some 16) (k' := (K9 11110100 1)) [5, 16] [] hP enters_13 (splicelaw04_awake.says h7) (by kernel_rfl) (hands_none _) .nil (st' := ⟨53, [(5, .d (eL24 true v2)), (16, .b v5)], [.box 26 (eC26 a0)]⟩) (by kernel_rfl) ?_
      refine goK hT 1 (K9 11110100 2) ⟨53, [(5, .d (eL24 true v2)), (17, .b v5)], [.box 26 (eC26 a0)]⟩ ?_
      by_cases c8 : v5 = true
      · replace H := iT c8 H
        rw [c8]
        refine goK hT 6 (K9 1111010 1) ⟨53, [(4, .b ((v2.length : Int) == 0))], [.box 26 (eC26 a0)]⟩ ?_
        refine cutK [] ⟨53, [(4, .b ((v2.length : Int) == 0))], []⟩ h0 ?_
        exact Jj1 ((v2.length : Int) == 0) H
      · replace H := iF c8 H
        rw [boF c8]
        refine goK hT 6 (K9 1111010 1) ⟨53, [(4, .b false)], [.box 26 (eC26 a0)]⟩ ?_
        refine cutK [] ⟨53, [(4, .b false)], []⟩ h0 ?_
        exact Jj1 false H
  · replace H := iF c1 H
    rw [boF c1]
    refine goK hT 3 (K9 110100 0) ⟨53, [], [.box 26 (eC26 a0)]⟩ ?_
    obtain ⟨v1, h2, H⟩ := ibC H
    refine ak_callP (avs := []) (dst := some 9) (k' := (K9 110100 1)) [9] [] hP enters_13 (splicelaw04_awake.says h2) (by kernel_rfl) (hands_none _) .nil (st' := ⟨53, [(9, .b v1)], [.box 26 (eC26 a0)]⟩) (by kernel_rfl) ?_
    refine goK hT 2 (K9 11010 1) ⟨53, [(4, .b v1)], [.box 26 (eC26 a0)]⟩ ?_
    obtain rfl := retC H
    exact ak_ret hf hX (av := .b v1) (by kernel_rfl) [] (sel_of_eq (by kernel_rfl)) (by decide) (by rw [h0]; rfl) (by kernel_rfl) (fun _ h => all_nil h) (.d (.v _))
end Go.SyP
