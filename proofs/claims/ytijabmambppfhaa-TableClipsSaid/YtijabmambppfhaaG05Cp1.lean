/- Certificates, printed by gen.py. -/
import Derived.Test.YtijabmambppfhaaG05Cp0
set_option linter.unusedVariables false
set_option linter.unusedSimpArgs false
namespace Go.SyP
open Go Go.Sy Go.Proofs


theorem spliceref05_Clip.says {t0 : Bool} {t1 : Bool} (a0 : List spliceref04_Pair) (a1 : List spliceref03_Span) {r : List spliceref04_Pair} (H : spliceref05_Clip a0 a1 = some r) : Says Try.prog 38 [] [.d (eL90 t0 a0), .d (eL36 t1 a1)] [eR90 r] (.own 0 2 0 r.length) := by
  refine says_of Try.func38 rfl (nt := 36) rfl (Nat.le_of_ble_eq_true rfl) fun X hP h0 hX => ?_
  have hT : TabOk X.P T := hP ▸ tok
  have hf : X.P.funcs[38]? = some Try.f38 := hP ▸ Try.func38
  refine goK hT 15 (K38 111010 0) ⟨36, [(0, .d (eL90 t0 a0)), (1, .d (eL36 t1 a1)), (5, .ns), (6, .i 0)], []⟩ ?_
  refine ak_nilS [0, 1, 5, 6] 5 2 90 (vec spliceref04_Pair.e spliceref04_Pair.z []) (st' := ⟨36, [(0, .d (eL90 t0 a0)), (1, .d (eL36 t1 a1)), (5, .own 0 2 0 0), (6, .i 0)], [eR90 ([] : List spliceref04_Pair)]⟩) (by kernel_rfl) (by kernel_rfl) ?_
  have L : ∀ n, (∀ (x1_6 : Int) (x1_r0 : List spliceref04_Pair), iter (spliceref05_Clip.step a0 a1) n (.l1 x1_6 x1_r0) = some r → AK X 38 ((K38 111010 0)) (Back X [eR90 r] (.own 0 2 0 r.length)) ⟨36, [(0, .d (eL90 t0 a0)), (1, .d (eL36 t1 a1)), (5, .own 0 2 0 x1_r0.length), (6, .i x1_6)], [eR90 x1_r0]⟩) := by
    intro n
    induction n with
    | zero => exact fun _ _ H => iter0 H
    | succ n ih =>
      · intro x1_6 x1_r0 H
        refine goK hT 8 (K38 11101000 1) ⟨36, [(0, .d (eL90 t0 a0)), (1, .d (eL36 t1 a1)), (5, .own 0 2 0 x1_r0.length), (6, .i x1_6), (10, .b (decide (x1_6 < (a0.length : Int))))], [eR90 x1_r0]⟩ ?_
        by_cases c1 : x1_6 < (a0.length : Int)
        · replace H := sT c1 H
          rw [decide_eq_true c1]
          refine goK hT 2 (K38 1110100 1) ⟨36, [(0, .d (eL90 t0 a0)), (1, .d (eL36 t1 a1)), (5, .own 0 2 0 x1_r0.length), (6, .i x1_6)], [eR90 x1_r0]⟩ ?_
          refine goK hT 5 (K38 11101001000 1) ⟨36, [(0, .d (eL90 t0 a0)), (1, .d (eL36 t1 a1)), (5, .own 0 2 0 x1_r0.length), (6, .i x1_6), (13, .d (eL90 t0 a0))], [eR90 x1_r0]⟩ ?_
          obtain ⟨v1, h2, H⟩ := sbC H
          have Jj1 : ∀ (y1_27 : Bool), stk (spliceref05_Clip.j1 a0 x1_6 x1_r0 y1_27) (iter (spliceref05_Clip.step a0 a1) n) = some r → AK X 38 ((K38 1110100100 1)) (Back X [eR90 r] (.own 0 2 0 r.length)) ⟨36, [(0, .d (eL90 t0 a0)), (1, .d (eL36 t1 a1)), (5, .own 0 2 0 x1_r0.length), (6, .i x1_6), (27, .b y1_27)], [eR90 x1_r0]⟩ := by
            intro y1_27 H
            have Jj2 : ∀ (y2_r0 : List spliceref04_Pair), stk (spliceref05_Clip.j2 x1_6 y2_r0) (iter (spliceref05_Clip.step a0 a1) n) = some r → AK X 38 ((K38 11101001 1)) (Back X [eR90 r] (.own 0 2 0 r.length)) ⟨36, [(0, .d (eL90 t0 a0)), (1, .d (eL36 t1 a1)), (5, .own 0 2 0 y2_r0.length), (6, .i x1_6)], [eR90 y2_r0]⟩ := by
              intro y2_r0 H
              refine goK hT 6 (K38 111010 0) ⟨36, [(0, .d (eL90 t0 a0)), (1, .d (eL36 t1 a1)), (5, .own 0 2 0 y2_r0.length), (6, .i (IntKind.wrap .i64 (x1_6 + 1)))], [eR90 y2_r0]⟩ ?_
              refine cutK [0] ⟨36, [(0, .d (eL90 t0 a0)), (1, .d (eL36 t1 a1)), (5, .own 0 2 0 y2_r0.length), (6, .i (IntKind.wrap .i64 (x1_6 + 1)))], [eR90 y2_r0]⟩ h0 ?_
              exact ih (IntKind.wrap .i64 (x1_6 + 1)) y2_r0 H
            by_cases c8 : y1_27 = true
            · replace H := sT c8 H
              rw [c8]
              refine goK hT 5 (K38 111010010010 3) ⟨36, [(0, .d (eL90 t0 a0)), (1, .d (eL36 t1 a1)), (6, .i x1_6), (28, .own 0 2 0 x1_r0.length), (29, .d (eL90 t0 a0)), (30, .i x1_6)], [eR90 x1_r0]⟩ ?_
              obtain ⟨h9, H⟩ := sC H
              refine ak_idx hT [0, 1, 6, 28, 31] (i := x1_6) (n := (a0.length : Int)) h9.1 h9.2 (k' := (K38 111010010010 4)) (st' := ⟨36, [(0, .d (eL90 t0 a0)), (1, .d (eL36 t1 a1)), (6, .i x1_6), (28, .own 0 2 0 x1_r0.length), (31, .d (eP90 t0 a0 x1_6.toNat 0))], [eR90 x1_r0]⟩) (by kernel_rfl) ?_
              refine goK hT 2 (K38 111010010010 6) ⟨36, [(0, .d (eL90 t0 a0)), (1, .d (eL36 t1 a1)), (6, .i x1_6), (28, .own 0 2 0 x1_r0.length), (33, .own 1 2 0 1)], [eR90 x1_r0, .flat false 2 90 1 (fun j => [spliceref04_Pair.e (a0.getD x1_6.toNat spliceref04_Pair.z)].getD j [])]⟩ ?_
              obtain ⟨h10, H⟩ := sC H
              refine ak_append1 (id := 0) (kk := 2) (by' := 16) (t := 32) (e := 90) (z := [.int .i64 0, .int .i64 0]) (dst := some 34) (id2 := 1) (e2 := 90) (fz := false) (k' := (K38 111010010010 7)) hT spliceref04_Pair.e spliceref04_Pair.z x1_r0 (a0.getD x1_6.toNat spliceref04_Pair.z) [0, 1, 6, 34] (by kernel_rfl) (by kernel_rfl) (by kernel_rfl) (by kernel_rfl) (by kernel_rfl) (by kernel_rfl) (by kernel_rfl) h10 (by omega) (st' := ⟨36, [(0, .d (eL90 t0 a0)), (1, .d (eL36 t1 a1)), (6, .i x1_6), (34, .own 2 2 0 ((x1_r0 ++ [a0.getD x1_6.toNat spliceref04_Pair.z]).length))], [.gone, .flat false 2 90 1 (fun j => [spliceref04_Pair.e (a0.getD x1_6.toNat spliceref04_Pair.z)].getD j []), eR90 (x1_r0 ++ [a0.getD x1_6.toNat spliceref04_Pair.z])]⟩) (by kernel_rfl) ?_
              refine goK hT 3 (K38 11101001 1) ⟨36, [(0, .d (eL90 t0 a0)), (1, .d (eL36 t1 a1)), (5, .own 2 2 0 ((x1_r0 ++ [a0.getD x1_6.toNat spliceref04_Pair.z]).length)), (6, .i x1_6)], [.gone, .flat false 2 90 1 (fun j => [spliceref04_Pair.e (a0.getD x1_6.toNat spliceref04_Pair.z)].getD j []), eR90 (x1_r0 ++ [a0.getD x1_6.toNat spliceref04_Pair.z])]⟩ ?_
              refine cutK [2] ⟨36, [(0, .d (eL90 t0 a0)), (1, .d (eL36 t1 a1)), (5, .own 0 2 0 (x1_r0 ++ [a0.getD x1_6.toNat spliceref04_Pair.z]).length), (6, .i x1_6)], [eR90 (x1_r0 ++ [a0.getD x1_6.toNat spliceref04_Pair.z])]⟩ h0 ?_
              exact Jj2 (x1_r0 ++ [a0.getD x1_6.toNat spliceref04_Pair.z]) H
            · replace H := sF c8 H
              rw [boF c8]
              refine goK hT 3 (K38 11101001 1) ⟨36, [(0, .d (eL90 t0 a0)), (1, .d (eL36 t1 a1)), (5, .own 0 2 0 x1_r0.length), (6, .i x1_6)], [eR90 x1_r0]⟩ ?_
              refine cutK [0] ⟨36, [(0, .d (eL90 t0 a0)), (1, .d (eL36 t1 a1)), (5, .own 0 2 0 x1_r0.length), (6, .i x1_6)], [eR90 x1_r0]⟩ h0 ?_
              exact Jj2 x1_r0 H
          refine ak_callP (avs := [.d (eL90 t0 a0)]) (dst := some 14) (k' := (K38 11101001000 2)) [0, 1, 5, 6, 14] [] hP enters_28 (spliceref05_Check.says (t0 := t0) a0 h2) (by kernel_rfl) (hands_none _) (.cons (pass_d _) .nil) (st' := ⟨36, [(0, .d (eL90 t0 a0)), (1, .d (eL36 t1 a1)), (5, .own 0 2 0 x1_r0.length), (6, .i x1_6), (14, .b v1)], [eR90 x1_r0]⟩) (by kernel_rfl) ?_
          refine goK hT 1 (K38 11101001000 3) ⟨36, [(0, .d (eL90 t0 a0)), (1, .d (eL36 t1 a1)), (5, .own 0 2 0 x1_r0.length), (6, .i x1_6), (15, .b v1)], [eR90 x1_r0]⟩ ?_
          by_cases c3 : v1 = true
          · replace H := sT c3 H
            rw [c3]
            refine goK hT 1 (K38 11101001000 4) ⟨36, [(0, .d (eL90 t0 a0)), (1, .d (eL36 t1 a1)), (5, .own 0 2 0 x1_r0.length), (6, .i x1_6), (15, .b true), (16, .d (eL36 t1 a1))], [eR90 x1_r0]⟩ ?_
            obtain ⟨v2, h4, H⟩ := sbC H
            refine ak_callP (avs := [.d (eL36 t1 a1)]) (dst := some 17) (k' := (K38 11101001000 5)) [0, 1, 5, 6, 15, 17] [] hP enters_24 (spliceref03_Check.says (t0 := t1) a1 h4) (by kernel_rfl) (hands_none _) (.cons (pass_d _) .nil) (st' := ⟨36, [(0, .d (eL90 t0 a0)), (1, .d (eL36 t1 a1)), (5, .own 0 2 0 x1_r0.length), (6, .i x1_6), (15, .b true), (17, .b v2)], [eR90 x1_r0]⟩) (by kernel_rfl) ?_
            refine goK hT 2 (K38 11101001000 7) ⟨36, [(0, .d (eL90 t0 a0)), (1, .d (eL36 t1 a1)), (5, .own 0 2 0 x1_r0.length), (6, .i x1_6), (19, .b v2)], [eR90 x1_r0]⟩ ?_
            by_cases c5 : v2 = true
            · replace H := sT c5 H
              rw [c5]
              refine goK hT 3 (K38 11101001000 10) ⟨36, [(0, .d (eL90 t0 a0)), (1, .d (eL36 t1 a1)), (5, .own 0 2 0 x1_r0.length), (6, .i x1_6), (19, .b true), (20, .d (eL36 t1 a1)), (21, .d (eL90 t0 a0)), (22, .i x1_6)], [eR90 x1_r0]⟩ ?_
              obtain ⟨h6, H⟩ := sC H
              refine ak_idx hT [0, 1, 5, 6, 19, 20, 23] (i := x1_6) (n := (a0.length : Int)) h6.1 h6.2 (k' := (K38 11101001000 11)) (st' := ⟨36, [(0, .d (eL90 t0 a0)), (1, .d (eL36 t1 a1)), (5, .own 0 2 0 x1_r0.length), (6, .i x1_6), (19, .b true), (20, .d (eL36 t1 a1)), (23, .d (eP90 t0 a0 x1_6.toNat 0))], [eR90 x1_r0]⟩) (by kernel_rfl) ?_
              refine goK hT 2 (K38 11101001000 13) ⟨36, [(0, .d (eL90 t0 a0)), (1, .d (eL36 t1 a1)), (5, .own 0 2 0 x1_r0.length), (6, .i x1_6), (19, .b true), (20, .d (eL36 t1 a1)), (25, .i ((a0.getD x1_6.toNat spliceref04_Pair.z).Key))], [eR90 x1_r0]⟩ ?_
              obtain ⟨v3, h7, H⟩ := sbC H
              refine ak_callP (avs := [.d (eL36 t1 a1), .i ((a0.getD x1_6.toNat spliceref04_Pair.z).Key)]) (dst := some 26) (k' := (K38 11101001000 14)) [0, 1, 5, 6, 19, 26] [] hP enters_50 (spliceref03_Has.says (t0 := t1) a1 ((a0.getD x1_6.toNat spliceref04_Pair.z).Key) h7) (by kernel_rfl) (hands_none _) (.cons (pass_d _) (.cons (pass_d _) .nil)) (st' := ⟨36, [(0, .d (eL90 t0 a0)), (1, .d (eL36 t1 a1)), (5, .own 0 2 0 x1_r0.length), (6, .i x1_6), (19, .b true), (26, .b v3)], [eR90 x1_r0]⟩) (by kernel_rfl) ?_
              refine goK hT 2 (K38 1110100100 1) ⟨36, [(0, .d (eL90 t0 a0)), (1, .d (eL36 t1 a1)), (5, .own 0 2 0 x1_r0.length), (6, .i x1_6), (27, .b v3)], [eR90 x1_r0]⟩ ?_
              refine cutK [0] ⟨36, [(0, .d (eL90 t0 a0)), (1, .d (eL36 t1 a1)), (5, .own 0 2 0 x1_r0.length), (6, .i x1_6), (27, .b v3)], [eR90 x1_r0]⟩ h0 ?_
              exact Jj1 v3 H
            · replace H := sF c5 H
              rw [boF c5]
              refine goK hT 9 (K38 1110100100 1) ⟨36, [(0, .d (eL90 t0 a0)), (1, .d (eL36 t1 a1)), (5, .own 0 2 0 x1_r0.length), (6, .i x1_6), (27, .b false)], [eR90 x1_r0]⟩ ?_
              refine cutK [0] ⟨36, [(0, .d (eL90 t0 a0)), (1, .d (eL36 t1 a1)), (5, .own 0 2 0 x1_r0.length), (6, .i x1_6), (27, .b false)], [eR90 x1_r0]⟩ h0 ?_
              exact Jj1 false H
          · replace H := sF c3 H
            rw [boF c3]
            refine goK hT 13 (K38 1110100100 1) ⟨36, [(0, .d (eL90 t0 a0)), (1, .d (eL36 t1 a1)), (5, .own 0 2 0 x1_r0.length), (6, .i x1_6), (27, .b false)], [eR90 x1_r0]⟩ ?_
            refine cutK [0] ⟨36, [(0, .d (eL90 t0 a0)), (1, .d (eL36 t1 a1)), (5, .own 0 2 0 x1_r0.length), (6, .i x1_6), (27, .b false)], [eR90 x1_r0]⟩ h0 ?_
            exact Jj1 false H
        · replace H := sF c1 H
          rw [decide_eq_false c1]
          refine goK hT 7 (K38 1111 1) ⟨36, [(4, .own 0 2 0 x1_r0.length)], [eR90 x1_r0]⟩ ?_
          obtain rfl := retC H
          exact ak_ret hf hX (av := .own 0 2 0 x1_r0.length) (by kernel_rfl) [0] (sel_of_eq (by kernel_rfl)) (by decide) (by rw [h0]; rfl) (by kernel_rfl) (fun _ h => all_cons (nr_vec spliceref04_Pair.nl) (fun _ h => all_nil h) h) (.own _ _ _ _)
  refine cutK [0] ⟨36, [(0, .d (eL90 t0 a0)), (1, .d (eL36 t1 a1)), (5, .own 0 2 0 ([] : List spliceref04_Pair).length), (6, .i 0)], [eR90 ([] : List spliceref04_Pair)]⟩ h0 ?_
  obtain ⟨n, H⟩ := loopC H
  exact (L n) 0 ([] : List spliceref04_Pair) H


theorem splicelaw05_TableClips.says {t2 : Bool} (a0 : List api_Pair) (a1 : List api_Pair) (a2 : List api_Span) {r : Bool} (H : splicelaw05_TableClips a0 a1 a2 = some r) : Says Try.prog 10 [] [.d (eL47 true a0), .d (eL47 true a1), .d (eL24 t2 a2)] [] (.b r) := by
  refine says_of Try.func10 rfl (nt := 61) rfl (Nat.le_of_ble_eq_true rfl) fun X hP h0 hX => ?_
  have hT : TabOk X.P T := hP ▸ tok
  have hf : X.P.funcs[10]? = some Try.f10 := hP ▸ Try.func10
  refine goK hT 10 (K10 1100 3) ⟨61, [(0, .d (eL47 true a0)), (1, .d (eL47 true a1)), (2, .d (eL24 t2 a2)), (11, .d (eL47 true a0)), (12, .d (.agg [.i 0, .i 0, .i 0, .ns, .i 0, .i 0, .i 0])), (13, .d (eL24 t2 a2))], []⟩ ?_
  refine ak_callP (avs := [.d (eL47 true a0), .d (.agg [.i 0, .i 0, .i 0, .ns, .i 0, .i 0, .i 0]), .d (eL24 t2 a2)]) (dst := some 14) (k' := (K10 1100 4)) [0, 1, 2, 14] [] hP enters_14 (splicelaw05_few.says (t0 := true) (t2 := t2) a0 (⟨0, 0, 0, [], (⟨0, 0⟩ : api_Span), 0⟩ : api_Mut) a2) (by kernel_rfl) (hands_none _) (.cons (pass_d _) (.cons (.aggd (.cons (pass_d _) (.cons (pass_d _) (.cons (pass_d _) (.cons (.nil _ _) (.cons (pass_d _) (.cons (pass_d _) (.cons (pass_d _) .nil)))))))) (.cons (pass_d _) .nil))) (st' := ⟨61, [(0, .d (eL47 true a0)), (1, .d (eL47 true a1)), (2, .d (eL24 t2 a2)), (14, .b (splicelaw05_few a0 (⟨0, 0, 0, [], (⟨0, 0⟩ : api_Span), 0⟩ : api_Mut) a2))], []⟩) (by kernel_rfl) ?_
  obtain ⟨v1, h1, H⟩ := idC H
  have Jj1 : ∀ (y1_21 : Bool), (splicelaw05_TableClips.j1 a0 a1 a2 y1_21) = some r → AK X 10 ((K10 110 1)) (Back X [] (.b r)) ⟨61, [(0, .d (eL47 true a0)), (1, .d (eL47 true a1)), (2, .d (eL24 t2 a2)), (21, .b y1_21)], []⟩ := by
    intro y1_21 H
    by_cases c4 : y1_21 = true
    · replace H := iT c4 H
      rw [c4]
      refine goK hT 3 (K10 110100 0) ⟨61, [], []⟩ ?_
      obtain ⟨v3, h5, H⟩ := ibC H
      refine ak_callP (avs := []) (dst := some 22) (k' := (K10 110100 1)) [22] [] hP enters_15 (splicelaw05_awake.says h5) (by kernel_rfl) (hands_none _) .nil (st' := ⟨61, [(22, .b v3)], []⟩) (by kernel_rfl) ?_
      refine goK hT 2 (K10 11010 1) ⟨61, [(6, .b v3)], []⟩ ?_
      obtain rfl := retC H
      exact ak_ret hf hX (av := .b v3) (by kernel_rfl) [] (sel_of_eq (by kernel_rfl)) (by decide) (by rw [h0]; rfl) (by kernel_rfl) (fun _ h => all_nil h) (.d (.v _))
    · replace H := iF c4 H
      rw [boF c4]
      refine goK hT 2 (K10 11 1) ⟨61, [(0, .d (eL47 true a0)), (1, .d (eL47 true a1)), (2, .d (eL24 t2 a2))], []⟩ ?_
      refine goK hT 4 (K10 1110 2) ⟨61, [(0, .d (eL47 true a0)), (1, .d (eL47 true a1)), (2, .d (eL24 t2 a2)), (24, .d (eL47 true a0)), (25, .d (eL47 true a1))], []⟩ ?_
      obtain ⟨v4, h6, H⟩ := ibC H
      refine ak_callP (avs := [.d (eL47 true a0), .d (eL47 true a1)]) (dst := some 26) (k' := (K10 1110 3)) [0, 1, 2, 26] [] hP enters_35 (table_Join.says a0 a1 h6) (by kernel_rfl) (hands_none _) (.cons (pass_d _) (.cons (pass_d _) .nil)) (st' := ⟨61, [(0, .d (eL47 true a0)), (1, .d (eL47 true a1)), (2, .d (eL24 t2 a2)), (26, .tup [.own 0 2 0 v4.1.length, .i v4.2])], [eR47 v4.1]⟩) (by kernel_rfl) ?_
      refine goK hT 9 (K10 11110 1) ⟨61, [(0, .d (eL47 true a0)), (1, .d (eL47 true a1)), (2, .d (eL24 t2 a2)), (7, .own 0 2 0 v4.1.length), (8, .i v4.2), (30, .d (eL47 true a0))], [eR47 v4.1]⟩ ?_
      obtain ⟨v5, h7, H⟩ := ibC H
      refine ak_callP (avs := [.d (eL47 true a0)]) (dst := some 31) (k' := (K10 11110 2)) [0, 1, 2, 7, 8, 31] [] hP enters_18 (splicelaw05_Refs.says (t0 := true) a0 h7) (by kernel_rfl) (hands_none _) (.cons (pass_d _) .nil) (st' := ⟨61, [(0, .d (eL47 true a0)), (1, .d (eL47 true a1)), (2, .d (eL24 t2 a2)), (7, .own 0 2 0 v4.1.length), (8, .i v4.2), (31, .own 1 2 0 v5.length)], [eR47 v4.1, eR90 v5]⟩) (by kernel_rfl) ?_
      refine goK hT 1 (K10 11110 3) ⟨61, [(0, .d (eL47 true a0)), (2, .d (eL24 t2 a2)), (7, .own 0 2 0 v4.1.length), (8, .i v4.2), (31, .own 1 2 0 v5.length), (32, .d (eL47 true a1))], [eR47 v4.1, eR90 v5]⟩ ?_
      obtain ⟨v6, h8, H⟩ := ibC H
      refine ak_callP (avs := [.d (eL47 true a1)]) (dst := some 33) (k' := (K10 11110 4)) [0, 2, 7, 8, 31, 33] [] hP enters_18 (splicelaw05_Refs.says (t0 := true) a1 h8) (by kernel_rfl) (hands_none _) (.cons (pass_d _) .nil) (st' := ⟨61, [(0, .d (eL47 true a0)), (2, .d (eL24 t2 a2)), (7, .own 0 2 0 v4.1.length), (8, .i v4.2), (31, .own 1 2 0 v5.length), (33, .own 2 2 0 v6.length)], [eR47 v4.1, eR90 v5, eR90 v6]⟩) (by kernel_rfl) ?_
      obtain ⟨v7, h9, H⟩ := ibC H
      refine ak_callP (avs := [.own 1 2 0 v5.length, .own 2 2 0 v6.length]) (dst := some 34) (k' := (K10 11110 5)) [0, 2, 7, 8, 34] [] hP enters_36 (spliceref05_Join.says (t0 := false) (t1 := false) v5 v6 h9) (by kernel_rfl) (hands_none _) (.cons (.lend (ty := 90) (by kernel_rfl) rfl) (.cons (.lend (ty := 90) (by kernel_rfl) rfl) .nil)) (st' := ⟨61, [(0, .d (eL47 true a0)), (2, .d (eL24 t2 a2)), (7, .own 0 2 0 v4.1.length), (8, .i v4.2), (34, .tup [.own 3 2 0 v7.1.length, .i v7.2])], [eR47 v4.1, eR90 v5, eR90 v6, eR90 v7.1]⟩) (by kernel_rfl) ?_
      refine goK hT 8 (K10 111110 0) ⟨61, [(0, .d (eL47 true a0)), (2, .d (eL24 t2 a2)), (7, .own 0 2 0 v4.1.length), (8, .i v4.2), (9, .own 3 2 0 v7.1.length), (10, .i v7.2)], [eR47 v4.1, eR90 v5, eR90 v6, eR90 v7.1]⟩ ?_
      obtain ⟨v8, h10, H⟩ := ibC H
      have Jj2 : ∀ (y2_6 : Bool), (splicelaw05_TableClips.j2 y2_6) = some r → AK X 10 ((K10 11111 1)) (Back X [] (.b r)) ⟨61, [(6, .b y2_6)], []⟩ := by
        intro y2_6 H
        obtain rfl := retC H
        exact ak_ret hf hX (av := .b y2_6) (by kernel_rfl) [] (sel_of_eq (by kernel_rfl)) (by decide) (by rw [h0]; rfl) (by kernel_rfl) (fun _ h => all_nil h) (.d (.v _))
      refine ak_callP (avs := []) (dst := some 37) (k' := (K10 111110 1)) [0, 2, 7, 8, 9, 10, 37] [] hP enters_15 (splicelaw05_awake.says h10) (by kernel_rfl) (hands_none _) .nil (st' := ⟨61, [(0, .d (eL47 true a0)), (2, .d (eL24 t2 a2)), (7, .own 0 2 0 v4.1.length), (8, .i v4.2), (9, .own 3 2 0 v7.1.length), (10, .i v7.2), (37, .b v8)], [eR47 v4.1, eR90 v5, eR90 v6, eR90 v7.1]⟩) (by kernel_rfl) ?_
      refine goK hT 1 (K10 111110 2) ⟨61, [(0, .d (eL47 true a0)), (2, .d (eL24 t2 a2)), (7, .own 0 2 0 v4.1.length), (8, .i v4.2), (9, .own 3 2 0 v7.1.length), (10, .i v7.2), (38, .b v8)], [eR47 v4.1, eR90 v5, eR90 v6, eR90 v7.1]⟩ ?_
      by_cases c11 : v8 = true
      · replace H := iT c11 H
        rw [c11]
        refine goK hT 2 (K10 111110 4) ⟨61, [(0, .d (eL47 true a0)), (2, .d (eL24 t2 a2)), (7, .own 0 2 0 v4.1.length), (8, .i v4.2), (9, .own 3 2 0 v7.1.length), (10, .i v7.2), (38, .b true), (39, .d (eL47 true a0)), (40, .d (eL24 t2 a2))], [eR47 v4.1, eR90 v5, eR90 v6, eR90 v7.1]⟩ ?_
        obtain ⟨v9, h12, H⟩ := ibC H
        refine ak_callP (avs := [.d (eL47 true a0), .d (eL24 t2 a2)]) (dst := some 41) (k' := (K10 111110 5)) [0, 2, 7, 8, 9, 10, 38, 41] [] hP enters_37 (table_Clip.says (t0 := true) (t1 := t2) a0 a2 h12) (by kernel_rfl) (hands_none _) (.cons (pass_d _) (.cons (pass_d _) .nil)) (st' := ⟨61, [(0, .d (eL47 true a0)), (2, .d (eL24 t2 a2)), (7, .own 0 2 0 v4.1.length), (8, .i v4.2), (9, .own 3 2 0 v7.1.length), (10, .i v7.2), (38, .b true), (41, .own 4 2 0 v9.length)], [eR47 v4.1, eR90 v5, eR90 v6, eR90 v7.1, eR47 v9]⟩) (by kernel_rfl) ?_
        obtain ⟨v10, h13, H⟩ := ibC H
        refine ak_callP (avs := [.own 4 2 0 v9.length]) (dst := some 42) (k' := (K10 111110 6)) [0, 2, 7, 8, 9, 10, 38, 42] [] hP enters_18 (splicelaw05_Refs.says (t0 := false) v9 h13) (by kernel_rfl) (hands_none _) (.cons (.lend (ty := 47) (by kernel_rfl) rfl) .nil) (st' := ⟨61, [(0, .d (eL47 true a0)), (2, .d (eL24 t2 a2)), (7, .own 0 2 0 v4.1.length), (8, .i v4.2), (9, .own 3 2 0 v7.1.length), (10, .i v7.2), (38, .b true), (42, .own 5 2 0 v10.length)], [eR47 v4.1, eR90 v5, eR90 v6, eR90 v7.1, eR47 v9, eR90 v10]⟩) (by kernel_rfl) ?_
        refine goK hT 1 (K10 111110 7) ⟨61, [(2, .d (eL24 t2 a2)), (7, .own 0 2 0 v4.1.length), (8, .i v4.2), (9, .own 3 2 0 v7.1.length), (10, .i v7.2), (38, .b true), (42, .own 5 2 0 v10.length), (43, .d (eL47 true a0))], [eR47 v4.1, eR90 v5, eR90 v6, eR90 v7.1, eR47 v9, eR90 v10]⟩ ?_
        obtain ⟨v11, h14, H⟩ := ibC H
        refine ak_callP (avs := [.d (eL47 true a0)]) (dst := some 44) (k' := (K10 111110 8)) [2, 7, 8, 9, 10, 38, 42, 44] [] hP enters_18 (splicelaw05_Refs.says (t0 := true) a0 h14) (by kernel_rfl) (hands_none _) (.cons (pass_d _) .nil) (st' := ⟨61, [(2, .d (eL24 t2 a2)), (7, .own 0 2 0 v4.1.length), (8, .i v4.2), (9, .own 3 2 0 v7.1.length), (10, .i v7.2), (38, .b true), (42, .own 5 2 0 v10.length), (44, .own 6 2 0 v11.length)], [eR47 v4.1, eR90 v5, eR90 v6, eR90 v7.1, eR47 v9, eR90 v10, eR90 v11]⟩) (by kernel_rfl) ?_
        refine goK hT 1 (K10 111110 9) ⟨61, [(7, .own 0 2 0 v4.1.length), (8, .i v4.2), (9, .own 3 2 0 v7.1.length), (10, .i v7.2), (38, .b true), (42, .own 5 2 0 v10.length), (44, .own 6 2 0 v11.length), (45, .d (eL24 t2 a2))], [eR47 v4.1, eR90 v5, eR90 v6, eR90 v7.1, eR47 v9, eR90 v10, eR90 v11]⟩ ?_
        obtain ⟨v12, h15, H⟩ := ibC H
        refine ak_callP (avs := [.d (eL24 t2 a2)]) (dst := some 46) (k' := (K10 111110 10)) [7, 8, 9, 10, 38, 42, 44, 46] [] hP enters_20 (splicelaw03_Refs.says (t0 := t2) a2 h15) (by kernel_rfl) (hands_none _) (.cons (pass_d _) .nil) (st' := ⟨61, [(7, .own 0 2 0 v4.1.length), (8, .i v4.2), (9, .own 3 2 0 v7.1.length), (10, .i v7.2), (38, .b true), (42, .own 5 2 0 v10.length), (44, .own 6 2 0 v11.length), (46, .own 7 2 0 v12.length)], [eR47 v4.1, eR90 v5, eR90 v6, eR90 v7.1, eR47 v9, eR90 v10, eR90 v11, eR36 v12]⟩) (by kernel_rfl) ?_
        obtain ⟨v13, h16, H⟩ := ibC H
        refine ak_callP (avs := [.own 6 2 0 v11.length, .own 7 2 0 v12.length]) (dst := some 47) (k' := (K10 111110 11)) [7, 8, 9, 10, 38, 42, 47] [] hP enters_38 (spliceref05_Clip.says (t0 := false) (t1 := false) v11 v12 h16) (by kernel_rfl) (hands_none _) (.cons (.lend (ty := 90) (by kernel_rfl) rfl) (.cons (.lend (ty := 36) (by kernel_rfl) rfl) .nil)) (st' := ⟨61, [(7, .own 0 2 0 v4.1.length), (8, .i v4.2), (9, .own 3 2 0 v7.1.length), (10, .i v7.2), (38, .b true), (42, .own 5 2 0 v10.length), (47, .own 8 2 0 v13.length)], [eR47 v4.1, eR90 v5, eR90 v6, eR90 v7.1, eR47 v9, eR90 v10, eR90 v11, eR36 v12, eR90 v13]⟩) (by kernel_rfl) ?_
        obtain ⟨v14, h17, H⟩ := ibC H
        refine ak_callP (avs := [.own 5 2 0 v10.length, .own 8 2 0 v13.length]) (dst := some 48) (k' := (K10 111110 12)) [7, 8, 9, 10, 38, 48] [] hP enters_21 (spliceref05_Same.says (t0 := false) (t1 := false) v10 v13 h17) (by kernel_rfl) (hands_none _) (.cons (.lend (ty := 90) (by kernel_rfl) rfl) (.cons (.lend (ty := 90) (by kernel_rfl) rfl) .nil)) (st' := ⟨61, [(7, .own 0 2 0 v4.1.length), (8, .i v4.2), (9, .own 3 2 0 v7.1.length), (10, .i v7.2), (38, .b true), (48, .b v14)], [eR47 v4.1, eR90 v5, eR90 v6, eR90 v7.1, eR47 v9, eR90 v10, eR90 v11, eR36 v12, eR90 v13]⟩) (by kernel_rfl) ?_
        refine goK hT 2 (K10 111110 14) ⟨61, [(7, .own 0 2 0 v4.1.length), (8, .i v4.2), (9, .own 3 2 0 v7.1.length), (10, .i v7.2), (50, .b v14)], [eR47 v4.1, eR90 v5, eR90 v6, eR90 v7.1, eR47 v9, eR90 v10, eR90 v11, eR36 v12, eR90 v13]⟩ ?_
        by_cases c18 : v14 = true
        · replace H := iT c18 H
          rw [c18]
          refine goK hT 1 (K10 111110 15) ⟨61, [(8, .i v4.2), (9, .own 3 2 0 v7.1.length), (10, .i v7.2), (50, .b true), (51, .own 0 2 0 v4.1.length)], [eR47 v4.1, eR90 v5, eR90 v6, eR90 v7.1, eR47 v9, eR90 v10, eR90 v11, eR36 v12, eR90 v13]⟩ ?_
          obtain ⟨v15, h19, H⟩ := ibC H
          refine ak_callP (avs := [.own 0 2 0 v4.1.length]) (dst := some 52) (k' := (K10 111110 16)) [8, 9, 10, 50, 52] [] hP enters_18 (splicelaw05_Refs.says (t0 := false) v4.1 h19) (by kernel_rfl) (hands_none _) (.cons (.lend (ty := 47) (by kernel_rfl) rfl) .nil) (st' := ⟨61, [(8, .i v4.2), (9, .own 3 2 0 v7.1.length), (10, .i v7.2), (50, .b true), (52, .own 9 2 0 v15.length)], [eR47 v4.1, eR90 v5, eR90 v6, eR90 v7.1, eR47 v9, eR90 v10, eR90 v11, eR36 v12, eR90 v13, eR90 v15]⟩) (by kernel_rfl) ?_
          refine goK hT 1 (K10 111110 17) ⟨61, [(8, .i v4.2), (10, .i v7.2), (50, .b true), (52, .own 9 2 0 v15.length), (53, .own 3 2 0 v7.1.length)], [eR47 v4.1, eR90 v5, eR90 v6, eR90 v7.1, eR47 v9, eR90 v10, eR90 v11, eR36 v12, eR90 v13, eR90 v15]⟩ ?_
          obtain ⟨v16, h20, H⟩ := ibC H
          refine ak_callP (avs := [.own 9 2 0 v15.length, .own 3 2 0 v7.1.length]) (dst := some 54) (k' := (K10 111110 18)) [8, 10, 50, 54] [] hP enters_21 (spliceref05_Same.says (t0 := false) (t1 := false) v15 v7.1 h20) (by kernel_rfl) (hands_none _) (.cons (.lend (ty := 90) (by kernel_rfl) rfl) (.cons (.lend (ty := 90) (by kernel_rfl) rfl) .nil)) (st' := ⟨61, [(8, .i v4.2), (10, .i v7.2), (50, .b true), (54, .b v16)], [eR47 v4.1, eR90 v5, eR90 v6, eR90 v7.1, eR47 v9, eR90 v10, eR90 v11, eR36 v12, eR90 v13, eR90 v15]⟩) (by kernel_rfl) ?_
          refine goK hT 2 (K10 111110 20) ⟨61, [(8, .i v4.2), (10, .i v7.2), (56, .b v16)], [eR47 v4.1, eR90 v5, eR90 v6, eR90 v7.1, eR47 v9, eR90 v10, eR90 v11, eR36 v12, eR90 v13, eR90 v15]⟩ ?_
          by_cases c21 : v16 = true
          · replace H := iT c21 H
            rw [c21]
            refine goK hT 6 (K10 11111 1) ⟨61, [(6, .b (v4.2 == v7.2))], [eR47 v4.1, eR90 v5, eR90 v6, eR90 v7.1, eR47 v9, eR90 v10, eR90 v11, eR36 v12, eR90 v13, eR90 v15]⟩ ?_
            refine cutK [] ⟨61, [(6, .b (v4.2 == v7.2))], []⟩ h0 ?_
            exact Jj2 (v4.2 == v7.2) H
          · replace H := iF c21 H
            rw [boF c21]
            refine goK hT 6 (K10 11111 1) ⟨61, [(6, .b false)], [eR47 v4.1, eR90 v5, eR90 v6, eR90 v7.1, eR47 v9, eR90 v10, eR90 v11, eR36 v12, eR90 v13, eR90 v15]⟩ ?_
            refine cutK [] ⟨61, [(6, .b false)], []⟩ h0 ?_
            exact Jj2 false H
        · replace H := iF c18 H
          rw [boF c18]
          refine goK hT 12 (K10 11111 1) ⟨61, [(6, .b false)], [eR47 v4.1, eR90 v5, eR90 v6, eR90 v7.1, eR47 v9, eR90 v10, eR90 v11, eR36 v12, eR90 v13]⟩ ?_
          refine cutK [] ⟨61, [(6, .b false)], []⟩ h0 ?_
          exact Jj2 false H
      · replace H := iF c11 H
        rw [boF c11]
        refine goK hT 24 (K10 11111 1) ⟨61, [(6, .b false)], [eR47 v4.1, eR90 v5, eR90 v6, eR90 v7.1]⟩ ?_
        refine cutK [] ⟨61, [(6, .b false)], []⟩ h0 ?_
        exact Jj2 false H
  rw [← h1]
  refine goK hT 2 (K10 1100 6) ⟨61, [(0, .d (eL47 true a0)), (1, .d (eL47 true a1)), (2, .d (eL24 t2 a2)), (16, .b (!v1))], []⟩ ?_
  by_cases c2 : v1 = true
  · replace H := iT c2 H
    rw [c2]
    refine goK hT 2 (K10 1100 8) ⟨61, [(0, .d (eL47 true a0)), (1, .d (eL47 true a1)), (2, .d (eL24 t2 a2)), (16, .b false), (17, .d (eL47 true a1)), (18, .d (.agg [.i 0, .i 0, .i 0, .ns, .i 0, .i 0, .i 0]))], []⟩ ?_
    refine ak_callP (avs := [.d (eL47 true a1), .d (.agg [.i 0, .i 0, .i 0, .ns, .i 0, .i 0, .i 0]), .ns]) (dst := some 19) (k' := (K10 1100 9)) [0, 1, 2, 16, 19] [] hP enters_14 (splicelaw05_few.says (t0 := true) (t2 := true) a1 (⟨0, 0, 0, [], (⟨0, 0⟩ : api_Span), 0⟩ : api_Mut) ([] : List api_Span)) (by kernel_rfl) (hands_none _) (.cons (pass_d _) (.cons (.aggd (.cons (pass_d _) (.cons (pass_d _) (.cons (pass_d _) (.cons (.nil _ _) (.cons (pass_d _) (.cons (pass_d _) (.cons (pass_d _) .nil)))))))) (.cons (.nil _ _) .nil))) (st' := ⟨61, [(0, .d (eL47 true a0)), (1, .d (eL47 true a1)), (2, .d (eL24 t2 a2)), (16, .b false), (19, .b (splicelaw05_few a1 (⟨0, 0, 0, [], (⟨0, 0⟩ : api_Span), 0⟩ : api_Mut) ([] : List api_Span)))], []⟩) (by kernel_rfl) ?_
    obtain ⟨v2, h3, H⟩ := idC H
    rw [← h3]
    refine goK hT 3 (K10 110 1) ⟨61, [(0, .d (eL47 true a0)), (1, .d (eL47 true a1)), (2, .d (eL24 t2 a2)), (21, .b (!v2))], []⟩ ?_
    refine cutK [] ⟨61, [(0, .d (eL47 true a0)), (1, .d (eL47 true a1)), (2, .d (eL24 t2 a2)), (21, .b (!v2))], []⟩ h0 ?_
    exact Jj1 (!v2) H
  · replace H := iF c2 H
    rw [boF c2]
    refine goK hT 6 (K10 110 1) ⟨61, [(0, .d (eL47 true a0)), (1, .d (eL47 true a1)), (2, .d (eL24 t2 a2)), (21, .b true)], []⟩ ?_
    refine cutK [] ⟨61, [(0, .d (eL47 true a0)), (1, .d (eL47 true a1)), (2, .d (eL24 t2 a2)), (21, .b true)], []⟩ h0 ?_
    exact Jj1 true H
end Go.SyP
