/- Certificates, printed by gen.py. -/
import Derived.Test.YticmlllaimjdcaaG15D
import Derived.Test.YticmlllaimjdcaaG15I
import Derived.Test.YticmlllaimjdcaaG15W
set_option linter.unusedVariables false
set_option linter.unusedSimpArgs false
namespace Go.SyP
open Go Go.Sy Go.Proofs


theorem splicelaw15_fewEntries.says {t0 : Bool} (a0 : List api_Entry) {r : Bool} (H : splicelaw15_fewEntries a0 = some r) : Says Try.prog 8 [] [.d (eL54 t0 a0)] [] (.b r) := by
  refine says_of Try.func8 rfl (nt := 22) rfl (Nat.le_of_ble_eq_true rfl) fun X hP h0 hX => ?_
  have hT : TabOk X.P T := hP ▸ tok
  have hf : X.P.funcs[8]? = some Try.f8 := hP ▸ Try.func8
  refine goK hT 11 (K8 11010 0) ⟨22, [(0, .d (eL54 t0 a0)), (3, .i 0)], []⟩ ?_
  have L : ∀ n, (∀ (x1_3 : Int), iter (splicelaw15_fewEntries.step a0) n (.l1 x1_3) = some r → AK X 8 ((K8 11010 0)) (Back X [] (.b r)) ⟨22, [(0, .d (eL54 t0 a0)), (3, .i x1_3)], []⟩) := by
    intro n
    induction n with
    | zero => exact fun _ H => iter0 H
    | succ n ih =>
      · intro x1_3 H
        refine goK hT 8 (K8 1101000 1) ⟨22, [(0, .d (eL54 t0 a0)), (3, .i x1_3), (7, .b (decide (x1_3 < (a0.length : Int))))], []⟩ ?_
        by_cases c1 : x1_3 < (a0.length : Int)
        · replace H := sT c1 H
          have Jj1 : ∀ (y1_21 : Bool), stk (splicelaw15_fewEntries.j1 x1_3 y1_21) (iter (splicelaw15_fewEntries.step a0) n) = some r → AK X 8 ((K8 110100100 1)) (Back X [] (.b r)) ⟨22, [(0, .d (eL54 t0 a0)), (3, .i x1_3), (21, .b y1_21)], []⟩ := by
            intro y1_21 H
            by_cases c4 : y1_21 = true
            · replace H := sT c4 H
              rw [c4]
              refine goK hT 5 (K8 11010010010 1) ⟨22, [(2, .b false)], []⟩ ?_
              obtain rfl := retC H
              exact ak_ret hf hX (av := .b false) (by kernel_rfl) [] (sel_of_eq (by kernel_rfl)) (by decide) (by rw [h0]; rfl) (by kernel_rfl) (fun _ h => all_nil h) (.d (.v _))
            · replace H := sF c4 H
              rw [boF c4]
              refine goK hT 3 (K8 1101001 1) ⟨22, [(0, .d (eL54 t0 a0)), (3, .i x1_3)], []⟩ ?_
              refine goK hT 6 (K8 11010 0) ⟨22, [(0, .d (eL54 t0 a0)), (3, .i (IntKind.wrap .i64 (x1_3 + 1)))], []⟩ ?_
              refine cutK [] ⟨22, [(0, .d (eL54 t0 a0)), (3, .i (IntKind.wrap .i64 (x1_3 + 1)))], []⟩ h0 ?_
              exact ih (IntKind.wrap .i64 (x1_3 + 1)) H
          rw [decide_eq_true c1]
          refine goK hT 2 (K8 110100 1) ⟨22, [(0, .d (eL54 t0 a0)), (3, .i x1_3)], []⟩ ?_
          refine goK hT 7 (K8 1101001000 3) ⟨22, [(0, .d (eL54 t0 a0)), (3, .i x1_3), (12, .b (decide (x1_3 > 60)))], []⟩ ?_
          by_cases c2 : x1_3 > 60
          · replace H := sT c2 H
            rw [decide_eq_true c2]
            refine goK hT 10 (K8 110100100 1) ⟨22, [(0, .d (eL54 t0 a0)), (3, .i x1_3), (21, .b true)], []⟩ ?_
            refine cutK [] ⟨22, [(0, .d (eL54 t0 a0)), (3, .i x1_3), (21, .b true)], []⟩ h0 ?_
            exact Jj1 true H
          · replace H := sF c2 H
            rw [decide_eq_false c2]
            refine goK hT 2 (K8 1101001000 5) ⟨22, [(0, .d (eL54 t0 a0)), (3, .i x1_3), (12, .b false), (13, .d (eL54 t0 a0)), (14, .i x1_3)], []⟩ ?_
            obtain ⟨h3, H⟩ := sC H
            refine ak_idx hT [0, 3, 12, 15] (i := x1_3) (n := (a0.length : Int)) h3.1 h3.2 (k' := (K8 1101001000 6)) (st' := ⟨22, [(0, .d (eL54 t0 a0)), (3, .i x1_3), (12, .b false), (15, .d (eP54 t0 a0 x1_3.toNat 0))], []⟩) (by kernel_rfl) ?_
            refine goK hT 7 (K8 110100100 1) ⟨22, [(0, .d (eL54 t0 a0)), (3, .i x1_3), (21, .b (decide (((((a0.getD x1_3.toNat api_Entry.z).M).Pairs).length : Int) > 20)))], []⟩ ?_
            refine cutK [] ⟨22, [(0, .d (eL54 t0 a0)), (3, .i x1_3), (21, .b (decide (((((a0.getD x1_3.toNat api_Entry.z).M).Pairs).length : Int) > 20)))], []⟩ h0 ?_
            exact Jj1 (decide (((((a0.getD x1_3.toNat api_Entry.z).M).Pairs).length : Int) > 20)) H
        · replace H := sF c1 H
          rw [decide_eq_false c1]
          refine goK hT 6 (K8 111 1) ⟨22, [(2, .b true)], []⟩ ?_
          obtain rfl := retC H
          exact ak_ret hf hX (av := .b true) (by kernel_rfl) [] (sel_of_eq (by kernel_rfl)) (by decide) (by rw [h0]; rfl) (by kernel_rfl) (fun _ h => all_nil h) (.d (.v _))
  refine cutK [] ⟨22, [(0, .d (eL54 t0 a0)), (3, .i 0)], []⟩ h0 ?_
  obtain ⟨n, H⟩ := loopC H
  exact (L n) 0 H


theorem splicelaw15_one.says (a0 : Int) (a1 : Int) (a2 : Int) : Says Try.prog 26 [] [.i a0, .i a1, .i a2] [] (.d (eG42 (splicelaw15_one a0 a1 a2))) := by
  obtain ⟨r, H⟩ : ∃ r, splicelaw15_one a0 a1 a2 = r := ⟨_, rfl⟩
  rw [H]
  refine says_of Try.func26 rfl (nt := 14) rfl (Nat.le_of_ble_eq_true rfl) fun X hP h0 hX => ?_
  have hT : TabOk X.P T := hP ▸ tok
  have hf : X.P.funcs[26]? = some Try.f26 := hP ▸ Try.func26
  refine goK hT 13 (K26 110 7) ⟨14, [(6, .ptr 0 0 0 0), (13, .agg [.i 1, .i a0, .i a0, .own 1 2 0 1, .i 0, .i 0, .i 0])], [.box 42 [.i 0, .i 0, .i 0, .ns, .i 0, .i 0, .i 0], .flat false 2 65 1 (fun j => [[.i a1, .i a2]].getD j [])]⟩ ?_
  refine ak_row 1 (kk := 2) (fz := false) (ty := 65) (n := ([(⟨a1, a2⟩ : api_Pair)] : List api_Pair).length) (vec api_Pair.e api_Pair.z ([(⟨a1, a2⟩ : api_Pair)] : List api_Pair)) (by kernel_rfl) vec_lit (st' := ⟨14, [(6, .ptr 0 0 0 0), (13, .agg [.i 1, .i a0, .i a0, .own 1 2 0 1, .i 0, .i 0, .i 0])], [.box 42 [.i 0, .i 0, .i 0, .ns, .i 0, .i 0, .i 0], eR65 ([(⟨a1, a2⟩ : api_Pair)] : List api_Pair)]⟩) (by kernel_rfl) ?_
  refine ak_freeze 1 (kk := 2) (n := ([(⟨a1, a2⟩ : api_Pair)] : List api_Pair).length) (ty := 65) (g := vec api_Pair.e api_Pair.z ([(⟨a1, a2⟩ : api_Pair)] : List api_Pair)) (by kernel_rfl) (st' := ⟨14, [(6, .ptr 0 0 0 0), (13, .agg [.i 1, .i a0, .i a0, .own 1 2 0 1, .i 0, .i 0, .i 0])], [.box 42 [.i 0, .i 0, .i 0, .ns, .i 0, .i 0, .i 0], eF65 ([(⟨a1, a2⟩ : api_Pair)] : List api_Pair)]⟩) (by kernel_rfl) ?_
  refine ak_sealS (av := .agg [.i 1, .i a0, .i a0, .own 1 2 0 1, .i 0, .i 0, .i 0]) (y := .agg [.i 1, .i a0, .i a0, eL65 true ([(⟨a1, a2⟩ : api_Pair)] : List api_Pair), .i 0, .i 0, .i 0]) [6, 13] 13 (st' := ⟨14, [(6, .ptr 0 0 0 0), (13, .d (.agg [.i 1, .i a0, .i a0, eL65 true ([(⟨a1, a2⟩ : api_Pair)] : List api_Pair), .i 0, .i 0, .i 0]))], [.box 42 [.i 0, .i 0, .i 0, .ns, .i 0, .i 0, .i 0], eF65 ([(⟨a1, a2⟩ : api_Pair)] : List api_Pair)]⟩) (by kernel_rfl) (.agg (.cons (.d _) (.cons (.d _) (.cons (.d _) (.cons (.own (ty := 65) (k := 2) (by kernel_rfl)) (.cons (.d _) (.cons (.d _) (.cons (.d _) .nil)))))))) (by kernel_rfl) ?_
  refine goK hT 2 (K26 11 1) ⟨14, [(6, .ptr 0 0 0 0)], [.box 42 [.i 1, .i a0, .i a0, .d (eL65 true ([(⟨a1, a2⟩ : api_Pair)] : List api_Pair)), .i 0, .i 0, .i 0], eF65 ([(⟨a1, a2⟩ : api_Pair)] : List api_Pair)]⟩ ?_
  obtain rfl := H
  exact ak_retM hT hf hX (av := .d (.agg [.i 1, .i a0, .i a0, eL65 true ([(⟨a1, a2⟩ : api_Pair)] : List api_Pair), .i 0, .i 0, .i 0])) (by kernel_rfl) [] (sel_of_eq (by kernel_rfl)) (by decide) (by rw [h0]; rfl) (by kernel_rfl) (fun _ h => all_nil h) (.d (.agg (api_Mut.nl _)))


theorem span_One.says (a0 : api_Span) : Says Try.prog 51 [] [.d (eG40 a0)] [] (.b (span_One a0)) := by
  obtain ⟨r, H⟩ : ∃ r, span_One a0 = r := ⟨_, rfl⟩
  rw [H]
  refine says_of Try.func51 rfl (nt := 18) rfl (Nat.le_of_ble_eq_true rfl) fun X hP h0 hX => ?_
  have hT : TabOk X.P T := hP ▸ tok
  have hf : X.P.funcs[51]? = some Try.f51 := hP ▸ Try.func51
  have Jj1 : ∀ (y1_2 : Bool), (span_One.j1 y1_2) = r → AK X 51 ((K51 11 1)) (Back X [] (.b r)) ⟨18, [(2, .b y1_2)], []⟩ := by
    intro y1_2 H
    obtain rfl := H
    exact ak_ret hf hX (av := .b y1_2) (by kernel_rfl) [] (sel_of_eq (by kernel_rfl)) (by decide) (by rw [h0]; rfl) (by kernel_rfl) (fun _ h => all_nil h) (.d (.v _))
  refine goK hT 11 (K51 110 4) ⟨18, [(1, .ptr 0 0 0 0), (6, .b (decide (a0.Lo ≥ 0)))], [.box 40 (eC40 a0)]⟩ ?_
  by_cases c1 : a0.Lo ≥ 0
  · replace H := iT c1 H
    rw [decide_eq_true c1]
    refine goK hT 7 (K51 110 11) ⟨18, [(1, .ptr 0 0 0 0), (13, .b (decide (a0.Lo < a0.Hi)))], [.box 40 (eC40 a0)]⟩ ?_
    by_cases c2 : a0.Lo < a0.Hi
    · replace H := iT c2 H
      rw [decide_eq_true c2]
      refine goK hT 6 (K51 11 1) ⟨18, [(2, .b (decide (a0.Hi ≤ 4096)))], [.box 40 (eC40 a0)]⟩ ?_
      refine cutK [] ⟨18, [(2, .b (decide (a0.Hi ≤ 4096)))], []⟩ h0 ?_
      exact Jj1 (decide (a0.Hi ≤ 4096)) H
    · replace H := iF c2 H
      rw [decide_eq_false c2]
      refine goK hT 6 (K51 11 1) ⟨18, [(2, .b false)], [.box 40 (eC40 a0)]⟩ ?_
      refine cutK [] ⟨18, [(2, .b false)], []⟩ h0 ?_
      exact Jj1 false H
  · replace H := iF c1 H
    rw [decide_eq_false c1]
    refine goK hT 13 (K51 11 1) ⟨18, [(2, .b false)], [.box 40 (eC40 a0)]⟩ ?_
    refine cutK [] ⟨18, [(2, .b false)], []⟩ h0 ?_
    exact Jj1 false H


theorem span_Check.says {t0 : Bool} (a0 : List api_Span) {r : Bool} (H : span_Check a0 = some r) : Says Try.prog 27 [] [.d (eL40 t0 a0)] [] (.b r) := by
  refine says_of Try.func27 rfl (nt := 34) rfl (Nat.le_of_ble_eq_true rfl) fun X hP h0 hX => ?_
  have hT : TabOk X.P T := hP ▸ tok
  have hf : X.P.funcs[27]? = some Try.f27 := hP ▸ Try.func27
  refine goK hT 13 (K27 11010 0) ⟨34, [(0, .d (eL40 t0 a0)), (5, .d (eL40 t0 a0)), (6, .i (a0.length : Int)), (7, .i 0)], []⟩ ?_
  have L : ∀ n, (∀ (x1_7 : Int), iter (span_Check.step a0) n (.l1 x1_7) = some r → AK X 27 ((K27 11010 0)) (Back X [] (.b r)) ⟨34, [(0, .d (eL40 t0 a0)), (5, .d (eL40 t0 a0)), (6, .i (a0.length : Int)), (7, .i x1_7)], []⟩) := by
    intro n
    induction n with
    | zero => exact fun _ H => iter0 H
    | succ n ih =>
      · intro x1_7 H
        refine goK hT 5 (K27 1101001 0) ⟨34, [(0, .d (eL40 t0 a0)), (5, .d (eL40 t0 a0)), (6, .i (a0.length : Int)), (7, .i x1_7), (8, .b (decide (x1_7 < (a0.length : Int))))], []⟩ ?_
        by_cases c1 : x1_7 < (a0.length : Int)
        · replace H := sT c1 H
          rw [decide_eq_true c1]
          refine goK hT 2 (K27 1101001 1) ⟨34, [(0, .d (eL40 t0 a0)), (5, .d (eL40 t0 a0)), (6, .i (a0.length : Int)), (7, .i x1_7)], []⟩ ?_
          refine goK hT 5 (K27 11010011000 1) ⟨34, [(0, .d (eL40 t0 a0)), (5, .d (eL40 t0 a0)), (6, .i (a0.length : Int)), (7, .i x1_7), (9, .i x1_7)], []⟩ ?_
          obtain ⟨h2, H⟩ := sC H
          have Jj1 : ∀ (y1_29 : Bool), stk (span_Check.j1 x1_7 y1_29) (iter (span_Check.step a0) n) = some r → AK X 27 ((K27 11010011001 1)) (Back X [] (.b r)) ⟨34, [(0, .d (eL40 t0 a0)), (5, .d (eL40 t0 a0)), (6, .i (a0.length : Int)), (7, .i x1_7), (29, .b y1_29)], []⟩ := by
            intro y1_29 H
            by_cases c6 : y1_29 = true
            · replace H := sT c6 H
              rw [c6]
              refine goK hT 5 (K27 1101001100110 1) ⟨34, [(2, .b false)], []⟩ ?_
              obtain rfl := retC H
              exact ak_ret hf hX (av := .b false) (by kernel_rfl) [] (sel_of_eq (by kernel_rfl)) (by decide) (by rw [h0]; rfl) (by kernel_rfl) (fun _ h => all_nil h) (.d (.v _))
            · replace H := sF c6 H
              rw [boF c6]
              refine goK hT 3 (K27 11010011 1) ⟨34, [(0, .d (eL40 t0 a0)), (5, .d (eL40 t0 a0)), (6, .i (a0.length : Int)), (7, .i x1_7)], []⟩ ?_
              refine goK hT 5 (K27 11010 0) ⟨34, [(0, .d (eL40 t0 a0)), (5, .d (eL40 t0 a0)), (6, .i (a0.length : Int)), (7, .i (IntKind.wrap .i64 (x1_7 + 1)))], []⟩ ?_
              refine cutK [] ⟨34, [(0, .d (eL40 t0 a0)), (5, .d (eL40 t0 a0)), (6, .i (a0.length : Int)), (7, .i (IntKind.wrap .i64 (x1_7 + 1)))], []⟩ h0 ?_
              exact ih (IntKind.wrap .i64 (x1_7 + 1)) H
          refine ak_idx hT [0, 5, 6, 7, 9, 10] (i := x1_7) (n := (a0.length : Int)) h2.1 h2.2 (k' := (K27 11010011000 2)) (st' := ⟨34, [(0, .d (eL40 t0 a0)), (5, .d (eL40 t0 a0)), (6, .i (a0.length : Int)), (7, .i x1_7), (9, .i x1_7), (10, .d (eP40 t0 a0 x1_7.toNat 0))], []⟩) (by kernel_rfl) ?_
          refine goK hT 6 (K27 11010011001 0) ⟨34, [(0, .d (eL40 t0 a0)), (3, .i x1_7), (4, .ptr 0 0 0 0), (5, .d (eL40 t0 a0)), (6, .i (a0.length : Int)), (7, .i x1_7)], [.box 40 (eC40 (a0.getD x1_7.toNat api_Span.z))]⟩ ?_
          by_cases c3 : (span_One (a0.getD x1_7.toNat api_Span.z)) = true
          · replace H := sT c3 H
            by_cases c4 : x1_7 > 0
            · replace H := sT c4 H
              obtain ⟨h5, H⟩ := sC H
              refine drawK (hP ▸ mixed) 18 [0, 3, 4, 5, 6, 7] [some (.d (eG40 (a0.getD x1_7.toNat api_Span.z))), some (.b true), some (.b false), some (.b false), some (.i x1_7), some (.b true), some (.b true), some (.ptr 0 0 0 0), some (.i ((a0.getD x1_7.toNat api_Span.z).Lo)), some (.d (eL40 t0 a0)), some (.i x1_7), some (.i (IntKind.wrap .i64 (x1_7 - 1))), some (.d (eP40 t0 a0 ((IntKind.wrap .i64 (x1_7 - 1)).toNat) 0)), some (.d (eP40 t0 a0 ((IntKind.wrap .i64 (x1_7 - 1)).toNat) 1)), some (.i ((a0.getD ((IntKind.wrap .i64 (x1_7 - 1)).toNat) api_Span.z).Hi)), some (.b (decide (((a0.getD x1_7.toNat api_Span.z).Lo) ≤ ((a0.getD ((IntKind.wrap .i64 (x1_7 - 1)).toNat) api_Span.z).Hi)))), some (.b (decide (((a0.getD x1_7.toNat api_Span.z).Lo) ≤ ((a0.getD ((IntKind.wrap .i64 (x1_7 - 1)).toNat) api_Span.z).Hi)))), some (.b (decide (((a0.getD x1_7.toNat api_Span.z).Lo) ≤ ((a0.getD ((IntKind.wrap .i64 (x1_7 - 1)).toNat) api_Span.z).Hi))))] (opG (opG (opG (opG (opG (opS (opG (opG (opG (opG (opG (opG (opV (opG (opG (opG (opS (opG op0 hT) (fun R rest h => ak_callD (avs := [.d (eG40 (a0.getD x1_7.toNat api_Span.z))]) (dst := some 13) hP enters_51 (by have q := span_One.says (a0.getD x1_7.toNat api_Span.z); rw [c3] at q; exact q) (by kernel_rfl) (.cons (pass_d _) .nil) (by kernel_rfl) h)) hT) hT) hT) hT 17 (.b (decide (x1_7 > 0))) (.b true) (by rw [decide_eq_true c4])) hT) hT) hT) hT) hT) hT) (fun R rest h => ak_idx0 hT (i := IntKind.wrap .i64 (x1_7 - 1)) (n := (a0.length : Int)) h5.1 h5.2 (by kernel_rfl) h)) hT) hT) hT) hT) hT) ?_
              refine goK hT 1 (K27 11010011001 1) ⟨34, [(0, .d (eL40 t0 a0)), (5, .d (eL40 t0 a0)), (6, .i (a0.length : Int)), (7, .i x1_7), (29, .b (decide (((a0.getD x1_7.toNat api_Span.z).Lo) ≤ ((a0.getD ((IntKind.wrap .i64 (x1_7 - 1)).toNat) api_Span.z).Hi))))], [.box 40 (eC40 (a0.getD x1_7.toNat api_Span.z))]⟩ ?_
              refine cutK [] ⟨34, [(0, .d (eL40 t0 a0)), (5, .d (eL40 t0 a0)), (6, .i (a0.length : Int)), (7, .i x1_7), (29, .b (decide (((a0.getD x1_7.toNat api_Span.z).Lo) ≤ ((a0.getD ((IntKind.wrap .i64 (x1_7 - 1)).toNat) api_Span.z).Hi))))], []⟩ h0 ?_
              exact Jj1 (decide (((a0.getD x1_7.toNat api_Span.z).Lo) ≤ ((a0.getD ((IntKind.wrap .i64 (x1_7 - 1)).toNat) api_Span.z).Hi))) H
            · replace H := sF c4 H
              refine drawK (hP ▸ mixed) 18 [0, 3, 4, 5, 6, 7] [some (.d (eG40 (a0.getD x1_7.toNat api_Span.z))), some (.b true), some (.b false), some (.b false), some (.i x1_7), some (.b false), some (.b false), some (.tup []), some (.tup []), some (.tup []), some (.tup []), some (.tup []), some (.tup []), some (.tup []), some (.tup []), some (.tup []), some (.b false), some (.b false)] (opG (opG (opG (opG (opG (opG (opG (opG (opG (opG (opG (opG (opV (opG (opG (opG (opS (opG op0 hT) (fun R rest h => ak_callD (avs := [.d (eG40 (a0.getD x1_7.toNat api_Span.z))]) (dst := some 13) hP enters_51 (by have q := span_One.says (a0.getD x1_7.toNat api_Span.z); rw [c3] at q; exact q) (by kernel_rfl) (.cons (pass_d _) .nil) (by kernel_rfl) h)) hT) hT) hT) hT 17 (.b (decide (x1_7 > 0))) (.b false) (by rw [decide_eq_false c4])) hT) hT) hT) hT) hT) hT) hT) hT) hT) hT) hT) hT) ?_
              refine goK hT 1 (K27 11010011001 1) ⟨34, [(0, .d (eL40 t0 a0)), (5, .d (eL40 t0 a0)), (6, .i (a0.length : Int)), (7, .i x1_7), (29, .b false)], [.box 40 (eC40 (a0.getD x1_7.toNat api_Span.z))]⟩ ?_
              refine cutK [] ⟨34, [(0, .d (eL40 t0 a0)), (5, .d (eL40 t0 a0)), (6, .i (a0.length : Int)), (7, .i x1_7), (29, .b false)], []⟩ h0 ?_
              exact Jj1 false H
          · replace H := sF c3 H
            refine drawK (hP ▸ mixed) 18 [0, 3, 4, 5, 6, 7] [some (.d (eG40 (a0.getD x1_7.toNat api_Span.z))), some (.b false), some (.b true), some (.b true), some (.tup []), some (.tup []), some (.tup []), some (.tup []), some (.tup []), some (.tup []), some (.tup []), some (.tup []), some (.tup []), some (.tup []), some (.tup []), some (.tup []), some (.tup []), some (.b true)] (opG (opG (opG (opG (opG (opG (opG (opG (opG (opG (opG (opG (opG (opG (opG (opG (opS (opG op0 hT) (fun R rest h => ak_callD (avs := [.d (eG40 (a0.getD x1_7.toNat api_Span.z))]) (dst := some 13) hP enters_51 (by have q := span_One.says (a0.getD x1_7.toNat api_Span.z); rw [boF c3] at q; exact q) (by kernel_rfl) (.cons (pass_d _) .nil) (by kernel_rfl) h)) hT) hT) hT) hT) hT) hT) hT) hT) hT) hT) hT) hT) hT) hT) hT) hT) ?_
            refine goK hT 1 (K27 11010011001 1) ⟨34, [(0, .d (eL40 t0 a0)), (5, .d (eL40 t0 a0)), (6, .i (a0.length : Int)), (7, .i x1_7), (29, .b true)], [.box 40 (eC40 (a0.getD x1_7.toNat api_Span.z))]⟩ ?_
            refine cutK [] ⟨34, [(0, .d (eL40 t0 a0)), (5, .d (eL40 t0 a0)), (6, .i (a0.length : Int)), (7, .i x1_7), (29, .b true)], []⟩ h0 ?_
            exact Jj1 true H
        · replace H := sF c1 H
          rw [decide_eq_false c1]
          refine goK hT 9 (K27 111 1) ⟨34, [(2, .b (decide ((a0.length : Int) ≤ 64)))], []⟩ ?_
          obtain rfl := retC H
          exact ak_ret hf hX (av := .b (decide ((a0.length : Int) ≤ 64))) (by kernel_rfl) [] (sel_of_eq (by kernel_rfl)) (by decide) (by rw [h0]; rfl) (by kernel_rfl) (fun _ h => all_nil h) (.d (.v _))
  refine cutK [] ⟨34, [(0, .d (eL40 t0 a0)), (5, .d (eL40 t0 a0)), (6, .i (a0.length : Int)), (7, .i 0)], []⟩ h0 ?_
  obtain ⟨n, H⟩ := loopC H
  exact (L n) 0 H


theorem slices_IndexFunc_api_Entry.says {t0 : Bool} {ff1 : FuncId} {cc1 : List DV} (a0 : List api_Entry) (p1 : api_Entry → Option Bool) (he1 : Sy.Enters Try.prog ff1) (hp1 : ∀ (z0 : api_Entry) r, p1 z0 = some r → Says Try.prog ff1 [] ([.d (eG54 z0)] ++ List.map AV.d cc1) [] (.b r)) {r : Int} (H : slices_IndexFunc_api_Entry a0 p1 = some r) : Says Try.prog 52 [] [.d (eL54 t0 a0), .d (.fn ff1 cc1)] [] (.i r) := by
  refine says_of Try.func52 rfl (nt := 19) rfl (Nat.le_of_ble_eq_true rfl) fun X hP h0 hX => ?_
  have hT : TabOk X.P T := hP ▸ tok
  have hf : X.P.funcs[52]? = some Try.f52 := hP ▸ Try.func52
  refine goK hT 13 (K52 11010 0) ⟨19, [(0, .d (eL54 t0 a0)), (1, .d (.fn ff1 cc1)), (7, .i (a0.length : Int)), (8, .i 0)], []⟩ ?_
  have L : ∀ n, (∀ (x1_8 : Int), iter (slices_IndexFunc_api_Entry.step a0 p1) n (.l1 x1_8) = some r → AK X 52 ((K52 11010 0)) (Back X [] (.i r)) ⟨19, [(0, .d (eL54 t0 a0)), (1, .d (.fn ff1 cc1)), (7, .i (a0.length : Int)), (8, .i x1_8)], []⟩) := by
    intro n
    induction n with
    | zero => exact fun _ H => iter0 H
    | succ n ih =>
      · intro x1_8 H
        refine goK hT 5 (K52 1101001 0) ⟨19, [(0, .d (eL54 t0 a0)), (1, .d (.fn ff1 cc1)), (7, .i (a0.length : Int)), (8, .i x1_8), (9, .b (decide (x1_8 < (a0.length : Int))))], []⟩ ?_
        by_cases c1 : x1_8 < (a0.length : Int)
        · replace H := sT c1 H
          rw [decide_eq_true c1]
          refine goK hT 2 (K52 1101001 1) ⟨19, [(0, .d (eL54 t0 a0)), (1, .d (.fn ff1 cc1)), (7, .i (a0.length : Int)), (8, .i x1_8)], []⟩ ?_
          refine goK hT 12 (K52 110100110010 3) ⟨19, [(0, .d (eL54 t0 a0)), (1, .d (.fn ff1 cc1)), (5, .i x1_8), (7, .i (a0.length : Int)), (8, .i x1_8), (11, .d (.fn ff1 cc1)), (12, .d (eL54 t0 a0)), (13, .i x1_8)], []⟩ ?_
          obtain ⟨h2, H⟩ := sC H
          refine ak_idx hT [0, 1, 5, 7, 8, 11, 14] (i := x1_8) (n := (a0.length : Int)) h2.1 h2.2 (k' := (K52 110100110010 4)) (st' := ⟨19, [(0, .d (eL54 t0 a0)), (1, .d (.fn ff1 cc1)), (5, .i x1_8), (7, .i (a0.length : Int)), (8, .i x1_8), (11, .d (.fn ff1 cc1)), (14, .d (eP54 t0 a0 x1_8.toNat 0))], []⟩) (by kernel_rfl) ?_
          refine goK hT 1 (K52 110100110010 5) ⟨19, [(0, .d (eL54 t0 a0)), (1, .d (.fn ff1 cc1)), (5, .i x1_8), (7, .i (a0.length : Int)), (8, .i x1_8), (11, .d (.fn ff1 cc1)), (15, .d (eG54 (a0.getD x1_8.toNat api_Entry.z)))], []⟩ ?_
          obtain ⟨v1, h3, H⟩ := sbC H
          refine ak_callP (avs := [.d (eG54 (a0.getD x1_8.toNat api_Entry.z))] ++ List.map AV.d cc1) (dst := some 16) (k' := (K52 110100110010 6)) [0, 1, 5, 7, 8, 16] [] hP he1 (hp1 (a0.getD x1_8.toNat api_Entry.z) v1 h3) (by kernel_rfl) (hands_none _) (.cons (pass_d _) (passes_d _)) (st' := ⟨19, [(0, .d (eL54 t0 a0)), (1, .d (.fn ff1 cc1)), (5, .i x1_8), (7, .i (a0.length : Int)), (8, .i x1_8), (16, .b v1)], []⟩) (by kernel_rfl) ?_
          refine goK hT 1 (K52 11010011001 1) ⟨19, [(0, .d (eL54 t0 a0)), (1, .d (.fn ff1 cc1)), (5, .i x1_8), (7, .i (a0.length : Int)), (8, .i x1_8), (16, .b v1)], []⟩ ?_
          by_cases c4 : v1 = true
          · replace H := sT c4 H
            rw [c4]
            refine goK hT 6 (K52 1101001100110 1) ⟨19, [(4, .i x1_8)], []⟩ ?_
            obtain rfl := retC H
            exact ak_ret hf hX (av := .i x1_8) (by kernel_rfl) [] (sel_of_eq (by kernel_rfl)) (by decide) (by rw [h0]; rfl) (by kernel_rfl) (fun _ h => all_nil h) (.d (.v _))
          · replace H := sF c4 H
            rw [boF c4]
            refine goK hT 3 (K52 11010011 1) ⟨19, [(0, .d (eL54 t0 a0)), (1, .d (.fn ff1 cc1)), (7, .i (a0.length : Int)), (8, .i x1_8)], []⟩ ?_
            refine goK hT 5 (K52 11010 0) ⟨19, [(0, .d (eL54 t0 a0)), (1, .d (.fn ff1 cc1)), (7, .i (a0.length : Int)), (8, .i (IntKind.wrap .i64 (x1_8 + 1)))], []⟩ ?_
            refine cutK [] ⟨19, [(0, .d (eL54 t0 a0)), (1, .d (.fn ff1 cc1)), (7, .i (a0.length : Int)), (8, .i (IntKind.wrap .i64 (x1_8 + 1)))], []⟩ h0 ?_
            exact ih (IntKind.wrap .i64 (x1_8 + 1)) H
        · replace H := sF c1 H
          rw [decide_eq_false c1]
          refine goK hT 6 (K52 111 1) ⟨19, [(4, .i (-1))], []⟩ ?_
          obtain rfl := retC H
          exact ak_ret hf hX (av := .i (-1)) (by kernel_rfl) [] (sel_of_eq (by kernel_rfl)) (by decide) (by rw [h0]; rfl) (by kernel_rfl) (fun _ h => all_nil h) (.d (.v _))
  refine cutK [] ⟨19, [(0, .d (eL54 t0 a0)), (1, .d (.fn ff1 cc1)), (7, .i (a0.length : Int)), (8, .i 0)], []⟩ h0 ?_
  obtain ⟨n, H⟩ := loopC H
  exact (L n) 0 H


theorem slices_ContainsFunc_api_Entry.says {t0 : Bool} {ff1 : FuncId} {cc1 : List DV} (a0 : List api_Entry) (p1 : api_Entry → Option Bool) (he1 : Sy.Enters Try.prog ff1) (hp1 : ∀ (z0 : api_Entry) r, p1 z0 = some r → Says Try.prog ff1 [] ([.d (eG54 z0)] ++ List.map AV.d cc1) [] (.b r)) {r : Bool} (H : slices_ContainsFunc_api_Entry a0 p1 = some r) : Says Try.prog 28 [] [.d (eL54 t0 a0), .d (.fn ff1 cc1)] [] (.b r) := by
  refine says_of Try.func28 rfl (nt := 9) rfl (Nat.le_of_ble_eq_true rfl) fun X hP h0 hX => ?_
  have hT : TabOk X.P T := hP ▸ tok
  have hf : X.P.funcs[28]? = some Try.f28 := hP ▸ Try.func28
  refine goK hT 8 (K28 110 2) ⟨9, [(5, .d (eL54 t0 a0)), (6, .d (.fn ff1 cc1))], []⟩ ?_
  obtain ⟨v1, h1, H⟩ := ibC H
  refine ak_callP (avs := [.d (eL54 t0 a0), .d (.fn ff1 cc1)]) (dst := some 7) (k' := (K28 110 3)) [7] [] hP enters_52 (slices_IndexFunc_api_Entry.says (t0 := t0) (ff1 := ff1) (cc1 := cc1) a0 p1 he1 hp1 h1) (by kernel_rfl) (hands_none _) (.cons (pass_d _) (.cons (pass_d _) .nil)) (st' := ⟨9, [(7, .i v1)], []⟩) (by kernel_rfl) ?_
  refine goK hT 3 (K28 11 1) ⟨9, [(4, .b (decide (v1 ≥ 0)))], []⟩ ?_
  obtain rfl := retC H
  exact ak_ret hf hX (av := .b (decide (v1 ≥ 0))) (by kernel_rfl) [] (sel_of_eq (by kernel_rfl)) (by decide) (by rw [h0]; rfl) (by kernel_rfl) (fun _ h => all_nil h) (.d (.v _))


theorem slices_IndexFunc_api_Pair.says {t0 : Bool} {ff1 : FuncId} {cc1 : List DV} (a0 : List api_Pair) (p1 : api_Pair → Option Bool) (he1 : Sy.Enters Try.prog ff1) (hp1 : ∀ (z0 : api_Pair) r, p1 z0 = some r → Says Try.prog ff1 [] ([.d (eG65 z0)] ++ List.map AV.d cc1) [] (.b r)) {r : Int} (H : slices_IndexFunc_api_Pair a0 p1 = some r) : Says Try.prog 95 [] [.d (eL65 t0 a0), .d (.fn ff1 cc1)] [] (.i r) := by
  refine says_of Try.func95 rfl (nt := 19) rfl (Nat.le_of_ble_eq_true rfl) fun X hP h0 hX => ?_
  have hT : TabOk X.P T := hP ▸ tok
  have hf : X.P.funcs[95]? = some Try.f95 := hP ▸ Try.func95
  refine goK hT 13 (K95 11010 0) ⟨19, [(0, .d (eL65 t0 a0)), (1, .d (.fn ff1 cc1)), (7, .i (a0.length : Int)), (8, .i 0)], []⟩ ?_
  have L : ∀ n, (∀ (x1_8 : Int), iter (slices_IndexFunc_api_Pair.step a0 p1) n (.l1 x1_8) = some r → AK X 95 ((K95 11010 0)) (Back X [] (.i r)) ⟨19, [(0, .d (eL65 t0 a0)), (1, .d (.fn ff1 cc1)), (7, .i (a0.length : Int)), (8, .i x1_8)], []⟩) := by
    intro n
    induction n with
    | zero => exact fun _ H => iter0 H
    | succ n ih =>
      · intro x1_8 H
        refine goK hT 5 (K95 1101001 0) ⟨19, [(0, .d (eL65 t0 a0)), (1, .d (.fn ff1 cc1)), (7, .i (a0.length : Int)), (8, .i x1_8), (9, .b (decide (x1_8 < (a0.length : Int))))], []⟩ ?_
        by_cases c1 : x1_8 < (a0.length : Int)
        · replace H := sT c1 H
          rw [decide_eq_true c1]
          refine goK hT 2 (K95 1101001 1) ⟨19, [(0, .d (eL65 t0 a0)), (1, .d (.fn ff1 cc1)), (7, .i (a0.length : Int)), (8, .i x1_8)], []⟩ ?_
          refine goK hT 12 (K95 110100110010 3) ⟨19, [(0, .d (eL65 t0 a0)), (1, .d (.fn ff1 cc1)), (5, .i x1_8), (7, .i (a0.length : Int)), (8, .i x1_8), (11, .d (.fn ff1 cc1)), (12, .d (eL65 t0 a0)), (13, .i x1_8)], []⟩ ?_
          obtain ⟨h2, H⟩ := sC H
          refine ak_idx hT [0, 1, 5, 7, 8, 11, 14] (i := x1_8) (n := (a0.length : Int)) h2.1 h2.2 (k' := (K95 110100110010 4)) (st' := ⟨19, [(0, .d (eL65 t0 a0)), (1, .d (.fn ff1 cc1)), (5, .i x1_8), (7, .i (a0.length : Int)), (8, .i x1_8), (11, .d (.fn ff1 cc1)), (14, .d (eP65 t0 a0 x1_8.toNat 0))], []⟩) (by kernel_rfl) ?_
          refine goK hT 1 (K95 110100110010 5) ⟨19, [(0, .d (eL65 t0 a0)), (1, .d (.fn ff1 cc1)), (5, .i x1_8), (7, .i (a0.length : Int)), (8, .i x1_8), (11, .d (.fn ff1 cc1)), (15, .d (eG65 (a0.getD x1_8.toNat api_Pair.z)))], []⟩ ?_
          obtain ⟨v1, h3, H⟩ := sbC H
          refine ak_callP (avs := [.d (eG65 (a0.getD x1_8.toNat api_Pair.z))] ++ List.map AV.d cc1) (dst := some 16) (k' := (K95 110100110010 6)) [0, 1, 5, 7, 8, 16] [] hP he1 (hp1 (a0.getD x1_8.toNat api_Pair.z) v1 h3) (by kernel_rfl) (hands_none _) (.cons (pass_d _) (passes_d _)) (st' := ⟨19, [(0, .d (eL65 t0 a0)), (1, .d (.fn ff1 cc1)), (5, .i x1_8), (7, .i (a0.length : Int)), (8, .i x1_8), (16, .b v1)], []⟩) (by kernel_rfl) ?_
          refine goK hT 1 (K95 11010011001 1) ⟨19, [(0, .d (eL65 t0 a0)), (1, .d (.fn ff1 cc1)), (5, .i x1_8), (7, .i (a0.length : Int)), (8, .i x1_8), (16, .b v1)], []⟩ ?_
          by_cases c4 : v1 = true
          · replace H := sT c4 H
            rw [c4]
            refine goK hT 6 (K95 1101001100110 1) ⟨19, [(4, .i x1_8)], []⟩ ?_
            obtain rfl := retC H
            exact ak_ret hf hX (av := .i x1_8) (by kernel_rfl) [] (sel_of_eq (by kernel_rfl)) (by decide) (by rw [h0]; rfl) (by kernel_rfl) (fun _ h => all_nil h) (.d (.v _))
          · replace H := sF c4 H
            rw [boF c4]
            refine goK hT 3 (K95 11010011 1) ⟨19, [(0, .d (eL65 t0 a0)), (1, .d (.fn ff1 cc1)), (7, .i (a0.length : Int)), (8, .i x1_8)], []⟩ ?_
            refine goK hT 5 (K95 11010 0) ⟨19, [(0, .d (eL65 t0 a0)), (1, .d (.fn ff1 cc1)), (7, .i (a0.length : Int)), (8, .i (IntKind.wrap .i64 (x1_8 + 1)))], []⟩ ?_
            refine cutK [] ⟨19, [(0, .d (eL65 t0 a0)), (1, .d (.fn ff1 cc1)), (7, .i (a0.length : Int)), (8, .i (IntKind.wrap .i64 (x1_8 + 1)))], []⟩ h0 ?_
            exact ih (IntKind.wrap .i64 (x1_8 + 1)) H
        · replace H := sF c1 H
          rw [decide_eq_false c1]
          refine goK hT 6 (K95 111 1) ⟨19, [(4, .i (-1))], []⟩ ?_
          obtain rfl := retC H
          exact ak_ret hf hX (av := .i (-1)) (by kernel_rfl) [] (sel_of_eq (by kernel_rfl)) (by decide) (by rw [h0]; rfl) (by kernel_rfl) (fun _ h => all_nil h) (.d (.v _))
  refine cutK [] ⟨19, [(0, .d (eL65 t0 a0)), (1, .d (.fn ff1 cc1)), (7, .i (a0.length : Int)), (8, .i 0)], []⟩ h0 ?_
  obtain ⟨n, H⟩ := loopC H
  exact (L n) 0 H


theorem slices_ContainsFunc_api_Pair.says {t0 : Bool} {ff1 : FuncId} {cc1 : List DV} (a0 : List api_Pair) (p1 : api_Pair → Option Bool) (he1 : Sy.Enters Try.prog ff1) (hp1 : ∀ (z0 : api_Pair) r, p1 z0 = some r → Says Try.prog ff1 [] ([.d (eG65 z0)] ++ List.map AV.d cc1) [] (.b r)) {r : Bool} (H : slices_ContainsFunc_api_Pair a0 p1 = some r) : Says Try.prog 92 [] [.d (eL65 t0 a0), .d (.fn ff1 cc1)] [] (.b r) := by
  refine says_of Try.func92 rfl (nt := 9) rfl (Nat.le_of_ble_eq_true rfl) fun X hP h0 hX => ?_
  have hT : TabOk X.P T := hP ▸ tok
  have hf : X.P.funcs[92]? = some Try.f92 := hP ▸ Try.func92
  refine goK hT 8 (K92 110 2) ⟨9, [(5, .d (eL65 t0 a0)), (6, .d (.fn ff1 cc1))], []⟩ ?_
  obtain ⟨v1, h1, H⟩ := ibC H
  refine ak_callP (avs := [.d (eL65 t0 a0), .d (.fn ff1 cc1)]) (dst := some 7) (k' := (K92 110 3)) [7] [] hP enters_95 (slices_IndexFunc_api_Pair.says (t0 := t0) (ff1 := ff1) (cc1 := cc1) a0 p1 he1 hp1 h1) (by kernel_rfl) (hands_none _) (.cons (pass_d _) (.cons (pass_d _) .nil)) (st' := ⟨9, [(7, .i v1)], []⟩) (by kernel_rfl) ?_
  refine goK hT 3 (K92 11 1) ⟨9, [(4, .b (decide (v1 ≥ 0)))], []⟩ ?_
  obtain rfl := retC H
  exact ak_ret hf hX (av := .b (decide (v1 ≥ 0))) (by kernel_rfl) [] (sel_of_eq (by kernel_rfl)) (by decide) (by rw [h0]; rfl) (by kernel_rfl) (fun _ h => all_nil h) (.d (.v _))


theorem mut_value.says (a0 : Int) : Says Try.prog 73 [] [.i a0] [] (.b (mut_value a0)) := by
  obtain ⟨r, H⟩ : ∃ r, mut_value a0 = r := ⟨_, rfl⟩
  rw [H]
  refine says_of Try.func73 rfl (nt := 9) rfl (Nat.le_of_ble_eq_true rfl) fun X hP h0 hX => ?_
  have hT : TabOk X.P T := hP ▸ tok
  have hf : X.P.funcs[73]? = some Try.f73 := hP ▸ Try.func73
  have Jj1 : ∀ (y1_2 : Bool), (mut_value.j1 y1_2) = r → AK X 73 ((K73 11 1)) (Back X [] (.b r)) ⟨9, [(2, .b y1_2)], []⟩ := by
    intro y1_2 H
    obtain rfl := H
    exact ak_ret hf hX (av := .b y1_2) (by kernel_rfl) [] (sel_of_eq (by kernel_rfl)) (by decide) (by rw [h0]; rfl) (by kernel_rfl) (fun _ h => all_nil h) (.d (.v _))
  refine goK hT 9 (K73 110 3) ⟨9, [(0, .i a0), (5, .b (decide (a0 ≥ (-1099511627776))))], []⟩ ?_
  by_cases c1 : a0 ≥ (-1099511627776)
  · replace H := iT c1 H
    rw [decide_eq_true c1]
    refine goK hT 5 (K73 11 1) ⟨9, [(2, .b (decide (a0 ≤ 1099511627776)))], []⟩ ?_
    refine cutK [] ⟨9, [(2, .b (decide (a0 ≤ 1099511627776)))], []⟩ h0 ?_
    exact Jj1 (decide (a0 ≤ 1099511627776)) H
  · replace H := iF c1 H
    rw [decide_eq_false c1]
    refine goK hT 5 (K73 11 1) ⟨9, [(2, .b false)], []⟩ ?_
    refine cutK [] ⟨9, [(2, .b false)], []⟩ h0 ?_
    exact Jj1 false H


theorem mut_pair.says (a0 : api_Pair) : Says Try.prog 94 [] [.d (eG65 a0)] [] (.b (mut_pair a0)) := by
  obtain ⟨r, H⟩ : ∃ r, mut_pair a0 = r := ⟨_, rfl⟩
  rw [H]
  refine says_of Try.func94 rfl (nt := 16) rfl (Nat.le_of_ble_eq_true rfl) fun X hP h0 hX => ?_
  have hT : TabOk X.P T := hP ▸ tok
  have hf : X.P.funcs[94]? = some Try.f94 := hP ▸ Try.func94
  have Jj1 : ∀ (y1_2 : Bool), (mut_pair.j1 y1_2) = r → AK X 94 ((K94 11 1)) (Back X [] (.b r)) ⟨16, [(2, .b y1_2)], []⟩ := by
    intro y1_2 H
    obtain rfl := H
    exact ak_ret hf hX (av := .b y1_2) (by kernel_rfl) [] (sel_of_eq (by kernel_rfl)) (by decide) (by rw [h0]; rfl) (by kernel_rfl) (fun _ h => all_nil h) (.d (.v _))
  refine goK hT 11 (K94 110 4) ⟨16, [(1, .ptr 0 0 0 0), (6, .b (decide (a0.Key ≥ 0)))], [.box 65 (eC65 a0)]⟩ ?_
  by_cases c1 : a0.Key ≥ 0
  · replace H := iT c1 H
    rw [decide_eq_true c1]
    refine goK hT 5 (K94 110 9) ⟨16, [(1, .ptr 0 0 0 0), (11, .b (decide (a0.Key < 4096)))], [.box 65 (eC65 a0)]⟩ ?_
    by_cases c2 : a0.Key < 4096
    · replace H := iT c2 H
      rw [decide_eq_true c2]
      refine goK hT 2 (K94 110 11) ⟨16, [(11, .b true), (13, .i a0.Val)], [.box 65 (eC65 a0)]⟩ ?_
      refine ak_callP (avs := [.i a0.Val]) (dst := some 14) (k' := (K94 110 12)) [11, 14] [] hP enters_73 (mut_value.says a0.Val) (by kernel_rfl) (hands_none _) (.cons (pass_d _) .nil) (st' := ⟨16, [(11, .b true), (14, .b (mut_value a0.Val))], [.box 65 (eC65 a0)]⟩) (by kernel_rfl) ?_
      refine goK hT 3 (K94 11 1) ⟨16, [(2, .b (mut_value a0.Val))], [.box 65 (eC65 a0)]⟩ ?_
      refine cutK [] ⟨16, [(2, .b (mut_value a0.Val))], []⟩ h0 ?_
      exact Jj1 (mut_value a0.Val) H
    · replace H := iF c2 H
      rw [decide_eq_false c2]
      refine goK hT 6 (K94 11 1) ⟨16, [(2, .b false)], [.box 65 (eC65 a0)]⟩ ?_
      refine cutK [] ⟨16, [(2, .b false)], []⟩ h0 ?_
      exact Jj1 false H
  · replace H := iF c1 H
    rw [decide_eq_false c1]
    refine goK hT 11 (K94 11 1) ⟨16, [(2, .b false)], [.box 65 (eC65 a0)]⟩ ?_
    refine cutK [] ⟨16, [(2, .b false)], []⟩ h0 ?_
    exact Jj1 false H


theorem mut_pairs_1.says (a0 : api_Pair) : Says Try.prog 93 [] [.d (eG65 a0)] [] (.b (mut_pairs_1 a0)) := by
  obtain ⟨r, H⟩ : ∃ r, mut_pairs_1 a0 = r := ⟨_, rfl⟩
  rw [H]
  refine says_of Try.func93 rfl (nt := 6) rfl (Nat.le_of_ble_eq_true rfl) fun X hP h0 hX => ?_
  have hT : TabOk X.P T := hP ▸ tok
  have hf : X.P.funcs[93]? = some Try.f93 := hP ▸ Try.func93
  refine goK hT 8 (K93 110 1) ⟨6, [(3, .d (eG65 a0))], [.box 65 (eC65 a0)]⟩ ?_
  refine ak_callP (avs := [.d (eG65 a0)]) (dst := some 4) (k' := (K93 110 2)) [4] [] hP enters_94 (mut_pair.says a0) (by kernel_rfl) (hands_none _) (.cons (pass_d _) .nil) (st' := ⟨6, [(4, .b (mut_pair a0))], [.box 65 (eC65 a0)]⟩) (by kernel_rfl) ?_
  refine goK hT 3 (K93 11 1) ⟨6, [(2, .b (!(mut_pair a0)))], [.box 65 (eC65 a0)]⟩ ?_
  obtain rfl := H
  exact ak_ret hf hX (av := .b (!(mut_pair a0))) (by kernel_rfl) [] (sel_of_eq (by kernel_rfl)) (by decide) (by rw [h0]; rfl) (by kernel_rfl) (fun _ h => all_nil h) (.d (.v _))


theorem mut_pairs.says (a0 : api_Mut) (a1 : Int) (a2 : Int) {r : Bool} (H : mut_pairs a0 a1 a2 = some r) : Says Try.prog 71 [] [.d (eG42 a0), .i a1, .i a2] [] (.b r) := by
  refine says_of Try.func71 rfl (nt := 25) rfl (Nat.le_of_ble_eq_true rfl) fun X hP h0 hX => ?_
  have hT : TabOk X.P T := hP ▸ tok
  have hf : X.P.funcs[71]? = some Try.f71 := hP ▸ Try.func71
  have Jj1 : ∀ (y1_6 : Bool), (mut_pairs.j1 y1_6) = some r → AK X 71 ((K71 11 1)) (Back X [] (.b r)) ⟨25, [(6, .b y1_6)], []⟩ := by
    intro y1_6 H
    obtain rfl := retC H
    exact ak_ret hf hX (av := .b y1_6) (by kernel_rfl) [] (sel_of_eq (by kernel_rfl)) (by decide) (by rw [h0]; rfl) (by kernel_rfl) (fun _ h => all_nil h) (.d (.v _))
  refine goK hT 13 (K71 110 6) ⟨25, [(2, .i a2), (3, .ptr 0 0 0 0), (12, .b (decide ((a0.Pairs.length : Int) ≥ a1)))], [.box 42 (eC42 a0)]⟩ ?_
  by_cases c1 : (a0.Pairs.length : Int) ≥ a1
  · replace H := iT c1 H
    rw [decide_eq_true c1]
    refine goK hT 7 (K71 110 13) ⟨25, [(3, .ptr 0 0 0 0), (19, .b (decide ((a0.Pairs.length : Int) ≤ a2)))], [.box 42 (eC42 a0)]⟩ ?_
    by_cases c2 : (a0.Pairs.length : Int) ≤ a2
    · replace H := iT c2 H
      rw [decide_eq_true c2]
      refine goK hT 2 (K71 110 15) ⟨25, [(19, .b true), (21, .d (eL65 true a0.Pairs))], [.box 42 (eC42 a0)]⟩ ?_
      obtain ⟨v1, h3, H⟩ := ibC H
      refine ak_callP (avs := [.d (eL65 true a0.Pairs), .d (.fn 93 [])]) (dst := some 22) (k' := (K71 110 16)) [19, 22] [] hP enters_92 (slices_ContainsFunc_api_Pair.says (t0 := true) (ff1 := 93) (cc1 := []) a0.Pairs (fun z0 => some (mut_pairs_1 z0)) enters_93 (fun z0 r h => by obtain rfl := retC h; exact mut_pairs_1.says z0) h3) (by kernel_rfl) (hands_none _) (.cons (pass_d _) (.cons (pass_d _) .nil)) (st' := ⟨25, [(19, .b true), (22, .b v1)], [.box 42 (eC42 a0)]⟩) (by kernel_rfl) ?_
      refine goK hT 4 (K71 11 1) ⟨25, [(6, .b (!v1))], [.box 42 (eC42 a0)]⟩ ?_
      refine cutK [] ⟨25, [(6, .b (!v1))], []⟩ h0 ?_
      exact Jj1 (!v1) H
    · replace H := iF c2 H
      rw [decide_eq_false c2]
      refine goK hT 7 (K71 11 1) ⟨25, [(6, .b false)], [.box 42 (eC42 a0)]⟩ ?_
      refine cutK [] ⟨25, [(6, .b false)], []⟩ h0 ?_
      exact Jj1 false H
  · replace H := iF c1 H
    rw [decide_eq_false c1]
    refine goK hT 14 (K71 11 1) ⟨25, [(6, .b false)], [.box 42 (eC42 a0)]⟩ ?_
    refine cutK [] ⟨25, [(6, .b false)], []⟩ h0 ?_
    exact Jj1 false H


theorem mut_rising.says {t0 : Bool} (a0 : List api_Pair) {r : Bool} (H : mut_rising a0 = some r) : Says Try.prog 72 [] [.d (eL65 t0 a0)] [] (.b r) := by
  refine says_of Try.func72 rfl (nt := 22) rfl (Nat.le_of_ble_eq_true rfl) fun X hP h0 hX => ?_
  have hT : TabOk X.P T := hP ▸ tok
  have hf : X.P.funcs[72]? = some Try.f72 := hP ▸ Try.func72
  refine goK hT 11 (K72 11010 0) ⟨22, [(0, .d (eL65 t0 a0)), (3, .i 1)], []⟩ ?_
  have L : ∀ n, (∀ (x1_3 : Int), iter (mut_rising.step a0) n (.l1 x1_3) = some r → AK X 72 ((K72 11010 0)) (Back X [] (.b r)) ⟨22, [(0, .d (eL65 t0 a0)), (3, .i x1_3)], []⟩) := by
    intro n
    induction n with
    | zero => exact fun _ H => iter0 H
    | succ n ih =>
      · intro x1_3 H
        refine goK hT 8 (K72 1101000 1) ⟨22, [(0, .d (eL65 t0 a0)), (3, .i x1_3), (7, .b (decide (x1_3 < (a0.length : Int))))], []⟩ ?_
        by_cases c1 : x1_3 < (a0.length : Int)
        · replace H := sT c1 H
          rw [decide_eq_true c1]
          refine goK hT 2 (K72 110100 1) ⟨22, [(0, .d (eL65 t0 a0)), (3, .i x1_3)], []⟩ ?_
          refine goK hT 3 (K72 110100100 0) ⟨22, [(0, .d (eL65 t0 a0)), (3, .i x1_3)], []⟩ ?_
          obtain ⟨h2, H⟩ := sC H
          obtain ⟨h3, H⟩ := sC H
          refine drawK (hP ▸ mixed) 12 [0, 3] [some (.d (eL65 t0 a0)), some (.i x1_3), some (.i (IntKind.wrap .i64 (x1_3 - 1))), some (.d (eP65 t0 a0 ((IntKind.wrap .i64 (x1_3 - 1)).toNat) 0)), some (.d (eP65 t0 a0 ((IntKind.wrap .i64 (x1_3 - 1)).toNat) 0)), some (.i ((a0.getD ((IntKind.wrap .i64 (x1_3 - 1)).toNat) api_Pair.z).Key)), some (.d (eL65 t0 a0)), some (.i x1_3), some (.d (eP65 t0 a0 x1_3.toNat 0)), some (.d (eP65 t0 a0 x1_3.toNat 0)), some (.i ((a0.getD x1_3.toNat api_Pair.z).Key)), some (.b (decide (((a0.getD ((IntKind.wrap .i64 (x1_3 - 1)).toNat) api_Pair.z).Key) ≥ ((a0.getD x1_3.toNat api_Pair.z).Key))))] (opG (opG (opG (opS (opG (opG (opG (opG (opS (opG (opG (opG op0 hT) hT) hT) (fun R rest h => ak_idx0 hT (i := IntKind.wrap .i64 (x1_3 - 1)) (n := (a0.length : Int)) h2.1 h2.2 (by kernel_rfl) h)) hT) hT) hT) hT) (fun R rest h => ak_idx0 hT (i := x1_3) (n := (a0.length : Int)) h3.1 h3.2 (by kernel_rfl) h)) hT) hT) hT) ?_
          refine goK hT 1 (K72 110100100 1) ⟨22, [(0, .d (eL65 t0 a0)), (3, .i x1_3), (21, .b (decide (((a0.getD ((IntKind.wrap .i64 (x1_3 - 1)).toNat) api_Pair.z).Key) ≥ ((a0.getD x1_3.toNat api_Pair.z).Key))))], []⟩ ?_
          by_cases c4 : ((a0.getD ((IntKind.wrap .i64 (x1_3 - 1)).toNat) api_Pair.z).Key) ≥ ((a0.getD x1_3.toNat api_Pair.z).Key)
          · replace H := sT c4 H
            rw [decide_eq_true c4]
            refine goK hT 5 (K72 11010010010 1) ⟨22, [(2, .b false)], []⟩ ?_
            obtain rfl := retC H
            exact ak_ret hf hX (av := .b false) (by kernel_rfl) [] (sel_of_eq (by kernel_rfl)) (by decide) (by rw [h0]; rfl) (by kernel_rfl) (fun _ h => all_nil h) (.d (.v _))
          · replace H := sF c4 H
            rw [decide_eq_false c4]
            refine goK hT 3 (K72 1101001 1) ⟨22, [(0, .d (eL65 t0 a0)), (3, .i x1_3)], []⟩ ?_
            refine goK hT 6 (K72 11010 0) ⟨22, [(0, .d (eL65 t0 a0)), (3, .i (IntKind.wrap .i64 (x1_3 + 1)))], []⟩ ?_
            refine cutK [] ⟨22, [(0, .d (eL65 t0 a0)), (3, .i (IntKind.wrap .i64 (x1_3 + 1)))], []⟩ h0 ?_
            exact ih (IntKind.wrap .i64 (x1_3 + 1)) H
        · replace H := sF c1 H
          rw [decide_eq_false c1]
          refine goK hT 6 (K72 111 1) ⟨22, [(2, .b true)], []⟩ ?_
          obtain rfl := retC H
          exact ak_ret hf hX (av := .b true) (by kernel_rfl) [] (sel_of_eq (by kernel_rfl)) (by decide) (by rw [h0]; rfl) (by kernel_rfl) (fun _ h => all_nil h) (.d (.v _))
  refine cutK [] ⟨22, [(0, .d (eL65 t0 a0)), (3, .i 1)], []⟩ h0 ?_
  obtain ⟨n, H⟩ := loopC H
  exact (L n) 1 H


theorem mut_kind.says (a0 : api_Mut) {r : Bool} (H : mut_kind a0 = some r) : Says Try.prog 53 [] [.d (eG42 a0)] [] (.b r) := by
  refine says_of Try.func53 rfl (nt := 102) rfl (Nat.le_of_ble_eq_true rfl) fun X hP h0 hX => ?_
  have hT : TabOk X.P T := hP ▸ tok
  have hf : X.P.funcs[53]? = some Try.f53 := hP ▸ Try.func53
  have Jj1 : ∀ (y1_23 : Bool), (mut_kind.j1 a0 y1_23) = some r → AK X 53 ((K53 1110 1)) (Back X [] (.b r)) ⟨102, [(1, .ptr 0 0 0 0), (23, .b y1_23)], [.box 42 (eC42 a0)]⟩ := by
    intro y1_23 H
    by_cases c7 : y1_23 = true
    · replace H := iT c7 H
      rw [c7]
      refine goK hT 5 (K53 111010 1) ⟨102, [(2, .b false)], [.box 42 (eC42 a0)]⟩ ?_
      obtain rfl := retC H
      exact ak_ret hf hX (av := .b false) (by kernel_rfl) [] (sel_of_eq (by kernel_rfl)) (by decide) (by rw [h0]; rfl) (by kernel_rfl) (fun _ h => all_nil h) (.d (.v _))
    · replace H := iF c7 H
      rw [boF c7]
      refine goK hT 2 (K53 111 1) ⟨102, [(1, .ptr 0 0 0 0)], [.box 42 (eC42 a0)]⟩ ?_
      refine goK hT 12 (K53 1111010 1) ⟨102, [(1, .ptr 0 0 0 0), (25, .i a0.Kind), (26, .b (a0.Kind == 1))], [.box 42 (eC42 a0)]⟩ ?_
      by_cases c8 : a0.Kind = 1
      · replace H := iT c8 H
        rw [eqT c8]
        refine goK hT 4 (K53 1111010100 1) ⟨102, [(1, .ptr 0 0 0 0), (28, .d (eG42 a0))], [.box 42 (eC42 a0)]⟩ ?_
        obtain ⟨v1, h9, H⟩ := ibC H
        have Jj2 : ∀ (y2_2 : Bool), (mut_kind.j2 y2_2) = some r → AK X 53 ((K53 111101010 1)) (Back X [] (.b r)) ⟨102, [(2, .b y2_2)], []⟩ := by
          intro y2_2 H
          obtain rfl := retC H
          exact ak_ret hf hX (av := .b y2_2) (by kernel_rfl) [] (sel_of_eq (by kernel_rfl)) (by decide) (by rw [h0]; rfl) (by kernel_rfl) (fun _ h => all_nil h) (.d (.v _))
        refine ak_callP (avs := [.d (eG42 a0), .i 1, .i 8]) (dst := some 29) (k' := (K53 1111010100 2)) [1, 29] [] hP enters_71 (mut_pairs.says a0 1 8 h9) (by kernel_rfl) (hands_none _) (.cons (pass_d _) (.cons (pass_d _) (.cons (pass_d _) .nil))) (st' := ⟨102, [(1, .ptr 0 0 0 0), (29, .b v1)], [.box 42 (eC42 a0)]⟩) (by kernel_rfl) ?_
        refine goK hT 1 (K53 1111010100 3) ⟨102, [(1, .ptr 0 0 0 0), (30, .b v1)], [.box 42 (eC42 a0)]⟩ ?_
        by_cases c10 : v1 = true
        · replace H := iT c10 H
          rw [c10]
          refine goK hT 2 (K53 1111010100 5) ⟨102, [(30, .b true), (32, .d (eL65 true a0.Pairs))], [.box 42 (eC42 a0)]⟩ ?_
          obtain ⟨v2, h11, H⟩ := ibC H
          refine ak_callP (avs := [.d (eL65 true a0.Pairs)]) (dst := some 33) (k' := (K53 1111010100 6)) [30, 33] [] hP enters_72 (mut_rising.says (t0 := true) a0.Pairs h11) (by kernel_rfl) (hands_none _) (.cons (pass_d _) .nil) (st' := ⟨102, [(30, .b true), (33, .b v2)], [.box 42 (eC42 a0)]⟩) (by kernel_rfl) ?_
          refine goK hT 3 (K53 111101010 1) ⟨102, [(2, .b v2)], [.box 42 (eC42 a0)]⟩ ?_
          refine cutK [] ⟨102, [(2, .b v2)], []⟩ h0 ?_
          exact Jj2 v2 H
        · replace H := iF c10 H
          rw [boF c10]
          refine goK hT 6 (K53 111101010 1) ⟨102, [(2, .b false)], [.box 42 (eC42 a0)]⟩ ?_
          refine cutK [] ⟨102, [(2, .b false)], []⟩ h0 ?_
          exact Jj2 false H
      · replace H := iF c8 H
        rw [eqF c8]
        refine goK hT 6 (K53 111101011 1) ⟨102, [(1, .ptr 0 0 0 0), (25, .i a0.Kind), (35, .b (a0.Kind == 2))], [.box 42 (eC42 a0)]⟩ ?_
        by_cases c12 : a0.Kind = 2
        · replace H := iT c12 H
          have Jj3 : ∀ (y3_2 : Bool), (mut_kind.j3 y3_2) = some r → AK X 53 ((K53 11110101110 1)) (Back X [] (.b r)) ⟨102, [(2, .b y3_2)], []⟩ := by
            intro y3_2 H
            obtain rfl := retC H
            exact ak_ret hf hX (av := .b y3_2) (by kernel_rfl) [] (sel_of_eq (by kernel_rfl)) (by decide) (by rw [h0]; rfl) (by kernel_rfl) (fun _ h => all_nil h) (.d (.v _))
          rw [eqT c12]
          refine goK hT 8 (K53 111101011100 5) ⟨102, [(1, .ptr 0 0 0 0), (41, .b ((a0.Pairs.length : Int) == 0))], [.box 42 (eC42 a0)]⟩ ?_
          by_cases c13 : (a0.Pairs.length : Int) = 0
          · replace H := iT c13 H
            rw [eqT c13]
            refine goK hT 2 (K53 111101011100 7) ⟨102, [(41, .b true), (43, .d (eG40 a0.Over))], [.box 42 (eC42 a0)]⟩ ?_
            refine ak_callP (avs := [.d (eG40 a0.Over)]) (dst := some 44) (k' := (K53 111101011100 8)) [41, 44] [] hP enters_51 (span_One.says a0.Over) (by kernel_rfl) (hands_none _) (.cons (pass_d _) .nil) (st' := ⟨102, [(41, .b true), (44, .b (span_One a0.Over))], [.box 42 (eC42 a0)]⟩) (by kernel_rfl) ?_
            refine goK hT 3 (K53 11110101110 1) ⟨102, [(2, .b (span_One a0.Over))], [.box 42 (eC42 a0)]⟩ ?_
            refine cutK [] ⟨102, [(2, .b (span_One a0.Over))], []⟩ h0 ?_
            exact Jj3 (span_One a0.Over) H
          · replace H := iF c13 H
            rw [eqF c13]
            refine goK hT 6 (K53 11110101110 1) ⟨102, [(2, .b false)], [.box 42 (eC42 a0)]⟩ ?_
            refine cutK [] ⟨102, [(2, .b false)], []⟩ h0 ?_
            exact Jj3 false H
        · replace H := iF c12 H
          rw [eqF c12]
          refine goK hT 6 (K53 11110101111 1) ⟨102, [(1, .ptr 0 0 0 0), (25, .i a0.Kind), (46, .b (a0.Kind == 3))], [.box 42 (eC42 a0)]⟩ ?_
          by_cases c14 : a0.Kind = 3
          · replace H := iT c14 H
            rw [eqT c14]
            refine goK hT 4 (K53 11110101111100 1) ⟨102, [(48, .d (eG42 a0))], [.box 42 (eC42 a0)]⟩ ?_
            obtain ⟨v3, h15, H⟩ := ibC H
            refine ak_callP (avs := [.d (eG42 a0), .i 1, .i 1]) (dst := some 49) (k' := (K53 11110101111100 2)) [49] [] hP enters_71 (mut_pairs.says a0 1 1 h15) (by kernel_rfl) (hands_none _) (.cons (pass_d _) (.cons (pass_d _) (.cons (pass_d _) .nil))) (st' := ⟨102, [(49, .b v3)], [.box 42 (eC42 a0)]⟩) (by kernel_rfl) ?_
            refine goK hT 2 (K53 1111010111110 1) ⟨102, [(2, .b v3)], [.box 42 (eC42 a0)]⟩ ?_
            obtain rfl := retC H
            exact ak_ret hf hX (av := .b v3) (by kernel_rfl) [] (sel_of_eq (by kernel_rfl)) (by decide) (by rw [h0]; rfl) (by kernel_rfl) (fun _ h => all_nil h) (.d (.v _))
          · replace H := iF c14 H
            rw [eqF c14]
            refine goK hT 6 (K53 1111010111111 1) ⟨102, [(1, .ptr 0 0 0 0), (25, .i a0.Kind), (50, .b (a0.Kind == 4))], [.box 42 (eC42 a0)]⟩ ?_
            by_cases c16 : a0.Kind = 4
            · replace H := iT c16 H
              rw [eqT c16]
              refine goK hT 4 (K53 1111010111111100 1) ⟨102, [(1, .ptr 0 0 0 0), (52, .d (eG42 a0))], [.box 42 (eC42 a0)]⟩ ?_
              obtain ⟨v4, h17, H⟩ := ibC H
              have Jj4 : ∀ (y4_2 : Bool), (mut_kind.j4 y4_2) = some r → AK X 53 ((K53 111101011111110 1)) (Back X [] (.b r)) ⟨102, [(2, .b y4_2)], []⟩ := by
                intro y4_2 H
                obtain rfl := retC H
                exact ak_ret hf hX (av := .b y4_2) (by kernel_rfl) [] (sel_of_eq (by kernel_rfl)) (by decide) (by rw [h0]; rfl) (by kernel_rfl) (fun _ h => all_nil h) (.d (.v _))
              refine ak_callP (avs := [.d (eG42 a0), .i 1, .i 1]) (dst := some 53) (k' := (K53 1111010111111100 2)) [1, 53] [] hP enters_71 (mut_pairs.says a0 1 1 h17) (by kernel_rfl) (hands_none _) (.cons (pass_d _) (.cons (pass_d _) (.cons (pass_d _) .nil))) (st' := ⟨102, [(1, .ptr 0 0 0 0), (53, .b v4)], [.box 42 (eC42 a0)]⟩) (by kernel_rfl) ?_
              refine goK hT 1 (K53 1111010111111100 3) ⟨102, [(1, .ptr 0 0 0 0), (54, .b v4)], [.box 42 (eC42 a0)]⟩ ?_
              by_cases c18 : v4 = true
              · replace H := iT c18 H
                rw [c18]
                refine goK hT 2 (K53 1111010111111100 5) ⟨102, [(1, .ptr 0 0 0 0), (54, .b true), (56, .i a0.Old)], [.box 42 (eC42 a0)]⟩ ?_
                refine ak_callP (avs := [.i a0.Old]) (dst := some 57) (k' := (K53 1111010111111100 6)) [1, 54, 57] [] hP enters_73 (mut_value.says a0.Old) (by kernel_rfl) (hands_none _) (.cons (pass_d _) .nil) (st' := ⟨102, [(1, .ptr 0 0 0 0), (54, .b true), (57, .b (mut_value a0.Old))], [.box 42 (eC42 a0)]⟩) (by kernel_rfl) ?_
                refine goK hT 1 (K53 1111010111111100 7) ⟨102, [(1, .ptr 0 0 0 0), (54, .b true), (58, .b (mut_value a0.Old))], [.box 42 (eC42 a0)]⟩ ?_
                by_cases c19 : (mut_value a0.Old) = true
                · replace H := iT c19 H
                  rw [c19]
                  refine goK hT 7 (K53 111101011111110 1) ⟨102, [(2, .b true)], [.box 42 (eC42 a0)]⟩ ?_
                  refine cutK [] ⟨102, [(2, .b true)], []⟩ h0 ?_
                  exact Jj4 true H
                · replace H := iF c19 H
                  rw [boF c19]
                  refine goK hT 7 (K53 111101011111110 1) ⟨102, [(2, .b (a0.Old == 1099511627777))], [.box 42 (eC42 a0)]⟩ ?_
                  refine cutK [] ⟨102, [(2, .b (a0.Old == 1099511627777))], []⟩ h0 ?_
                  exact Jj4 (a0.Old == 1099511627777) H
              · replace H := iF c18 H
                rw [boF c18]
                refine goK hT 11 (K53 111101011111110 1) ⟨102, [(2, .b false)], [.box 42 (eC42 a0)]⟩ ?_
                refine cutK [] ⟨102, [(2, .b false)], []⟩ h0 ?_
                exact Jj4 false H
            · replace H := iF c16 H
              rw [eqF c16]
              refine goK hT 6 (K53 111101011111111 1) ⟨102, [(1, .ptr 0 0 0 0), (64, .b (a0.Kind == 5))], [.box 42 (eC42 a0)]⟩ ?_
              by_cases c20 : a0.Kind = 5
              · replace H := iT c20 H
                rw [eqT c20]
                refine goK hT 2 (K53 11110101111111110 0) ⟨102, [(1, .ptr 0 0 0 0)], [.box 42 (eC42 a0)]⟩ ?_
                obtain ⟨v5, h21, H⟩ := ibC H
                have Jj5 : ∀ (y5_2 : Bool), (mut_kind.j5 y5_2) = some r → AK X 53 ((K53 11110101111111110 1)) (Back X [] (.b r)) ⟨102, [(2, .b y5_2)], []⟩ := by
                  intro y5_2 H
                  obtain rfl := retC H
                  exact ak_ret hf hX (av := .b y5_2) (by kernel_rfl) [] (sel_of_eq (by kernel_rfl)) (by decide) (by rw [h0]; rfl) (by kernel_rfl) (fun _ h => all_nil h) (.d (.v _))
                by_cases c22 : v5 = true
                · replace H := iT c22 H
                  obtain ⟨h23, H⟩ := iC H
                  obtain ⟨h24, H⟩ := iC H
                  by_cases c25 : ((a0.Pairs.getD 0 api_Pair.z).Key) = ((a0.Pairs.getD 1 api_Pair.z).Key)
                  · replace H := iT c25 H
                    refine drawK (hP ▸ mixed) 26 [1] [some (.d (eG42 a0)), some (.b true), some (.b true), some (.ptr 0 0 0 3), some (.d (eL65 true a0.Pairs)), some (.d (eP65 true a0.Pairs 0 0)), some (.d (eP65 true a0.Pairs 0 0)), some (.i ((a0.Pairs.getD 0 api_Pair.z).Key)), some (.ptr 0 0 0 3), some (.d (eL65 true a0.Pairs)), some (.d (eP65 true a0.Pairs 1 0)), some (.d (eP65 true a0.Pairs 1 0)), some (.i ((a0.Pairs.getD 1 api_Pair.z).Key)), some (.b false), some (.b false), some (.b false), some (.tup []), some (.tup []), some (.tup []), some (.tup []), some (.tup []), some (.tup []), some (.tup []), some (.tup []), some (.tup []), some (.tup [])] (opG (opG (opG (opG (opG (opG (opG (opG (opG (opG (opG (opG (opV (opG (opG (opS (opG (opG (opG (opG (opS (opG (opG (opG (opS (opG op0 hT) (fun R rest h => ak_callD (avs := [.d (eG42 a0), .i 2, .i 2]) (dst := some 67) hP enters_71 (by have q := mut_pairs.says a0 2 2 h21; rw [c22] at q; exact q) (by kernel_rfl) (.cons (pass_d _) (.cons (pass_d _) (.cons (pass_d _) .nil))) (by kernel_rfl) h)) hT) hT) hT) (fun R rest h => ak_idx0 hT (i := 0) (n := (a0.Pairs.length : Int)) h23.1 h23.2 (by kernel_rfl) h)) hT) hT) hT) hT) (fun R rest h => ak_idx0 hT (i := 1) (n := (a0.Pairs.length : Int)) h24.1 h24.2 (by kernel_rfl) h)) hT) hT) hT 79 (.b (((a0.Pairs.getD 0 api_Pair.z).Key) != ((a0.Pairs.getD 1 api_Pair.z).Key))) (.b false) (by rw [neF c25])) hT) hT) hT) hT) hT) hT) hT) hT) hT) hT) hT) hT) ?_
                    refine goK hT 12 (K53 11110101111111110 1) ⟨102, [(2, .b false)], [.box 42 (eC42 a0)]⟩ ?_
                    refine cutK [] ⟨102, [(2, .b false)], []⟩ h0 ?_
                    exact Jj5 false H
                  · replace H := iF c25 H
                    refine drawK (hP ▸ mixed) 26 [1] [some (.d (eG42 a0)), some (.b true), some (.b true), some (.ptr 0 0 0 3), some (.d (eL65 true a0.Pairs)), some (.d (eP65 true a0.Pairs 0 0)), some (.d (eP65 true a0.Pairs 0 0)), some (.i ((a0.Pairs.getD 0 api_Pair.z).Key)), some (.ptr 0 0 0 3), some (.d (eL65 true a0.Pairs)), some (.d (eP65 true a0.Pairs 1 0)), some (.d (eP65 true a0.Pairs 1 0)), some (.i ((a0.Pairs.getD 1 api_Pair.z).Key)), some (.b true), some (.b true), some (.b true), some (.ptr 0 0 0 3), some (.d (eL65 true a0.Pairs)), some (.d (eP65 true a0.Pairs 0 0)), some (.d (eP65 true a0.Pairs 0 1)), some (.i ((a0.Pairs.getD 0 api_Pair.z).Val)), some (.ptr 0 0 0 3), some (.d (eL65 true a0.Pairs)), some (.d (eP65 true a0.Pairs 1 0)), some (.d (eP65 true a0.Pairs 1 1)), some (.i ((a0.Pairs.getD 1 api_Pair.z).Val))] (opG (opG (opS (opG (opG (opG (opG (opS (opG (opG (opG (opG (opV (opG (opG (opS (opG (opG (opG (opG (opS (opG (opG (opG (opS (opG op0 hT) (fun R rest h => ak_callD (avs := [.d (eG42 a0), .i 2, .i 2]) (dst := some 67) hP enters_71 (by have q := mut_pairs.says a0 2 2 h21; rw [c22] at q; exact q) (by kernel_rfl) (.cons (pass_d _) (.cons (pass_d _) (.cons (pass_d _) .nil))) (by kernel_rfl) h)) hT) hT) hT) (fun R rest h => ak_idx0 hT (i := 0) (n := (a0.Pairs.length : Int)) h23.1 h23.2 (by kernel_rfl) h)) hT) hT) hT) hT) (fun R rest h => ak_idx0 hT (i := 1) (n := (a0.Pairs.length : Int)) h24.1 h24.2 (by kernel_rfl) h)) hT) hT) hT 79 (.b (((a0.Pairs.getD 0 api_Pair.z).Key) != ((a0.Pairs.getD 1 api_Pair.z).Key))) (.b true) (by rw [neT c25])) hT) hT) hT) hT) (fun R rest h => ak_idx0 hT (i := 0) (n := (a0.Pairs.length : Int)) h23.1 h23.2 (by kernel_rfl) h)) hT) hT) hT) hT) (fun R rest h => ak_idx0 hT (i := 1) (n := (a0.Pairs.length : Int)) h24.1 h24.2 (by kernel_rfl) h)) hT) hT) ?_
                    refine goK hT 3 (K53 111101011111111100 29) ⟨102, [(1, .ptr 0 0 0 0), (94, .b (((a0.Pairs.getD 0 api_Pair.z).Val) == ((a0.Pairs.getD 1 api_Pair.z).Val)))], [.box 42 (eC42 a0)]⟩ ?_
                    by_cases c26 : ((a0.Pairs.getD 0 api_Pair.z).Val) = ((a0.Pairs.getD 1 api_Pair.z).Val)
                    · replace H := iT c26 H
                      rw [eqT c26]
                      refine goK hT 2 (K53 111101011111111100 31) ⟨102, [(94, .b true), (96, .d (eL65 true a0.Pairs))], [.box 42 (eC42 a0)]⟩ ?_
                      refine ak_idx hT [94, 97] (i := 0) (n := (a0.Pairs.length : Int)) h23.1 h23.2 (k' := (K53 111101011111111100 32)) (st' := ⟨102, [(94, .b true), (97, .d (eP65 true a0.Pairs 0 0))], [.box 42 (eC42 a0)]⟩) (by kernel_rfl) ?_
                      refine goK hT 6 (K53 11110101111111110 1) ⟨102, [(2, .b (decide (((a0.Pairs.getD 0 api_Pair.z).Val) ≥ 0)))], [.box 42 (eC42 a0)]⟩ ?_
                      refine cutK [] ⟨102, [(2, .b (decide (((a0.Pairs.getD 0 api_Pair.z).Val) ≥ 0)))], []⟩ h0 ?_
                      exact Jj5 (decide (((a0.Pairs.getD 0 api_Pair.z).Val) ≥ 0)) H
                    · replace H := iF c26 H
                      rw [eqF c26]
                      refine goK hT 9 (K53 11110101111111110 1) ⟨102, [(2, .b false)], [.box 42 (eC42 a0)]⟩ ?_
                      refine cutK [] ⟨102, [(2, .b false)], []⟩ h0 ?_
                      exact Jj5 false H
                · replace H := iF c22 H
                  refine drawK (hP ▸ mixed) 26 [1] [some (.d (eG42 a0)), some (.b false), some (.b false), some (.tup []), some (.tup []), some (.tup []), some (.tup []), some (.tup []), some (.tup []), some (.tup []), some (.tup []), some (.tup []), some (.tup []), some (.tup []), some (.b false), some (.b false), some (.tup []), some (.tup []), some (.tup []), some (.tup []), some (.tup []), some (.tup []), some (.tup []), some (.tup []), some (.tup []), some (.tup [])] (opG (opG (opG (opG (opG (opG (opG (opG (opG (opG (opG (opG (opG (opG (opG (opG (opG (opG (opG (opG (opG (opG (opG (opG (opS (opG op0 hT) (fun R rest h => ak_callD (avs := [.d (eG42 a0), .i 2, .i 2]) (dst := some 67) hP enters_71 (by have q := mut_pairs.says a0 2 2 h21; rw [boF c22] at q; exact q) (by kernel_rfl) (.cons (pass_d _) (.cons (pass_d _) (.cons (pass_d _) .nil))) (by kernel_rfl) h)) hT) hT) hT) hT) hT) hT) hT) hT) hT) hT) hT) hT) hT) hT) hT) hT) hT) hT) hT) hT) hT) hT) hT) hT) ?_
                  refine goK hT 12 (K53 11110101111111110 1) ⟨102, [(2, .b false)], [.box 42 (eC42 a0)]⟩ ?_
                  refine cutK [] ⟨102, [(2, .b false)], []⟩ h0 ?_
                  exact Jj5 false H
              · replace H := iF c20 H
                rw [eqF c20]
                refine goK hT 3 (K53 1111 1) ⟨102, [], [.box 42 (eC42 a0)]⟩ ?_
                refine goK hT 4 (K53 11111 1) ⟨102, [(2, .b false)], [.box 42 (eC42 a0)]⟩ ?_
                obtain rfl := retC H
                exact ak_ret hf hX (av := .b false) (by kernel_rfl) [] (sel_of_eq (by kernel_rfl)) (by decide) (by rw [h0]; rfl) (by kernel_rfl) (fun _ h => all_nil h) (.d (.v _))
  refine goK hT 18 (K53 11100 4) ⟨102, [(1, .ptr 0 0 0 0), (3, .ptr 1 0 0 0), (8, .b (a0.Kind != 2))], [.box 42 (eC42 a0), .box 40 [.i 0, .i 0]]⟩ ?_
  by_cases c1 : a0.Kind = 2
  · replace H := iT c1 H
    rw [neF c1]
    refine goK hT 10 (K53 11100 14) ⟨102, [(1, .ptr 0 0 0 0), (14, .b false), (18, .b (a0.Kind != 4))], [.box 42 (eC42 a0), .box 40 [.i 0, .i 0]]⟩ ?_
    by_cases c2 : a0.Kind = 4
    · replace H := iT c2 H
      rw [neF c2]
      refine goK hT 6 (K53 1110 1) ⟨102, [(1, .ptr 0 0 0 0), (23, .b false)], [.box 42 (eC42 a0), .box 40 [.i 0, .i 0]]⟩ ?_
      refine cutK [0] ⟨102, [(1, .ptr 0 0 0 0), (23, .b false)], [.box 42 (eC42 a0)]⟩ h0 ?_
      exact Jj1 false H
    · replace H := iF c2 H
      rw [neT c2]
      refine goK hT 6 (K53 1110 1) ⟨102, [(1, .ptr 0 0 0 0), (23, .b (a0.Old != 0))], [.box 42 (eC42 a0), .box 40 [.i 0, .i 0]]⟩ ?_
      refine cutK [0] ⟨102, [(1, .ptr 0 0 0 0), (23, .b (a0.Old != 0))], [.box 42 (eC42 a0)]⟩ h0 ?_
      exact Jj1 (a0.Old != 0) H
  · replace H := iF c1 H
    rw [neT c1]
    refine goK hT 6 (K53 11100 10) ⟨102, [(1, .ptr 0 0 0 0), (14, .b (!((a0.Over.Lo == 0) && (a0.Over.Hi == 0))))], [.box 42 (eC42 a0), .box 40 [.i 0, .i 0]]⟩ ?_
    by_cases c3 : a0.Over.Lo = 0
    · replace H := iT c3 H
      rw [eqT c3]
      by_cases c4 : a0.Over.Hi = 0
      · replace H := iT c4 H
        rw [eqT c4]
        refine goK hT 4 (K53 11100 14) ⟨102, [(1, .ptr 0 0 0 0), (14, .b false), (18, .b (a0.Kind != 4))], [.box 42 (eC42 a0), .box 40 [.i 0, .i 0]]⟩ ?_
        by_cases c5 : a0.Kind = 4
        · replace H := iT c5 H
          rw [neF c5]
          refine goK hT 6 (K53 1110 1) ⟨102, [(1, .ptr 0 0 0 0), (23, .b false)], [.box 42 (eC42 a0), .box 40 [.i 0, .i 0]]⟩ ?_
          refine cutK [0] ⟨102, [(1, .ptr 0 0 0 0), (23, .b false)], [.box 42 (eC42 a0)]⟩ h0 ?_
          exact Jj1 false H
        · replace H := iF c5 H
          rw [neT c5]
          refine goK hT 6 (K53 1110 1) ⟨102, [(1, .ptr 0 0 0 0), (23, .b (a0.Old != 0))], [.box 42 (eC42 a0), .box 40 [.i 0, .i 0]]⟩ ?_
          refine cutK [0] ⟨102, [(1, .ptr 0 0 0 0), (23, .b (a0.Old != 0))], [.box 42 (eC42 a0)]⟩ h0 ?_
          exact Jj1 (a0.Old != 0) H
      · replace H := iF c4 H
        rw [eqF c4]
        refine goK hT 10 (K53 1110 1) ⟨102, [(1, .ptr 0 0 0 0), (23, .b true)], [.box 42 (eC42 a0), .box 40 [.i 0, .i 0]]⟩ ?_
        refine cutK [0] ⟨102, [(1, .ptr 0 0 0 0), (23, .b true)], [.box 42 (eC42 a0)]⟩ h0 ?_
        exact Jj1 true H
    · replace H := iF c3 H
      rw [eqF c3]
      by_cases c6 : a0.Over.Hi = 0
      · replace H := iT c6 H
        rw [eqT c6]
        refine goK hT 10 (K53 1110 1) ⟨102, [(1, .ptr 0 0 0 0), (23, .b true)], [.box 42 (eC42 a0), .box 40 [.i 0, .i 0]]⟩ ?_
        refine cutK [0] ⟨102, [(1, .ptr 0 0 0 0), (23, .b true)], [.box 42 (eC42 a0)]⟩ h0 ?_
        exact Jj1 true H
      · replace H := iF c6 H
        rw [eqF c6]
        refine goK hT 10 (K53 1110 1) ⟨102, [(1, .ptr 0 0 0 0), (23, .b true)], [.box 42 (eC42 a0), .box 40 [.i 0, .i 0]]⟩ ?_
        refine cutK [0] ⟨102, [(1, .ptr 0 0 0 0), (23, .b true)], [.box 42 (eC42 a0)]⟩ h0 ?_
        exact Jj1 true H


theorem mut_Check.says (a0 : api_Mut) {r : Bool} (H : mut_Check a0 = some r) : Says Try.prog 30 [] [.d (eG42 a0)] [] (.b r) := by
  refine says_of Try.func30 rfl (nt := 25) rfl (Nat.le_of_ble_eq_true rfl) fun X hP h0 hX => ?_
  have hT : TabOk X.P T := hP ▸ tok
  have hf : X.P.funcs[30]? = some Try.f30 := hP ▸ Try.func30
  have Jj1 : ∀ (y1_2 : Bool), (mut_Check.j1 y1_2) = some r → AK X 30 ((K30 11 1)) (Back X [] (.b r)) ⟨25, [(2, .b y1_2)], []⟩ := by
    intro y1_2 H
    obtain rfl := retC H
    exact ak_ret hf hX (av := .b y1_2) (by kernel_rfl) [] (sel_of_eq (by kernel_rfl)) (by decide) (by rw [h0]; rfl) (by kernel_rfl) (fun _ h => all_nil h) (.d (.v _))
  refine goK hT 11 (K30 110 4) ⟨25, [(1, .ptr 0 0 0 0), (6, .b (decide (a0.Client ≥ 1)))], [.box 42 (eC42 a0)]⟩ ?_
  by_cases c1 : a0.Client ≥ 1
  · replace H := iT c1 H
    rw [decide_eq_true c1]
    refine goK hT 5 (K30 110 9) ⟨25, [(1, .ptr 0 0 0 0), (11, .b (decide (a0.Client ≤ 1048576)))], [.box 42 (eC42 a0)]⟩ ?_
    by_cases c2 : a0.Client ≤ 1048576
    · replace H := iT c2 H
      rw [decide_eq_true c2]
      refine goK hT 5 (K30 110 14) ⟨25, [(1, .ptr 0 0 0 0), (16, .b (decide (a0.Seq ≥ 1)))], [.box 42 (eC42 a0)]⟩ ?_
      by_cases c3 : a0.Seq ≥ 1
      · replace H := iT c3 H
        rw [decide_eq_true c3]
        refine goK hT 5 (K30 110 19) ⟨25, [(1, .ptr 0 0 0 0), (21, .b (decide (a0.Seq ≤ 1073741824)))], [.box 42 (eC42 a0)]⟩ ?_
        by_cases c4 : a0.Seq ≤ 1073741824
        · replace H := iT c4 H
          rw [decide_eq_true c4]
          refine goK hT 1 (K30 110 20) ⟨25, [(21, .b true), (22, .d (eG42 a0))], [.box 42 (eC42 a0)]⟩ ?_
          obtain ⟨v1, h5, H⟩ := ibC H
          refine ak_callP (avs := [.d (eG42 a0)]) (dst := some 23) (k' := (K30 110 21)) [21, 23] [] hP enters_53 (mut_kind.says a0 h5) (by kernel_rfl) (hands_none _) (.cons (pass_d _) .nil) (st' := ⟨25, [(21, .b true), (23, .b v1)], [.box 42 (eC42 a0)]⟩) (by kernel_rfl) ?_
          refine goK hT 3 (K30 11 1) ⟨25, [(2, .b v1)], [.box 42 (eC42 a0)]⟩ ?_
          refine cutK [] ⟨25, [(2, .b v1)], []⟩ h0 ?_
          exact Jj1 v1 H
        · replace H := iF c4 H
          rw [decide_eq_false c4]
          refine goK hT 5 (K30 11 1) ⟨25, [(2, .b false)], [.box 42 (eC42 a0)]⟩ ?_
          refine cutK [] ⟨25, [(2, .b false)], []⟩ h0 ?_
          exact Jj1 false H
      · replace H := iF c3 H
        rw [decide_eq_false c3]
        refine goK hT 10 (K30 11 1) ⟨25, [(2, .b false)], [.box 42 (eC42 a0)]⟩ ?_
        refine cutK [] ⟨25, [(2, .b false)], []⟩ h0 ?_
        exact Jj1 false H
    · replace H := iF c2 H
      rw [decide_eq_false c2]
      refine goK hT 15 (K30 11 1) ⟨25, [(2, .b false)], [.box 42 (eC42 a0)]⟩ ?_
      refine cutK [] ⟨25, [(2, .b false)], []⟩ h0 ?_
      exact Jj1 false H
  · replace H := iF c1 H
    rw [decide_eq_false c1]
    refine goK hT 20 (K30 11 1) ⟨25, [(2, .b false)], [.box 42 (eC42 a0)]⟩ ?_
    refine cutK [] ⟨25, [(2, .b false)], []⟩ h0 ?_
    exact Jj1 false H


theorem judge_Fold_1.says (a0 : api_Entry) {r : Bool} (H : judge_Fold_1 a0 = some r) : Says Try.prog 29 [] [.d (eG54 a0)] [] (.b r) := by
  refine says_of Try.func29 rfl (nt := 7) rfl (Nat.le_of_ble_eq_true rfl) fun X hP h0 hX => ?_
  have hT : TabOk X.P T := hP ▸ tok
  have hf : X.P.funcs[29]? = some Try.f29 := hP ▸ Try.func29
  refine goK hT 9 (K29 110 2) ⟨7, [(4, .d (eG42 a0.M))], [.box 54 (eC54 a0)]⟩ ?_
  obtain ⟨v1, h1, H⟩ := ibC H
  refine ak_callP (avs := [.d (eG42 a0.M)]) (dst := some 5) (k' := (K29 110 3)) [5] [] hP enters_30 (mut_Check.says a0.M h1) (by kernel_rfl) (hands_none _) (.cons (pass_d _) .nil) (st' := ⟨7, [(5, .b v1)], [.box 54 (eC54 a0)]⟩) (by kernel_rfl) ?_
  refine goK hT 3 (K29 11 1) ⟨7, [(2, .b (!v1))], [.box 54 (eC54 a0)]⟩ ?_
  obtain rfl := retC H
  exact ak_ret hf hX (av := .b (!v1)) (by kernel_rfl) [] (sel_of_eq (by kernel_rfl)) (by decide) (by rw [h0]; rfl) (by kernel_rfl) (fun _ h => all_nil h) (.d (.v _))


theorem table_Check.says {t0 : Bool} (a0 : List api_Pair) {r : Bool} (H : table_Check a0 = some r) : Says Try.prog 34 [] [.d (eL65 t0 a0)] [] (.b r) := by
  refine says_of Try.func34 rfl (nt := 46) rfl (Nat.le_of_ble_eq_true rfl) fun X hP h0 hX => ?_
  have hT : TabOk X.P T := hP ▸ tok
  have hf : X.P.funcs[34]? = some Try.f34 := hP ▸ Try.func34
  refine goK hT 13 (K34 11010 0) ⟨46, [(0, .d (eL65 t0 a0)), (5, .d (eL65 t0 a0)), (6, .i (a0.length : Int)), (7, .i 0)], []⟩ ?_
  have L : ∀ n, (∀ (x1_7 : Int), iter (table_Check.step a0) n (.l1 x1_7) = some r → AK X 34 ((K34 11010 0)) (Back X [] (.b r)) ⟨46, [(0, .d (eL65 t0 a0)), (5, .d (eL65 t0 a0)), (6, .i (a0.length : Int)), (7, .i x1_7)], []⟩) := by
    intro n
    induction n with
    | zero => exact fun _ H => iter0 H
    | succ n ih =>
      · intro x1_7 H
        refine goK hT 5 (K34 1101001 0) ⟨46, [(0, .d (eL65 t0 a0)), (5, .d (eL65 t0 a0)), (6, .i (a0.length : Int)), (7, .i x1_7), (8, .b (decide (x1_7 < (a0.length : Int))))], []⟩ ?_
        by_cases c1 : x1_7 < (a0.length : Int)
        · replace H := sT c1 H
          rw [decide_eq_true c1]
          refine goK hT 2 (K34 1101001 1) ⟨46, [(0, .d (eL65 t0 a0)), (5, .d (eL65 t0 a0)), (6, .i (a0.length : Int)), (7, .i x1_7)], []⟩ ?_
          refine goK hT 5 (K34 11010011000 1) ⟨46, [(0, .d (eL65 t0 a0)), (5, .d (eL65 t0 a0)), (6, .i (a0.length : Int)), (7, .i x1_7), (9, .i x1_7)], []⟩ ?_
          obtain ⟨h2, H⟩ := sC H
          have Jj1 : ∀ (y1_44 : Bool), stk (table_Check.j1 x1_7 y1_44) (iter (table_Check.step a0) n) = some r → AK X 34 ((K34 11010011001 1)) (Back X [] (.b r)) ⟨46, [(0, .d (eL65 t0 a0)), (5, .d (eL65 t0 a0)), (6, .i (a0.length : Int)), (7, .i x1_7), (44, .b y1_44)], []⟩ := by
            intro y1_44 H
            by_cases c9 : y1_44 = true
            · replace H := sT c9 H
              rw [c9]
              refine goK hT 5 (K34 1101001100110 1) ⟨46, [(2, .b false)], []⟩ ?_
              obtain rfl := retC H
              exact ak_ret hf hX (av := .b false) (by kernel_rfl) [] (sel_of_eq (by kernel_rfl)) (by decide) (by rw [h0]; rfl) (by kernel_rfl) (fun _ h => all_nil h) (.d (.v _))
            · replace H := sF c9 H
              rw [boF c9]
              refine goK hT 3 (K34 11010011 1) ⟨46, [(0, .d (eL65 t0 a0)), (5, .d (eL65 t0 a0)), (6, .i (a0.length : Int)), (7, .i x1_7)], []⟩ ?_
              refine goK hT 5 (K34 11010 0) ⟨46, [(0, .d (eL65 t0 a0)), (5, .d (eL65 t0 a0)), (6, .i (a0.length : Int)), (7, .i (IntKind.wrap .i64 (x1_7 + 1)))], []⟩ ?_
              refine cutK [] ⟨46, [(0, .d (eL65 t0 a0)), (5, .d (eL65 t0 a0)), (6, .i (a0.length : Int)), (7, .i (IntKind.wrap .i64 (x1_7 + 1)))], []⟩ h0 ?_
              exact ih (IntKind.wrap .i64 (x1_7 + 1)) H
          refine ak_idx hT [0, 5, 6, 7, 9, 10] (i := x1_7) (n := (a0.length : Int)) h2.1 h2.2 (k' := (K34 11010011000 2)) (st' := ⟨46, [(0, .d (eL65 t0 a0)), (5, .d (eL65 t0 a0)), (6, .i (a0.length : Int)), (7, .i x1_7), (9, .i x1_7), (10, .d (eP65 t0 a0 x1_7.toNat 0))], []⟩) (by kernel_rfl) ?_
          refine goK hT 6 (K34 11010011001 0) ⟨46, [(0, .d (eL65 t0 a0)), (3, .i x1_7), (4, .ptr 0 0 0 0), (5, .d (eL65 t0 a0)), (6, .i (a0.length : Int)), (7, .i x1_7)], [.box 65 (eC65 (a0.getD x1_7.toNat api_Pair.z))]⟩ ?_
          by_cases c3 : ((a0.getD x1_7.toNat api_Pair.z).Key) < 0
          · replace H := sT c3 H
            refine drawK (hP ▸ mixed) 33 [0, 3, 4, 5, 6, 7] [some (.ptr 0 0 0 0), some (.i ((a0.getD x1_7.toNat api_Pair.z).Key)), some (.b true), some (.b true), some (.tup []), some (.tup []), some (.tup []), some (.b true), some (.b true), some (.tup []), some (.tup []), some (.tup []), some (.b true), some (.b true), some (.tup []), some (.tup []), some (.tup []), some (.b true), some (.b true), some (.tup []), some (.tup []), some (.tup []), some (.tup []), some (.tup []), some (.tup []), some (.tup []), some (.tup []), some (.tup []), some (.tup []), some (.tup []), some (.tup []), some (.tup []), some (.b true)] (opG (opG (opG (opG (opG (opG (opG (opG (opG (opG (opG (opG (opG (opG (opG (opG (opG (opG (opG (opG (opG (opG (opG (opG (opG (opG (opG (opG (opG (opG (opV (opG (opG op0 hT) hT) hT 14 (.b (decide (((a0.getD x1_7.toNat api_Pair.z).Key) < 0))) (.b true) (by rw [decide_eq_true c3])) hT) hT) hT) hT) hT) hT) hT) hT) hT) hT) hT) hT) hT) hT) hT) hT) hT) hT) hT) hT) hT) hT) hT) hT) hT) hT) hT) hT) hT) hT) ?_
            refine goK hT 1 (K34 11010011001 1) ⟨46, [(0, .d (eL65 t0 a0)), (5, .d (eL65 t0 a0)), (6, .i (a0.length : Int)), (7, .i x1_7), (44, .b true)], [.box 65 (eC65 (a0.getD x1_7.toNat api_Pair.z))]⟩ ?_
            refine cutK [] ⟨46, [(0, .d (eL65 t0 a0)), (5, .d (eL65 t0 a0)), (6, .i (a0.length : Int)), (7, .i x1_7), (44, .b true)], []⟩ h0 ?_
            exact Jj1 true H
          · replace H := sF c3 H
            by_cases c4 : ((a0.getD x1_7.toNat api_Pair.z).Key) ≥ 4096
            · replace H := sT c4 H
              refine drawK (hP ▸ mixed) 33 [0, 3, 4, 5, 6, 7] [some (.ptr 0 0 0 0), some (.i ((a0.getD x1_7.toNat api_Pair.z).Key)), some (.b false), some (.b false), some (.ptr 0 0 0 0), some (.i ((a0.getD x1_7.toNat api_Pair.z).Key)), some (.b true), some (.b true), some (.b true), some (.tup []), some (.tup []), some (.tup []), some (.b true), some (.b true), some (.tup []), some (.tup []), some (.tup []), some (.b true), some (.b true), some (.tup []), some (.tup []), some (.tup []), some (.tup []), some (.tup []), some (.tup []), some (.tup []), some (.tup []), some (.tup []), some (.tup []), some (.tup []), some (.tup []), some (.tup []), some (.b true)] (opG (opG (opG (opG (opG (opG (opG (opG (opG (opG (opG (opG (opG (opG (opG (opG (opG (opG (opG (opG (opG (opG (opG (opG (opG (opG (opV (opG (opG (opG (opV (opG (opG op0 hT) hT) hT 14 (.b (decide (((a0.getD x1_7.toNat api_Pair.z).Key) < 0))) (.b false) (by rw [decide_eq_false c3])) hT) hT) hT) hT 18 (.b (decide (((a0.getD x1_7.toNat api_Pair.z).Key) ≥ 4096))) (.b true) (by rw [decide_eq_true c4])) hT) hT) hT) hT) hT) hT) hT) hT) hT) hT) hT) hT) hT) hT) hT) hT) hT) hT) hT) hT) hT) hT) hT) hT) hT) hT) ?_
              refine goK hT 1 (K34 11010011001 1) ⟨46, [(0, .d (eL65 t0 a0)), (5, .d (eL65 t0 a0)), (6, .i (a0.length : Int)), (7, .i x1_7), (44, .b true)], [.box 65 (eC65 (a0.getD x1_7.toNat api_Pair.z))]⟩ ?_
              refine cutK [] ⟨46, [(0, .d (eL65 t0 a0)), (5, .d (eL65 t0 a0)), (6, .i (a0.length : Int)), (7, .i x1_7), (44, .b true)], []⟩ h0 ?_
              exact Jj1 true H
            · replace H := sF c4 H
              by_cases c5 : ((a0.getD x1_7.toNat api_Pair.z).Val) < (-1099511627776)
              · replace H := sT c5 H
                refine drawK (hP ▸ mixed) 33 [0, 3, 4, 5, 6, 7] [some (.ptr 0 0 0 0), some (.i ((a0.getD x1_7.toNat api_Pair.z).Key)), some (.b false), some (.b false), some (.ptr 0 0 0 0), some (.i ((a0.getD x1_7.toNat api_Pair.z).Key)), some (.b false), some (.b false), some (.b false), some (.ptr 0 0 0 1), some (.i ((a0.getD x1_7.toNat api_Pair.z).Val)), some (.b true), some (.b true), some (.b true), some (.tup []), some (.tup []), some (.tup []), some (.b true), some (.b true), some (.tup []), some (.tup []), some (.tup []), some (.tup []), some (.tup []), some (.tup []), some (.tup []), some (.tup []), some (.tup []), some (.tup []), some (.tup []), some (.tup []), some (.tup []), some (.b true)] (opG (opG (opG (opG (opG (opG (opG (opG (opG (opG (opG (opG (opG (opG (opG (opG (opG (opG (opG (opG (opG (opV (opG (opG (opG (opG (opV (opG (opG (opG (opV (opG (opG op0 hT) hT) hT 14 (.b (decide (((a0.getD x1_7.toNat api_Pair.z).Key) < 0))) (.b false) (by rw [decide_eq_false c3])) hT) hT) hT) hT 18 (.b (decide (((a0.getD x1_7.toNat api_Pair.z).Key) ≥ 4096))) (.b false) (by rw [decide_eq_false c4])) hT) hT) hT) hT) hT 23 (.b (decide (((a0.getD x1_7.toNat api_Pair.z).Val) < (-1099511627776)))) (.b true) (by rw [decide_eq_true c5])) hT) hT) hT) hT) hT) hT) hT) hT) hT) hT) hT) hT) hT) hT) hT) hT) hT) hT) hT) hT) hT) ?_
                refine goK hT 1 (K34 11010011001 1) ⟨46, [(0, .d (eL65 t0 a0)), (5, .d (eL65 t0 a0)), (6, .i (a0.length : Int)), (7, .i x1_7), (44, .b true)], [.box 65 (eC65 (a0.getD x1_7.toNat api_Pair.z))]⟩ ?_
                refine cutK [] ⟨46, [(0, .d (eL65 t0 a0)), (5, .d (eL65 t0 a0)), (6, .i (a0.length : Int)), (7, .i x1_7), (44, .b true)], []⟩ h0 ?_
                exact Jj1 true H
              · replace H := sF c5 H
                by_cases c6 : ((a0.getD x1_7.toNat api_Pair.z).Val) > 1099511627776
                · replace H := sT c6 H
                  refine drawK (hP ▸ mixed) 33 [0, 3, 4, 5, 6, 7] [some (.ptr 0 0 0 0), some (.i ((a0.getD x1_7.toNat api_Pair.z).Key)), some (.b false), some (.b false), some (.ptr 0 0 0 0), some (.i ((a0.getD x1_7.toNat api_Pair.z).Key)), some (.b false), some (.b false), some (.b false), some (.ptr 0 0 0 1), some (.i ((a0.getD x1_7.toNat api_Pair.z).Val)), some (.b false), some (.b false), some (.b false), some (.ptr 0 0 0 1), some (.i ((a0.getD x1_7.toNat api_Pair.z).Val)), some (.b true), some (.b true), some (.b true), some (.tup []), some (.tup []), some (.tup []), some (.tup []), some (.tup []), some (.tup []), some (.tup []), some (.tup []), some (.tup []), some (.tup []), some (.tup []), some (.tup []), some (.tup []), some (.b true)] (opG (opG (opG (opG (opG (opG (opG (opG (opG (opG (opG (opG (opG (opG (opG (opG (opV (opG (opG (opG (opG (opV (opG (opG (opG (opG (opV (opG (opG (opG (opV (opG (opG op0 hT) hT) hT 14 (.b (decide (((a0.getD x1_7.toNat api_Pair.z).Key) < 0))) (.b false) (by rw [decide_eq_false c3])) hT) hT) hT) hT 18 (.b (decide (((a0.getD x1_7.toNat api_Pair.z).Key) ≥ 4096))) (.b false) (by rw [decide_eq_false c4])) hT) hT) hT) hT) hT 23 (.b (decide (((a0.getD x1_7.toNat api_Pair.z).Val) < (-1099511627776)))) (.b false) (by rw [decide_eq_false c5])) hT) hT) hT) hT) hT 28 (.b (decide (((a0.getD x1_7.toNat api_Pair.z).Val) > 1099511627776))) (.b true) (by rw [decide_eq_true c6])) hT) hT) hT) hT) hT) hT) hT) hT) hT) hT) hT) hT) hT) hT) hT) hT) ?_
                  refine goK hT 1 (K34 11010011001 1) ⟨46, [(0, .d (eL65 t0 a0)), (5, .d (eL65 t0 a0)), (6, .i (a0.length : Int)), (7, .i x1_7), (44, .b true)], [.box 65 (eC65 (a0.getD x1_7.toNat api_Pair.z))]⟩ ?_
                  refine cutK [] ⟨46, [(0, .d (eL65 t0 a0)), (5, .d (eL65 t0 a0)), (6, .i (a0.length : Int)), (7, .i x1_7), (44, .b true)], []⟩ h0 ?_
                  exact Jj1 true H
                · replace H := sF c6 H
                  by_cases c7 : x1_7 > 0
                  · replace H := sT c7 H
                    obtain ⟨h8, H⟩ := sC H
                    refine drawK (hP ▸ mixed) 33 [0, 3, 4, 5, 6, 7] [some (.ptr 0 0 0 0), some (.i ((a0.getD x1_7.toNat api_Pair.z).Key)), some (.b false), some (.b false), some (.ptr 0 0 0 0), some (.i ((a0.getD x1_7.toNat api_Pair.z).Key)), some (.b false), some (.b false), some (.b false), some (.ptr 0 0 0 1), some (.i ((a0.getD x1_7.toNat api_Pair.z).Val)), some (.b false), some (.b false), some (.b false), some (.ptr 0 0 0 1), some (.i ((a0.getD x1_7.toNat api_Pair.z).Val)), some (.b false), some (.b false), some (.b false), some (.i x1_7), some (.b true), some (.b true), some (.d (eL65 t0 a0)), some (.i x1_7), some (.i (IntKind.wrap .i64 (x1_7 - 1))), some (.d (eP65 t0 a0 ((IntKind.wrap .i64 (x1_7 - 1)).toNat) 0)), some (.d (eP65 t0 a0 ((IntKind.wrap .i64 (x1_7 - 1)).toNat) 0)), some (.i ((a0.getD ((IntKind.wrap .i64 (x1_7 - 1)).toNat) api_Pair.z).Key)), some (.ptr 0 0 0 0), some (.i ((a0.getD x1_7.toNat api_Pair.z).Key)), some (.b (decide (((a0.getD ((IntKind.wrap .i64 (x1_7 - 1)).toNat) api_Pair.z).Key) ≥ ((a0.getD x1_7.toNat api_Pair.z).Key)))), some (.b (decide (((a0.getD ((IntKind.wrap .i64 (x1_7 - 1)).toNat) api_Pair.z).Key) ≥ ((a0.getD x1_7.toNat api_Pair.z).Key)))), some (.b (decide (((a0.getD ((IntKind.wrap .i64 (x1_7 - 1)).toNat) api_Pair.z).Key) ≥ ((a0.getD x1_7.toNat api_Pair.z).Key))))] (opG (opG (opG (opG (opG (opG (opG (opS (opG (opG (opG (opG (opV (opG (opG (opG (opV (opG (opG (opG (opG (opV (opG (opG (opG (opG (opV (opG (opG (opG (opV (opG (opG op0 hT) hT) hT 14 (.b (decide (((a0.getD x1_7.toNat api_Pair.z).Key) < 0))) (.b false) (by rw [decide_eq_false c3])) hT) hT) hT) hT 18 (.b (decide (((a0.getD x1_7.toNat api_Pair.z).Key) ≥ 4096))) (.b false) (by rw [decide_eq_false c4])) hT) hT) hT) hT) hT 23 (.b (decide (((a0.getD x1_7.toNat api_Pair.z).Val) < (-1099511627776)))) (.b false) (by rw [decide_eq_false c5])) hT) hT) hT) hT) hT 28 (.b (decide (((a0.getD x1_7.toNat api_Pair.z).Val) > 1099511627776))) (.b false) (by rw [decide_eq_false c6])) hT) hT) hT) hT 32 (.b (decide (x1_7 > 0))) (.b true) (by rw [decide_eq_true c7])) hT) hT) hT) hT) (fun R rest h => ak_idx0 hT (i := IntKind.wrap .i64 (x1_7 - 1)) (n := (a0.length : Int)) h8.1 h8.2 (by kernel_rfl) h)) hT) hT) hT) hT) hT) hT) hT) ?_
                    refine goK hT 1 (K34 11010011001 1) ⟨46, [(0, .d (eL65 t0 a0)), (5, .d (eL65 t0 a0)), (6, .i (a0.length : Int)), (7, .i x1_7), (44, .b (decide (((a0.getD ((IntKind.wrap .i64 (x1_7 - 1)).toNat) api_Pair.z).Key) ≥ ((a0.getD x1_7.toNat api_Pair.z).Key))))], [.box 65 (eC65 (a0.getD x1_7.toNat api_Pair.z))]⟩ ?_
                    refine cutK [] ⟨46, [(0, .d (eL65 t0 a0)), (5, .d (eL65 t0 a0)), (6, .i (a0.length : Int)), (7, .i x1_7), (44, .b (decide (((a0.getD ((IntKind.wrap .i64 (x1_7 - 1)).toNat) api_Pair.z).Key) ≥ ((a0.getD x1_7.toNat api_Pair.z).Key))))], []⟩ h0 ?_
                    exact Jj1 (decide (((a0.getD ((IntKind.wrap .i64 (x1_7 - 1)).toNat) api_Pair.z).Key) ≥ ((a0.getD x1_7.toNat api_Pair.z).Key))) H
                  · replace H := sF c7 H
                    refine drawK (hP ▸ mixed) 33 [0, 3, 4, 5, 6, 7] [some (.ptr 0 0 0 0), some (.i ((a0.getD x1_7.toNat api_Pair.z).Key)), some (.b false), some (.b false), some (.ptr 0 0 0 0), some (.i ((a0.getD x1_7.toNat api_Pair.z).Key)), some (.b false), some (.b false), some (.b false), some (.ptr 0 0 0 1), some (.i ((a0.getD x1_7.toNat api_Pair.z).Val)), some (.b false), some (.b false), some (.b false), some (.ptr 0 0 0 1), some (.i ((a0.getD x1_7.toNat api_Pair.z).Val)), some (.b false), some (.b false), some (.b false), some (.i x1_7), some (.b false), some (.b false), some (.tup []), some (.tup []), some (.tup []), some (.tup []), some (.tup []), some (.tup []), some (.tup []), some (.tup []), some (.tup []), some (.b false), some (.b false)] (opG (opG (opG (opG (opG (opG (opG (opG (opG (opG (opG (opG (opV (opG (opG (opG (opV (opG (opG (opG (opG (opV (opG (opG (opG (opG (opV (opG (opG (opG (opV (opG (opG op0 hT) hT) hT 14 (.b (decide (((a0.getD x1_7.toNat api_Pair.z).Key) < 0))) (.b false) (by rw [decide_eq_false c3])) hT) hT) hT) hT 18 (.b (decide (((a0.getD x1_7.toNat api_Pair.z).Key) ≥ 4096))) (.b false) (by rw [decide_eq_false c4])) hT) hT) hT) hT) hT 23 (.b (decide (((a0.getD x1_7.toNat api_Pair.z).Val) < (-1099511627776)))) (.b false) (by rw [decide_eq_false c5])) hT) hT) hT) hT) hT 28 (.b (decide (((a0.getD x1_7.toNat api_Pair.z).Val) > 1099511627776))) (.b false) (by rw [decide_eq_false c6])) hT) hT) hT) hT 32 (.b (decide (x1_7 > 0))) (.b false) (by rw [decide_eq_false c7])) hT) hT) hT) hT) hT) hT) hT) hT) hT) hT) hT) hT) ?_
                    refine goK hT 1 (K34 11010011001 1) ⟨46, [(0, .d (eL65 t0 a0)), (5, .d (eL65 t0 a0)), (6, .i (a0.length : Int)), (7, .i x1_7), (44, .b false)], [.box 65 (eC65 (a0.getD x1_7.toNat api_Pair.z))]⟩ ?_
                    refine cutK [] ⟨46, [(0, .d (eL65 t0 a0)), (5, .d (eL65 t0 a0)), (6, .i (a0.length : Int)), (7, .i x1_7), (44, .b false)], []⟩ h0 ?_
                    exact Jj1 false H
        · replace H := sF c1 H
          rw [decide_eq_false c1]
          refine goK hT 6 (K34 111 1) ⟨46, [(2, .b true)], []⟩ ?_
          obtain rfl := retC H
          exact ak_ret hf hX (av := .b true) (by kernel_rfl) [] (sel_of_eq (by kernel_rfl)) (by decide) (by rw [h0]; rfl) (by kernel_rfl) (fun _ h => all_nil h) (.d (.v _))
  refine cutK [] ⟨46, [(0, .d (eL65 t0 a0)), (5, .d (eL65 t0 a0)), (6, .i (a0.length : Int)), (7, .i 0)], []⟩ h0 ?_
  obtain ⟨n, H⟩ := loopC H
  exact (L n) 0 H


theorem slices_DeleteFunc_api_Pair.says {ff1 : FuncId} {cc1 : List DV} (a0 : List api_Pair) (p1 : api_Pair → Option Bool) (he1 : Sy.Enters Try.prog ff1) (hp1 : ∀ (z0 : api_Pair) r, p1 z0 = some r → Says Try.prog ff1 [] ([.d (eG65 z0)] ++ List.map AV.d cc1) [] (.b r)) {r : List api_Pair} (H : slices_DeleteFunc_api_Pair a0 p1 = some r) : Says Try.prog 74 [eR65 a0] [.own 0 2 0 a0.length, .d (.fn ff1 cc1)] [.gone, eR65 r] (.own 1 2 0 r.length) := by
  refine says_of Try.func74 rfl (nt := 42) rfl (Nat.le_of_ble_eq_true rfl) fun X hP h0 hX => ?_
  have hT : TabOk X.P T := hP ▸ tok
  have hf : X.P.funcs[74]? = some Try.f74 := hP ▸ Try.func74
  refine ak_dup 0 (r := eR65 a0) rfl rfl (st' := ⟨42, [(0, .own 1 2 0 a0.length), (1, .d (.fn ff1 cc1))], [.gone, eR65 a0]⟩) (by kernel_rfl) (by kernel_rfl) rfl ?_
  refine goK hT 8 (K74 110 2) ⟨42, [(0, .own 1 2 0 a0.length), (1, .d (.fn ff1 cc1)), (8, .own 1 2 0 a0.length), (9, .d (.fn ff1 cc1))], [.gone, eR65 a0]⟩ ?_
  obtain ⟨v1, h1, H⟩ := ibC H
  refine ak_callP (avs := [.own 1 2 0 a0.length, .d (.fn ff1 cc1)]) (dst := some 10) (k' := (K74 110 3)) [0, 1, 10] [] hP enters_95 (slices_IndexFunc_api_Pair.says (t0 := false) (ff1 := ff1) (cc1 := cc1) a0 p1 he1 hp1 h1) (by kernel_rfl) (hands_none _) (.cons (.lend (ty := 65) (by kernel_rfl) rfl) (.cons (pass_d _) .nil)) (st' := ⟨42, [(0, .own 1 2 0 a0.length), (1, .d (.fn ff1 cc1)), (10, .i v1)], [.gone, eR65 a0]⟩) (by kernel_rfl) ?_
  refine goK hT 8 (K74 1110 1) ⟨42, [(0, .own 1 2 0 a0.length), (1, .d (.fn ff1 cc1)), (5, .i v1), (12, .b (v1 == (-1)))], [.gone, eR65 a0]⟩ ?_
  by_cases c2 : v1 = (-1)
  · replace H := iT c2 H
    rw [eqT c2]
    refine goK hT 6 (K74 111010 1) ⟨42, [(4, .own 1 2 0 a0.length)], [.gone, eR65 a0]⟩ ?_
    obtain rfl := retC H
    exact ak_ret hf hX (av := .own 1 2 0 a0.length) (by kernel_rfl) [0, 1] (sel_of_eq (by kernel_rfl)) (by decide) (by rw [h0]; rfl) (by kernel_rfl) (fun _ h => all_cons .gone (fun _ h => all_cons (nr_vec api_Pair.nl) (fun _ h => all_nil h) h) h) (.own _ _ _ _)
  · replace H := iF c2 H
    rw [eqF c2]
    refine goK hT 2 (K74 111 1) ⟨42, [(0, .own 1 2 0 a0.length), (1, .d (.fn ff1 cc1)), (5, .i v1)], [.gone, eR65 a0]⟩ ?_
    refine goK hT 9 (K74 1111010 0) ⟨42, [(0, .own 1 2 0 a0.length), (1, .d (.fn ff1 cc1)), (5, .i v1), (6, .i (IntKind.wrap .i64 (v1 + 1)))], [.gone, eR65 a0]⟩ ?_
    have L : ∀ n, (∀ (x1_5 : Int) (x1_6 : Int) (x1_r1 : List api_Pair), iter (slices_DeleteFunc_api_Pair.step p1) n (.l1 x1_5 x1_6 x1_r1) = some r → AK X 74 ((K74 1111010 0)) (Back X [.gone, eR65 r] (.own 1 2 0 r.length)) ⟨42, [(0, .own 1 2 0 x1_r1.length), (1, .d (.fn ff1 cc1)), (5, .i x1_5), (6, .i x1_6)], [.gone, eR65 x1_r1]⟩) := by
      intro n
      induction n with
      | zero => exact fun _ _ _ H => iter0 H
      | succ n ih =>
        · intro x1_5 x1_6 x1_r1 H
          refine goK hT 8 (K74 111101000 1) ⟨42, [(0, .own 1 2 0 x1_r1.length), (1, .d (.fn ff1 cc1)), (5, .i x1_5), (6, .i x1_6), (19, .b (decide (x1_6 < (x1_r1.length : Int))))], [.gone, eR65 x1_r1]⟩ ?_
          by_cases c3 : x1_6 < (x1_r1.length : Int)
          · replace H := sT c3 H
            rw [decide_eq_true c3]
            refine goK hT 2 (K74 11110100 1) ⟨42, [(0, .own 1 2 0 x1_r1.length), (1, .d (.fn ff1 cc1)), (5, .i x1_5), (6, .i x1_6)], [.gone, eR65 x1_r1]⟩ ?_
            refine goK hT 6 (K74 111101001000 2) ⟨42, [(0, .own 1 2 0 x1_r1.length), (1, .d (.fn ff1 cc1)), (5, .i x1_5), (6, .i x1_6), (22, .own 1 2 0 x1_r1.length), (23, .i x1_6)], [.gone, eR65 x1_r1]⟩ ?_
            obtain ⟨h5, H⟩ := sC H
            refine ak_idx hT [0, 1, 5, 6, 24] (i := x1_6) (n := (x1_r1.length : Int)) h5.1 h5.2 (k' := (K74 111101001000 3)) (st' := ⟨42, [(0, .own 1 2 0 x1_r1.length), (1, .d (.fn ff1 cc1)), (5, .i x1_5), (6, .i x1_6), (24, .ptr 1 2 x1_6.toNat 0)], [.gone, eR65 x1_r1]⟩) (by kernel_rfl) ?_
            refine ak_ld hT [0, 1, 5, 6, 25] (i := x1_6.toNat) (n := x1_r1.length) (ltN h5.1 h5.2) (k' := (K74 111101001000 4)) (st' := ⟨42, [(0, .own 1 2 0 x1_r1.length), (1, .d (.fn ff1 cc1)), (5, .i x1_5), (6, .i x1_6), (25, .d (eG65 (x1_r1.getD x1_6.toNat api_Pair.z)))], [.gone, eR65 x1_r1]⟩) (by kernel_rfl) ?_
            refine goK hT 7 (K74 1111010010010 2) ⟨42, [(0, .own 1 2 0 x1_r1.length), (1, .d (.fn ff1 cc1)), (5, .i x1_5), (6, .i x1_6), (7, .ptr 2 0 0 0), (26, .d (.fn ff1 cc1)), (27, .d (eG65 (x1_r1.getD x1_6.toNat api_Pair.z)))], [.gone, eR65 x1_r1, .box 65 (eC65 (x1_r1.getD x1_6.toNat api_Pair.z))]⟩ ?_
            obtain ⟨v2, h6, H⟩ := sbC H
            have Jj1 : ∀ (y1_5 : Int) (y1_r1 : List api_Pair), stk (slices_DeleteFunc_api_Pair.j1 x1_6 y1_5 y1_r1) (iter (slices_DeleteFunc_api_Pair.step p1) n) = some r → AK X 74 ((K74 111101001 1)) (Back X [.gone, eR65 r] (.own 1 2 0 r.length)) ⟨42, [(0, .own 1 2 0 y1_r1.length), (1, .d (.fn ff1 cc1)), (5, .i y1_5), (6, .i x1_6)], [.gone, eR65 y1_r1]⟩ := by
              intro y1_5 y1_r1 H
              refine goK hT 6 (K74 1111010 0) ⟨42, [(0, .own 1 2 0 y1_r1.length), (1, .d (.fn ff1 cc1)), (5, .i y1_5), (6, .i (IntKind.wrap .i64 (x1_6 + 1)))], [.gone, eR65 y1_r1]⟩ ?_
              refine cutK [0, 1] ⟨42, [(0, .own 1 2 0 y1_r1.length), (1, .d (.fn ff1 cc1)), (5, .i y1_5), (6, .i (IntKind.wrap .i64 (x1_6 + 1)))], [.gone, eR65 y1_r1]⟩ h0 ?_
              exact ih y1_5 (IntKind.wrap .i64 (x1_6 + 1)) y1_r1 H
            refine ak_callP (avs := [.d (eG65 (x1_r1.getD x1_6.toNat api_Pair.z))] ++ List.map AV.d cc1) (dst := some 28) (k' := (K74 1111010010010 3)) [0, 1, 5, 6, 7, 28] [] hP he1 (hp1 (x1_r1.getD x1_6.toNat api_Pair.z) v2 h6) (by kernel_rfl) (hands_none _) (.cons (pass_d _) (passes_d _)) (st' := ⟨42, [(0, .own 1 2 0 x1_r1.length), (1, .d (.fn ff1 cc1)), (5, .i x1_5), (6, .i x1_6), (7, .ptr 2 0 0 0), (28, .b v2)], [.gone, eR65 x1_r1, .box 65 (eC65 (x1_r1.getD x1_6.toNat api_Pair.z))]⟩) (by kernel_rfl) ?_
            refine goK hT 2 (K74 111101001001 1) ⟨42, [(0, .own 1 2 0 x1_r1.length), (1, .d (.fn ff1 cc1)), (5, .i x1_5), (6, .i x1_6), (7, .ptr 2 0 0 0), (29, .b (!v2))], [.gone, eR65 x1_r1, .box 65 (eC65 (x1_r1.getD x1_6.toNat api_Pair.z))]⟩ ?_
            by_cases c7 : v2 = true
            · replace H := sT c7 H
              rw [c7]
              refine goK hT 3 (K74 111101001 1) ⟨42, [(0, .own 1 2 0 x1_r1.length), (1, .d (.fn ff1 cc1)), (5, .i x1_5), (6, .i x1_6)], [.gone, eR65 x1_r1, .box 65 (eC65 (x1_r1.getD x1_6.toNat api_Pair.z))]⟩ ?_
              refine cutK [0, 1] ⟨42, [(0, .own 1 2 0 x1_r1.length), (1, .d (.fn ff1 cc1)), (5, .i x1_5), (6, .i x1_6)], [.gone, eR65 x1_r1]⟩ h0 ?_
              exact Jj1 x1_5 x1_r1 H
            · replace H := sF c7 H
              rw [boF c7]
              refine goK hT 6 (K74 111101001001100 3) ⟨42, [(0, .own 1 2 0 x1_r1.length), (1, .d (.fn ff1 cc1)), (5, .i x1_5), (6, .i x1_6), (30, .own 1 2 0 x1_r1.length), (31, .i x1_5), (32, .d (eG65 (x1_r1.getD x1_6.toNat api_Pair.z)))], [.gone, eR65 x1_r1, .box 65 (eC65 (x1_r1.getD x1_6.toNat api_Pair.z))]⟩ ?_
              obtain ⟨h8, H⟩ := sC H
              refine ak_idx hT [0, 1, 5, 6, 32, 33] (i := x1_5) (n := (x1_r1.length : Int)) h8.1 h8.2 (k' := (K74 111101001001100 4)) (st' := ⟨42, [(0, .own 1 2 0 x1_r1.length), (1, .d (.fn ff1 cc1)), (5, .i x1_5), (6, .i x1_6), (32, .d (eG65 (x1_r1.getD x1_6.toNat api_Pair.z))), (33, .ptr 1 2 x1_5.toNat 0)], [.gone, eR65 x1_r1, .box 65 (eC65 (x1_r1.getD x1_6.toNat api_Pair.z))]⟩) (by kernel_rfl) ?_
              refine ak_st (id := 1) (kk := 2) (i := x1_5.toNat) (off := 0) (s := 2) (n := x1_r1.length) (ty := 65) (ds := [.i ((x1_r1.getD x1_6.toNat api_Pair.z).Key), .i ((x1_r1.getD x1_6.toNat api_Pair.z).Val)]) (g := vec api_Pair.e api_Pair.z x1_r1) (k' := (K74 111101001001100 5)) hT [0, 1, 5, 6] (vec api_Pair.e api_Pair.z (x1_r1.set x1_5.toNat (x1_r1.getD x1_6.toNat api_Pair.z))) (by kernel_rfl) (by kernel_rfl) (ltN h8.1 h8.2) ((vec_set (ltN h8.1 h8.2)).trans (by kernel_rfl)) vec_set_ne (st' := ⟨42, [(0, .own 1 2 0 (x1_r1.length)), (1, .d (.fn ff1 cc1)), (5, .i x1_5), (6, .i x1_6)], [.gone, .flat false 2 65 x1_r1.length (vec api_Pair.e api_Pair.z (x1_r1.set x1_5.toNat (x1_r1.getD x1_6.toNat api_Pair.z))), .box 65 (eC65 (x1_r1.getD x1_6.toNat api_Pair.z))]⟩) (by kernel_rfl) ?_
              refine ak_eq (show x1_r1.length = (x1_r1.set x1_5.toNat (x1_r1.getD x1_6.toNat api_Pair.z)).length from (List.length_set ..).symm) (fun nn => ⟨42, [(0, .own 1 2 0 (nn)), (1, .d (.fn ff1 cc1)), (5, .i x1_5), (6, .i x1_6)], [.gone, .flat false 2 65 nn (vec api_Pair.e api_Pair.z (x1_r1.set x1_5.toNat (x1_r1.getD x1_6.toNat api_Pair.z))), .box 65 (eC65 (x1_r1.getD x1_6.toNat api_Pair.z))]⟩) ?_
              refine goK hT 7 (K74 111101001 1) ⟨42, [(0, .own 1 2 0 ((x1_r1.set x1_5.toNat (x1_r1.getD x1_6.toNat api_Pair.z)).length)), (1, .d (.fn ff1 cc1)), (5, .i (IntKind.wrap .i64 (x1_5 + 1))), (6, .i x1_6)], [.gone, eR65 (x1_r1.set x1_5.toNat (x1_r1.getD x1_6.toNat api_Pair.z)), .box 65 (eC65 (x1_r1.getD x1_6.toNat api_Pair.z))]⟩ ?_
              refine cutK [0, 1] ⟨42, [(0, .own 1 2 0 (x1_r1.set x1_5.toNat (x1_r1.getD x1_6.toNat api_Pair.z)).length), (1, .d (.fn ff1 cc1)), (5, .i (IntKind.wrap .i64 (x1_5 + 1))), (6, .i x1_6)], [.gone, eR65 (x1_r1.set x1_5.toNat (x1_r1.getD x1_6.toNat api_Pair.z))]⟩ h0 ?_
              exact Jj1 (IntKind.wrap .i64 (x1_5 + 1)) (x1_r1.set x1_5.toNat (x1_r1.getD x1_6.toNat api_Pair.z)) H
          · replace H := sF c3 H
            rw [decide_eq_false c3]
            refine goK hT 6 (K74 111110 2) ⟨42, [(0, .own 1 2 0 x1_r1.length), (5, .i x1_5), (36, .own 1 2 0 x1_r1.length), (37, .i x1_5)], [.gone, eR65 x1_r1]⟩ ?_
            obtain ⟨h4, H⟩ := sC H
            refine ak_clear (id := 1) (s := 2) (off := 0) (n := x1_r1.length) (N := x1_r1.length) (kk := .i64) (l := x1_5) (d := 38) (ty := 65) (g := vec api_Pair.e api_Pair.z x1_r1) (k' := (K74 111110 4)) hT [0, 5] (by kernel_rfl) (by kernel_rfl) h4.1 h4.2 rfl rfl (by decide) (by decide) (st' := ⟨42, [(0, .own 1 2 0 x1_r1.length), (5, .i x1_5)], [.gone, .flat false 2 65 x1_5.toNat (vec api_Pair.e api_Pair.z x1_r1)]⟩) (by kernel_rfl) ?_
            refine ak_trunc 1 (kk := 2) (n := x1_5.toNat) (m := (x1_r1.take x1_5.toNat).length) (fz := false) (ty := 65) (g := vec api_Pair.e api_Pair.z x1_r1) (vec api_Pair.e api_Pair.z (x1_r1.take x1_5.toNat)) (by kernel_rfl) (by simp only [List.length_take]; omega) vec_take (st' := ⟨42, [(0, .own 1 2 0 x1_r1.length), (5, .i x1_5)], [.gone, eR65 (x1_r1.take x1_5.toNat)]⟩) (by kernel_rfl) ?_
            refine goK hT 5 (K74 1111110 2) ⟨42, [(39, .own 1 2 0 x1_r1.length), (40, .i x1_5)], [.gone, eR65 (x1_r1.take x1_5.toNat)]⟩ ?_
            refine ak_sliceO (id := 1) (s := 2) (off := 0) (n := x1_r1.length) (kk := .i64) (i := x1_5) (dst := some 41) (k' := (K74 1111110 3)) hT [41] (by kernel_rfl) h4.1 h4.2 (st' := ⟨42, [(41, .own 1 2 0 x1_5.toNat)], [.gone, eR65 (x1_r1.take x1_5.toNat)]⟩) (by kernel_rfl) ?_
            refine ak_eq (show x1_5.toNat = (x1_r1.take x1_5.toNat).length from by simp only [List.length_take]; omega) (fun nn => ⟨42, [(41, .own 1 2 0 nn)], [.gone, eR65 (x1_r1.take x1_5.toNat)]⟩) ?_
            refine goK hT 2 (K74 111111 1) ⟨42, [(4, .own 1 2 0 ((x1_r1.take x1_5.toNat).length))], [.gone, eR65 (x1_r1.take x1_5.toNat)]⟩ ?_
            obtain rfl := retC H
            exact ak_ret hf hX (av := .own 1 2 0 ((x1_r1.take x1_5.toNat).length)) (by kernel_rfl) [0, 1] (sel_of_eq (by kernel_rfl)) (by decide) (by rw [h0]; rfl) (by kernel_rfl) (fun _ h => all_cons .gone (fun _ h => all_cons (nr_vec api_Pair.nl) (fun _ h => all_nil h) h) h) (.own _ _ _ _)
    refine cutK [0, 1] ⟨42, [(0, .own 1 2 0 a0.length), (1, .d (.fn ff1 cc1)), (5, .i v1), (6, .i (IntKind.wrap .i64 (v1 + 1)))], [.gone, eR65 a0]⟩ h0 ?_
    obtain ⟨n, H⟩ := loopC H
    exact (L n) v1 (IntKind.wrap .i64 (v1 + 1)) a0 H


theorem slices_IndexFunc_api_Span.says {t0 : Bool} {ff1 : FuncId} {cc1 : List DV} (a0 : List api_Span) (p1 : api_Span → Option Bool) (he1 : Sy.Enters Try.prog ff1) (hp1 : ∀ (z0 : api_Span) r, p1 z0 = some r → Says Try.prog ff1 [] ([.d (eG40 z0)] ++ List.map AV.d cc1) [] (.b r)) {r : Int} (H : slices_IndexFunc_api_Span a0 p1 = some r) : Says Try.prog 91 [] [.d (eL40 t0 a0), .d (.fn ff1 cc1)] [] (.i r) := by
  refine says_of Try.func91 rfl (nt := 19) rfl (Nat.le_of_ble_eq_true rfl) fun X hP h0 hX => ?_
  have hT : TabOk X.P T := hP ▸ tok
  have hf : X.P.funcs[91]? = some Try.f91 := hP ▸ Try.func91
  refine goK hT 13 (K91 11010 0) ⟨19, [(0, .d (eL40 t0 a0)), (1, .d (.fn ff1 cc1)), (7, .i (a0.length : Int)), (8, .i 0)], []⟩ ?_
  have L : ∀ n, (∀ (x1_8 : Int), iter (slices_IndexFunc_api_Span.step a0 p1) n (.l1 x1_8) = some r → AK X 91 ((K91 11010 0)) (Back X [] (.i r)) ⟨19, [(0, .d (eL40 t0 a0)), (1, .d (.fn ff1 cc1)), (7, .i (a0.length : Int)), (8, .i x1_8)], []⟩) := by
    intro n
    induction n with
    | zero => exact fun _ H => iter0 H
    | succ n ih =>
      · intro x1_8 H
        refine goK hT 5 (K91 1101001 0) ⟨19, [(0, .d (eL40 t0 a0)), (1, .d (.fn ff1 cc1)), (7, .i (a0.length : Int)), (8, .i x1_8), (9, .b (decide (x1_8 < (a0.length : Int))))], []⟩ ?_
        by_cases c1 : x1_8 < (a0.length : Int)
        · replace H := sT c1 H
          rw [decide_eq_true c1]
          refine goK hT 2 (K91 1101001 1) ⟨19, [(0, .d (eL40 t0 a0)), (1, .d (.fn ff1 cc1)), (7, .i (a0.length : Int)), (8, .i x1_8)], []⟩ ?_
          refine goK hT 12 (K91 110100110010 3) ⟨19, [(0, .d (eL40 t0 a0)), (1, .d (.fn ff1 cc1)), (5, .i x1_8), (7, .i (a0.length : Int)), (8, .i x1_8), (11, .d (.fn ff1 cc1)), (12, .d (eL40 t0 a0)), (13, .i x1_8)], []⟩ ?_
          obtain ⟨h2, H⟩ := sC H
          refine ak_idx hT [0, 1, 5, 7, 8, 11, 14] (i := x1_8) (n := (a0.length : Int)) h2.1 h2.2 (k' := (K91 110100110010 4)) (st' := ⟨19, [(0, .d (eL40 t0 a0)), (1, .d (.fn ff1 cc1)), (5, .i x1_8), (7, .i (a0.length : Int)), (8, .i x1_8), (11, .d (.fn ff1 cc1)), (14, .d (eP40 t0 a0 x1_8.toNat 0))], []⟩) (by kernel_rfl) ?_
          refine goK hT 1 (K91 110100110010 5) ⟨19, [(0, .d (eL40 t0 a0)), (1, .d (.fn ff1 cc1)), (5, .i x1_8), (7, .i (a0.length : Int)), (8, .i x1_8), (11, .d (.fn ff1 cc1)), (15, .d (eG40 (a0.getD x1_8.toNat api_Span.z)))], []⟩ ?_
          obtain ⟨v1, h3, H⟩ := sbC H
          refine ak_callP (avs := [.d (eG40 (a0.getD x1_8.toNat api_Span.z))] ++ List.map AV.d cc1) (dst := some 16) (k' := (K91 110100110010 6)) [0, 1, 5, 7, 8, 16] [] hP he1 (hp1 (a0.getD x1_8.toNat api_Span.z) v1 h3) (by kernel_rfl) (hands_none _) (.cons (pass_d _) (passes_d _)) (st' := ⟨19, [(0, .d (eL40 t0 a0)), (1, .d (.fn ff1 cc1)), (5, .i x1_8), (7, .i (a0.length : Int)), (8, .i x1_8), (16, .b v1)], []⟩) (by kernel_rfl) ?_
          refine goK hT 1 (K91 11010011001 1) ⟨19, [(0, .d (eL40 t0 a0)), (1, .d (.fn ff1 cc1)), (5, .i x1_8), (7, .i (a0.length : Int)), (8, .i x1_8), (16, .b v1)], []⟩ ?_
          by_cases c4 : v1 = true
          · replace H := sT c4 H
            rw [c4]
            refine goK hT 6 (K91 1101001100110 1) ⟨19, [(4, .i x1_8)], []⟩ ?_
            obtain rfl := retC H
            exact ak_ret hf hX (av := .i x1_8) (by kernel_rfl) [] (sel_of_eq (by kernel_rfl)) (by decide) (by rw [h0]; rfl) (by kernel_rfl) (fun _ h => all_nil h) (.d (.v _))
          · replace H := sF c4 H
            rw [boF c4]
            refine goK hT 3 (K91 11010011 1) ⟨19, [(0, .d (eL40 t0 a0)), (1, .d (.fn ff1 cc1)), (7, .i (a0.length : Int)), (8, .i x1_8)], []⟩ ?_
            refine goK hT 5 (K91 11010 0) ⟨19, [(0, .d (eL40 t0 a0)), (1, .d (.fn ff1 cc1)), (7, .i (a0.length : Int)), (8, .i (IntKind.wrap .i64 (x1_8 + 1)))], []⟩ ?_
            refine cutK [] ⟨19, [(0, .d (eL40 t0 a0)), (1, .d (.fn ff1 cc1)), (7, .i (a0.length : Int)), (8, .i (IntKind.wrap .i64 (x1_8 + 1)))], []⟩ h0 ?_
            exact ih (IntKind.wrap .i64 (x1_8 + 1)) H
        · replace H := sF c1 H
          rw [decide_eq_false c1]
          refine goK hT 6 (K91 111 1) ⟨19, [(4, .i (-1))], []⟩ ?_
          obtain rfl := retC H
          exact ak_ret hf hX (av := .i (-1)) (by kernel_rfl) [] (sel_of_eq (by kernel_rfl)) (by decide) (by rw [h0]; rfl) (by kernel_rfl) (fun _ h => all_nil h) (.d (.v _))
  refine cutK [] ⟨19, [(0, .d (eL40 t0 a0)), (1, .d (.fn ff1 cc1)), (7, .i (a0.length : Int)), (8, .i 0)], []⟩ h0 ?_
  obtain ⟨n, H⟩ := loopC H
  exact (L n) 0 H


theorem slices_ContainsFunc_api_Span.says {t0 : Bool} {ff1 : FuncId} {cc1 : List DV} (a0 : List api_Span) (p1 : api_Span → Option Bool) (he1 : Sy.Enters Try.prog ff1) (hp1 : ∀ (z0 : api_Span) r, p1 z0 = some r → Says Try.prog ff1 [] ([.d (eG40 z0)] ++ List.map AV.d cc1) [] (.b r)) {r : Bool} (H : slices_ContainsFunc_api_Span a0 p1 = some r) : Says Try.prog 69 [] [.d (eL40 t0 a0), .d (.fn ff1 cc1)] [] (.b r) := by
  refine says_of Try.func69 rfl (nt := 9) rfl (Nat.le_of_ble_eq_true rfl) fun X hP h0 hX => ?_
  have hT : TabOk X.P T := hP ▸ tok
  have hf : X.P.funcs[69]? = some Try.f69 := hP ▸ Try.func69
  refine goK hT 8 (K69 110 2) ⟨9, [(5, .d (eL40 t0 a0)), (6, .d (.fn ff1 cc1))], []⟩ ?_
  obtain ⟨v1, h1, H⟩ := ibC H
  refine ak_callP (avs := [.d (eL40 t0 a0), .d (.fn ff1 cc1)]) (dst := some 7) (k' := (K69 110 3)) [7] [] hP enters_91 (slices_IndexFunc_api_Span.says (t0 := t0) (ff1 := ff1) (cc1 := cc1) a0 p1 he1 hp1 h1) (by kernel_rfl) (hands_none _) (.cons (pass_d _) (.cons (pass_d _) .nil)) (st' := ⟨9, [(7, .i v1)], []⟩) (by kernel_rfl) ?_
  refine goK hT 3 (K69 11 1) ⟨9, [(4, .b (decide (v1 ≥ 0)))], []⟩ ?_
  obtain rfl := retC H
  exact ak_ret hf hX (av := .b (decide (v1 ≥ 0))) (by kernel_rfl) [] (sel_of_eq (by kernel_rfl)) (by decide) (by rw [h0]; rfl) (by kernel_rfl) (fun _ h => all_nil h) (.d (.v _))


theorem span_Has_1.says (a0 : api_Span) (k0 : Int) : Says Try.prog 70 [] [.d (eG40 a0), .d (.rop false 1 (fun _ => [.i k0]) 0 0)] [] (.b (span_Has_1 a0 k0)) := by
  obtain ⟨r, H⟩ : ∃ r, span_Has_1 a0 k0 = r := ⟨_, rfl⟩
  rw [H]
  refine says_of Try.func70 rfl (nt := 18) rfl (Nat.le_of_ble_eq_true rfl) fun X hP h0 hX => ?_
  have hT : TabOk X.P T := hP ▸ tok
  have hf : X.P.funcs[70]? = some Try.f70 := hP ▸ Try.func70
  have Jj1 : ∀ (y1_3 : Bool), (span_Has_1.j1 y1_3) = r → AK X 70 ((K70 11 1)) (Back X [] (.b r)) ⟨18, [(3, .b y1_3)], []⟩ := by
    intro y1_3 H
    obtain rfl := H
    exact ak_ret hf hX (av := .b y1_3) (by kernel_rfl) [] (sel_of_eq (by kernel_rfl)) (by decide) (by rw [h0]; rfl) (by kernel_rfl) (fun _ h => all_nil h) (.d (.v _))
  refine goK hT 8 (K70 110 1) ⟨18, [(1, .d (.rop false 1 (fun _ => [.i k0]) 0 0)), (2, .ptr 0 0 0 0), (4, .d (eG40 a0))], [.box 40 (eC40 a0)]⟩ ?_
  refine ak_callP (avs := [.d (eG40 a0)]) (dst := some 5) (k' := (K70 110 2)) [1, 2, 5] [] hP enters_51 (span_One.says a0) (by kernel_rfl) (hands_none _) (.cons (pass_d _) .nil) (st' := ⟨18, [(1, .d (.rop false 1 (fun _ => [.i k0]) 0 0)), (2, .ptr 0 0 0 0), (5, .b (span_One a0))], [.box 40 (eC40 a0)]⟩) (by kernel_rfl) ?_
  refine goK hT 1 (K70 110 3) ⟨18, [(1, .d (.rop false 1 (fun _ => [.i k0]) 0 0)), (2, .ptr 0 0 0 0), (6, .b (span_One a0))], [.box 40 (eC40 a0)]⟩ ?_
  by_cases c1 : (span_One a0) = true
  · replace H := iT c1 H
    rw [c1]
    refine goK hT 6 (K70 110 9) ⟨18, [(1, .d (.rop false 1 (fun _ => [.i k0]) 0 0)), (2, .ptr 0 0 0 0), (12, .b (decide (k0 ≥ a0.Lo)))], [.box 40 (eC40 a0)]⟩ ?_
    by_cases c2 : k0 ≥ a0.Lo
    · replace H := iT c2 H
      rw [decide_eq_true c2]
      refine goK hT 7 (K70 11 1) ⟨18, [(3, .b (decide (k0 < a0.Hi)))], [.box 40 (eC40 a0)]⟩ ?_
      refine cutK [] ⟨18, [(3, .b (decide (k0 < a0.Hi)))], []⟩ h0 ?_
      exact Jj1 (decide (k0 < a0.Hi)) H
    · replace H := iF c2 H
      rw [decide_eq_false c2]
      refine goK hT 7 (K70 11 1) ⟨18, [(3, .b false)], [.box 40 (eC40 a0)]⟩ ?_
      refine cutK [] ⟨18, [(3, .b false)], []⟩ h0 ?_
      exact Jj1 false H
  · replace H := iF c1 H
    rw [boF c1]
    refine goK hT 13 (K70 11 1) ⟨18, [(3, .b false)], [.box 40 (eC40 a0)]⟩ ?_
    refine cutK [] ⟨18, [(3, .b false)], []⟩ h0 ?_
    exact Jj1 false H


theorem span_Has.says {t0 : Bool} (a0 : List api_Span) (a1 : Int) {r : Bool} (H : span_Has a0 a1 = some r) : Says Try.prog 50 [] [.d (eL40 t0 a0), .i a1] [] (.b r) := by
  refine says_of Try.func50 rfl (nt := 8) rfl (Nat.le_of_ble_eq_true rfl) fun X hP h0 hX => ?_
  have hT : TabOk X.P T := hP ▸ tok
  have hf : X.P.funcs[50]? = some Try.f50 := hP ▸ Try.func50
  refine goK hT 9 (K50 110 2) ⟨8, [(5, .d (eL40 t0 a0)), (6, .fn 70 [.ptr 0 0 0 0])], [.box 3 [.i a1]]⟩ ?_
  obtain ⟨v1, h1, H⟩ := ibC H
  refine ak_callP (avs := [.d (eL40 t0 a0), .fn 70 [.ptr 0 0 0 0]]) (dst := some 7) (k' := (K50 110 3)) [7] [] hP enters_69 (slices_ContainsFunc_api_Span.says (t0 := t0) (ff1 := 70) (cc1 := [.rop false 1 (fun _ => [.i a1]) 0 0]) a0 (fun z0 => some (span_Has_1 z0 a1)) enters_70 (fun z0 r h => by obtain rfl := retC h; exact span_Has_1.says z0 a1) h1) (by kernel_rfl) (hands_none _) (.cons (pass_d _) (.cons (.fn 70 (.cons (.look (ty := 3) (cs := [.i a1]) (by kernel_rfl) rfl) .nil)) .nil)) (st' := ⟨8, [(7, .b v1)], [.box 3 [.i a1]]⟩) (by kernel_rfl) ?_
  refine goK hT 2 (K50 11 1) ⟨8, [(4, .b v1)], [.box 3 [.i a1]]⟩ ?_
  obtain rfl := retC H
  exact ak_ret hf hX (av := .b v1) (by kernel_rfl) [] (sel_of_eq (by kernel_rfl)) (by decide) (by rw [h0]; rfl) (by kernel_rfl) (fun _ h => all_nil h) (.d (.v _))


theorem table_cut_1.says (a0 : api_Pair) (k0 : api_Span) (k1 : List api_Span) {r : Bool} (H : table_cut_1 a0 k0 k1 = some r) : Says Try.prog 75 [] [.d (eG65 a0), .d (.rop false 1 (fun _ => [.i k0.Lo, .i k0.Hi]) 0 0), .d (.rop false 1 (fun _ => [eL40 true k1]) 0 0)] [] (.b r) := by
  refine says_of Try.func75 rfl (nt := 23) rfl (Nat.le_of_ble_eq_true rfl) fun X hP h0 hX => ?_
  have hT : TabOk X.P T := hP ▸ tok
  have hf : X.P.funcs[75]? = some Try.f75 := hP ▸ Try.func75
  have Jj1 : ∀ (y1_4 : Bool), (table_cut_1.j1 y1_4) = some r → AK X 75 ((K75 11 1)) (Back X [] (.b r)) ⟨23, [(4, .b y1_4)], []⟩ := by
    intro y1_4 H
    obtain rfl := retC H
    exact ak_ret hf hX (av := .b y1_4) (by kernel_rfl) [] (sel_of_eq (by kernel_rfl)) (by decide) (by rw [h0]; rfl) (by kernel_rfl) (fun _ h => all_nil h) (.d (.v _))
  refine goK hT 13 (K75 110 6) ⟨23, [(1, .d (.rop false 1 (fun _ => [.i k0.Lo, .i k0.Hi]) 0 0)), (2, .d (.rop false 1 (fun _ => [eL40 true k1]) 0 0)), (3, .ptr 0 0 0 0), (10, .b (decide (a0.Key ≥ k0.Lo)))], [.box 65 (eC65 a0)]⟩ ?_
  by_cases c1 : a0.Key ≥ k0.Lo
  · replace H := iT c1 H
    rw [decide_eq_true c1]
    refine goK hT 7 (K75 110 13) ⟨23, [(2, .d (.rop false 1 (fun _ => [eL40 true k1]) 0 0)), (3, .ptr 0 0 0 0), (17, .b (decide (a0.Key < k0.Hi)))], [.box 65 (eC65 a0)]⟩ ?_
    by_cases c2 : a0.Key < k0.Hi
    · replace H := iT c2 H
      rw [decide_eq_true c2]
      refine goK hT 3 (K75 110 16) ⟨23, [(17, .b true), (18, .d (eL40 true k1)), (20, .i a0.Key)], [.box 65 (eC65 a0)]⟩ ?_
      obtain ⟨v1, h3, H⟩ := ibC H
      refine ak_callP (avs := [.d (eL40 true k1), .i a0.Key]) (dst := some 21) (k' := (K75 110 17)) [17, 21] [] hP enters_50 (span_Has.says (t0 := true) k1 a0.Key h3) (by kernel_rfl) (hands_none _) (.cons (pass_d _) (.cons (pass_d _) .nil)) (st' := ⟨23, [(17, .b true), (21, .b v1)], [.box 65 (eC65 a0)]⟩) (by kernel_rfl) ?_
      refine goK hT 3 (K75 11 1) ⟨23, [(4, .b v1)], [.box 65 (eC65 a0)]⟩ ?_
      refine cutK [] ⟨23, [(4, .b v1)], []⟩ h0 ?_
      exact Jj1 v1 H
    · replace H := iF c2 H
      rw [decide_eq_false c2]
      refine goK hT 7 (K75 11 1) ⟨23, [(4, .b false)], [.box 65 (eC65 a0)]⟩ ?_
      refine cutK [] ⟨23, [(4, .b false)], []⟩ h0 ?_
      exact Jj1 false H
  · replace H := iF c1 H
    rw [decide_eq_false c1]
    refine goK hT 14 (K75 11 1) ⟨23, [(4, .b false)], [.box 65 (eC65 a0)]⟩ ?_
    refine cutK [] ⟨23, [(4, .b false)], []⟩ h0 ?_
    exact Jj1 false H


theorem table_cut.says (a0 : List api_Pair) (a1 : api_Span) (a2 : List api_Span) {r : List api_Pair} (H : table_cut a0 a1 a2 = some r) : Says Try.prog 54 [eR65 a0] [.own 0 2 0 a0.length, .d (eG40 a1), .d (eL40 true a2)] [.gone, eR65 r] (.own 1 2 0 r.length) := by
  refine says_of Try.func54 rfl (nt := 10) rfl (Nat.le_of_ble_eq_true rfl) fun X hP h0 hX => ?_
  have hT : TabOk X.P T := hP ▸ tok
  have hf : X.P.funcs[54]? = some Try.f54 := hP ▸ Try.func54
  refine ak_dup 0 (r := eR65 a0) rfl rfl (st' := ⟨10, [(0, .own 1 2 0 a0.length), (1, .d (eG40 a1)), (2, .d (eL40 true a2))], [.gone, eR65 a0]⟩) (by kernel_rfl) (by kernel_rfl) rfl ?_
  refine goK hT 10 (K54 110 2) ⟨10, [(7, .own 1 2 0 a0.length), (8, .fn 75 [.ptr 2 0 0 0, .ptr 3 0 0 0])], [.gone, eR65 a0, .box 40 (eC40 a1), .box 23 [.d (eL40 true a2)]]⟩ ?_
  obtain ⟨v1, h1, H⟩ := ibC H
  refine ak_callP (avs := [.own 1 2 0 a0.length, .fn 75 [.ptr 2 0 0 0, .ptr 3 0 0 0]]) (dst := some 9) (k' := (K54 110 3)) [9] [1] hP enters_74 (slices_DeleteFunc_api_Pair.says (ff1 := 75) (cc1 := [.rop false 1 (fun _ => [.i a1.Lo, .i a1.Hi]) 0 0, .rop false 1 (fun _ => [eL40 true a2]) 0 0]) a0 (fun z0 => table_cut_1 z0 a1 a2) enters_75 (fun z0 r h => table_cut_1.says z0 a1 a2 h) h1) (by kernel_rfl) (hands_one rfl rfl) (.cons (.same (.own 0 2 0 a0.length)) (.cons (.fn 75 (.cons (.look (ty := 40) (cs := [.i a1.Lo, .i a1.Hi]) (by kernel_rfl) rfl) (.cons (.look (ty := 23) (cs := [eL40 true a2]) (by kernel_rfl) rfl) .nil))) .nil)) (st' := ⟨10, [(9, .own 4 2 0 v1.length)], [.gone, .gone, .box 40 (eC40 a1), .box 23 [.d (eL40 true a2)], eR65 v1]⟩) (by kernel_rfl) ?_
  refine goK hT 2 (K54 11 1) ⟨10, [(6, .own 4 2 0 v1.length)], [.gone, .gone, .box 40 (eC40 a1), .box 23 [.d (eL40 true a2)], eR65 v1]⟩ ?_
  obtain rfl := retC H
  exact ak_ret hf hX (av := .own 4 2 0 v1.length) (by kernel_rfl) [0, 4] (sel_of_eq (by kernel_rfl)) (by decide) (by rw [h0]; rfl) (by kernel_rfl) (fun _ h => all_cons .gone (fun _ h => all_cons (nr_vec api_Pair.nl) (fun _ h => all_nil h) h) h) (.own _ _ _ _)


theorem mut_Alone.says (a0 : api_Mut) {r : Bool} (H : mut_Alone a0 = some r) : Says Try.prog 55 [] [.d (eG42 a0)] [] (.b r) := by
  refine says_of Try.func55 rfl (nt := 15) rfl (Nat.le_of_ble_eq_true rfl) fun X hP h0 hX => ?_
  have hT : TabOk X.P T := hP ▸ tok
  have hf : X.P.funcs[55]? = some Try.f55 := hP ▸ Try.func55
  refine goK hT 8 (K55 110 1) ⟨15, [(1, .ptr 0 0 0 0), (3, .d (eG42 a0))], [.box 42 (eC42 a0)]⟩ ?_
  obtain ⟨v1, h1, H⟩ := ibC H
  have Jj1 : ∀ (y1_2 : Bool), (mut_Alone.j1 y1_2) = some r → AK X 55 ((K55 11 1)) (Back X [] (.b r)) ⟨15, [(2, .b y1_2)], []⟩ := by
    intro y1_2 H
    obtain rfl := retC H
    exact ak_ret hf hX (av := .b y1_2) (by kernel_rfl) [] (sel_of_eq (by kernel_rfl)) (by decide) (by rw [h0]; rfl) (by kernel_rfl) (fun _ h => all_nil h) (.d (.v _))
  refine ak_callP (avs := [.d (eG42 a0)]) (dst := some 4) (k' := (K55 110 2)) [1, 4] [] hP enters_30 (mut_Check.says a0 h1) (by kernel_rfl) (hands_none _) (.cons (pass_d _) .nil) (st' := ⟨15, [(1, .ptr 0 0 0 0), (4, .b v1)], [.box 42 (eC42 a0)]⟩) (by kernel_rfl) ?_
  refine goK hT 1 (K55 110 3) ⟨15, [(1, .ptr 0 0 0 0), (5, .b v1)], [.box 42 (eC42 a0)]⟩ ?_
  by_cases c2 : v1 = true
  · replace H := iT c2 H
    rw [c2]
    refine goK hT 4 (K55 110 7) ⟨15, [(1, .ptr 0 0 0 0), (5, .b true), (9, .b (a0.Kind == 3))], [.box 42 (eC42 a0)]⟩ ?_
    by_cases c3 : a0.Kind = 3
    · replace H := iT c3 H
      rw [eqT c3]
      refine goK hT 7 (K55 11 1) ⟨15, [(2, .b true)], [.box 42 (eC42 a0)]⟩ ?_
      refine cutK [] ⟨15, [(2, .b true)], []⟩ h0 ?_
      exact Jj1 true H
    · replace H := iF c3 H
      rw [eqF c3]
      refine goK hT 7 (K55 11 1) ⟨15, [(2, .b (a0.Kind == 4))], [.box 42 (eC42 a0)]⟩ ?_
      refine cutK [] ⟨15, [(2, .b (a0.Kind == 4))], []⟩ h0 ?_
      exact Jj1 (a0.Kind == 4) H
  · replace H := iF c2 H
    rw [boF c2]
    refine goK hT 11 (K55 11 1) ⟨15, [(2, .b false)], [.box 42 (eC42 a0)]⟩ ?_
    refine cutK [] ⟨15, [(2, .b false)], []⟩ h0 ?_
    exact Jj1 false H


theorem slices_BinarySearchFunc_int.says {t0 : Bool} {ff2 : FuncId} {cc2 : List DV} (a0 : List api_Pair) (a1 : Int) (p2 : api_Pair → Int → Option Int) (he2 : Sy.Enters Try.prog ff2) (hp2 : ∀ (z0 : api_Pair) (z1 : Int) r, p2 z0 z1 = some r → Says Try.prog ff2 [] ([.d (eG65 z0), .i z1] ++ List.map AV.d cc2) [] (.i r)) {r : Int × Bool} (H : slices_BinarySearchFunc_int a0 a1 p2 = some r) : Says Try.prog 96 [] [.d (eL65 t0 a0), .i a1, .d (.fn ff2 cc2)] [] (.tup [.i r.1, .b r.2]) := by
  refine says_of Try.func96 rfl (nt := 49) rfl (Nat.le_of_ble_eq_true rfl) fun X hP h0 hX => ?_
  have hT : TabOk X.P T := hP ▸ tok
  have hf : X.P.funcs[96]? = some Try.f96 := hP ▸ Try.func96
  refine goK hT 20 (K96 111100 0) ⟨49, [(0, .d (eL65 t0 a0)), (1, .i a1), (2, .d (.fn ff2 cc2)), (8, .i (a0.length : Int)), (9, .i 0), (10, .i (a0.length : Int))], []⟩ ?_
  have L : ∀ n, (∀ (x1_9 : Int) (x1_10 : Int), iter (slices_BinarySearchFunc_int.step a0 a1 p2) n (.l1 x1_9 x1_10) = some r → AK X 96 ((K96 111100 0)) (Back X [] (.tup [.i r.1, .b r.2])) ⟨49, [(0, .d (eL65 t0 a0)), (1, .i a1), (2, .d (.fn ff2 cc2)), (8, .i (a0.length : Int)), (9, .i x1_9), (10, .i x1_10)], []⟩) := by
    intro n
    induction n with
    | zero => exact fun _ _ H => iter0 H
    | succ n ih =>
      · intro x1_9 x1_10 H
        refine goK hT 7 (K96 11110000 1) ⟨49, [(0, .d (eL65 t0 a0)), (1, .i a1), (2, .d (.fn ff2 cc2)), (8, .i (a0.length : Int)), (9, .i x1_9), (10, .i x1_10), (17, .b (decide (x1_9 < x1_10)))], []⟩ ?_
        by_cases c1 : x1_9 < x1_10
        · replace H := sT c1 H
          rw [decide_eq_true c1]
          refine goK hT 2 (K96 1111000 1) ⟨49, [(0, .d (eL65 t0 a0)), (1, .i a1), (2, .d (.fn ff2 cc2)), (8, .i (a0.length : Int)), (9, .i x1_9), (10, .i x1_10)], []⟩ ?_
          refine goK hT 10 (K96 1111000100 7) ⟨49, [(0, .d (eL65 t0 a0)), (1, .i a1), (2, .d (.fn ff2 cc2)), (8, .i (a0.length : Int)), (9, .i x1_9), (10, .i x1_10), (11, .i (IntKind.wrap .i64 (Int.fdiv (IntKind.wrap .u64 (IntKind.wrap .i64 (x1_9 + x1_10))) 2)))], []⟩ ?_
          obtain ⟨v2, h5, H⟩ := sdC H
          rw [← h5]
          refine goK hT 6 (K96 11110001010 3) ⟨49, [(0, .d (eL65 t0 a0)), (1, .i a1), (2, .d (.fn ff2 cc2)), (8, .i (a0.length : Int)), (9, .i x1_9), (10, .i x1_10), (11, .i v2), (24, .d (.fn ff2 cc2)), (25, .d (eL65 t0 a0)), (26, .i v2)], []⟩ ?_
          obtain ⟨h6, H⟩ := sC H
          refine ak_idx hT [0, 1, 2, 8, 9, 10, 11, 24, 27] (i := v2) (n := (a0.length : Int)) h6.1 h6.2 (k' := (K96 11110001010 4)) (st' := ⟨49, [(0, .d (eL65 t0 a0)), (1, .i a1), (2, .d (.fn ff2 cc2)), (8, .i (a0.length : Int)), (9, .i x1_9), (10, .i x1_10), (11, .i v2), (24, .d (.fn ff2 cc2)), (27, .d (eP65 t0 a0 v2.toNat 0))], []⟩) (by kernel_rfl) ?_
          refine goK hT 2 (K96 11110001010 6) ⟨49, [(0, .d (eL65 t0 a0)), (1, .i a1), (2, .d (.fn ff2 cc2)), (8, .i (a0.length : Int)), (9, .i x1_9), (10, .i x1_10), (11, .i v2), (24, .d (.fn ff2 cc2)), (28, .d (eG65 (a0.getD v2.toNat api_Pair.z))), (29, .i a1)], []⟩ ?_
          obtain ⟨v3, h7, H⟩ := sbC H
          refine ak_callP (avs := [.d (eG65 (a0.getD v2.toNat api_Pair.z)), .i a1] ++ List.map AV.d cc2) (dst := some 30) (k' := (K96 11110001010 7)) [0, 1, 2, 8, 9, 10, 11, 30] [] hP he2 (hp2 (a0.getD v2.toNat api_Pair.z) a1 v3 h7) (by kernel_rfl) (hands_none _) (.cons (pass_d _) (.cons (pass_d _) (passes_d _))) (st' := ⟨49, [(0, .d (eL65 t0 a0)), (1, .i a1), (2, .d (.fn ff2 cc2)), (8, .i (a0.length : Int)), (9, .i x1_9), (10, .i x1_10), (11, .i v2), (30, .i v3)], []⟩) (by kernel_rfl) ?_
          refine goK hT 2 (K96 1111000101 1) ⟨49, [(0, .d (eL65 t0 a0)), (1, .i a1), (2, .d (.fn ff2 cc2)), (8, .i (a0.length : Int)), (9, .i x1_9), (10, .i x1_10), (11, .i v2), (31, .b (decide (v3 < 0)))], []⟩ ?_
          by_cases c8 : v3 < 0
          · replace H := sT c8 H
            rw [decide_eq_true c8]
            refine goK hT 8 (K96 111100 0) ⟨49, [(0, .d (eL65 t0 a0)), (1, .i a1), (2, .d (.fn ff2 cc2)), (8, .i (a0.length : Int)), (9, .i (IntKind.wrap .i64 (v2 + 1))), (10, .i x1_10)], []⟩ ?_
            refine cutK [] ⟨49, [(0, .d (eL65 t0 a0)), (1, .i a1), (2, .d (.fn ff2 cc2)), (8, .i (a0.length : Int)), (9, .i (IntKind.wrap .i64 (v2 + 1))), (10, .i x1_10)], []⟩ h0 ?_
            exact ih (IntKind.wrap .i64 (v2 + 1)) x1_10 H
          · replace H := sF c8 H
            rw [decide_eq_false c8]
            refine goK hT 7 (K96 111100 0) ⟨49, [(0, .d (eL65 t0 a0)), (1, .i a1), (2, .d (.fn ff2 cc2)), (8, .i (a0.length : Int)), (9, .i x1_9), (10, .i v2)], []⟩ ?_
            refine cutK [] ⟨49, [(0, .d (eL65 t0 a0)), (1, .i a1), (2, .d (.fn ff2 cc2)), (8, .i (a0.length : Int)), (9, .i x1_9), (10, .i v2)], []⟩ h0 ?_
            exact ih x1_9 v2 H
        · replace H := sF c1 H
          have Jj1 : ∀ (y1_7 : Bool), stk (slices_BinarySearchFunc_int.j1 x1_9 y1_7) (iter (slices_BinarySearchFunc_int.step a0 a1 p2) n) = some r → AK X 96 ((K96 11111 1)) (Back X [] (.tup [.i r.1, .b r.2])) ⟨49, [(6, .i x1_9), (7, .b y1_7)], []⟩ := by
            intro y1_7 H
            obtain rfl := retC H
            exact ak_ret hf hX (av := .tup [.i x1_9, .b y1_7]) (by kernel_rfl) [] (sel_of_eq (by kernel_rfl)) (by decide) (by rw [h0]; rfl) (by kernel_rfl) (fun _ h => all_nil h) (.tup (.cons (.d (.v _)) (.cons (.d (.v _)) .nil)))
          rw [decide_eq_false c1]
          refine goK hT 9 (K96 111110 5) ⟨49, [(0, .d (eL65 t0 a0)), (1, .i a1), (2, .d (.fn ff2 cc2)), (9, .i x1_9), (35, .i x1_9), (39, .b (decide (x1_9 < (a0.length : Int))))], []⟩ ?_
          by_cases c2 : x1_9 < (a0.length : Int)
          · replace H := sT c2 H
            rw [decide_eq_true c2]
            refine goK hT 3 (K96 111110 8) ⟨49, [(1, .i a1), (35, .i x1_9), (39, .b true), (40, .d (.fn ff2 cc2)), (41, .d (eL65 t0 a0)), (42, .i x1_9)], []⟩ ?_
            obtain ⟨h3, H⟩ := sC H
            refine ak_idx hT [1, 35, 39, 40, 43] (i := x1_9) (n := (a0.length : Int)) h3.1 h3.2 (k' := (K96 111110 9)) (st' := ⟨49, [(1, .i a1), (35, .i x1_9), (39, .b true), (40, .d (.fn ff2 cc2)), (43, .d (eP65 t0 a0 x1_9.toNat 0))], []⟩) (by kernel_rfl) ?_
            refine goK hT 2 (K96 111110 11) ⟨49, [(35, .i x1_9), (39, .b true), (40, .d (.fn ff2 cc2)), (44, .d (eG65 (a0.getD x1_9.toNat api_Pair.z))), (45, .i a1)], []⟩ ?_
            obtain ⟨v1, h4, H⟩ := sbC H
            refine ak_callP (avs := [.d (eG65 (a0.getD x1_9.toNat api_Pair.z)), .i a1] ++ List.map AV.d cc2) (dst := some 46) (k' := (K96 111110 12)) [35, 39, 46] [] hP he2 (hp2 (a0.getD x1_9.toNat api_Pair.z) a1 v1 h4) (by kernel_rfl) (hands_none _) (.cons (pass_d _) (.cons (pass_d _) (passes_d _))) (st' := ⟨49, [(35, .i x1_9), (39, .b true), (46, .i v1)], []⟩) (by kernel_rfl) ?_
            refine goK hT 5 (K96 11111 1) ⟨49, [(6, .i x1_9), (7, .b (v1 == 0))], []⟩ ?_
            refine cutK [] ⟨49, [(6, .i x1_9), (7, .b (v1 == 0))], []⟩ h0 ?_
            exact Jj1 (v1 == 0) H
          · replace H := sF c2 H
            rw [decide_eq_false c2]
            refine goK hT 12 (K96 11111 1) ⟨49, [(6, .i x1_9), (7, .b false)], []⟩ ?_
            refine cutK [] ⟨49, [(6, .i x1_9), (7, .b false)], []⟩ h0 ?_
            exact Jj1 false H
  refine cutK [] ⟨49, [(0, .d (eL65 t0 a0)), (1, .i a1), (2, .d (.fn ff2 cc2)), (8, .i (a0.length : Int)), (9, .i 0), (10, .i (a0.length : Int))], []⟩ h0 ?_
  obtain ⟨n, H⟩ := loopC H
  exact (L n) 0 (a0.length : Int) H


theorem cmp_isNaN_int.says (a0 : Int) : Says Try.prog 68 [] [.i a0] [] (.b (cmp_isNaN_int a0)) := by
  obtain ⟨r, H⟩ : ∃ r, cmp_isNaN_int a0 = r := ⟨_, rfl⟩
  rw [H]
  refine says_of Try.func68 rfl (nt := 6) rfl (Nat.le_of_ble_eq_true rfl) fun X hP h0 hX => ?_
  have hT : TabOk X.P T := hP ▸ tok
  have hf : X.P.funcs[68]? = some Try.f68 := hP ▸ Try.func68
  refine goK hT 11 (K68 11 1) ⟨6, [(2, .b (a0 != a0))], []⟩ ?_
  obtain rfl := H
  exact ak_ret hf hX (av := .b (a0 != a0)) (by kernel_rfl) [] (sel_of_eq (by kernel_rfl)) (by decide) (by rw [h0]; rfl) (by kernel_rfl) (fun _ h => all_nil h) (.d (.v _))


theorem cmp_Compare_int.says (a0 : Int) (a1 : Int) : Says Try.prog 49 [] [.i a0, .i a1] [] (.i (cmp_Compare_int a0 a1)) := by
  obtain ⟨r, H⟩ : ∃ r, cmp_Compare_int a0 a1 = r := ⟨_, rfl⟩
  rw [H]
  refine says_of Try.func49 rfl (nt := 20) rfl (Nat.le_of_ble_eq_true rfl) fun X hP h0 hX => ?_
  have hT : TabOk X.P T := hP ▸ tok
  have hf : X.P.funcs[49]? = some Try.f49 := hP ▸ Try.func49
  refine goK hT 7 (K49 110 1) ⟨20, [(0, .i a0), (1, .i a1), (7, .i a0)], []⟩ ?_
  refine ak_callP (avs := [.i a0]) (dst := some 8) (k' := (K49 110 2)) [0, 1, 8] [] hP enters_68 (cmp_isNaN_int.says a0) (by kernel_rfl) (hands_none _) (.cons (pass_d _) .nil) (st' := ⟨20, [(0, .i a0), (1, .i a1), (8, .b (cmp_isNaN_int a0))], []⟩) (by kernel_rfl) ?_
  refine goK hT 5 (K49 1110 1) ⟨20, [(0, .i a0), (1, .i a1), (5, .b (cmp_isNaN_int a0)), (9, .i a1)], []⟩ ?_
  refine ak_callP (avs := [.i a1]) (dst := some 10) (k' := (K49 1110 2)) [0, 1, 5, 10] [] hP enters_68 (cmp_isNaN_int.says a1) (by kernel_rfl) (hands_none _) (.cons (pass_d _) .nil) (st' := ⟨20, [(0, .i a0), (1, .i a1), (5, .b (cmp_isNaN_int a0)), (10, .b (cmp_isNaN_int a1))], []⟩) (by kernel_rfl) ?_
  refine goK hT 7 (K49 11110 1) ⟨20, [(0, .i a0), (1, .i a1), (6, .b (cmp_isNaN_int a1)), (11, .b (cmp_isNaN_int a0))], []⟩ ?_
  by_cases c1 : (cmp_isNaN_int a0) = true
  · replace H := iT c1 H
    rw [c1]
    refine goK hT 6 (K49 11110100 1) ⟨20, [(12, .b (cmp_isNaN_int a1))], []⟩ ?_
    by_cases c2 : (cmp_isNaN_int a1) = true
    · replace H := iT c2 H
      rw [c2]
      refine goK hT 5 (K49 1111010010 1) ⟨20, [(4, .i 0)], []⟩ ?_
      obtain rfl := H
      exact ak_ret hf hX (av := .i 0) (by kernel_rfl) [] (sel_of_eq (by kernel_rfl)) (by decide) (by rw [h0]; rfl) (by kernel_rfl) (fun _ h => all_nil h) (.d (.v _))
    · replace H := iF c2 H
      rw [boF c2]
      refine goK hT 2 (K49 1111010 1) ⟨20, [], []⟩ ?_
      refine goK hT 4 (K49 11110101 1) ⟨20, [(4, .i (-1))], []⟩ ?_
      obtain rfl := H
      exact ak_ret hf hX (av := .i (-1)) (by kernel_rfl) [] (sel_of_eq (by kernel_rfl)) (by decide) (by rw [h0]; rfl) (by kernel_rfl) (fun _ h => all_nil h) (.d (.v _))
  · replace H := iF c1 H
    rw [boF c1]
    refine goK hT 2 (K49 1111 1) ⟨20, [(0, .i a0), (1, .i a1), (6, .b (cmp_isNaN_int a1))], []⟩ ?_
    refine goK hT 5 (K49 111110 1) ⟨20, [(0, .i a0), (1, .i a1), (13, .b (cmp_isNaN_int a1))], []⟩ ?_
    by_cases c3 : (cmp_isNaN_int a1) = true
    · replace H := iT c3 H
      rw [c3]
      refine goK hT 5 (K49 11111010 1) ⟨20, [(4, .i 1)], []⟩ ?_
      obtain rfl := H
      exact ak_ret hf hX (av := .i 1) (by kernel_rfl) [] (sel_of_eq (by kernel_rfl)) (by decide) (by rw [h0]; rfl) (by kernel_rfl) (fun _ h => all_nil h) (.d (.v _))
    · replace H := iF c3 H
      rw [boF c3]
      refine goK hT 2 (K49 11111 1) ⟨20, [(0, .i a0), (1, .i a1)], []⟩ ?_
      refine goK hT 7 (K49 1111110 1) ⟨20, [(0, .i a0), (1, .i a1), (16, .b (decide (a0 < a1)))], []⟩ ?_
      by_cases c4 : a0 < a1
      · replace H := iT c4 H
        rw [decide_eq_true c4]
        refine goK hT 5 (K49 111111010 1) ⟨20, [(4, .i (-1))], []⟩ ?_
        obtain rfl := H
        exact ak_ret hf hX (av := .i (-1)) (by kernel_rfl) [] (sel_of_eq (by kernel_rfl)) (by decide) (by rw [h0]; rfl) (by kernel_rfl) (fun _ h => all_nil h) (.d (.v _))
      · replace H := iF c4 H
        rw [decide_eq_false c4]
        refine goK hT 2 (K49 111111 1) ⟨20, [(0, .i a0), (1, .i a1)], []⟩ ?_
        refine goK hT 7 (K49 11111110 1) ⟨20, [(19, .b (decide (a0 > a1)))], []⟩ ?_
        by_cases c5 : a0 > a1
        · replace H := iT c5 H
          rw [decide_eq_true c5]
          refine goK hT 5 (K49 1111111010 1) ⟨20, [(4, .i 1)], []⟩ ?_
          obtain rfl := H
          exact ak_ret hf hX (av := .i 1) (by kernel_rfl) [] (sel_of_eq (by kernel_rfl)) (by decide) (by rw [h0]; rfl) (by kernel_rfl) (fun _ h => all_nil h) (.d (.v _))
        · replace H := iF c5 H
          rw [decide_eq_false c5]
          refine goK hT 2 (K49 1111111 1) ⟨20, [], []⟩ ?_
          refine goK hT 4 (K49 11111111 1) ⟨20, [(4, .i 0)], []⟩ ?_
          obtain rfl := H
          exact ak_ret hf hX (av := .i 0) (by kernel_rfl) [] (sel_of_eq (by kernel_rfl)) (by decide) (by rw [h0]; rfl) (by kernel_rfl) (fun _ h => all_nil h) (.d (.v _))


theorem table_find_1.says (a0 : api_Pair) (a1 : Int) : Says Try.prog 97 [] [.d (eG65 a0), .i a1] [] (.i (table_find_1 a0 a1)) := by
  obtain ⟨r, H⟩ : ∃ r, table_find_1 a0 a1 = r := ⟨_, rfl⟩
  rw [H]
  refine says_of Try.func97 rfl (nt := 9) rfl (Nat.le_of_ble_eq_true rfl) fun X hP h0 hX => ?_
  have hT : TabOk X.P T := hP ▸ tok
  have hf : X.P.funcs[97]? = some Try.f97 := hP ▸ Try.func97
  refine goK hT 10 (K97 110 3) ⟨9, [(6, .i a0.Key), (7, .i a1)], [.box 65 (eC65 a0)]⟩ ?_
  refine ak_callP (avs := [.i a0.Key, .i a1]) (dst := some 8) (k' := (K97 110 4)) [8] [] hP enters_49 (cmp_Compare_int.says a0.Key a1) (by kernel_rfl) (hands_none _) (.cons (pass_d _) (.cons (pass_d _) .nil)) (st' := ⟨9, [(8, .i (cmp_Compare_int a0.Key a1))], [.box 65 (eC65 a0)]⟩) (by kernel_rfl) ?_
  refine goK hT 2 (K97 11 1) ⟨9, [(4, .i (cmp_Compare_int a0.Key a1))], [.box 65 (eC65 a0)]⟩ ?_
  obtain rfl := H
  exact ak_ret hf hX (av := .i (cmp_Compare_int a0.Key a1)) (by kernel_rfl) [] (sel_of_eq (by kernel_rfl)) (by decide) (by rw [h0]; rfl) (by kernel_rfl) (fun _ h => all_nil h) (.d (.v _))


theorem table_find.says {t0 : Bool} (a0 : List api_Pair) (a1 : Int) {r : Int × Bool} (H : table_find a0 a1 = some r) : Says Try.prog 77 [] [.d (eL65 t0 a0), .i a1] [] (.tup [.i r.1, .b r.2]) := by
  refine says_of Try.func77 rfl (nt := 11) rfl (Nat.le_of_ble_eq_true rfl) fun X hP h0 hX => ?_
  have hT : TabOk X.P T := hP ▸ tok
  have hf : X.P.funcs[77]? = some Try.f77 := hP ▸ Try.func77
  refine goK hT 9 (K77 110 2) ⟨11, [(6, .d (eL65 t0 a0)), (7, .i a1)], []⟩ ?_
  obtain ⟨v1, h1, H⟩ := ibC H
  refine ak_callP (avs := [.d (eL65 t0 a0), .i a1, .d (.fn 97 [])]) (dst := some 8) (k' := (K77 110 3)) [8] [] hP enters_96 (slices_BinarySearchFunc_int.says (t0 := t0) (ff2 := 97) (cc2 := []) a0 a1 (fun z0 z1 => some (table_find_1 z0 z1)) enters_97 (fun z0 z1 r h => by obtain rfl := retC h; exact table_find_1.says z0 z1) h1) (by kernel_rfl) (hands_none _) (.cons (pass_d _) (.cons (pass_d _) (.cons (pass_d _) .nil))) (st' := ⟨11, [(8, .tup [.i v1.1, .b v1.2])], []⟩) (by kernel_rfl) ?_
  refine goK hT 5 (K77 11 1) ⟨11, [(4, .i v1.1), (5, .b v1.2)], []⟩ ?_
  obtain rfl := retC H
  exact ak_ret hf hX (av := .tup [.i v1.1, .b v1.2]) (by kernel_rfl) [] (sel_of_eq (by kernel_rfl)) (by decide) (by rw [h0]; rfl) (by kernel_rfl) (fun _ h => all_nil h) (.tup (.cons (.d (.v _)) (.cons (.d (.v _)) .nil)))


theorem table_get.says {t0 : Bool} (a0 : List api_Pair) (a1 : Int) {r : Int × Bool} (H : table_get a0 a1 = some r) : Says Try.prog 76 [] [.d (eL65 t0 a0), .i a1] [] (.tup [.i r.1, .b r.2]) := by
  refine says_of Try.func76 rfl (nt := 20) rfl (Nat.le_of_ble_eq_true rfl) fun X hP h0 hX => ?_
  have hT : TabOk X.P T := hP ▸ tok
  have hf : X.P.funcs[76]? = some Try.f76 := hP ▸ Try.func76
  refine goK hT 10 (K76 1100 2) ⟨20, [(0, .d (eL65 t0 a0)), (9, .d (eL65 t0 a0)), (10, .i a1)], []⟩ ?_
  obtain ⟨v1, h1, H⟩ := ibC H
  refine ak_callP (avs := [.d (eL65 t0 a0), .i a1]) (dst := some 11) (k' := (K76 1100 3)) [0, 11] [] hP enters_77 (table_find.says (t0 := t0) a0 a1 h1) (by kernel_rfl) (hands_none _) (.cons (pass_d _) (.cons (pass_d _) .nil)) (st' := ⟨20, [(0, .d (eL65 t0 a0)), (11, .tup [.i v1.1, .b v1.2])], []⟩) (by kernel_rfl) ?_
  refine goK hT 10 (K76 1101 1) ⟨20, [(0, .d (eL65 t0 a0)), (6, .i v1.1), (14, .b v1.2)], []⟩ ?_
  by_cases c2 : v1.2 = true
  · replace H := iT c2 H
    rw [c2]
    refine goK hT 5 (K76 1101100 2) ⟨20, [(15, .d (eL65 t0 a0)), (16, .i v1.1)], []⟩ ?_
    obtain ⟨h3, H⟩ := iC H
    refine ak_idx hT [17] (i := v1.1) (n := (a0.length : Int)) h3.1 h3.2 (k' := (K76 1101100 3)) (st' := ⟨20, [(17, .d (eP65 t0 a0 v1.1.toNat 0))], []⟩) (by kernel_rfl) ?_
    refine goK hT 5 (K76 110110 1) ⟨20, [(4, .i ((a0.getD v1.1.toNat api_Pair.z).Val)), (5, .b true)], []⟩ ?_
    obtain rfl := retC H
    exact ak_ret hf hX (av := .tup [.i ((a0.getD v1.1.toNat api_Pair.z).Val), .b true]) (by kernel_rfl) [] (sel_of_eq (by kernel_rfl)) (by decide) (by rw [h0]; rfl) (by kernel_rfl) (fun _ h => all_nil h) (.tup (.cons (.d (.v _)) (.cons (.d (.v _)) .nil)))
  · replace H := iF c2 H
    rw [boF c2]
    refine goK hT 2 (K76 11 1) ⟨20, [], []⟩ ?_
    refine goK hT 5 (K76 111 1) ⟨20, [(4, .i 0), (5, .b false)], []⟩ ?_
    obtain rfl := retC H
    exact ak_ret hf hX (av := .tup [.i 0, .b false]) (by kernel_rfl) [] (sel_of_eq (by kernel_rfl)) (by decide) (by rw [h0]; rfl) (by kernel_rfl) (fun _ h => all_nil h) (.tup (.cons (.d (.v _)) (.cons (.d (.v _)) .nil)))


theorem table_put.says (a0 : List api_Pair) (a1 : Int) (a2 : Int) {r : List api_Pair} (H : table_put a0 a1 a2 = some r) : Says Try.prog 57 [eR65 a0] [.own 0 2 0 a0.length, .i a1, .i a2] [.gone, eR65 r] (.own 1 2 0 r.length) := by
  refine says_of Try.func57 rfl (nt := 29) rfl (Nat.le_of_ble_eq_true rfl) fun X hP h0 hX => ?_
  have hT : TabOk X.P T := hP ▸ tok
  have hf : X.P.funcs[57]? = some Try.f57 := hP ▸ Try.func57
  refine ak_dup 0 (r := eR65 a0) rfl rfl (st' := ⟨29, [(0, .own 1 2 0 a0.length), (1, .i a1), (2, .i a2)], [.gone, eR65 a0]⟩) (by kernel_rfl) (by kernel_rfl) rfl ?_
  refine goK hT 8 (K57 110 2) ⟨29, [(0, .own 1 2 0 a0.length), (1, .i a1), (2, .i a2), (10, .own 1 2 0 a0.length), (11, .i a1)], [.gone, eR65 a0]⟩ ?_
  obtain ⟨v1, h1, H⟩ := ibC H
  refine ak_callP (avs := [.own 1 2 0 a0.length, .i a1]) (dst := some 12) (k' := (K57 110 3)) [0, 1, 2, 12] [] hP enters_77 (table_find.says (t0 := false) a0 a1 h1) (by kernel_rfl) (hands_none _) (.cons (.lend (ty := 65) (by kernel_rfl) rfl) (.cons (pass_d _) .nil)) (st' := ⟨29, [(0, .own 1 2 0 a0.length), (1, .i a1), (2, .i a2), (12, .tup [.i v1.1, .b v1.2])], [.gone, eR65 a0]⟩) (by kernel_rfl) ?_
  refine goK hT 11 (K57 1110 1) ⟨29, [(0, .own 1 2 0 a0.length), (1, .i a1), (2, .i a2), (7, .i v1.1), (15, .b v1.2)], [.gone, eR65 a0]⟩ ?_
  by_cases c2 : v1.2 = true
  · replace H := iT c2 H
    rw [c2]
    refine goK hT 6 (K57 1110100 3) ⟨29, [(0, .own 1 2 0 a0.length), (16, .own 1 2 0 a0.length), (17, .i v1.1), (18, .i a2)], [.gone, eR65 a0]⟩ ?_
    obtain ⟨h3, H⟩ := iC H
    refine ak_idx hT [0, 18, 19] (i := v1.1) (n := (a0.length : Int)) h3.1 h3.2 (k' := (K57 1110100 4)) (st' := ⟨29, [(0, .own 1 2 0 a0.length), (18, .i a2), (19, .ptr 1 2 v1.1.toNat 0)], [.gone, eR65 a0]⟩) (by kernel_rfl) ?_
    refine goK hT 1 (K57 1110100 5) ⟨29, [(0, .own 1 2 0 a0.length), (18, .i a2), (20, .ptr 1 2 v1.1.toNat 1)], [.gone, eR65 a0]⟩ ?_
    refine ak_st (id := 1) (kk := 2) (i := v1.1.toNat) (off := 1) (s := 1) (n := a0.length) (ty := 65) (ds := [.i a2]) (g := vec api_Pair.e api_Pair.z a0) (k' := (K57 1110100 6)) hT [0] (vec api_Pair.e api_Pair.z (a0.set v1.1.toNat (⟨(a0.getD v1.1.toNat api_Pair.z).Key, a2⟩ : api_Pair))) (by kernel_rfl) (by kernel_rfl) (ltN h3.1 h3.2) ((vec_set (ltN h3.1 h3.2)).trans (by kernel_rfl)) vec_set_ne (st' := ⟨29, [(0, .own 1 2 0 (a0.length))], [.gone, .flat false 2 65 a0.length (vec api_Pair.e api_Pair.z (a0.set v1.1.toNat (⟨(a0.getD v1.1.toNat api_Pair.z).Key, a2⟩ : api_Pair)))]⟩) (by kernel_rfl) ?_
    refine ak_eq (show a0.length = (a0.set v1.1.toNat (⟨(a0.getD v1.1.toNat api_Pair.z).Key, a2⟩ : api_Pair)).length from (List.length_set ..).symm) (fun nn => ⟨29, [(0, .own 1 2 0 (nn))], [.gone, .flat false 2 65 nn (vec api_Pair.e api_Pair.z (a0.set v1.1.toNat (⟨(a0.getD v1.1.toNat api_Pair.z).Key, a2⟩ : api_Pair)))]⟩) ?_
    refine goK hT 6 (K57 1110101 1) ⟨29, [(6, .own 1 2 0 ((a0.set v1.1.toNat (⟨(a0.getD v1.1.toNat api_Pair.z).Key, a2⟩ : api_Pair)).length))], [.gone, eR65 (a0.set v1.1.toNat (⟨(a0.getD v1.1.toNat api_Pair.z).Key, a2⟩ : api_Pair))]⟩ ?_
    obtain rfl := retC H
    exact ak_ret hf hX (av := .own 1 2 0 ((a0.set v1.1.toNat (⟨(a0.getD v1.1.toNat api_Pair.z).Key, a2⟩ : api_Pair)).length)) (by kernel_rfl) [0, 1] (sel_of_eq (by kernel_rfl)) (by decide) (by rw [h0]; rfl) (by kernel_rfl) (fun _ h => all_cons .gone (fun _ h => all_cons (nr_vec api_Pair.nl) (fun _ h => all_nil h) h) h) (.own _ _ _ _)
  · replace H := iF c2 H
    rw [boF c2]
    refine goK hT 2 (K57 111 1) ⟨29, [(0, .own 1 2 0 a0.length), (1, .i a1), (2, .i a2), (7, .i v1.1)], [.gone, eR65 a0]⟩ ?_
    refine goK hT 8 (K57 11110 6) ⟨29, [(22, .own 1 2 0 a0.length), (23, .i v1.1), (27, .own 2 2 0 1)], [.gone, eR65 a0, .flat false 2 65 1 (fun j => [[.i a1, .i a2]].getD j [])]⟩ ?_
    obtain ⟨h4, H⟩ := iC H
    refine ak_callP (avs := [.own 1 2 0 a0.length, .i v1.1, .own 2 2 0 1]) (dst := some 28) (k' := (K57 11110 7)) [28] [1, 2] hP enters_78 (insert78 a0 v1.1 (⟨a1, a2⟩ : api_Pair) h4) (by kernel_rfl) (hands_two rfl rfl rfl rfl (by decide)) (.cons (.same (.own 0 2 0 a0.length)) (.cons (pass_d _) (.cons (.same (.own 1 2 0 1)) .nil))) (st' := ⟨29, [(28, .own 3 2 0 ((a0.take v1.1.toNat ++ (⟨a1, a2⟩ : api_Pair) :: a0.drop v1.1.toNat).length))], [.gone, .gone, .gone, eR65 (a0.take v1.1.toNat ++ (⟨a1, a2⟩ : api_Pair) :: a0.drop v1.1.toNat)]⟩) (by kernel_rfl) ?_
    refine goK hT 2 (K57 1111 1) ⟨29, [(6, .own 3 2 0 ((a0.take v1.1.toNat ++ (⟨a1, a2⟩ : api_Pair) :: a0.drop v1.1.toNat).length))], [.gone, .gone, .gone, eR65 (a0.take v1.1.toNat ++ (⟨a1, a2⟩ : api_Pair) :: a0.drop v1.1.toNat)]⟩ ?_
    obtain rfl := retC H
    exact ak_ret hf hX (av := .own 3 2 0 ((a0.take v1.1.toNat ++ (⟨a1, a2⟩ : api_Pair) :: a0.drop v1.1.toNat).length)) (by kernel_rfl) [0, 3] (sel_of_eq (by kernel_rfl)) (by decide) (by rw [h0]; rfl) (by kernel_rfl) (fun _ h => all_cons .gone (fun _ h => all_cons (nr_vec api_Pair.nl) (fun _ h => all_nil h) h) h) (.own _ _ _ _)


theorem table_alone.says (a0 : List api_Pair) (a1 : api_Mut) {r : (List api_Pair) × Bool} (H : table_alone a0 a1 = some r) : Says Try.prog 56 [eR65 a0] [.own 0 2 0 a0.length, .d (eG42 a1)] [.gone, eR65 r.1] (.tup [.own 1 2 0 r.1.length, .b r.2]) := by
  refine says_of Try.func56 rfl (nt := 57) rfl (Nat.le_of_ble_eq_true rfl) fun X hP h0 hX => ?_
  have hT : TabOk X.P T := hP ▸ tok
  have hf : X.P.funcs[56]? = some Try.f56 := hP ▸ Try.func56
  refine ak_dup 0 (r := eR65 a0) rfl rfl (st' := ⟨57, [(0, .own 1 2 0 a0.length), (1, .d (eG42 a1))], [.gone, eR65 a0]⟩) (by kernel_rfl) (by kernel_rfl) rfl ?_
  refine goK hT 10 (K56 110 2) ⟨57, [(0, .own 1 2 0 a0.length), (3, .ptr 2 0 0 0), (10, .d (eL65 true a1.Pairs))], [.gone, eR65 a0, .box 42 (eC42 a1)]⟩ ?_
  obtain ⟨h1, H⟩ := iC H
  refine ak_idx hT [0, 3, 11] (i := 0) (n := (a1.Pairs.length : Int)) h1.1 h1.2 (k' := (K56 110 3)) (st' := ⟨57, [(0, .own 1 2 0 a0.length), (3, .ptr 2 0 0 0), (11, .d (eP65 true a1.Pairs 0 0))], [.gone, eR65 a0, .box 42 (eC42 a1)]⟩) (by kernel_rfl) ?_
  refine goK hT 9 (K56 1110 3) ⟨57, [(0, .own 1 2 0 a0.length), (3, .ptr 2 0 0 0), (6, .ptr 3 0 0 0), (14, .own 1 2 0 a0.length), (16, .i ((a1.Pairs.getD 0 api_Pair.z).Key))], [.gone, eR65 a0, .box 42 (eC42 a1), .box 65 (eC65 (a1.Pairs.getD 0 api_Pair.z))]⟩ ?_
  obtain ⟨v1, h2, H⟩ := ibC H
  refine ak_callP (avs := [.own 1 2 0 a0.length, .i ((a1.Pairs.getD 0 api_Pair.z).Key)]) (dst := some 17) (k' := (K56 1110 4)) [0, 3, 6, 17] [] hP enters_76 (table_get.says (t0 := false) a0 ((a1.Pairs.getD 0 api_Pair.z).Key) h2) (by kernel_rfl) (hands_none _) (.cons (.lend (ty := 65) (by kernel_rfl) rfl) (.cons (pass_d _) .nil)) (st' := ⟨57, [(0, .own 1 2 0 a0.length), (3, .ptr 2 0 0 0), (6, .ptr 3 0 0 0), (17, .tup [.i v1.1, .b v1.2])], [.gone, eR65 a0, .box 42 (eC42 a1), .box 65 (eC65 (a1.Pairs.getD 0 api_Pair.z))]⟩) (by kernel_rfl) ?_
  refine goK hT 13 (K56 11110 1) ⟨57, [(0, .own 1 2 0 a0.length), (3, .ptr 2 0 0 0), (6, .ptr 3 0 0 0), (7, .i v1.1), (8, .b v1.2), (22, .b (a1.Kind == 3))], [.gone, eR65 a0, .box 42 (eC42 a1), .box 65 (eC65 (a1.Pairs.getD 0 api_Pair.z))]⟩ ?_
  by_cases c3 : a1.Kind = 3
  · replace H := iT c3 H
    have Jj1 : ∀ (y1_34 : Bool), (table_alone.j1 a0 a1 v1 y1_34) = some r → AK X 56 ((K56 11110100 1)) (Back X [.gone, eR65 r.1] (.tup [.own 1 2 0 r.1.length, .b r.2])) ⟨57, [(0, .own 1 2 0 a0.length), (6, .ptr 2 0 0 0), (7, .i v1.1), (34, .b y1_34)], [.gone, eR65 a0, .box 65 (eC65 (a1.Pairs.getD 0 api_Pair.z))]⟩ := by
      intro y1_34 H
      by_cases c5 : y1_34 = true
      · replace H := iT c5 H
        rw [c5]
        refine goK hT 7 (K56 1111010010 1) ⟨57, [(4, .own 1 2 0 a0.length), (5, .b false)], [.gone, eR65 a0, .box 65 (eC65 (a1.Pairs.getD 0 api_Pair.z))]⟩ ?_
        obtain rfl := retC H
        exact ak_ret hf hX (av := .tup [.own 1 2 0 a0.length, .b false]) (by kernel_rfl) [0, 1] (sel_of_eq (by kernel_rfl)) (by decide) (by rw [h0]; rfl) (by kernel_rfl) (fun _ h => all_cons .gone (fun _ h => all_cons (nr_vec api_Pair.nl) (fun _ h => all_nil h) h) h) (.tup (.cons (.own _ _ _ _) (.cons (.d (.v _)) .nil)))
      · replace H := iF c5 H
        rw [boF c5]
        refine goK hT 2 (K56 1111010 1) ⟨57, [(0, .own 1 2 0 a0.length), (6, .ptr 2 0 0 0), (7, .i v1.1)], [.gone, eR65 a0, .box 65 (eC65 (a1.Pairs.getD 0 api_Pair.z))]⟩ ?_
        refine goK hT 9 (K56 111101010 7) ⟨57, [(36, .own 1 2 0 a0.length), (38, .i ((a1.Pairs.getD 0 api_Pair.z).Key)), (42, .i (IntKind.wrap .i64 (v1.1 + ((a1.Pairs.getD 0 api_Pair.z).Val))))], [.gone, eR65 a0, .box 65 (eC65 (a1.Pairs.getD 0 api_Pair.z))]⟩ ?_
        obtain ⟨v2, h6, H⟩ := ibC H
        refine ak_callP (avs := [.own 1 2 0 a0.length, .i ((a1.Pairs.getD 0 api_Pair.z).Key), .i (IntKind.wrap .i64 (v1.1 + ((a1.Pairs.getD 0 api_Pair.z).Val)))]) (dst := some 43) (k' := (K56 111101010 8)) [43] [1] hP enters_57 (table_put.says a0 ((a1.Pairs.getD 0 api_Pair.z).Key) (IntKind.wrap .i64 (v1.1 + ((a1.Pairs.getD 0 api_Pair.z).Val))) h6) (by kernel_rfl) (hands_one rfl rfl) (.cons (.same (.own 0 2 0 a0.length)) (.cons (pass_d _) (.cons (pass_d _) .nil))) (st' := ⟨57, [(43, .own 3 2 0 v2.length)], [.gone, .gone, .box 65 (eC65 (a1.Pairs.getD 0 api_Pair.z)), eR65 v2]⟩) (by kernel_rfl) ?_
        refine goK hT 3 (K56 11110101 1) ⟨57, [(4, .own 3 2 0 v2.length), (5, .b true)], [.gone, .gone, .box 65 (eC65 (a1.Pairs.getD 0 api_Pair.z)), eR65 v2]⟩ ?_
        obtain rfl := retC H
        exact ak_ret hf hX (av := .tup [.own 3 2 0 v2.length, .b true]) (by kernel_rfl) [0, 3] (sel_of_eq (by kernel_rfl)) (by decide) (by rw [h0]; rfl) (by kernel_rfl) (fun _ h => all_cons .gone (fun _ h => all_cons (nr_vec api_Pair.nl) (fun _ h => all_nil h) h) h) (.tup (.cons (.own _ _ _ _) (.cons (.d (.v _)) .nil)))
    rw [eqT c3]
    refine goK hT 10 (K56 111101000 6) ⟨57, [(0, .own 1 2 0 a0.length), (6, .ptr 3 0 0 0), (7, .i v1.1), (28, .b (decide ((IntKind.wrap .i64 (v1.1 + ((a1.Pairs.getD 0 api_Pair.z).Val))) < 0)))], [.gone, eR65 a0, .box 42 (eC42 a1), .box 65 (eC65 (a1.Pairs.getD 0 api_Pair.z))]⟩ ?_
    by_cases c4 : (IntKind.wrap .i64 (v1.1 + ((a1.Pairs.getD 0 api_Pair.z).Val))) < 0
    · replace H := iT c4 H
      rw [decide_eq_true c4]
      refine goK hT 7 (K56 11110100 1) ⟨57, [(0, .own 1 2 0 a0.length), (6, .ptr 3 0 0 0), (7, .i v1.1), (34, .b true)], [.gone, eR65 a0, .box 42 (eC42 a1), .box 65 (eC65 (a1.Pairs.getD 0 api_Pair.z))]⟩ ?_
      refine cutK [0, 1, 3] ⟨57, [(0, .own 1 2 0 a0.length), (6, .ptr 2 0 0 0), (7, .i v1.1), (34, .b true)], [.gone, eR65 a0, .box 65 (eC65 (a1.Pairs.getD 0 api_Pair.z))]⟩ h0 ?_
      exact Jj1 true H
    · replace H := iF c4 H
      rw [decide_eq_false c4]
      refine goK hT 7 (K56 11110100 1) ⟨57, [(0, .own 1 2 0 a0.length), (6, .ptr 3 0 0 0), (7, .i v1.1), (34, .b (decide ((IntKind.wrap .i64 (v1.1 + ((a1.Pairs.getD 0 api_Pair.z).Val))) > 1099511627776)))], [.gone, eR65 a0, .box 42 (eC42 a1), .box 65 (eC65 (a1.Pairs.getD 0 api_Pair.z))]⟩ ?_
      refine cutK [0, 1, 3] ⟨57, [(0, .own 1 2 0 a0.length), (6, .ptr 2 0 0 0), (7, .i v1.1), (34, .b (decide ((IntKind.wrap .i64 (v1.1 + ((a1.Pairs.getD 0 api_Pair.z).Val))) > 1099511627776)))], [.gone, eR65 a0, .box 65 (eC65 (a1.Pairs.getD 0 api_Pair.z))]⟩ h0 ?_
      exact Jj1 (decide ((IntKind.wrap .i64 (v1.1 + ((a1.Pairs.getD 0 api_Pair.z).Val))) > 1099511627776)) H
  · replace H := iF c3 H
    have Jj2 : ∀ (y2_7 : Int), (table_alone.j2 a0 a1 y2_7) = some r → AK X 56 ((K56 11111 1)) (Back X [.gone, eR65 r.1] (.tup [.own 1 2 0 r.1.length, .b r.2])) ⟨57, [(0, .own 1 2 0 a0.length), (3, .ptr 2 0 0 0), (6, .ptr 3 0 0 0), (7, .i y2_7)], [.gone, eR65 a0, .box 42 (eC42 a1), .box 65 (eC65 (a1.Pairs.getD 0 api_Pair.z))]⟩ := by
      intro y2_7 H
      refine goK hT 8 (K56 1111110 1) ⟨57, [(0, .own 1 2 0 a0.length), (6, .ptr 3 0 0 0), (49, .b (y2_7 != a1.Old))], [.gone, eR65 a0, .box 42 (eC42 a1), .box 65 (eC65 (a1.Pairs.getD 0 api_Pair.z))]⟩ ?_
      by_cases c8 : y2_7 = a1.Old
      · replace H := iT c8 H
        rw [neF c8]
        refine goK hT 2 (K56 111111 1) ⟨57, [(0, .own 1 2 0 a0.length), (6, .ptr 3 0 0 0)], [.gone, eR65 a0, .box 42 (eC42 a1), .box 65 (eC65 (a1.Pairs.getD 0 api_Pair.z))]⟩ ?_
        refine goK hT 7 (K56 11111110 5) ⟨57, [(51, .own 1 2 0 a0.length), (53, .i ((a1.Pairs.getD 0 api_Pair.z).Key)), (55, .i ((a1.Pairs.getD 0 api_Pair.z).Val))], [.gone, eR65 a0, .box 42 (eC42 a1), .box 65 (eC65 (a1.Pairs.getD 0 api_Pair.z))]⟩ ?_
        obtain ⟨v3, h9, H⟩ := ibC H
        refine ak_callP (avs := [.own 1 2 0 a0.length, .i ((a1.Pairs.getD 0 api_Pair.z).Key), .i ((a1.Pairs.getD 0 api_Pair.z).Val)]) (dst := some 56) (k' := (K56 11111110 6)) [56] [1] hP enters_57 (table_put.says a0 ((a1.Pairs.getD 0 api_Pair.z).Key) ((a1.Pairs.getD 0 api_Pair.z).Val) h9) (by kernel_rfl) (hands_one rfl rfl) (.cons (.same (.own 0 2 0 a0.length)) (.cons (pass_d _) (.cons (pass_d _) .nil))) (st' := ⟨57, [(56, .own 4 2 0 v3.length)], [.gone, .gone, .box 42 (eC42 a1), .box 65 (eC65 (a1.Pairs.getD 0 api_Pair.z)), eR65 v3]⟩) (by kernel_rfl) ?_
        refine goK hT 3 (K56 1111111 1) ⟨57, [(4, .own 4 2 0 v3.length), (5, .b true)], [.gone, .gone, .box 42 (eC42 a1), .box 65 (eC65 (a1.Pairs.getD 0 api_Pair.z)), eR65 v3]⟩ ?_
        obtain rfl := retC H
        exact ak_ret hf hX (av := .tup [.own 4 2 0 v3.length, .b true]) (by kernel_rfl) [0, 4] (sel_of_eq (by kernel_rfl)) (by decide) (by rw [h0]; rfl) (by kernel_rfl) (fun _ h => all_cons .gone (fun _ h => all_cons (nr_vec api_Pair.nl) (fun _ h => all_nil h) h) h) (.tup (.cons (.own _ _ _ _) (.cons (.d (.v _)) .nil)))
      · replace H := iF c8 H
        rw [neT c8]
        refine goK hT 7 (K56 111111010 1) ⟨57, [(4, .own 1 2 0 a0.length), (5, .b false)], [.gone, eR65 a0, .box 42 (eC42 a1), .box 65 (eC65 (a1.Pairs.getD 0 api_Pair.z))]⟩ ?_
        obtain rfl := retC H
        exact ak_ret hf hX (av := .tup [.own 1 2 0 a0.length, .b false]) (by kernel_rfl) [0, 1] (sel_of_eq (by kernel_rfl)) (by decide) (by rw [h0]; rfl) (by kernel_rfl) (fun _ h => all_cons .gone (fun _ h => all_cons (nr_vec api_Pair.nl) (fun _ h => all_nil h) h) h) (.tup (.cons (.own _ _ _ _) (.cons (.d (.v _)) .nil)))
    rw [eqF c3]
    refine goK hT 2 (K56 1111 1) ⟨57, [(0, .own 1 2 0 a0.length), (3, .ptr 2 0 0 0), (6, .ptr 3 0 0 0), (7, .i v1.1), (8, .b v1.2)], [.gone, eR65 a0, .box 42 (eC42 a1), .box 65 (eC65 (a1.Pairs.getD 0 api_Pair.z))]⟩ ?_
    refine goK hT 6 (K56 111110 1) ⟨57, [(0, .own 1 2 0 a0.length), (3, .ptr 2 0 0 0), (6, .ptr 3 0 0 0), (7, .i v1.1), (45, .b (!v1.2))], [.gone, eR65 a0, .box 42 (eC42 a1), .box 65 (eC65 (a1.Pairs.getD 0 api_Pair.z))]⟩ ?_
    by_cases c7 : v1.2 = true
    · replace H := iT c7 H
      rw [c7]
      refine goK hT 2 (K56 11111 1) ⟨57, [(0, .own 1 2 0 a0.length), (3, .ptr 2 0 0 0), (6, .ptr 3 0 0 0), (7, .i v1.1)], [.gone, eR65 a0, .box 42 (eC42 a1), .box 65 (eC65 (a1.Pairs.getD 0 api_Pair.z))]⟩ ?_
      refine cutK [0, 1, 2, 3] ⟨57, [(0, .own 1 2 0 a0.length), (3, .ptr 2 0 0 0), (6, .ptr 3 0 0 0), (7, .i v1.1)], [.gone, eR65 a0, .box 42 (eC42 a1), .box 65 (eC65 (a1.Pairs.getD 0 api_Pair.z))]⟩ h0 ?_
      exact Jj2 v1.1 H
    · replace H := iF c7 H
      rw [boF c7]
      refine goK hT 4 (K56 11111 1) ⟨57, [(0, .own 1 2 0 a0.length), (3, .ptr 2 0 0 0), (6, .ptr 3 0 0 0), (7, .i 1099511627777)], [.gone, eR65 a0, .box 42 (eC42 a1), .box 65 (eC65 (a1.Pairs.getD 0 api_Pair.z))]⟩ ?_
      refine cutK [0, 1, 2, 3] ⟨57, [(0, .own 1 2 0 a0.length), (3, .ptr 2 0 0 0), (6, .ptr 3 0 0 0), (7, .i 1099511627777)], [.gone, eR65 a0, .box 42 (eC42 a1), .box 65 (eC65 (a1.Pairs.getD 0 api_Pair.z))]⟩ h0 ?_
      exact Jj2 1099511627777 H


theorem table_move.says (a0 : List api_Pair) (a1 : Int) (a2 : Int) {r : List api_Pair} (H : table_move a0 a1 a2 = some r) : Says Try.prog 58 [eR65 a0] [.own 0 2 0 a0.length, .i a1, .i a2] [.gone, eR65 r] (.own 1 2 0 r.length) := by
  refine says_of Try.func58 rfl (nt := 23) rfl (Nat.le_of_ble_eq_true rfl) fun X hP h0 hX => ?_
  have hT : TabOk X.P T := hP ▸ tok
  have hf : X.P.funcs[58]? = some Try.f58 := hP ▸ Try.func58
  refine ak_dup 0 (r := eR65 a0) rfl rfl (st' := ⟨23, [(0, .own 1 2 0 a0.length), (1, .i a1), (2, .i a2)], [.gone, eR65 a0]⟩) (by kernel_rfl) (by kernel_rfl) rfl ?_
  refine goK hT 8 (K58 110 2) ⟨23, [(0, .own 1 2 0 a0.length), (1, .i a1), (2, .i a2), (10, .own 1 2 0 a0.length), (11, .i a1)], [.gone, eR65 a0]⟩ ?_
  obtain ⟨v1, h1, H⟩ := ibC H
  refine ak_callP (avs := [.own 1 2 0 a0.length, .i a1]) (dst := some 12) (k' := (K58 110 3)) [0, 1, 2, 12] [] hP enters_76 (table_get.says (t0 := false) a0 a1 h1) (by kernel_rfl) (hands_none _) (.cons (.lend (ty := 65) (by kernel_rfl) rfl) (.cons (pass_d _) .nil)) (st' := ⟨23, [(0, .own 1 2 0 a0.length), (1, .i a1), (2, .i a2), (12, .tup [.i v1.1, .b v1.2])], [.gone, eR65 a0]⟩) (by kernel_rfl) ?_
  refine goK hT 15 (K58 1110 7) ⟨23, [(15, .own 1 2 0 a0.length), (16, .i a1), (21, .i (iMin (iMax (IntKind.wrap .i64 (v1.1 + a2)) (-1099511627776)) 1099511627776))], [.gone, eR65 a0]⟩ ?_
  obtain ⟨v2, h2, H⟩ := ibC H
  refine ak_callP (avs := [.own 1 2 0 a0.length, .i a1, .i (iMin (iMax (IntKind.wrap .i64 (v1.1 + a2)) (-1099511627776)) 1099511627776)]) (dst := some 22) (k' := (K58 1110 8)) [22] [1] hP enters_57 (table_put.says a0 a1 (iMin (iMax (IntKind.wrap .i64 (v1.1 + a2)) (-1099511627776)) 1099511627776) h2) (by kernel_rfl) (hands_one rfl rfl) (.cons (.same (.own 0 2 0 a0.length)) (.cons (pass_d _) (.cons (pass_d _) .nil))) (st' := ⟨23, [(22, .own 2 2 0 v2.length)], [.gone, .gone, eR65 v2]⟩) (by kernel_rfl) ?_
  refine goK hT 2 (K58 111 1) ⟨23, [(6, .own 2 2 0 v2.length)], [.gone, .gone, eR65 v2]⟩ ?_
  obtain rfl := retC H
  exact ak_ret hf hX (av := .own 2 2 0 v2.length) (by kernel_rfl) [0, 2] (sel_of_eq (by kernel_rfl)) (by decide) (by rw [h0]; rfl) (by kernel_rfl) (fun _ h => all_cons .gone (fun _ h => all_cons (nr_vec api_Pair.nl) (fun _ h => all_nil h) h) h) (.own _ _ _ _)


theorem table_Apply.says {t0 : Bool} (a0 : List api_Pair) (a1 : api_Mut) (a2 : List api_Span) {r : (List api_Pair) × Bool} (H : table_Apply a0 a1 a2 = some r) : Says Try.prog 31 [] [.d (eL65 t0 a0), .d (eG42 a1), .d (eL40 true a2)] [eR65 r.1] (.tup [.own 0 2 0 r.1.length, .b r.2]) := by
  refine says_of Try.func31 rfl (nt := 93) rfl (Nat.le_of_ble_eq_true rfl) fun X hP h0 hX => ?_
  have hT : TabOk X.P T := hP ▸ tok
  have hf : X.P.funcs[31]? = some Try.f31 := hP ▸ Try.func31
  refine goK hT 10 (K31 1100 1) ⟨93, [(0, .d (eL65 t0 a0)), (2, .d (eL40 true a2)), (4, .ptr 0 0 0 0), (10, .d (eL65 t0 a0))], [.box 42 (eC42 a1)]⟩ ?_
  obtain ⟨v1, h1, H⟩ := ibC H
  have Jj1 : ∀ (y1_22 : Bool), (table_Apply.j1 a0 a1 a2 y1_22) = some r → AK X 31 ((K31 110 1)) (Back X [eR65 r.1] (.tup [.own 0 2 0 r.1.length, .b r.2])) ⟨93, [(0, .d (eL65 t0 a0)), (2, .d (eL40 true a2)), (4, .ptr 0 0 0 0), (22, .b y1_22)], [.box 42 (eC42 a1)]⟩ := by
    intro y1_22 H
    by_cases c6 : y1_22 = true
    · replace H := iT c6 H
      rw [c6]
      refine goK hT 6 (K31 11010 1) ⟨93, [(6, .ns), (7, .b false)], [.box 42 (eC42 a1)]⟩ ?_
      refine ak_nilS [6, 7] 6 2 65 (vec api_Pair.e api_Pair.z []) (st' := ⟨93, [(6, .own 1 2 0 0), (7, .b false)], [.box 42 (eC42 a1), eR65 ([] : List api_Pair)]⟩) (by kernel_rfl) (by kernel_rfl) ?_
      obtain rfl := retC H
      exact ak_ret hf hX (av := .tup [.own 1 2 0 0, .b false]) (by kernel_rfl) [1] (sel_of_eq (by kernel_rfl)) (by decide) (by rw [h0]; rfl) (by kernel_rfl) (fun _ h => all_cons (nr_vec api_Pair.nl) (fun _ h => all_nil h) h) (.tup (.cons (.own _ _ _ _) (.cons (.d (.v _)) .nil)))
    · replace H := iF c6 H
      rw [boF c6]
      refine goK hT 2 (K31 11 1) ⟨93, [(0, .d (eL65 t0 a0)), (2, .d (eL40 true a2)), (4, .ptr 0 0 0 0)], [.box 42 (eC42 a1)]⟩ ?_
      refine goK hT 3 (K31 1110 1) ⟨93, [(2, .d (eL40 true a2)), (4, .ptr 0 0 0 0), (23, .d (eL65 t0 a0))], [.box 42 (eC42 a1)]⟩ ?_
      obtain ⟨h7, H⟩ := iC H
      refine ak_callP (avs := [.d (eL65 t0 a0)]) (dst := some 24) (k' := (K31 1110 2)) [2, 4, 24] [] hP enters_37 (clone37 (tg := t0) a0 h7) (by kernel_rfl) (hands_none _) (.cons (pass_d _) .nil) (st' := ⟨93, [(2, .d (eL40 true a2)), (4, .ptr 0 0 0 0), (24, .own 1 2 0 a0.length)], [.box 42 (eC42 a1), eR65 a0]⟩) (by kernel_rfl) ?_
      refine goK hT 11 (K31 111100 1) ⟨93, [(2, .d (eL40 true a2)), (4, .ptr 0 0 0 0), (6, .own 1 2 0 a0.length), (25, .b (a1.Kind == 2))], [.box 42 (eC42 a1), eR65 a0]⟩ ?_
      by_cases c8 : a1.Kind = 2
      · replace H := iT c8 H
        rw [eqT c8]
        refine goK hT 7 (K31 111100100 4) ⟨93, [(29, .own 1 2 0 a0.length), (31, .d (eG40 a1.Over)), (32, .d (eL40 true a2))], [.box 42 (eC42 a1), eR65 a0]⟩ ?_
        obtain ⟨v4, h9, H⟩ := ibC H
        refine ak_callP (avs := [.own 1 2 0 a0.length, .d (eG40 a1.Over), .d (eL40 true a2)]) (dst := some 33) (k' := (K31 111100100 5)) [33] [1] hP enters_54 (table_cut.says a0 a1.Over a2 h9) (by kernel_rfl) (hands_one rfl rfl) (.cons (.same (.own 0 2 0 a0.length)) (.cons (pass_d _) (.cons (pass_d _) .nil))) (st' := ⟨93, [(33, .own 2 2 0 v4.length)], [.box 42 (eC42 a1), .gone, eR65 v4]⟩) (by kernel_rfl) ?_
        refine goK hT 3 (K31 11110010 1) ⟨93, [(6, .own 2 2 0 v4.length), (7, .b true)], [.box 42 (eC42 a1), .gone, eR65 v4]⟩ ?_
        obtain rfl := retC H
        exact ak_ret hf hX (av := .tup [.own 2 2 0 v4.length, .b true]) (by kernel_rfl) [2] (sel_of_eq (by kernel_rfl)) (by decide) (by rw [h0]; rfl) (by kernel_rfl) (fun _ h => all_cons (nr_vec api_Pair.nl) (fun _ h => all_nil h) h) (.tup (.cons (.own _ _ _ _) (.cons (.d (.v _)) .nil)))
      · replace H := iF c8 H
        rw [eqF c8]
        refine goK hT 4 (K31 111100110 1) ⟨93, [(2, .d (eL40 true a2)), (4, .ptr 0 0 0 0), (6, .own 1 2 0 a0.length), (35, .d (eG42 a1))], [.box 42 (eC42 a1), eR65 a0]⟩ ?_
        obtain ⟨v5, h10, H⟩ := ibC H
        refine ak_callP (avs := [.d (eG42 a1)]) (dst := some 36) (k' := (K31 111100110 2)) [2, 4, 6, 36] [] hP enters_55 (mut_Alone.says a1 h10) (by kernel_rfl) (hands_none _) (.cons (pass_d _) .nil) (st' := ⟨93, [(2, .d (eL40 true a2)), (4, .ptr 0 0 0 0), (6, .own 1 2 0 a0.length), (36, .b v5)], [.box 42 (eC42 a1), eR65 a0]⟩) (by kernel_rfl) ?_
        refine goK hT 2 (K31 11110011 1) ⟨93, [(2, .d (eL40 true a2)), (4, .ptr 0 0 0 0), (6, .own 1 2 0 a0.length), (34, .b v5)], [.box 42 (eC42 a1), eR65 a0]⟩ ?_
        by_cases c11 : v5 = true
        · replace H := iT c11 H
          rw [c11]
          refine goK hT 7 (K31 111100111000 3) ⟨93, [(4, .ptr 0 0 0 0), (6, .own 1 2 0 a0.length), (37, .d (eL40 true a2)), (39, .d (eL65 true a1.Pairs))], [.box 42 (eC42 a1), eR65 a0]⟩ ?_
          obtain ⟨h12, H⟩ := iC H
          refine ak_idx hT [4, 6, 37, 40] (i := 0) (n := (a1.Pairs.length : Int)) h12.1 h12.2 (k' := (K31 111100111000 4)) (st' := ⟨93, [(4, .ptr 0 0 0 0), (6, .own 1 2 0 a0.length), (37, .d (eL40 true a2)), (40, .d (eP65 true a1.Pairs 0 0))], [.box 42 (eC42 a1), eR65 a0]⟩) (by kernel_rfl) ?_
          refine goK hT 2 (K31 111100111000 6) ⟨93, [(4, .ptr 0 0 0 0), (6, .own 1 2 0 a0.length), (37, .d (eL40 true a2)), (42, .i ((a1.Pairs.getD 0 api_Pair.z).Key))], [.box 42 (eC42 a1), eR65 a0]⟩ ?_
          obtain ⟨v6, h13, H⟩ := ibC H
          refine ak_callP (avs := [.d (eL40 true a2), .i ((a1.Pairs.getD 0 api_Pair.z).Key)]) (dst := some 43) (k' := (K31 111100111000 7)) [4, 6, 43] [] hP enters_50 (span_Has.says (t0 := true) a2 ((a1.Pairs.getD 0 api_Pair.z).Key) h13) (by kernel_rfl) (hands_none _) (.cons (pass_d _) (.cons (pass_d _) .nil)) (st' := ⟨93, [(4, .ptr 0 0 0 0), (6, .own 1 2 0 a0.length), (43, .b v6)], [.box 42 (eC42 a1), eR65 a0]⟩) (by kernel_rfl) ?_
          refine goK hT 2 (K31 11110011100 1) ⟨93, [(4, .ptr 0 0 0 0), (6, .own 1 2 0 a0.length), (44, .b (!v6))], [.box 42 (eC42 a1), eR65 a0]⟩ ?_
          by_cases c14 : v6 = true
          · replace H := iT c14 H
            rw [c14]
            refine goK hT 2 (K31 1111001110 1) ⟨93, [(4, .ptr 0 0 0 0), (6, .own 1 2 0 a0.length)], [.box 42 (eC42 a1), eR65 a0]⟩ ?_
            refine goK hT 4 (K31 111100111010 2) ⟨93, [(46, .own 1 2 0 a0.length), (47, .d (eG42 a1))], [.box 42 (eC42 a1), eR65 a0]⟩ ?_
            obtain ⟨v7, h15, H⟩ := ibC H
            refine ak_callP (avs := [.own 1 2 0 a0.length, .d (eG42 a1)]) (dst := some 48) (k' := (K31 111100111010 3)) [48] [1] hP enters_56 (table_alone.says a0 a1 h15) (by kernel_rfl) (hands_one rfl rfl) (.cons (.same (.own 0 2 0 a0.length)) (.cons (pass_d _) .nil)) (st' := ⟨93, [(48, .tup [.own 2 2 0 v7.1.length, .b v7.2])], [.box 42 (eC42 a1), .gone, eR65 v7.1]⟩) (by kernel_rfl) ?_
            refine goK hT 5 (K31 11110011101 1) ⟨93, [(6, .own 2 2 0 v7.1.length), (7, .b v7.2)], [.box 42 (eC42 a1), .gone, eR65 v7.1]⟩ ?_
            obtain rfl := retC H
            exact ak_ret hf hX (av := .tup [.own 2 2 0 v7.1.length, .b v7.2]) (by kernel_rfl) [2] (sel_of_eq (by kernel_rfl)) (by decide) (by rw [h0]; rfl) (by kernel_rfl) (fun _ h => all_cons (nr_vec api_Pair.nl) (fun _ h => all_nil h) h) (.tup (.cons (.own _ _ _ _) (.cons (.d (.v _)) .nil)))
          · replace H := iF c14 H
            rw [boF c14]
            refine goK hT 7 (K31 1111001110010 1) ⟨93, [(6, .own 1 2 0 a0.length), (7, .b true)], [.box 42 (eC42 a1), eR65 a0]⟩ ?_
            obtain rfl := retC H
            exact ak_ret hf hX (av := .tup [.own 1 2 0 a0.length, .b true]) (by kernel_rfl) [1] (sel_of_eq (by kernel_rfl)) (by decide) (by rw [h0]; rfl) (by kernel_rfl) (fun _ h => all_cons (nr_vec api_Pair.nl) (fun _ h => all_nil h) h) (.tup (.cons (.own _ _ _ _) (.cons (.d (.v _)) .nil)))
        · replace H := iF c11 H
          rw [boF c11]
          refine goK hT 3 (K31 1111 1) ⟨93, [(2, .d (eL40 true a2)), (4, .ptr 0 0 0 0), (6, .own 1 2 0 a0.length)], [.box 42 (eC42 a1), eR65 a0]⟩ ?_
          refine goK hT 10 (K31 11111010 0) ⟨93, [(2, .d (eL40 true a2)), (4, .ptr 0 0 0 0), (6, .own 1 2 0 a0.length), (52, .d (eL65 true a1.Pairs)), (53, .i (a1.Pairs.length : Int)), (54, .i 0)], [.box 42 (eC42 a1), eR65 a0]⟩ ?_
          have L : ∀ n, (∀ (x1_54 : Int) (x1_r1 : List api_Pair), iter (table_Apply.step a1 a2) n (.l1 x1_54 x1_r1) = some r → AK X 31 ((K31 11111010 0)) (Back X [eR65 r.1] (.tup [.own 0 2 0 r.1.length, .b r.2])) ⟨93, [(2, .d (eL40 true a2)), (4, .ptr 0 0 0 0), (6, .own 1 2 0 x1_r1.length), (52, .d (eL65 true a1.Pairs)), (53, .i (a1.Pairs.length : Int)), (54, .i x1_54)], [.box 42 (eC42 a1), eR65 x1_r1]⟩) := by
            intro n
            induction n with
            | zero => exact fun _ _ H => iter0 H
            | succ n ih =>
              · intro x1_54 x1_r1 H
                refine goK hT 5 (K31 1111101001 0) ⟨93, [(2, .d (eL40 true a2)), (4, .ptr 0 0 0 0), (6, .own 1 2 0 x1_r1.length), (52, .d (eL65 true a1.Pairs)), (53, .i (a1.Pairs.length : Int)), (54, .i x1_54), (55, .b (decide (x1_54 < (a1.Pairs.length : Int))))], [.box 42 (eC42 a1), eR65 x1_r1]⟩ ?_
                by_cases c16 : x1_54 < (a1.Pairs.length : Int)
                · replace H := sT c16 H
                  rw [decide_eq_true c16]
                  refine goK hT 2 (K31 1111101001 1) ⟨93, [(2, .d (eL40 true a2)), (4, .ptr 0 0 0 0), (6, .own 1 2 0 x1_r1.length), (52, .d (eL65 true a1.Pairs)), (53, .i (a1.Pairs.length : Int)), (54, .i x1_54)], [.box 42 (eC42 a1), eR65 x1_r1]⟩ ?_
                  refine goK hT 5 (K31 11111010011000 1) ⟨93, [(2, .d (eL40 true a2)), (4, .ptr 0 0 0 0), (6, .own 1 2 0 x1_r1.length), (52, .d (eL65 true a1.Pairs)), (53, .i (a1.Pairs.length : Int)), (54, .i x1_54), (56, .i x1_54)], [.box 42 (eC42 a1), eR65 x1_r1]⟩ ?_
                  obtain ⟨h17, H⟩ := sC H
                  refine ak_idx hT [2, 4, 6, 52, 53, 54, 56, 57] (i := x1_54) (n := (a1.Pairs.length : Int)) h17.1 h17.2 (k' := (K31 11111010011000 2)) (st' := ⟨93, [(2, .d (eL40 true a2)), (4, .ptr 0 0 0 0), (6, .own 1 2 0 x1_r1.length), (52, .d (eL65 true a1.Pairs)), (53, .i (a1.Pairs.length : Int)), (54, .i x1_54), (56, .i x1_54), (57, .d (eP65 true a1.Pairs x1_54.toNat 0))], [.box 42 (eC42 a1), eR65 x1_r1]⟩) (by kernel_rfl) ?_
                  refine goK hT 11 (K31 1111101001100100 3) ⟨93, [(2, .d (eL40 true a2)), (4, .ptr 0 0 0 0), (6, .own 1 2 0 x1_r1.length), (8, .i x1_54), (9, .ptr 2 0 0 0), (52, .d (eL65 true a1.Pairs)), (53, .i (a1.Pairs.length : Int)), (54, .i x1_54), (66, .d (eL40 true a2)), (68, .i ((a1.Pairs.getD x1_54.toNat api_Pair.z).Key))], [.box 42 (eC42 a1), eR65 x1_r1, .box 65 (eC65 (a1.Pairs.getD x1_54.toNat api_Pair.z))]⟩ ?_
                  obtain ⟨v8, h18, H⟩ := sbC H
                  have Jj2 : ∀ (y2_r1 : List api_Pair), stk (table_Apply.j2 x1_54 y2_r1) (iter (table_Apply.step a1 a2) n) = some r → AK X 31 ((K31 11111010011 1)) (Back X [eR65 r.1] (.tup [.own 0 2 0 r.1.length, .b r.2])) ⟨93, [(2, .d (eL40 true a2)), (4, .ptr 0 0 0 0), (6, .own 1 2 0 y2_r1.length), (52, .d (eL65 true a1.Pairs)), (53, .i (a1.Pairs.length : Int)), (54, .i x1_54)], [.box 42 (eC42 a1), eR65 y2_r1]⟩ := by
                    intro y2_r1 H
                    refine goK hT 5 (K31 11111010 0) ⟨93, [(2, .d (eL40 true a2)), (4, .ptr 0 0 0 0), (6, .own 1 2 0 y2_r1.length), (52, .d (eL65 true a1.Pairs)), (53, .i (a1.Pairs.length : Int)), (54, .i (IntKind.wrap .i64 (x1_54 + 1)))], [.box 42 (eC42 a1), eR65 y2_r1]⟩ ?_
                    refine cutK [0, 1] ⟨93, [(2, .d (eL40 true a2)), (4, .ptr 0 0 0 0), (6, .own 1 2 0 y2_r1.length), (52, .d (eL65 true a1.Pairs)), (53, .i (a1.Pairs.length : Int)), (54, .i (IntKind.wrap .i64 (x1_54 + 1)))], [.box 42 (eC42 a1), eR65 y2_r1]⟩ h0 ?_
                    exact ih (IntKind.wrap .i64 (x1_54 + 1)) y2_r1 H
                  refine ak_callP (avs := [.d (eL40 true a2), .i ((a1.Pairs.getD x1_54.toNat api_Pair.z).Key)]) (dst := some 69) (k' := (K31 1111101001100100 4)) [2, 4, 6, 8, 9, 52, 53, 54, 69] [] hP enters_50 (span_Has.says (t0 := true) a2 ((a1.Pairs.getD x1_54.toNat api_Pair.z).Key) h18) (by kernel_rfl) (hands_none _) (.cons (pass_d _) (.cons (pass_d _) .nil)) (st' := ⟨93, [(2, .d (eL40 true a2)), (4, .ptr 0 0 0 0), (6, .own 1 2 0 x1_r1.length), (8, .i x1_54), (9, .ptr 2 0 0 0), (52, .d (eL65 true a1.Pairs)), (53, .i (a1.Pairs.length : Int)), (54, .i x1_54), (69, .b v8)], [.box 42 (eC42 a1), eR65 x1_r1, .box 65 (eC65 (a1.Pairs.getD x1_54.toNat api_Pair.z))]⟩) (by kernel_rfl) ?_
                  refine goK hT 3 (K31 111110100110010 1) ⟨93, [(2, .d (eL40 true a2)), (4, .ptr 0 0 0 0), (6, .own 1 2 0 x1_r1.length), (8, .i x1_54), (9, .ptr 2 0 0 0), (52, .d (eL65 true a1.Pairs)), (53, .i (a1.Pairs.length : Int)), (54, .i x1_54), (65, .b (!v8))], [.box 42 (eC42 a1), eR65 x1_r1, .box 65 (eC65 (a1.Pairs.getD x1_54.toNat api_Pair.z))]⟩ ?_
                  by_cases c19 : v8 = true
                  · replace H := sT c19 H
                    rw [c19]
                    refine goK hT 8 (K31 11111010011001011 1) ⟨93, [(2, .d (eL40 true a2)), (4, .ptr 0 0 0 0), (6, .own 1 2 0 x1_r1.length), (8, .i x1_54), (9, .ptr 2 0 0 0), (52, .d (eL65 true a1.Pairs)), (53, .i (a1.Pairs.length : Int)), (54, .i x1_54), (71, .b (a1.Kind == 1))], [.box 42 (eC42 a1), eR65 x1_r1, .box 65 (eC65 (a1.Pairs.getD x1_54.toNat api_Pair.z))]⟩ ?_
                    by_cases c20 : a1.Kind = 1
                    · replace H := sT c20 H
                      rw [eqT c20]
                      refine goK hT 7 (K31 1111101001100101110 5) ⟨93, [(2, .d (eL40 true a2)), (4, .ptr 0 0 0 0), (52, .d (eL65 true a1.Pairs)), (53, .i (a1.Pairs.length : Int)), (54, .i x1_54), (75, .own 1 2 0 x1_r1.length), (77, .i ((a1.Pairs.getD x1_54.toNat api_Pair.z).Key)), (79, .i ((a1.Pairs.getD x1_54.toNat api_Pair.z).Val))], [.box 42 (eC42 a1), eR65 x1_r1, .box 65 (eC65 (a1.Pairs.getD x1_54.toNat api_Pair.z))]⟩ ?_
                      obtain ⟨v9, h21, H⟩ := sbC H
                      refine ak_callP (avs := [.own 1 2 0 x1_r1.length, .i ((a1.Pairs.getD x1_54.toNat api_Pair.z).Key), .i ((a1.Pairs.getD x1_54.toNat api_Pair.z).Val)]) (dst := some 80) (k' := (K31 1111101001100101110 6)) [2, 4, 52, 53, 54, 80] [1] hP enters_57 (table_put.says x1_r1 ((a1.Pairs.getD x1_54.toNat api_Pair.z).Key) ((a1.Pairs.getD x1_54.toNat api_Pair.z).Val) h21) (by kernel_rfl) (hands_one rfl rfl) (.cons (.same (.own 0 2 0 x1_r1.length)) (.cons (pass_d _) (.cons (pass_d _) .nil))) (st' := ⟨93, [(2, .d (eL40 true a2)), (4, .ptr 0 0 0 0), (52, .d (eL65 true a1.Pairs)), (53, .i (a1.Pairs.length : Int)), (54, .i x1_54), (80, .own 3 2 0 v9.length)], [.box 42 (eC42 a1), .gone, .box 65 (eC65 (a1.Pairs.getD x1_54.toNat api_Pair.z)), eR65 v9]⟩) (by kernel_rfl) ?_
                      refine goK hT 4 (K31 11111010011 1) ⟨93, [(2, .d (eL40 true a2)), (4, .ptr 0 0 0 0), (6, .own 3 2 0 v9.length), (52, .d (eL65 true a1.Pairs)), (53, .i (a1.Pairs.length : Int)), (54, .i x1_54)], [.box 42 (eC42 a1), .gone, .box 65 (eC65 (a1.Pairs.getD x1_54.toNat api_Pair.z)), eR65 v9]⟩ ?_
                      refine cutK [0, 3] ⟨93, [(2, .d (eL40 true a2)), (4, .ptr 0 0 0 0), (6, .own 1 2 0 v9.length), (52, .d (eL65 true a1.Pairs)), (53, .i (a1.Pairs.length : Int)), (54, .i x1_54)], [.box 42 (eC42 a1), eR65 v9]⟩ h0 ?_
                      exact Jj2 v9 H
                    · replace H := sF c20 H
                      rw [eqF c20]
                      refine goK hT 7 (K31 1111101001100101111 1) ⟨93, [(2, .d (eL40 true a2)), (4, .ptr 0 0 0 0), (6, .own 1 2 0 x1_r1.length), (9, .ptr 2 0 0 0), (52, .d (eL65 true a1.Pairs)), (53, .i (a1.Pairs.length : Int)), (54, .i x1_54), (81, .b (x1_54 == 0))], [.box 42 (eC42 a1), eR65 x1_r1, .box 65 (eC65 (a1.Pairs.getD x1_54.toNat api_Pair.z))]⟩ ?_
                      by_cases c22 : x1_54 = 0
                      · replace H := sT c22 H
                        rw [eqT c22]
                        refine goK hT 8 (K31 111110100110010111110 6) ⟨93, [(2, .d (eL40 true a2)), (4, .ptr 0 0 0 0), (52, .d (eL65 true a1.Pairs)), (53, .i (a1.Pairs.length : Int)), (54, .i x1_54), (84, .own 1 2 0 x1_r1.length), (86, .i ((a1.Pairs.getD x1_54.toNat api_Pair.z).Key)), (89, .i (IntKind.wrap .i64 (0 - ((a1.Pairs.getD x1_54.toNat api_Pair.z).Val))))], [.box 42 (eC42 a1), eR65 x1_r1, .box 65 (eC65 (a1.Pairs.getD x1_54.toNat api_Pair.z))]⟩ ?_
                        obtain ⟨v10, h23, H⟩ := sbC H
                        refine ak_callP (avs := [.own 1 2 0 x1_r1.length, .i ((a1.Pairs.getD x1_54.toNat api_Pair.z).Key), .i (IntKind.wrap .i64 (0 - ((a1.Pairs.getD x1_54.toNat api_Pair.z).Val)))]) (dst := some 90) (k' := (K31 111110100110010111110 7)) [2, 4, 52, 53, 54, 90] [1] hP enters_58 (table_move.says x1_r1 ((a1.Pairs.getD x1_54.toNat api_Pair.z).Key) (IntKind.wrap .i64 (0 - ((a1.Pairs.getD x1_54.toNat api_Pair.z).Val))) h23) (by kernel_rfl) (hands_one rfl rfl) (.cons (.same (.own 0 2 0 x1_r1.length)) (.cons (pass_d _) (.cons (pass_d _) .nil))) (st' := ⟨93, [(2, .d (eL40 true a2)), (4, .ptr 0 0 0 0), (52, .d (eL65 true a1.Pairs)), (53, .i (a1.Pairs.length : Int)), (54, .i x1_54), (90, .own 3 2 0 v10.length)], [.box 42 (eC42 a1), .gone, .box 65 (eC65 (a1.Pairs.getD x1_54.toNat api_Pair.z)), eR65 v10]⟩) (by kernel_rfl) ?_
                        refine goK hT 4 (K31 11111010011 1) ⟨93, [(2, .d (eL40 true a2)), (4, .ptr 0 0 0 0), (6, .own 3 2 0 v10.length), (52, .d (eL65 true a1.Pairs)), (53, .i (a1.Pairs.length : Int)), (54, .i x1_54)], [.box 42 (eC42 a1), .gone, .box 65 (eC65 (a1.Pairs.getD x1_54.toNat api_Pair.z)), eR65 v10]⟩ ?_
                        refine cutK [0, 3] ⟨93, [(2, .d (eL40 true a2)), (4, .ptr 0 0 0 0), (6, .own 1 2 0 v10.length), (52, .d (eL65 true a1.Pairs)), (53, .i (a1.Pairs.length : Int)), (54, .i x1_54)], [.box 42 (eC42 a1), eR65 v10]⟩ h0 ?_
                        exact Jj2 v10 H
                      · replace H := sF c22 H
                        rw [eqF c22]
                        refine goK hT 7 (K31 111110100110010111111 5) ⟨93, [(2, .d (eL40 true a2)), (4, .ptr 0 0 0 0), (52, .d (eL65 true a1.Pairs)), (53, .i (a1.Pairs.length : Int)), (54, .i x1_54), (59, .own 1 2 0 x1_r1.length), (61, .i ((a1.Pairs.getD x1_54.toNat api_Pair.z).Key)), (63, .i ((a1.Pairs.getD x1_54.toNat api_Pair.z).Val))], [.box 42 (eC42 a1), eR65 x1_r1, .box 65 (eC65 (a1.Pairs.getD x1_54.toNat api_Pair.z))]⟩ ?_
                        obtain ⟨v11, h24, H⟩ := sbC H
                        refine ak_callP (avs := [.own 1 2 0 x1_r1.length, .i ((a1.Pairs.getD x1_54.toNat api_Pair.z).Key), .i ((a1.Pairs.getD x1_54.toNat api_Pair.z).Val)]) (dst := some 64) (k' := (K31 111110100110010111111 6)) [2, 4, 52, 53, 54, 64] [1] hP enters_58 (table_move.says x1_r1 ((a1.Pairs.getD x1_54.toNat api_Pair.z).Key) ((a1.Pairs.getD x1_54.toNat api_Pair.z).Val) h24) (by kernel_rfl) (hands_one rfl rfl) (.cons (.same (.own 0 2 0 x1_r1.length)) (.cons (pass_d _) (.cons (pass_d _) .nil))) (st' := ⟨93, [(2, .d (eL40 true a2)), (4, .ptr 0 0 0 0), (52, .d (eL65 true a1.Pairs)), (53, .i (a1.Pairs.length : Int)), (54, .i x1_54), (64, .own 3 2 0 v11.length)], [.box 42 (eC42 a1), .gone, .box 65 (eC65 (a1.Pairs.getD x1_54.toNat api_Pair.z)), eR65 v11]⟩) (by kernel_rfl) ?_
                        refine goK hT 4 (K31 11111010011 1) ⟨93, [(2, .d (eL40 true a2)), (4, .ptr 0 0 0 0), (6, .own 3 2 0 v11.length), (52, .d (eL65 true a1.Pairs)), (53, .i (a1.Pairs.length : Int)), (54, .i x1_54)], [.box 42 (eC42 a1), .gone, .box 65 (eC65 (a1.Pairs.getD x1_54.toNat api_Pair.z)), eR65 v11]⟩ ?_
                        refine cutK [0, 3] ⟨93, [(2, .d (eL40 true a2)), (4, .ptr 0 0 0 0), (6, .own 1 2 0 v11.length), (52, .d (eL65 true a1.Pairs)), (53, .i (a1.Pairs.length : Int)), (54, .i x1_54)], [.box 42 (eC42 a1), eR65 v11]⟩ h0 ?_
                        exact Jj2 v11 H
                  · replace H := sF c19 H
                    rw [boF c19]
                    refine goK hT 4 (K31 11111010011 1) ⟨93, [(2, .d (eL40 true a2)), (4, .ptr 0 0 0 0), (6, .own 1 2 0 x1_r1.length), (52, .d (eL65 true a1.Pairs)), (53, .i (a1.Pairs.length : Int)), (54, .i x1_54)], [.box 42 (eC42 a1), eR65 x1_r1, .box 65 (eC65 (a1.Pairs.getD x1_54.toNat api_Pair.z))]⟩ ?_
                    refine cutK [0, 1] ⟨93, [(2, .d (eL40 true a2)), (4, .ptr 0 0 0 0), (6, .own 1 2 0 x1_r1.length), (52, .d (eL65 true a1.Pairs)), (53, .i (a1.Pairs.length : Int)), (54, .i x1_54)], [.box 42 (eC42 a1), eR65 x1_r1]⟩ h0 ?_
                    exact Jj2 x1_r1 H
                · replace H := sF c16 H
                  rw [decide_eq_false c16]
                  refine goK hT 8 (K31 111111 1) ⟨93, [(6, .own 1 2 0 x1_r1.length), (7, .b true)], [.box 42 (eC42 a1), eR65 x1_r1]⟩ ?_
                  obtain rfl := retC H
                  exact ak_ret hf hX (av := .tup [.own 1 2 0 x1_r1.length, .b true]) (by kernel_rfl) [1] (sel_of_eq (by kernel_rfl)) (by decide) (by rw [h0]; rfl) (by kernel_rfl) (fun _ h => all_cons (nr_vec api_Pair.nl) (fun _ h => all_nil h) h) (.tup (.cons (.own _ _ _ _) (.cons (.d (.v _)) .nil)))
          refine cutK [0, 1] ⟨93, [(2, .d (eL40 true a2)), (4, .ptr 0 0 0 0), (6, .own 1 2 0 a0.length), (52, .d (eL65 true a1.Pairs)), (53, .i (a1.Pairs.length : Int)), (54, .i 0)], [.box 42 (eC42 a1), eR65 a0]⟩ h0 ?_
          obtain ⟨n, H⟩ := loopC H
          exact (L n) 0 a0 H
  refine ak_callP (avs := [.d (eL65 t0 a0)]) (dst := some 11) (k' := (K31 1100 2)) [0, 2, 4, 11] [] hP enters_34 (table_Check.says (t0 := t0) a0 h1) (by kernel_rfl) (hands_none _) (.cons (pass_d _) .nil) (st' := ⟨93, [(0, .d (eL65 t0 a0)), (2, .d (eL40 true a2)), (4, .ptr 0 0 0 0), (11, .b v1)], [.box 42 (eC42 a1)]⟩) (by kernel_rfl) ?_
  refine goK hT 2 (K31 1100 4) ⟨93, [(0, .d (eL65 t0 a0)), (2, .d (eL40 true a2)), (4, .ptr 0 0 0 0), (13, .b (!v1))], [.box 42 (eC42 a1)]⟩ ?_
  by_cases c2 : v1 = true
  · replace H := iT c2 H
    rw [c2]
    refine goK hT 1 (K31 1100 5) ⟨93, [(0, .d (eL65 t0 a0)), (2, .d (eL40 true a2)), (4, .ptr 0 0 0 0), (13, .b false), (14, .d (eG42 a1))], [.box 42 (eC42 a1)]⟩ ?_
    obtain ⟨v2, h3, H⟩ := ibC H
    refine ak_callP (avs := [.d (eG42 a1)]) (dst := some 15) (k' := (K31 1100 6)) [0, 2, 4, 13, 15] [] hP enters_30 (mut_Check.says a1 h3) (by kernel_rfl) (hands_none _) (.cons (pass_d _) .nil) (st' := ⟨93, [(0, .d (eL65 t0 a0)), (2, .d (eL40 true a2)), (4, .ptr 0 0 0 0), (13, .b false), (15, .b v2)], [.box 42 (eC42 a1)]⟩) (by kernel_rfl) ?_
    refine goK hT 3 (K31 1100 9) ⟨93, [(0, .d (eL65 t0 a0)), (2, .d (eL40 true a2)), (4, .ptr 0 0 0 0), (18, .b (!v2))], [.box 42 (eC42 a1)]⟩ ?_
    by_cases c4 : v2 = true
    · replace H := iT c4 H
      rw [c4]
      refine goK hT 1 (K31 1100 10) ⟨93, [(0, .d (eL65 t0 a0)), (2, .d (eL40 true a2)), (4, .ptr 0 0 0 0), (18, .b false), (19, .d (eL40 true a2))], [.box 42 (eC42 a1)]⟩ ?_
      obtain ⟨v3, h5, H⟩ := ibC H
      refine ak_callP (avs := [.d (eL40 true a2)]) (dst := some 20) (k' := (K31 1100 11)) [0, 2, 4, 18, 20] [] hP enters_27 (span_Check.says (t0 := true) a2 h5) (by kernel_rfl) (hands_none _) (.cons (pass_d _) .nil) (st' := ⟨93, [(0, .d (eL65 t0 a0)), (2, .d (eL40 true a2)), (4, .ptr 0 0 0 0), (18, .b false), (20, .b v3)], [.box 42 (eC42 a1)]⟩) (by kernel_rfl) ?_
      refine goK hT 3 (K31 110 1) ⟨93, [(0, .d (eL65 t0 a0)), (2, .d (eL40 true a2)), (4, .ptr 0 0 0 0), (22, .b (!v3))], [.box 42 (eC42 a1)]⟩ ?_
      refine cutK [0] ⟨93, [(0, .d (eL65 t0 a0)), (2, .d (eL40 true a2)), (4, .ptr 0 0 0 0), (22, .b (!v3))], [.box 42 (eC42 a1)]⟩ h0 ?_
      exact Jj1 (!v3) H
    · replace H := iF c4 H
      rw [boF c4]
      refine goK hT 5 (K31 110 1) ⟨93, [(0, .d (eL65 t0 a0)), (2, .d (eL40 true a2)), (4, .ptr 0 0 0 0), (22, .b true)], [.box 42 (eC42 a1)]⟩ ?_
      refine cutK [0] ⟨93, [(0, .d (eL65 t0 a0)), (2, .d (eL40 true a2)), (4, .ptr 0 0 0 0), (22, .b true)], [.box 42 (eC42 a1)]⟩ h0 ?_
      exact Jj1 true H
  · replace H := iF c2 H
    rw [boF c2]
    refine goK hT 10 (K31 110 1) ⟨93, [(0, .d (eL65 t0 a0)), (2, .d (eL40 true a2)), (4, .ptr 0 0 0 0), (22, .b true)], [.box 42 (eC42 a1)]⟩ ?_
    refine cutK [0] ⟨93, [(0, .d (eL65 t0 a0)), (2, .d (eL40 true a2)), (4, .ptr 0 0 0 0), (22, .b true)], [.box 42 (eC42 a1)]⟩ h0 ?_
    exact Jj1 true H


theorem judge_Fold.says {t0 : Bool} (a0 : List api_Entry) (a1 : List api_Span) (a2 : Int) {r : List api_Pair} (H : judge_Fold a0 a1 a2 = some r) : Says Try.prog 12 [] [.d (eL54 t0 a0), .d (eL40 true a1), .i a2] [eR65 r] (.own 0 2 0 r.length) := by
  refine says_of Try.func12 rfl (nt := 41) rfl (Nat.le_of_ble_eq_true rfl) fun X hP h0 hX => ?_
  have hT : TabOk X.P T := hP ▸ tok
  have hf : X.P.funcs[12]? = some Try.f12 := hP ▸ Try.func12
  refine goK hT 8 (K12 1100 1) ⟨41, [(0, .d (eL54 t0 a0)), (1, .d (eL40 true a1)), (2, .i a2), (10, .d (eL40 true a1))], []⟩ ?_
  obtain ⟨v1, h1, H⟩ := ibC H
  have Jj1 : ∀ (y1_16 : Bool), (judge_Fold.j1 a0 a1 a2 y1_16) = some r → AK X 12 ((K12 110 1)) (Back X [eR65 r] (.own 0 2 0 r.length)) ⟨41, [(0, .d (eL54 t0 a0)), (1, .d (eL40 true a1)), (2, .i a2), (16, .b y1_16)], []⟩ := by
    intro y1_16 H
    by_cases c4 : y1_16 = true
    · replace H := iT c4 H
      rw [c4]
      refine goK hT 5 (K12 11010 1) ⟨41, [(6, .ns)], []⟩ ?_
      refine ak_nilS [6] 6 2 65 (vec api_Pair.e api_Pair.z []) (st' := ⟨41, [(6, .own 0 2 0 0)], [eR65 ([] : List api_Pair)]⟩) (by kernel_rfl) (by kernel_rfl) ?_
      obtain rfl := retC H
      exact ak_ret hf hX (av := .own 0 2 0 0) (by kernel_rfl) [0] (sel_of_eq (by kernel_rfl)) (by decide) (by rw [h0]; rfl) (by kernel_rfl) (fun _ h => all_cons (nr_vec api_Pair.nl) (fun _ h => all_nil h) h) (.own _ _ _ _)
    · replace H := iF c4 H
      rw [boF c4]
      refine goK hT 2 (K12 11 1) ⟨41, [(0, .d (eL54 t0 a0)), (1, .d (eL40 true a1)), (2, .i a2)], []⟩ ?_
      refine goK hT 13 (K12 1111010 0) ⟨41, [(1, .d (eL40 true a1)), (2, .i a2), (7, .ns), (17, .d (eL54 t0 a0)), (18, .i (a0.length : Int)), (19, .i 0)], []⟩ ?_
      refine ak_nilS [1, 2, 7, 17, 18, 19] 7 2 65 (vec api_Pair.e api_Pair.z []) (st' := ⟨41, [(1, .d (eL40 true a1)), (2, .i a2), (7, .own 0 2 0 0), (17, .d (eL54 t0 a0)), (18, .i (a0.length : Int)), (19, .i 0)], [eR65 ([] : List api_Pair)]⟩) (by kernel_rfl) (by kernel_rfl) ?_
      have L : ∀ n, (∀ (x1_19 : Int) (x1_r0 : List api_Pair), iter (judge_Fold.step a0 a1 a2) n (.l1 x1_19 x1_r0) = some r → AK X 12 ((K12 1111010 0)) (Back X [eR65 r] (.own 0 2 0 r.length)) ⟨41, [(1, .d (eL40 true a1)), (2, .i a2), (7, .own 0 2 0 x1_r0.length), (17, .d (eL54 t0 a0)), (18, .i (a0.length : Int)), (19, .i x1_19)], [eR65 x1_r0]⟩) := by
        intro n
        induction n with
        | zero => exact fun _ _ H => iter0 H
        | succ n ih =>
          · intro x1_19 x1_r0 H
            refine goK hT 5 (K12 111101001 0) ⟨41, [(1, .d (eL40 true a1)), (2, .i a2), (7, .own 0 2 0 x1_r0.length), (17, .d (eL54 t0 a0)), (18, .i (a0.length : Int)), (19, .i x1_19), (20, .b (decide (x1_19 < (a0.length : Int))))], [eR65 x1_r0]⟩ ?_
            by_cases c5 : x1_19 < (a0.length : Int)
            · replace H := sT c5 H
              rw [decide_eq_true c5]
              refine goK hT 2 (K12 111101001 1) ⟨41, [(1, .d (eL40 true a1)), (2, .i a2), (7, .own 0 2 0 x1_r0.length), (17, .d (eL54 t0 a0)), (18, .i (a0.length : Int)), (19, .i x1_19)], [eR65 x1_r0]⟩ ?_
              refine goK hT 4 (K12 1111010011000 0) ⟨41, [(1, .d (eL40 true a1)), (2, .i a2), (7, .own 0 2 0 x1_r0.length), (17, .d (eL54 t0 a0)), (18, .i (a0.length : Int)), (19, .i x1_19)], [eR65 x1_r0]⟩ ?_
              obtain ⟨h6, H⟩ := sC H
              have Jj2 : ∀ (y2_30 : Bool), stk (judge_Fold.j2 a0 a1 x1_19 x1_r0 y2_30) (iter (judge_Fold.step a0 a1 a2) n) = some r → AK X 12 ((K12 1111010011001 1)) (Back X [eR65 r] (.own 0 2 0 r.length)) ⟨41, [(1, .d (eL40 true a1)), (2, .i a2), (7, .own 0 2 0 x1_r0.length), (9, .ptr 1 0 0 0), (17, .d (eL54 t0 a0)), (18, .i (a0.length : Int)), (19, .i x1_19), (30, .b y2_30)], [eR65 x1_r0, .box 54 (eC54 (a0.getD x1_19.toNat api_Entry.z))]⟩ := by
                intro y2_30 H
                have Jj3 : ∀ (y3_r0 : List api_Pair), stk (judge_Fold.j3 x1_19 y3_r0) (iter (judge_Fold.step a0 a1 a2) n) = some r → AK X 12 ((K12 1111010011 1)) (Back X [eR65 r] (.own 0 2 0 r.length)) ⟨41, [(1, .d (eL40 true a1)), (2, .i a2), (7, .own 0 2 0 y3_r0.length), (17, .d (eL54 t0 a0)), (18, .i (a0.length : Int)), (19, .i x1_19)], [eR65 y3_r0]⟩ := by
                  intro y3_r0 H
                  refine goK hT 5 (K12 1111010 0) ⟨41, [(1, .d (eL40 true a1)), (2, .i a2), (7, .own 0 2 0 y3_r0.length), (17, .d (eL54 t0 a0)), (18, .i (a0.length : Int)), (19, .i (IntKind.wrap .i64 (x1_19 + 1)))], [eR65 y3_r0]⟩ ?_
                  refine cutK [0] ⟨41, [(1, .d (eL40 true a1)), (2, .i a2), (7, .own 0 2 0 y3_r0.length), (17, .d (eL54 t0 a0)), (18, .i (a0.length : Int)), (19, .i (IntKind.wrap .i64 (x1_19 + 1)))], [eR65 y3_r0]⟩ h0 ?_
                  exact ih (IntKind.wrap .i64 (x1_19 + 1)) y3_r0 H
                by_cases c8 : y2_30 = true
                · replace H := sT c8 H
                  rw [c8]
                  refine goK hT 6 (K12 111101001100110 4) ⟨41, [(1, .d (eL40 true a1)), (2, .i a2), (17, .d (eL54 t0 a0)), (18, .i (a0.length : Int)), (19, .i x1_19), (32, .own 0 2 0 x1_r0.length), (34, .d (eG42 ((a0.getD x1_19.toNat api_Entry.z).M))), (35, .d (eL40 true a1))], [eR65 x1_r0, .box 54 (eC54 (a0.getD x1_19.toNat api_Entry.z))]⟩ ?_
                  obtain ⟨v3, h9, H⟩ := sbC H
                  refine ak_callP (avs := [.own 0 2 0 x1_r0.length, .d (eG42 ((a0.getD x1_19.toNat api_Entry.z).M)), .d (eL40 true a1)]) (dst := some 36) (k' := (K12 111101001100110 5)) [1, 2, 17, 18, 19, 36] [] hP enters_31 (table_Apply.says (t0 := false) x1_r0 ((a0.getD x1_19.toNat api_Entry.z).M) a1 h9) (by kernel_rfl) (hands_none _) (.cons (.lend (ty := 65) (by kernel_rfl) rfl) (.cons (pass_d _) (.cons (pass_d _) .nil))) (st' := ⟨41, [(1, .d (eL40 true a1)), (2, .i a2), (17, .d (eL54 t0 a0)), (18, .i (a0.length : Int)), (19, .i x1_19), (36, .tup [.own 2 2 0 v3.1.length, .b v3.2])], [eR65 x1_r0, .box 54 (eC54 (a0.getD x1_19.toNat api_Entry.z)), eR65 v3.1]⟩) (by kernel_rfl) ?_
                  refine goK hT 6 (K12 1111010011 1) ⟨41, [(1, .d (eL40 true a1)), (2, .i a2), (7, .own 2 2 0 v3.1.length), (17, .d (eL54 t0 a0)), (18, .i (a0.length : Int)), (19, .i x1_19)], [eR65 x1_r0, .box 54 (eC54 (a0.getD x1_19.toNat api_Entry.z)), eR65 v3.1]⟩ ?_
                  refine cutK [2] ⟨41, [(1, .d (eL40 true a1)), (2, .i a2), (7, .own 0 2 0 v3.1.length), (17, .d (eL54 t0 a0)), (18, .i (a0.length : Int)), (19, .i x1_19)], [eR65 v3.1]⟩ h0 ?_
                  exact Jj3 v3.1 H
                · replace H := sF c8 H
                  rw [boF c8]
                  refine goK hT 3 (K12 1111010011 1) ⟨41, [(1, .d (eL40 true a1)), (2, .i a2), (7, .own 0 2 0 x1_r0.length), (17, .d (eL54 t0 a0)), (18, .i (a0.length : Int)), (19, .i x1_19)], [eR65 x1_r0, .box 54 (eC54 (a0.getD x1_19.toNat api_Entry.z))]⟩ ?_
                  refine cutK [0] ⟨41, [(1, .d (eL40 true a1)), (2, .i a2), (7, .own 0 2 0 x1_r0.length), (17, .d (eL54 t0 a0)), (18, .i (a0.length : Int)), (19, .i x1_19)], [eR65 x1_r0]⟩ h0 ?_
                  exact Jj3 x1_r0 H
              refine ak_idx hT [1, 2, 7, 17, 18, 19, 21] (i := x1_19) (n := (a0.length : Int)) h6.1 h6.2 (k' := (K12 1111010011000 1)) (st' := ⟨41, [(1, .d (eL40 true a1)), (2, .i a2), (7, .own 0 2 0 x1_r0.length), (17, .d (eL54 t0 a0)), (18, .i (a0.length : Int)), (19, .i x1_19), (21, .d (eP54 t0 a0 x1_19.toNat 0))], [eR65 x1_r0]⟩) (by kernel_rfl) ?_
              refine goK hT 9 (K12 11110100110010 3) ⟨41, [(1, .d (eL40 true a1)), (2, .i a2), (7, .own 0 2 0 x1_r0.length), (9, .ptr 1 0 0 0), (17, .d (eL54 t0 a0)), (18, .i (a0.length : Int)), (19, .i x1_19), (25, .b ((a0.getD x1_19.toNat api_Entry.z).Done))], [eR65 x1_r0, .box 54 (eC54 (a0.getD x1_19.toNat api_Entry.z))]⟩ ?_
              by_cases c7 : ((a0.getD x1_19.toNat api_Entry.z).Done) = true
              · replace H := sT c7 H
                rw [c7]
                refine goK hT 6 (K12 1111010011001 1) ⟨41, [(1, .d (eL40 true a1)), (2, .i a2), (7, .own 0 2 0 x1_r0.length), (9, .ptr 1 0 0 0), (17, .d (eL54 t0 a0)), (18, .i (a0.length : Int)), (19, .i x1_19), (30, .b (decide (((a0.getD x1_19.toNat api_Entry.z).Time) ≤ a2)))], [eR65 x1_r0, .box 54 (eC54 (a0.getD x1_19.toNat api_Entry.z))]⟩ ?_
                refine cutK [0, 1] ⟨41, [(1, .d (eL40 true a1)), (2, .i a2), (7, .own 0 2 0 x1_r0.length), (9, .ptr 1 0 0 0), (17, .d (eL54 t0 a0)), (18, .i (a0.length : Int)), (19, .i x1_19), (30, .b (decide (((a0.getD x1_19.toNat api_Entry.z).Time) ≤ a2)))], [eR65 x1_r0, .box 54 (eC54 (a0.getD x1_19.toNat api_Entry.z))]⟩ h0 ?_
                exact Jj2 (decide (((a0.getD x1_19.toNat api_Entry.z).Time) ≤ a2)) H
              · replace H := sF c7 H
                rw [boF c7]
                refine goK hT 6 (K12 1111010011001 1) ⟨41, [(1, .d (eL40 true a1)), (2, .i a2), (7, .own 0 2 0 x1_r0.length), (9, .ptr 1 0 0 0), (17, .d (eL54 t0 a0)), (18, .i (a0.length : Int)), (19, .i x1_19), (30, .b false)], [eR65 x1_r0, .box 54 (eC54 (a0.getD x1_19.toNat api_Entry.z))]⟩ ?_
                refine cutK [0, 1] ⟨41, [(1, .d (eL40 true a1)), (2, .i a2), (7, .own 0 2 0 x1_r0.length), (9, .ptr 1 0 0 0), (17, .d (eL54 t0 a0)), (18, .i (a0.length : Int)), (19, .i x1_19), (30, .b false)], [eR65 x1_r0, .box 54 (eC54 (a0.getD x1_19.toNat api_Entry.z))]⟩ h0 ?_
                exact Jj2 false H
            · replace H := sF c5 H
              rw [decide_eq_false c5]
              refine goK hT 7 (K12 11111 1) ⟨41, [(6, .own 0 2 0 x1_r0.length)], [eR65 x1_r0]⟩ ?_
              obtain rfl := retC H
              exact ak_ret hf hX (av := .own 0 2 0 x1_r0.length) (by kernel_rfl) [0] (sel_of_eq (by kernel_rfl)) (by decide) (by rw [h0]; rfl) (by kernel_rfl) (fun _ h => all_cons (nr_vec api_Pair.nl) (fun _ h => all_nil h) h) (.own _ _ _ _)
      refine cutK [0] ⟨41, [(1, .d (eL40 true a1)), (2, .i a2), (7, .own 0 2 0 ([] : List api_Pair).length), (17, .d (eL54 t0 a0)), (18, .i (a0.length : Int)), (19, .i 0)], [eR65 ([] : List api_Pair)]⟩ h0 ?_
      obtain ⟨n, H⟩ := loopC H
      exact (L n) 0 ([] : List api_Pair) H
  refine ak_callP (avs := [.d (eL40 true a1)]) (dst := some 11) (k' := (K12 1100 2)) [0, 1, 2, 11] [] hP enters_27 (span_Check.says (t0 := true) a1 h1) (by kernel_rfl) (hands_none _) (.cons (pass_d _) .nil) (st' := ⟨41, [(0, .d (eL54 t0 a0)), (1, .d (eL40 true a1)), (2, .i a2), (11, .b v1)], []⟩) (by kernel_rfl) ?_
  refine goK hT 2 (K12 1100 4) ⟨41, [(0, .d (eL54 t0 a0)), (1, .d (eL40 true a1)), (2, .i a2), (13, .b (!v1))], []⟩ ?_
  by_cases c2 : v1 = true
  · replace H := iT c2 H
    rw [c2]
    refine goK hT 1 (K12 1100 5) ⟨41, [(0, .d (eL54 t0 a0)), (1, .d (eL40 true a1)), (2, .i a2), (13, .b false), (14, .d (eL54 t0 a0))], []⟩ ?_
    obtain ⟨v2, h3, H⟩ := ibC H
    refine ak_callP (avs := [.d (eL54 t0 a0), .d (.fn 29 [])]) (dst := some 15) (k' := (K12 1100 6)) [0, 1, 2, 13, 15] [] hP enters_28 (slices_ContainsFunc_api_Entry.says (t0 := t0) (ff1 := 29) (cc1 := []) a0 (fun z0 => judge_Fold_1 z0) enters_29 (fun z0 r h => judge_Fold_1.says z0 h) h3) (by kernel_rfl) (hands_none _) (.cons (pass_d _) (.cons (pass_d _) .nil)) (st' := ⟨41, [(0, .d (eL54 t0 a0)), (1, .d (eL40 true a1)), (2, .i a2), (13, .b false), (15, .b v2)], []⟩) (by kernel_rfl) ?_
    refine goK hT 2 (K12 110 1) ⟨41, [(0, .d (eL54 t0 a0)), (1, .d (eL40 true a1)), (2, .i a2), (16, .b v2)], []⟩ ?_
    refine cutK [] ⟨41, [(0, .d (eL54 t0 a0)), (1, .d (eL40 true a1)), (2, .i a2), (16, .b v2)], []⟩ h0 ?_
    exact Jj1 v2 H
  · replace H := iF c2 H
    rw [boF c2]
    refine goK hT 4 (K12 110 1) ⟨41, [(0, .d (eL54 t0 a0)), (1, .d (eL40 true a1)), (2, .i a2), (16, .b true)], []⟩ ?_
    refine cutK [] ⟨41, [(0, .d (eL54 t0 a0)), (1, .d (eL40 true a1)), (2, .i a2), (16, .b true)], []⟩ h0 ?_
    exact Jj1 true H


theorem slices_IndexFunc_api_Mut.says {t0 : Bool} {ff1 : FuncId} {cc1 : List DV} (a0 : List api_Mut) (p1 : api_Mut → Option Bool) (he1 : Sy.Enters Try.prog ff1) (hp1 : ∀ (z0 : api_Mut) r, p1 z0 = some r → Says Try.prog ff1 [] ([.d (eG42 z0)] ++ List.map AV.d cc1) [] (.b r)) {r : Int} (H : slices_IndexFunc_api_Mut a0 p1 = some r) : Says Try.prog 64 [] [.d (eL42 t0 a0), .d (.fn ff1 cc1)] [] (.i r) := by
  refine says_of Try.func64 rfl (nt := 19) rfl (Nat.le_of_ble_eq_true rfl) fun X hP h0 hX => ?_
  have hT : TabOk X.P T := hP ▸ tok
  have hf : X.P.funcs[64]? = some Try.f64 := hP ▸ Try.func64
  refine goK hT 13 (K64 11010 0) ⟨19, [(0, .d (eL42 t0 a0)), (1, .d (.fn ff1 cc1)), (7, .i (a0.length : Int)), (8, .i 0)], []⟩ ?_
  have L : ∀ n, (∀ (x1_8 : Int), iter (slices_IndexFunc_api_Mut.step a0 p1) n (.l1 x1_8) = some r → AK X 64 ((K64 11010 0)) (Back X [] (.i r)) ⟨19, [(0, .d (eL42 t0 a0)), (1, .d (.fn ff1 cc1)), (7, .i (a0.length : Int)), (8, .i x1_8)], []⟩) := by
    intro n
    induction n with
    | zero => exact fun _ H => iter0 H
    | succ n ih =>
      · intro x1_8 H
        refine goK hT 5 (K64 1101001 0) ⟨19, [(0, .d (eL42 t0 a0)), (1, .d (.fn ff1 cc1)), (7, .i (a0.length : Int)), (8, .i x1_8), (9, .b (decide (x1_8 < (a0.length : Int))))], []⟩ ?_
        by_cases c1 : x1_8 < (a0.length : Int)
        · replace H := sT c1 H
          rw [decide_eq_true c1]
          refine goK hT 2 (K64 1101001 1) ⟨19, [(0, .d (eL42 t0 a0)), (1, .d (.fn ff1 cc1)), (7, .i (a0.length : Int)), (8, .i x1_8)], []⟩ ?_
          refine goK hT 12 (K64 110100110010 3) ⟨19, [(0, .d (eL42 t0 a0)), (1, .d (.fn ff1 cc1)), (5, .i x1_8), (7, .i (a0.length : Int)), (8, .i x1_8), (11, .d (.fn ff1 cc1)), (12, .d (eL42 t0 a0)), (13, .i x1_8)], []⟩ ?_
          obtain ⟨h2, H⟩ := sC H
          refine ak_idx hT [0, 1, 5, 7, 8, 11, 14] (i := x1_8) (n := (a0.length : Int)) h2.1 h2.2 (k' := (K64 110100110010 4)) (st' := ⟨19, [(0, .d (eL42 t0 a0)), (1, .d (.fn ff1 cc1)), (5, .i x1_8), (7, .i (a0.length : Int)), (8, .i x1_8), (11, .d (.fn ff1 cc1)), (14, .d (eP42 t0 a0 x1_8.toNat 0))], []⟩) (by kernel_rfl) ?_
          refine goK hT 1 (K64 110100110010 5) ⟨19, [(0, .d (eL42 t0 a0)), (1, .d (.fn ff1 cc1)), (5, .i x1_8), (7, .i (a0.length : Int)), (8, .i x1_8), (11, .d (.fn ff1 cc1)), (15, .d (eG42 (a0.getD x1_8.toNat api_Mut.z)))], []⟩ ?_
          obtain ⟨v1, h3, H⟩ := sbC H
          refine ak_callP (avs := [.d (eG42 (a0.getD x1_8.toNat api_Mut.z))] ++ List.map AV.d cc1) (dst := some 16) (k' := (K64 110100110010 6)) [0, 1, 5, 7, 8, 16] [] hP he1 (hp1 (a0.getD x1_8.toNat api_Mut.z) v1 h3) (by kernel_rfl) (hands_none _) (.cons (pass_d _) (passes_d _)) (st' := ⟨19, [(0, .d (eL42 t0 a0)), (1, .d (.fn ff1 cc1)), (5, .i x1_8), (7, .i (a0.length : Int)), (8, .i x1_8), (16, .b v1)], []⟩) (by kernel_rfl) ?_
          refine goK hT 1 (K64 11010011001 1) ⟨19, [(0, .d (eL42 t0 a0)), (1, .d (.fn ff1 cc1)), (5, .i x1_8), (7, .i (a0.length : Int)), (8, .i x1_8), (16, .b v1)], []⟩ ?_
          by_cases c4 : v1 = true
          · replace H := sT c4 H
            rw [c4]
            refine goK hT 6 (K64 1101001100110 1) ⟨19, [(4, .i x1_8)], []⟩ ?_
            obtain rfl := retC H
            exact ak_ret hf hX (av := .i x1_8) (by kernel_rfl) [] (sel_of_eq (by kernel_rfl)) (by decide) (by rw [h0]; rfl) (by kernel_rfl) (fun _ h => all_nil h) (.d (.v _))
          · replace H := sF c4 H
            rw [boF c4]
            refine goK hT 3 (K64 11010011 1) ⟨19, [(0, .d (eL42 t0 a0)), (1, .d (.fn ff1 cc1)), (7, .i (a0.length : Int)), (8, .i x1_8)], []⟩ ?_
            refine goK hT 5 (K64 11010 0) ⟨19, [(0, .d (eL42 t0 a0)), (1, .d (.fn ff1 cc1)), (7, .i (a0.length : Int)), (8, .i (IntKind.wrap .i64 (x1_8 + 1)))], []⟩ ?_
            refine cutK [] ⟨19, [(0, .d (eL42 t0 a0)), (1, .d (.fn ff1 cc1)), (7, .i (a0.length : Int)), (8, .i (IntKind.wrap .i64 (x1_8 + 1)))], []⟩ h0 ?_
            exact ih (IntKind.wrap .i64 (x1_8 + 1)) H
        · replace H := sF c1 H
          rw [decide_eq_false c1]
          refine goK hT 6 (K64 111 1) ⟨19, [(4, .i (-1))], []⟩ ?_
          obtain rfl := retC H
          exact ak_ret hf hX (av := .i (-1)) (by kernel_rfl) [] (sel_of_eq (by kernel_rfl)) (by decide) (by rw [h0]; rfl) (by kernel_rfl) (fun _ h => all_nil h) (.d (.v _))
  refine cutK [] ⟨19, [(0, .d (eL42 t0 a0)), (1, .d (.fn ff1 cc1)), (7, .i (a0.length : Int)), (8, .i 0)], []⟩ h0 ?_
  obtain ⟨n, H⟩ := loopC H
  exact (L n) 0 H


theorem slices_ContainsFunc_api_Mut.says {t0 : Bool} {ff1 : FuncId} {cc1 : List DV} (a0 : List api_Mut) (p1 : api_Mut → Option Bool) (he1 : Sy.Enters Try.prog ff1) (hp1 : ∀ (z0 : api_Mut) r, p1 z0 = some r → Says Try.prog ff1 [] ([.d (eG42 z0)] ++ List.map AV.d cc1) [] (.b r)) {r : Bool} (H : slices_ContainsFunc_api_Mut a0 p1 = some r) : Says Try.prog 35 [] [.d (eL42 t0 a0), .d (.fn ff1 cc1)] [] (.b r) := by
  refine says_of Try.func35 rfl (nt := 9) rfl (Nat.le_of_ble_eq_true rfl) fun X hP h0 hX => ?_
  have hT : TabOk X.P T := hP ▸ tok
  have hf : X.P.funcs[35]? = some Try.f35 := hP ▸ Try.func35
  refine goK hT 8 (K35 110 2) ⟨9, [(5, .d (eL42 t0 a0)), (6, .d (.fn ff1 cc1))], []⟩ ?_
  obtain ⟨v1, h1, H⟩ := ibC H
  refine ak_callP (avs := [.d (eL42 t0 a0), .d (.fn ff1 cc1)]) (dst := some 7) (k' := (K35 110 3)) [7] [] hP enters_64 (slices_IndexFunc_api_Mut.says (t0 := t0) (ff1 := ff1) (cc1 := cc1) a0 p1 he1 hp1 h1) (by kernel_rfl) (hands_none _) (.cons (pass_d _) (.cons (pass_d _) .nil)) (st' := ⟨9, [(7, .i v1)], []⟩) (by kernel_rfl) ?_
  refine goK hT 3 (K35 11 1) ⟨9, [(4, .b (decide (v1 ≥ 0)))], []⟩ ?_
  obtain rfl := retC H
  exact ak_ret hf hX (av := .b (decide (v1 ≥ 0))) (by kernel_rfl) [] (sel_of_eq (by kernel_rfl)) (by decide) (by rw [h0]; rfl) (by kernel_rfl) (fun _ h => all_nil h) (.d (.v _))


theorem judge_Onto_1.says (a0 : api_Mut) {r : Bool} (H : judge_Onto_1 a0 = some r) : Says Try.prog 36 [] [.d (eG42 a0)] [] (.b r) := by
  refine says_of Try.func36 rfl (nt := 6) rfl (Nat.le_of_ble_eq_true rfl) fun X hP h0 hX => ?_
  have hT : TabOk X.P T := hP ▸ tok
  have hf : X.P.funcs[36]? = some Try.f36 := hP ▸ Try.func36
  refine goK hT 8 (K36 110 1) ⟨6, [(3, .d (eG42 a0))], [.box 42 (eC42 a0)]⟩ ?_
  obtain ⟨v1, h1, H⟩ := ibC H
  refine ak_callP (avs := [.d (eG42 a0)]) (dst := some 4) (k' := (K36 110 2)) [4] [] hP enters_30 (mut_Check.says a0 h1) (by kernel_rfl) (hands_none _) (.cons (pass_d _) .nil) (st' := ⟨6, [(4, .b v1)], [.box 42 (eC42 a0)]⟩) (by kernel_rfl) ?_
  refine goK hT 3 (K36 11 1) ⟨6, [(2, .b (!v1))], [.box 42 (eC42 a0)]⟩ ?_
  obtain rfl := retC H
  exact ak_ret hf hX (av := .b (!v1)) (by kernel_rfl) [] (sel_of_eq (by kernel_rfl)) (by decide) (by rw [h0]; rfl) (by kernel_rfl) (fun _ h => all_nil h) (.d (.v _))


theorem judge_Onto.says {t0 : Bool} {t1 : Bool} (a0 : List api_Pair) (a1 : List api_Mut) (a2 : List api_Span) {r : List api_Pair} (H : judge_Onto a0 a1 a2 = some r) : Says Try.prog 17 [] [.d (eL65 t0 a0), .d (eL42 t1 a1), .d (eL40 true a2)] [eR65 r] (.own 0 2 0 r.length) := by
  refine says_of Try.func17 rfl (nt := 39) rfl (Nat.le_of_ble_eq_true rfl) fun X hP h0 hX => ?_
  have hT : TabOk X.P T := hP ▸ tok
  have hf : X.P.funcs[17]? = some Try.f17 := hP ▸ Try.func17
  refine goK hT 8 (K17 1100 1) ⟨39, [(0, .d (eL65 t0 a0)), (1, .d (eL42 t1 a1)), (2, .d (eL40 true a2)), (10, .d (eL65 t0 a0))], []⟩ ?_
  obtain ⟨v1, h1, H⟩ := ibC H
  have Jj1 : ∀ (y1_21 : Bool), (judge_Onto.j1 a0 a1 a2 y1_21) = some r → AK X 17 ((K17 110 1)) (Back X [eR65 r] (.own 0 2 0 r.length)) ⟨39, [(0, .d (eL65 t0 a0)), (1, .d (eL42 t1 a1)), (2, .d (eL40 true a2)), (21, .b y1_21)], []⟩ := by
    intro y1_21 H
    by_cases c6 : y1_21 = true
    · replace H := iT c6 H
      rw [c6]
      refine goK hT 5 (K17 11010 1) ⟨39, [(6, .ns)], []⟩ ?_
      refine ak_nilS [6] 6 2 65 (vec api_Pair.e api_Pair.z []) (st' := ⟨39, [(6, .own 0 2 0 0)], [eR65 ([] : List api_Pair)]⟩) (by kernel_rfl) (by kernel_rfl) ?_
      obtain rfl := retC H
      exact ak_ret hf hX (av := .own 0 2 0 0) (by kernel_rfl) [0] (sel_of_eq (by kernel_rfl)) (by decide) (by rw [h0]; rfl) (by kernel_rfl) (fun _ h => all_cons (nr_vec api_Pair.nl) (fun _ h => all_nil h) h) (.own _ _ _ _)
    · replace H := iF c6 H
      rw [boF c6]
      refine goK hT 2 (K17 11 1) ⟨39, [(0, .d (eL65 t0 a0)), (1, .d (eL42 t1 a1)), (2, .d (eL40 true a2))], []⟩ ?_
      refine goK hT 3 (K17 1110 1) ⟨39, [(1, .d (eL42 t1 a1)), (2, .d (eL40 true a2)), (22, .d (eL65 t0 a0))], []⟩ ?_
      obtain ⟨h7, H⟩ := iC H
      refine ak_callP (avs := [.d (eL65 t0 a0)]) (dst := some 23) (k' := (K17 1110 2)) [1, 2, 23] [] hP enters_37 (clone37 (tg := t0) a0 h7) (by kernel_rfl) (hands_none _) (.cons (pass_d _) .nil) (st' := ⟨39, [(1, .d (eL42 t1 a1)), (2, .d (eL40 true a2)), (23, .own 0 2 0 a0.length)], [eR65 a0]⟩) (by kernel_rfl) ?_
      refine goK hT 11 (K17 1111010 0) ⟨39, [(2, .d (eL40 true a2)), (7, .own 0 2 0 a0.length), (24, .d (eL42 t1 a1)), (25, .i (a1.length : Int)), (26, .i 0)], [eR65 a0]⟩ ?_
      have L : ∀ n, (∀ (x1_26 : Int) (x1_r0 : List api_Pair), iter (judge_Onto.step a1 a2) n (.l1 x1_26 x1_r0) = some r → AK X 17 ((K17 1111010 0)) (Back X [eR65 r] (.own 0 2 0 r.length)) ⟨39, [(2, .d (eL40 true a2)), (7, .own 0 2 0 x1_r0.length), (24, .d (eL42 t1 a1)), (25, .i (a1.length : Int)), (26, .i x1_26)], [eR65 x1_r0]⟩) := by
        intro n
        induction n with
        | zero => exact fun _ _ H => iter0 H
        | succ n ih =>
          · intro x1_26 x1_r0 H
            refine goK hT 5 (K17 111101001 0) ⟨39, [(2, .d (eL40 true a2)), (7, .own 0 2 0 x1_r0.length), (24, .d (eL42 t1 a1)), (25, .i (a1.length : Int)), (26, .i x1_26), (27, .b (decide (x1_26 < (a1.length : Int))))], [eR65 x1_r0]⟩ ?_
            by_cases c8 : x1_26 < (a1.length : Int)
            · replace H := sT c8 H
              rw [decide_eq_true c8]
              refine goK hT 2 (K17 111101001 1) ⟨39, [(2, .d (eL40 true a2)), (7, .own 0 2 0 x1_r0.length), (24, .d (eL42 t1 a1)), (25, .i (a1.length : Int)), (26, .i x1_26)], [eR65 x1_r0]⟩ ?_
              refine goK hT 4 (K17 1111010011000 0) ⟨39, [(2, .d (eL40 true a2)), (7, .own 0 2 0 x1_r0.length), (24, .d (eL42 t1 a1)), (25, .i (a1.length : Int)), (26, .i x1_26)], [eR65 x1_r0]⟩ ?_
              obtain ⟨h9, H⟩ := sC H
              refine ak_idx hT [2, 7, 24, 25, 26, 28] (i := x1_26) (n := (a1.length : Int)) h9.1 h9.2 (k' := (K17 1111010011000 1)) (st' := ⟨39, [(2, .d (eL40 true a2)), (7, .own 0 2 0 x1_r0.length), (24, .d (eL42 t1 a1)), (25, .i (a1.length : Int)), (26, .i x1_26), (28, .d (eP42 t1 a1 x1_26.toNat 0))], [eR65 x1_r0]⟩) (by kernel_rfl) ?_
              refine goK hT 8 (K17 1111010011001 3) ⟨39, [(2, .d (eL40 true a2)), (24, .d (eL42 t1 a1)), (25, .i (a1.length : Int)), (26, .i x1_26), (31, .own 0 2 0 x1_r0.length), (32, .d (eG42 (a1.getD x1_26.toNat api_Mut.z))), (33, .d (eL40 true a2))], [eR65 x1_r0, .box 42 (eC42 (a1.getD x1_26.toNat api_Mut.z))]⟩ ?_
              obtain ⟨v4, h10, H⟩ := sbC H
              refine ak_callP (avs := [.own 0 2 0 x1_r0.length, .d (eG42 (a1.getD x1_26.toNat api_Mut.z)), .d (eL40 true a2)]) (dst := some 34) (k' := (K17 1111010011001 4)) [2, 24, 25, 26, 34] [] hP enters_31 (table_Apply.says (t0 := false) x1_r0 (a1.getD x1_26.toNat api_Mut.z) a2 h10) (by kernel_rfl) (hands_none _) (.cons (.lend (ty := 65) (by kernel_rfl) rfl) (.cons (pass_d _) (.cons (pass_d _) .nil))) (st' := ⟨39, [(2, .d (eL40 true a2)), (24, .d (eL42 t1 a1)), (25, .i (a1.length : Int)), (26, .i x1_26), (34, .tup [.own 2 2 0 v4.1.length, .b v4.2])], [eR65 x1_r0, .box 42 (eC42 (a1.getD x1_26.toNat api_Mut.z)), eR65 v4.1]⟩) (by kernel_rfl) ?_
              refine goK hT 11 (K17 1111010 0) ⟨39, [(2, .d (eL40 true a2)), (7, .own 2 2 0 v4.1.length), (24, .d (eL42 t1 a1)), (25, .i (a1.length : Int)), (26, .i (IntKind.wrap .i64 (x1_26 + 1)))], [eR65 x1_r0, .box 42 (eC42 (a1.getD x1_26.toNat api_Mut.z)), eR65 v4.1]⟩ ?_
              refine cutK [2] ⟨39, [(2, .d (eL40 true a2)), (7, .own 0 2 0 v4.1.length), (24, .d (eL42 t1 a1)), (25, .i (a1.length : Int)), (26, .i (IntKind.wrap .i64 (x1_26 + 1)))], [eR65 v4.1]⟩ h0 ?_
              exact ih (IntKind.wrap .i64 (x1_26 + 1)) v4.1 H
            · replace H := sF c8 H
              rw [decide_eq_false c8]
              refine goK hT 7 (K17 11111 1) ⟨39, [(6, .own 0 2 0 x1_r0.length)], [eR65 x1_r0]⟩ ?_
              obtain rfl := retC H
              exact ak_ret hf hX (av := .own 0 2 0 x1_r0.length) (by kernel_rfl) [0] (sel_of_eq (by kernel_rfl)) (by decide) (by rw [h0]; rfl) (by kernel_rfl) (fun _ h => all_cons (nr_vec api_Pair.nl) (fun _ h => all_nil h) h) (.own _ _ _ _)
      refine cutK [0] ⟨39, [(2, .d (eL40 true a2)), (7, .own 0 2 0 a0.length), (24, .d (eL42 t1 a1)), (25, .i (a1.length : Int)), (26, .i 0)], [eR65 a0]⟩ h0 ?_
      obtain ⟨n, H⟩ := loopC H
      exact (L n) 0 a0 H
  refine ak_callP (avs := [.d (eL65 t0 a0)]) (dst := some 11) (k' := (K17 1100 2)) [0, 1, 2, 11] [] hP enters_34 (table_Check.says (t0 := t0) a0 h1) (by kernel_rfl) (hands_none _) (.cons (pass_d _) .nil) (st' := ⟨39, [(0, .d (eL65 t0 a0)), (1, .d (eL42 t1 a1)), (2, .d (eL40 true a2)), (11, .b v1)], []⟩) (by kernel_rfl) ?_
  refine goK hT 2 (K17 1100 4) ⟨39, [(0, .d (eL65 t0 a0)), (1, .d (eL42 t1 a1)), (2, .d (eL40 true a2)), (13, .b (!v1))], []⟩ ?_
  by_cases c2 : v1 = true
  · replace H := iT c2 H
    rw [c2]
    refine goK hT 1 (K17 1100 5) ⟨39, [(0, .d (eL65 t0 a0)), (1, .d (eL42 t1 a1)), (2, .d (eL40 true a2)), (13, .b false), (14, .d (eL40 true a2))], []⟩ ?_
    obtain ⟨v2, h3, H⟩ := ibC H
    refine ak_callP (avs := [.d (eL40 true a2)]) (dst := some 15) (k' := (K17 1100 6)) [0, 1, 2, 13, 15] [] hP enters_27 (span_Check.says (t0 := true) a2 h3) (by kernel_rfl) (hands_none _) (.cons (pass_d _) .nil) (st' := ⟨39, [(0, .d (eL65 t0 a0)), (1, .d (eL42 t1 a1)), (2, .d (eL40 true a2)), (13, .b false), (15, .b v2)], []⟩) (by kernel_rfl) ?_
    refine goK hT 3 (K17 1100 9) ⟨39, [(0, .d (eL65 t0 a0)), (1, .d (eL42 t1 a1)), (2, .d (eL40 true a2)), (18, .b (!v2))], []⟩ ?_
    by_cases c4 : v2 = true
    · replace H := iT c4 H
      rw [c4]
      refine goK hT 1 (K17 1100 10) ⟨39, [(0, .d (eL65 t0 a0)), (1, .d (eL42 t1 a1)), (2, .d (eL40 true a2)), (18, .b false), (19, .d (eL42 t1 a1))], []⟩ ?_
      obtain ⟨v3, h5, H⟩ := ibC H
      refine ak_callP (avs := [.d (eL42 t1 a1), .d (.fn 36 [])]) (dst := some 20) (k' := (K17 1100 11)) [0, 1, 2, 18, 20] [] hP enters_35 (slices_ContainsFunc_api_Mut.says (t0 := t1) (ff1 := 36) (cc1 := []) a1 (fun z0 => judge_Onto_1 z0) enters_36 (fun z0 r h => judge_Onto_1.says z0 h) h5) (by kernel_rfl) (hands_none _) (.cons (pass_d _) (.cons (pass_d _) .nil)) (st' := ⟨39, [(0, .d (eL65 t0 a0)), (1, .d (eL42 t1 a1)), (2, .d (eL40 true a2)), (18, .b false), (20, .b v3)], []⟩) (by kernel_rfl) ?_
      refine goK hT 2 (K17 110 1) ⟨39, [(0, .d (eL65 t0 a0)), (1, .d (eL42 t1 a1)), (2, .d (eL40 true a2)), (21, .b v3)], []⟩ ?_
      refine cutK [] ⟨39, [(0, .d (eL65 t0 a0)), (1, .d (eL42 t1 a1)), (2, .d (eL40 true a2)), (21, .b v3)], []⟩ h0 ?_
      exact Jj1 v3 H
    · replace H := iF c4 H
      rw [boF c4]
      refine goK hT 4 (K17 110 1) ⟨39, [(0, .d (eL65 t0 a0)), (1, .d (eL42 t1 a1)), (2, .d (eL40 true a2)), (21, .b true)], []⟩ ?_
      refine cutK [] ⟨39, [(0, .d (eL65 t0 a0)), (1, .d (eL42 t1 a1)), (2, .d (eL40 true a2)), (21, .b true)], []⟩ h0 ?_
      exact Jj1 true H
  · replace H := iF c2 H
    rw [boF c2]
    refine goK hT 9 (K17 110 1) ⟨39, [(0, .d (eL65 t0 a0)), (1, .d (eL42 t1 a1)), (2, .d (eL40 true a2)), (21, .b true)], []⟩ ?_
    refine cutK [] ⟨39, [(0, .d (eL65 t0 a0)), (1, .d (eL42 t1 a1)), (2, .d (eL40 true a2)), (21, .b true)], []⟩ h0 ?_
    exact Jj1 true H


theorem judge_Clients_1.says (a0 : api_Entry) (k0 : api_Entry) : Says Try.prog 39 [] [.d (eG54 a0), .d (.rop false 1 (fun _ => [.i k0.M.Client, .i k0.M.Seq, .i k0.M.Kind, eL65 true k0.M.Pairs, .i k0.M.Over.Lo, .i k0.M.Over.Hi, .i k0.M.Old, .i k0.Time, .b k0.Done]) 0 0)] [] (.b (judge_Clients_1 a0 k0)) := by
  obtain ⟨r, H⟩ : ∃ r, judge_Clients_1 a0 k0 = r := ⟨_, rfl⟩
  rw [H]
  refine says_of Try.func39 rfl (nt := 20) rfl (Nat.le_of_ble_eq_true rfl) fun X hP h0 hX => ?_
  have hT : TabOk X.P T := hP ▸ tok
  have hf : X.P.funcs[39]? = some Try.f39 := hP ▸ Try.func39
  have Jj1 : ∀ (y1_3 : Bool), (judge_Clients_1.j1 y1_3) = r → AK X 39 ((K39 11 1)) (Back X [] (.b r)) ⟨20, [(3, .b y1_3)], []⟩ := by
    intro y1_3 H
    obtain rfl := H
    exact ak_ret hf hX (av := .b y1_3) (by kernel_rfl) [] (sel_of_eq (by kernel_rfl)) (by decide) (by rw [h0]; rfl) (by kernel_rfl) (fun _ h => all_nil h) (.d (.v _))
  refine goK hT 15 (K39 110 8) ⟨20, [(1, .d (.rop false 1 (fun _ => [.i k0.M.Client, .i k0.M.Seq, .i k0.M.Kind, eL65 true k0.M.Pairs, .i k0.M.Over.Lo, .i k0.M.Over.Hi, .i k0.M.Old, .i k0.Time, .b k0.Done]) 0 0)), (2, .ptr 0 0 0 0), (11, .b (a0.M.Client == k0.M.Client))], [.box 54 (eC54 a0)]⟩ ?_
  by_cases c1 : a0.M.Client = k0.M.Client
  · replace H := iT c1 H
    rw [eqT c1]
    refine goK hT 10 (K39 11 1) ⟨20, [(3, .b (decide (a0.M.Seq ≥ k0.M.Seq)))], [.box 54 (eC54 a0)]⟩ ?_
    refine cutK [] ⟨20, [(3, .b (decide (a0.M.Seq ≥ k0.M.Seq)))], []⟩ h0 ?_
    exact Jj1 (decide (a0.M.Seq ≥ k0.M.Seq)) H
  · replace H := iF c1 H
    rw [eqF c1]
    refine goK hT 10 (K39 11 1) ⟨20, [(3, .b false)], [.box 54 (eC54 a0)]⟩ ?_
    refine cutK [] ⟨20, [(3, .b false)], []⟩ h0 ?_
    exact Jj1 false H


theorem judge_Clients.says {t0 : Bool} (a0 : List api_Entry) {r : Bool} (H : judge_Clients a0 = some r) : Says Try.prog 19 [] [.d (eL54 t0 a0)] [] (.b r) := by
  refine says_of Try.func19 rfl (nt := 18) rfl (Nat.le_of_ble_eq_true rfl) fun X hP h0 hX => ?_
  have hT : TabOk X.P T := hP ▸ tok
  have hf : X.P.funcs[19]? = some Try.f19 := hP ▸ Try.func19
  refine goK hT 13 (K19 11010 0) ⟨18, [(0, .d (eL54 t0 a0)), (5, .d (eL54 t0 a0)), (6, .i (a0.length : Int)), (7, .i 0)], []⟩ ?_
  have L : ∀ n, (∀ (x1_7 : Int), iter (judge_Clients.step a0) n (.l1 x1_7) = some r → AK X 19 ((K19 11010 0)) (Back X [] (.b r)) ⟨18, [(0, .d (eL54 t0 a0)), (5, .d (eL54 t0 a0)), (6, .i (a0.length : Int)), (7, .i x1_7)], []⟩) := by
    intro n
    induction n with
    | zero => exact fun _ H => iter0 H
    | succ n ih =>
      · intro x1_7 H
        refine goK hT 5 (K19 1101001 0) ⟨18, [(0, .d (eL54 t0 a0)), (5, .d (eL54 t0 a0)), (6, .i (a0.length : Int)), (7, .i x1_7), (8, .b (decide (x1_7 < (a0.length : Int))))], []⟩ ?_
        by_cases c1 : x1_7 < (a0.length : Int)
        · replace H := sT c1 H
          rw [decide_eq_true c1]
          refine goK hT 2 (K19 1101001 1) ⟨18, [(0, .d (eL54 t0 a0)), (5, .d (eL54 t0 a0)), (6, .i (a0.length : Int)), (7, .i x1_7)], []⟩ ?_
          refine goK hT 5 (K19 11010011000 1) ⟨18, [(0, .d (eL54 t0 a0)), (5, .d (eL54 t0 a0)), (6, .i (a0.length : Int)), (7, .i x1_7), (9, .i x1_7)], []⟩ ?_
          obtain ⟨h2, H⟩ := sC H
          refine ak_idx hT [0, 5, 6, 7, 9, 10] (i := x1_7) (n := (a0.length : Int)) h2.1 h2.2 (k' := (K19 11010011000 2)) (st' := ⟨18, [(0, .d (eL54 t0 a0)), (5, .d (eL54 t0 a0)), (6, .i (a0.length : Int)), (7, .i x1_7), (9, .i x1_7), (10, .d (eP54 t0 a0 x1_7.toNat 0))], []⟩) (by kernel_rfl) ?_
          refine goK hT 9 (K19 110100110010 2) ⟨18, [(0, .d (eL54 t0 a0)), (4, .ptr 0 0 0 0), (5, .d (eL54 t0 a0)), (6, .i (a0.length : Int)), (7, .i x1_7), (12, .d (eL54 t0 a0)), (13, .i x1_7)], [.box 54 (eC54 (a0.getD x1_7.toNat api_Entry.z))]⟩ ?_
          obtain ⟨h3, H⟩ := sC H
          refine ak_sliceL (tg := t0) (s := 9) (l := none) (h := (some (.i64, x1_7))) (dst := some 14) (k' := (K19 110100110010 3)) hT [0, 4, 5, 6, 7, 14] api_Entry.e api_Entry.z a0 (by kernel_rfl) h3 (fun _ => rfl) (st' := ⟨18, [(0, .d (eL54 t0 a0)), (4, .ptr 0 0 0 0), (5, .d (eL54 t0 a0)), (6, .i (a0.length : Int)), (7, .i x1_7), (14, .d (eL54 t0 ((a0.drop 0).take (x1_7.toNat - 0))))], [.box 54 (eC54 (a0.getD x1_7.toNat api_Entry.z))]⟩) (by kernel_rfl) ?_
          refine goK hT 1 (K19 110100110010 4) ⟨18, [(0, .d (eL54 t0 a0)), (5, .d (eL54 t0 a0)), (6, .i (a0.length : Int)), (7, .i x1_7), (14, .d (eL54 t0 ((a0.drop 0).take (x1_7.toNat - 0)))), (15, .fn 39 [.ptr 0 0 0 0])], [.box 54 (eC54 (a0.getD x1_7.toNat api_Entry.z))]⟩ ?_
          obtain ⟨v1, h4, H⟩ := sbC H
          refine ak_callP (avs := [.d (eL54 t0 ((a0.drop 0).take (x1_7.toNat - 0))), .fn 39 [.ptr 0 0 0 0]]) (dst := some 16) (k' := (K19 110100110010 5)) [0, 5, 6, 7, 16] [] hP enters_28 (slices_ContainsFunc_api_Entry.says (t0 := t0) (ff1 := 39) (cc1 := [.rop false 1 (fun _ => [.i (((a0.getD x1_7.toNat api_Entry.z).M).Client), .i (((a0.getD x1_7.toNat api_Entry.z).M).Seq), .i (((a0.getD x1_7.toNat api_Entry.z).M).Kind), eL65 true (((a0.getD x1_7.toNat api_Entry.z).M).Pairs), .i ((((a0.getD x1_7.toNat api_Entry.z).M).Over).Lo), .i ((((a0.getD x1_7.toNat api_Entry.z).M).Over).Hi), .i (((a0.getD x1_7.toNat api_Entry.z).M).Old), .i ((a0.getD x1_7.toNat api_Entry.z).Time), .b ((a0.getD x1_7.toNat api_Entry.z).Done)]) 0 0]) ((a0.drop 0).take (x1_7.toNat - 0)) (fun z0 => some (judge_Clients_1 z0 (a0.getD x1_7.toNat api_Entry.z))) enters_39 (fun z0 r h => by obtain rfl := retC h; exact judge_Clients_1.says z0 (a0.getD x1_7.toNat api_Entry.z)) h4) (by kernel_rfl) (hands_none _) (.cons (pass_d _) (.cons (.fn 39 (.cons (.look (ty := 54) (cs := [.i (((a0.getD x1_7.toNat api_Entry.z).M).Client), .i (((a0.getD x1_7.toNat api_Entry.z).M).Seq), .i (((a0.getD x1_7.toNat api_Entry.z).M).Kind), eL65 true (((a0.getD x1_7.toNat api_Entry.z).M).Pairs), .i ((((a0.getD x1_7.toNat api_Entry.z).M).Over).Lo), .i ((((a0.getD x1_7.toNat api_Entry.z).M).Over).Hi), .i (((a0.getD x1_7.toNat api_Entry.z).M).Old), .i ((a0.getD x1_7.toNat api_Entry.z).Time), .b ((a0.getD x1_7.toNat api_Entry.z).Done)]) (by kernel_rfl) rfl) .nil)) .nil)) (st' := ⟨18, [(0, .d (eL54 t0 a0)), (5, .d (eL54 t0 a0)), (6, .i (a0.length : Int)), (7, .i x1_7), (16, .b v1)], [.box 54 (eC54 (a0.getD x1_7.toNat api_Entry.z))]⟩) (by kernel_rfl) ?_
          refine goK hT 1 (K19 11010011001 1) ⟨18, [(0, .d (eL54 t0 a0)), (5, .d (eL54 t0 a0)), (6, .i (a0.length : Int)), (7, .i x1_7), (16, .b v1)], [.box 54 (eC54 (a0.getD x1_7.toNat api_Entry.z))]⟩ ?_
          by_cases c5 : v1 = true
          · replace H := sT c5 H
            rw [c5]
            refine goK hT 5 (K19 1101001100110 1) ⟨18, [(2, .b false)], [.box 54 (eC54 (a0.getD x1_7.toNat api_Entry.z))]⟩ ?_
            obtain rfl := retC H
            exact ak_ret hf hX (av := .b false) (by kernel_rfl) [] (sel_of_eq (by kernel_rfl)) (by decide) (by rw [h0]; rfl) (by kernel_rfl) (fun _ h => all_nil h) (.d (.v _))
          · replace H := sF c5 H
            rw [boF c5]
            refine goK hT 3 (K19 11010011 1) ⟨18, [(0, .d (eL54 t0 a0)), (5, .d (eL54 t0 a0)), (6, .i (a0.length : Int)), (7, .i x1_7)], [.box 54 (eC54 (a0.getD x1_7.toNat api_Entry.z))]⟩ ?_
            refine goK hT 5 (K19 11010 0) ⟨18, [(0, .d (eL54 t0 a0)), (5, .d (eL54 t0 a0)), (6, .i (a0.length : Int)), (7, .i (IntKind.wrap .i64 (x1_7 + 1)))], [.box 54 (eC54 (a0.getD x1_7.toNat api_Entry.z))]⟩ ?_
            refine cutK [] ⟨18, [(0, .d (eL54 t0 a0)), (5, .d (eL54 t0 a0)), (6, .i (a0.length : Int)), (7, .i (IntKind.wrap .i64 (x1_7 + 1)))], []⟩ h0 ?_
            exact ih (IntKind.wrap .i64 (x1_7 + 1)) H
        · replace H := sF c1 H
          rw [decide_eq_false c1]
          refine goK hT 6 (K19 111 1) ⟨18, [(2, .b true)], []⟩ ?_
          obtain rfl := retC H
          exact ak_ret hf hX (av := .b true) (by kernel_rfl) [] (sel_of_eq (by kernel_rfl)) (by decide) (by rw [h0]; rfl) (by kernel_rfl) (fun _ h => all_nil h) (.d (.v _))
  refine cutK [] ⟨18, [(0, .d (eL54 t0 a0)), (5, .d (eL54 t0 a0)), (6, .i (a0.length : Int)), (7, .i 0)], []⟩ h0 ?_
  obtain ⟨n, H⟩ := loopC H
  exact (L n) 0 H


theorem splicelaw15_awake.says {r : Bool} (H : splicelaw15_awake = some r) : Says Try.prog 9 [] [] [] (.b r) := by
  refine says_of Try.func9 rfl (nt := 62) rfl (Nat.le_of_ble_eq_true rfl) fun X hP h0 hX => ?_
  have hT : TabOk X.P T := hP ▸ tok
  have hf : X.P.funcs[9]? = some Try.f9 := hP ▸ Try.func9
  refine goK hT 6 (K9 110 0) ⟨62, [], []⟩ ?_
  refine ak_callP (avs := [.i 1, .i 5, .i 1]) (dst := some 6) (k' := (K9 110 1)) [6] [] hP enters_26 (splicelaw15_one.says 1 5 1) (by kernel_rfl) (hands_none _) (.cons (pass_d _) (.cons (pass_d _) (.cons (pass_d _) .nil))) (st' := ⟨62, [(6, .d (eG42 (splicelaw15_one 1 5 1)))], []⟩) (by kernel_rfl) ?_
  obtain ⟨v1, h1, H⟩ := idC H
  rw [← h1]
  refine goK hT 1 (K9 110 2) ⟨62, [(7, .d (.agg [.i v1.Client, .i v1.Seq, .i v1.Kind, eL65 true v1.Pairs, .i ((v1.Over).Lo), .i ((v1.Over).Hi), .i v1.Old, .i 3, .b true]))], []⟩ ?_
  refine ak_callP (avs := [.i 3, .i 5, .i 2]) (dst := some 8) (k' := (K9 110 3)) [7, 8] [] hP enters_26 (splicelaw15_one.says 3 5 2) (by kernel_rfl) (hands_none _) (.cons (pass_d _) (.cons (pass_d _) (.cons (pass_d _) .nil))) (st' := ⟨62, [(7, .d (.agg [.i v1.Client, .i v1.Seq, .i v1.Kind, eL65 true v1.Pairs, .i ((v1.Over).Lo), .i ((v1.Over).Hi), .i v1.Old, .i 3, .b true])), (8, .d (eG42 (splicelaw15_one 3 5 2)))], []⟩) (by kernel_rfl) ?_
  obtain ⟨v2, h2, H⟩ := idC H
  rw [← h2]
  refine goK hT 14 (K9 11110 2) ⟨62, [(1, .own 0 9 0 2), (2, .own 1 2 0 1), (13, .own 0 9 0 2), (14, .own 1 2 0 1)], [.flat false 9 54 2 (fun j => [[.i v1.Client, .i v1.Seq, .i v1.Kind, eL65 true v1.Pairs, .i ((v1.Over).Lo), .i ((v1.Over).Hi), .i v1.Old, .i 3, .b true], [.i v2.Client, .i v2.Seq, .i v2.Kind, eL65 true v2.Pairs, .i ((v2.Over).Lo), .i ((v2.Over).Hi), .i v2.Old, .i 4, .b true]].getD j []), .flat false 2 40 1 (fun j => [[.i 0, .i 9]].getD j [])]⟩ ?_
  refine ak_row 0 (kk := 9) (fz := false) (ty := 54) (n := ([(⟨(⟨v1.Client, v1.Seq, v1.Kind, v1.Pairs, (v1.Over), v1.Old⟩ : api_Mut), 3, true⟩ : api_Entry), (⟨(⟨v2.Client, v2.Seq, v2.Kind, v2.Pairs, (v2.Over), v2.Old⟩ : api_Mut), 4, true⟩ : api_Entry)] : List api_Entry).length) (vec api_Entry.e api_Entry.z ([(⟨(⟨v1.Client, v1.Seq, v1.Kind, v1.Pairs, (v1.Over), v1.Old⟩ : api_Mut), 3, true⟩ : api_Entry), (⟨(⟨v2.Client, v2.Seq, v2.Kind, v2.Pairs, (v2.Over), v2.Old⟩ : api_Mut), 4, true⟩ : api_Entry)] : List api_Entry)) (by kernel_rfl) vec_lit (st' := ⟨62, [(1, .own 0 9 0 (([(⟨(⟨v1.Client, v1.Seq, v1.Kind, v1.Pairs, (v1.Over), v1.Old⟩ : api_Mut), 3, true⟩ : api_Entry), (⟨(⟨v2.Client, v2.Seq, v2.Kind, v2.Pairs, (v2.Over), v2.Old⟩ : api_Mut), 4, true⟩ : api_Entry)] : List api_Entry).length)), (2, .own 1 2 0 1), (13, .own 0 9 0 (([(⟨(⟨v1.Client, v1.Seq, v1.Kind, v1.Pairs, (v1.Over), v1.Old⟩ : api_Mut), 3, true⟩ : api_Entry), (⟨(⟨v2.Client, v2.Seq, v2.Kind, v2.Pairs, (v2.Over), v2.Old⟩ : api_Mut), 4, true⟩ : api_Entry)] : List api_Entry).length)), (14, .own 1 2 0 1)], [eR54 ([(⟨(⟨v1.Client, v1.Seq, v1.Kind, v1.Pairs, (v1.Over), v1.Old⟩ : api_Mut), 3, true⟩ : api_Entry), (⟨(⟨v2.Client, v2.Seq, v2.Kind, v2.Pairs, (v2.Over), v2.Old⟩ : api_Mut), 4, true⟩ : api_Entry)] : List api_Entry), .flat false 2 40 1 (fun j => [[.i 0, .i 9]].getD j [])]⟩) (by kernel_rfl) ?_
  refine ak_row 1 (kk := 2) (fz := false) (ty := 40) (n := ([(⟨0, 9⟩ : api_Span)] : List api_Span).length) (vec api_Span.e api_Span.z ([(⟨0, 9⟩ : api_Span)] : List api_Span)) (by kernel_rfl) vec_lit (st' := ⟨62, [(1, .own 0 9 0 (([(⟨(⟨v1.Client, v1.Seq, v1.Kind, v1.Pairs, (v1.Over), v1.Old⟩ : api_Mut), 3, true⟩ : api_Entry), (⟨(⟨v2.Client, v2.Seq, v2.Kind, v2.Pairs, (v2.Over), v2.Old⟩ : api_Mut), 4, true⟩ : api_Entry)] : List api_Entry).length)), (2, .own 1 2 0 (([(⟨0, 9⟩ : api_Span)] : List api_Span).length)), (13, .own 0 9 0 (([(⟨(⟨v1.Client, v1.Seq, v1.Kind, v1.Pairs, (v1.Over), v1.Old⟩ : api_Mut), 3, true⟩ : api_Entry), (⟨(⟨v2.Client, v2.Seq, v2.Kind, v2.Pairs, (v2.Over), v2.Old⟩ : api_Mut), 4, true⟩ : api_Entry)] : List api_Entry).length)), (14, .own 1 2 0 (([(⟨0, 9⟩ : api_Span)] : List api_Span).length))], [eR54 ([(⟨(⟨v1.Client, v1.Seq, v1.Kind, v1.Pairs, (v1.Over), v1.Old⟩ : api_Mut), 3, true⟩ : api_Entry), (⟨(⟨v2.Client, v2.Seq, v2.Kind, v2.Pairs, (v2.Over), v2.Old⟩ : api_Mut), 4, true⟩ : api_Entry)] : List api_Entry), eR40 ([(⟨0, 9⟩ : api_Span)] : List api_Span)]⟩) (by kernel_rfl) ?_
  refine ak_freeze 1 (kk := 2) (n := ([(⟨0, 9⟩ : api_Span)] : List api_Span).length) (ty := 40) (g := vec api_Span.e api_Span.z ([(⟨0, 9⟩ : api_Span)] : List api_Span)) (by kernel_rfl) (st' := ⟨62, [(1, .own 0 9 0 (([(⟨(⟨v1.Client, v1.Seq, v1.Kind, v1.Pairs, (v1.Over), v1.Old⟩ : api_Mut), 3, true⟩ : api_Entry), (⟨(⟨v2.Client, v2.Seq, v2.Kind, v2.Pairs, (v2.Over), v2.Old⟩ : api_Mut), 4, true⟩ : api_Entry)] : List api_Entry).length)), (2, .own 1 2 0 (([(⟨0, 9⟩ : api_Span)] : List api_Span).length)), (13, .own 0 9 0 (([(⟨(⟨v1.Client, v1.Seq, v1.Kind, v1.Pairs, (v1.Over), v1.Old⟩ : api_Mut), 3, true⟩ : api_Entry), (⟨(⟨v2.Client, v2.Seq, v2.Kind, v2.Pairs, (v2.Over), v2.Old⟩ : api_Mut), 4, true⟩ : api_Entry)] : List api_Entry).length)), (14, .own 1 2 0 (([(⟨0, 9⟩ : api_Span)] : List api_Span).length))], [eR54 ([(⟨(⟨v1.Client, v1.Seq, v1.Kind, v1.Pairs, (v1.Over), v1.Old⟩ : api_Mut), 3, true⟩ : api_Entry), (⟨(⟨v2.Client, v2.Seq, v2.Kind, v2.Pairs, (v2.Over), v2.Old⟩ : api_Mut), 4, true⟩ : api_Entry)] : List api_Entry), eF40 ([(⟨0, 9⟩ : api_Span)] : List api_Span)]⟩) (by kernel_rfl) ?_
  obtain ⟨v3, h3, H⟩ := ibC H
  refine ak_callP (avs := [.own 0 9 0 (([(⟨(⟨v1.Client, v1.Seq, v1.Kind, v1.Pairs, (v1.Over), v1.Old⟩ : api_Mut), 3, true⟩ : api_Entry), (⟨(⟨v2.Client, v2.Seq, v2.Kind, v2.Pairs, (v2.Over), v2.Old⟩ : api_Mut), 4, true⟩ : api_Entry)] : List api_Entry).length), .own 1 2 0 (([(⟨0, 9⟩ : api_Span)] : List api_Span).length), .i 3]) (dst := some 15) (k' := (K9 11110 3)) [1, 2, 15] [] hP enters_12 (judge_Fold.says (t0 := false) ([(⟨(⟨v1.Client, v1.Seq, v1.Kind, v1.Pairs, (v1.Over), v1.Old⟩ : api_Mut), 3, true⟩ : api_Entry), (⟨(⟨v2.Client, v2.Seq, v2.Kind, v2.Pairs, (v2.Over), v2.Old⟩ : api_Mut), 4, true⟩ : api_Entry)] : List api_Entry) ([(⟨0, 9⟩ : api_Span)] : List api_Span) 3 h3) (by kernel_rfl) (hands_none _) (.cons (.lend (ty := 54) (by kernel_rfl) rfl) (.cons (.lend (ty := 40) (by kernel_rfl) rfl) (.cons (pass_d _) .nil))) (st' := ⟨62, [(1, .own 0 9 0 (([(⟨(⟨v1.Client, v1.Seq, v1.Kind, v1.Pairs, (v1.Over), v1.Old⟩ : api_Mut), 3, true⟩ : api_Entry), (⟨(⟨v2.Client, v2.Seq, v2.Kind, v2.Pairs, (v2.Over), v2.Old⟩ : api_Mut), 4, true⟩ : api_Entry)] : List api_Entry).length)), (2, .own 1 2 0 (([(⟨0, 9⟩ : api_Span)] : List api_Span).length)), (15, .own 2 2 0 v3.length)], [eR54 ([(⟨(⟨v1.Client, v1.Seq, v1.Kind, v1.Pairs, (v1.Over), v1.Old⟩ : api_Mut), 3, true⟩ : api_Entry), (⟨(⟨v2.Client, v2.Seq, v2.Kind, v2.Pairs, (v2.Over), v2.Old⟩ : api_Mut), 4, true⟩ : api_Entry)] : List api_Entry), eF40 ([(⟨0, 9⟩ : api_Span)] : List api_Span), eR65 v3]⟩) (by kernel_rfl) ?_
  refine goK hT 2 (K9 11110 5) ⟨62, [(1, .own 0 9 0 (([(⟨(⟨v1.Client, v1.Seq, v1.Kind, v1.Pairs, (v1.Over), v1.Old⟩ : api_Mut), 3, true⟩ : api_Entry), (⟨(⟨v2.Client, v2.Seq, v2.Kind, v2.Pairs, (v2.Over), v2.Old⟩ : api_Mut), 4, true⟩ : api_Entry)] : List api_Entry).length)), (2, .own 1 2 0 (([(⟨0, 9⟩ : api_Span)] : List api_Span).length)), (15, .own 2 2 0 v3.length), (16, .own 0 9 0 (([(⟨(⟨v1.Client, v1.Seq, v1.Kind, v1.Pairs, (v1.Over), v1.Old⟩ : api_Mut), 3, true⟩ : api_Entry), (⟨(⟨v2.Client, v2.Seq, v2.Kind, v2.Pairs, (v2.Over), v2.Old⟩ : api_Mut), 4, true⟩ : api_Entry)] : List api_Entry).length)), (17, .own 1 2 0 (([(⟨0, 9⟩ : api_Span)] : List api_Span).length))], [eR54 ([(⟨(⟨v1.Client, v1.Seq, v1.Kind, v1.Pairs, (v1.Over), v1.Old⟩ : api_Mut), 3, true⟩ : api_Entry), (⟨(⟨v2.Client, v2.Seq, v2.Kind, v2.Pairs, (v2.Over), v2.Old⟩ : api_Mut), 4, true⟩ : api_Entry)] : List api_Entry), eF40 ([(⟨0, 9⟩ : api_Span)] : List api_Span), eR65 v3]⟩ ?_
  obtain ⟨v4, h4, H⟩ := ibC H
  refine ak_callP (avs := [.own 0 9 0 (([(⟨(⟨v1.Client, v1.Seq, v1.Kind, v1.Pairs, (v1.Over), v1.Old⟩ : api_Mut), 3, true⟩ : api_Entry), (⟨(⟨v2.Client, v2.Seq, v2.Kind, v2.Pairs, (v2.Over), v2.Old⟩ : api_Mut), 4, true⟩ : api_Entry)] : List api_Entry).length), .own 1 2 0 (([(⟨0, 9⟩ : api_Span)] : List api_Span).length), .i 9]) (dst := some 18) (k' := (K9 11110 6)) [1, 2, 15, 18] [] hP enters_12 (judge_Fold.says (t0 := false) ([(⟨(⟨v1.Client, v1.Seq, v1.Kind, v1.Pairs, (v1.Over), v1.Old⟩ : api_Mut), 3, true⟩ : api_Entry), (⟨(⟨v2.Client, v2.Seq, v2.Kind, v2.Pairs, (v2.Over), v2.Old⟩ : api_Mut), 4, true⟩ : api_Entry)] : List api_Entry) ([(⟨0, 9⟩ : api_Span)] : List api_Span) 9 h4) (by kernel_rfl) (hands_none _) (.cons (.lend (ty := 54) (by kernel_rfl) rfl) (.cons (.lend (ty := 40) (by kernel_rfl) rfl) (.cons (pass_d _) .nil))) (st' := ⟨62, [(1, .own 0 9 0 (([(⟨(⟨v1.Client, v1.Seq, v1.Kind, v1.Pairs, (v1.Over), v1.Old⟩ : api_Mut), 3, true⟩ : api_Entry), (⟨(⟨v2.Client, v2.Seq, v2.Kind, v2.Pairs, (v2.Over), v2.Old⟩ : api_Mut), 4, true⟩ : api_Entry)] : List api_Entry).length)), (2, .own 1 2 0 (([(⟨0, 9⟩ : api_Span)] : List api_Span).length)), (15, .own 2 2 0 v3.length), (18, .own 3 2 0 v4.length)], [eR54 ([(⟨(⟨v1.Client, v1.Seq, v1.Kind, v1.Pairs, (v1.Over), v1.Old⟩ : api_Mut), 3, true⟩ : api_Entry), (⟨(⟨v2.Client, v2.Seq, v2.Kind, v2.Pairs, (v2.Over), v2.Old⟩ : api_Mut), 4, true⟩ : api_Entry)] : List api_Entry), eF40 ([(⟨0, 9⟩ : api_Span)] : List api_Span), eR65 v3, eR65 v4]⟩) (by kernel_rfl) ?_
  refine goK hT 6 (K9 111110 1) ⟨62, [(1, .own 0 9 0 (([(⟨(⟨v1.Client, v1.Seq, v1.Kind, v1.Pairs, (v1.Over), v1.Old⟩ : api_Mut), 3, true⟩ : api_Entry), (⟨(⟨v2.Client, v2.Seq, v2.Kind, v2.Pairs, (v2.Over), v2.Old⟩ : api_Mut), 4, true⟩ : api_Entry)] : List api_Entry).length)), (2, .own 1 2 0 (([(⟨0, 9⟩ : api_Span)] : List api_Span).length)), (3, .own 2 2 0 v3.length), (4, .own 3 2 0 v4.length), (19, .own 3 2 0 v4.length)], [eR54 ([(⟨(⟨v1.Client, v1.Seq, v1.Kind, v1.Pairs, (v1.Over), v1.Old⟩ : api_Mut), 3, true⟩ : api_Entry), (⟨(⟨v2.Client, v2.Seq, v2.Kind, v2.Pairs, (v2.Over), v2.Old⟩ : api_Mut), 4, true⟩ : api_Entry)] : List api_Entry), eF40 ([(⟨0, 9⟩ : api_Span)] : List api_Span), eR65 v3, eR65 v4]⟩ ?_
  refine ak_callP (avs := [.i 3, .i 5, .i 4]) (dst := some 20) (k' := (K9 111110 2)) [1, 2, 3, 4, 19, 20] [] hP enters_26 (splicelaw15_one.says 3 5 4) (by kernel_rfl) (hands_none _) (.cons (pass_d _) (.cons (pass_d _) (.cons (pass_d _) .nil))) (st' := ⟨62, [(1, .own 0 9 0 (([(⟨(⟨v1.Client, v1.Seq, v1.Kind, v1.Pairs, (v1.Over), v1.Old⟩ : api_Mut), 3, true⟩ : api_Entry), (⟨(⟨v2.Client, v2.Seq, v2.Kind, v2.Pairs, (v2.Over), v2.Old⟩ : api_Mut), 4, true⟩ : api_Entry)] : List api_Entry).length)), (2, .own 1 2 0 (([(⟨0, 9⟩ : api_Span)] : List api_Span).length)), (3, .own 2 2 0 v3.length), (4, .own 3 2 0 v4.length), (19, .own 3 2 0 v4.length), (20, .d (eG42 (splicelaw15_one 3 5 4)))], [eR54 ([(⟨(⟨v1.Client, v1.Seq, v1.Kind, v1.Pairs, (v1.Over), v1.Old⟩ : api_Mut), 3, true⟩ : api_Entry), (⟨(⟨v2.Client, v2.Seq, v2.Kind, v2.Pairs, (v2.Over), v2.Old⟩ : api_Mut), 4, true⟩ : api_Entry)] : List api_Entry), eF40 ([(⟨0, 9⟩ : api_Span)] : List api_Span), eR65 v3, eR65 v4]⟩) (by kernel_rfl) ?_
  obtain ⟨v5, h5, H⟩ := idC H
  rw [← h5]
  refine goK hT 2 (K9 111110 4) ⟨62, [(1, .own 0 9 0 (([(⟨(⟨v1.Client, v1.Seq, v1.Kind, v1.Pairs, (v1.Over), v1.Old⟩ : api_Mut), 3, true⟩ : api_Entry), (⟨(⟨v2.Client, v2.Seq, v2.Kind, v2.Pairs, (v2.Over), v2.Old⟩ : api_Mut), 4, true⟩ : api_Entry)] : List api_Entry).length)), (3, .own 2 2 0 v3.length), (4, .own 3 2 0 v4.length), (19, .own 3 2 0 v4.length), (21, .own 4 7 0 1), (22, .own 1 2 0 (([(⟨0, 9⟩ : api_Span)] : List api_Span).length))], [eR54 ([(⟨(⟨v1.Client, v1.Seq, v1.Kind, v1.Pairs, (v1.Over), v1.Old⟩ : api_Mut), 3, true⟩ : api_Entry), (⟨(⟨v2.Client, v2.Seq, v2.Kind, v2.Pairs, (v2.Over), v2.Old⟩ : api_Mut), 4, true⟩ : api_Entry)] : List api_Entry), eF40 ([(⟨0, 9⟩ : api_Span)] : List api_Span), eR65 v3, eR65 v4, .flat false 7 42 1 (fun j => [api_Mut.e v5].getD j [])]⟩ ?_
  refine ak_row 4 (kk := 7) (fz := false) (ty := 42) (n := ([v5] : List api_Mut).length) (vec api_Mut.e api_Mut.z ([v5] : List api_Mut)) (by kernel_rfl) vec_lit (st' := ⟨62, [(1, .own 0 9 0 (([(⟨(⟨v1.Client, v1.Seq, v1.Kind, v1.Pairs, (v1.Over), v1.Old⟩ : api_Mut), 3, true⟩ : api_Entry), (⟨(⟨v2.Client, v2.Seq, v2.Kind, v2.Pairs, (v2.Over), v2.Old⟩ : api_Mut), 4, true⟩ : api_Entry)] : List api_Entry).length)), (3, .own 2 2 0 v3.length), (4, .own 3 2 0 v4.length), (19, .own 3 2 0 v4.length), (21, .own 4 7 0 (([v5] : List api_Mut).length)), (22, .own 1 2 0 (([(⟨0, 9⟩ : api_Span)] : List api_Span).length))], [eR54 ([(⟨(⟨v1.Client, v1.Seq, v1.Kind, v1.Pairs, (v1.Over), v1.Old⟩ : api_Mut), 3, true⟩ : api_Entry), (⟨(⟨v2.Client, v2.Seq, v2.Kind, v2.Pairs, (v2.Over), v2.Old⟩ : api_Mut), 4, true⟩ : api_Entry)] : List api_Entry), eF40 ([(⟨0, 9⟩ : api_Span)] : List api_Span), eR65 v3, eR65 v4, eR42 ([v5] : List api_Mut)]⟩) (by kernel_rfl) ?_
  obtain ⟨v6, h6, H⟩ := ibC H
  have Jj1 : ∀ (y1_0 : Bool), (splicelaw15_awake.j1 y1_0) = some r → AK X 9 ((K9 111111 1)) (Back X [] (.b r)) ⟨62, [(0, .b y1_0)], []⟩ := by
    intro y1_0 H
    obtain rfl := retC H
    exact ak_ret hf hX (av := .b y1_0) (by kernel_rfl) [] (sel_of_eq (by kernel_rfl)) (by decide) (by rw [h0]; rfl) (by kernel_rfl) (fun _ h => all_nil h) (.d (.v _))
  refine ak_callP (avs := [.own 3 2 0 v4.length, .own 4 7 0 (([v5] : List api_Mut).length), .own 1 2 0 (([(⟨0, 9⟩ : api_Span)] : List api_Span).length)]) (dst := some 23) (k' := (K9 111110 5)) [1, 3, 4, 23] [] hP enters_17 (judge_Onto.says (t0 := false) (t1 := false) v4 ([v5] : List api_Mut) ([(⟨0, 9⟩ : api_Span)] : List api_Span) h6) (by kernel_rfl) (hands_none _) (.cons (.lend (ty := 65) (by kernel_rfl) rfl) (.cons (.lend (ty := 42) (by kernel_rfl) rfl) (.cons (.lend (ty := 40) (by kernel_rfl) rfl) .nil))) (st' := ⟨62, [(1, .own 0 9 0 (([(⟨(⟨v1.Client, v1.Seq, v1.Kind, v1.Pairs, (v1.Over), v1.Old⟩ : api_Mut), 3, true⟩ : api_Entry), (⟨(⟨v2.Client, v2.Seq, v2.Kind, v2.Pairs, (v2.Over), v2.Old⟩ : api_Mut), 4, true⟩ : api_Entry)] : List api_Entry).length)), (3, .own 2 2 0 v3.length), (4, .own 3 2 0 v4.length), (23, .own 5 2 0 v6.length)], [eR54 ([(⟨(⟨v1.Client, v1.Seq, v1.Kind, v1.Pairs, (v1.Over), v1.Old⟩ : api_Mut), 3, true⟩ : api_Entry), (⟨(⟨v2.Client, v2.Seq, v2.Kind, v2.Pairs, (v2.Over), v2.Old⟩ : api_Mut), 4, true⟩ : api_Entry)] : List api_Entry), eF40 ([(⟨0, 9⟩ : api_Span)] : List api_Span), eR65 v3, eR65 v4, eR42 ([v5] : List api_Mut), eR65 v6]⟩) (by kernel_rfl) ?_
  refine goK hT 8 (K9 1111110 4) ⟨62, [(1, .own 0 9 0 (([(⟨(⟨v1.Client, v1.Seq, v1.Kind, v1.Pairs, (v1.Over), v1.Old⟩ : api_Mut), 3, true⟩ : api_Entry), (⟨(⟨v2.Client, v2.Seq, v2.Kind, v2.Pairs, (v2.Over), v2.Old⟩ : api_Mut), 4, true⟩ : api_Entry)] : List api_Entry).length)), (3, .own 2 2 0 v3.length), (4, .own 3 2 0 v4.length), (5, .own 5 2 0 v6.length), (27, .b ((v3.length : Int) == 1))], [eR54 ([(⟨(⟨v1.Client, v1.Seq, v1.Kind, v1.Pairs, (v1.Over), v1.Old⟩ : api_Mut), 3, true⟩ : api_Entry), (⟨(⟨v2.Client, v2.Seq, v2.Kind, v2.Pairs, (v2.Over), v2.Old⟩ : api_Mut), 4, true⟩ : api_Entry)] : List api_Entry), eF40 ([(⟨0, 9⟩ : api_Span)] : List api_Span), eR65 v3, eR65 v4, eR42 ([v5] : List api_Mut), eR65 v6]⟩ ?_
  by_cases c7 : (v3.length : Int) = 1
  · replace H := iT c7 H
    rw [eqT c7]
    refine goK hT 1 (K9 1111110 5) ⟨62, [(1, .own 0 9 0 (([(⟨(⟨v1.Client, v1.Seq, v1.Kind, v1.Pairs, (v1.Over), v1.Old⟩ : api_Mut), 3, true⟩ : api_Entry), (⟨(⟨v2.Client, v2.Seq, v2.Kind, v2.Pairs, (v2.Over), v2.Old⟩ : api_Mut), 4, true⟩ : api_Entry)] : List api_Entry).length)), (4, .own 3 2 0 v4.length), (5, .own 5 2 0 v6.length), (27, .b true), (28, .own 2 2 0 v3.length)], [eR54 ([(⟨(⟨v1.Client, v1.Seq, v1.Kind, v1.Pairs, (v1.Over), v1.Old⟩ : api_Mut), 3, true⟩ : api_Entry), (⟨(⟨v2.Client, v2.Seq, v2.Kind, v2.Pairs, (v2.Over), v2.Old⟩ : api_Mut), 4, true⟩ : api_Entry)] : List api_Entry), eF40 ([(⟨0, 9⟩ : api_Span)] : List api_Span), eR65 v3, eR65 v4, eR42 ([v5] : List api_Mut), eR65 v6]⟩ ?_
    obtain ⟨h8, H⟩ := iC H
    refine ak_idx hT [1, 4, 5, 27, 29] (i := 0) (n := (v3.length : Int)) h8.1 h8.2 (k' := (K9 1111110 6)) (st' := ⟨62, [(1, .own 0 9 0 (([(⟨(⟨v1.Client, v1.Seq, v1.Kind, v1.Pairs, (v1.Over), v1.Old⟩ : api_Mut), 3, true⟩ : api_Entry), (⟨(⟨v2.Client, v2.Seq, v2.Kind, v2.Pairs, (v2.Over), v2.Old⟩ : api_Mut), 4, true⟩ : api_Entry)] : List api_Entry).length)), (4, .own 3 2 0 v4.length), (5, .own 5 2 0 v6.length), (27, .b true), (29, .ptr 2 2 0 0)], [eR54 ([(⟨(⟨v1.Client, v1.Seq, v1.Kind, v1.Pairs, (v1.Over), v1.Old⟩ : api_Mut), 3, true⟩ : api_Entry), (⟨(⟨v2.Client, v2.Seq, v2.Kind, v2.Pairs, (v2.Over), v2.Old⟩ : api_Mut), 4, true⟩ : api_Entry)] : List api_Entry), eF40 ([(⟨0, 9⟩ : api_Span)] : List api_Span), eR65 v3, eR65 v4, eR42 ([v5] : List api_Mut), eR65 v6]⟩) (by kernel_rfl) ?_
    refine goK hT 1 (K9 1111110 7) ⟨62, [(1, .own 0 9 0 (([(⟨(⟨v1.Client, v1.Seq, v1.Kind, v1.Pairs, (v1.Over), v1.Old⟩ : api_Mut), 3, true⟩ : api_Entry), (⟨(⟨v2.Client, v2.Seq, v2.Kind, v2.Pairs, (v2.Over), v2.Old⟩ : api_Mut), 4, true⟩ : api_Entry)] : List api_Entry).length)), (4, .own 3 2 0 v4.length), (5, .own 5 2 0 v6.length), (27, .b true), (30, .ptr 2 2 0 1)], [eR54 ([(⟨(⟨v1.Client, v1.Seq, v1.Kind, v1.Pairs, (v1.Over), v1.Old⟩ : api_Mut), 3, true⟩ : api_Entry), (⟨(⟨v2.Client, v2.Seq, v2.Kind, v2.Pairs, (v2.Over), v2.Old⟩ : api_Mut), 4, true⟩ : api_Entry)] : List api_Entry), eF40 ([(⟨0, 9⟩ : api_Span)] : List api_Span), eR65 v3, eR65 v4, eR42 ([v5] : List api_Mut), eR65 v6]⟩ ?_
    refine ak_ld hT [1, 4, 5, 27, 31] (i := 0) (n := v3.length) (by omega) (k' := (K9 1111110 8)) (st' := ⟨62, [(1, .own 0 9 0 (([(⟨(⟨v1.Client, v1.Seq, v1.Kind, v1.Pairs, (v1.Over), v1.Old⟩ : api_Mut), 3, true⟩ : api_Entry), (⟨(⟨v2.Client, v2.Seq, v2.Kind, v2.Pairs, (v2.Over), v2.Old⟩ : api_Mut), 4, true⟩ : api_Entry)] : List api_Entry).length)), (4, .own 3 2 0 v4.length), (5, .own 5 2 0 v6.length), (27, .b true), (31, .i ((v3.getD 0 api_Pair.z).Val))], [eR54 ([(⟨(⟨v1.Client, v1.Seq, v1.Kind, v1.Pairs, (v1.Over), v1.Old⟩ : api_Mut), 3, true⟩ : api_Entry), (⟨(⟨v2.Client, v2.Seq, v2.Kind, v2.Pairs, (v2.Over), v2.Old⟩ : api_Mut), 4, true⟩ : api_Entry)] : List api_Entry), eF40 ([(⟨0, 9⟩ : api_Span)] : List api_Span), eR65 v3, eR65 v4, eR42 ([v5] : List api_Mut), eR65 v6]⟩) (by kernel_rfl) ?_
    refine goK hT 3 (K9 1111110 11) ⟨62, [(1, .own 0 9 0 (([(⟨(⟨v1.Client, v1.Seq, v1.Kind, v1.Pairs, (v1.Over), v1.Old⟩ : api_Mut), 3, true⟩ : api_Entry), (⟨(⟨v2.Client, v2.Seq, v2.Kind, v2.Pairs, (v2.Over), v2.Old⟩ : api_Mut), 4, true⟩ : api_Entry)] : List api_Entry).length)), (4, .own 3 2 0 v4.length), (5, .own 5 2 0 v6.length), (34, .b (((v3.getD 0 api_Pair.z).Val) == 1))], [eR54 ([(⟨(⟨v1.Client, v1.Seq, v1.Kind, v1.Pairs, (v1.Over), v1.Old⟩ : api_Mut), 3, true⟩ : api_Entry), (⟨(⟨v2.Client, v2.Seq, v2.Kind, v2.Pairs, (v2.Over), v2.Old⟩ : api_Mut), 4, true⟩ : api_Entry)] : List api_Entry), eF40 ([(⟨0, 9⟩ : api_Span)] : List api_Span), eR65 v3, eR65 v4, eR42 ([v5] : List api_Mut), eR65 v6]⟩ ?_
    by_cases c9 : ((v3.getD 0 api_Pair.z).Val) = 1
    · replace H := iT c9 H
      rw [eqT c9]
      refine goK hT 5 (K9 1111110 16) ⟨62, [(1, .own 0 9 0 (([(⟨(⟨v1.Client, v1.Seq, v1.Kind, v1.Pairs, (v1.Over), v1.Old⟩ : api_Mut), 3, true⟩ : api_Entry), (⟨(⟨v2.Client, v2.Seq, v2.Kind, v2.Pairs, (v2.Over), v2.Old⟩ : api_Mut), 4, true⟩ : api_Entry)] : List api_Entry).length)), (4, .own 3 2 0 v4.length), (5, .own 5 2 0 v6.length), (39, .b ((v4.length : Int) == 1))], [eR54 ([(⟨(⟨v1.Client, v1.Seq, v1.Kind, v1.Pairs, (v1.Over), v1.Old⟩ : api_Mut), 3, true⟩ : api_Entry), (⟨(⟨v2.Client, v2.Seq, v2.Kind, v2.Pairs, (v2.Over), v2.Old⟩ : api_Mut), 4, true⟩ : api_Entry)] : List api_Entry), eF40 ([(⟨0, 9⟩ : api_Span)] : List api_Span), eR65 v3, eR65 v4, eR42 ([v5] : List api_Mut), eR65 v6]⟩ ?_
      by_cases c10 : (v4.length : Int) = 1
      · replace H := iT c10 H
        rw [eqT c10]
        refine goK hT 1 (K9 1111110 17) ⟨62, [(1, .own 0 9 0 (([(⟨(⟨v1.Client, v1.Seq, v1.Kind, v1.Pairs, (v1.Over), v1.Old⟩ : api_Mut), 3, true⟩ : api_Entry), (⟨(⟨v2.Client, v2.Seq, v2.Kind, v2.Pairs, (v2.Over), v2.Old⟩ : api_Mut), 4, true⟩ : api_Entry)] : List api_Entry).length)), (5, .own 5 2 0 v6.length), (39, .b true), (40, .own 3 2 0 v4.length)], [eR54 ([(⟨(⟨v1.Client, v1.Seq, v1.Kind, v1.Pairs, (v1.Over), v1.Old⟩ : api_Mut), 3, true⟩ : api_Entry), (⟨(⟨v2.Client, v2.Seq, v2.Kind, v2.Pairs, (v2.Over), v2.Old⟩ : api_Mut), 4, true⟩ : api_Entry)] : List api_Entry), eF40 ([(⟨0, 9⟩ : api_Span)] : List api_Span), eR65 v3, eR65 v4, eR42 ([v5] : List api_Mut), eR65 v6]⟩ ?_
        obtain ⟨h11, H⟩ := iC H
        refine ak_idx hT [1, 5, 39, 41] (i := 0) (n := (v4.length : Int)) h11.1 h11.2 (k' := (K9 1111110 18)) (st' := ⟨62, [(1, .own 0 9 0 (([(⟨(⟨v1.Client, v1.Seq, v1.Kind, v1.Pairs, (v1.Over), v1.Old⟩ : api_Mut), 3, true⟩ : api_Entry), (⟨(⟨v2.Client, v2.Seq, v2.Kind, v2.Pairs, (v2.Over), v2.Old⟩ : api_Mut), 4, true⟩ : api_Entry)] : List api_Entry).length)), (5, .own 5 2 0 v6.length), (39, .b true), (41, .ptr 3 2 0 0)], [eR54 ([(⟨(⟨v1.Client, v1.Seq, v1.Kind, v1.Pairs, (v1.Over), v1.Old⟩ : api_Mut), 3, true⟩ : api_Entry), (⟨(⟨v2.Client, v2.Seq, v2.Kind, v2.Pairs, (v2.Over), v2.Old⟩ : api_Mut), 4, true⟩ : api_Entry)] : List api_Entry), eF40 ([(⟨0, 9⟩ : api_Span)] : List api_Span), eR65 v3, eR65 v4, eR42 ([v5] : List api_Mut), eR65 v6]⟩) (by kernel_rfl) ?_
        refine goK hT 1 (K9 1111110 19) ⟨62, [(1, .own 0 9 0 (([(⟨(⟨v1.Client, v1.Seq, v1.Kind, v1.Pairs, (v1.Over), v1.Old⟩ : api_Mut), 3, true⟩ : api_Entry), (⟨(⟨v2.Client, v2.Seq, v2.Kind, v2.Pairs, (v2.Over), v2.Old⟩ : api_Mut), 4, true⟩ : api_Entry)] : List api_Entry).length)), (5, .own 5 2 0 v6.length), (39, .b true), (42, .ptr 3 2 0 1)], [eR54 ([(⟨(⟨v1.Client, v1.Seq, v1.Kind, v1.Pairs, (v1.Over), v1.Old⟩ : api_Mut), 3, true⟩ : api_Entry), (⟨(⟨v2.Client, v2.Seq, v2.Kind, v2.Pairs, (v2.Over), v2.Old⟩ : api_Mut), 4, true⟩ : api_Entry)] : List api_Entry), eF40 ([(⟨0, 9⟩ : api_Span)] : List api_Span), eR65 v3, eR65 v4, eR42 ([v5] : List api_Mut), eR65 v6]⟩ ?_
        refine ak_ld hT [1, 5, 39, 43] (i := 0) (n := v4.length) (by omega) (k' := (K9 1111110 20)) (st' := ⟨62, [(1, .own 0 9 0 (([(⟨(⟨v1.Client, v1.Seq, v1.Kind, v1.Pairs, (v1.Over), v1.Old⟩ : api_Mut), 3, true⟩ : api_Entry), (⟨(⟨v2.Client, v2.Seq, v2.Kind, v2.Pairs, (v2.Over), v2.Old⟩ : api_Mut), 4, true⟩ : api_Entry)] : List api_Entry).length)), (5, .own 5 2 0 v6.length), (39, .b true), (43, .i ((v4.getD 0 api_Pair.z).Val))], [eR54 ([(⟨(⟨v1.Client, v1.Seq, v1.Kind, v1.Pairs, (v1.Over), v1.Old⟩ : api_Mut), 3, true⟩ : api_Entry), (⟨(⟨v2.Client, v2.Seq, v2.Kind, v2.Pairs, (v2.Over), v2.Old⟩ : api_Mut), 4, true⟩ : api_Entry)] : List api_Entry), eF40 ([(⟨0, 9⟩ : api_Span)] : List api_Span), eR65 v3, eR65 v4, eR42 ([v5] : List api_Mut), eR65 v6]⟩) (by kernel_rfl) ?_
        refine goK hT 3 (K9 1111110 23) ⟨62, [(1, .own 0 9 0 (([(⟨(⟨v1.Client, v1.Seq, v1.Kind, v1.Pairs, (v1.Over), v1.Old⟩ : api_Mut), 3, true⟩ : api_Entry), (⟨(⟨v2.Client, v2.Seq, v2.Kind, v2.Pairs, (v2.Over), v2.Old⟩ : api_Mut), 4, true⟩ : api_Entry)] : List api_Entry).length)), (5, .own 5 2 0 v6.length), (46, .b (((v4.getD 0 api_Pair.z).Val) == 3))], [eR54 ([(⟨(⟨v1.Client, v1.Seq, v1.Kind, v1.Pairs, (v1.Over), v1.Old⟩ : api_Mut), 3, true⟩ : api_Entry), (⟨(⟨v2.Client, v2.Seq, v2.Kind, v2.Pairs, (v2.Over), v2.Old⟩ : api_Mut), 4, true⟩ : api_Entry)] : List api_Entry), eF40 ([(⟨0, 9⟩ : api_Span)] : List api_Span), eR65 v3, eR65 v4, eR42 ([v5] : List api_Mut), eR65 v6]⟩ ?_
        by_cases c12 : ((v4.getD 0 api_Pair.z).Val) = 3
        · replace H := iT c12 H
          rw [eqT c12]
          refine goK hT 5 (K9 1111110 28) ⟨62, [(1, .own 0 9 0 (([(⟨(⟨v1.Client, v1.Seq, v1.Kind, v1.Pairs, (v1.Over), v1.Old⟩ : api_Mut), 3, true⟩ : api_Entry), (⟨(⟨v2.Client, v2.Seq, v2.Kind, v2.Pairs, (v2.Over), v2.Old⟩ : api_Mut), 4, true⟩ : api_Entry)] : List api_Entry).length)), (5, .own 5 2 0 v6.length), (51, .b ((v6.length : Int) == 1))], [eR54 ([(⟨(⟨v1.Client, v1.Seq, v1.Kind, v1.Pairs, (v1.Over), v1.Old⟩ : api_Mut), 3, true⟩ : api_Entry), (⟨(⟨v2.Client, v2.Seq, v2.Kind, v2.Pairs, (v2.Over), v2.Old⟩ : api_Mut), 4, true⟩ : api_Entry)] : List api_Entry), eF40 ([(⟨0, 9⟩ : api_Span)] : List api_Span), eR65 v3, eR65 v4, eR42 ([v5] : List api_Mut), eR65 v6]⟩ ?_
          by_cases c13 : (v6.length : Int) = 1
          · replace H := iT c13 H
            rw [eqT c13]
            refine goK hT 1 (K9 1111110 29) ⟨62, [(1, .own 0 9 0 (([(⟨(⟨v1.Client, v1.Seq, v1.Kind, v1.Pairs, (v1.Over), v1.Old⟩ : api_Mut), 3, true⟩ : api_Entry), (⟨(⟨v2.Client, v2.Seq, v2.Kind, v2.Pairs, (v2.Over), v2.Old⟩ : api_Mut), 4, true⟩ : api_Entry)] : List api_Entry).length)), (51, .b true), (52, .own 5 2 0 v6.length)], [eR54 ([(⟨(⟨v1.Client, v1.Seq, v1.Kind, v1.Pairs, (v1.Over), v1.Old⟩ : api_Mut), 3, true⟩ : api_Entry), (⟨(⟨v2.Client, v2.Seq, v2.Kind, v2.Pairs, (v2.Over), v2.Old⟩ : api_Mut), 4, true⟩ : api_Entry)] : List api_Entry), eF40 ([(⟨0, 9⟩ : api_Span)] : List api_Span), eR65 v3, eR65 v4, eR42 ([v5] : List api_Mut), eR65 v6]⟩ ?_
            obtain ⟨h14, H⟩ := iC H
            refine ak_idx hT [1, 51, 53] (i := 0) (n := (v6.length : Int)) h14.1 h14.2 (k' := (K9 1111110 30)) (st' := ⟨62, [(1, .own 0 9 0 (([(⟨(⟨v1.Client, v1.Seq, v1.Kind, v1.Pairs, (v1.Over), v1.Old⟩ : api_Mut), 3, true⟩ : api_Entry), (⟨(⟨v2.Client, v2.Seq, v2.Kind, v2.Pairs, (v2.Over), v2.Old⟩ : api_Mut), 4, true⟩ : api_Entry)] : List api_Entry).length)), (51, .b true), (53, .ptr 5 2 0 0)], [eR54 ([(⟨(⟨v1.Client, v1.Seq, v1.Kind, v1.Pairs, (v1.Over), v1.Old⟩ : api_Mut), 3, true⟩ : api_Entry), (⟨(⟨v2.Client, v2.Seq, v2.Kind, v2.Pairs, (v2.Over), v2.Old⟩ : api_Mut), 4, true⟩ : api_Entry)] : List api_Entry), eF40 ([(⟨0, 9⟩ : api_Span)] : List api_Span), eR65 v3, eR65 v4, eR42 ([v5] : List api_Mut), eR65 v6]⟩) (by kernel_rfl) ?_
            refine goK hT 1 (K9 1111110 31) ⟨62, [(1, .own 0 9 0 (([(⟨(⟨v1.Client, v1.Seq, v1.Kind, v1.Pairs, (v1.Over), v1.Old⟩ : api_Mut), 3, true⟩ : api_Entry), (⟨(⟨v2.Client, v2.Seq, v2.Kind, v2.Pairs, (v2.Over), v2.Old⟩ : api_Mut), 4, true⟩ : api_Entry)] : List api_Entry).length)), (51, .b true), (54, .ptr 5 2 0 1)], [eR54 ([(⟨(⟨v1.Client, v1.Seq, v1.Kind, v1.Pairs, (v1.Over), v1.Old⟩ : api_Mut), 3, true⟩ : api_Entry), (⟨(⟨v2.Client, v2.Seq, v2.Kind, v2.Pairs, (v2.Over), v2.Old⟩ : api_Mut), 4, true⟩ : api_Entry)] : List api_Entry), eF40 ([(⟨0, 9⟩ : api_Span)] : List api_Span), eR65 v3, eR65 v4, eR42 ([v5] : List api_Mut), eR65 v6]⟩ ?_
            refine ak_ld hT [1, 51, 55] (i := 0) (n := v6.length) (by omega) (k' := (K9 1111110 32)) (st' := ⟨62, [(1, .own 0 9 0 (([(⟨(⟨v1.Client, v1.Seq, v1.Kind, v1.Pairs, (v1.Over), v1.Old⟩ : api_Mut), 3, true⟩ : api_Entry), (⟨(⟨v2.Client, v2.Seq, v2.Kind, v2.Pairs, (v2.Over), v2.Old⟩ : api_Mut), 4, true⟩ : api_Entry)] : List api_Entry).length)), (51, .b true), (55, .i ((v6.getD 0 api_Pair.z).Val))], [eR54 ([(⟨(⟨v1.Client, v1.Seq, v1.Kind, v1.Pairs, (v1.Over), v1.Old⟩ : api_Mut), 3, true⟩ : api_Entry), (⟨(⟨v2.Client, v2.Seq, v2.Kind, v2.Pairs, (v2.Over), v2.Old⟩ : api_Mut), 4, true⟩ : api_Entry)] : List api_Entry), eF40 ([(⟨0, 9⟩ : api_Span)] : List api_Span), eR65 v3, eR65 v4, eR42 ([v5] : List api_Mut), eR65 v6]⟩) (by kernel_rfl) ?_
            refine goK hT 3 (K9 1111110 35) ⟨62, [(1, .own 0 9 0 (([(⟨(⟨v1.Client, v1.Seq, v1.Kind, v1.Pairs, (v1.Over), v1.Old⟩ : api_Mut), 3, true⟩ : api_Entry), (⟨(⟨v2.Client, v2.Seq, v2.Kind, v2.Pairs, (v2.Over), v2.Old⟩ : api_Mut), 4, true⟩ : api_Entry)] : List api_Entry).length)), (58, .b (((v6.getD 0 api_Pair.z).Val) == 7))], [eR54 ([(⟨(⟨v1.Client, v1.Seq, v1.Kind, v1.Pairs, (v1.Over), v1.Old⟩ : api_Mut), 3, true⟩ : api_Entry), (⟨(⟨v2.Client, v2.Seq, v2.Kind, v2.Pairs, (v2.Over), v2.Old⟩ : api_Mut), 4, true⟩ : api_Entry)] : List api_Entry), eF40 ([(⟨0, 9⟩ : api_Span)] : List api_Span), eR65 v3, eR65 v4, eR42 ([v5] : List api_Mut), eR65 v6]⟩ ?_
            by_cases c15 : ((v6.getD 0 api_Pair.z).Val) = 7
            · replace H := iT c15 H
              rw [eqT c15]
              refine goK hT 1 (K9 1111110 36) ⟨62, [(58, .b true), (59, .own 0 9 0 (([(⟨(⟨v1.Client, v1.Seq, v1.Kind, v1.Pairs, (v1.Over), v1.Old⟩ : api_Mut), 3, true⟩ : api_Entry), (⟨(⟨v2.Client, v2.Seq, v2.Kind, v2.Pairs, (v2.Over), v2.Old⟩ : api_Mut), 4, true⟩ : api_Entry)] : List api_Entry).length))], [eR54 ([(⟨(⟨v1.Client, v1.Seq, v1.Kind, v1.Pairs, (v1.Over), v1.Old⟩ : api_Mut), 3, true⟩ : api_Entry), (⟨(⟨v2.Client, v2.Seq, v2.Kind, v2.Pairs, (v2.Over), v2.Old⟩ : api_Mut), 4, true⟩ : api_Entry)] : List api_Entry), eF40 ([(⟨0, 9⟩ : api_Span)] : List api_Span), eR65 v3, eR65 v4, eR42 ([v5] : List api_Mut), eR65 v6]⟩ ?_
              obtain ⟨v7, h16, H⟩ := ibC H
              refine ak_callP (avs := [.own 0 9 0 (([(⟨(⟨v1.Client, v1.Seq, v1.Kind, v1.Pairs, (v1.Over), v1.Old⟩ : api_Mut), 3, true⟩ : api_Entry), (⟨(⟨v2.Client, v2.Seq, v2.Kind, v2.Pairs, (v2.Over), v2.Old⟩ : api_Mut), 4, true⟩ : api_Entry)] : List api_Entry).length)]) (dst := some 60) (k' := (K9 1111110 37)) [58, 60] [] hP enters_19 (judge_Clients.says (t0 := false) ([(⟨(⟨v1.Client, v1.Seq, v1.Kind, v1.Pairs, (v1.Over), v1.Old⟩ : api_Mut), 3, true⟩ : api_Entry), (⟨(⟨v2.Client, v2.Seq, v2.Kind, v2.Pairs, (v2.Over), v2.Old⟩ : api_Mut), 4, true⟩ : api_Entry)] : List api_Entry) h16) (by kernel_rfl) (hands_none _) (.cons (.lend (ty := 54) (by kernel_rfl) rfl) .nil) (st' := ⟨62, [(58, .b true), (60, .b v7)], [eR54 ([(⟨(⟨v1.Client, v1.Seq, v1.Kind, v1.Pairs, (v1.Over), v1.Old⟩ : api_Mut), 3, true⟩ : api_Entry), (⟨(⟨v2.Client, v2.Seq, v2.Kind, v2.Pairs, (v2.Over), v2.Old⟩ : api_Mut), 4, true⟩ : api_Entry)] : List api_Entry), eF40 ([(⟨0, 9⟩ : api_Span)] : List api_Span), eR65 v3, eR65 v4, eR42 ([v5] : List api_Mut), eR65 v6]⟩) (by kernel_rfl) ?_
              refine goK hT 3 (K9 111111 1) ⟨62, [(0, .b v7)], [eR54 ([(⟨(⟨v1.Client, v1.Seq, v1.Kind, v1.Pairs, (v1.Over), v1.Old⟩ : api_Mut), 3, true⟩ : api_Entry), (⟨(⟨v2.Client, v2.Seq, v2.Kind, v2.Pairs, (v2.Over), v2.Old⟩ : api_Mut), 4, true⟩ : api_Entry)] : List api_Entry), eF40 ([(⟨0, 9⟩ : api_Span)] : List api_Span), eR65 v3, eR65 v4, eR42 ([v5] : List api_Mut), eR65 v6]⟩ ?_
              refine cutK [] ⟨62, [(0, .b v7)], []⟩ h0 ?_
              exact Jj1 v7 H
            · replace H := iF c15 H
              rw [eqF c15]
              refine goK hT 5 (K9 111111 1) ⟨62, [(0, .b false)], [eR54 ([(⟨(⟨v1.Client, v1.Seq, v1.Kind, v1.Pairs, (v1.Over), v1.Old⟩ : api_Mut), 3, true⟩ : api_Entry), (⟨(⟨v2.Client, v2.Seq, v2.Kind, v2.Pairs, (v2.Over), v2.Old⟩ : api_Mut), 4, true⟩ : api_Entry)] : List api_Entry), eF40 ([(⟨0, 9⟩ : api_Span)] : List api_Span), eR65 v3, eR65 v4, eR42 ([v5] : List api_Mut), eR65 v6]⟩ ?_
              refine cutK [] ⟨62, [(0, .b false)], []⟩ h0 ?_
              exact Jj1 false H
          · replace H := iF c13 H
            rw [eqF c13]
            refine goK hT 12 (K9 111111 1) ⟨62, [(0, .b false)], [eR54 ([(⟨(⟨v1.Client, v1.Seq, v1.Kind, v1.Pairs, (v1.Over), v1.Old⟩ : api_Mut), 3, true⟩ : api_Entry), (⟨(⟨v2.Client, v2.Seq, v2.Kind, v2.Pairs, (v2.Over), v2.Old⟩ : api_Mut), 4, true⟩ : api_Entry)] : List api_Entry), eF40 ([(⟨0, 9⟩ : api_Span)] : List api_Span), eR65 v3, eR65 v4, eR42 ([v5] : List api_Mut), eR65 v6]⟩ ?_
            refine cutK [] ⟨62, [(0, .b false)], []⟩ h0 ?_
            exact Jj1 false H
        · replace H := iF c12 H
          rw [eqF c12]
          refine goK hT 17 (K9 111111 1) ⟨62, [(0, .b false)], [eR54 ([(⟨(⟨v1.Client, v1.Seq, v1.Kind, v1.Pairs, (v1.Over), v1.Old⟩ : api_Mut), 3, true⟩ : api_Entry), (⟨(⟨v2.Client, v2.Seq, v2.Kind, v2.Pairs, (v2.Over), v2.Old⟩ : api_Mut), 4, true⟩ : api_Entry)] : List api_Entry), eF40 ([(⟨0, 9⟩ : api_Span)] : List api_Span), eR65 v3, eR65 v4, eR42 ([v5] : List api_Mut), eR65 v6]⟩ ?_
          refine cutK [] ⟨62, [(0, .b false)], []⟩ h0 ?_
          exact Jj1 false H
      · replace H := iF c10 H
        rw [eqF c10]
        refine goK hT 24 (K9 111111 1) ⟨62, [(0, .b false)], [eR54 ([(⟨(⟨v1.Client, v1.Seq, v1.Kind, v1.Pairs, (v1.Over), v1.Old⟩ : api_Mut), 3, true⟩ : api_Entry), (⟨(⟨v2.Client, v2.Seq, v2.Kind, v2.Pairs, (v2.Over), v2.Old⟩ : api_Mut), 4, true⟩ : api_Entry)] : List api_Entry), eF40 ([(⟨0, 9⟩ : api_Span)] : List api_Span), eR65 v3, eR65 v4, eR42 ([v5] : List api_Mut), eR65 v6]⟩ ?_
        refine cutK [] ⟨62, [(0, .b false)], []⟩ h0 ?_
        exact Jj1 false H
    · replace H := iF c9 H
      rw [eqF c9]
      refine goK hT 29 (K9 111111 1) ⟨62, [(0, .b false)], [eR54 ([(⟨(⟨v1.Client, v1.Seq, v1.Kind, v1.Pairs, (v1.Over), v1.Old⟩ : api_Mut), 3, true⟩ : api_Entry), (⟨(⟨v2.Client, v2.Seq, v2.Kind, v2.Pairs, (v2.Over), v2.Old⟩ : api_Mut), 4, true⟩ : api_Entry)] : List api_Entry), eF40 ([(⟨0, 9⟩ : api_Span)] : List api_Span), eR65 v3, eR65 v4, eR42 ([v5] : List api_Mut), eR65 v6]⟩ ?_
      refine cutK [] ⟨62, [(0, .b false)], []⟩ h0 ?_
      exact Jj1 false H
  · replace H := iF c7 H
    rw [eqF c7]
    refine goK hT 36 (K9 111111 1) ⟨62, [(0, .b false)], [eR54 ([(⟨(⟨v1.Client, v1.Seq, v1.Kind, v1.Pairs, (v1.Over), v1.Old⟩ : api_Mut), 3, true⟩ : api_Entry), (⟨(⟨v2.Client, v2.Seq, v2.Kind, v2.Pairs, (v2.Over), v2.Old⟩ : api_Mut), 4, true⟩ : api_Entry)] : List api_Entry), eF40 ([(⟨0, 9⟩ : api_Span)] : List api_Span), eR65 v3, eR65 v4, eR42 ([v5] : List api_Mut), eR65 v6]⟩ ?_
    refine cutK [] ⟨62, [(0, .b false)], []⟩ h0 ?_
    exact Jj1 false H


theorem splicelaw05_Refs.says {t0 : Bool} (a0 : List api_Pair) {r : List spliceref04_Pair} (H : splicelaw05_Refs a0 = some r) : Says Try.prog 11 [] [.d (eL65 t0 a0)] [eR66 r] (.own 0 2 0 r.length) := by
  refine says_of Try.func11 rfl (nt := 19) rfl (Nat.le_of_ble_eq_true rfl) fun X hP h0 hX => ?_
  have hT : TabOk X.P T := hP ▸ tok
  have hf : X.P.funcs[11]? = some Try.f11 := hP ▸ Try.func11
  refine goK hT 15 (K11 111010 0) ⟨19, [(0, .d (eL65 t0 a0)), (3, .ns), (4, .i 0)], []⟩ ?_
  refine ak_nilS [0, 3, 4] 3 2 66 (vec spliceref04_Pair.e spliceref04_Pair.z []) (st' := ⟨19, [(0, .d (eL65 t0 a0)), (3, .own 0 2 0 0), (4, .i 0)], [eR66 ([] : List spliceref04_Pair)]⟩) (by kernel_rfl) (by kernel_rfl) ?_
  have L : ∀ n, (∀ (x1_4 : Int) (x1_r0 : List spliceref04_Pair), iter (splicelaw05_Refs.step a0) n (.l1 x1_4 x1_r0) = some r → AK X 11 ((K11 111010 0)) (Back X [eR66 r] (.own 0 2 0 r.length)) ⟨19, [(0, .d (eL65 t0 a0)), (3, .own 0 2 0 x1_r0.length), (4, .i x1_4)], [eR66 x1_r0]⟩) := by
    intro n
    induction n with
    | zero => exact fun _ _ H => iter0 H
    | succ n ih =>
      · intro x1_4 x1_r0 H
        refine goK hT 8 (K11 11101000 1) ⟨19, [(0, .d (eL65 t0 a0)), (3, .own 0 2 0 x1_r0.length), (4, .i x1_4), (8, .b (decide (x1_4 < (a0.length : Int))))], [eR66 x1_r0]⟩ ?_
        by_cases c1 : x1_4 < (a0.length : Int)
        · replace H := sT c1 H
          rw [decide_eq_true c1]
          refine goK hT 2 (K11 1110100 1) ⟨19, [(0, .d (eL65 t0 a0)), (3, .own 0 2 0 x1_r0.length), (4, .i x1_4)], [eR66 x1_r0]⟩ ?_
          refine goK hT 6 (K11 1110100100 3) ⟨19, [(0, .d (eL65 t0 a0)), (4, .i x1_4), (11, .own 0 2 0 x1_r0.length), (12, .d (eL65 t0 a0)), (13, .i x1_4)], [eR66 x1_r0]⟩ ?_
          obtain ⟨h2, H⟩ := sC H
          refine ak_idx hT [0, 4, 11, 14] (i := x1_4) (n := (a0.length : Int)) h2.1 h2.2 (k' := (K11 1110100100 4)) (st' := ⟨19, [(0, .d (eL65 t0 a0)), (4, .i x1_4), (11, .own 0 2 0 x1_r0.length), (14, .d (eP65 t0 a0 x1_4.toNat 0))], [eR66 x1_r0]⟩) (by kernel_rfl) ?_
          refine goK hT 2 (K11 1110100100 6) ⟨19, [(0, .d (eL65 t0 a0)), (4, .i x1_4), (11, .own 0 2 0 x1_r0.length), (16, .own 1 2 0 1)], [eR66 x1_r0, .flat false 2 66 1 (fun j => [api_Pair.e (a0.getD x1_4.toNat api_Pair.z)].getD j [])]⟩ ?_
          obtain ⟨h3, H⟩ := sC H
          refine ak_append1 (id := 0) (kk := 2) (by' := 16) (t := 27) (e := 66) (z := [.int .i64 0, .int .i64 0]) (dst := some 17) (id2 := 1) (e2 := 66) (fz := false) (k' := (K11 1110100100 7)) hT spliceref04_Pair.e spliceref04_Pair.z x1_r0 (⟨(a0.getD x1_4.toNat api_Pair.z).Key, (a0.getD x1_4.toNat api_Pair.z).Val⟩ : spliceref04_Pair) [0, 4, 17] (by kernel_rfl) (by kernel_rfl) (by kernel_rfl) (by kernel_rfl) (by kernel_rfl) (by kernel_rfl) (by kernel_rfl) h3 (by omega) (st' := ⟨19, [(0, .d (eL65 t0 a0)), (4, .i x1_4), (17, .own 2 2 0 ((x1_r0 ++ [(⟨(a0.getD x1_4.toNat api_Pair.z).Key, (a0.getD x1_4.toNat api_Pair.z).Val⟩ : spliceref04_Pair)]).length))], [.gone, .flat false 2 66 1 (fun j => [api_Pair.e (a0.getD x1_4.toNat api_Pair.z)].getD j []), eR66 (x1_r0 ++ [(⟨(a0.getD x1_4.toNat api_Pair.z).Key, (a0.getD x1_4.toNat api_Pair.z).Val⟩ : spliceref04_Pair)])]⟩) (by kernel_rfl) ?_
          refine goK hT 9 (K11 111010 0) ⟨19, [(0, .d (eL65 t0 a0)), (3, .own 2 2 0 ((x1_r0 ++ [(⟨(a0.getD x1_4.toNat api_Pair.z).Key, (a0.getD x1_4.toNat api_Pair.z).Val⟩ : spliceref04_Pair)]).length)), (4, .i (IntKind.wrap .i64 (x1_4 + 1)))], [.gone, .flat false 2 66 1 (fun j => [api_Pair.e (a0.getD x1_4.toNat api_Pair.z)].getD j []), eR66 (x1_r0 ++ [(⟨(a0.getD x1_4.toNat api_Pair.z).Key, (a0.getD x1_4.toNat api_Pair.z).Val⟩ : spliceref04_Pair)])]⟩ ?_
          refine cutK [2] ⟨19, [(0, .d (eL65 t0 a0)), (3, .own 0 2 0 (x1_r0 ++ [(⟨(a0.getD x1_4.toNat api_Pair.z).Key, (a0.getD x1_4.toNat api_Pair.z).Val⟩ : spliceref04_Pair)]).length), (4, .i (IntKind.wrap .i64 (x1_4 + 1)))], [eR66 (x1_r0 ++ [(⟨(a0.getD x1_4.toNat api_Pair.z).Key, (a0.getD x1_4.toNat api_Pair.z).Val⟩ : spliceref04_Pair)])]⟩ h0 ?_
          exact ih (IntKind.wrap .i64 (x1_4 + 1)) (x1_r0 ++ [(⟨(a0.getD x1_4.toNat api_Pair.z).Key, (a0.getD x1_4.toNat api_Pair.z).Val⟩ : spliceref04_Pair)]) H
        · replace H := sF c1 H
          rw [decide_eq_false c1]
          refine goK hT 7 (K11 1111 1) ⟨19, [(2, .own 0 2 0 x1_r0.length)], [eR66 x1_r0]⟩ ?_
          obtain rfl := retC H
          exact ak_ret hf hX (av := .own 0 2 0 x1_r0.length) (by kernel_rfl) [0] (sel_of_eq (by kernel_rfl)) (by decide) (by rw [h0]; rfl) (by kernel_rfl) (fun _ h => all_cons (nr_vec spliceref04_Pair.nl) (fun _ h => all_nil h) h) (.own _ _ _ _)
  refine cutK [0] ⟨19, [(0, .d (eL65 t0 a0)), (3, .own 0 2 0 ([] : List spliceref04_Pair).length), (4, .i 0)], [eR66 ([] : List spliceref04_Pair)]⟩ h0 ?_
  obtain ⟨n, H⟩ := loopC H
  exact (L n) 0 ([] : List spliceref04_Pair) H


theorem splicelaw04_Ref.says (a0 : api_Mut) {r : spliceref04_Mut} (H : splicelaw04_Ref a0 = some r) : Says Try.prog 16 [] [.d (eG42 a0)] [] (.d (eG45 r)) := by
  refine says_of Try.func16 rfl (nt := 34) rfl (Nat.le_of_ble_eq_true rfl) fun X hP h0 hX => ?_
  have hT : TabOk X.P T := hP ▸ tok
  have hf : X.P.funcs[16]? = some Try.f16 := hP ▸ Try.func16
  refine goK hT 28 (K16 111010 0) ⟨34, [(1, .ptr 0 0 0 0), (2, .ptr 1 0 0 0), (3, .ptr 2 0 0 0), (4, .i 0)], [.box 42 (eC42 a0), .box 45 [.i 0, .i 0, .i 0, .ns, .i 0, .i 0, .i 0], .box 45 [.i a0.Client, .i a0.Seq, .i a0.Kind, .ns, .i a0.Over.Lo, .i a0.Over.Hi, .i a0.Old]]⟩ ?_
  refine ak_nilBox (tb := 45) (cs := [.i a0.Client, .i a0.Seq, .i a0.Kind, .ns, .i a0.Over.Lo, .i a0.Over.Hi, .i a0.Old]) 2 3 2 66 (vec spliceref04_Pair.e spliceref04_Pair.z []) (st' := ⟨34, [(1, .ptr 0 0 0 0), (2, .ptr 1 0 0 0), (3, .ptr 2 0 0 0), (4, .i 0)], [.box 42 (eC42 a0), .box 45 [.i 0, .i 0, .i 0, .ns, .i 0, .i 0, .i 0], .box 45 [.i a0.Client, .i a0.Seq, .i a0.Kind, .own 3 2 0 0, .i a0.Over.Lo, .i a0.Over.Hi, .i a0.Old], eR66 ([] : List spliceref04_Pair)]⟩) (by kernel_rfl) (by kernel_rfl) ?_
  have L : ∀ n, (∀ (x1_4 : Int) (x1_r3 : List spliceref04_Pair), iter (splicelaw04_Ref.step a0) n (.l1 x1_4 x1_r3) = some r → AK X 16 ((K16 111010 0)) (Back X [] (.d (eG45 r))) ⟨34, [(1, .ptr 0 0 0 0), (2, .ptr 1 0 0 0), (3, .ptr 2 0 0 0), (4, .i x1_4)], [.box 42 (eC42 a0), .box 45 [.i 0, .i 0, .i 0, .ns, .i 0, .i 0, .i 0], .box 45 [.i a0.Client, .i a0.Seq, .i a0.Kind, .own 3 2 0 x1_r3.length, .i a0.Over.Lo, .i a0.Over.Hi, .i a0.Old], eR66 x1_r3]⟩) := by
    intro n
    induction n with
    | zero => exact fun _ _ H => iter0 H
    | succ n ih =>
      · intro x1_4 x1_r3 H
        refine goK hT 9 (K16 11101000 1) ⟨34, [(1, .ptr 0 0 0 0), (2, .ptr 1 0 0 0), (3, .ptr 2 0 0 0), (4, .i x1_4), (20, .b (decide (x1_4 < (a0.Pairs.length : Int))))], [.box 42 (eC42 a0), .box 45 [.i 0, .i 0, .i 0, .ns, .i 0, .i 0, .i 0], .box 45 [.i a0.Client, .i a0.Seq, .i a0.Kind, .own 3 2 0 x1_r3.length, .i a0.Over.Lo, .i a0.Over.Hi, .i a0.Old], eR66 x1_r3]⟩ ?_
        by_cases c1 : x1_4 < (a0.Pairs.length : Int)
        · replace H := sT c1 H
          rw [decide_eq_true c1]
          refine goK hT 2 (K16 1110100 1) ⟨34, [(1, .ptr 0 0 0 0), (2, .ptr 1 0 0 0), (3, .ptr 2 0 0 0), (4, .i x1_4)], [.box 42 (eC42 a0), .box 45 [.i 0, .i 0, .i 0, .ns, .i 0, .i 0, .i 0], .box 45 [.i a0.Client, .i a0.Seq, .i a0.Kind, .own 3 2 0 x1_r3.length, .i a0.Over.Lo, .i a0.Over.Hi, .i a0.Old], eR66 x1_r3]⟩ ?_
          refine goK hT 2 (K16 111010010 0) ⟨34, [(1, .ptr 0 0 0 0), (2, .ptr 1 0 0 0), (3, .ptr 2 0 0 0), (4, .i x1_4)], [.box 42 (eC42 a0), .box 45 [.i 0, .i 0, .i 0, .ns, .i 0, .i 0, .i 0], .box 45 [.i a0.Client, .i a0.Seq, .i a0.Kind, .own 3 2 0 x1_r3.length, .i a0.Over.Lo, .i a0.Over.Hi, .i a0.Old], eR66 x1_r3]⟩ ?_
          obtain ⟨h2, H⟩ := sC H
          refine ak_drawAtE (nt := 34) (hP ▸ mixed) 8 [7] [1, 2, 3, 4] [(1, .ptr 0 0 0 0), (2, .ptr 1 0 0 0), (3, .ptr 2 0 0 0), (4, .i x1_4)] [some (.ptr 2 0 0 3), some (.own 3 2 0 x1_r3.length), some (.ptr 0 0 0 3), some (.d (eL65 true a0.Pairs)), some (.i x1_4), some (.d (eP65 true a0.Pairs x1_4.toNat 0)), some (.d (eG65 (a0.Pairs.getD x1_4.toNat api_Pair.z))), some (.own 4 2 0 1)] [[.box 42 (eC42 a0), .box 45 [.i 0, .i 0, .i 0, .ns, .i 0, .i 0, .i 0], .box 45 [.i a0.Client, .i a0.Seq, .i a0.Kind, .own 3 2 0 x1_r3.length, .i a0.Over.Lo, .i a0.Over.Hi, .i a0.Old], eR66 x1_r3], [.box 42 (eC42 a0), .box 45 [.i 0, .i 0, .i 0, .ns, .i 0, .i 0, .i 0], .box 45 [.i a0.Client, .i a0.Seq, .i a0.Kind, .own 3 2 0 x1_r3.length, .i a0.Over.Lo, .i a0.Over.Hi, .i a0.Old], eR66 x1_r3, .flat false 2 66 1 (fun j => [api_Pair.e (a0.Pairs.getD x1_4.toNat api_Pair.z)].getD j [])]] (by kernel_rfl) (by kernel_rfl) (by kernel_rfl) (by kernel_rfl) ⟨(opXE (opGE (opES (opGE (opGE (opGE (opGE (opGE opE0 hT) hT) hT) hT) hT) (fun R rest h => ak_idx0 hT (i := x1_4) (n := (a0.Pairs.length : Int)) h2.1 h2.2 (by kernel_rfl) h)) hT)), (op_goFK hT), (opXE (opGE (opES (opGE (opGE (opGE (opGE (opGE opE0 hT) hT) hT) hT) hT) (fun R rest h => ak_idx0 hT (i := x1_4) (n := (a0.Pairs.length : Int)) h2.1 h2.2 (by kernel_rfl) h)) hT))⟩ ?_
          refine goK hT 0 (K16 1110100100 8) ⟨34, [(1, .ptr 0 0 0 0), (2, .ptr 1 0 0 0), (3, .ptr 2 0 0 0), (4, .i x1_4), (24, .own 3 2 0 x1_r3.length), (30, .own 4 2 0 1)], [.box 42 (eC42 a0), .box 45 [.i 0, .i 0, .i 0, .ns, .i 0, .i 0, .i 0], .box 45 [.i a0.Client, .i a0.Seq, .i a0.Kind, .own 3 2 0 x1_r3.length, .i a0.Over.Lo, .i a0.Over.Hi, .i a0.Old], eR66 x1_r3, .flat false 2 66 1 (fun j => [api_Pair.e (a0.Pairs.getD x1_4.toNat api_Pair.z)].getD j [])]⟩ ?_
          obtain ⟨h3, H⟩ := sC H
          refine ak_append1 (id := 3) (kk := 2) (by' := 16) (t := 27) (e := 66) (z := [.int .i64 0, .int .i64 0]) (dst := some 31) (id2 := 4) (e2 := 66) (fz := false) (k' := (K16 1110100100 9)) hT spliceref04_Pair.e spliceref04_Pair.z x1_r3 (⟨(a0.Pairs.getD x1_4.toNat api_Pair.z).Key, (a0.Pairs.getD x1_4.toNat api_Pair.z).Val⟩ : spliceref04_Pair) [1, 2, 3, 4, 31] (by kernel_rfl) (by kernel_rfl) (by kernel_rfl) (by kernel_rfl) (by kernel_rfl) (by kernel_rfl) (by kernel_rfl) h3 (by omega) (st' := ⟨34, [(1, .ptr 0 0 0 0), (2, .ptr 1 0 0 0), (3, .ptr 2 0 0 0), (4, .i x1_4), (31, .own 5 2 0 ((x1_r3 ++ [(⟨(a0.Pairs.getD x1_4.toNat api_Pair.z).Key, (a0.Pairs.getD x1_4.toNat api_Pair.z).Val⟩ : spliceref04_Pair)]).length))], [.box 42 (eC42 a0), .box 45 [.i 0, .i 0, .i 0, .ns, .i 0, .i 0, .i 0], .box 45 [.i a0.Client, .i a0.Seq, .i a0.Kind, .own 3 2 0 x1_r3.length, .i a0.Over.Lo, .i a0.Over.Hi, .i a0.Old], .gone, .flat false 2 66 1 (fun j => [api_Pair.e (a0.Pairs.getD x1_4.toNat api_Pair.z)].getD j []), eR66 (x1_r3 ++ [(⟨(a0.Pairs.getD x1_4.toNat api_Pair.z).Key, (a0.Pairs.getD x1_4.toNat api_Pair.z).Val⟩ : spliceref04_Pair)])]⟩) (by kernel_rfl) ?_
          refine goK hT 10 (K16 111010 0) ⟨34, [(1, .ptr 0 0 0 0), (2, .ptr 1 0 0 0), (3, .ptr 2 0 0 0), (4, .i (IntKind.wrap .i64 (x1_4 + 1)))], [.box 42 (eC42 a0), .box 45 [.i 0, .i 0, .i 0, .ns, .i 0, .i 0, .i 0], .box 45 [.i a0.Client, .i a0.Seq, .i a0.Kind, .own 5 2 0 ((x1_r3 ++ [(⟨(a0.Pairs.getD x1_4.toNat api_Pair.z).Key, (a0.Pairs.getD x1_4.toNat api_Pair.z).Val⟩ : spliceref04_Pair)]).length), .i a0.Over.Lo, .i a0.Over.Hi, .i a0.Old], .gone, .flat false 2 66 1 (fun j => [api_Pair.e (a0.Pairs.getD x1_4.toNat api_Pair.z)].getD j []), eR66 (x1_r3 ++ [(⟨(a0.Pairs.getD x1_4.toNat api_Pair.z).Key, (a0.Pairs.getD x1_4.toNat api_Pair.z).Val⟩ : spliceref04_Pair)])]⟩ ?_
          refine cutK [0, 1, 2, 5] ⟨34, [(1, .ptr 0 0 0 0), (2, .ptr 1 0 0 0), (3, .ptr 2 0 0 0), (4, .i (IntKind.wrap .i64 (x1_4 + 1)))], [.box 42 (eC42 a0), .box 45 [.i 0, .i 0, .i 0, .ns, .i 0, .i 0, .i 0], .box 45 [.i a0.Client, .i a0.Seq, .i a0.Kind, .own 3 2 0 (x1_r3 ++ [(⟨(a0.Pairs.getD x1_4.toNat api_Pair.z).Key, (a0.Pairs.getD x1_4.toNat api_Pair.z).Val⟩ : spliceref04_Pair)]).length, .i a0.Over.Lo, .i a0.Over.Hi, .i a0.Old], eR66 (x1_r3 ++ [(⟨(a0.Pairs.getD x1_4.toNat api_Pair.z).Key, (a0.Pairs.getD x1_4.toNat api_Pair.z).Val⟩ : spliceref04_Pair)])]⟩ h0 ?_
          exact ih (IntKind.wrap .i64 (x1_4 + 1)) (x1_r3 ++ [(⟨(a0.Pairs.getD x1_4.toNat api_Pair.z).Key, (a0.Pairs.getD x1_4.toNat api_Pair.z).Val⟩ : spliceref04_Pair)]) H
        · replace H := sF c1 H
          rw [decide_eq_false c1]
          refine goK hT 5 (K16 11110 1) ⟨34, [(2, .ptr 1 0 0 0), (33, .agg [.i a0.Client, .i a0.Seq, .i a0.Kind, .own 3 2 0 x1_r3.length, .i a0.Over.Lo, .i a0.Over.Hi, .i a0.Old])], [.box 42 (eC42 a0), .box 45 [.i 0, .i 0, .i 0, .ns, .i 0, .i 0, .i 0], .box 45 [.i a0.Client, .i a0.Seq, .i a0.Kind, .own 3 2 0 x1_r3.length, .i a0.Over.Lo, .i a0.Over.Hi, .i a0.Old], eR66 x1_r3]⟩ ?_
          refine ak_freeze 3 (kk := 2) (n := x1_r3.length) (ty := 66) (g := vec spliceref04_Pair.e spliceref04_Pair.z x1_r3) (by kernel_rfl) (st' := ⟨34, [(2, .ptr 1 0 0 0), (33, .agg [.i a0.Client, .i a0.Seq, .i a0.Kind, .own 3 2 0 x1_r3.length, .i a0.Over.Lo, .i a0.Over.Hi, .i a0.Old])], [.box 42 (eC42 a0), .box 45 [.i 0, .i 0, .i 0, .ns, .i 0, .i 0, .i 0], .box 45 [.i a0.Client, .i a0.Seq, .i a0.Kind, .own 3 2 0 x1_r3.length, .i a0.Over.Lo, .i a0.Over.Hi, .i a0.Old], eF66 x1_r3]⟩) (by kernel_rfl) ?_
          refine ak_sealS (av := .agg [.i a0.Client, .i a0.Seq, .i a0.Kind, .own 3 2 0 x1_r3.length, .i a0.Over.Lo, .i a0.Over.Hi, .i a0.Old]) (y := .agg [.i a0.Client, .i a0.Seq, .i a0.Kind, eL66 true x1_r3, .i a0.Over.Lo, .i a0.Over.Hi, .i a0.Old]) [2, 33] 33 (st' := ⟨34, [(2, .ptr 1 0 0 0), (33, .d (.agg [.i a0.Client, .i a0.Seq, .i a0.Kind, eL66 true x1_r3, .i a0.Over.Lo, .i a0.Over.Hi, .i a0.Old]))], [.box 42 (eC42 a0), .box 45 [.i 0, .i 0, .i 0, .ns, .i 0, .i 0, .i 0], .box 45 [.i a0.Client, .i a0.Seq, .i a0.Kind, .own 3 2 0 x1_r3.length, .i a0.Over.Lo, .i a0.Over.Hi, .i a0.Old], eF66 x1_r3]⟩) (by kernel_rfl) (.agg (.cons (.d _) (.cons (.d _) (.cons (.d _) (.cons (.own (ty := 66) (k := 2) (by kernel_rfl)) (.cons (.d _) (.cons (.d _) (.cons (.d _) .nil)))))))) (by kernel_rfl) ?_
          refine goK hT 2 (K16 1111 1) ⟨34, [(2, .ptr 1 0 0 0)], [.box 42 (eC42 a0), .box 45 [.i a0.Client, .i a0.Seq, .i a0.Kind, .d (eL66 true x1_r3), .i a0.Over.Lo, .i a0.Over.Hi, .i a0.Old], .box 45 [.i a0.Client, .i a0.Seq, .i a0.Kind, .own 3 2 0 x1_r3.length, .i a0.Over.Lo, .i a0.Over.Hi, .i a0.Old], eF66 x1_r3]⟩ ?_
          obtain rfl := retC H
          exact ak_retM hT hf hX (av := .d (.agg [.i a0.Client, .i a0.Seq, .i a0.Kind, eL66 true x1_r3, .i a0.Over.Lo, .i a0.Over.Hi, .i a0.Old])) (by kernel_rfl) [] (sel_of_eq (by kernel_rfl)) (by decide) (by rw [h0]; rfl) (by kernel_rfl) (fun _ h => all_nil h) (.d (.agg (spliceref04_Mut.nl _)))
  refine cutK [0, 1, 2, 3] ⟨34, [(1, .ptr 0 0 0 0), (2, .ptr 1 0 0 0), (3, .ptr 2 0 0 0), (4, .i 0)], [.box 42 (eC42 a0), .box 45 [.i 0, .i 0, .i 0, .ns, .i 0, .i 0, .i 0], .box 45 [.i a0.Client, .i a0.Seq, .i a0.Kind, .own 3 2 0 ([] : List spliceref04_Pair).length, .i a0.Over.Lo, .i a0.Over.Hi, .i a0.Old], eR66 ([] : List spliceref04_Pair)]⟩ h0 ?_
  obtain ⟨n, H⟩ := loopC H
  exact (L n) 0 ([] : List spliceref04_Pair) H


theorem splicelaw03_Refs.says {t0 : Bool} (a0 : List api_Span) {r : List spliceref03_Span} (H : splicelaw03_Refs a0 = some r) : Says Try.prog 15 [] [.d (eL40 t0 a0)] [eR43 r] (.own 0 2 0 r.length) := by
  refine says_of Try.func15 rfl (nt := 19) rfl (Nat.le_of_ble_eq_true rfl) fun X hP h0 hX => ?_
  have hT : TabOk X.P T := hP ▸ tok
  have hf : X.P.funcs[15]? = some Try.f15 := hP ▸ Try.func15
  refine goK hT 15 (K15 111010 0) ⟨19, [(0, .d (eL40 t0 a0)), (3, .ns), (4, .i 0)], []⟩ ?_
  refine ak_nilS [0, 3, 4] 3 2 43 (vec spliceref03_Span.e spliceref03_Span.z []) (st' := ⟨19, [(0, .d (eL40 t0 a0)), (3, .own 0 2 0 0), (4, .i 0)], [eR43 ([] : List spliceref03_Span)]⟩) (by kernel_rfl) (by kernel_rfl) ?_
  have L : ∀ n, (∀ (x1_4 : Int) (x1_r0 : List spliceref03_Span), iter (splicelaw03_Refs.step a0) n (.l1 x1_4 x1_r0) = some r → AK X 15 ((K15 111010 0)) (Back X [eR43 r] (.own 0 2 0 r.length)) ⟨19, [(0, .d (eL40 t0 a0)), (3, .own 0 2 0 x1_r0.length), (4, .i x1_4)], [eR43 x1_r0]⟩) := by
    intro n
    induction n with
    | zero => exact fun _ _ H => iter0 H
    | succ n ih =>
      · intro x1_4 x1_r0 H
        refine goK hT 8 (K15 11101000 1) ⟨19, [(0, .d (eL40 t0 a0)), (3, .own 0 2 0 x1_r0.length), (4, .i x1_4), (8, .b (decide (x1_4 < (a0.length : Int))))], [eR43 x1_r0]⟩ ?_
        by_cases c1 : x1_4 < (a0.length : Int)
        · replace H := sT c1 H
          rw [decide_eq_true c1]
          refine goK hT 2 (K15 1110100 1) ⟨19, [(0, .d (eL40 t0 a0)), (3, .own 0 2 0 x1_r0.length), (4, .i x1_4)], [eR43 x1_r0]⟩ ?_
          refine goK hT 6 (K15 1110100100 3) ⟨19, [(0, .d (eL40 t0 a0)), (4, .i x1_4), (11, .own 0 2 0 x1_r0.length), (12, .d (eL40 t0 a0)), (13, .i x1_4)], [eR43 x1_r0]⟩ ?_
          obtain ⟨h2, H⟩ := sC H
          refine ak_idx hT [0, 4, 11, 14] (i := x1_4) (n := (a0.length : Int)) h2.1 h2.2 (k' := (K15 1110100100 4)) (st' := ⟨19, [(0, .d (eL40 t0 a0)), (4, .i x1_4), (11, .own 0 2 0 x1_r0.length), (14, .d (eP40 t0 a0 x1_4.toNat 0))], [eR43 x1_r0]⟩) (by kernel_rfl) ?_
          refine goK hT 2 (K15 1110100100 6) ⟨19, [(0, .d (eL40 t0 a0)), (4, .i x1_4), (11, .own 0 2 0 x1_r0.length), (16, .own 1 2 0 1)], [eR43 x1_r0, .flat false 2 43 1 (fun j => [api_Span.e (a0.getD x1_4.toNat api_Span.z)].getD j [])]⟩ ?_
          obtain ⟨h3, H⟩ := sC H
          refine ak_append1 (id := 0) (kk := 2) (by' := 16) (t := 34) (e := 43) (z := [.int .i64 0, .int .i64 0]) (dst := some 17) (id2 := 1) (e2 := 43) (fz := false) (k' := (K15 1110100100 7)) hT spliceref03_Span.e spliceref03_Span.z x1_r0 (⟨(a0.getD x1_4.toNat api_Span.z).Lo, (a0.getD x1_4.toNat api_Span.z).Hi⟩ : spliceref03_Span) [0, 4, 17] (by kernel_rfl) (by kernel_rfl) (by kernel_rfl) (by kernel_rfl) (by kernel_rfl) (by kernel_rfl) (by kernel_rfl) h3 (by omega) (st' := ⟨19, [(0, .d (eL40 t0 a0)), (4, .i x1_4), (17, .own 2 2 0 ((x1_r0 ++ [(⟨(a0.getD x1_4.toNat api_Span.z).Lo, (a0.getD x1_4.toNat api_Span.z).Hi⟩ : spliceref03_Span)]).length))], [.gone, .flat false 2 43 1 (fun j => [api_Span.e (a0.getD x1_4.toNat api_Span.z)].getD j []), eR43 (x1_r0 ++ [(⟨(a0.getD x1_4.toNat api_Span.z).Lo, (a0.getD x1_4.toNat api_Span.z).Hi⟩ : spliceref03_Span)])]⟩) (by kernel_rfl) ?_
          refine goK hT 9 (K15 111010 0) ⟨19, [(0, .d (eL40 t0 a0)), (3, .own 2 2 0 ((x1_r0 ++ [(⟨(a0.getD x1_4.toNat api_Span.z).Lo, (a0.getD x1_4.toNat api_Span.z).Hi⟩ : spliceref03_Span)]).length)), (4, .i (IntKind.wrap .i64 (x1_4 + 1)))], [.gone, .flat false 2 43 1 (fun j => [api_Span.e (a0.getD x1_4.toNat api_Span.z)].getD j []), eR43 (x1_r0 ++ [(⟨(a0.getD x1_4.toNat api_Span.z).Lo, (a0.getD x1_4.toNat api_Span.z).Hi⟩ : spliceref03_Span)])]⟩ ?_
          refine cutK [2] ⟨19, [(0, .d (eL40 t0 a0)), (3, .own 0 2 0 (x1_r0 ++ [(⟨(a0.getD x1_4.toNat api_Span.z).Lo, (a0.getD x1_4.toNat api_Span.z).Hi⟩ : spliceref03_Span)]).length), (4, .i (IntKind.wrap .i64 (x1_4 + 1)))], [eR43 (x1_r0 ++ [(⟨(a0.getD x1_4.toNat api_Span.z).Lo, (a0.getD x1_4.toNat api_Span.z).Hi⟩ : spliceref03_Span)])]⟩ h0 ?_
          exact ih (IntKind.wrap .i64 (x1_4 + 1)) (x1_r0 ++ [(⟨(a0.getD x1_4.toNat api_Span.z).Lo, (a0.getD x1_4.toNat api_Span.z).Hi⟩ : spliceref03_Span)]) H
        · replace H := sF c1 H
          rw [decide_eq_false c1]
          refine goK hT 7 (K15 1111 1) ⟨19, [(2, .own 0 2 0 x1_r0.length)], [eR43 x1_r0]⟩ ?_
          obtain rfl := retC H
          exact ak_ret hf hX (av := .own 0 2 0 x1_r0.length) (by kernel_rfl) [0] (sel_of_eq (by kernel_rfl)) (by decide) (by rw [h0]; rfl) (by kernel_rfl) (fun _ h => all_cons (nr_vec spliceref03_Span.nl) (fun _ h => all_nil h) h) (.own _ _ _ _)
  refine cutK [0] ⟨19, [(0, .d (eL40 t0 a0)), (3, .own 0 2 0 ([] : List spliceref03_Span).length), (4, .i 0)], [eR43 ([] : List spliceref03_Span)]⟩ h0 ?_
  obtain ⟨n, H⟩ := loopC H
  exact (L n) 0 ([] : List spliceref03_Span) H


theorem spliceref03_One.says (a0 : spliceref03_Span) : Says Try.prog 40 [] [.d (eG43 a0)] [] (.b (spliceref03_One a0)) := by
  obtain ⟨r, H⟩ : ∃ r, spliceref03_One a0 = r := ⟨_, rfl⟩
  rw [H]
  refine says_of Try.func40 rfl (nt := 18) rfl (Nat.le_of_ble_eq_true rfl) fun X hP h0 hX => ?_
  have hT : TabOk X.P T := hP ▸ tok
  have hf : X.P.funcs[40]? = some Try.f40 := hP ▸ Try.func40
  have Jj1 : ∀ (y1_2 : Bool), (spliceref03_One.j1 y1_2) = r → AK X 40 ((K40 11 1)) (Back X [] (.b r)) ⟨18, [(2, .b y1_2)], []⟩ := by
    intro y1_2 H
    obtain rfl := H
    exact ak_ret hf hX (av := .b y1_2) (by kernel_rfl) [] (sel_of_eq (by kernel_rfl)) (by decide) (by rw [h0]; rfl) (by kernel_rfl) (fun _ h => all_nil h) (.d (.v _))
  refine goK hT 11 (K40 110 4) ⟨18, [(1, .ptr 0 0 0 0), (6, .b (decide (a0.Lo ≥ 0)))], [.box 43 (eC43 a0)]⟩ ?_
  by_cases c1 : a0.Lo ≥ 0
  · replace H := iT c1 H
    rw [decide_eq_true c1]
    refine goK hT 7 (K40 110 11) ⟨18, [(1, .ptr 0 0 0 0), (13, .b (decide (a0.Lo < a0.Hi)))], [.box 43 (eC43 a0)]⟩ ?_
    by_cases c2 : a0.Lo < a0.Hi
    · replace H := iT c2 H
      rw [decide_eq_true c2]
      refine goK hT 6 (K40 11 1) ⟨18, [(2, .b (decide (a0.Hi ≤ 4096)))], [.box 43 (eC43 a0)]⟩ ?_
      refine cutK [] ⟨18, [(2, .b (decide (a0.Hi ≤ 4096)))], []⟩ h0 ?_
      exact Jj1 (decide (a0.Hi ≤ 4096)) H
    · replace H := iF c2 H
      rw [decide_eq_false c2]
      refine goK hT 6 (K40 11 1) ⟨18, [(2, .b false)], [.box 43 (eC43 a0)]⟩ ?_
      refine cutK [] ⟨18, [(2, .b false)], []⟩ h0 ?_
      exact Jj1 false H
  · replace H := iF c1 H
    rw [decide_eq_false c1]
    refine goK hT 13 (K40 11 1) ⟨18, [(2, .b false)], [.box 43 (eC43 a0)]⟩ ?_
    refine cutK [] ⟨18, [(2, .b false)], []⟩ h0 ?_
    exact Jj1 false H


theorem spliceref04_value.says (a0 : Int) : Says Try.prog 42 [] [.i a0] [] (.b (spliceref04_value a0)) := by
  obtain ⟨r, H⟩ : ∃ r, spliceref04_value a0 = r := ⟨_, rfl⟩
  rw [H]
  refine says_of Try.func42 rfl (nt := 9) rfl (Nat.le_of_ble_eq_true rfl) fun X hP h0 hX => ?_
  have hT : TabOk X.P T := hP ▸ tok
  have hf : X.P.funcs[42]? = some Try.f42 := hP ▸ Try.func42
  have Jj1 : ∀ (y1_2 : Bool), (spliceref04_value.j1 y1_2) = r → AK X 42 ((K42 11 1)) (Back X [] (.b r)) ⟨9, [(2, .b y1_2)], []⟩ := by
    intro y1_2 H
    obtain rfl := H
    exact ak_ret hf hX (av := .b y1_2) (by kernel_rfl) [] (sel_of_eq (by kernel_rfl)) (by decide) (by rw [h0]; rfl) (by kernel_rfl) (fun _ h => all_nil h) (.d (.v _))
  refine goK hT 9 (K42 110 3) ⟨9, [(0, .i a0), (5, .b (decide (a0 ≥ (-1099511627776))))], []⟩ ?_
  by_cases c1 : a0 ≥ (-1099511627776)
  · replace H := iT c1 H
    rw [decide_eq_true c1]
    refine goK hT 5 (K42 11 1) ⟨9, [(2, .b (decide (a0 ≤ 1099511627776)))], []⟩ ?_
    refine cutK [] ⟨9, [(2, .b (decide (a0 ≤ 1099511627776)))], []⟩ h0 ?_
    exact Jj1 (decide (a0 ≤ 1099511627776)) H
  · replace H := iF c1 H
    rw [decide_eq_false c1]
    refine goK hT 5 (K42 11 1) ⟨9, [(2, .b false)], []⟩ ?_
    refine cutK [] ⟨9, [(2, .b false)], []⟩ h0 ?_
    exact Jj1 false H


theorem spliceref04_pairs.says {t0 : Bool} (a0 : List spliceref04_Pair) (a1 : Int) (a2 : Int) {r : Bool} (H : spliceref04_pairs a0 a1 a2 = some r) : Says Try.prog 41 [] [.d (eL66 t0 a0), .i a1, .i a2] [] (.b r) := by
  refine says_of Try.func41 rfl (nt := 47) rfl (Nat.le_of_ble_eq_true rfl) fun X hP h0 hX => ?_
  have hT : TabOk X.P T := hP ▸ tok
  have hf : X.P.funcs[41]? = some Try.f41 := hP ▸ Try.func41
  have Jj1 : ∀ (y1_17 : Bool), (spliceref04_pairs.j1 a0 y1_17) = some r → AK X 41 ((K41 110 1)) (Back X [] (.b r)) ⟨47, [(0, .d (eL66 t0 a0)), (17, .b y1_17)], []⟩ := by
    intro y1_17 H
    by_cases c2 : y1_17 = true
    · replace H := iT c2 H
      rw [c2]
      refine goK hT 5 (K41 11010 1) ⟨47, [(6, .b false)], []⟩ ?_
      obtain rfl := retC H
      exact ak_ret hf hX (av := .b false) (by kernel_rfl) [] (sel_of_eq (by kernel_rfl)) (by decide) (by rw [h0]; rfl) (by kernel_rfl) (fun _ h => all_nil h) (.d (.v _))
    · replace H := iF c2 H
      rw [boF c2]
      refine goK hT 2 (K41 11 1) ⟨47, [(0, .d (eL66 t0 a0))], []⟩ ?_
      refine goK hT 7 (K41 111010 0) ⟨47, [(0, .d (eL66 t0 a0)), (7, .i 0)], []⟩ ?_
      have L : ∀ n, (∀ (x1_7 : Int), iter (spliceref04_pairs.step a0) n (.l1 x1_7) = some r → AK X 41 ((K41 111010 0)) (Back X [] (.b r)) ⟨47, [(0, .d (eL66 t0 a0)), (7, .i x1_7)], []⟩) := by
        intro n
        induction n with
        | zero => exact fun _ H => iter0 H
        | succ n ih =>
          · intro x1_7 H
            refine goK hT 8 (K41 11101000 1) ⟨47, [(0, .d (eL66 t0 a0)), (7, .i x1_7), (21, .b (decide (x1_7 < (a0.length : Int))))], []⟩ ?_
            by_cases c3 : x1_7 < (a0.length : Int)
            · replace H := sT c3 H
              rw [decide_eq_true c3]
              refine goK hT 2 (K41 1110100 1) ⟨47, [(0, .d (eL66 t0 a0)), (7, .i x1_7)], []⟩ ?_
              refine goK hT 6 (K41 11101001000 2) ⟨47, [(0, .d (eL66 t0 a0)), (7, .i x1_7), (24, .d (eL66 t0 a0)), (25, .i x1_7)], []⟩ ?_
              obtain ⟨h4, H⟩ := sC H
              have Jj2 : ∀ (y2_46 : Bool), stk (spliceref04_pairs.j2 x1_7 y2_46) (iter (spliceref04_pairs.step a0) n) = some r → AK X 41 ((K41 1110100100 1)) (Back X [] (.b r)) ⟨47, [(0, .d (eL66 t0 a0)), (7, .i x1_7), (46, .b y2_46)], []⟩ := by
                intro y2_46 H
                by_cases c7 : y2_46 = true
                · replace H := sT c7 H
                  rw [c7]
                  refine goK hT 5 (K41 111010010010 1) ⟨47, [(6, .b false)], []⟩ ?_
                  obtain rfl := retC H
                  exact ak_ret hf hX (av := .b false) (by kernel_rfl) [] (sel_of_eq (by kernel_rfl)) (by decide) (by rw [h0]; rfl) (by kernel_rfl) (fun _ h => all_nil h) (.d (.v _))
                · replace H := sF c7 H
                  rw [boF c7]
                  refine goK hT 3 (K41 11101001 1) ⟨47, [(0, .d (eL66 t0 a0)), (7, .i x1_7)], []⟩ ?_
                  refine goK hT 6 (K41 111010 0) ⟨47, [(0, .d (eL66 t0 a0)), (7, .i (IntKind.wrap .i64 (x1_7 + 1)))], []⟩ ?_
                  refine cutK [] ⟨47, [(0, .d (eL66 t0 a0)), (7, .i (IntKind.wrap .i64 (x1_7 + 1)))], []⟩ h0 ?_
                  exact ih (IntKind.wrap .i64 (x1_7 + 1)) H
              refine ak_idx hT [0, 7, 26] (i := x1_7) (n := (a0.length : Int)) h4.1 h4.2 (k' := (K41 11101001000 3)) (st' := ⟨47, [(0, .d (eL66 t0 a0)), (7, .i x1_7), (26, .d (eP66 t0 a0 x1_7.toNat 0))], []⟩) (by kernel_rfl) ?_
              refine goK hT 4 (K41 11101001000 7) ⟨47, [(0, .d (eL66 t0 a0)), (7, .i x1_7), (30, .b (decide (((a0.getD x1_7.toNat spliceref04_Pair.z).Key) < 0)))], []⟩ ?_
              by_cases c5 : ((a0.getD x1_7.toNat spliceref04_Pair.z).Key) < 0
              · replace H := sT c5 H
                rw [decide_eq_true c5]
                refine goK hT 17 (K41 1110100100 1) ⟨47, [(0, .d (eL66 t0 a0)), (7, .i x1_7), (46, .b true)], []⟩ ?_
                refine cutK [] ⟨47, [(0, .d (eL66 t0 a0)), (7, .i x1_7), (46, .b true)], []⟩ h0 ?_
                exact Jj2 true H
              · replace H := sF c5 H
                rw [decide_eq_false c5]
                refine goK hT 2 (K41 11101001000 9) ⟨47, [(0, .d (eL66 t0 a0)), (7, .i x1_7), (30, .b false), (31, .d (eL66 t0 a0)), (32, .i x1_7)], []⟩ ?_
                refine ak_idx hT [0, 7, 30, 33] (i := x1_7) (n := (a0.length : Int)) h4.1 h4.2 (k' := (K41 11101001000 10)) (st' := ⟨47, [(0, .d (eL66 t0 a0)), (7, .i x1_7), (30, .b false), (33, .d (eP66 t0 a0 x1_7.toNat 0))], []⟩) (by kernel_rfl) ?_
                refine goK hT 5 (K41 11101001000 15) ⟨47, [(0, .d (eL66 t0 a0)), (7, .i x1_7), (38, .b (decide (((a0.getD x1_7.toNat spliceref04_Pair.z).Key) > 4095)))], []⟩ ?_
                by_cases c6 : ((a0.getD x1_7.toNat spliceref04_Pair.z).Key) > 4095
                · replace H := sT c6 H
                  rw [decide_eq_true c6]
                  refine goK hT 9 (K41 1110100100 1) ⟨47, [(0, .d (eL66 t0 a0)), (7, .i x1_7), (46, .b true)], []⟩ ?_
                  refine cutK [] ⟨47, [(0, .d (eL66 t0 a0)), (7, .i x1_7), (46, .b true)], []⟩ h0 ?_
                  exact Jj2 true H
                · replace H := sF c6 H
                  rw [decide_eq_false c6]
                  refine goK hT 2 (K41 11101001000 17) ⟨47, [(0, .d (eL66 t0 a0)), (7, .i x1_7), (38, .b false), (39, .d (eL66 t0 a0)), (40, .i x1_7)], []⟩ ?_
                  refine ak_idx hT [0, 7, 38, 41] (i := x1_7) (n := (a0.length : Int)) h4.1 h4.2 (k' := (K41 11101001000 18)) (st' := ⟨47, [(0, .d (eL66 t0 a0)), (7, .i x1_7), (38, .b false), (41, .d (eP66 t0 a0 x1_7.toNat 0))], []⟩) (by kernel_rfl) ?_
                  refine goK hT 2 (K41 11101001000 20) ⟨47, [(0, .d (eL66 t0 a0)), (7, .i x1_7), (38, .b false), (43, .i ((a0.getD x1_7.toNat spliceref04_Pair.z).Val))], []⟩ ?_
                  refine ak_callP (avs := [.i ((a0.getD x1_7.toNat spliceref04_Pair.z).Val)]) (dst := some 44) (k' := (K41 11101001000 21)) [0, 7, 38, 44] [] hP enters_42 (spliceref04_value.says ((a0.getD x1_7.toNat spliceref04_Pair.z).Val)) (by kernel_rfl) (hands_none _) (.cons (pass_d _) .nil) (st' := ⟨47, [(0, .d (eL66 t0 a0)), (7, .i x1_7), (38, .b false), (44, .b (spliceref04_value ((a0.getD x1_7.toNat spliceref04_Pair.z).Val)))], []⟩) (by kernel_rfl) ?_
                  refine goK hT 3 (K41 1110100100 1) ⟨47, [(0, .d (eL66 t0 a0)), (7, .i x1_7), (46, .b (!(spliceref04_value ((a0.getD x1_7.toNat spliceref04_Pair.z).Val))))], []⟩ ?_
                  refine cutK [] ⟨47, [(0, .d (eL66 t0 a0)), (7, .i x1_7), (46, .b (!(spliceref04_value ((a0.getD x1_7.toNat spliceref04_Pair.z).Val))))], []⟩ h0 ?_
                  exact Jj2 (!(spliceref04_value ((a0.getD x1_7.toNat spliceref04_Pair.z).Val))) H
            · replace H := sF c3 H
              rw [decide_eq_false c3]
              refine goK hT 6 (K41 1111 1) ⟨47, [(6, .b true)], []⟩ ?_
              obtain rfl := retC H
              exact ak_ret hf hX (av := .b true) (by kernel_rfl) [] (sel_of_eq (by kernel_rfl)) (by decide) (by rw [h0]; rfl) (by kernel_rfl) (fun _ h => all_nil h) (.d (.v _))
      refine cutK [] ⟨47, [(0, .d (eL66 t0 a0)), (7, .i 0)], []⟩ h0 ?_
      obtain ⟨n, H⟩ := loopC H
      exact (L n) 0 H
  refine goK hT 12 (K41 1100 5) ⟨47, [(0, .d (eL66 t0 a0)), (2, .i a2), (12, .b (decide ((a0.length : Int) < a1)))], []⟩ ?_
  by_cases c1 : (a0.length : Int) < a1
  · replace H := iT c1 H
    rw [decide_eq_true c1]
    refine goK hT 6 (K41 110 1) ⟨47, [(0, .d (eL66 t0 a0)), (17, .b true)], []⟩ ?_
    refine cutK [] ⟨47, [(0, .d (eL66 t0 a0)), (17, .b true)], []⟩ h0 ?_
    exact Jj1 true H
  · replace H := iF c1 H
    rw [decide_eq_false c1]
    refine goK hT 6 (K41 110 1) ⟨47, [(0, .d (eL66 t0 a0)), (17, .b (decide ((a0.length : Int) > a2)))], []⟩ ?_
    refine cutK [] ⟨47, [(0, .d (eL66 t0 a0)), (17, .b (decide ((a0.length : Int) > a2)))], []⟩ h0 ?_
    exact Jj1 (decide ((a0.length : Int) > a2)) H
end Go.SyP
