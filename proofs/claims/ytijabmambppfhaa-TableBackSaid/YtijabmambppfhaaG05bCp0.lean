/- Certificates, printed by gen.py. -/
import Derived.Test.YtijabmambppfhaaG05bD
import Derived.Test.YtijabmambppfhaaG05bI
set_option linter.unusedVariables false
set_option linter.unusedSimpArgs false
namespace Go.SyP
open Go Go.Sy Go.Proofs


theorem splicelaw05_few.says {t0 : Bool} {t2 : Bool} (a0 : List api_Pair) (a1 : api_Mut) (a2 : List api_Span) : Says Try.prog 14 [] [.d (eL47 t0 a0), .d (eG26 a1), .d (eL24 t2 a2)] [] (.b (splicelaw05_few a0 a1 a2)) := by
  obtain ⟨r, H⟩ : ∃ r, splicelaw05_few a0 a1 a2 = r := ⟨_, rfl⟩
  rw [H]
  refine says_of Try.func14 rfl (nt := 21) rfl (Nat.le_of_ble_eq_true rfl) fun X hP h0 hX => ?_
  have hT : TabOk X.P T := hP ▸ tok
  have hf : X.P.funcs[14]? = some Try.f14 := hP ▸ Try.func14
  have Jj1 : ∀ (y1_6 : Bool), (splicelaw05_few.j1 y1_6) = r → AK X 14 ((K14 11 1)) (Back X [] (.b r)) ⟨21, [(6, .b y1_6)], []⟩ := by
    intro y1_6 H
    obtain rfl := H
    exact ak_ret hf hX (av := .b y1_6) (by kernel_rfl) [] (sel_of_eq (by kernel_rfl)) (by decide) (by rw [h0]; rfl) (by kernel_rfl) (fun _ h => all_nil h) (.d (.v _))
  refine goK hT 11 (K14 110 4) ⟨21, [(2, .d (eL24 t2 a2)), (4, .ptr 0 0 0 0), (10, .b (decide ((a0.length : Int) ≤ 200)))], [.box 26 (eC26 a1)]⟩ ?_
  by_cases c1 : (a0.length : Int) ≤ 200
  · replace H := iT c1 H
    rw [decide_eq_true c1]
    refine goK hT 6 (K14 110 10) ⟨21, [(2, .d (eL24 t2 a2)), (16, .b (decide ((a1.Pairs.length : Int) ≤ 100)))], [.box 26 (eC26 a1)]⟩ ?_
    by_cases c2 : (a1.Pairs.length : Int) ≤ 100
    · replace H := iT c2 H
      rw [decide_eq_true c2]
      refine goK hT 6 (K14 11 1) ⟨21, [(6, .b (decide ((a2.length : Int) ≤ 100)))], [.box 26 (eC26 a1)]⟩ ?_
      refine cutK [] ⟨21, [(6, .b (decide ((a2.length : Int) ≤ 100)))], []⟩ h0 ?_
      exact Jj1 (decide ((a2.length : Int) ≤ 100)) H
    · replace H := iF c2 H
      rw [decide_eq_false c2]
      refine goK hT 6 (K14 11 1) ⟨21, [(6, .b false)], [.box 26 (eC26 a1)]⟩ ?_
      refine cutK [] ⟨21, [(6, .b false)], []⟩ h0 ?_
      exact Jj1 false H
  · replace H := iF c1 H
    rw [decide_eq_false c1]
    refine goK hT 12 (K14 11 1) ⟨21, [(6, .b false)], [.box 26 (eC26 a1)]⟩ ?_
    refine cutK [] ⟨21, [(6, .b false)], []⟩ h0 ?_
    exact Jj1 false H


theorem table_Check.says {t0 : Bool} (a0 : List api_Pair) {r : Bool} (H : table_Check a0 = some r) : Says Try.prog 22 [] [.d (eL47 t0 a0)] [] (.b r) := by
  refine says_of Try.func22 rfl (nt := 46) rfl (Nat.le_of_ble_eq_true rfl) fun X hP h0 hX => ?_
  have hT : TabOk X.P T := hP ▸ tok
  have hf : X.P.funcs[22]? = some Try.f22 := hP ▸ Try.func22
  refine goK hT 13 (K22 11010 0) ⟨46, [(0, .d (eL47 t0 a0)), (5, .d (eL47 t0 a0)), (6, .i (a0.length : Int)), (7, .i 0)], []⟩ ?_
  have L : ∀ n, (∀ (x1_7 : Int), iter (table_Check.step a0) n (.l1 x1_7) = some r → AK X 22 ((K22 11010 0)) (Back X [] (.b r)) ⟨46, [(0, .d (eL47 t0 a0)), (5, .d (eL47 t0 a0)), (6, .i (a0.length : Int)), (7, .i x1_7)], []⟩) := by
    intro n
    induction n with
    | zero => exact fun _ H => iter0 H
    | succ n ih =>
      · intro x1_7 H
        refine goK hT 5 (K22 1101001 0) ⟨46, [(0, .d (eL47 t0 a0)), (5, .d (eL47 t0 a0)), (6, .i (a0.length : Int)), (7, .i x1_7), (8, .b (decide (x1_7 < (a0.length : Int))))], []⟩ ?_
        by_cases c1 : x1_7 < (a0.length : Int)
        · replace H := sT c1 H
          rw [decide_eq_true c1]
          refine goK hT 2 (K22 1101001 1) ⟨46, [(0, .d (eL47 t0 a0)), (5, .d (eL47 t0 a0)), (6, .i (a0.length : Int)), (7, .i x1_7)], []⟩ ?_
          refine goK hT 5 (K22 11010011000 1) ⟨46, [(0, .d (eL47 t0 a0)), (5, .d (eL47 t0 a0)), (6, .i (a0.length : Int)), (7, .i x1_7), (9, .i x1_7)], []⟩ ?_
          obtain ⟨h2, H⟩ := sC H
          have Jj1 : ∀ (y1_44 : Bool), stk (table_Check.j1 x1_7 y1_44) (iter (table_Check.step a0) n) = some r → AK X 22 ((K22 11010011001 1)) (Back X [] (.b r)) ⟨46, [(0, .d (eL47 t0 a0)), (5, .d (eL47 t0 a0)), (6, .i (a0.length : Int)), (7, .i x1_7), (44, .b y1_44)], []⟩ := by
            intro y1_44 H
            by_cases c9 : y1_44 = true
            · replace H := sT c9 H
              rw [c9]
              refine goK hT 5 (K22 1101001100110 1) ⟨46, [(2, .b false)], []⟩ ?_
              obtain rfl := retC H
              exact ak_ret hf hX (av := .b false) (by kernel_rfl) [] (sel_of_eq (by kernel_rfl)) (by decide) (by rw [h0]; rfl) (by kernel_rfl) (fun _ h => all_nil h) (.d (.v _))
            · replace H := sF c9 H
              rw [boF c9]
              refine goK hT 3 (K22 11010011 1) ⟨46, [(0, .d (eL47 t0 a0)), (5, .d (eL47 t0 a0)), (6, .i (a0.length : Int)), (7, .i x1_7)], []⟩ ?_
              refine goK hT 5 (K22 11010 0) ⟨46, [(0, .d (eL47 t0 a0)), (5, .d (eL47 t0 a0)), (6, .i (a0.length : Int)), (7, .i (IntKind.wrap .i64 (x1_7 + 1)))], []⟩ ?_
              refine cutK [] ⟨46, [(0, .d (eL47 t0 a0)), (5, .d (eL47 t0 a0)), (6, .i (a0.length : Int)), (7, .i (IntKind.wrap .i64 (x1_7 + 1)))], []⟩ h0 ?_
              exact ih (IntKind.wrap .i64 (x1_7 + 1)) H
          refine ak_idx hT [0, 5, 6, 7, 9, 10] (i := x1_7) (n := (a0.length : Int)) h2.1 h2.2 (k' := (K22 11010011000 2)) (st' := ⟨46, [(0, .d (eL47 t0 a0)), (5, .d (eL47 t0 a0)), (6, .i (a0.length : Int)), (7, .i x1_7), (9, .i x1_7), (10, .d (eP47 t0 a0 x1_7.toNat 0))], []⟩) (by kernel_rfl) ?_
          refine goK hT 6 (K22 11010011001 0) ⟨46, [(0, .d (eL47 t0 a0)), (3, .i x1_7), (4, .ptr 0 0 0 0), (5, .d (eL47 t0 a0)), (6, .i (a0.length : Int)), (7, .i x1_7)], [.box 47 (eC47 (a0.getD x1_7.toNat api_Pair.z))]⟩ ?_
          by_cases c3 : ((a0.getD x1_7.toNat api_Pair.z).Key) < 0
          · replace H := sT c3 H
            refine drawK (hP ▸ mixed) 33 [0, 3, 4, 5, 6, 7] [some (.ptr 0 0 0 0), some (.i ((a0.getD x1_7.toNat api_Pair.z).Key)), some (.b true), some (.b true), some (.tup []), some (.tup []), some (.tup []), some (.b true), some (.b true), some (.tup []), some (.tup []), some (.tup []), some (.b true), some (.b true), some (.tup []), some (.tup []), some (.tup []), some (.b true), some (.b true), some (.tup []), some (.tup []), some (.tup []), some (.tup []), some (.tup []), some (.tup []), some (.tup []), some (.tup []), some (.tup []), some (.tup []), some (.tup []), some (.tup []), some (.tup []), some (.b true)] (opG (opG (opG (opG (opG (opG (opG (opG (opG (opG (opG (opG (opG (opG (opG (opG (opG (opG (opG (opG (opG (opG (opG (opG (opG (opG (opG (opG (opG (opG (opV (opG (opG op0 hT) hT) hT 14 (.b (decide (((a0.getD x1_7.toNat api_Pair.z).Key) < 0))) (.b true) (by rw [decide_eq_true c3])) hT) hT) hT) hT) hT) hT) hT) hT) hT) hT) hT) hT) hT) hT) hT) hT) hT) hT) hT) hT) hT) hT) hT) hT) hT) hT) hT) hT) hT) hT) ?_
            refine goK hT 1 (K22 11010011001 1) ⟨46, [(0, .d (eL47 t0 a0)), (5, .d (eL47 t0 a0)), (6, .i (a0.length : Int)), (7, .i x1_7), (44, .b true)], [.box 47 (eC47 (a0.getD x1_7.toNat api_Pair.z))]⟩ ?_
            refine cutK [] ⟨46, [(0, .d (eL47 t0 a0)), (5, .d (eL47 t0 a0)), (6, .i (a0.length : Int)), (7, .i x1_7), (44, .b true)], []⟩ h0 ?_
            exact Jj1 true H
          · replace H := sF c3 H
            by_cases c4 : ((a0.getD x1_7.toNat api_Pair.z).Key) ≥ 4096
            · replace H := sT c4 H
              refine drawK (hP ▸ mixed) 33 [0, 3, 4, 5, 6, 7] [some (.ptr 0 0 0 0), some (.i ((a0.getD x1_7.toNat api_Pair.z).Key)), some (.b false), some (.b false), some (.ptr 0 0 0 0), some (.i ((a0.getD x1_7.toNat api_Pair.z).Key)), some (.b true), some (.b true), some (.b true), some (.tup []), some (.tup []), some (.tup []), some (.b true), some (.b true), some (.tup []), some (.tup []), some (.tup []), some (.b true), some (.b true), some (.tup []), some (.tup []), some (.tup []), some (.tup []), some (.tup []), some (.tup []), some (.tup []), some (.tup []), some (.tup []), some (.tup []), some (.tup []), some (.tup []), some (.tup []), some (.b true)] (opG (opG (opG (opG (opG (opG (opG (opG (opG (opG (opG (opG (opG (opG (opG (opG (opG (opG (opG (opG (opG (opG (opG (opG (opG (opG (opV (opG (opG (opG (opV (opG (opG op0 hT) hT) hT 14 (.b (decide (((a0.getD x1_7.toNat api_Pair.z).Key) < 0))) (.b false) (by rw [decide_eq_false c3])) hT) hT) hT) hT 18 (.b (decide (((a0.getD x1_7.toNat api_Pair.z).Key) ≥ 4096))) (.b true) (by rw [decide_eq_true c4])) hT) hT) hT) hT) hT) hT) hT) hT) hT) hT) hT) hT) hT) hT) hT) hT) hT) hT) hT) hT) hT) hT) hT) hT) hT) hT) ?_
              refine goK hT 1 (K22 11010011001 1) ⟨46, [(0, .d (eL47 t0 a0)), (5, .d (eL47 t0 a0)), (6, .i (a0.length : Int)), (7, .i x1_7), (44, .b true)], [.box 47 (eC47 (a0.getD x1_7.toNat api_Pair.z))]⟩ ?_
              refine cutK [] ⟨46, [(0, .d (eL47 t0 a0)), (5, .d (eL47 t0 a0)), (6, .i (a0.length : Int)), (7, .i x1_7), (44, .b true)], []⟩ h0 ?_
              exact Jj1 true H
            · replace H := sF c4 H
              by_cases c5 : ((a0.getD x1_7.toNat api_Pair.z).Val) < (-1099511627776)
              · replace H := sT c5 H
                refine drawK (hP ▸ mixed) 33 [0, 3, 4, 5, 6, 7] [some (.ptr 0 0 0 0), some (.i ((a0.getD x1_7.toNat api_Pair.z).Key)), some (.b false), some (.b false), some (.ptr 0 0 0 0), some (.i ((a0.getD x1_7.toNat api_Pair.z).Key)), some (.b false), some (.b false), some (.b false), some (.ptr 0 0 0 1), some (.i ((a0.getD x1_7.toNat api_Pair.z).Val)), some (.b true), some (.b true), some (.b true), some (.tup []), some (.tup []), some (.tup []), some (.b true), some (.b true), some (.tup []), some (.tup []), some (.tup []), some (.tup []), some (.tup []), some (.tup []), some (.tup []), some (.tup []), some (.tup []), some (.tup []), some (.tup []), some (.tup []), some (.tup []), some (.b true)] (opG (opG (opG (opG (opG (opG (opG (opG (opG (opG (opG (opG (opG (opG (opG (opG (opG (opG (opG (opG (opG (opV (opG (opG (opG (opG (opV (opG (opG (opG (opV (opG (opG op0 hT) hT) hT 14 (.b (decide (((a0.getD x1_7.toNat api_Pair.z).Key) < 0))) (.b false) (by rw [decide_eq_false c3])) hT) hT) hT) hT 18 (.b (decide (((a0.getD x1_7.toNat api_Pair.z).Key) ≥ 4096))) (.b false) (by rw [decide_eq_false c4])) hT) hT) hT) hT) hT 23 (.b (decide (((a0.getD x1_7.toNat api_Pair.z).Val) < (-1099511627776)))) (.b true) (by rw [decide_eq_true c5])) hT) hT) hT) hT) hT) hT) hT) hT) hT) hT) hT) hT) hT) hT) hT) hT) hT) hT) hT) hT) hT) ?_
                refine goK hT 1 (K22 11010011001 1) ⟨46, [(0, .d (eL47 t0 a0)), (5, .d (eL47 t0 a0)), (6, .i (a0.length : Int)), (7, .i x1_7), (44, .b true)], [.box 47 (eC47 (a0.getD x1_7.toNat api_Pair.z))]⟩ ?_
                refine cutK [] ⟨46, [(0, .d (eL47 t0 a0)), (5, .d (eL47 t0 a0)), (6, .i (a0.length : Int)), (7, .i x1_7), (44, .b true)], []⟩ h0 ?_
                exact Jj1 true H
              · replace H := sF c5 H
                by_cases c6 : ((a0.getD x1_7.toNat api_Pair.z).Val) > 1099511627776
                · replace H := sT c6 H
                  refine drawK (hP ▸ mixed) 33 [0, 3, 4, 5, 6, 7] [some (.ptr 0 0 0 0), some (.i ((a0.getD x1_7.toNat api_Pair.z).Key)), some (.b false), some (.b false), some (.ptr 0 0 0 0), some (.i ((a0.getD x1_7.toNat api_Pair.z).Key)), some (.b false), some (.b false), some (.b false), some (.ptr 0 0 0 1), some (.i ((a0.getD x1_7.toNat api_Pair.z).Val)), some (.b false), some (.b false), some (.b false), some (.ptr 0 0 0 1), some (.i ((a0.getD x1_7.toNat api_Pair.z).Val)), some (.b true), some (.b true), some (.b true), some (.tup []), some (.tup []), some (.tup []), some (.tup []), some (.tup []), some (.tup []), some (.tup []), some (.tup []), some (.tup []), some (.tup []), some (.tup []), some (.tup []), some (.tup []), some (.b true)] (opG (opG (opG (opG (opG (opG (opG (opG (opG (opG (opG (opG (opG (opG (opG (opG (opV (opG (opG (opG (opG (opV (opG (opG (opG (opG (opV (opG (opG (opG (opV (opG (opG op0 hT) hT) hT 14 (.b (decide (((a0.getD x1_7.toNat api_Pair.z).Key) < 0))) (.b false) (by rw [decide_eq_false c3])) hT) hT) hT) hT 18 (.b (decide (((a0.getD x1_7.toNat api_Pair.z).Key) ≥ 4096))) (.b false) (by rw [decide_eq_false c4])) hT) hT) hT) hT) hT 23 (.b (decide (((a0.getD x1_7.toNat api_Pair.z).Val) < (-1099511627776)))) (.b false) (by rw [decide_eq_false c5])) hT) hT) hT) hT) hT 28 (.b (decide (((a0.getD x1_7.toNat api_Pair.z).Val) > 1099511627776))) (.b true) (by rw [decide_eq_true c6])) hT) hT) hT) hT) hT) hT) hT) hT) hT) hT) hT) hT) hT) hT) hT) hT) ?_
                  refine goK hT 1 (K22 11010011001 1) ⟨46, [(0, .d (eL47 t0 a0)), (5, .d (eL47 t0 a0)), (6, .i (a0.length : Int)), (7, .i x1_7), (44, .b true)], [.box 47 (eC47 (a0.getD x1_7.toNat api_Pair.z))]⟩ ?_
                  refine cutK [] ⟨46, [(0, .d (eL47 t0 a0)), (5, .d (eL47 t0 a0)), (6, .i (a0.length : Int)), (7, .i x1_7), (44, .b true)], []⟩ h0 ?_
                  exact Jj1 true H
                · replace H := sF c6 H
                  by_cases c7 : x1_7 > 0
                  · replace H := sT c7 H
                    obtain ⟨h8, H⟩ := sC H
                    refine drawK (hP ▸ mixed) 33 [0, 3, 4, 5, 6, 7] [some (.ptr 0 0 0 0), some (.i ((a0.getD x1_7.toNat api_Pair.z).Key)), some (.b false), some (.b false), some (.ptr 0 0 0 0), some (.i ((a0.getD x1_7.toNat api_Pair.z).Key)), some (.b false), some (.b false), some (.b false), some (.ptr 0 0 0 1), some (.i ((a0.getD x1_7.toNat api_Pair.z).Val)), some (.b false), some (.b false), some (.b false), some (.ptr 0 0 0 1), some (.i ((a0.getD x1_7.toNat api_Pair.z).Val)), some (.b false), some (.b false), some (.b false), some (.i x1_7), some (.b true), some (.b true), some (.d (eL47 t0 a0)), some (.i x1_7), some (.i (IntKind.wrap .i64 (x1_7 - 1))), some (.d (eP47 t0 a0 ((IntKind.wrap .i64 (x1_7 - 1)).toNat) 0)), some (.d (eP47 t0 a0 ((IntKind.wrap .i64 (x1_7 - 1)).toNat) 0)), some (.i ((a0.getD ((IntKind.wrap .i64 (x1_7 - 1)).toNat) api_Pair.z).Key)), some (.ptr 0 0 0 0), some (.i ((a0.getD x1_7.toNat api_Pair.z).Key)), some (.b (decide (((a0.getD ((IntKind.wrap .i64 (x1_7 - 1)).toNat) api_Pair.z).Key) ≥ ((a0.getD x1_7.toNat api_Pair.z).Key)))), some (.b (decide (((a0.getD ((IntKind.wrap .i64 (x1_7 - 1)).toNat) api_Pair.z).Key) ≥ ((a0.getD x1_7.toNat api_Pair.z).Key)))), some (.b (decide (((a0.getD ((IntKind.wrap .i64 (x1_7 - 1)).toNat) api_Pair.z).Key) ≥ ((a0.getD x1_7.toNat api_Pair.z).Key))))] (opG (opG (opG (opG (opG (opG (opG (opS (opG (opG (opG (opG (opV (opG (opG (opG (opV (opG (opG (opG (opG (opV (opG (opG (opG (opG (opV (opG (opG (opG (opV (opG (opG op0 hT) hT) hT 14 (.b (decide (((a0.getD x1_7.toNat api_Pair.z).Key) < 0))) (.b false) (by rw [decide_eq_false c3])) hT) hT) hT) hT 18 (.b (decide (((a0.getD x1_7.toNat api_Pair.z).Key) ≥ 4096))) (.b false) (by rw [decide_eq_false c4])) hT) hT) hT) hT) hT 23 (.b (decide (((a0.getD x1_7.toNat api_Pair.z).Val) < (-1099511627776)))) (.b false) (by rw [decide_eq_false c5])) hT) hT) hT) hT) hT 28 (.b (decide (((a0.getD x1_7.toNat api_Pair.z).Val) > 1099511627776))) (.b false) (by rw [decide_eq_false c6])) hT) hT) hT) hT 32 (.b (decide (x1_7 > 0))) (.b true) (by rw [decide_eq_true c7])) hT) hT) hT) hT) (fun R rest h => ak_idx0 hT (i := IntKind.wrap .i64 (x1_7 - 1)) (n := (a0.length : Int)) h8.1 h8.2 (by kernel_rfl) h)) hT) hT) hT) hT) hT) hT) hT) ?_
                    refine goK hT 1 (K22 11010011001 1) ⟨46, [(0, .d (eL47 t0 a0)), (5, .d (eL47 t0 a0)), (6, .i (a0.length : Int)), (7, .i x1_7), (44, .b (decide (((a0.getD ((IntKind.wrap .i64 (x1_7 - 1)).toNat) api_Pair.z).Key) ≥ ((a0.getD x1_7.toNat api_Pair.z).Key))))], [.box 47 (eC47 (a0.getD x1_7.toNat api_Pair.z))]⟩ ?_
                    refine cutK [] ⟨46, [(0, .d (eL47 t0 a0)), (5, .d (eL47 t0 a0)), (6, .i (a0.length : Int)), (7, .i x1_7), (44, .b (decide (((a0.getD ((IntKind.wrap .i64 (x1_7 - 1)).toNat) api_Pair.z).Key) ≥ ((a0.getD x1_7.toNat api_Pair.z).Key))))], []⟩ h0 ?_
                    exact Jj1 (decide (((a0.getD ((IntKind.wrap .i64 (x1_7 - 1)).toNat) api_Pair.z).Key) ≥ ((a0.getD x1_7.toNat api_Pair.z).Key))) H
                  · replace H := sF c7 H
                    refine drawK (hP ▸ mixed) 33 [0, 3, 4, 5, 6, 7] [some (.ptr 0 0 0 0), some (.i ((a0.getD x1_7.toNat api_Pair.z).Key)), some (.b false), some (.b false), some (.ptr 0 0 0 0), some (.i ((a0.getD x1_7.toNat api_Pair.z).Key)), some (.b false), some (.b false), some (.b false), some (.ptr 0 0 0 1), some (.i ((a0.getD x1_7.toNat api_Pair.z).Val)), some (.b false), some (.b false), some (.b false), some (.ptr 0 0 0 1), some (.i ((a0.getD x1_7.toNat api_Pair.z).Val)), some (.b false), some (.b false), some (.b false), some (.i x1_7), some (.b false), some (.b false), some (.tup []), some (.tup []), some (.tup []), some (.tup []), some (.tup []), some (.tup []), some (.tup []), some (.tup []), some (.tup []), some (.b false), some (.b false)] (opG (opG (opG (opG (opG (opG (opG (opG (opG (opG (opG (opG (opV (opG (opG (opG (opV (opG (opG (opG (opG (opV (opG (opG (opG (opG (opV (opG (opG (opG (opV (opG (opG op0 hT) hT) hT 14 (.b (decide (((a0.getD x1_7.toNat api_Pair.z).Key) < 0))) (.b false) (by rw [decide_eq_false c3])) hT) hT) hT) hT 18 (.b (decide (((a0.getD x1_7.toNat api_Pair.z).Key) ≥ 4096))) (.b false) (by rw [decide_eq_false c4])) hT) hT) hT) hT) hT 23 (.b (decide (((a0.getD x1_7.toNat api_Pair.z).Val) < (-1099511627776)))) (.b false) (by rw [decide_eq_false c5])) hT) hT) hT) hT) hT 28 (.b (decide (((a0.getD x1_7.toNat api_Pair.z).Val) > 1099511627776))) (.b false) (by rw [decide_eq_false c6])) hT) hT) hT) hT 32 (.b (decide (x1_7 > 0))) (.b false) (by rw [decide_eq_false c7])) hT) hT) hT) hT) hT) hT) hT) hT) hT) hT) hT) hT) ?_
                    refine goK hT 1 (K22 11010011001 1) ⟨46, [(0, .d (eL47 t0 a0)), (5, .d (eL47 t0 a0)), (6, .i (a0.length : Int)), (7, .i x1_7), (44, .b false)], [.box 47 (eC47 (a0.getD x1_7.toNat api_Pair.z))]⟩ ?_
                    refine cutK [] ⟨46, [(0, .d (eL47 t0 a0)), (5, .d (eL47 t0 a0)), (6, .i (a0.length : Int)), (7, .i x1_7), (44, .b false)], []⟩ h0 ?_
                    exact Jj1 false H
        · replace H := sF c1 H
          rw [decide_eq_false c1]
          refine goK hT 6 (K22 111 1) ⟨46, [(2, .b true)], []⟩ ?_
          obtain rfl := retC H
          exact ak_ret hf hX (av := .b true) (by kernel_rfl) [] (sel_of_eq (by kernel_rfl)) (by decide) (by rw [h0]; rfl) (by kernel_rfl) (fun _ h => all_nil h) (.d (.v _))
  refine cutK [] ⟨46, [(0, .d (eL47 t0 a0)), (5, .d (eL47 t0 a0)), (6, .i (a0.length : Int)), (7, .i 0)], []⟩ h0 ?_
  obtain ⟨n, H⟩ := loopC H
  exact (L n) 0 H


theorem slices_IndexFunc_api_Pair.says {t0 : Bool} {ff1 : FuncId} {cc1 : List DV} (a0 : List api_Pair) (p1 : api_Pair → Option Bool) (he1 : Sy.Enters Try.prog ff1) (hp1 : ∀ (z0 : api_Pair) r, p1 z0 = some r → Says Try.prog ff1 [] ([.d (eG47 z0)] ++ List.map AV.d cc1) [] (.b r)) {r : Int} (H : slices_IndexFunc_api_Pair a0 p1 = some r) : Says Try.prog 106 [] [.d (eL47 t0 a0), .d (.fn ff1 cc1)] [] (.i r) := by
  refine says_of Try.func106 rfl (nt := 19) rfl (Nat.le_of_ble_eq_true rfl) fun X hP h0 hX => ?_
  have hT : TabOk X.P T := hP ▸ tok
  have hf : X.P.funcs[106]? = some Try.f106 := hP ▸ Try.func106
  refine goK hT 13 (K106 11010 0) ⟨19, [(0, .d (eL47 t0 a0)), (1, .d (.fn ff1 cc1)), (7, .i (a0.length : Int)), (8, .i 0)], []⟩ ?_
  have L : ∀ n, (∀ (x1_8 : Int), iter (slices_IndexFunc_api_Pair.step a0 p1) n (.l1 x1_8) = some r → AK X 106 ((K106 11010 0)) (Back X [] (.i r)) ⟨19, [(0, .d (eL47 t0 a0)), (1, .d (.fn ff1 cc1)), (7, .i (a0.length : Int)), (8, .i x1_8)], []⟩) := by
    intro n
    induction n with
    | zero => exact fun _ H => iter0 H
    | succ n ih =>
      · intro x1_8 H
        refine goK hT 5 (K106 1101001 0) ⟨19, [(0, .d (eL47 t0 a0)), (1, .d (.fn ff1 cc1)), (7, .i (a0.length : Int)), (8, .i x1_8), (9, .b (decide (x1_8 < (a0.length : Int))))], []⟩ ?_
        by_cases c1 : x1_8 < (a0.length : Int)
        · replace H := sT c1 H
          rw [decide_eq_true c1]
          refine goK hT 2 (K106 1101001 1) ⟨19, [(0, .d (eL47 t0 a0)), (1, .d (.fn ff1 cc1)), (7, .i (a0.length : Int)), (8, .i x1_8)], []⟩ ?_
          refine goK hT 12 (K106 110100110010 3) ⟨19, [(0, .d (eL47 t0 a0)), (1, .d (.fn ff1 cc1)), (5, .i x1_8), (7, .i (a0.length : Int)), (8, .i x1_8), (11, .d (.fn ff1 cc1)), (12, .d (eL47 t0 a0)), (13, .i x1_8)], []⟩ ?_
          obtain ⟨h2, H⟩ := sC H
          refine ak_idx hT [0, 1, 5, 7, 8, 11, 14] (i := x1_8) (n := (a0.length : Int)) h2.1 h2.2 (k' := (K106 110100110010 4)) (st' := ⟨19, [(0, .d (eL47 t0 a0)), (1, .d (.fn ff1 cc1)), (5, .i x1_8), (7, .i (a0.length : Int)), (8, .i x1_8), (11, .d (.fn ff1 cc1)), (14, .d (eP47 t0 a0 x1_8.toNat 0))], []⟩) (by kernel_rfl) ?_
          refine goK hT 1 (K106 110100110010 5) ⟨19, [(0, .d (eL47 t0 a0)), (1, .d (.fn ff1 cc1)), (5, .i x1_8), (7, .i (a0.length : Int)), (8, .i x1_8), (11, .d (.fn ff1 cc1)), (15, .d (eG47 (a0.getD x1_8.toNat api_Pair.z)))], []⟩ ?_
          obtain ⟨v1, h3, H⟩ := sbC H
          refine ak_callP (avs := [.d (eG47 (a0.getD x1_8.toNat api_Pair.z))] ++ List.map AV.d cc1) (dst := some 16) (k' := (K106 110100110010 6)) [0, 1, 5, 7, 8, 16] [] hP he1 (hp1 (a0.getD x1_8.toNat api_Pair.z) v1 h3) (by kernel_rfl) (hands_none _) (.cons (pass_d _) (passes_d _)) (st' := ⟨19, [(0, .d (eL47 t0 a0)), (1, .d (.fn ff1 cc1)), (5, .i x1_8), (7, .i (a0.length : Int)), (8, .i x1_8), (16, .b v1)], []⟩) (by kernel_rfl) ?_
          refine goK hT 1 (K106 11010011001 1) ⟨19, [(0, .d (eL47 t0 a0)), (1, .d (.fn ff1 cc1)), (5, .i x1_8), (7, .i (a0.length : Int)), (8, .i x1_8), (16, .b v1)], []⟩ ?_
          by_cases c4 : v1 = true
          · replace H := sT c4 H
            rw [c4]
            refine goK hT 6 (K106 1101001100110 1) ⟨19, [(4, .i x1_8)], []⟩ ?_
            obtain rfl := retC H
            exact ak_ret hf hX (av := .i x1_8) (by kernel_rfl) [] (sel_of_eq (by kernel_rfl)) (by decide) (by rw [h0]; rfl) (by kernel_rfl) (fun _ h => all_nil h) (.d (.v _))
          · replace H := sF c4 H
            rw [boF c4]
            refine goK hT 3 (K106 11010011 1) ⟨19, [(0, .d (eL47 t0 a0)), (1, .d (.fn ff1 cc1)), (7, .i (a0.length : Int)), (8, .i x1_8)], []⟩ ?_
            refine goK hT 5 (K106 11010 0) ⟨19, [(0, .d (eL47 t0 a0)), (1, .d (.fn ff1 cc1)), (7, .i (a0.length : Int)), (8, .i (IntKind.wrap .i64 (x1_8 + 1)))], []⟩ ?_
            refine cutK [] ⟨19, [(0, .d (eL47 t0 a0)), (1, .d (.fn ff1 cc1)), (7, .i (a0.length : Int)), (8, .i (IntKind.wrap .i64 (x1_8 + 1)))], []⟩ h0 ?_
            exact ih (IntKind.wrap .i64 (x1_8 + 1)) H
        · replace H := sF c1 H
          rw [decide_eq_false c1]
          refine goK hT 6 (K106 111 1) ⟨19, [(4, .i (-1))], []⟩ ?_
          obtain rfl := retC H
          exact ak_ret hf hX (av := .i (-1)) (by kernel_rfl) [] (sel_of_eq (by kernel_rfl)) (by decide) (by rw [h0]; rfl) (by kernel_rfl) (fun _ h => all_nil h) (.d (.v _))
  refine cutK [] ⟨19, [(0, .d (eL47 t0 a0)), (1, .d (.fn ff1 cc1)), (7, .i (a0.length : Int)), (8, .i 0)], []⟩ h0 ?_
  obtain ⟨n, H⟩ := loopC H
  exact (L n) 0 H


theorem slices_ContainsFunc_api_Pair.says {t0 : Bool} {ff1 : FuncId} {cc1 : List DV} (a0 : List api_Pair) (p1 : api_Pair → Option Bool) (he1 : Sy.Enters Try.prog ff1) (hp1 : ∀ (z0 : api_Pair) r, p1 z0 = some r → Says Try.prog ff1 [] ([.d (eG47 z0)] ++ List.map AV.d cc1) [] (.b r)) {r : Bool} (H : slices_ContainsFunc_api_Pair a0 p1 = some r) : Says Try.prog 111 [] [.d (eL47 t0 a0), .d (.fn ff1 cc1)] [] (.b r) := by
  refine says_of Try.func111 rfl (nt := 9) rfl (Nat.le_of_ble_eq_true rfl) fun X hP h0 hX => ?_
  have hT : TabOk X.P T := hP ▸ tok
  have hf : X.P.funcs[111]? = some Try.f111 := hP ▸ Try.func111
  refine goK hT 8 (K111 110 2) ⟨9, [(5, .d (eL47 t0 a0)), (6, .d (.fn ff1 cc1))], []⟩ ?_
  obtain ⟨v1, h1, H⟩ := ibC H
  refine ak_callP (avs := [.d (eL47 t0 a0), .d (.fn ff1 cc1)]) (dst := some 7) (k' := (K111 110 3)) [7] [] hP enters_106 (slices_IndexFunc_api_Pair.says (t0 := t0) (ff1 := ff1) (cc1 := cc1) a0 p1 he1 hp1 h1) (by kernel_rfl) (hands_none _) (.cons (pass_d _) (.cons (pass_d _) .nil)) (st' := ⟨9, [(7, .i v1)], []⟩) (by kernel_rfl) ?_
  refine goK hT 3 (K111 11 1) ⟨9, [(4, .b (decide (v1 ≥ 0)))], []⟩ ?_
  obtain rfl := retC H
  exact ak_ret hf hX (av := .b (decide (v1 ≥ 0))) (by kernel_rfl) [] (sel_of_eq (by kernel_rfl)) (by decide) (by rw [h0]; rfl) (by kernel_rfl) (fun _ h => all_nil h) (.d (.v _))


theorem mut_value.says (a0 : Int) : Says Try.prog 90 [] [.i a0] [] (.b (mut_value a0)) := by
  obtain ⟨r, H⟩ : ∃ r, mut_value a0 = r := ⟨_, rfl⟩
  rw [H]
  refine says_of Try.func90 rfl (nt := 9) rfl (Nat.le_of_ble_eq_true rfl) fun X hP h0 hX => ?_
  have hT : TabOk X.P T := hP ▸ tok
  have hf : X.P.funcs[90]? = some Try.f90 := hP ▸ Try.func90
  have Jj1 : ∀ (y1_2 : Bool), (mut_value.j1 y1_2) = r → AK X 90 ((K90 11 1)) (Back X [] (.b r)) ⟨9, [(2, .b y1_2)], []⟩ := by
    intro y1_2 H
    obtain rfl := H
    exact ak_ret hf hX (av := .b y1_2) (by kernel_rfl) [] (sel_of_eq (by kernel_rfl)) (by decide) (by rw [h0]; rfl) (by kernel_rfl) (fun _ h => all_nil h) (.d (.v _))
  refine goK hT 9 (K90 110 3) ⟨9, [(0, .i a0), (5, .b (decide (a0 ≥ (-1099511627776))))], []⟩ ?_
  by_cases c1 : a0 ≥ (-1099511627776)
  · replace H := iT c1 H
    rw [decide_eq_true c1]
    refine goK hT 5 (K90 11 1) ⟨9, [(2, .b (decide (a0 ≤ 1099511627776)))], []⟩ ?_
    refine cutK [] ⟨9, [(2, .b (decide (a0 ≤ 1099511627776)))], []⟩ h0 ?_
    exact Jj1 (decide (a0 ≤ 1099511627776)) H
  · replace H := iF c1 H
    rw [decide_eq_false c1]
    refine goK hT 5 (K90 11 1) ⟨9, [(2, .b false)], []⟩ ?_
    refine cutK [] ⟨9, [(2, .b false)], []⟩ h0 ?_
    exact Jj1 false H


theorem mut_pair.says (a0 : api_Pair) : Says Try.prog 113 [] [.d (eG47 a0)] [] (.b (mut_pair a0)) := by
  obtain ⟨r, H⟩ : ∃ r, mut_pair a0 = r := ⟨_, rfl⟩
  rw [H]
  refine says_of Try.func113 rfl (nt := 16) rfl (Nat.le_of_ble_eq_true rfl) fun X hP h0 hX => ?_
  have hT : TabOk X.P T := hP ▸ tok
  have hf : X.P.funcs[113]? = some Try.f113 := hP ▸ Try.func113
  have Jj1 : ∀ (y1_2 : Bool), (mut_pair.j1 y1_2) = r → AK X 113 ((K113 11 1)) (Back X [] (.b r)) ⟨16, [(2, .b y1_2)], []⟩ := by
    intro y1_2 H
    obtain rfl := H
    exact ak_ret hf hX (av := .b y1_2) (by kernel_rfl) [] (sel_of_eq (by kernel_rfl)) (by decide) (by rw [h0]; rfl) (by kernel_rfl) (fun _ h => all_nil h) (.d (.v _))
  refine goK hT 11 (K113 110 4) ⟨16, [(1, .ptr 0 0 0 0), (6, .b (decide (a0.Key ≥ 0)))], [.box 47 (eC47 a0)]⟩ ?_
  by_cases c1 : a0.Key ≥ 0
  · replace H := iT c1 H
    rw [decide_eq_true c1]
    refine goK hT 5 (K113 110 9) ⟨16, [(1, .ptr 0 0 0 0), (11, .b (decide (a0.Key < 4096)))], [.box 47 (eC47 a0)]⟩ ?_
    by_cases c2 : a0.Key < 4096
    · replace H := iT c2 H
      rw [decide_eq_true c2]
      refine goK hT 2 (K113 110 11) ⟨16, [(11, .b true), (13, .i a0.Val)], [.box 47 (eC47 a0)]⟩ ?_
      refine ak_callP (avs := [.i a0.Val]) (dst := some 14) (k' := (K113 110 12)) [11, 14] [] hP enters_90 (mut_value.says a0.Val) (by kernel_rfl) (hands_none _) (.cons (pass_d _) .nil) (st' := ⟨16, [(11, .b true), (14, .b (mut_value a0.Val))], [.box 47 (eC47 a0)]⟩) (by kernel_rfl) ?_
      refine goK hT 3 (K113 11 1) ⟨16, [(2, .b (mut_value a0.Val))], [.box 47 (eC47 a0)]⟩ ?_
      refine cutK [] ⟨16, [(2, .b (mut_value a0.Val))], []⟩ h0 ?_
      exact Jj1 (mut_value a0.Val) H
    · replace H := iF c2 H
      rw [decide_eq_false c2]
      refine goK hT 6 (K113 11 1) ⟨16, [(2, .b false)], [.box 47 (eC47 a0)]⟩ ?_
      refine cutK [] ⟨16, [(2, .b false)], []⟩ h0 ?_
      exact Jj1 false H
  · replace H := iF c1 H
    rw [decide_eq_false c1]
    refine goK hT 11 (K113 11 1) ⟨16, [(2, .b false)], [.box 47 (eC47 a0)]⟩ ?_
    refine cutK [] ⟨16, [(2, .b false)], []⟩ h0 ?_
    exact Jj1 false H


theorem mut_pairs_1.says (a0 : api_Pair) : Says Try.prog 112 [] [.d (eG47 a0)] [] (.b (mut_pairs_1 a0)) := by
  obtain ⟨r, H⟩ : ∃ r, mut_pairs_1 a0 = r := ⟨_, rfl⟩
  rw [H]
  refine says_of Try.func112 rfl (nt := 6) rfl (Nat.le_of_ble_eq_true rfl) fun X hP h0 hX => ?_
  have hT : TabOk X.P T := hP ▸ tok
  have hf : X.P.funcs[112]? = some Try.f112 := hP ▸ Try.func112
  refine goK hT 8 (K112 110 1) ⟨6, [(3, .d (eG47 a0))], [.box 47 (eC47 a0)]⟩ ?_
  refine ak_callP (avs := [.d (eG47 a0)]) (dst := some 4) (k' := (K112 110 2)) [4] [] hP enters_113 (mut_pair.says a0) (by kernel_rfl) (hands_none _) (.cons (pass_d _) .nil) (st' := ⟨6, [(4, .b (mut_pair a0))], [.box 47 (eC47 a0)]⟩) (by kernel_rfl) ?_
  refine goK hT 3 (K112 11 1) ⟨6, [(2, .b (!(mut_pair a0)))], [.box 47 (eC47 a0)]⟩ ?_
  obtain rfl := H
  exact ak_ret hf hX (av := .b (!(mut_pair a0))) (by kernel_rfl) [] (sel_of_eq (by kernel_rfl)) (by decide) (by rw [h0]; rfl) (by kernel_rfl) (fun _ h => all_nil h) (.d (.v _))


theorem mut_pairs.says (a0 : api_Mut) (a1 : Int) (a2 : Int) {r : Bool} (H : mut_pairs a0 a1 a2 = some r) : Says Try.prog 88 [] [.d (eG26 a0), .i a1, .i a2] [] (.b r) := by
  refine says_of Try.func88 rfl (nt := 25) rfl (Nat.le_of_ble_eq_true rfl) fun X hP h0 hX => ?_
  have hT : TabOk X.P T := hP ▸ tok
  have hf : X.P.funcs[88]? = some Try.f88 := hP ▸ Try.func88
  have Jj1 : ∀ (y1_6 : Bool), (mut_pairs.j1 y1_6) = some r → AK X 88 ((K88 11 1)) (Back X [] (.b r)) ⟨25, [(6, .b y1_6)], []⟩ := by
    intro y1_6 H
    obtain rfl := retC H
    exact ak_ret hf hX (av := .b y1_6) (by kernel_rfl) [] (sel_of_eq (by kernel_rfl)) (by decide) (by rw [h0]; rfl) (by kernel_rfl) (fun _ h => all_nil h) (.d (.v _))
  refine goK hT 13 (K88 110 6) ⟨25, [(2, .i a2), (3, .ptr 0 0 0 0), (12, .b (decide ((a0.Pairs.length : Int) ≥ a1)))], [.box 26 (eC26 a0)]⟩ ?_
  by_cases c1 : (a0.Pairs.length : Int) ≥ a1
  · replace H := iT c1 H
    rw [decide_eq_true c1]
    refine goK hT 7 (K88 110 13) ⟨25, [(3, .ptr 0 0 0 0), (19, .b (decide ((a0.Pairs.length : Int) ≤ a2)))], [.box 26 (eC26 a0)]⟩ ?_
    by_cases c2 : (a0.Pairs.length : Int) ≤ a2
    · replace H := iT c2 H
      rw [decide_eq_true c2]
      refine goK hT 2 (K88 110 15) ⟨25, [(19, .b true), (21, .d (eL47 true a0.Pairs))], [.box 26 (eC26 a0)]⟩ ?_
      obtain ⟨v1, h3, H⟩ := ibC H
      refine ak_callP (avs := [.d (eL47 true a0.Pairs), .d (.fn 112 [])]) (dst := some 22) (k' := (K88 110 16)) [19, 22] [] hP enters_111 (slices_ContainsFunc_api_Pair.says (t0 := true) (ff1 := 112) (cc1 := []) a0.Pairs (fun z0 => some (mut_pairs_1 z0)) enters_112 (fun z0 r h => by obtain rfl := retC h; exact mut_pairs_1.says z0) h3) (by kernel_rfl) (hands_none _) (.cons (pass_d _) (.cons (pass_d _) .nil)) (st' := ⟨25, [(19, .b true), (22, .b v1)], [.box 26 (eC26 a0)]⟩) (by kernel_rfl) ?_
      refine goK hT 4 (K88 11 1) ⟨25, [(6, .b (!v1))], [.box 26 (eC26 a0)]⟩ ?_
      refine cutK [] ⟨25, [(6, .b (!v1))], []⟩ h0 ?_
      exact Jj1 (!v1) H
    · replace H := iF c2 H
      rw [decide_eq_false c2]
      refine goK hT 7 (K88 11 1) ⟨25, [(6, .b false)], [.box 26 (eC26 a0)]⟩ ?_
      refine cutK [] ⟨25, [(6, .b false)], []⟩ h0 ?_
      exact Jj1 false H
  · replace H := iF c1 H
    rw [decide_eq_false c1]
    refine goK hT 14 (K88 11 1) ⟨25, [(6, .b false)], [.box 26 (eC26 a0)]⟩ ?_
    refine cutK [] ⟨25, [(6, .b false)], []⟩ h0 ?_
    exact Jj1 false H


theorem mut_rising.says {t0 : Bool} (a0 : List api_Pair) {r : Bool} (H : mut_rising a0 = some r) : Says Try.prog 89 [] [.d (eL47 t0 a0)] [] (.b r) := by
  refine says_of Try.func89 rfl (nt := 22) rfl (Nat.le_of_ble_eq_true rfl) fun X hP h0 hX => ?_
  have hT : TabOk X.P T := hP ▸ tok
  have hf : X.P.funcs[89]? = some Try.f89 := hP ▸ Try.func89
  refine goK hT 11 (K89 11010 0) ⟨22, [(0, .d (eL47 t0 a0)), (3, .i 1)], []⟩ ?_
  have L : ∀ n, (∀ (x1_3 : Int), iter (mut_rising.step a0) n (.l1 x1_3) = some r → AK X 89 ((K89 11010 0)) (Back X [] (.b r)) ⟨22, [(0, .d (eL47 t0 a0)), (3, .i x1_3)], []⟩) := by
    intro n
    induction n with
    | zero => exact fun _ H => iter0 H
    | succ n ih =>
      · intro x1_3 H
        refine goK hT 8 (K89 1101000 1) ⟨22, [(0, .d (eL47 t0 a0)), (3, .i x1_3), (7, .b (decide (x1_3 < (a0.length : Int))))], []⟩ ?_
        by_cases c1 : x1_3 < (a0.length : Int)
        · replace H := sT c1 H
          rw [decide_eq_true c1]
          refine goK hT 2 (K89 110100 1) ⟨22, [(0, .d (eL47 t0 a0)), (3, .i x1_3)], []⟩ ?_
          refine goK hT 3 (K89 110100100 0) ⟨22, [(0, .d (eL47 t0 a0)), (3, .i x1_3)], []⟩ ?_
          obtain ⟨h2, H⟩ := sC H
          obtain ⟨h3, H⟩ := sC H
          refine drawK (hP ▸ mixed) 12 [0, 3] [some (.d (eL47 t0 a0)), some (.i x1_3), some (.i (IntKind.wrap .i64 (x1_3 - 1))), some (.d (eP47 t0 a0 ((IntKind.wrap .i64 (x1_3 - 1)).toNat) 0)), some (.d (eP47 t0 a0 ((IntKind.wrap .i64 (x1_3 - 1)).toNat) 0)), some (.i ((a0.getD ((IntKind.wrap .i64 (x1_3 - 1)).toNat) api_Pair.z).Key)), some (.d (eL47 t0 a0)), some (.i x1_3), some (.d (eP47 t0 a0 x1_3.toNat 0)), some (.d (eP47 t0 a0 x1_3.toNat 0)), some (.i ((a0.getD x1_3.toNat api_Pair.z).Key)), some (.b (decide (((a0.getD ((IntKind.wrap .i64 (x1_3 - 1)).toNat) api_Pair.z).Key) ≥ ((a0.getD x1_3.toNat api_Pair.z).Key))))] (opG (opG (opG (opS (opG (opG (opG (opG (opS (opG (opG (opG op0 hT) hT) hT) (fun R rest h => ak_idx0 hT (i := IntKind.wrap .i64 (x1_3 - 1)) (n := (a0.length : Int)) h2.1 h2.2 (by kernel_rfl) h)) hT) hT) hT) hT) (fun R rest h => ak_idx0 hT (i := x1_3) (n := (a0.length : Int)) h3.1 h3.2 (by kernel_rfl) h)) hT) hT) hT) ?_
          refine goK hT 1 (K89 110100100 1) ⟨22, [(0, .d (eL47 t0 a0)), (3, .i x1_3), (21, .b (decide (((a0.getD ((IntKind.wrap .i64 (x1_3 - 1)).toNat) api_Pair.z).Key) ≥ ((a0.getD x1_3.toNat api_Pair.z).Key))))], []⟩ ?_
          by_cases c4 : ((a0.getD ((IntKind.wrap .i64 (x1_3 - 1)).toNat) api_Pair.z).Key) ≥ ((a0.getD x1_3.toNat api_Pair.z).Key)
          · replace H := sT c4 H
            rw [decide_eq_true c4]
            refine goK hT 5 (K89 11010010010 1) ⟨22, [(2, .b false)], []⟩ ?_
            obtain rfl := retC H
            exact ak_ret hf hX (av := .b false) (by kernel_rfl) [] (sel_of_eq (by kernel_rfl)) (by decide) (by rw [h0]; rfl) (by kernel_rfl) (fun _ h => all_nil h) (.d (.v _))
          · replace H := sF c4 H
            rw [decide_eq_false c4]
            refine goK hT 3 (K89 1101001 1) ⟨22, [(0, .d (eL47 t0 a0)), (3, .i x1_3)], []⟩ ?_
            refine goK hT 6 (K89 11010 0) ⟨22, [(0, .d (eL47 t0 a0)), (3, .i (IntKind.wrap .i64 (x1_3 + 1)))], []⟩ ?_
            refine cutK [] ⟨22, [(0, .d (eL47 t0 a0)), (3, .i (IntKind.wrap .i64 (x1_3 + 1)))], []⟩ h0 ?_
            exact ih (IntKind.wrap .i64 (x1_3 + 1)) H
        · replace H := sF c1 H
          rw [decide_eq_false c1]
          refine goK hT 6 (K89 111 1) ⟨22, [(2, .b true)], []⟩ ?_
          obtain rfl := retC H
          exact ak_ret hf hX (av := .b true) (by kernel_rfl) [] (sel_of_eq (by kernel_rfl)) (by decide) (by rw [h0]; rfl) (by kernel_rfl) (fun _ h => all_nil h) (.d (.v _))
  refine cutK [] ⟨22, [(0, .d (eL47 t0 a0)), (3, .i 1)], []⟩ h0 ?_
  obtain ⟨n, H⟩ := loopC H
  exact (L n) 1 H


theorem span_One.says (a0 : api_Span) : Says Try.prog 56 [] [.d (eG24 a0)] [] (.b (span_One a0)) := by
  obtain ⟨r, H⟩ : ∃ r, span_One a0 = r := ⟨_, rfl⟩
  rw [H]
  refine says_of Try.func56 rfl (nt := 18) rfl (Nat.le_of_ble_eq_true rfl) fun X hP h0 hX => ?_
  have hT : TabOk X.P T := hP ▸ tok
  have hf : X.P.funcs[56]? = some Try.f56 := hP ▸ Try.func56
  have Jj1 : ∀ (y1_2 : Bool), (span_One.j1 y1_2) = r → AK X 56 ((K56 11 1)) (Back X [] (.b r)) ⟨18, [(2, .b y1_2)], []⟩ := by
    intro y1_2 H
    obtain rfl := H
    exact ak_ret hf hX (av := .b y1_2) (by kernel_rfl) [] (sel_of_eq (by kernel_rfl)) (by decide) (by rw [h0]; rfl) (by kernel_rfl) (fun _ h => all_nil h) (.d (.v _))
  refine goK hT 11 (K56 110 4) ⟨18, [(1, .ptr 0 0 0 0), (6, .b (decide (a0.Lo ≥ 0)))], [.box 24 (eC24 a0)]⟩ ?_
  by_cases c1 : a0.Lo ≥ 0
  · replace H := iT c1 H
    rw [decide_eq_true c1]
    refine goK hT 7 (K56 110 11) ⟨18, [(1, .ptr 0 0 0 0), (13, .b (decide (a0.Lo < a0.Hi)))], [.box 24 (eC24 a0)]⟩ ?_
    by_cases c2 : a0.Lo < a0.Hi
    · replace H := iT c2 H
      rw [decide_eq_true c2]
      refine goK hT 6 (K56 11 1) ⟨18, [(2, .b (decide (a0.Hi ≤ 4096)))], [.box 24 (eC24 a0)]⟩ ?_
      refine cutK [] ⟨18, [(2, .b (decide (a0.Hi ≤ 4096)))], []⟩ h0 ?_
      exact Jj1 (decide (a0.Hi ≤ 4096)) H
    · replace H := iF c2 H
      rw [decide_eq_false c2]
      refine goK hT 6 (K56 11 1) ⟨18, [(2, .b false)], [.box 24 (eC24 a0)]⟩ ?_
      refine cutK [] ⟨18, [(2, .b false)], []⟩ h0 ?_
      exact Jj1 false H
  · replace H := iF c1 H
    rw [decide_eq_false c1]
    refine goK hT 13 (K56 11 1) ⟨18, [(2, .b false)], [.box 24 (eC24 a0)]⟩ ?_
    refine cutK [] ⟨18, [(2, .b false)], []⟩ h0 ?_
    exact Jj1 false H


theorem mut_kind.says (a0 : api_Mut) {r : Bool} (H : mut_kind a0 = some r) : Says Try.prog 52 [] [.d (eG26 a0)] [] (.b r) := by
  refine says_of Try.func52 rfl (nt := 102) rfl (Nat.le_of_ble_eq_true rfl) fun X hP h0 hX => ?_
  have hT : TabOk X.P T := hP ▸ tok
  have hf : X.P.funcs[52]? = some Try.f52 := hP ▸ Try.func52
  have Jj1 : ∀ (y1_23 : Bool), (mut_kind.j1 a0 y1_23) = some r → AK X 52 ((K52 1110 1)) (Back X [] (.b r)) ⟨102, [(1, .ptr 0 0 0 0), (23, .b y1_23)], [.box 26 (eC26 a0)]⟩ := by
    intro y1_23 H
    by_cases c7 : y1_23 = true
    · replace H := iT c7 H
      rw [c7]
      refine goK hT 5 (K52 111010 1) ⟨102, [(2, .b false)], [.box 26 (eC26 a0)]⟩ ?_
      obtain rfl := retC H
      exact ak_ret hf hX (av := .b false) (by kernel_rfl) [] (sel_of_eq (by kernel_rfl)) (by decide) (by rw [h0]; rfl) (by kernel_rfl) (fun _ h => all_nil h) (.d (.v _))
    · replace H := iF c7 H
      rw [boF c7]
      refine goK hT 2 (K52 111 1) ⟨102, [(1, .ptr 0 0 0 0)], [.box 26 (eC26 a0)]⟩ ?_
      refine goK hT 12 (K52 1111010 1) ⟨102, [(1, .ptr 0 0 0 0), (25, .i a0.Kind), (26, .b (a0.Kind == 1))], [.box 26 (eC26 a0)]⟩ ?_
      by_cases c8 : a0.Kind = 1
      · replace H := iT c8 H
        rw [eqT c8]
        refine goK hT 4 (K52 1111010100 1) ⟨102, [(1, .ptr 0 0 0 0), (28, .d (eG26 a0))], [.box 26 (eC26 a0)]⟩ ?_
        obtain ⟨v1, h9, H⟩ := ibC H
        have Jj2 : ∀ (y2_2 : Bool), (mut_kind.j2 y2_2) = some r → AK X 52 ((K52 111101010 1)) (Back X [] (.b r)) ⟨102, [(2, .b y2_2)], []⟩ := by
          intro y2_2 H
          obtain rfl := retC H
          exact ak_ret hf hX (av := .b y2_2) (by kernel_rfl) [] (sel_of_eq (by kernel_rfl)) (by decide) (by rw [h0]; rfl) (by kernel_rfl) (fun _ h => all_nil h) (.d (.v _))
        refine ak_callP (avs := [.d (eG26 a0), .i 1, .i 8]) (dst := some 29) (k' := (K52 1111010100 2)) [1, 29] [] hP enters_88 (mut_pairs.says a0 1 8 h9) (by kernel_rfl) (hands_none _) (.cons (pass_d _) (.cons (pass_d _) (.cons (pass_d _) .nil))) (st' := ⟨102, [(1, .ptr 0 0 0 0), (29, .b v1)], [.box 26 (eC26 a0)]⟩) (by kernel_rfl) ?_
        refine goK hT 1 (K52 1111010100 3) ⟨102, [(1, .ptr 0 0 0 0), (30, .b v1)], [.box 26 (eC26 a0)]⟩ ?_
        by_cases c10 : v1 = true
        · replace H := iT c10 H
          rw [c10]
          refine goK hT 2 (K52 1111010100 5) ⟨102, [(30, .b true), (32, .d (eL47 true a0.Pairs))], [.box 26 (eC26 a0)]⟩ ?_
          obtain ⟨v2, h11, H⟩ := ibC H
          refine ak_callP (avs := [.d (eL47 true a0.Pairs)]) (dst := some 33) (k' := (K52 1111010100 6)) [30, 33] [] hP enters_89 (mut_rising.says (t0 := true) a0.Pairs h11) (by kernel_rfl) (hands_none _) (.cons (pass_d _) .nil) (st' := ⟨102, [(30, .b true), (33, .b v2)], [.box 26 (eC26 a0)]⟩) (by kernel_rfl) ?_
          refine goK hT 3 (K52 111101010 1) ⟨102, [(2, .b v2)], [.box 26 (eC26 a0)]⟩ ?_
          refine cutK [] ⟨102, [(2, .b v2)], []⟩ h0 ?_
          exact Jj2 v2 H
        · replace H := iF c10 H
          rw [boF c10]
          refine goK hT 6 (K52 111101010 1) ⟨102, [(2, .b false)], [.box 26 (eC26 a0)]⟩ ?_
          refine cutK [] ⟨102, [(2, .b false)], []⟩ h0 ?_
          exact Jj2 false H
      · replace H := iF c8 H
        rw [eqF c8]
        refine goK hT 6 (K52 111101011 1) ⟨102, [(1, .ptr 0 0 0 0), (25, .i a0.Kind), (35, .b (a0.Kind == 2))], [.box 26 (eC26 a0)]⟩ ?_
        by_cases c12 : a0.Kind = 2
        · replace H := iT c12 H
          have Jj3 : ∀ (y3_2 : Bool), (mut_kind.j3 y3_2) = some r → AK X 52 ((K52 11110101110 1)) (Back X [] (.b r)) ⟨102, [(2, .b y3_2)], []⟩ := by
            intro y3_2 H
            obtain rfl := retC H
            exact ak_ret hf hX (av := .b y3_2) (by kernel_rfl) [] (sel_of_eq (by kernel_rfl)) (by decide) (by rw [h0]; rfl) (by kernel_rfl) (fun _ h => all_nil h) (.d (.v _))
          rw [eqT c12]
          refine goK hT 8 (K52 111101011100 5) ⟨102, [(1, .ptr 0 0 0 0), (41, .b ((a0.Pairs.length : Int) == 0))], [.box 26 (eC26 a0)]⟩ ?_
          by_cases c13 : (a0.Pairs.length : Int) = 0
          · replace H := iT c13 H
            rw [eqT c13]
            refine goK hT 2 (K52 111101011100 7) ⟨102, [(41, .b true), (43, .d (eG24 a0.Over))], [.box 26 (eC26 a0)]⟩ ?_
            refine ak_callP (avs := [.d (eG24 a0.Over)]) (dst := some 44) (k' := (K52 111101011100 8)) [41, 44] [] hP enters_56 (span_One.says a0.Over) (by kernel_rfl) (hands_none _) (.cons (pass_d _) .nil) (st' := ⟨102, [(41, .b true), (44, .b (span_One a0.Over))], [.box 26 (eC26 a0)]⟩) (by kernel_rfl) ?_
            refine goK hT 3 (K52 11110101110 1) ⟨102, [(2, .b (span_One a0.Over))], [.box 26 (eC26 a0)]⟩ ?_
            refine cutK [] ⟨102, [(2, .b (span_One a0.Over))], []⟩ h0 ?_
            exact Jj3 (span_One a0.Over) H
          · replace H := iF c13 H
            rw [eqF c13]
            refine goK hT 6 (K52 11110101110 1) ⟨102, [(2, .b false)], [.box 26 (eC26 a0)]⟩ ?_
            refine cutK [] ⟨102, [(2, .b false)], []⟩ h0 ?_
            exact Jj3 false H
        · replace H := iF c12 H
          rw [eqF c12]
          refine goK hT 6 (K52 11110101111 1) ⟨102, [(1, .ptr 0 0 0 0), (25, .i a0.Kind), (46, .b (a0.Kind == 3))], [.box 26 (eC26 a0)]⟩ ?_
          by_cases c14 : a0.Kind = 3
          · replace H := iT c14 H
            rw [eqT c14]
            refine goK hT 4 (K52 11110101111100 1) ⟨102, [(48, .d (eG26 a0))], [.box 26 (eC26 a0)]⟩ ?_
            obtain ⟨v3, h15, H⟩ := ibC H
            refine ak_callP (avs := [.d (eG26 a0), .i 1, .i 1]) (dst := some 49) (k' := (K52 11110101111100 2)) [49] [] hP enters_88 (mut_pairs.says a0 1 1 h15) (by kernel_rfl) (hands_none _) (.cons (pass_d _) (.cons (pass_d _) (.cons (pass_d _) .nil))) (st' := ⟨102, [(49, .b v3)], [.box 26 (eC26 a0)]⟩) (by kernel_rfl) ?_
            refine goK hT 2 (K52 1111010111110 1) ⟨102, [(2, .b v3)], [.box 26 (eC26 a0)]⟩ ?_
            obtain rfl := retC H
            exact ak_ret hf hX (av := .b v3) (by kernel_rfl) [] (sel_of_eq (by kernel_rfl)) (by decide) (by rw [h0]; rfl) (by kernel_rfl) (fun _ h => all_nil h) (.d (.v _))
          · replace H := iF c14 H
            rw [eqF c14]
            refine goK hT 6 (K52 1111010111111 1) ⟨102, [(1, .ptr 0 0 0 0), (25, .i a0.Kind), (50, .b (a0.Kind == 4))], [.box 26 (eC26 a0)]⟩ ?_
            by_cases c16 : a0.Kind = 4
            · replace H := iT c16 H
              rw [eqT c16]
              refine goK hT 4 (K52 1111010111111100 1) ⟨102, [(1, .ptr 0 0 0 0), (52, .d (eG26 a0))], [.box 26 (eC26 a0)]⟩ ?_
              obtain ⟨v4, h17, H⟩ := ibC H
              have Jj4 : ∀ (y4_2 : Bool), (mut_kind.j4 y4_2) = some r → AK X 52 ((K52 111101011111110 1)) (Back X [] (.b r)) ⟨102, [(2, .b y4_2)], []⟩ := by
                intro y4_2 H
                obtain rfl := retC H
                exact ak_ret hf hX (av := .b y4_2) (by kernel_rfl) [] (sel_of_eq (by kernel_rfl)) (by decide) (by rw [h0]; rfl) (by kernel_rfl) (fun _ h => all_nil h) (.d (.v _))
              refine ak_callP (avs := [.d (eG26 a0), .i 1, .i 1]) (dst := some 53) (k' := (K52 1111010111111100 2)) [1, 53] [] hP enters_88 (mut_pairs.says a0 1 1 h17) (by kernel_rfl) (hands_none _) (.cons (pass_d _) (.cons (pass_d _) (.cons (pass_d _) .nil))) (st' := ⟨102, [(1, .ptr 0 0 0 0), (53, .b v4)], [.box 26 (eC26 a0)]⟩) (by kernel_rfl) ?_
              refine goK hT 1 (K52 1111010111111100 3) ⟨102, [(1, .ptr 0 0 0 0), (54, .b v4)], [.box 26 (eC26 a0)]⟩ ?_
              by_cases c18 : v4 = true
              · replace H := iT c18 H
                rw [c18]
                refine goK hT 2 (K52 1111010111111100 5) ⟨102, [(1, .ptr 0 0 0 0), (54, .b true), (56, .i a0.Old)], [.box 26 (eC26 a0)]⟩ ?_
                refine ak_callP (avs := [.i a0.Old]) (dst := some 57) (k' := (K52 1111010111111100 6)) [1, 54, 57] [] hP enters_90 (mut_value.says a0.Old) (by kernel_rfl) (hands_none _) (.cons (pass_d _) .nil) (st' := ⟨102, [(1, .ptr 0 0 0 0), (54, .b true), (57, .b (mut_value a0.Old))], [.box 26 (eC26 a0)]⟩) (by kernel_rfl) ?_
                refine goK hT 1 (K52 1111010111111100 7) ⟨102, [(1, .ptr 0 0 0 0), (54, .b true), (58, .b (mut_value a0.Old))], [.box 26 (eC26 a0)]⟩ ?_
                by_cases c19 : (mut_value a0.Old) = true
                · replace H := iT c19 H
                  rw [c19]
                  refine goK hT 7 (K52 111101011111110 1) ⟨102, [(2, .b true)], [.box 26 (eC26 a0)]⟩ ?_
                  refine cutK [] ⟨102, [(2, .b true)], []⟩ h0 ?_
                  exact Jj4 true H
                · replace H := iF c19 H
                  rw [boF c19]
                  refine goK hT 7 (K52 111101011111110 1) ⟨102, [(2, .b (a0.Old == 1099511627777))], [.box 26 (eC26 a0)]⟩ ?_
                  refine cutK [] ⟨102, [(2, .b (a0.Old == 1099511627777))], []⟩ h0 ?_
                  exact Jj4 (a0.Old == 1099511627777) H
              · replace H := iF c18 H
                rw [boF c18]
                refine goK hT 11 (K52 111101011111110 1) ⟨102, [(2, .b false)], [.box 26 (eC26 a0)]⟩ ?_
                refine cutK [] ⟨102, [(2, .b false)], []⟩ h0 ?_
                exact Jj4 false H
            · replace H := iF c16 H
              rw [eqF c16]
              refine goK hT 6 (K52 111101011111111 1) ⟨102, [(1, .ptr 0 0 0 0), (64, .b (a0.Kind == 5))], [.box 26 (eC26 a0)]⟩ ?_
              by_cases c20 : a0.Kind = 5
              · replace H := iT c20 H
                rw [eqT c20]
                refine goK hT 2 (K52 11110101111111110 0) ⟨102, [(1, .ptr 0 0 0 0)], [.box 26 (eC26 a0)]⟩ ?_
                obtain ⟨v5, h21, H⟩ := ibC H
                have Jj5 : ∀ (y5_2 : Bool), (mut_kind.j5 y5_2) = some r → AK X 52 ((K52 11110101111111110 1)) (Back X [] (.b r)) ⟨102, [(2, .b y5_2)], []⟩ := by
                  intro y5_2 H
                  obtain rfl := retC H
                  exact ak_ret hf hX (av := .b y5_2) (by kernel_rfl) [] (sel_of_eq (by kernel_rfl)) (by decide) (by rw [h0]; rfl) (by kernel_rfl) (fun _ h => all_nil h) (.d (.v _))
                by_cases c22 : v5 = true
                · replace H := iT c22 H
                  obtain ⟨h23, H⟩ := iC H
                  obtain ⟨h24, H⟩ := iC H
                  by_cases c25 : ((a0.Pairs.getD 0 api_Pair.z).Key) = ((a0.Pairs.getD 1 api_Pair.z).Key)
                  · replace H := iT c25 H
                    refine drawK (hP ▸ mixed) 26 [1] [some (.d (eG26 a0)), some (.b true), some (.b true), some (.ptr 0 0 0 3), some (.d (eL47 true a0.Pairs)), some (.d (eP47 true a0.Pairs 0 0)), some (.d (eP47 true a0.Pairs 0 0)), some (.i ((a0.Pairs.getD 0 api_Pair.z).Key)), some (.ptr 0 0 0 3), some (.d (eL47 true a0.Pairs)), some (.d (eP47 true a0.Pairs 1 0)), some (.d (eP47 true a0.Pairs 1 0)), some (.i ((a0.Pairs.getD 1 api_Pair.z).Key)), some (.b false), some (.b false), some (.b false), some (.tup []), some (.tup []), some (.tup []), some (.tup []), some (.tup []), some (.tup []), some (.tup []), some (.tup []), some (.tup []), some (.tup [])] (opG (opG (opG (opG (opG (opG (opG (opG (opG (opG (opG (opG (opV (opG (opG (opS (opG (opG (opG (opG (opS (opG (opG (opG (opS (opG op0 hT) (fun R rest h => ak_callD (avs := [.d (eG26 a0), .i 2, .i 2]) (dst := some 67) hP enters_88 (by have q := mut_pairs.says a0 2 2 h21; rw [c22] at q; exact q) (by kernel_rfl) (.cons (pass_d _) (.cons (pass_d _) (.cons (pass_d _) .nil))) (by kernel_rfl) h)) hT) hT) hT) (fun R rest h => ak_idx0 hT (i := 0) (n := (a0.Pairs.length : Int)) h23.1 h23.2 (by kernel_rfl) h)) hT) hT) hT) hT) (fun R rest h => ak_idx0 hT (i := 1) (n := (a0.Pairs.length : Int)) h24.1 h24.2 (by kernel_rfl) h)) hT) hT) hT 79 (.b (((a0.Pairs.getD 0 api_Pair.z).Key) != ((a0.Pairs.getD 1 api_Pair.z).Key))) (.b false) (by rw [neF c25])) hT) hT) hT) hT) hT) hT) hT) hT) hT) hT) hT) hT) ?_
                    refine goK hT 12 (K52 11110101111111110 1) ⟨102, [(2, .b false)], [.box 26 (eC26 a0)]⟩ ?_
                    refine cutK [] ⟨102, [(2, .b false)], []⟩ h0 ?_
                    exact Jj5 false H
                  · replace H := iF c25 H
                    refine drawK (hP ▸ mixed) 26 [1] [some (.d (eG26 a0)), some (.b true), some (.b true), some (.ptr 0 0 0 3), some (.d (eL47 true a0.Pairs)), some (.d (eP47 true a0.Pairs 0 0)), some (.d (eP47 true a0.Pairs 0 0)), some (.i ((a0.Pairs.getD 0 api_Pair.z).Key)), some (.ptr 0 0 0 3), some (.d (eL47 true a0.Pairs)), some (.d (eP47 true a0.Pairs 1 0)), some (.d (eP47 true a0.Pairs 1 0)), some (.i ((a0.Pairs.getD 1 api_Pair.z).Key)), some (.b true), some (.b true), some (.b true), some (.ptr 0 0 0 3), some (.d (eL47 true a0.Pairs)), some (.d (eP47 true a0.Pairs 0 0)), some (.d (eP47 true a0.Pairs 0 1)), some (.i ((a0.Pairs.getD 0 api_Pair.z).Val)), some (.ptr 0 0 0 3), some (.d (eL47 true a0.Pairs)), some (.d (eP47 true a0.Pairs 1 0)), some (.d (eP47 true a0.Pairs 1 1)), some (.i ((a0.Pairs.getD 1 api_Pair.z).Val))] (opG (opG (opS (opG (opG (opG (opG (opS (opG (opG (opG (opG (opV (opG (opG (opS (opG (opG (opG (opG (opS (opG (opG (opG (opS (opG op0 hT) (fun R rest h => ak_callD (avs := [.d (eG26 a0), .i 2, .i 2]) (dst := some 67) hP enters_88 (by have q := mut_pairs.says a0 2 2 h21; rw [c22] at q; exact q) (by kernel_rfl) (.cons (pass_d _) (.cons (pass_d _) (.cons (pass_d _) .nil))) (by kernel_rfl) h)) hT) hT) hT) (fun R rest h => ak_idx0 hT (i := 0) (n := (a0.Pairs.length : Int)) h23.1 h23.2 (by kernel_rfl) h)) hT) hT) hT) hT) (fun R rest h => ak_idx0 hT (i := 1) (n := (a0.Pairs.length : Int)) h24.1 h24.2 (by kernel_rfl) h)) hT) hT) hT 79 (.b (((a0.Pairs.getD 0 api_Pair.z).Key) != ((a0.Pairs.getD 1 api_Pair.z).Key))) (.b true) (by rw [neT c25])) hT) hT) hT) hT) (fun R rest h => ak_idx0 hT (i := 0) (n := (a0.Pairs.length : Int)) h23.1 h23.2 (by kernel_rfl) h)) hT) hT) hT) hT) (fun R rest h => ak_idx0 hT (i := 1) (n := (a0.Pairs.length : Int)) h24.1 h24.2 (by kernel_rfl) h)) hT) hT) ?_
                    refine goK hT 3 (K52 111101011111111100 29) ⟨102, [(1, .ptr 0 0 0 0), (94, .b (((a0.Pairs.getD 0 api_Pair.z).Val) == ((a0.Pairs.getD 1 api_Pair.z).Val)))], [.box 26 (eC26 a0)]⟩ ?_
                    by_cases c26 : ((a0.Pairs.getD 0 api_Pair.z).Val) = ((a0.Pairs.getD 1 api_Pair.z).Val)
                    · replace H := iT c26 H
                      rw [eqT c26]
                      refine goK hT 2 (K52 111101011111111100 31) ⟨102, [(94, .b true), (96, .d (eL47 true a0.Pairs))], [.box 26 (eC26 a0)]⟩ ?_
                      refine ak_idx hT [94, 97] (i := 0) (n := (a0.Pairs.length : Int)) h23.1 h23.2 (k' := (K52 111101011111111100 32)) (st' := ⟨102, [(94, .b true), (97, .d (eP47 true a0.Pairs 0 0))], [.box 26 (eC26 a0)]⟩) (by kernel_rfl) ?_
                      refine goK hT 6 (K52 11110101111111110 1) ⟨102, [(2, .b (decide (((a0.Pairs.getD 0 api_Pair.z).Val) ≥ 0)))], [.box 26 (eC26 a0)]⟩ ?_
                      refine cutK [] ⟨102, [(2, .b (decide (((a0.Pairs.getD 0 api_Pair.z).Val) ≥ 0)))], []⟩ h0 ?_
                      exact Jj5 (decide (((a0.Pairs.getD 0 api_Pair.z).Val) ≥ 0)) H
                    · replace H := iF c26 H
                      rw [eqF c26]
                      refine goK hT 9 (K52 11110101111111110 1) ⟨102, [(2, .b false)], [.box 26 (eC26 a0)]⟩ ?_
                      refine cutK [] ⟨102, [(2, .b false)], []⟩ h0 ?_
                      exact Jj5 false H
                · replace H := iF c22 H
                  refine drawK (hP ▸ mixed) 26 [1] [some (.d (eG26 a0)), some (.b false), some (.b false), some (.tup []), some (.tup []), some (.tup []), some (.tup []), some (.tup []), some (.tup []), some (.tup []), some (.tup []), some (.tup []), some (.tup []), some (.tup []), some (.b false), some (.b false), some (.tup []), some (.tup []), some (.tup []), some (.tup []), some (.tup []), some (.tup []), some (.tup []), some (.tup []), some (.tup []), some (.tup [])] (opG (opG (opG (opG (opG (opG (opG (opG (opG (opG (opG (opG (opG (opG (opG (opG (opG (opG (opG (opG (opG (opG (opG (opG (opS (opG op0 hT) (fun R rest h => ak_callD (avs := [.d (eG26 a0), .i 2, .i 2]) (dst := some 67) hP enters_88 (by have q := mut_pairs.says a0 2 2 h21; rw [boF c22] at q; exact q) (by kernel_rfl) (.cons (pass_d _) (.cons (pass_d _) (.cons (pass_d _) .nil))) (by kernel_rfl) h)) hT) hT) hT) hT) hT) hT) hT) hT) hT) hT) hT) hT) hT) hT) hT) hT) hT) hT) hT) hT) hT) hT) hT) hT) ?_
                  refine goK hT 12 (K52 11110101111111110 1) ⟨102, [(2, .b false)], [.box 26 (eC26 a0)]⟩ ?_
                  refine cutK [] ⟨102, [(2, .b false)], []⟩ h0 ?_
                  exact Jj5 false H
              · replace H := iF c20 H
                rw [eqF c20]
                refine goK hT 3 (K52 1111 1) ⟨102, [], [.box 26 (eC26 a0)]⟩ ?_
                refine goK hT 4 (K52 11111 1) ⟨102, [(2, .b false)], [.box 26 (eC26 a0)]⟩ ?_
                obtain rfl := retC H
                exact ak_ret hf hX (av := .b false) (by kernel_rfl) [] (sel_of_eq (by kernel_rfl)) (by decide) (by rw [h0]; rfl) (by kernel_rfl) (fun _ h => all_nil h) (.d (.v _))
  refine goK hT 18 (K52 11100 4) ⟨102, [(1, .ptr 0 0 0 0), (3, .ptr 1 0 0 0), (8, .b (a0.Kind != 2))], [.box 26 (eC26 a0), .box 24 [.i 0, .i 0]]⟩ ?_
  by_cases c1 : a0.Kind = 2
  · replace H := iT c1 H
    rw [neF c1]
    refine goK hT 10 (K52 11100 14) ⟨102, [(1, .ptr 0 0 0 0), (14, .b false), (18, .b (a0.Kind != 4))], [.box 26 (eC26 a0), .box 24 [.i 0, .i 0]]⟩ ?_
    by_cases c2 : a0.Kind = 4
    · replace H := iT c2 H
      rw [neF c2]
      refine goK hT 6 (K52 1110 1) ⟨102, [(1, .ptr 0 0 0 0), (23, .b false)], [.box 26 (eC26 a0), .box 24 [.i 0, .i 0]]⟩ ?_
      refine cutK [0] ⟨102, [(1, .ptr 0 0 0 0), (23, .b false)], [.box 26 (eC26 a0)]⟩ h0 ?_
      exact Jj1 false H
    · replace H := iF c2 H
      rw [neT c2]
      refine goK hT 6 (K52 1110 1) ⟨102, [(1, .ptr 0 0 0 0), (23, .b (a0.Old != 0))], [.box 26 (eC26 a0), .box 24 [.i 0, .i 0]]⟩ ?_
      refine cutK [0] ⟨102, [(1, .ptr 0 0 0 0), (23, .b (a0.Old != 0))], [.box 26 (eC26 a0)]⟩ h0 ?_
      exact Jj1 (a0.Old != 0) H
  · replace H := iF c1 H
    rw [neT c1]
    refine goK hT 6 (K52 11100 10) ⟨102, [(1, .ptr 0 0 0 0), (14, .b (!((a0.Over.Lo == 0) && (a0.Over.Hi == 0))))], [.box 26 (eC26 a0), .box 24 [.i 0, .i 0]]⟩ ?_
    by_cases c3 : a0.Over.Lo = 0
    · replace H := iT c3 H
      rw [eqT c3]
      by_cases c4 : a0.Over.Hi = 0
      · replace H := iT c4 H
        rw [eqT c4]
        refine goK hT 4 (K52 11100 14) ⟨102, [(1, .ptr 0 0 0 0), (14, .b false), (18, .b (a0.Kind != 4))], [.box 26 (eC26 a0), .box 24 [.i 0, .i 0]]⟩ ?_
        by_cases c5 : a0.Kind = 4
        · replace H := iT c5 H
          rw [neF c5]
          refine goK hT 6 (K52 1110 1) ⟨102, [(1, .ptr 0 0 0 0), (23, .b false)], [.box 26 (eC26 a0), .box 24 [.i 0, .i 0]]⟩ ?_
          refine cutK [0] ⟨102, [(1, .ptr 0 0 0 0), (23, .b false)], [.box 26 (eC26 a0)]⟩ h0 ?_
          exact Jj1 false H
        · replace H := iF c5 H
          rw [neT c5]
          refine goK hT 6 (K52 1110 1) ⟨102, [(1, .ptr 0 0 0 0), (23, .b (a0.Old != 0))], [.box 26 (eC26 a0), .box 24 [.i 0, .i 0]]⟩ ?_
          refine cutK [0] ⟨102, [(1, .ptr 0 0 0 0), (23, .b (a0.Old != 0))], [.box 26 (eC26 a0)]⟩ h0 ?_
          exact Jj1 (a0.Old != 0) H
      · replace H := iF c4 H
        rw [eqF c4]
        refine goK hT 10 (K52 1110 1) ⟨102, [(1, .ptr 0 0 0 0), (23, .b true)], [.box 26 (eC26 a0), .box 24 [.i 0, .i 0]]⟩ ?_
        refine cutK [0] ⟨102, [(1, .ptr 0 0 0 0), (23, .b true)], [.box 26 (eC26 a0)]⟩ h0 ?_
        exact Jj1 true H
    · replace H := iF c3 H
      rw [eqF c3]
      by_cases c6 : a0.Over.Hi = 0
      · replace H := iT c6 H
        rw [eqT c6]
        refine goK hT 10 (K52 1110 1) ⟨102, [(1, .ptr 0 0 0 0), (23, .b true)], [.box 26 (eC26 a0), .box 24 [.i 0, .i 0]]⟩ ?_
        refine cutK [0] ⟨102, [(1, .ptr 0 0 0 0), (23, .b true)], [.box 26 (eC26 a0)]⟩ h0 ?_
        exact Jj1 true H
      · replace H := iF c6 H
        rw [eqF c6]
        refine goK hT 10 (K52 1110 1) ⟨102, [(1, .ptr 0 0 0 0), (23, .b true)], [.box 26 (eC26 a0), .box 24 [.i 0, .i 0]]⟩ ?_
        refine cutK [0] ⟨102, [(1, .ptr 0 0 0 0), (23, .b true)], [.box 26 (eC26 a0)]⟩ h0 ?_
        exact Jj1 true H


theorem mut_Check.says (a0 : api_Mut) {r : Bool} (H : mut_Check a0 = some r) : Says Try.prog 23 [] [.d (eG26 a0)] [] (.b r) := by
  refine says_of Try.func23 rfl (nt := 25) rfl (Nat.le_of_ble_eq_true rfl) fun X hP h0 hX => ?_
  have hT : TabOk X.P T := hP ▸ tok
  have hf : X.P.funcs[23]? = some Try.f23 := hP ▸ Try.func23
  have Jj1 : ∀ (y1_2 : Bool), (mut_Check.j1 y1_2) = some r → AK X 23 ((K23 11 1)) (Back X [] (.b r)) ⟨25, [(2, .b y1_2)], []⟩ := by
    intro y1_2 H
    obtain rfl := retC H
    exact ak_ret hf hX (av := .b y1_2) (by kernel_rfl) [] (sel_of_eq (by kernel_rfl)) (by decide) (by rw [h0]; rfl) (by kernel_rfl) (fun _ h => all_nil h) (.d (.v _))
  refine goK hT 11 (K23 110 4) ⟨25, [(1, .ptr 0 0 0 0), (6, .b (decide (a0.Client ≥ 1)))], [.box 26 (eC26 a0)]⟩ ?_
  by_cases c1 : a0.Client ≥ 1
  · replace H := iT c1 H
    rw [decide_eq_true c1]
    refine goK hT 5 (K23 110 9) ⟨25, [(1, .ptr 0 0 0 0), (11, .b (decide (a0.Client ≤ 1048576)))], [.box 26 (eC26 a0)]⟩ ?_
    by_cases c2 : a0.Client ≤ 1048576
    · replace H := iT c2 H
      rw [decide_eq_true c2]
      refine goK hT 5 (K23 110 14) ⟨25, [(1, .ptr 0 0 0 0), (16, .b (decide (a0.Seq ≥ 1)))], [.box 26 (eC26 a0)]⟩ ?_
      by_cases c3 : a0.Seq ≥ 1
      · replace H := iT c3 H
        rw [decide_eq_true c3]
        refine goK hT 5 (K23 110 19) ⟨25, [(1, .ptr 0 0 0 0), (21, .b (decide (a0.Seq ≤ 1073741824)))], [.box 26 (eC26 a0)]⟩ ?_
        by_cases c4 : a0.Seq ≤ 1073741824
        · replace H := iT c4 H
          rw [decide_eq_true c4]
          refine goK hT 1 (K23 110 20) ⟨25, [(21, .b true), (22, .d (eG26 a0))], [.box 26 (eC26 a0)]⟩ ?_
          obtain ⟨v1, h5, H⟩ := ibC H
          refine ak_callP (avs := [.d (eG26 a0)]) (dst := some 23) (k' := (K23 110 21)) [21, 23] [] hP enters_52 (mut_kind.says a0 h5) (by kernel_rfl) (hands_none _) (.cons (pass_d _) .nil) (st' := ⟨25, [(21, .b true), (23, .b v1)], [.box 26 (eC26 a0)]⟩) (by kernel_rfl) ?_
          refine goK hT 3 (K23 11 1) ⟨25, [(2, .b v1)], [.box 26 (eC26 a0)]⟩ ?_
          refine cutK [] ⟨25, [(2, .b v1)], []⟩ h0 ?_
          exact Jj1 v1 H
        · replace H := iF c4 H
          rw [decide_eq_false c4]
          refine goK hT 5 (K23 11 1) ⟨25, [(2, .b false)], [.box 26 (eC26 a0)]⟩ ?_
          refine cutK [] ⟨25, [(2, .b false)], []⟩ h0 ?_
          exact Jj1 false H
      · replace H := iF c3 H
        rw [decide_eq_false c3]
        refine goK hT 10 (K23 11 1) ⟨25, [(2, .b false)], [.box 26 (eC26 a0)]⟩ ?_
        refine cutK [] ⟨25, [(2, .b false)], []⟩ h0 ?_
        exact Jj1 false H
    · replace H := iF c2 H
      rw [decide_eq_false c2]
      refine goK hT 15 (K23 11 1) ⟨25, [(2, .b false)], [.box 26 (eC26 a0)]⟩ ?_
      refine cutK [] ⟨25, [(2, .b false)], []⟩ h0 ?_
      exact Jj1 false H
  · replace H := iF c1 H
    rw [decide_eq_false c1]
    refine goK hT 20 (K23 11 1) ⟨25, [(2, .b false)], [.box 26 (eC26 a0)]⟩ ?_
    refine cutK [] ⟨25, [(2, .b false)], []⟩ h0 ?_
    exact Jj1 false H


theorem span_Check.says {t0 : Bool} (a0 : List api_Span) {r : Bool} (H : span_Check a0 = some r) : Says Try.prog 42 [] [.d (eL24 t0 a0)] [] (.b r) := by
  refine says_of Try.func42 rfl (nt := 34) rfl (Nat.le_of_ble_eq_true rfl) fun X hP h0 hX => ?_
  have hT : TabOk X.P T := hP ▸ tok
  have hf : X.P.funcs[42]? = some Try.f42 := hP ▸ Try.func42
  refine goK hT 13 (K42 11010 0) ⟨34, [(0, .d (eL24 t0 a0)), (5, .d (eL24 t0 a0)), (6, .i (a0.length : Int)), (7, .i 0)], []⟩ ?_
  have L : ∀ n, (∀ (x1_7 : Int), iter (span_Check.step a0) n (.l1 x1_7) = some r → AK X 42 ((K42 11010 0)) (Back X [] (.b r)) ⟨34, [(0, .d (eL24 t0 a0)), (5, .d (eL24 t0 a0)), (6, .i (a0.length : Int)), (7, .i x1_7)], []⟩) := by
    intro n
    induction n with
    | zero => exact fun _ H => iter0 H
    | succ n ih =>
      · intro x1_7 H
        refine goK hT 5 (K42 1101001 0) ⟨34, [(0, .d (eL24 t0 a0)), (5, .d (eL24 t0 a0)), (6, .i (a0.length : Int)), (7, .i x1_7), (8, .b (decide (x1_7 < (a0.length : Int))))], []⟩ ?_
        by_cases c1 : x1_7 < (a0.length : Int)
        · replace H := sT c1 H
          rw [decide_eq_true c1]
          refine goK hT 2 (K42 1101001 1) ⟨34, [(0, .d (eL24 t0 a0)), (5, .d (eL24 t0 a0)), (6, .i (a0.length : Int)), (7, .i x1_7)], []⟩ ?_
          refine goK hT 5 (K42 11010011000 1) ⟨34, [(0, .d (eL24 t0 a0)), (5, .d (eL24 t0 a0)), (6, .i (a0.length : Int)), (7, .i x1_7), (9, .i x1_7)], []⟩ ?_
          obtain ⟨h2, H⟩ := sC H
          have Jj1 : ∀ (y1_29 : Bool), stk (span_Check.j1 x1_7 y1_29) (iter (span_Check.step a0) n) = some r → AK X 42 ((K42 11010011001 1)) (Back X [] (.b r)) ⟨34, [(0, .d (eL24 t0 a0)), (5, .d (eL24 t0 a0)), (6, .i (a0.length : Int)), (7, .i x1_7), (29, .b y1_29)], []⟩ := by
            intro y1_29 H
            by_cases c6 : y1_29 = true
            · replace H := sT c6 H
              rw [c6]
              refine goK hT 5 (K42 1101001100110 1) ⟨34, [(2, .b false)], []⟩ ?_
              obtain rfl := retC H
              exact ak_ret hf hX (av := .b false) (by kernel_rfl) [] (sel_of_eq (by kernel_rfl)) (by decide) (by rw [h0]; rfl) (by kernel_rfl) (fun _ h => all_nil h) (.d (.v _))
            · replace H := sF c6 H
              rw [boF c6]
              refine goK hT 3 (K42 11010011 1) ⟨34, [(0, .d (eL24 t0 a0)), (5, .d (eL24 t0 a0)), (6, .i (a0.length : Int)), (7, .i x1_7)], []⟩ ?_
              refine goK hT 5 (K42 11010 0) ⟨34, [(0, .d (eL24 t0 a0)), (5, .d (eL24 t0 a0)), (6, .i (a0.length : Int)), (7, .i (IntKind.wrap .i64 (x1_7 + 1)))], []⟩ ?_
              refine cutK [] ⟨34, [(0, .d (eL24 t0 a0)), (5, .d (eL24 t0 a0)), (6, .i (a0.length : Int)), (7, .i (IntKind.wrap .i64 (x1_7 + 1)))], []⟩ h0 ?_
              exact ih (IntKind.wrap .i64 (x1_7 + 1)) H
          refine ak_idx hT [0, 5, 6, 7, 9, 10] (i := x1_7) (n := (a0.length : Int)) h2.1 h2.2 (k' := (K42 11010011000 2)) (st' := ⟨34, [(0, .d (eL24 t0 a0)), (5, .d (eL24 t0 a0)), (6, .i (a0.length : Int)), (7, .i x1_7), (9, .i x1_7), (10, .d (eP24 t0 a0 x1_7.toNat 0))], []⟩) (by kernel_rfl) ?_
          refine goK hT 6 (K42 11010011001 0) ⟨34, [(0, .d (eL24 t0 a0)), (3, .i x1_7), (4, .ptr 0 0 0 0), (5, .d (eL24 t0 a0)), (6, .i (a0.length : Int)), (7, .i x1_7)], [.box 24 (eC24 (a0.getD x1_7.toNat api_Span.z))]⟩ ?_
          by_cases c3 : (span_One (a0.getD x1_7.toNat api_Span.z)) = true
          · replace H := sT c3 H
            by_cases c4 : x1_7 > 0
            · replace H := sT c4 H
              obtain ⟨h5, H⟩ := sC H
              refine drawK (hP ▸ mixed) 18 [0, 3, 4, 5, 6, 7] [some (.d (eG24 (a0.getD x1_7.toNat api_Span.z))), some (.b true), some (.b false), some (.b false), some (.i x1_7), some (.b true), some (.b true), some (.ptr 0 0 0 0), some (.i ((a0.getD x1_7.toNat api_Span.z).Lo)), some (.d (eL24 t0 a0)), some (.i x1_7), some (.i (IntKind.wrap .i64 (x1_7 - 1))), some (.d (eP24 t0 a0 ((IntKind.wrap .i64 (x1_7 - 1)).toNat) 0)), some (.d (eP24 t0 a0 ((IntKind.wrap .i64 (x1_7 - 1)).toNat) 1)), some (.i ((a0.getD ((IntKind.wrap .i64 (x1_7 - 1)).toNat) api_Span.z).Hi)), some (.b (decide (((a0.getD x1_7.toNat api_Span.z).Lo) ≤ ((a0.getD ((IntKind.wrap .i64 (x1_7 - 1)).toNat) api_Span.z).Hi)))), some (.b (decide (((a0.getD x1_7.toNat api_Span.z).Lo) ≤ ((a0.getD ((IntKind.wrap .i64 (x1_7 - 1)).toNat) api_Span.z).Hi)))), some (.b (decide (((a0.getD x1_7.toNat api_Span.z).Lo) ≤ ((a0.getD ((IntKind.wrap .i64 (x1_7 - 1)).toNat) api_Span.z).Hi))))] (opG (opG (opG (opG (opG (opS (opG (opG (opG (opG (opG (opG (opV (opG (opG (opG (opS (opG op0 hT) (fun R rest h => ak_callD (avs := [.d (eG24 (a0.getD x1_7.toNat api_Span.z))]) (dst := some 13) hP enters_56 (by have q := span_One.says (a0.getD x1_7.toNat api_Span.z); rw [c3] at q; exact q) (by kernel_rfl) (.cons (pass_d _) .nil) (by kernel_rfl) h)) hT) hT) hT) hT 17 (.b (decide (x1_7 > 0))) (.b true) (by rw [decide_eq_true c4])) hT) hT) hT) hT) hT) hT) (fun R rest h => ak_idx0 hT (i := IntKind.wrap .i64 (x1_7 - 1)) (n := (a0.length : Int)) h5.1 h5.2 (by kernel_rfl) h)) hT) hT) hT) hT) hT) ?_
              refine goK hT 1 (K42 11010011001 1) ⟨34, [(0, .d (eL24 t0 a0)), (5, .d (eL24 t0 a0)), (6, .i (a0.length : Int)), (7, .i x1_7), (29, .b (decide (((a0.getD x1_7.toNat api_Span.z).Lo) ≤ ((a0.getD ((IntKind.wrap .i64 (x1_7 - 1)).toNat) api_Span.z).Hi))))], [.box 24 (eC24 (a0.getD x1_7.toNat api_Span.z))]⟩ ?_
              refine cutK [] ⟨34, [(0, .d (eL24 t0 a0)), (5, .d (eL24 t0 a0)), (6, .i (a0.length : Int)), (7, .i x1_7), (29, .b (decide (((a0.getD x1_7.toNat api_Span.z).Lo) ≤ ((a0.getD ((IntKind.wrap .i64 (x1_7 - 1)).toNat) api_Span.z).Hi))))], []⟩ h0 ?_
              exact Jj1 (decide (((a0.getD x1_7.toNat api_Span.z).Lo) ≤ ((a0.getD ((IntKind.wrap .i64 (x1_7 - 1)).toNat) api_Span.z).Hi))) H
            · replace H := sF c4 H
              refine drawK (hP ▸ mixed) 18 [0, 3, 4, 5, 6, 7] [some (.d (eG24 (a0.getD x1_7.toNat api_Span.z))), some (.b true), some (.b false), some (.b false), some (.i x1_7), some (.b false), some (.b false), some (.tup []), some (.tup []), some (.tup []), some (.tup []), some (.tup []), some (.tup []), some (.tup []), some (.tup []), some (.tup []), some (.b false), some (.b false)] (opG (opG (opG (opG (opG (opG (opG (opG (opG (opG (opG (opG (opV (opG (opG (opG (opS (opG op0 hT) (fun R rest h => ak_callD (avs := [.d (eG24 (a0.getD x1_7.toNat api_Span.z))]) (dst := some 13) hP enters_56 (by have q := span_One.says (a0.getD x1_7.toNat api_Span.z); rw [c3] at q; exact q) (by kernel_rfl) (.cons (pass_d _) .nil) (by kernel_rfl) h)) hT) hT) hT) hT 17 (.b (decide (x1_7 > 0))) (.b false) (by rw [decide_eq_false c4])) hT) hT) hT) hT) hT) hT) hT) hT) hT) hT) hT) hT) ?_
              refine goK hT 1 (K42 11010011001 1) ⟨34, [(0, .d (eL24 t0 a0)), (5, .d (eL24 t0 a0)), (6, .i (a0.length : Int)), (7, .i x1_7), (29, .b false)], [.box 24 (eC24 (a0.getD x1_7.toNat api_Span.z))]⟩ ?_
              refine cutK [] ⟨34, [(0, .d (eL24 t0 a0)), (5, .d (eL24 t0 a0)), (6, .i (a0.length : Int)), (7, .i x1_7), (29, .b false)], []⟩ h0 ?_
              exact Jj1 false H
          · replace H := sF c3 H
            refine drawK (hP ▸ mixed) 18 [0, 3, 4, 5, 6, 7] [some (.d (eG24 (a0.getD x1_7.toNat api_Span.z))), some (.b false), some (.b true), some (.b true), some (.tup []), some (.tup []), some (.tup []), some (.tup []), some (.tup []), some (.tup []), some (.tup []), some (.tup []), some (.tup []), some (.tup []), some (.tup []), some (.tup []), some (.tup []), some (.b true)] (opG (opG (opG (opG (opG (opG (opG (opG (opG (opG (opG (opG (opG (opG (opG (opG (opS (opG op0 hT) (fun R rest h => ak_callD (avs := [.d (eG24 (a0.getD x1_7.toNat api_Span.z))]) (dst := some 13) hP enters_56 (by have q := span_One.says (a0.getD x1_7.toNat api_Span.z); rw [boF c3] at q; exact q) (by kernel_rfl) (.cons (pass_d _) .nil) (by kernel_rfl) h)) hT) hT) hT) hT) hT) hT) hT) hT) hT) hT) hT) hT) hT) hT) hT) hT) ?_
            refine goK hT 1 (K42 11010011001 1) ⟨34, [(0, .d (eL24 t0 a0)), (5, .d (eL24 t0 a0)), (6, .i (a0.length : Int)), (7, .i x1_7), (29, .b true)], [.box 24 (eC24 (a0.getD x1_7.toNat api_Span.z))]⟩ ?_
            refine cutK [] ⟨34, [(0, .d (eL24 t0 a0)), (5, .d (eL24 t0 a0)), (6, .i (a0.length : Int)), (7, .i x1_7), (29, .b true)], []⟩ h0 ?_
            exact Jj1 true H
        · replace H := sF c1 H
          rw [decide_eq_false c1]
          refine goK hT 9 (K42 111 1) ⟨34, [(2, .b (decide ((a0.length : Int) ≤ 64)))], []⟩ ?_
          obtain rfl := retC H
          exact ak_ret hf hX (av := .b (decide ((a0.length : Int) ≤ 64))) (by kernel_rfl) [] (sel_of_eq (by kernel_rfl)) (by decide) (by rw [h0]; rfl) (by kernel_rfl) (fun _ h => all_nil h) (.d (.v _))
  refine cutK [] ⟨34, [(0, .d (eL24 t0 a0)), (5, .d (eL24 t0 a0)), (6, .i (a0.length : Int)), (7, .i 0)], []⟩ h0 ?_
  obtain ⟨n, H⟩ := loopC H
  exact (L n) 0 H


theorem slices_DeleteFunc_api_Pair.says {ff1 : FuncId} {cc1 : List DV} (a0 : List api_Pair) (p1 : api_Pair → Option Bool) (he1 : Sy.Enters Try.prog ff1) (hp1 : ∀ (z0 : api_Pair) r, p1 z0 = some r → Says Try.prog ff1 [] ([.d (eG47 z0)] ++ List.map AV.d cc1) [] (.b r)) {r : List api_Pair} (H : slices_DeleteFunc_api_Pair a0 p1 = some r) : Says Try.prog 80 [eR47 a0] [.own 0 2 0 a0.length, .d (.fn ff1 cc1)] [.gone, eR47 r] (.own 1 2 0 r.length) := by
  refine says_of Try.func80 rfl (nt := 42) rfl (Nat.le_of_ble_eq_true rfl) fun X hP h0 hX => ?_
  have hT : TabOk X.P T := hP ▸ tok
  have hf : X.P.funcs[80]? = some Try.f80 := hP ▸ Try.func80
  refine ak_dup 0 (r := eR47 a0) rfl rfl (st' := ⟨42, [(0, .own 1 2 0 a0.length), (1, .d (.fn ff1 cc1))], [.gone, eR47 a0]⟩) (by kernel_rfl) (by kernel_rfl) rfl ?_
  refine goK hT 8 (K80 110 2) ⟨42, [(0, .own 1 2 0 a0.length), (1, .d (.fn ff1 cc1)), (8, .own 1 2 0 a0.length), (9, .d (.fn ff1 cc1))], [.gone, eR47 a0]⟩ ?_
  obtain ⟨v1, h1, H⟩ := ibC H
  refine ak_callP (avs := [.own 1 2 0 a0.length, .d (.fn ff1 cc1)]) (dst := some 10) (k' := (K80 110 3)) [0, 1, 10] [] hP enters_106 (slices_IndexFunc_api_Pair.says (t0 := false) (ff1 := ff1) (cc1 := cc1) a0 p1 he1 hp1 h1) (by kernel_rfl) (hands_none _) (.cons (.lend (ty := 47) (by kernel_rfl) rfl) (.cons (pass_d _) .nil)) (st' := ⟨42, [(0, .own 1 2 0 a0.length), (1, .d (.fn ff1 cc1)), (10, .i v1)], [.gone, eR47 a0]⟩) (by kernel_rfl) ?_
  refine goK hT 8 (K80 1110 1) ⟨42, [(0, .own 1 2 0 a0.length), (1, .d (.fn ff1 cc1)), (5, .i v1), (12, .b (v1 == (-1)))], [.gone, eR47 a0]⟩ ?_
  by_cases c2 : v1 = (-1)
  · replace H := iT c2 H
    rw [eqT c2]
    refine goK hT 6 (K80 111010 1) ⟨42, [(4, .own 1 2 0 a0.length)], [.gone, eR47 a0]⟩ ?_
    obtain rfl := retC H
    exact ak_ret hf hX (av := .own 1 2 0 a0.length) (by kernel_rfl) [0, 1] (sel_of_eq (by kernel_rfl)) (by decide) (by rw [h0]; rfl) (by kernel_rfl) (fun _ h => all_cons .gone (fun _ h => all_cons (nr_vec api_Pair.nl) (fun _ h => all_nil h) h) h) (.own _ _ _ _)
  · replace H := iF c2 H
    rw [eqF c2]
    refine goK hT 2 (K80 111 1) ⟨42, [(0, .own 1 2 0 a0.length), (1, .d (.fn ff1 cc1)), (5, .i v1)], [.gone, eR47 a0]⟩ ?_
    refine goK hT 9 (K80 1111010 0) ⟨42, [(0, .own 1 2 0 a0.length), (1, .d (.fn ff1 cc1)), (5, .i v1), (6, .i (IntKind.wrap .i64 (v1 + 1)))], [.gone, eR47 a0]⟩ ?_
    have L : ∀ n, (∀ (x1_5 : Int) (x1_6 : Int) (x1_r1 : List api_Pair), iter (slices_DeleteFunc_api_Pair.step p1) n (.l1 x1_5 x1_6 x1_r1) = some r → AK X 80 ((K80 1111010 0)) (Back X [.gone, eR47 r] (.own 1 2 0 r.length)) ⟨42, [(0, .own 1 2 0 x1_r1.length), (1, .d (.fn ff1 cc1)), (5, .i x1_5), (6, .i x1_6)], [.gone, eR47 x1_r1]⟩) := by
      intro n
      induction n with
      | zero => exact fun _ _ _ H => iter0 H
      | succ n ih =>
        · intro x1_5 x1_6 x1_r1 H
          refine goK hT 8 (K80 111101000 1) ⟨42, [(0, .own 1 2 0 x1_r1.length), (1, .d (.fn ff1 cc1)), (5, .i x1_5), (6, .i x1_6), (19, .b (decide (x1_6 < (x1_r1.length : Int))))], [.gone, eR47 x1_r1]⟩ ?_
          by_cases c3 : x1_6 < (x1_r1.length : Int)
          · replace H := sT c3 H
            rw [decide_eq_true c3]
            refine goK hT 2 (K80 11110100 1) ⟨42, [(0, .own 1 2 0 x1_r1.length), (1, .d (.fn ff1 cc1)), (5, .i x1_5), (6, .i x1_6)], [.gone, eR47 x1_r1]⟩ ?_
            refine goK hT 6 (K80 111101001000 2) ⟨42, [(0, .own 1 2 0 x1_r1.length), (1, .d (.fn ff1 cc1)), (5, .i x1_5), (6, .i x1_6), (22, .own 1 2 0 x1_r1.length), (23, .i x1_6)], [.gone, eR47 x1_r1]⟩ ?_
            obtain ⟨h5, H⟩ := sC H
            refine ak_idx hT [0, 1, 5, 6, 24] (i := x1_6) (n := (x1_r1.length : Int)) h5.1 h5.2 (k' := (K80 111101001000 3)) (st' := ⟨42, [(0, .own 1 2 0 x1_r1.length), (1, .d (.fn ff1 cc1)), (5, .i x1_5), (6, .i x1_6), (24, .ptr 1 2 x1_6.toNat 0)], [.gone, eR47 x1_r1]⟩) (by kernel_rfl) ?_
            refine ak_ld hT [0, 1, 5, 6, 25] (i := x1_6.toNat) (n := x1_r1.length) (ltN h5.1 h5.2) (k' := (K80 111101001000 4)) (st' := ⟨42, [(0, .own 1 2 0 x1_r1.length), (1, .d (.fn ff1 cc1)), (5, .i x1_5), (6, .i x1_6), (25, .d (eG47 (x1_r1.getD x1_6.toNat api_Pair.z)))], [.gone, eR47 x1_r1]⟩) (by kernel_rfl) ?_
            refine goK hT 7 (K80 1111010010010 2) ⟨42, [(0, .own 1 2 0 x1_r1.length), (1, .d (.fn ff1 cc1)), (5, .i x1_5), (6, .i x1_6), (7, .ptr 2 0 0 0), (26, .d (.fn ff1 cc1)), (27, .d (eG47 (x1_r1.getD x1_6.toNat api_Pair.z)))], [.gone, eR47 x1_r1, .box 47 (eC47 (x1_r1.getD x1_6.toNat api_Pair.z))]⟩ ?_
            obtain ⟨v2, h6, H⟩ := sbC H
            have Jj1 : ∀ (y1_5 : Int) (y1_r1 : List api_Pair), stk (slices_DeleteFunc_api_Pair.j1 x1_6 y1_5 y1_r1) (iter (slices_DeleteFunc_api_Pair.step p1) n) = some r → AK X 80 ((K80 111101001 1)) (Back X [.gone, eR47 r] (.own 1 2 0 r.length)) ⟨42, [(0, .own 1 2 0 y1_r1.length), (1, .d (.fn ff1 cc1)), (5, .i y1_5), (6, .i x1_6)], [.gone, eR47 y1_r1]⟩ := by
              intro y1_5 y1_r1 H
              refine goK hT 6 (K80 1111010 0) ⟨42, [(0, .own 1 2 0 y1_r1.length), (1, .d (.fn ff1 cc1)), (5, .i y1_5), (6, .i (IntKind.wrap .i64 (x1_6 + 1)))], [.gone, eR47 y1_r1]⟩ ?_
              refine cutK [0, 1] ⟨42, [(0, .own 1 2 0 y1_r1.length), (1, .d (.fn ff1 cc1)), (5, .i y1_5), (6, .i (IntKind.wrap .i64 (x1_6 + 1)))], [.gone, eR47 y1_r1]⟩ h0 ?_
              exact ih y1_5 (IntKind.wrap .i64 (x1_6 + 1)) y1_r1 H
            refine ak_callP (avs := [.d (eG47 (x1_r1.getD x1_6.toNat api_Pair.z))] ++ List.map AV.d cc1) (dst := some 28) (k' := (K80 1111010010010 3)) [0, 1, 5, 6, 7, 28] [] hP he1 (hp1 (x1_r1.getD x1_6.toNat api_Pair.z) v2 h6) (by kernel_rfl) (hands_none _) (.cons (pass_d _) (passes_d _)) (st' := ⟨42, [(0, .own 1 2 0 x1_r1.length), (1, .d (.fn ff1 cc1)), (5, .i x1_5), (6, .i x1_6), (7, .ptr 2 0 0 0), (28, .b v2)], [.gone, eR47 x1_r1, .box 47 (eC47 (x1_r1.getD x1_6.toNat api_Pair.z))]⟩) (by kernel_rfl) ?_
            refine goK hT 2 (K80 111101001001 1) ⟨42, [(0, .own 1 2 0 x1_r1.length), (1, .d (.fn ff1 cc1)), (5, .i x1_5), (6, .i x1_6), (7, .ptr 2 0 0 0), (29, .b (!v2))], [.gone, eR47 x1_r1, .box 47 (eC47 (x1_r1.getD x1_6.toNat api_Pair.z))]⟩ ?_
            by_cases c7 : v2 = true
            · replace H := sT c7 H
              rw [c7]
              refine goK hT 3 (K80 111101001 1) ⟨42, [(0, .own 1 2 0 x1_r1.length), (1, .d (.fn ff1 cc1)), (5, .i x1_5), (6, .i x1_6)], [.gone, eR47 x1_r1, .box 47 (eC47 (x1_r1.getD x1_6.toNat api_Pair.z))]⟩ ?_
              refine cutK [0, 1] ⟨42, [(0, .own 1 2 0 x1_r1.length), (1, .d (.fn ff1 cc1)), (5, .i x1_5), (6, .i x1_6)], [.gone, eR47 x1_r1]⟩ h0 ?_
              exact Jj1 x1_5 x1_r1 H
            · replace H := sF c7 H
              rw [boF c7]
              refine goK hT 6 (K80 111101001001100 3) ⟨42, [(0, .own 1 2 0 x1_r1.length), (1, .d (.fn ff1 cc1)), (5, .i x1_5), (6, .i x1_6), (30, .own 1 2 0 x1_r1.length), (31, .i x1_5), (32, .d (eG47 (x1_r1.getD x1_6.toNat api_Pair.z)))], [.gone, eR47 x1_r1, .box 47 (eC47 (x1_r1.getD x1_6.toNat api_Pair.z))]⟩ ?_
              obtain ⟨h8, H⟩ := sC H
              refine ak_idx hT [0, 1, 5, 6, 32, 33] (i := x1_5) (n := (x1_r1.length : Int)) h8.1 h8.2 (k' := (K80 111101001001100 4)) (st' := ⟨42, [(0, .own 1 2 0 x1_r1.length), (1, .d (.fn ff1 cc1)), (5, .i x1_5), (6, .i x1_6), (32, .d (eG47 (x1_r1.getD x1_6.toNat api_Pair.z))), (33, .ptr 1 2 x1_5.toNat 0)], [.gone, eR47 x1_r1, .box 47 (eC47 (x1_r1.getD x1_6.toNat api_Pair.z))]⟩) (by kernel_rfl) ?_
              refine ak_st (id := 1) (kk := 2) (i := x1_5.toNat) (off := 0) (s := 2) (n := x1_r1.length) (ty := 47) (ds := [.i ((x1_r1.getD x1_6.toNat api_Pair.z).Key), .i ((x1_r1.getD x1_6.toNat api_Pair.z).Val)]) (g := vec api_Pair.e api_Pair.z x1_r1) (k' := (K80 111101001001100 5)) hT [0, 1, 5, 6] (vec api_Pair.e api_Pair.z (x1_r1.set x1_5.toNat (x1_r1.getD x1_6.toNat api_Pair.z))) (by kernel_rfl) (by kernel_rfl) (ltN h8.1 h8.2) ((vec_set (ltN h8.1 h8.2)).trans (by kernel_rfl)) vec_set_ne (st' := ⟨42, [(0, .own 1 2 0 (x1_r1.length)), (1, .d (.fn ff1 cc1)), (5, .i x1_5), (6, .i x1_6)], [.gone, .flat false 2 47 x1_r1.length (vec api_Pair.e api_Pair.z (x1_r1.set x1_5.toNat (x1_r1.getD x1_6.toNat api_Pair.z))), .box 47 (eC47 (x1_r1.getD x1_6.toNat api_Pair.z))]⟩) (by kernel_rfl) ?_
              refine ak_eq (show x1_r1.length = (x1_r1.set x1_5.toNat (x1_r1.getD x1_6.toNat api_Pair.z)).length from (List.length_set ..).symm) (fun nn => ⟨42, [(0, .own 1 2 0 (nn)), (1, .d (.fn ff1 cc1)), (5, .i x1_5), (6, .i x1_6)], [.gone, .flat false 2 47 nn (vec api_Pair.e api_Pair.z (x1_r1.set x1_5.toNat (x1_r1.getD x1_6.toNat api_Pair.z))), .box 47 (eC47 (x1_r1.getD x1_6.toNat api_Pair.z))]⟩) ?_
              refine goK hT 7 (K80 111101001 1) ⟨42, [(0, .own 1 2 0 ((x1_r1.set x1_5.toNat (x1_r1.getD x1_6.toNat api_Pair.z)).length)), (1, .d (.fn ff1 cc1)), (5, .i (IntKind.wrap .i64 (x1_5 + 1))), (6, .i x1_6)], [.gone, eR47 (x1_r1.set x1_5.toNat (x1_r1.getD x1_6.toNat api_Pair.z)), .box 47 (eC47 (x1_r1.getD x1_6.toNat api_Pair.z))]⟩ ?_
              refine cutK [0, 1] ⟨42, [(0, .own 1 2 0 (x1_r1.set x1_5.toNat (x1_r1.getD x1_6.toNat api_Pair.z)).length), (1, .d (.fn ff1 cc1)), (5, .i (IntKind.wrap .i64 (x1_5 + 1))), (6, .i x1_6)], [.gone, eR47 (x1_r1.set x1_5.toNat (x1_r1.getD x1_6.toNat api_Pair.z))]⟩ h0 ?_
              exact Jj1 (IntKind.wrap .i64 (x1_5 + 1)) (x1_r1.set x1_5.toNat (x1_r1.getD x1_6.toNat api_Pair.z)) H
          · replace H := sF c3 H
            rw [decide_eq_false c3]
            refine goK hT 6 (K80 111110 2) ⟨42, [(0, .own 1 2 0 x1_r1.length), (5, .i x1_5), (36, .own 1 2 0 x1_r1.length), (37, .i x1_5)], [.gone, eR47 x1_r1]⟩ ?_
            obtain ⟨h4, H⟩ := sC H
            refine ak_clear (id := 1) (s := 2) (off := 0) (n := x1_r1.length) (N := x1_r1.length) (kk := .i64) (l := x1_5) (d := 38) (ty := 47) (g := vec api_Pair.e api_Pair.z x1_r1) (k' := (K80 111110 4)) hT [0, 5] (by kernel_rfl) (by kernel_rfl) h4.1 h4.2 rfl rfl (by decide) (by decide) (st' := ⟨42, [(0, .own 1 2 0 x1_r1.length), (5, .i x1_5)], [.gone, .flat false 2 47 x1_5.toNat (vec api_Pair.e api_Pair.z x1_r1)]⟩) (by kernel_rfl) ?_
            refine ak_trunc 1 (kk := 2) (n := x1_5.toNat) (m := (x1_r1.take x1_5.toNat).length) (fz := false) (ty := 47) (g := vec api_Pair.e api_Pair.z x1_r1) (vec api_Pair.e api_Pair.z (x1_r1.take x1_5.toNat)) (by kernel_rfl) (by simp only [List.length_take]; omega) vec_take (st' := ⟨42, [(0, .own 1 2 0 x1_r1.length), (5, .i x1_5)], [.gone, eR47 (x1_r1.take x1_5.toNat)]⟩) (by kernel_rfl) ?_
            refine goK hT 5 (K80 1111110 2) ⟨42, [(39, .own 1 2 0 x1_r1.length), (40, .i x1_5)], [.gone, eR47 (x1_r1.take x1_5.toNat)]⟩ ?_
            refine ak_sliceO (id := 1) (s := 2) (off := 0) (n := x1_r1.length) (kk := .i64) (i := x1_5) (dst := some 41) (k' := (K80 1111110 3)) hT [41] (by kernel_rfl) h4.1 h4.2 (st' := ⟨42, [(41, .own 1 2 0 x1_5.toNat)], [.gone, eR47 (x1_r1.take x1_5.toNat)]⟩) (by kernel_rfl) ?_
            refine ak_eq (show x1_5.toNat = (x1_r1.take x1_5.toNat).length from by simp only [List.length_take]; omega) (fun nn => ⟨42, [(41, .own 1 2 0 nn)], [.gone, eR47 (x1_r1.take x1_5.toNat)]⟩) ?_
            refine goK hT 2 (K80 111111 1) ⟨42, [(4, .own 1 2 0 ((x1_r1.take x1_5.toNat).length))], [.gone, eR47 (x1_r1.take x1_5.toNat)]⟩ ?_
            obtain rfl := retC H
            exact ak_ret hf hX (av := .own 1 2 0 ((x1_r1.take x1_5.toNat).length)) (by kernel_rfl) [0, 1] (sel_of_eq (by kernel_rfl)) (by decide) (by rw [h0]; rfl) (by kernel_rfl) (fun _ h => all_cons .gone (fun _ h => all_cons (nr_vec api_Pair.nl) (fun _ h => all_nil h) h) h) (.own _ _ _ _)
    refine cutK [0, 1] ⟨42, [(0, .own 1 2 0 a0.length), (1, .d (.fn ff1 cc1)), (5, .i v1), (6, .i (IntKind.wrap .i64 (v1 + 1)))], [.gone, eR47 a0]⟩ h0 ?_
    obtain ⟨n, H⟩ := loopC H
    exact (L n) v1 (IntKind.wrap .i64 (v1 + 1)) a0 H


theorem slices_IndexFunc_api_Span.says {t0 : Bool} {ff1 : FuncId} {cc1 : List DV} (a0 : List api_Span) (p1 : api_Span → Option Bool) (he1 : Sy.Enters Try.prog ff1) (hp1 : ∀ (z0 : api_Span) r, p1 z0 = some r → Says Try.prog ff1 [] ([.d (eG24 z0)] ++ List.map AV.d cc1) [] (.b r)) {r : Int} (H : slices_IndexFunc_api_Span a0 p1 = some r) : Says Try.prog 91 [] [.d (eL24 t0 a0), .d (.fn ff1 cc1)] [] (.i r) := by
  refine says_of Try.func91 rfl (nt := 19) rfl (Nat.le_of_ble_eq_true rfl) fun X hP h0 hX => ?_
  have hT : TabOk X.P T := hP ▸ tok
  have hf : X.P.funcs[91]? = some Try.f91 := hP ▸ Try.func91
  refine goK hT 13 (K91 11010 0) ⟨19, [(0, .d (eL24 t0 a0)), (1, .d (.fn ff1 cc1)), (7, .i (a0.length : Int)), (8, .i 0)], []⟩ ?_
  have L : ∀ n, (∀ (x1_8 : Int), iter (slices_IndexFunc_api_Span.step a0 p1) n (.l1 x1_8) = some r → AK X 91 ((K91 11010 0)) (Back X [] (.i r)) ⟨19, [(0, .d (eL24 t0 a0)), (1, .d (.fn ff1 cc1)), (7, .i (a0.length : Int)), (8, .i x1_8)], []⟩) := by
    intro n
    induction n with
    | zero => exact fun _ H => iter0 H
    | succ n ih =>
      · intro x1_8 H
        refine goK hT 5 (K91 1101001 0) ⟨19, [(0, .d (eL24 t0 a0)), (1, .d (.fn ff1 cc1)), (7, .i (a0.length : Int)), (8, .i x1_8), (9, .b (decide (x1_8 < (a0.length : Int))))], []⟩ ?_
        by_cases c1 : x1_8 < (a0.length : Int)
        · replace H := sT c1 H
          rw [decide_eq_true c1]
          refine goK hT 2 (K91 1101001 1) ⟨19, [(0, .d (eL24 t0 a0)), (1, .d (.fn ff1 cc1)), (7, .i (a0.length : Int)), (8, .i x1_8)], []⟩ ?_
          refine goK hT 12 (K91 110100110010 3) ⟨19, [(0, .d (eL24 t0 a0)), (1, .d (.fn ff1 cc1)), (5, .i x1_8), (7, .i (a0.length : Int)), (8, .i x1_8), (11, .d (.fn ff1 cc1)), (12, .d (eL24 t0 a0)), (13, .i x1_8)], []⟩ ?_
          obtain ⟨h2, H⟩ := sC H
          refine ak_idx hT [0, 1, 5, 7, 8, 11, 14] (i := x1_8) (n := (a0.length : Int)) h2.1 h2.2 (k' := (K91 110100110010 4)) (st' := ⟨19, [(0, .d (eL24 t0 a0)), (1, .d (.fn ff1 cc1)), (5, .i x1_8), (7, .i (a0.length : Int)), (8, .i x1_8), (11, .d (.fn ff1 cc1)), (14, .d (eP24 t0 a0 x1_8.toNat 0))], []⟩) (by kernel_rfl) ?_
          refine goK hT 1 (K91 110100110010 5) ⟨19, [(0, .d (eL24 t0 a0)), (1, .d (.fn ff1 cc1)), (5, .i x1_8), (7, .i (a0.length : Int)), (8, .i x1_8), (11, .d (.fn ff1 cc1)), (15, .d (eG24 (a0.getD x1_8.toNat api_Span.z)))], []⟩ ?_
          obtain ⟨v1, h3, H⟩ := sbC H
          refine ak_callP (avs := [.d (eG24 (a0.getD x1_8.toNat api_Span.z))] ++ List.map AV.d cc1) (dst := some 16) (k' := (K91 110100110010 6)) [0, 1, 5, 7, 8, 16] [] hP he1 (hp1 (a0.getD x1_8.toNat api_Span.z) v1 h3) (by kernel_rfl) (hands_none _) (.cons (pass_d _) (passes_d _)) (st' := ⟨19, [(0, .d (eL24 t0 a0)), (1, .d (.fn ff1 cc1)), (5, .i x1_8), (7, .i (a0.length : Int)), (8, .i x1_8), (16, .b v1)], []⟩) (by kernel_rfl) ?_
          refine goK hT 1 (K91 11010011001 1) ⟨19, [(0, .d (eL24 t0 a0)), (1, .d (.fn ff1 cc1)), (5, .i x1_8), (7, .i (a0.length : Int)), (8, .i x1_8), (16, .b v1)], []⟩ ?_
          by_cases c4 : v1 = true
          · replace H := sT c4 H
            rw [c4]
            refine goK hT 6 (K91 1101001100110 1) ⟨19, [(4, .i x1_8)], []⟩ ?_
            obtain rfl := retC H
            exact ak_ret hf hX (av := .i x1_8) (by kernel_rfl) [] (sel_of_eq (by kernel_rfl)) (by decide) (by rw [h0]; rfl) (by kernel_rfl) (fun _ h => all_nil h) (.d (.v _))
          · replace H := sF c4 H
            rw [boF c4]
            refine goK hT 3 (K91 11010011 1) ⟨19, [(0, .d (eL24 t0 a0)), (1, .d (.fn ff1 cc1)), (7, .i (a0.length : Int)), (8, .i x1_8)], []⟩ ?_
            refine goK hT 5 (K91 11010 0) ⟨19, [(0, .d (eL24 t0 a0)), (1, .d (.fn ff1 cc1)), (7, .i (a0.length : Int)), (8, .i (IntKind.wrap .i64 (x1_8 + 1)))], []⟩ ?_
            refine cutK [] ⟨19, [(0, .d (eL24 t0 a0)), (1, .d (.fn ff1 cc1)), (7, .i (a0.length : Int)), (8, .i (IntKind.wrap .i64 (x1_8 + 1)))], []⟩ h0 ?_
            exact ih (IntKind.wrap .i64 (x1_8 + 1)) H
        · replace H := sF c1 H
          rw [decide_eq_false c1]
          refine goK hT 6 (K91 111 1) ⟨19, [(4, .i (-1))], []⟩ ?_
          obtain rfl := retC H
          exact ak_ret hf hX (av := .i (-1)) (by kernel_rfl) [] (sel_of_eq (by kernel_rfl)) (by decide) (by rw [h0]; rfl) (by kernel_rfl) (fun _ h => all_nil h) (.d (.v _))
  refine cutK [] ⟨19, [(0, .d (eL24 t0 a0)), (1, .d (.fn ff1 cc1)), (7, .i (a0.length : Int)), (8, .i 0)], []⟩ h0 ?_
  obtain ⟨n, H⟩ := loopC H
  exact (L n) 0 H


theorem slices_ContainsFunc_api_Span.says {t0 : Bool} {ff1 : FuncId} {cc1 : List DV} (a0 : List api_Span) (p1 : api_Span → Option Bool) (he1 : Sy.Enters Try.prog ff1) (hp1 : ∀ (z0 : api_Span) r, p1 z0 = some r → Says Try.prog ff1 [] ([.d (eG24 z0)] ++ List.map AV.d cc1) [] (.b r)) {r : Bool} (H : slices_ContainsFunc_api_Span a0 p1 = some r) : Says Try.prog 54 [] [.d (eL24 t0 a0), .d (.fn ff1 cc1)] [] (.b r) := by
  refine says_of Try.func54 rfl (nt := 9) rfl (Nat.le_of_ble_eq_true rfl) fun X hP h0 hX => ?_
  have hT : TabOk X.P T := hP ▸ tok
  have hf : X.P.funcs[54]? = some Try.f54 := hP ▸ Try.func54
  refine goK hT 8 (K54 110 2) ⟨9, [(5, .d (eL24 t0 a0)), (6, .d (.fn ff1 cc1))], []⟩ ?_
  obtain ⟨v1, h1, H⟩ := ibC H
  refine ak_callP (avs := [.d (eL24 t0 a0), .d (.fn ff1 cc1)]) (dst := some 7) (k' := (K54 110 3)) [7] [] hP enters_91 (slices_IndexFunc_api_Span.says (t0 := t0) (ff1 := ff1) (cc1 := cc1) a0 p1 he1 hp1 h1) (by kernel_rfl) (hands_none _) (.cons (pass_d _) (.cons (pass_d _) .nil)) (st' := ⟨9, [(7, .i v1)], []⟩) (by kernel_rfl) ?_
  refine goK hT 3 (K54 11 1) ⟨9, [(4, .b (decide (v1 ≥ 0)))], []⟩ ?_
  obtain rfl := retC H
  exact ak_ret hf hX (av := .b (decide (v1 ≥ 0))) (by kernel_rfl) [] (sel_of_eq (by kernel_rfl)) (by decide) (by rw [h0]; rfl) (by kernel_rfl) (fun _ h => all_nil h) (.d (.v _))


theorem span_Has_1.says (a0 : api_Span) (k0 : Int) : Says Try.prog 55 [] [.d (eG24 a0), .d (.rop false 1 (fun _ => [.i k0]) 0 0)] [] (.b (span_Has_1 a0 k0)) := by
  obtain ⟨r, H⟩ : ∃ r, span_Has_1 a0 k0 = r := ⟨_, rfl⟩
  rw [H]
  refine says_of Try.func55 rfl (nt := 18) rfl (Nat.le_of_ble_eq_true rfl) fun X hP h0 hX => ?_
  have hT : TabOk X.P T := hP ▸ tok
  have hf : X.P.funcs[55]? = some Try.f55 := hP ▸ Try.func55
  have Jj1 : ∀ (y1_3 : Bool), (span_Has_1.j1 y1_3) = r → AK X 55 ((K55 11 1)) (Back X [] (.b r)) ⟨18, [(3, .b y1_3)], []⟩ := by
    intro y1_3 H
    obtain rfl := H
    exact ak_ret hf hX (av := .b y1_3) (by kernel_rfl) [] (sel_of_eq (by kernel_rfl)) (by decide) (by rw [h0]; rfl) (by kernel_rfl) (fun _ h => all_nil h) (.d (.v _))
  refine goK hT 8 (K55 110 1) ⟨18, [(1, .d (.rop false 1 (fun _ => [.i k0]) 0 0)), (2, .ptr 0 0 0 0), (4, .d (eG24 a0))], [.box 24 (eC24 a0)]⟩ ?_
  refine ak_callP (avs := [.d (eG24 a0)]) (dst := some 5) (k' := (K55 110 2)) [1, 2, 5] [] hP enters_56 (span_One.says a0) (by kernel_rfl) (hands_none _) (.cons (pass_d _) .nil) (st' := ⟨18, [(1, .d (.rop false 1 (fun _ => [.i k0]) 0 0)), (2, .ptr 0 0 0 0), (5, .b (span_One a0))], [.box 24 (eC24 a0)]⟩) (by kernel_rfl) ?_
  refine goK hT 1 (K55 110 3) ⟨18, [(1, .d (.rop false 1 (fun _ => [.i k0]) 0 0)), (2, .ptr 0 0 0 0), (6, .b (span_One a0))], [.box 24 (eC24 a0)]⟩ ?_
  by_cases c1 : (span_One a0) = true
  · replace H := iT c1 H
    rw [c1]
    refine goK hT 6 (K55 110 9) ⟨18, [(1, .d (.rop false 1 (fun _ => [.i k0]) 0 0)), (2, .ptr 0 0 0 0), (12, .b (decide (k0 ≥ a0.Lo)))], [.box 24 (eC24 a0)]⟩ ?_
    by_cases c2 : k0 ≥ a0.Lo
    · replace H := iT c2 H
      rw [decide_eq_true c2]
      refine goK hT 7 (K55 11 1) ⟨18, [(3, .b (decide (k0 < a0.Hi)))], [.box 24 (eC24 a0)]⟩ ?_
      refine cutK [] ⟨18, [(3, .b (decide (k0 < a0.Hi)))], []⟩ h0 ?_
      exact Jj1 (decide (k0 < a0.Hi)) H
    · replace H := iF c2 H
      rw [decide_eq_false c2]
      refine goK hT 7 (K55 11 1) ⟨18, [(3, .b false)], [.box 24 (eC24 a0)]⟩ ?_
      refine cutK [] ⟨18, [(3, .b false)], []⟩ h0 ?_
      exact Jj1 false H
  · replace H := iF c1 H
    rw [boF c1]
    refine goK hT 13 (K55 11 1) ⟨18, [(3, .b false)], [.box 24 (eC24 a0)]⟩ ?_
    refine cutK [] ⟨18, [(3, .b false)], []⟩ h0 ?_
    exact Jj1 false H


theorem span_Has.says {t0 : Bool} (a0 : List api_Span) (a1 : Int) {r : Bool} (H : span_Has a0 a1 = some r) : Says Try.prog 25 [] [.d (eL24 t0 a0), .i a1] [] (.b r) := by
  refine says_of Try.func25 rfl (nt := 8) rfl (Nat.le_of_ble_eq_true rfl) fun X hP h0 hX => ?_
  have hT : TabOk X.P T := hP ▸ tok
  have hf : X.P.funcs[25]? = some Try.f25 := hP ▸ Try.func25
  refine goK hT 9 (K25 110 2) ⟨8, [(5, .d (eL24 t0 a0)), (6, .fn 55 [.ptr 0 0 0 0])], [.box 3 [.i a1]]⟩ ?_
  obtain ⟨v1, h1, H⟩ := ibC H
  refine ak_callP (avs := [.d (eL24 t0 a0), .fn 55 [.ptr 0 0 0 0]]) (dst := some 7) (k' := (K25 110 3)) [7] [] hP enters_54 (slices_ContainsFunc_api_Span.says (t0 := t0) (ff1 := 55) (cc1 := [.rop false 1 (fun _ => [.i a1]) 0 0]) a0 (fun z0 => some (span_Has_1 z0 a1)) enters_55 (fun z0 r h => by obtain rfl := retC h; exact span_Has_1.says z0 a1) h1) (by kernel_rfl) (hands_none _) (.cons (pass_d _) (.cons (.fn 55 (.cons (.look (ty := 3) (cs := [.i a1]) (by kernel_rfl) rfl) .nil)) .nil)) (st' := ⟨8, [(7, .b v1)], [.box 3 [.i a1]]⟩) (by kernel_rfl) ?_
  refine goK hT 2 (K25 11 1) ⟨8, [(4, .b v1)], [.box 3 [.i a1]]⟩ ?_
  obtain rfl := retC H
  exact ak_ret hf hX (av := .b v1) (by kernel_rfl) [] (sel_of_eq (by kernel_rfl)) (by decide) (by rw [h0]; rfl) (by kernel_rfl) (fun _ h => all_nil h) (.d (.v _))


theorem table_cut_1.says (a0 : api_Pair) (k0 : api_Span) (k1 : List api_Span) {r : Bool} (H : table_cut_1 a0 k0 k1 = some r) : Says Try.prog 81 [] [.d (eG47 a0), .d (.rop false 1 (fun _ => [.i k0.Lo, .i k0.Hi]) 0 0), .d (.rop false 1 (fun _ => [eL24 true k1]) 0 0)] [] (.b r) := by
  refine says_of Try.func81 rfl (nt := 23) rfl (Nat.le_of_ble_eq_true rfl) fun X hP h0 hX => ?_
  have hT : TabOk X.P T := hP ▸ tok
  have hf : X.P.funcs[81]? = some Try.f81 := hP ▸ Try.func81
  have Jj1 : ∀ (y1_4 : Bool), (table_cut_1.j1 y1_4) = some r → AK X 81 ((K81 11 1)) (Back X [] (.b r)) ⟨23, [(4, .b y1_4)], []⟩ := by
    intro y1_4 H
    obtain rfl := retC H
    exact ak_ret hf hX (av := .b y1_4) (by kernel_rfl) [] (sel_of_eq (by kernel_rfl)) (by decide) (by rw [h0]; rfl) (by kernel_rfl) (fun _ h => all_nil h) (.d (.v _))
  refine goK hT 13 (K81 110 6) ⟨23, [(1, .d (.rop false 1 (fun _ => [.i k0.Lo, .i k0.Hi]) 0 0)), (2, .d (.rop false 1 (fun _ => [eL24 true k1]) 0 0)), (3, .ptr 0 0 0 0), (10, .b (decide (a0.Key ≥ k0.Lo)))], [.box 47 (eC47 a0)]⟩ ?_
  by_cases c1 : a0.Key ≥ k0.Lo
  · replace H := iT c1 H
    rw [decide_eq_true c1]
    refine goK hT 7 (K81 110 13) ⟨23, [(2, .d (.rop false 1 (fun _ => [eL24 true k1]) 0 0)), (3, .ptr 0 0 0 0), (17, .b (decide (a0.Key < k0.Hi)))], [.box 47 (eC47 a0)]⟩ ?_
    by_cases c2 : a0.Key < k0.Hi
    · replace H := iT c2 H
      rw [decide_eq_true c2]
      refine goK hT 3 (K81 110 16) ⟨23, [(17, .b true), (18, .d (eL24 true k1)), (20, .i a0.Key)], [.box 47 (eC47 a0)]⟩ ?_
      obtain ⟨v1, h3, H⟩ := ibC H
      refine ak_callP (avs := [.d (eL24 true k1), .i a0.Key]) (dst := some 21) (k' := (K81 110 17)) [17, 21] [] hP enters_25 (span_Has.says (t0 := true) k1 a0.Key h3) (by kernel_rfl) (hands_none _) (.cons (pass_d _) (.cons (pass_d _) .nil)) (st' := ⟨23, [(17, .b true), (21, .b v1)], [.box 47 (eC47 a0)]⟩) (by kernel_rfl) ?_
      refine goK hT 3 (K81 11 1) ⟨23, [(4, .b v1)], [.box 47 (eC47 a0)]⟩ ?_
      refine cutK [] ⟨23, [(4, .b v1)], []⟩ h0 ?_
      exact Jj1 v1 H
    · replace H := iF c2 H
      rw [decide_eq_false c2]
      refine goK hT 7 (K81 11 1) ⟨23, [(4, .b false)], [.box 47 (eC47 a0)]⟩ ?_
      refine cutK [] ⟨23, [(4, .b false)], []⟩ h0 ?_
      exact Jj1 false H
  · replace H := iF c1 H
    rw [decide_eq_false c1]
    refine goK hT 14 (K81 11 1) ⟨23, [(4, .b false)], [.box 47 (eC47 a0)]⟩ ?_
    refine cutK [] ⟨23, [(4, .b false)], []⟩ h0 ?_
    exact Jj1 false H


theorem table_cut.says (a0 : List api_Pair) (a1 : api_Span) (a2 : List api_Span) {r : List api_Pair} (H : table_cut a0 a1 a2 = some r) : Says Try.prog 44 [eR47 a0] [.own 0 2 0 a0.length, .d (eG24 a1), .d (eL24 true a2)] [.gone, eR47 r] (.own 1 2 0 r.length) := by
  refine says_of Try.func44 rfl (nt := 10) rfl (Nat.le_of_ble_eq_true rfl) fun X hP h0 hX => ?_
  have hT : TabOk X.P T := hP ▸ tok
  have hf : X.P.funcs[44]? = some Try.f44 := hP ▸ Try.func44
  refine ak_dup 0 (r := eR47 a0) rfl rfl (st' := ⟨10, [(0, .own 1 2 0 a0.length), (1, .d (eG24 a1)), (2, .d (eL24 true a2))], [.gone, eR47 a0]⟩) (by kernel_rfl) (by kernel_rfl) rfl ?_
  refine goK hT 10 (K44 110 2) ⟨10, [(7, .own 1 2 0 a0.length), (8, .fn 81 [.ptr 2 0 0 0, .ptr 3 0 0 0])], [.gone, eR47 a0, .box 24 (eC24 a1), .box 27 [.d (eL24 true a2)]]⟩ ?_
  obtain ⟨v1, h1, H⟩ := ibC H
  refine ak_callP (avs := [.own 1 2 0 a0.length, .fn 81 [.ptr 2 0 0 0, .ptr 3 0 0 0]]) (dst := some 9) (k' := (K44 110 3)) [9] [1] hP enters_80 (slices_DeleteFunc_api_Pair.says (ff1 := 81) (cc1 := [.rop false 1 (fun _ => [.i a1.Lo, .i a1.Hi]) 0 0, .rop false 1 (fun _ => [eL24 true a2]) 0 0]) a0 (fun z0 => table_cut_1 z0 a1 a2) enters_81 (fun z0 r h => table_cut_1.says z0 a1 a2 h) h1) (by kernel_rfl) (hands_one rfl rfl) (.cons (.same (.own 0 2 0 a0.length)) (.cons (.fn 81 (.cons (.look (ty := 24) (cs := [.i a1.Lo, .i a1.Hi]) (by kernel_rfl) rfl) (.cons (.look (ty := 27) (cs := [eL24 true a2]) (by kernel_rfl) rfl) .nil))) .nil)) (st' := ⟨10, [(9, .own 4 2 0 v1.length)], [.gone, .gone, .box 24 (eC24 a1), .box 27 [.d (eL24 true a2)], eR47 v1]⟩) (by kernel_rfl) ?_
  refine goK hT 2 (K44 11 1) ⟨10, [(6, .own 4 2 0 v1.length)], [.gone, .gone, .box 24 (eC24 a1), .box 27 [.d (eL24 true a2)], eR47 v1]⟩ ?_
  obtain rfl := retC H
  exact ak_ret hf hX (av := .own 4 2 0 v1.length) (by kernel_rfl) [0, 4] (sel_of_eq (by kernel_rfl)) (by decide) (by rw [h0]; rfl) (by kernel_rfl) (fun _ h => all_cons .gone (fun _ h => all_cons (nr_vec api_Pair.nl) (fun _ h => all_nil h) h) h) (.own _ _ _ _)


theorem mut_Alone.says (a0 : api_Mut) {r : Bool} (H : mut_Alone a0 = some r) : Says Try.prog 29 [] [.d (eG26 a0)] [] (.b r) := by
  refine says_of Try.func29 rfl (nt := 15) rfl (Nat.le_of_ble_eq_true rfl) fun X hP h0 hX => ?_
  have hT : TabOk X.P T := hP ▸ tok
  have hf : X.P.funcs[29]? = some Try.f29 := hP ▸ Try.func29
  refine goK hT 8 (K29 110 1) ⟨15, [(1, .ptr 0 0 0 0), (3, .d (eG26 a0))], [.box 26 (eC26 a0)]⟩ ?_
  obtain ⟨v1, h1, H⟩ := ibC H
  have Jj1 : ∀ (y1_2 : Bool), (mut_Alone.j1 y1_2) = some r → AK X 29 ((K29 11 1)) (Back X [] (.b r)) ⟨15, [(2, .b y1_2)], []⟩ := by
    intro y1_2 H
    obtain rfl := retC H
    exact ak_ret hf hX (av := .b y1_2) (by kernel_rfl) [] (sel_of_eq (by kernel_rfl)) (by decide) (by rw [h0]; rfl) (by kernel_rfl) (fun _ h => all_nil h) (.d (.v _))
  refine ak_callP (avs := [.d (eG26 a0)]) (dst := some 4) (k' := (K29 110 2)) [1, 4] [] hP enters_23 (mut_Check.says a0 h1) (by kernel_rfl) (hands_none _) (.cons (pass_d _) .nil) (st' := ⟨15, [(1, .ptr 0 0 0 0), (4, .b v1)], [.box 26 (eC26 a0)]⟩) (by kernel_rfl) ?_
  refine goK hT 1 (K29 110 3) ⟨15, [(1, .ptr 0 0 0 0), (5, .b v1)], [.box 26 (eC26 a0)]⟩ ?_
  by_cases c2 : v1 = true
  · replace H := iT c2 H
    rw [c2]
    refine goK hT 4 (K29 110 7) ⟨15, [(1, .ptr 0 0 0 0), (5, .b true), (9, .b (a0.Kind == 3))], [.box 26 (eC26 a0)]⟩ ?_
    by_cases c3 : a0.Kind = 3
    · replace H := iT c3 H
      rw [eqT c3]
      refine goK hT 7 (K29 11 1) ⟨15, [(2, .b true)], [.box 26 (eC26 a0)]⟩ ?_
      refine cutK [] ⟨15, [(2, .b true)], []⟩ h0 ?_
      exact Jj1 true H
    · replace H := iF c3 H
      rw [eqF c3]
      refine goK hT 7 (K29 11 1) ⟨15, [(2, .b (a0.Kind == 4))], [.box 26 (eC26 a0)]⟩ ?_
      refine cutK [] ⟨15, [(2, .b (a0.Kind == 4))], []⟩ h0 ?_
      exact Jj1 (a0.Kind == 4) H
  · replace H := iF c2 H
    rw [boF c2]
    refine goK hT 11 (K29 11 1) ⟨15, [(2, .b false)], [.box 26 (eC26 a0)]⟩ ?_
    refine cutK [] ⟨15, [(2, .b false)], []⟩ h0 ?_
    exact Jj1 false H


theorem slices_BinarySearchFunc_int.says {t0 : Bool} {ff2 : FuncId} {cc2 : List DV} (a0 : List api_Pair) (a1 : Int) (p2 : api_Pair → Int → Option Int) (he2 : Sy.Enters Try.prog ff2) (hp2 : ∀ (z0 : api_Pair) (z1 : Int) r, p2 z0 z1 = some r → Says Try.prog ff2 [] ([.d (eG47 z0), .i z1] ++ List.map AV.d cc2) [] (.i r)) {r : Int × Bool} (H : slices_BinarySearchFunc_int a0 a1 p2 = some r) : Says Try.prog 107 [] [.d (eL47 t0 a0), .i a1, .d (.fn ff2 cc2)] [] (.tup [.i r.1, .b r.2]) := by
  refine says_of Try.func107 rfl (nt := 49) rfl (Nat.le_of_ble_eq_true rfl) fun X hP h0 hX => ?_
  have hT : TabOk X.P T := hP ▸ tok
  have hf : X.P.funcs[107]? = some Try.f107 := hP ▸ Try.func107
  refine goK hT 20 (K107 111100 0) ⟨49, [(0, .d (eL47 t0 a0)), (1, .i a1), (2, .d (.fn ff2 cc2)), (8, .i (a0.length : Int)), (9, .i 0), (10, .i (a0.length : Int))], []⟩ ?_
  have L : ∀ n, (∀ (x1_9 : Int) (x1_10 : Int), iter (slices_BinarySearchFunc_int.step a0 a1 p2) n (.l1 x1_9 x1_10) = some r → AK X 107 ((K107 111100 0)) (Back X [] (.tup [.i r.1, .b r.2])) ⟨49, [(0, .d (eL47 t0 a0)), (1, .i a1), (2, .d (.fn ff2 cc2)), (8, .i (a0.length : Int)), (9, .i x1_9), (10, .i x1_10)], []⟩) := by
    intro n
    induction n with
    | zero => exact fun _ _ H => iter0 H
    | succ n ih =>
      · intro x1_9 x1_10 H
        refine goK hT 7 (K107 11110000 1) ⟨49, [(0, .d (eL47 t0 a0)), (1, .i a1), (2, .d (.fn ff2 cc2)), (8, .i (a0.length : Int)), (9, .i x1_9), (10, .i x1_10), (17, .b (decide (x1_9 < x1_10)))], []⟩ ?_
        by_cases c1 : x1_9 < x1_10
        · replace H := sT c1 H
          rw [decide_eq_true c1]
          refine goK hT 2 (K107 1111000 1) ⟨49, [(0, .d (eL47 t0 a0)), (1, .i a1), (2, .d (.fn ff2 cc2)), (8, .i (a0.length : Int)), (9, .i x1_9), (10, .i x1_10)], []⟩ ?_
          refine goK hT 10 (K107 1111000100 7) ⟨49, [(0, .d (eL47 t0 a0)), (1, .i a1), (2, .d (.fn ff2 cc2)), (8, .i (a0.length : Int)), (9, .i x1_9), (10, .i x1_10), (11, .i (IntKind.wrap .i64 (Int.fdiv (IntKind.wrap .u64 (IntKind.wrap .i64 (x1_9 + x1_10))) 2)))], []⟩ ?_
          obtain ⟨v2, h5, H⟩ := sdC H
          rw [← h5]
          refine goK hT 6 (K107 11110001010 3) ⟨49, [(0, .d (eL47 t0 a0)), (1, .i a1), (2, .d (.fn ff2 cc2)), (8, .i (a0.length : Int)), (9, .i x1_9), (10, .i x1_10), (11, .i v2), (24, .d (.fn ff2 cc2)), (25, .d (eL47 t0 a0)), (26, .i v2)], []⟩ ?_
          obtain ⟨h6, H⟩ := sC H
          refine ak_idx hT [0, 1, 2, 8, 9, 10, 11, 24, 27] (i := v2) (n := (a0.length : Int)) h6.1 h6.2 (k' := (K107 11110001010 4)) (st' := ⟨49, [(0, .d (eL47 t0 a0)), (1, .i a1), (2, .d (.fn ff2 cc2)), (8, .i (a0.length : Int)), (9, .i x1_9), (10, .i x1_10), (11, .i v2), (24, .d (.fn ff2 cc2)), (27, .d (eP47 t0 a0 v2.toNat 0))], []⟩) (by kernel_rfl) ?_
          refine goK hT 2 (K107 11110001010 6) ⟨49, [(0, .d (eL47 t0 a0)), (1, .i a1), (2, .d (.fn ff2 cc2)), (8, .i (a0.length : Int)), (9, .i x1_9), (10, .i x1_10), (11, .i v2), (24, .d (.fn ff2 cc2)), (28, .d (eG47 (a0.getD v2.toNat api_Pair.z))), (29, .i a1)], []⟩ ?_
          obtain ⟨v3, h7, H⟩ := sbC H
          refine ak_callP (avs := [.d (eG47 (a0.getD v2.toNat api_Pair.z)), .i a1] ++ List.map AV.d cc2) (dst := some 30) (k' := (K107 11110001010 7)) [0, 1, 2, 8, 9, 10, 11, 30] [] hP he2 (hp2 (a0.getD v2.toNat api_Pair.z) a1 v3 h7) (by kernel_rfl) (hands_none _) (.cons (pass_d _) (.cons (pass_d _) (passes_d _))) (st' := ⟨49, [(0, .d (eL47 t0 a0)), (1, .i a1), (2, .d (.fn ff2 cc2)), (8, .i (a0.length : Int)), (9, .i x1_9), (10, .i x1_10), (11, .i v2), (30, .i v3)], []⟩) (by kernel_rfl) ?_
          refine goK hT 2 (K107 1111000101 1) ⟨49, [(0, .d (eL47 t0 a0)), (1, .i a1), (2, .d (.fn ff2 cc2)), (8, .i (a0.length : Int)), (9, .i x1_9), (10, .i x1_10), (11, .i v2), (31, .b (decide (v3 < 0)))], []⟩ ?_
          by_cases c8 : v3 < 0
          · replace H := sT c8 H
            rw [decide_eq_true c8]
            refine goK hT 8 (K107 111100 0) ⟨49, [(0, .d (eL47 t0 a0)), (1, .i a1), (2, .d (.fn ff2 cc2)), (8, .i (a0.length : Int)), (9, .i (IntKind.wrap .i64 (v2 + 1))), (10, .i x1_10)], []⟩ ?_
            refine cutK [] ⟨49, [(0, .d (eL47 t0 a0)), (1, .i a1), (2, .d (.fn ff2 cc2)), (8, .i (a0.length : Int)), (9, .i (IntKind.wrap .i64 (v2 + 1))), (10, .i x1_10)], []⟩ h0 ?_
            exact ih (IntKind.wrap .i64 (v2 + 1)) x1_10 H
          · replace H := sF c8 H
            rw [decide_eq_false c8]
            refine goK hT 7 (K107 111100 0) ⟨49, [(0, .d (eL47 t0 a0)), (1, .i a1), (2, .d (.fn ff2 cc2)), (8, .i (a0.length : Int)), (9, .i x1_9), (10, .i v2)], []⟩ ?_
            refine cutK [] ⟨49, [(0, .d (eL47 t0 a0)), (1, .i a1), (2, .d (.fn ff2 cc2)), (8, .i (a0.length : Int)), (9, .i x1_9), (10, .i v2)], []⟩ h0 ?_
            exact ih x1_9 v2 H
        · replace H := sF c1 H
          have Jj1 : ∀ (y1_7 : Bool), stk (slices_BinarySearchFunc_int.j1 x1_9 y1_7) (iter (slices_BinarySearchFunc_int.step a0 a1 p2) n) = some r → AK X 107 ((K107 11111 1)) (Back X [] (.tup [.i r.1, .b r.2])) ⟨49, [(6, .i x1_9), (7, .b y1_7)], []⟩ := by
            intro y1_7 H
            obtain rfl := retC H
            exact ak_ret hf hX (av := .tup [.i x1_9, .b y1_7]) (by kernel_rfl) [] (sel_of_eq (by kernel_rfl)) (by decide) (by rw [h0]; rfl) (by kernel_rfl) (fun _ h => all_nil h) (.tup (.cons (.d (.v _)) (.cons (.d (.v _)) .nil)))
          rw [decide_eq_false c1]
          refine goK hT 9 (K107 111110 5) ⟨49, [(0, .d (eL47 t0 a0)), (1, .i a1), (2, .d (.fn ff2 cc2)), (9, .i x1_9), (35, .i x1_9), (39, .b (decide (x1_9 < (a0.length : Int))))], []⟩ ?_
          by_cases c2 : x1_9 < (a0.length : Int)
          · replace H := sT c2 H
            rw [decide_eq_true c2]
            refine goK hT 3 (K107 111110 8) ⟨49, [(1, .i a1), (35, .i x1_9), (39, .b true), (40, .d (.fn ff2 cc2)), (41, .d (eL47 t0 a0)), (42, .i x1_9)], []⟩ ?_
            obtain ⟨h3, H⟩ := sC H
            refine ak_idx hT [1, 35, 39, 40, 43] (i := x1_9) (n := (a0.length : Int)) h3.1 h3.2 (k' := (K107 111110 9)) (st' := ⟨49, [(1, .i a1), (35, .i x1_9), (39, .b true), (40, .d (.fn ff2 cc2)), (43, .d (eP47 t0 a0 x1_9.toNat 0))], []⟩) (by kernel_rfl) ?_
            refine goK hT 2 (K107 111110 11) ⟨49, [(35, .i x1_9), (39, .b true), (40, .d (.fn ff2 cc2)), (44, .d (eG47 (a0.getD x1_9.toNat api_Pair.z))), (45, .i a1)], []⟩ ?_
            obtain ⟨v1, h4, H⟩ := sbC H
            refine ak_callP (avs := [.d (eG47 (a0.getD x1_9.toNat api_Pair.z)), .i a1] ++ List.map AV.d cc2) (dst := some 46) (k' := (K107 111110 12)) [35, 39, 46] [] hP he2 (hp2 (a0.getD x1_9.toNat api_Pair.z) a1 v1 h4) (by kernel_rfl) (hands_none _) (.cons (pass_d _) (.cons (pass_d _) (passes_d _))) (st' := ⟨49, [(35, .i x1_9), (39, .b true), (46, .i v1)], []⟩) (by kernel_rfl) ?_
            refine goK hT 5 (K107 11111 1) ⟨49, [(6, .i x1_9), (7, .b (v1 == 0))], []⟩ ?_
            refine cutK [] ⟨49, [(6, .i x1_9), (7, .b (v1 == 0))], []⟩ h0 ?_
            exact Jj1 (v1 == 0) H
          · replace H := sF c2 H
            rw [decide_eq_false c2]
            refine goK hT 12 (K107 11111 1) ⟨49, [(6, .i x1_9), (7, .b false)], []⟩ ?_
            refine cutK [] ⟨49, [(6, .i x1_9), (7, .b false)], []⟩ h0 ?_
            exact Jj1 false H
  refine cutK [] ⟨49, [(0, .d (eL47 t0 a0)), (1, .i a1), (2, .d (.fn ff2 cc2)), (8, .i (a0.length : Int)), (9, .i 0), (10, .i (a0.length : Int))], []⟩ h0 ?_
  obtain ⟨n, H⟩ := loopC H
  exact (L n) 0 (a0.length : Int) H


theorem cmp_isNaN_int.says (a0 : Int) : Says Try.prog 101 [] [.i a0] [] (.b (cmp_isNaN_int a0)) := by
  obtain ⟨r, H⟩ : ∃ r, cmp_isNaN_int a0 = r := ⟨_, rfl⟩
  rw [H]
  refine says_of Try.func101 rfl (nt := 6) rfl (Nat.le_of_ble_eq_true rfl) fun X hP h0 hX => ?_
  have hT : TabOk X.P T := hP ▸ tok
  have hf : X.P.funcs[101]? = some Try.f101 := hP ▸ Try.func101
  refine goK hT 11 (K101 11 1) ⟨6, [(2, .b (a0 != a0))], []⟩ ?_
  obtain rfl := H
  exact ak_ret hf hX (av := .b (a0 != a0)) (by kernel_rfl) [] (sel_of_eq (by kernel_rfl)) (by decide) (by rw [h0]; rfl) (by kernel_rfl) (fun _ h => all_nil h) (.d (.v _))


theorem cmp_Compare_int.says (a0 : Int) (a1 : Int) : Says Try.prog 75 [] [.i a0, .i a1] [] (.i (cmp_Compare_int a0 a1)) := by
  obtain ⟨r, H⟩ : ∃ r, cmp_Compare_int a0 a1 = r := ⟨_, rfl⟩
  rw [H]
  refine says_of Try.func75 rfl (nt := 20) rfl (Nat.le_of_ble_eq_true rfl) fun X hP h0 hX => ?_
  have hT : TabOk X.P T := hP ▸ tok
  have hf : X.P.funcs[75]? = some Try.f75 := hP ▸ Try.func75
  refine goK hT 7 (K75 110 1) ⟨20, [(0, .i a0), (1, .i a1), (7, .i a0)], []⟩ ?_
  refine ak_callP (avs := [.i a0]) (dst := some 8) (k' := (K75 110 2)) [0, 1, 8] [] hP enters_101 (cmp_isNaN_int.says a0) (by kernel_rfl) (hands_none _) (.cons (pass_d _) .nil) (st' := ⟨20, [(0, .i a0), (1, .i a1), (8, .b (cmp_isNaN_int a0))], []⟩) (by kernel_rfl) ?_
  refine goK hT 5 (K75 1110 1) ⟨20, [(0, .i a0), (1, .i a1), (5, .b (cmp_isNaN_int a0)), (9, .i a1)], []⟩ ?_
  refine ak_callP (avs := [.i a1]) (dst := some 10) (k' := (K75 1110 2)) [0, 1, 5, 10] [] hP enters_101 (cmp_isNaN_int.says a1) (by kernel_rfl) (hands_none _) (.cons (pass_d _) .nil) (st' := ⟨20, [(0, .i a0), (1, .i a1), (5, .b (cmp_isNaN_int a0)), (10, .b (cmp_isNaN_int a1))], []⟩) (by kernel_rfl) ?_
  refine goK hT 7 (K75 11110 1) ⟨20, [(0, .i a0), (1, .i a1), (6, .b (cmp_isNaN_int a1)), (11, .b (cmp_isNaN_int a0))], []⟩ ?_
  by_cases c1 : (cmp_isNaN_int a0) = true
  · replace H := iT c1 H
    rw [c1]
    refine goK hT 6 (K75 11110100 1) ⟨20, [(12, .b (cmp_isNaN_int a1))], []⟩ ?_
    by_cases c2 : (cmp_isNaN_int a1) = true
    · replace H := iT c2 H
      rw [c2]
      refine goK hT 5 (K75 1111010010 1) ⟨20, [(4, .i 0)], []⟩ ?_
      obtain rfl := H
      exact ak_ret hf hX (av := .i 0) (by kernel_rfl) [] (sel_of_eq (by kernel_rfl)) (by decide) (by rw [h0]; rfl) (by kernel_rfl) (fun _ h => all_nil h) (.d (.v _))
    · replace H := iF c2 H
      rw [boF c2]
      refine goK hT 2 (K75 1111010 1) ⟨20, [], []⟩ ?_
      refine goK hT 4 (K75 11110101 1) ⟨20, [(4, .i (-1))], []⟩ ?_
      obtain rfl := H
      exact ak_ret hf hX (av := .i (-1)) (by kernel_rfl) [] (sel_of_eq (by kernel_rfl)) (by decide) (by rw [h0]; rfl) (by kernel_rfl) (fun _ h => all_nil h) (.d (.v _))
  · replace H := iF c1 H
    rw [boF c1]
    refine goK hT 2 (K75 1111 1) ⟨20, [(0, .i a0), (1, .i a1), (6, .b (cmp_isNaN_int a1))], []⟩ ?_
    refine goK hT 5 (K75 111110 1) ⟨20, [(0, .i a0), (1, .i a1), (13, .b (cmp_isNaN_int a1))], []⟩ ?_
    by_cases c3 : (cmp_isNaN_int a1) = true
    · replace H := iT c3 H
      rw [c3]
      refine goK hT 5 (K75 11111010 1) ⟨20, [(4, .i 1)], []⟩ ?_
      obtain rfl := H
      exact ak_ret hf hX (av := .i 1) (by kernel_rfl) [] (sel_of_eq (by kernel_rfl)) (by decide) (by rw [h0]; rfl) (by kernel_rfl) (fun _ h => all_nil h) (.d (.v _))
    · replace H := iF c3 H
      rw [boF c3]
      refine goK hT 2 (K75 11111 1) ⟨20, [(0, .i a0), (1, .i a1)], []⟩ ?_
      refine goK hT 7 (K75 1111110 1) ⟨20, [(0, .i a0), (1, .i a1), (16, .b (decide (a0 < a1)))], []⟩ ?_
      by_cases c4 : a0 < a1
      · replace H := iT c4 H
        rw [decide_eq_true c4]
        refine goK hT 5 (K75 111111010 1) ⟨20, [(4, .i (-1))], []⟩ ?_
        obtain rfl := H
        exact ak_ret hf hX (av := .i (-1)) (by kernel_rfl) [] (sel_of_eq (by kernel_rfl)) (by decide) (by rw [h0]; rfl) (by kernel_rfl) (fun _ h => all_nil h) (.d (.v _))
      · replace H := iF c4 H
        rw [decide_eq_false c4]
        refine goK hT 2 (K75 111111 1) ⟨20, [(0, .i a0), (1, .i a1)], []⟩ ?_
        refine goK hT 7 (K75 11111110 1) ⟨20, [(19, .b (decide (a0 > a1)))], []⟩ ?_
        by_cases c5 : a0 > a1
        · replace H := iT c5 H
          rw [decide_eq_true c5]
          refine goK hT 5 (K75 1111111010 1) ⟨20, [(4, .i 1)], []⟩ ?_
          obtain rfl := H
          exact ak_ret hf hX (av := .i 1) (by kernel_rfl) [] (sel_of_eq (by kernel_rfl)) (by decide) (by rw [h0]; rfl) (by kernel_rfl) (fun _ h => all_nil h) (.d (.v _))
        · replace H := iF c5 H
          rw [decide_eq_false c5]
          refine goK hT 2 (K75 1111111 1) ⟨20, [], []⟩ ?_
          refine goK hT 4 (K75 11111111 1) ⟨20, [(4, .i 0)], []⟩ ?_
          obtain rfl := H
          exact ak_ret hf hX (av := .i 0) (by kernel_rfl) [] (sel_of_eq (by kernel_rfl)) (by decide) (by rw [h0]; rfl) (by kernel_rfl) (fun _ h => all_nil h) (.d (.v _))


theorem table_find_1.says (a0 : api_Pair) (a1 : Int) : Says Try.prog 108 [] [.d (eG47 a0), .i a1] [] (.i (table_find_1 a0 a1)) := by
  obtain ⟨r, H⟩ : ∃ r, table_find_1 a0 a1 = r := ⟨_, rfl⟩
  rw [H]
  refine says_of Try.func108 rfl (nt := 9) rfl (Nat.le_of_ble_eq_true rfl) fun X hP h0 hX => ?_
  have hT : TabOk X.P T := hP ▸ tok
  have hf : X.P.funcs[108]? = some Try.f108 := hP ▸ Try.func108
  refine goK hT 10 (K108 110 3) ⟨9, [(6, .i a0.Key), (7, .i a1)], [.box 47 (eC47 a0)]⟩ ?_
  refine ak_callP (avs := [.i a0.Key, .i a1]) (dst := some 8) (k' := (K108 110 4)) [8] [] hP enters_75 (cmp_Compare_int.says a0.Key a1) (by kernel_rfl) (hands_none _) (.cons (pass_d _) (.cons (pass_d _) .nil)) (st' := ⟨9, [(8, .i (cmp_Compare_int a0.Key a1))], [.box 47 (eC47 a0)]⟩) (by kernel_rfl) ?_
  refine goK hT 2 (K108 11 1) ⟨9, [(4, .i (cmp_Compare_int a0.Key a1))], [.box 47 (eC47 a0)]⟩ ?_
  obtain rfl := H
  exact ak_ret hf hX (av := .i (cmp_Compare_int a0.Key a1)) (by kernel_rfl) [] (sel_of_eq (by kernel_rfl)) (by decide) (by rw [h0]; rfl) (by kernel_rfl) (fun _ h => all_nil h) (.d (.v _))


theorem table_find.says {t0 : Bool} (a0 : List api_Pair) (a1 : Int) {r : Int × Bool} (H : table_find a0 a1 = some r) : Says Try.prog 82 [] [.d (eL47 t0 a0), .i a1] [] (.tup [.i r.1, .b r.2]) := by
  refine says_of Try.func82 rfl (nt := 11) rfl (Nat.le_of_ble_eq_true rfl) fun X hP h0 hX => ?_
  have hT : TabOk X.P T := hP ▸ tok
  have hf : X.P.funcs[82]? = some Try.f82 := hP ▸ Try.func82
  refine goK hT 9 (K82 110 2) ⟨11, [(6, .d (eL47 t0 a0)), (7, .i a1)], []⟩ ?_
  obtain ⟨v1, h1, H⟩ := ibC H
  refine ak_callP (avs := [.d (eL47 t0 a0), .i a1, .d (.fn 108 [])]) (dst := some 8) (k' := (K82 110 3)) [8] [] hP enters_107 (slices_BinarySearchFunc_int.says (t0 := t0) (ff2 := 108) (cc2 := []) a0 a1 (fun z0 z1 => some (table_find_1 z0 z1)) enters_108 (fun z0 z1 r h => by obtain rfl := retC h; exact table_find_1.says z0 z1) h1) (by kernel_rfl) (hands_none _) (.cons (pass_d _) (.cons (pass_d _) (.cons (pass_d _) .nil))) (st' := ⟨11, [(8, .tup [.i v1.1, .b v1.2])], []⟩) (by kernel_rfl) ?_
  refine goK hT 5 (K82 11 1) ⟨11, [(4, .i v1.1), (5, .b v1.2)], []⟩ ?_
  obtain rfl := retC H
  exact ak_ret hf hX (av := .tup [.i v1.1, .b v1.2]) (by kernel_rfl) [] (sel_of_eq (by kernel_rfl)) (by decide) (by rw [h0]; rfl) (by kernel_rfl) (fun _ h => all_nil h) (.tup (.cons (.d (.v _)) (.cons (.d (.v _)) .nil)))


theorem table_get.says {t0 : Bool} (a0 : List api_Pair) (a1 : Int) {r : Int × Bool} (H : table_get a0 a1 = some r) : Says Try.prog 57 [] [.d (eL47 t0 a0), .i a1] [] (.tup [.i r.1, .b r.2]) := by
  refine says_of Try.func57 rfl (nt := 20) rfl (Nat.le_of_ble_eq_true rfl) fun X hP h0 hX => ?_
  have hT : TabOk X.P T := hP ▸ tok
  have hf : X.P.funcs[57]? = some Try.f57 := hP ▸ Try.func57
  refine goK hT 10 (K57 1100 2) ⟨20, [(0, .d (eL47 t0 a0)), (9, .d (eL47 t0 a0)), (10, .i a1)], []⟩ ?_
  obtain ⟨v1, h1, H⟩ := ibC H
  refine ak_callP (avs := [.d (eL47 t0 a0), .i a1]) (dst := some 11) (k' := (K57 1100 3)) [0, 11] [] hP enters_82 (table_find.says (t0 := t0) a0 a1 h1) (by kernel_rfl) (hands_none _) (.cons (pass_d _) (.cons (pass_d _) .nil)) (st' := ⟨20, [(0, .d (eL47 t0 a0)), (11, .tup [.i v1.1, .b v1.2])], []⟩) (by kernel_rfl) ?_
  refine goK hT 10 (K57 1101 1) ⟨20, [(0, .d (eL47 t0 a0)), (6, .i v1.1), (14, .b v1.2)], []⟩ ?_
  by_cases c2 : v1.2 = true
  · replace H := iT c2 H
    rw [c2]
    refine goK hT 5 (K57 1101100 2) ⟨20, [(15, .d (eL47 t0 a0)), (16, .i v1.1)], []⟩ ?_
    obtain ⟨h3, H⟩ := iC H
    refine ak_idx hT [17] (i := v1.1) (n := (a0.length : Int)) h3.1 h3.2 (k' := (K57 1101100 3)) (st' := ⟨20, [(17, .d (eP47 t0 a0 v1.1.toNat 0))], []⟩) (by kernel_rfl) ?_
    refine goK hT 5 (K57 110110 1) ⟨20, [(4, .i ((a0.getD v1.1.toNat api_Pair.z).Val)), (5, .b true)], []⟩ ?_
    obtain rfl := retC H
    exact ak_ret hf hX (av := .tup [.i ((a0.getD v1.1.toNat api_Pair.z).Val), .b true]) (by kernel_rfl) [] (sel_of_eq (by kernel_rfl)) (by decide) (by rw [h0]; rfl) (by kernel_rfl) (fun _ h => all_nil h) (.tup (.cons (.d (.v _)) (.cons (.d (.v _)) .nil)))
  · replace H := iF c2 H
    rw [boF c2]
    refine goK hT 2 (K57 11 1) ⟨20, [], []⟩ ?_
    refine goK hT 5 (K57 111 1) ⟨20, [(4, .i 0), (5, .b false)], []⟩ ?_
    obtain rfl := retC H
    exact ak_ret hf hX (av := .tup [.i 0, .b false]) (by kernel_rfl) [] (sel_of_eq (by kernel_rfl)) (by decide) (by rw [h0]; rfl) (by kernel_rfl) (fun _ h => all_nil h) (.tup (.cons (.d (.v _)) (.cons (.d (.v _)) .nil)))


theorem table_put.says (a0 : List api_Pair) (a1 : Int) (a2 : Int) {r : List api_Pair} (H : table_put a0 a1 a2 = some r) : Says Try.prog 46 [eR47 a0] [.own 0 2 0 a0.length, .i a1, .i a2] [.gone, eR47 r] (.own 1 2 0 r.length) := by
  refine says_of Try.func46 rfl (nt := 29) rfl (Nat.le_of_ble_eq_true rfl) fun X hP h0 hX => ?_
  have hT : TabOk X.P T := hP ▸ tok
  have hf : X.P.funcs[46]? = some Try.f46 := hP ▸ Try.func46
  refine ak_dup 0 (r := eR47 a0) rfl rfl (st' := ⟨29, [(0, .own 1 2 0 a0.length), (1, .i a1), (2, .i a2)], [.gone, eR47 a0]⟩) (by kernel_rfl) (by kernel_rfl) rfl ?_
  refine goK hT 8 (K46 110 2) ⟨29, [(0, .own 1 2 0 a0.length), (1, .i a1), (2, .i a2), (10, .own 1 2 0 a0.length), (11, .i a1)], [.gone, eR47 a0]⟩ ?_
  obtain ⟨v1, h1, H⟩ := ibC H
  refine ak_callP (avs := [.own 1 2 0 a0.length, .i a1]) (dst := some 12) (k' := (K46 110 3)) [0, 1, 2, 12] [] hP enters_82 (table_find.says (t0 := false) a0 a1 h1) (by kernel_rfl) (hands_none _) (.cons (.lend (ty := 47) (by kernel_rfl) rfl) (.cons (pass_d _) .nil)) (st' := ⟨29, [(0, .own 1 2 0 a0.length), (1, .i a1), (2, .i a2), (12, .tup [.i v1.1, .b v1.2])], [.gone, eR47 a0]⟩) (by kernel_rfl) ?_
  refine goK hT 11 (K46 1110 1) ⟨29, [(0, .own 1 2 0 a0.length), (1, .i a1), (2, .i a2), (7, .i v1.1), (15, .b v1.2)], [.gone, eR47 a0]⟩ ?_
  by_cases c2 : v1.2 = true
  · replace H := iT c2 H
    rw [c2]
    refine goK hT 6 (K46 1110100 3) ⟨29, [(0, .own 1 2 0 a0.length), (16, .own 1 2 0 a0.length), (17, .i v1.1), (18, .i a2)], [.gone, eR47 a0]⟩ ?_
    obtain ⟨h3, H⟩ := iC H
    refine ak_idx hT [0, 18, 19] (i := v1.1) (n := (a0.length : Int)) h3.1 h3.2 (k' := (K46 1110100 4)) (st' := ⟨29, [(0, .own 1 2 0 a0.length), (18, .i a2), (19, .ptr 1 2 v1.1.toNat 0)], [.gone, eR47 a0]⟩) (by kernel_rfl) ?_
    refine goK hT 1 (K46 1110100 5) ⟨29, [(0, .own 1 2 0 a0.length), (18, .i a2), (20, .ptr 1 2 v1.1.toNat 1)], [.gone, eR47 a0]⟩ ?_
    refine ak_st (id := 1) (kk := 2) (i := v1.1.toNat) (off := 1) (s := 1) (n := a0.length) (ty := 47) (ds := [.i a2]) (g := vec api_Pair.e api_Pair.z a0) (k' := (K46 1110100 6)) hT [0] (vec api_Pair.e api_Pair.z (a0.set v1.1.toNat (⟨(a0.getD v1.1.toNat api_Pair.z).Key, a2⟩ : api_Pair))) (by kernel_rfl) (by kernel_rfl) (ltN h3.1 h3.2) ((vec_set (ltN h3.1 h3.2)).trans (by kernel_rfl)) vec_set_ne (st' := ⟨29, [(0, .own 1 2 0 (a0.length))], [.gone, .flat false 2 47 a0.length (vec api_Pair.e api_Pair.z (a0.set v1.1.toNat (⟨(a0.getD v1.1.toNat api_Pair.z).Key, a2⟩ : api_Pair)))]⟩) (by kernel_rfl) ?_
    refine ak_eq (show a0.length = (a0.set v1.1.toNat (⟨(a0.getD v1.1.toNat api_Pair.z).Key, a2⟩ : api_Pair)).length from (List.length_set ..).symm) (fun nn => ⟨29, [(0, .own 1 2 0 (nn))], [.gone, .flat false 2 47 nn (vec api_Pair.e api_Pair.z (a0.set v1.1.toNat (⟨(a0.getD v1.1.toNat api_Pair.z).Key, a2⟩ : api_Pair)))]⟩) ?_
    refine goK hT 6 (K46 1110101 1) ⟨29, [(6, .own 1 2 0 ((a0.set v1.1.toNat (⟨(a0.getD v1.1.toNat api_Pair.z).Key, a2⟩ : api_Pair)).length))], [.gone, eR47 (a0.set v1.1.toNat (⟨(a0.getD v1.1.toNat api_Pair.z).Key, a2⟩ : api_Pair))]⟩ ?_
    obtain rfl := retC H
    exact ak_ret hf hX (av := .own 1 2 0 ((a0.set v1.1.toNat (⟨(a0.getD v1.1.toNat api_Pair.z).Key, a2⟩ : api_Pair)).length)) (by kernel_rfl) [0, 1] (sel_of_eq (by kernel_rfl)) (by decide) (by rw [h0]; rfl) (by kernel_rfl) (fun _ h => all_cons .gone (fun _ h => all_cons (nr_vec api_Pair.nl) (fun _ h => all_nil h) h) h) (.own _ _ _ _)
  · replace H := iF c2 H
    rw [boF c2]
    refine goK hT 2 (K46 111 1) ⟨29, [(0, .own 1 2 0 a0.length), (1, .i a1), (2, .i a2), (7, .i v1.1)], [.gone, eR47 a0]⟩ ?_
    refine goK hT 8 (K46 11110 6) ⟨29, [(22, .own 1 2 0 a0.length), (23, .i v1.1), (27, .own 2 2 0 1)], [.gone, eR47 a0, .flat false 2 47 1 (fun j => [[.i a1, .i a2]].getD j [])]⟩ ?_
    obtain ⟨h4, H⟩ := iC H
    refine ak_callP (avs := [.own 1 2 0 a0.length, .i v1.1, .own 2 2 0 1]) (dst := some 28) (k' := (K46 11110 7)) [28] [1, 2] hP enters_83 (insert83 a0 v1.1 (⟨a1, a2⟩ : api_Pair) h4) (by kernel_rfl) (hands_two rfl rfl rfl rfl (by decide)) (.cons (.same (.own 0 2 0 a0.length)) (.cons (pass_d _) (.cons (.same (.own 1 2 0 1)) .nil))) (st' := ⟨29, [(28, .own 3 2 0 ((a0.take v1.1.toNat ++ (⟨a1, a2⟩ : api_Pair) :: a0.drop v1.1.toNat).length))], [.gone, .gone, .gone, eR47 (a0.take v1.1.toNat ++ (⟨a1, a2⟩ : api_Pair) :: a0.drop v1.1.toNat)]⟩) (by kernel_rfl) ?_
    refine goK hT 2 (K46 1111 1) ⟨29, [(6, .own 3 2 0 ((a0.take v1.1.toNat ++ (⟨a1, a2⟩ : api_Pair) :: a0.drop v1.1.toNat).length))], [.gone, .gone, .gone, eR47 (a0.take v1.1.toNat ++ (⟨a1, a2⟩ : api_Pair) :: a0.drop v1.1.toNat)]⟩ ?_
    obtain rfl := retC H
    exact ak_ret hf hX (av := .own 3 2 0 ((a0.take v1.1.toNat ++ (⟨a1, a2⟩ : api_Pair) :: a0.drop v1.1.toNat).length)) (by kernel_rfl) [0, 3] (sel_of_eq (by kernel_rfl)) (by decide) (by rw [h0]; rfl) (by kernel_rfl) (fun _ h => all_cons .gone (fun _ h => all_cons (nr_vec api_Pair.nl) (fun _ h => all_nil h) h) h) (.own _ _ _ _)


theorem table_alone.says (a0 : List api_Pair) (a1 : api_Mut) {r : (List api_Pair) × Bool} (H : table_alone a0 a1 = some r) : Says Try.prog 45 [eR47 a0] [.own 0 2 0 a0.length, .d (eG26 a1)] [.gone, eR47 r.1] (.tup [.own 1 2 0 r.1.length, .b r.2]) := by
  refine says_of Try.func45 rfl (nt := 57) rfl (Nat.le_of_ble_eq_true rfl) fun X hP h0 hX => ?_
  have hT : TabOk X.P T := hP ▸ tok
  have hf : X.P.funcs[45]? = some Try.f45 := hP ▸ Try.func45
  refine ak_dup 0 (r := eR47 a0) rfl rfl (st' := ⟨57, [(0, .own 1 2 0 a0.length), (1, .d (eG26 a1))], [.gone, eR47 a0]⟩) (by kernel_rfl) (by kernel_rfl) rfl ?_
  refine goK hT 10 (K45 110 2) ⟨57, [(0, .own 1 2 0 a0.length), (3, .ptr 2 0 0 0), (10, .d (eL47 true a1.Pairs))], [.gone, eR47 a0, .box 26 (eC26 a1)]⟩ ?_
  obtain ⟨h1, H⟩ := iC H
  refine ak_idx hT [0, 3, 11] (i := 0) (n := (a1.Pairs.length : Int)) h1.1 h1.2 (k' := (K45 110 3)) (st' := ⟨57, [(0, .own 1 2 0 a0.length), (3, .ptr 2 0 0 0), (11, .d (eP47 true a1.Pairs 0 0))], [.gone, eR47 a0, .box 26 (eC26 a1)]⟩) (by kernel_rfl) ?_
  refine goK hT 9 (K45 1110 3) ⟨57, [(0, .own 1 2 0 a0.length), (3, .ptr 2 0 0 0), (6, .ptr 3 0 0 0), (14, .own 1 2 0 a0.length), (16, .i ((a1.Pairs.getD 0 api_Pair.z).Key))], [.gone, eR47 a0, .box 26 (eC26 a1), .box 47 (eC47 (a1.Pairs.getD 0 api_Pair.z))]⟩ ?_
  obtain ⟨v1, h2, H⟩ := ibC H
  refine ak_callP (avs := [.own 1 2 0 a0.length, .i ((a1.Pairs.getD 0 api_Pair.z).Key)]) (dst := some 17) (k' := (K45 1110 4)) [0, 3, 6, 17] [] hP enters_57 (table_get.says (t0 := false) a0 ((a1.Pairs.getD 0 api_Pair.z).Key) h2) (by kernel_rfl) (hands_none _) (.cons (.lend (ty := 47) (by kernel_rfl) rfl) (.cons (pass_d _) .nil)) (st' := ⟨57, [(0, .own 1 2 0 a0.length), (3, .ptr 2 0 0 0), (6, .ptr 3 0 0 0), (17, .tup [.i v1.1, .b v1.2])], [.gone, eR47 a0, .box 26 (eC26 a1), .box 47 (eC47 (a1.Pairs.getD 0 api_Pair.z))]⟩) (by kernel_rfl) ?_
  refine goK hT 13 (K45 11110 1) ⟨57, [(0, .own 1 2 0 a0.length), (3, .ptr 2 0 0 0), (6, .ptr 3 0 0 0), (7, .i v1.1), (8, .b v1.2), (22, .b (a1.Kind == 3))], [.gone, eR47 a0, .box 26 (eC26 a1), .box 47 (eC47 (a1.Pairs.getD 0 api_Pair.z))]⟩ ?_
  by_cases c3 : a1.Kind = 3
  · replace H := iT c3 H
    have Jj1 : ∀ (y1_34 : Bool), (table_alone.j1 a0 a1 v1 y1_34) = some r → AK X 45 ((K45 11110100 1)) (Back X [.gone, eR47 r.1] (.tup [.own 1 2 0 r.1.length, .b r.2])) ⟨57, [(0, .own 1 2 0 a0.length), (6, .ptr 2 0 0 0), (7, .i v1.1), (34, .b y1_34)], [.gone, eR47 a0, .box 47 (eC47 (a1.Pairs.getD 0 api_Pair.z))]⟩ := by
      intro y1_34 H
      by_cases c5 : y1_34 = true
      · replace H := iT c5 H
        rw [c5]
        refine goK hT 7 (K45 1111010010 1) ⟨57, [(4, .own 1 2 0 a0.length), (5, .b false)], [.gone, eR47 a0, .box 47 (eC47 (a1.Pairs.getD 0 api_Pair.z))]⟩ ?_
        obtain rfl := retC H
        exact ak_ret hf hX (av := .tup [.own 1 2 0 a0.length, .b false]) (by kernel_rfl) [0, 1] (sel_of_eq (by kernel_rfl)) (by decide) (by rw [h0]; rfl) (by kernel_rfl) (fun _ h => all_cons .gone (fun _ h => all_cons (nr_vec api_Pair.nl) (fun _ h => all_nil h) h) h) (.tup (.cons (.own _ _ _ _) (.cons (.d (.v _)) .nil)))
      · replace H := iF c5 H
        rw [boF c5]
        refine goK hT 2 (K45 1111010 1) ⟨57, [(0, .own 1 2 0 a0.length), (6, .ptr 2 0 0 0), (7, .i v1.1)], [.gone, eR47 a0, .box 47 (eC47 (a1.Pairs.getD 0 api_Pair.z))]⟩ ?_
        refine goK hT 9 (K45 111101010 7) ⟨57, [(36, .own 1 2 0 a0.length), (38, .i ((a1.Pairs.getD 0 api_Pair.z).Key)), (42, .i (IntKind.wrap .i64 (v1.1 + ((a1.Pairs.getD 0 api_Pair.z).Val))))], [.gone, eR47 a0, .box 47 (eC47 (a1.Pairs.getD 0 api_Pair.z))]⟩ ?_
        obtain ⟨v2, h6, H⟩ := ibC H
        refine ak_callP (avs := [.own 1 2 0 a0.length, .i ((a1.Pairs.getD 0 api_Pair.z).Key), .i (IntKind.wrap .i64 (v1.1 + ((a1.Pairs.getD 0 api_Pair.z).Val)))]) (dst := some 43) (k' := (K45 111101010 8)) [43] [1] hP enters_46 (table_put.says a0 ((a1.Pairs.getD 0 api_Pair.z).Key) (IntKind.wrap .i64 (v1.1 + ((a1.Pairs.getD 0 api_Pair.z).Val))) h6) (by kernel_rfl) (hands_one rfl rfl) (.cons (.same (.own 0 2 0 a0.length)) (.cons (pass_d _) (.cons (pass_d _) .nil))) (st' := ⟨57, [(43, .own 3 2 0 v2.length)], [.gone, .gone, .box 47 (eC47 (a1.Pairs.getD 0 api_Pair.z)), eR47 v2]⟩) (by kernel_rfl) ?_
        refine goK hT 3 (K45 11110101 1) ⟨57, [(4, .own 3 2 0 v2.length), (5, .b true)], [.gone, .gone, .box 47 (eC47 (a1.Pairs.getD 0 api_Pair.z)), eR47 v2]⟩ ?_
        obtain rfl := retC H
        exact ak_ret hf hX (av := .tup [.own 3 2 0 v2.length, .b true]) (by kernel_rfl) [0, 3] (sel_of_eq (by kernel_rfl)) (by decide) (by rw [h0]; rfl) (by kernel_rfl) (fun _ h => all_cons .gone (fun _ h => all_cons (nr_vec api_Pair.nl) (fun _ h => all_nil h) h) h) (.tup (.cons (.own _ _ _ _) (.cons (.d (.v _)) .nil)))
    rw [eqT c3]
    refine goK hT 10 (K45 111101000 6) ⟨57, [(0, .own 1 2 0 a0.length), (6, .ptr 3 0 0 0), (7, .i v1.1), (28, .b (decide ((IntKind.wrap .i64 (v1.1 + ((a1.Pairs.getD 0 api_Pair.z).Val))) < 0)))], [.gone, eR47 a0, .box 26 (eC26 a1), .box 47 (eC47 (a1.Pairs.getD 0 api_Pair.z))]⟩ ?_
    by_cases c4 : (IntKind.wrap .i64 (v1.1 + ((a1.Pairs.getD 0 api_Pair.z).Val))) < 0
    · replace H := iT c4 H
      rw [decide_eq_true c4]
      refine goK hT 7 (K45 11110100 1) ⟨57, [(0, .own 1 2 0 a0.length), (6, .ptr 3 0 0 0), (7, .i v1.1), (34, .b true)], [.gone, eR47 a0, .box 26 (eC26 a1), .box 47 (eC47 (a1.Pairs.getD 0 api_Pair.z))]⟩ ?_
      refine cutK [0, 1, 3] ⟨57, [(0, .own 1 2 0 a0.length), (6, .ptr 2 0 0 0), (7, .i v1.1), (34, .b true)], [.gone, eR47 a0, .box 47 (eC47 (a1.Pairs.getD 0 api_Pair.z))]⟩ h0 ?_
      exact Jj1 true H
    · replace H := iF c4 H
      rw [decide_eq_false c4]
      refine goK hT 7 (K45 11110100 1) ⟨57, [(0, .own 1 2 0 a0.length), (6, .ptr 3 0 0 0), (7, .i v1.1), (34, .b (decide ((IntKind.wrap .i64 (v1.1 + ((a1.Pairs.getD 0 api_Pair.z).Val))) > 1099511627776)))], [.gone, eR47 a0, .box 26 (eC26 a1), .box 47 (eC47 (a1.Pairs.getD 0 api_Pair.z))]⟩ ?_
      refine cutK [0, 1, 3] ⟨57, [(0, .own 1 2 0 a0.length), (6, .ptr 2 0 0 0), (7, .i v1.1), (34, .b (decide ((IntKind.wrap .i64 (v1.1 + ((a1.Pairs.getD 0 api_Pair.z).Val))) > 1099511627776)))], [.gone, eR47 a0, .box 47 (eC47 (a1.Pairs.getD 0 api_Pair.z))]⟩ h0 ?_
      exact Jj1 (decide ((IntKind.wrap .i64 (v1.1 + ((a1.Pairs.getD 0 api_Pair.z).Val))) > 1099511627776)) H
  · replace H := iF c3 H
    have Jj2 : ∀ (y2_7 : Int), (table_alone.j2 a0 a1 y2_7) = some r → AK X 45 ((K45 11111 1)) (Back X [.gone, eR47 r.1] (.tup [.own 1 2 0 r.1.length, .b r.2])) ⟨57, [(0, .own 1 2 0 a0.length), (3, .ptr 2 0 0 0), (6, .ptr 3 0 0 0), (7, .i y2_7)], [.gone, eR47 a0, .box 26 (eC26 a1), .box 47 (eC47 (a1.Pairs.getD 0 api_Pair.z))]⟩ := by
      intro y2_7 H
      refine goK hT 8 (K45 1111110 1) ⟨57, [(0, .own 1 2 0 a0.length), (6, .ptr 3 0 0 0), (49, .b (y2_7 != a1.Old))], [.gone, eR47 a0, .box 26 (eC26 a1), .box 47 (eC47 (a1.Pairs.getD 0 api_Pair.z))]⟩ ?_
      by_cases c8 : y2_7 = a1.Old
      · replace H := iT c8 H
        rw [neF c8]
        refine goK hT 2 (K45 111111 1) ⟨57, [(0, .own 1 2 0 a0.length), (6, .ptr 3 0 0 0)], [.gone, eR47 a0, .box 26 (eC26 a1), .box 47 (eC47 (a1.Pairs.getD 0 api_Pair.z))]⟩ ?_
        refine goK hT 7 (K45 11111110 5) ⟨57, [(51, .own 1 2 0 a0.length), (53, .i ((a1.Pairs.getD 0 api_Pair.z).Key)), (55, .i ((a1.Pairs.getD 0 api_Pair.z).Val))], [.gone, eR47 a0, .box 26 (eC26 a1), .box 47 (eC47 (a1.Pairs.getD 0 api_Pair.z))]⟩ ?_
        obtain ⟨v3, h9, H⟩ := ibC H
        refine ak_callP (avs := [.own 1 2 0 a0.length, .i ((a1.Pairs.getD 0 api_Pair.z).Key), .i ((a1.Pairs.getD 0 api_Pair.z).Val)]) (dst := some 56) (k' := (K45 11111110 6)) [56] [1] hP enters_46 (table_put.says a0 ((a1.Pairs.getD 0 api_Pair.z).Key) ((a1.Pairs.getD 0 api_Pair.z).Val) h9) (by kernel_rfl) (hands_one rfl rfl) (.cons (.same (.own 0 2 0 a0.length)) (.cons (pass_d _) (.cons (pass_d _) .nil))) (st' := ⟨57, [(56, .own 4 2 0 v3.length)], [.gone, .gone, .box 26 (eC26 a1), .box 47 (eC47 (a1.Pairs.getD 0 api_Pair.z)), eR47 v3]⟩) (by kernel_rfl) ?_
        refine goK hT 3 (K45 1111111 1) ⟨57, [(4, .own 4 2 0 v3.length), (5, .b true)], [.gone, .gone, .box 26 (eC26 a1), .box 47 (eC47 (a1.Pairs.getD 0 api_Pair.z)), eR47 v3]⟩ ?_
        obtain rfl := retC H
        exact ak_ret hf hX (av := .tup [.own 4 2 0 v3.length, .b true]) (by kernel_rfl) [0, 4] (sel_of_eq (by kernel_rfl)) (by decide) (by rw [h0]; rfl) (by kernel_rfl) (fun _ h => all_cons .gone (fun _ h => all_cons (nr_vec api_Pair.nl) (fun _ h => all_nil h) h) h) (.tup (.cons (.own _ _ _ _) (.cons (.d (.v _)) .nil)))
      · replace H := iF c8 H
        rw [neT c8]
        refine goK hT 7 (K45 111111010 1) ⟨57, [(4, .own 1 2 0 a0.length), (5, .b false)], [.gone, eR47 a0, .box 26 (eC26 a1), .box 47 (eC47 (a1.Pairs.getD 0 api_Pair.z))]⟩ ?_
        obtain rfl := retC H
        exact ak_ret hf hX (av := .tup [.own 1 2 0 a0.length, .b false]) (by kernel_rfl) [0, 1] (sel_of_eq (by kernel_rfl)) (by decide) (by rw [h0]; rfl) (by kernel_rfl) (fun _ h => all_cons .gone (fun _ h => all_cons (nr_vec api_Pair.nl) (fun _ h => all_nil h) h) h) (.tup (.cons (.own _ _ _ _) (.cons (.d (.v _)) .nil)))
    rw [eqF c3]
    refine goK hT 2 (K45 1111 1) ⟨57, [(0, .own 1 2 0 a0.length), (3, .ptr 2 0 0 0), (6, .ptr 3 0 0 0), (7, .i v1.1), (8, .b v1.2)], [.gone, eR47 a0, .box 26 (eC26 a1), .box 47 (eC47 (a1.Pairs.getD 0 api_Pair.z))]⟩ ?_
    refine goK hT 6 (K45 111110 1) ⟨57, [(0, .own 1 2 0 a0.length), (3, .ptr 2 0 0 0), (6, .ptr 3 0 0 0), (7, .i v1.1), (45, .b (!v1.2))], [.gone, eR47 a0, .box 26 (eC26 a1), .box 47 (eC47 (a1.Pairs.getD 0 api_Pair.z))]⟩ ?_
    by_cases c7 : v1.2 = true
    · replace H := iT c7 H
      rw [c7]
      refine goK hT 2 (K45 11111 1) ⟨57, [(0, .own 1 2 0 a0.length), (3, .ptr 2 0 0 0), (6, .ptr 3 0 0 0), (7, .i v1.1)], [.gone, eR47 a0, .box 26 (eC26 a1), .box 47 (eC47 (a1.Pairs.getD 0 api_Pair.z))]⟩ ?_
      refine cutK [0, 1, 2, 3] ⟨57, [(0, .own 1 2 0 a0.length), (3, .ptr 2 0 0 0), (6, .ptr 3 0 0 0), (7, .i v1.1)], [.gone, eR47 a0, .box 26 (eC26 a1), .box 47 (eC47 (a1.Pairs.getD 0 api_Pair.z))]⟩ h0 ?_
      exact Jj2 v1.1 H
    · replace H := iF c7 H
      rw [boF c7]
      refine goK hT 4 (K45 11111 1) ⟨57, [(0, .own 1 2 0 a0.length), (3, .ptr 2 0 0 0), (6, .ptr 3 0 0 0), (7, .i 1099511627777)], [.gone, eR47 a0, .box 26 (eC26 a1), .box 47 (eC47 (a1.Pairs.getD 0 api_Pair.z))]⟩ ?_
      refine cutK [0, 1, 2, 3] ⟨57, [(0, .own 1 2 0 a0.length), (3, .ptr 2 0 0 0), (6, .ptr 3 0 0 0), (7, .i 1099511627777)], [.gone, eR47 a0, .box 26 (eC26 a1), .box 47 (eC47 (a1.Pairs.getD 0 api_Pair.z))]⟩ h0 ?_
      exact Jj2 1099511627777 H


theorem table_move.says (a0 : List api_Pair) (a1 : Int) (a2 : Int) {r : List api_Pair} (H : table_move a0 a1 a2 = some r) : Says Try.prog 47 [eR47 a0] [.own 0 2 0 a0.length, .i a1, .i a2] [.gone, eR47 r] (.own 1 2 0 r.length) := by
  refine says_of Try.func47 rfl (nt := 23) rfl (Nat.le_of_ble_eq_true rfl) fun X hP h0 hX => ?_
  have hT : TabOk X.P T := hP ▸ tok
  have hf : X.P.funcs[47]? = some Try.f47 := hP ▸ Try.func47
  refine ak_dup 0 (r := eR47 a0) rfl rfl (st' := ⟨23, [(0, .own 1 2 0 a0.length), (1, .i a1), (2, .i a2)], [.gone, eR47 a0]⟩) (by kernel_rfl) (by kernel_rfl) rfl ?_
  refine goK hT 8 (K47 110 2) ⟨23, [(0, .own 1 2 0 a0.length), (1, .i a1), (2, .i a2), (10, .own 1 2 0 a0.length), (11, .i a1)], [.gone, eR47 a0]⟩ ?_
  obtain ⟨v1, h1, H⟩ := ibC H
  refine ak_callP (avs := [.own 1 2 0 a0.length, .i a1]) (dst := some 12) (k' := (K47 110 3)) [0, 1, 2, 12] [] hP enters_57 (table_get.says (t0 := false) a0 a1 h1) (by kernel_rfl) (hands_none _) (.cons (.lend (ty := 47) (by kernel_rfl) rfl) (.cons (pass_d _) .nil)) (st' := ⟨23, [(0, .own 1 2 0 a0.length), (1, .i a1), (2, .i a2), (12, .tup [.i v1.1, .b v1.2])], [.gone, eR47 a0]⟩) (by kernel_rfl) ?_
  refine goK hT 15 (K47 1110 7) ⟨23, [(15, .own 1 2 0 a0.length), (16, .i a1), (21, .i (iMin (iMax (IntKind.wrap .i64 (v1.1 + a2)) (-1099511627776)) 1099511627776))], [.gone, eR47 a0]⟩ ?_
  obtain ⟨v2, h2, H⟩ := ibC H
  refine ak_callP (avs := [.own 1 2 0 a0.length, .i a1, .i (iMin (iMax (IntKind.wrap .i64 (v1.1 + a2)) (-1099511627776)) 1099511627776)]) (dst := some 22) (k' := (K47 1110 8)) [22] [1] hP enters_46 (table_put.says a0 a1 (iMin (iMax (IntKind.wrap .i64 (v1.1 + a2)) (-1099511627776)) 1099511627776) h2) (by kernel_rfl) (hands_one rfl rfl) (.cons (.same (.own 0 2 0 a0.length)) (.cons (pass_d _) (.cons (pass_d _) .nil))) (st' := ⟨23, [(22, .own 2 2 0 v2.length)], [.gone, .gone, eR47 v2]⟩) (by kernel_rfl) ?_
  refine goK hT 2 (K47 111 1) ⟨23, [(6, .own 2 2 0 v2.length)], [.gone, .gone, eR47 v2]⟩ ?_
  obtain rfl := retC H
  exact ak_ret hf hX (av := .own 2 2 0 v2.length) (by kernel_rfl) [0, 2] (sel_of_eq (by kernel_rfl)) (by decide) (by rw [h0]; rfl) (by kernel_rfl) (fun _ h => all_cons .gone (fun _ h => all_cons (nr_vec api_Pair.nl) (fun _ h => all_nil h) h) h) (.own _ _ _ _)


theorem table_Apply.says {t0 : Bool} (a0 : List api_Pair) (a1 : api_Mut) (a2 : List api_Span) {r : (List api_Pair) × Bool} (H : table_Apply a0 a1 a2 = some r) : Says Try.prog 16 [] [.d (eL47 t0 a0), .d (eG26 a1), .d (eL24 true a2)] [eR47 r.1] (.tup [.own 0 2 0 r.1.length, .b r.2]) := by
  refine says_of Try.func16 rfl (nt := 93) rfl (Nat.le_of_ble_eq_true rfl) fun X hP h0 hX => ?_
  have hT : TabOk X.P T := hP ▸ tok
  have hf : X.P.funcs[16]? = some Try.f16 := hP ▸ Try.func16
  refine goK hT 10 (K16 1100 1) ⟨93, [(0, .d (eL47 t0 a0)), (2, .d (eL24 true a2)), (4, .ptr 0 0 0 0), (10, .d (eL47 t0 a0))], [.box 26 (eC26 a1)]⟩ ?_
  obtain ⟨v1, h1, H⟩ := ibC H
  have Jj1 : ∀ (y1_22 : Bool), (table_Apply.j1 a0 a1 a2 y1_22) = some r → AK X 16 ((K16 110 1)) (Back X [eR47 r.1] (.tup [.own 0 2 0 r.1.length, .b r.2])) ⟨93, [(0, .d (eL47 t0 a0)), (2, .d (eL24 true a2)), (4, .ptr 0 0 0 0), (22, .b y1_22)], [.box 26 (eC26 a1)]⟩ := by
    intro y1_22 H
    by_cases c6 : y1_22 = true
    · replace H := iT c6 H
      rw [c6]
      refine goK hT 6 (K16 11010 1) ⟨93, [(6, .ns), (7, .b false)], [.box 26 (eC26 a1)]⟩ ?_
      refine ak_nilS [6, 7] 6 2 47 (vec api_Pair.e api_Pair.z []) (st' := ⟨93, [(6, .own 1 2 0 0), (7, .b false)], [.box 26 (eC26 a1), eR47 ([] : List api_Pair)]⟩) (by kernel_rfl) (by kernel_rfl) ?_
      obtain rfl := retC H
      exact ak_ret hf hX (av := .tup [.own 1 2 0 0, .b false]) (by kernel_rfl) [1] (sel_of_eq (by kernel_rfl)) (by decide) (by rw [h0]; rfl) (by kernel_rfl) (fun _ h => all_cons (nr_vec api_Pair.nl) (fun _ h => all_nil h) h) (.tup (.cons (.own _ _ _ _) (.cons (.d (.v _)) .nil)))
    · replace H := iF c6 H
      rw [boF c6]
      refine goK hT 2 (K16 11 1) ⟨93, [(0, .d (eL47 t0 a0)), (2, .d (eL24 true a2)), (4, .ptr 0 0 0 0)], [.box 26 (eC26 a1)]⟩ ?_
      refine goK hT 3 (K16 1110 1) ⟨93, [(2, .d (eL24 true a2)), (4, .ptr 0 0 0 0), (23, .d (eL47 t0 a0))], [.box 26 (eC26 a1)]⟩ ?_
      obtain ⟨h7, H⟩ := iC H
      refine ak_callP (avs := [.d (eL47 t0 a0)]) (dst := some 24) (k' := (K16 1110 2)) [2, 4, 24] [] hP enters_43 (clone43 (tg := t0) a0 h7) (by kernel_rfl) (hands_none _) (.cons (pass_d _) .nil) (st' := ⟨93, [(2, .d (eL24 true a2)), (4, .ptr 0 0 0 0), (24, .own 1 2 0 a0.length)], [.box 26 (eC26 a1), eR47 a0]⟩) (by kernel_rfl) ?_
      refine goK hT 11 (K16 111100 1) ⟨93, [(2, .d (eL24 true a2)), (4, .ptr 0 0 0 0), (6, .own 1 2 0 a0.length), (25, .b (a1.Kind == 2))], [.box 26 (eC26 a1), eR47 a0]⟩ ?_
      by_cases c8 : a1.Kind = 2
      · replace H := iT c8 H
        rw [eqT c8]
        refine goK hT 7 (K16 111100100 4) ⟨93, [(29, .own 1 2 0 a0.length), (31, .d (eG24 a1.Over)), (32, .d (eL24 true a2))], [.box 26 (eC26 a1), eR47 a0]⟩ ?_
        obtain ⟨v4, h9, H⟩ := ibC H
        refine ak_callP (avs := [.own 1 2 0 a0.length, .d (eG24 a1.Over), .d (eL24 true a2)]) (dst := some 33) (k' := (K16 111100100 5)) [33] [1] hP enters_44 (table_cut.says a0 a1.Over a2 h9) (by kernel_rfl) (hands_one rfl rfl) (.cons (.same (.own 0 2 0 a0.length)) (.cons (pass_d _) (.cons (pass_d _) .nil))) (st' := ⟨93, [(33, .own 2 2 0 v4.length)], [.box 26 (eC26 a1), .gone, eR47 v4]⟩) (by kernel_rfl) ?_
        refine goK hT 3 (K16 11110010 1) ⟨93, [(6, .own 2 2 0 v4.length), (7, .b true)], [.box 26 (eC26 a1), .gone, eR47 v4]⟩ ?_
        obtain rfl := retC H
        exact ak_ret hf hX (av := .tup [.own 2 2 0 v4.length, .b true]) (by kernel_rfl) [2] (sel_of_eq (by kernel_rfl)) (by decide) (by rw [h0]; rfl) (by kernel_rfl) (fun _ h => all_cons (nr_vec api_Pair.nl) (fun _ h => all_nil h) h) (.tup (.cons (.own _ _ _ _) (.cons (.d (.v _)) .nil)))
      · replace H := iF c8 H
        rw [eqF c8]
        refine goK hT 4 (K16 111100110 1) ⟨93, [(2, .d (eL24 true a2)), (4, .ptr 0 0 0 0), (6, .own 1 2 0 a0.length), (35, .d (eG26 a1))], [.box 26 (eC26 a1), eR47 a0]⟩ ?_
        obtain ⟨v5, h10, H⟩ := ibC H
        refine ak_callP (avs := [.d (eG26 a1)]) (dst := some 36) (k' := (K16 111100110 2)) [2, 4, 6, 36] [] hP enters_29 (mut_Alone.says a1 h10) (by kernel_rfl) (hands_none _) (.cons (pass_d _) .nil) (st' := ⟨93, [(2, .d (eL24 true a2)), (4, .ptr 0 0 0 0), (6, .own 1 2 0 a0.length), (36, .b v5)], [.box 26 (eC26 a1), eR47 a0]⟩) (by kernel_rfl) ?_
        refine goK hT 2 (K16 11110011 1) ⟨93, [(2, .d (eL24 true a2)), (4, .ptr 0 0 0 0), (6, .own 1 2 0 a0.length), (34, .b v5)], [.box 26 (eC26 a1), eR47 a0]⟩ ?_
        by_cases c11 : v5 = true
        · replace H := iT c11 H
          rw [c11]
          refine goK hT 7 (K16 111100111000 3) ⟨93, [(4, .ptr 0 0 0 0), (6, .own 1 2 0 a0.length), (37, .d (eL24 true a2)), (39, .d (eL47 true a1.Pairs))], [.box 26 (eC26 a1), eR47 a0]⟩ ?_
          obtain ⟨h12, H⟩ := iC H
          refine ak_idx hT [4, 6, 37, 40] (i := 0) (n := (a1.Pairs.length : Int)) h12.1 h12.2 (k' := (K16 111100111000 4)) (st' := ⟨93, [(4, .ptr 0 0 0 0), (6, .own 1 2 0 a0.length), (37, .d (eL24 true a2)), (40, .d (eP47 true a1.Pairs 0 0))], [.box 26 (eC26 a1), eR47 a0]⟩) (by kernel_rfl) ?_
          refine goK hT 2 (K16 111100111000 6) ⟨93, [(4, .ptr 0 0 0 0), (6, .own 1 2 0 a0.length), (37, .d (eL24 true a2)), (42, .i ((a1.Pairs.getD 0 api_Pair.z).Key))], [.box 26 (eC26 a1), eR47 a0]⟩ ?_
          obtain ⟨v6, h13, H⟩ := ibC H
          refine ak_callP (avs := [.d (eL24 true a2), .i ((a1.Pairs.getD 0 api_Pair.z).Key)]) (dst := some 43) (k' := (K16 111100111000 7)) [4, 6, 43] [] hP enters_25 (span_Has.says (t0 := true) a2 ((a1.Pairs.getD 0 api_Pair.z).Key) h13) (by kernel_rfl) (hands_none _) (.cons (pass_d _) (.cons (pass_d _) .nil)) (st' := ⟨93, [(4, .ptr 0 0 0 0), (6, .own 1 2 0 a0.length), (43, .b v6)], [.box 26 (eC26 a1), eR47 a0]⟩) (by kernel_rfl) ?_
          refine goK hT 2 (K16 11110011100 1) ⟨93, [(4, .ptr 0 0 0 0), (6, .own 1 2 0 a0.length), (44, .b (!v6))], [.box 26 (eC26 a1), eR47 a0]⟩ ?_
          by_cases c14 : v6 = true
          · replace H := iT c14 H
            rw [c14]
            refine goK hT 2 (K16 1111001110 1) ⟨93, [(4, .ptr 0 0 0 0), (6, .own 1 2 0 a0.length)], [.box 26 (eC26 a1), eR47 a0]⟩ ?_
            refine goK hT 4 (K16 111100111010 2) ⟨93, [(46, .own 1 2 0 a0.length), (47, .d (eG26 a1))], [.box 26 (eC26 a1), eR47 a0]⟩ ?_
            obtain ⟨v7, h15, H⟩ := ibC H
            refine ak_callP (avs := [.own 1 2 0 a0.length, .d (eG26 a1)]) (dst := some 48) (k' := (K16 111100111010 3)) [48] [1] hP enters_45 (table_alone.says a0 a1 h15) (by kernel_rfl) (hands_one rfl rfl) (.cons (.same (.own 0 2 0 a0.length)) (.cons (pass_d _) .nil)) (st' := ⟨93, [(48, .tup [.own 2 2 0 v7.1.length, .b v7.2])], [.box 26 (eC26 a1), .gone, eR47 v7.1]⟩) (by kernel_rfl) ?_
            refine goK hT 5 (K16 11110011101 1) ⟨93, [(6, .own 2 2 0 v7.1.length), (7, .b v7.2)], [.box 26 (eC26 a1), .gone, eR47 v7.1]⟩ ?_
            obtain rfl := retC H
            exact ak_ret hf hX (av := .tup [.own 2 2 0 v7.1.length, .b v7.2]) (by kernel_rfl) [2] (sel_of_eq (by kernel_rfl)) (by decide) (by rw [h0]; rfl) (by kernel_rfl) (fun _ h => all_cons (nr_vec api_Pair.nl) (fun _ h => all_nil h) h) (.tup (.cons (.own _ _ _ _) (.cons (.d (.v _)) .nil)))
          · replace H := iF c14 H
            rw [boF c14]
            refine goK hT 7 (K16 1111001110010 1) ⟨93, [(6, .own 1 2 0 a0.length), (7, .b true)], [.box 26 (eC26 a1), eR47 a0]⟩ ?_
            obtain rfl := retC H
            exact ak_ret hf hX (av := .tup [.own 1 2 0 a0.length, .b true]) (by kernel_rfl) [1] (sel_of_eq (by kernel_rfl)) (by decide) (by rw [h0]; rfl) (by kernel_rfl) (fun _ h => all_cons (nr_vec api_Pair.nl) (fun _ h => all_nil h) h) (.tup (.cons (.own _ _ _ _) (.cons (.d (.v _)) .nil)))
        · replace H := iF c11 H
          rw [boF c11]
          refine goK hT 3 (K16 1111 1) ⟨93, [(2, .d (eL24 true a2)), (4, .ptr 0 0 0 0), (6, .own 1 2 0 a0.length)], [.box 26 (eC26 a1), eR47 a0]⟩ ?_
          refine goK hT 10 (K16 11111010 0) ⟨93, [(2, .d (eL24 true a2)), (4, .ptr 0 0 0 0), (6, .own 1 2 0 a0.length), (52, .d (eL47 true a1.Pairs)), (53, .i (a1.Pairs.length : Int)), (54, .i 0)], [.box 26 (eC26 a1), eR47 a0]⟩ ?_
          have L : ∀ n, (∀ (x1_54 : Int) (x1_r1 : List api_Pair), iter (table_Apply.step a1 a2) n (.l1 x1_54 x1_r1) = some r → AK X 16 ((K16 11111010 0)) (Back X [eR47 r.1] (.tup [.own 0 2 0 r.1.length, .b r.2])) ⟨93, [(2, .d (eL24 true a2)), (4, .ptr 0 0 0 0), (6, .own 1 2 0 x1_r1.length), (52, .d (eL47 true a1.Pairs)), (53, .i (a1.Pairs.length : Int)), (54, .i x1_54)], [.box 26 (eC26 a1), eR47 x1_r1]⟩) := by
            intro n
            induction n with
            | zero => exact fun _ _ H => iter0 H
            | succ n ih =>
              · intro x1_54 x1_r1 H
                refine goK hT 5 (K16 1111101001 0) ⟨93, [(2, .d (eL24 true a2)), (4, .ptr 0 0 0 0), (6, .own 1 2 0 x1_r1.length), (52, .d (eL47 true a1.Pairs)), (53, .i (a1.Pairs.length : Int)), (54, .i x1_54), (55, .b (decide (x1_54 < (a1.Pairs.length : Int))))], [.box 26 (eC26 a1), eR47 x1_r1]⟩ ?_
                by_cases c16 : x1_54 < (a1.Pairs.length : Int)
                · replace H := sT c16 H
                  rw [decide_eq_true c16]
                  refine goK hT 2 (K16 1111101001 1) ⟨93, [(2, .d (eL24 true a2)), (4, .ptr 0 0 0 0), (6, .own 1 2 0 x1_r1.length), (52, .d (eL47 true a1.Pairs)), (53, .i (a1.Pairs.length : Int)), (54, .i x1_54)], [.box 26 (eC26 a1), eR47 x1_r1]⟩ ?_
                  refine goK hT 5 (K16 11111010011000 1) ⟨93, [(2, .d (eL24 true a2)), (4, .ptr 0 0 0 0), (6, .own 1 2 0 x1_r1.length), (52, .d (eL47 true a1.Pairs)), (53, .i (a1.Pairs.length : Int)), (54, .i x1_54), (56, .i x1_54)], [.box 26 (eC26 a1), eR47 x1_r1]⟩ ?_
                  obtain ⟨h17, H⟩ := sC H
                  refine ak_idx hT [2, 4, 6, 52, 53, 54, 56, 57] (i := x1_54) (n := (a1.Pairs.length : Int)) h17.1 h17.2 (k' := (K16 11111010011000 2)) (st' := ⟨93, [(2, .d (eL24 true a2)), (4, .ptr 0 0 0 0), (6, .own 1 2 0 x1_r1.length), (52, .d (eL47 true a1.Pairs)), (53, .i (a1.Pairs.length : Int)), (54, .i x1_54), (56, .i x1_54), (57, .d (eP47 true a1.Pairs x1_54.toNat 0))], [.box 26 (eC26 a1), eR47 x1_r1]⟩) (by kernel_rfl) ?_
                  refine goK hT 11 (K16 1111101001100100 3) ⟨93, [(2, .d (eL24 true a2)), (4, .ptr 0 0 0 0), (6, .own 1 2 0 x1_r1.length), (8, .i x1_54), (9, .ptr 2 0 0 0), (52, .d (eL47 true a1.Pairs)), (53, .i (a1.Pairs.length : Int)), (54, .i x1_54), (66, .d (eL24 true a2)), (68, .i ((a1.Pairs.getD x1_54.toNat api_Pair.z).Key))], [.box 26 (eC26 a1), eR47 x1_r1, .box 47 (eC47 (a1.Pairs.getD x1_54.toNat api_Pair.z))]⟩ ?_
                  obtain ⟨v8, h18, H⟩ := sbC H
                  have Jj2 : ∀ (y2_r1 : List api_Pair), stk (table_Apply.j2 x1_54 y2_r1) (iter (table_Apply.step a1 a2) n) = some r → AK X 16 ((K16 11111010011 1)) (Back X [eR47 r.1] (.tup [.own 0 2 0 r.1.length, .b r.2])) ⟨93, [(2, .d (eL24 true a2)), (4, .ptr 0 0 0 0), (6, .own 1 2 0 y2_r1.length), (52, .d (eL47 true a1.Pairs)), (53, .i (a1.Pairs.length : Int)), (54, .i x1_54)], [.box 26 (eC26 a1), eR47 y2_r1]⟩ := by
                    intro y2_r1 H
                    refine goK hT 5 (K16 11111010 0) ⟨93, [(2, .d (eL24 true a2)), (4, .ptr 0 0 0 0), (6, .own 1 2 0 y2_r1.length), (52, .d (eL47 true a1.Pairs)), (53, .i (a1.Pairs.length : Int)), (54, .i (IntKind.wrap .i64 (x1_54 + 1)))], [.box 26 (eC26 a1), eR47 y2_r1]⟩ ?_
                    refine cutK [0, 1] ⟨93, [(2, .d (eL24 true a2)), (4, .ptr 0 0 0 0), (6, .own 1 2 0 y2_r1.length), (52, .d (eL47 true a1.Pairs)), (53, .i (a1.Pairs.length : Int)), (54, .i (IntKind.wrap .i64 (x1_54 + 1)))], [.box 26 (eC26 a1), eR47 y2_r1]⟩ h0 ?_
                    exact ih (IntKind.wrap .i64 (x1_54 + 1)) y2_r1 H
                  refine ak_callP (avs := [.d (eL24 true a2), .i ((a1.Pairs.getD x1_54.toNat api_Pair.z).Key)]) (dst := some 69) (k' := (K16 1111101001100100 4)) [2, 4, 6, 8, 9, 52, 53, 54, 69] [] hP enters_25 (span_Has.says (t0 := true) a2 ((a1.Pairs.getD x1_54.toNat api_Pair.z).Key) h18) (by kernel_rfl) (hands_none _) (.cons (pass_d _) (.cons (pass_d _) .nil)) (st' := ⟨93, [(2, .d (eL24 true a2)), (4, .ptr 0 0 0 0), (6, .own 1 2 0 x1_r1.length), (8, .i x1_54), (9, .ptr 2 0 0 0), (52, .d (eL47 true a1.Pairs)), (53, .i (a1.Pairs.length : Int)), (54, .i x1_54), (69, .b v8)], [.box 26 (eC26 a1), eR47 x1_r1, .box 47 (eC47 (a1.Pairs.getD x1_54.toNat api_Pair.z))]⟩) (by kernel_rfl) ?_
                  refine goK hT 3 (K16 111110100110010 1) ⟨93, [(2, .d (eL24 true a2)), (4, .ptr 0 0 0 0), (6, .own 1 2 0 x1_r1.length), (8, .i x1_54), (9, .ptr 2 0 0 0), (52, .d (eL47 true a1.Pairs)), (53, .i (a1.Pairs.length : Int)), (54, .i x1_54), (65, .b (!v8))], [.box 26 (eC26 a1), eR47 x1_r1, .box 47 (eC47 (a1.Pairs.getD x1_54.toNat api_Pair.z))]⟩ ?_
                  by_cases c19 : v8 = true
                  · replace H := sT c19 H
                    rw [c19]
                    refine goK hT 8 (K16 11111010011001011 1) ⟨93, [(2, .d (eL24 true a2)), (4, .ptr 0 0 0 0), (6, .own 1 2 0 x1_r1.length), (8, .i x1_54), (9, .ptr 2 0 0 0), (52, .d (eL47 true a1.Pairs)), (53, .i (a1.Pairs.length : Int)), (54, .i x1_54), (71, .b (a1.Kind == 1))], [.box 26 (eC26 a1), eR47 x1_r1, .box 47 (eC47 (a1.Pairs.getD x1_54.toNat api_Pair.z))]⟩ ?_
                    by_cases c20 : a1.Kind = 1
                    · replace H := sT c20 H
                      rw [eqT c20]
                      refine goK hT 7 (K16 1111101001100101110 5) ⟨93, [(2, .d (eL24 true a2)), (4, .ptr 0 0 0 0), (52, .d (eL47 true a1.Pairs)), (53, .i (a1.Pairs.length : Int)), (54, .i x1_54), (75, .own 1 2 0 x1_r1.length), (77, .i ((a1.Pairs.getD x1_54.toNat api_Pair.z).Key)), (79, .i ((a1.Pairs.getD x1_54.toNat api_Pair.z).Val))], [.box 26 (eC26 a1), eR47 x1_r1, .box 47 (eC47 (a1.Pairs.getD x1_54.toNat api_Pair.z))]⟩ ?_
                      obtain ⟨v9, h21, H⟩ := sbC H
                      refine ak_callP (avs := [.own 1 2 0 x1_r1.length, .i ((a1.Pairs.getD x1_54.toNat api_Pair.z).Key), .i ((a1.Pairs.getD x1_54.toNat api_Pair.z).Val)]) (dst := some 80) (k' := (K16 1111101001100101110 6)) [2, 4, 52, 53, 54, 80] [1] hP enters_46 (table_put.says x1_r1 ((a1.Pairs.getD x1_54.toNat api_Pair.z).Key) ((a1.Pairs.getD x1_54.toNat api_Pair.z).Val) h21) (by kernel_rfl) (hands_one rfl rfl) (.cons (.same (.own 0 2 0 x1_r1.length)) (.cons (pass_d _) (.cons (pass_d _) .nil))) (st' := ⟨93, [(2, .d (eL24 true a2)), (4, .ptr 0 0 0 0), (52, .d (eL47 true a1.Pairs)), (53, .i (a1.Pairs.length : Int)), (54, .i x1_54), (80, .own 3 2 0 v9.length)], [.box 26 (eC26 a1), .gone, .box 47 (eC47 (a1.Pairs.getD x1_54.toNat api_Pair.z)), eR47 v9]⟩) (by kernel_rfl) ?_
                      refine goK hT 4 (K16 11111010011 1) ⟨93, [(2, .d (eL24 true a2)), (4, .ptr 0 0 0 0), (6, .own 3 2 0 v9.length), (52, .d (eL47 true a1.Pairs)), (53, .i (a1.Pairs.length : Int)), (54, .i x1_54)], [.box 26 (eC26 a1), .gone, .box 47 (eC47 (a1.Pairs.getD x1_54.toNat api_Pair.z)), eR47 v9]⟩ ?_
                      refine cutK [0, 3] ⟨93, [(2, .d (eL24 true a2)), (4, .ptr 0 0 0 0), (6, .own 1 2 0 v9.length), (52, .d (eL47 true a1.Pairs)), (53, .i (a1.Pairs.length : Int)), (54, .i x1_54)], [.box 26 (eC26 a1), eR47 v9]⟩ h0 ?_
                      exact Jj2 v9 H
                    · replace H := sF c20 H
                      rw [eqF c20]
                      refine goK hT 7 (K16 1111101001100101111 1) ⟨93, [(2, .d (eL24 true a2)), (4, .ptr 0 0 0 0), (6, .own 1 2 0 x1_r1.length), (9, .ptr 2 0 0 0), (52, .d (eL47 true a1.Pairs)), (53, .i (a1.Pairs.length : Int)), (54, .i x1_54), (81, .b (x1_54 == 0))], [.box 26 (eC26 a1), eR47 x1_r1, .box 47 (eC47 (a1.Pairs.getD x1_54.toNat api_Pair.z))]⟩ ?_
                      by_cases c22 : x1_54 = 0
                      · replace H := sT c22 H
                        rw [eqT c22]
                        refine goK hT 8 (K16 111110100110010111110 6) ⟨93, [(2, .d (eL24 true a2)), (4, .ptr 0 0 0 0), (52, .d (eL47 true a1.Pairs)), (53, .i (a1.Pairs.length : Int)), (54, .i x1_54), (84, .own 1 2 0 x1_r1.length), (86, .i ((a1.Pairs.getD x1_54.toNat api_Pair.z).Key)), (89, .i (IntKind.wrap .i64 (0 - ((a1.Pairs.getD x1_54.toNat api_Pair.z).Val))))], [.box 26 (eC26 a1), eR47 x1_r1, .box 47 (eC47 (a1.Pairs.getD x1_54.toNat api_Pair.z))]⟩ ?_
                        obtain ⟨v10, h23, H⟩ := sbC H
                        refine ak_callP (avs := [.own 1 2 0 x1_r1.length, .i ((a1.Pairs.getD x1_54.toNat api_Pair.z).Key), .i (IntKind.wrap .i64 (0 - ((a1.Pairs.getD x1_54.toNat api_Pair.z).Val)))]) (dst := some 90) (k' := (K16 111110100110010111110 7)) [2, 4, 52, 53, 54, 90] [1] hP enters_47 (table_move.says x1_r1 ((a1.Pairs.getD x1_54.toNat api_Pair.z).Key) (IntKind.wrap .i64 (0 - ((a1.Pairs.getD x1_54.toNat api_Pair.z).Val))) h23) (by kernel_rfl) (hands_one rfl rfl) (.cons (.same (.own 0 2 0 x1_r1.length)) (.cons (pass_d _) (.cons (pass_d _) .nil))) (st' := ⟨93, [(2, .d (eL24 true a2)), (4, .ptr 0 0 0 0), (52, .d (eL47 true a1.Pairs)), (53, .i (a1.Pairs.length : Int)), (54, .i x1_54), (90, .own 3 2 0 v10.length)], [.box 26 (eC26 a1), .gone, .box 47 (eC47 (a1.Pairs.getD x1_54.toNat api_Pair.z)), eR47 v10]⟩) (by kernel_rfl) ?_
                        refine goK hT 4 (K16 11111010011 1) ⟨93, [(2, .d (eL24 true a2)), (4, .ptr 0 0 0 0), (6, .own 3 2 0 v10.length), (52, .d (eL47 true a1.Pairs)), (53, .i (a1.Pairs.length : Int)), (54, .i x1_54)], [.box 26 (eC26 a1), .gone, .box 47 (eC47 (a1.Pairs.getD x1_54.toNat api_Pair.z)), eR47 v10]⟩ ?_
                        refine cutK [0, 3] ⟨93, [(2, .d (eL24 true a2)), (4, .ptr 0 0 0 0), (6, .own 1 2 0 v10.length), (52, .d (eL47 true a1.Pairs)), (53, .i (a1.Pairs.length : Int)), (54, .i x1_54)], [.box 26 (eC26 a1), eR47 v10]⟩ h0 ?_
                        exact Jj2 v10 H
                      · replace H := sF c22 H
                        rw [eqF c22]
                        refine goK hT 7 (K16 111110100110010111111 5) ⟨93, [(2, .d (eL24 true a2)), (4, .ptr 0 0 0 0), (52, .d (eL47 true a1.Pairs)), (53, .i (a1.Pairs.length : Int)), (54, .i x1_54), (59, .own 1 2 0 x1_r1.length), (61, .i ((a1.Pairs.getD x1_54.toNat api_Pair.z).Key)), (63, .i ((a1.Pairs.getD x1_54.toNat api_Pair.z).Val))], [.box 26 (eC26 a1), eR47 x1_r1, .box 47 (eC47 (a1.Pairs.getD x1_54.toNat api_Pair.z))]⟩ ?_
                        obtain ⟨v11, h24, H⟩ := sbC H
                        refine ak_callP (avs := [.own 1 2 0 x1_r1.length, .i ((a1.Pairs.getD x1_54.toNat api_Pair.z).Key), .i ((a1.Pairs.getD x1_54.toNat api_Pair.z).Val)]) (dst := some 64) (k' := (K16 111110100110010111111 6)) [2, 4, 52, 53, 54, 64] [1] hP enters_47 (table_move.says x1_r1 ((a1.Pairs.getD x1_54.toNat api_Pair.z).Key) ((a1.Pairs.getD x1_54.toNat api_Pair.z).Val) h24) (by kernel_rfl) (hands_one rfl rfl) (.cons (.same (.own 0 2 0 x1_r1.length)) (.cons (pass_d _) (.cons (pass_d _) .nil))) (st' := ⟨93, [(2, .d (eL24 true a2)), (4, .ptr 0 0 0 0), (52, .d (eL47 true a1.Pairs)), (53, .i (a1.Pairs.length : Int)), (54, .i x1_54), (64, .own 3 2 0 v11.length)], [.box 26 (eC26 a1), .gone, .box 47 (eC47 (a1.Pairs.getD x1_54.toNat api_Pair.z)), eR47 v11]⟩) (by kernel_rfl) ?_
                        refine goK hT 4 (K16 11111010011 1) ⟨93, [(2, .d (eL24 true a2)), (4, .ptr 0 0 0 0), (6, .own 3 2 0 v11.length), (52, .d (eL47 true a1.Pairs)), (53, .i (a1.Pairs.length : Int)), (54, .i x1_54)], [.box 26 (eC26 a1), .gone, .box 47 (eC47 (a1.Pairs.getD x1_54.toNat api_Pair.z)), eR47 v11]⟩ ?_
                        refine cutK [0, 3] ⟨93, [(2, .d (eL24 true a2)), (4, .ptr 0 0 0 0), (6, .own 1 2 0 v11.length), (52, .d (eL47 true a1.Pairs)), (53, .i (a1.Pairs.length : Int)), (54, .i x1_54)], [.box 26 (eC26 a1), eR47 v11]⟩ h0 ?_
                        exact Jj2 v11 H
                  · replace H := sF c19 H
                    rw [boF c19]
                    refine goK hT 4 (K16 11111010011 1) ⟨93, [(2, .d (eL24 true a2)), (4, .ptr 0 0 0 0), (6, .own 1 2 0 x1_r1.length), (52, .d (eL47 true a1.Pairs)), (53, .i (a1.Pairs.length : Int)), (54, .i x1_54)], [.box 26 (eC26 a1), eR47 x1_r1, .box 47 (eC47 (a1.Pairs.getD x1_54.toNat api_Pair.z))]⟩ ?_
                    refine cutK [0, 1] ⟨93, [(2, .d (eL24 true a2)), (4, .ptr 0 0 0 0), (6, .own 1 2 0 x1_r1.length), (52, .d (eL47 true a1.Pairs)), (53, .i (a1.Pairs.length : Int)), (54, .i x1_54)], [.box 26 (eC26 a1), eR47 x1_r1]⟩ h0 ?_
                    exact Jj2 x1_r1 H
                · replace H := sF c16 H
                  rw [decide_eq_false c16]
                  refine goK hT 8 (K16 111111 1) ⟨93, [(6, .own 1 2 0 x1_r1.length), (7, .b true)], [.box 26 (eC26 a1), eR47 x1_r1]⟩ ?_
                  obtain rfl := retC H
                  exact ak_ret hf hX (av := .tup [.own 1 2 0 x1_r1.length, .b true]) (by kernel_rfl) [1] (sel_of_eq (by kernel_rfl)) (by decide) (by rw [h0]; rfl) (by kernel_rfl) (fun _ h => all_cons (nr_vec api_Pair.nl) (fun _ h => all_nil h) h) (.tup (.cons (.own _ _ _ _) (.cons (.d (.v _)) .nil)))
          refine cutK [0, 1] ⟨93, [(2, .d (eL24 true a2)), (4, .ptr 0 0 0 0), (6, .own 1 2 0 a0.length), (52, .d (eL47 true a1.Pairs)), (53, .i (a1.Pairs.length : Int)), (54, .i 0)], [.box 26 (eC26 a1), eR47 a0]⟩ h0 ?_
          obtain ⟨n, H⟩ := loopC H
          exact (L n) 0 a0 H
  refine ak_callP (avs := [.d (eL47 t0 a0)]) (dst := some 11) (k' := (K16 1100 2)) [0, 2, 4, 11] [] hP enters_22 (table_Check.says (t0 := t0) a0 h1) (by kernel_rfl) (hands_none _) (.cons (pass_d _) .nil) (st' := ⟨93, [(0, .d (eL47 t0 a0)), (2, .d (eL24 true a2)), (4, .ptr 0 0 0 0), (11, .b v1)], [.box 26 (eC26 a1)]⟩) (by kernel_rfl) ?_
  refine goK hT 2 (K16 1100 4) ⟨93, [(0, .d (eL47 t0 a0)), (2, .d (eL24 true a2)), (4, .ptr 0 0 0 0), (13, .b (!v1))], [.box 26 (eC26 a1)]⟩ ?_
  by_cases c2 : v1 = true
  · replace H := iT c2 H
    rw [c2]
    refine goK hT 1 (K16 1100 5) ⟨93, [(0, .d (eL47 t0 a0)), (2, .d (eL24 true a2)), (4, .ptr 0 0 0 0), (13, .b false), (14, .d (eG26 a1))], [.box 26 (eC26 a1)]⟩ ?_
    obtain ⟨v2, h3, H⟩ := ibC H
    refine ak_callP (avs := [.d (eG26 a1)]) (dst := some 15) (k' := (K16 1100 6)) [0, 2, 4, 13, 15] [] hP enters_23 (mut_Check.says a1 h3) (by kernel_rfl) (hands_none _) (.cons (pass_d _) .nil) (st' := ⟨93, [(0, .d (eL47 t0 a0)), (2, .d (eL24 true a2)), (4, .ptr 0 0 0 0), (13, .b false), (15, .b v2)], [.box 26 (eC26 a1)]⟩) (by kernel_rfl) ?_
    refine goK hT 3 (K16 1100 9) ⟨93, [(0, .d (eL47 t0 a0)), (2, .d (eL24 true a2)), (4, .ptr 0 0 0 0), (18, .b (!v2))], [.box 26 (eC26 a1)]⟩ ?_
    by_cases c4 : v2 = true
    · replace H := iT c4 H
      rw [c4]
      refine goK hT 1 (K16 1100 10) ⟨93, [(0, .d (eL47 t0 a0)), (2, .d (eL24 true a2)), (4, .ptr 0 0 0 0), (18, .b false), (19, .d (eL24 true a2))], [.box 26 (eC26 a1)]⟩ ?_
      obtain ⟨v3, h5, H⟩ := ibC H
      refine ak_callP (avs := [.d (eL24 true a2)]) (dst := some 20) (k' := (K16 1100 11)) [0, 2, 4, 18, 20] [] hP enters_42 (span_Check.says (t0 := true) a2 h5) (by kernel_rfl) (hands_none _) (.cons (pass_d _) .nil) (st' := ⟨93, [(0, .d (eL47 t0 a0)), (2, .d (eL24 true a2)), (4, .ptr 0 0 0 0), (18, .b false), (20, .b v3)], [.box 26 (eC26 a1)]⟩) (by kernel_rfl) ?_
      refine goK hT 3 (K16 110 1) ⟨93, [(0, .d (eL47 t0 a0)), (2, .d (eL24 true a2)), (4, .ptr 0 0 0 0), (22, .b (!v3))], [.box 26 (eC26 a1)]⟩ ?_
      refine cutK [0] ⟨93, [(0, .d (eL47 t0 a0)), (2, .d (eL24 true a2)), (4, .ptr 0 0 0 0), (22, .b (!v3))], [.box 26 (eC26 a1)]⟩ h0 ?_
      exact Jj1 (!v3) H
    · replace H := iF c4 H
      rw [boF c4]
      refine goK hT 5 (K16 110 1) ⟨93, [(0, .d (eL47 t0 a0)), (2, .d (eL24 true a2)), (4, .ptr 0 0 0 0), (22, .b true)], [.box 26 (eC26 a1)]⟩ ?_
      refine cutK [0] ⟨93, [(0, .d (eL47 t0 a0)), (2, .d (eL24 true a2)), (4, .ptr 0 0 0 0), (22, .b true)], [.box 26 (eC26 a1)]⟩ h0 ?_
      exact Jj1 true H
  · replace H := iF c2 H
    rw [boF c2]
    refine goK hT 10 (K16 110 1) ⟨93, [(0, .d (eL47 t0 a0)), (2, .d (eL24 true a2)), (4, .ptr 0 0 0 0), (22, .b true)], [.box 26 (eC26 a1)]⟩ ?_
    refine cutK [0] ⟨93, [(0, .d (eL47 t0 a0)), (2, .d (eL24 true a2)), (4, .ptr 0 0 0 0), (22, .b true)], [.box 26 (eC26 a1)]⟩ h0 ?_
    exact Jj1 true H


theorem splicelaw05_awake.says {r : Bool} (H : splicelaw05_awake = some r) : Says Try.prog 15 [] [] [] (.b r) := by
  refine says_of Try.func15 rfl (nt := 66) rfl (Nat.le_of_ble_eq_true rfl) fun X hP h0 hX => ?_
  have hT : TabOk X.P T := hP ▸ tok
  have hf : X.P.funcs[15]? = some Try.f15 := hP ▸ Try.func15
  refine goK hT 23 (K15 11110 5) ⟨66, [(1, .own 0 2 0 1), (12, .own 0 2 0 1), (15, .agg [.i 1, .i 1, .i 3, .own 2 2 0 1, .i 0, .i 0, .i 0]), (16, .own 1 2 0 1)], [.flat false 2 47 1 (fun j => [[.i 5, .i 7]].getD j []), .flat false 2 24 1 (fun j => [[.i 0, .i 4096]].getD j []), .flat false 2 47 1 (fun j => [[.i 5, .i 3]].getD j [])]⟩ ?_
  refine ak_row 0 (kk := 2) (fz := false) (ty := 47) (n := ([(⟨5, 7⟩ : api_Pair)] : List api_Pair).length) (vec api_Pair.e api_Pair.z ([(⟨5, 7⟩ : api_Pair)] : List api_Pair)) (by kernel_rfl) vec_lit (st' := ⟨66, [(1, .own 0 2 0 (([(⟨5, 7⟩ : api_Pair)] : List api_Pair).length)), (12, .own 0 2 0 (([(⟨5, 7⟩ : api_Pair)] : List api_Pair).length)), (15, .agg [.i 1, .i 1, .i 3, .own 2 2 0 1, .i 0, .i 0, .i 0]), (16, .own 1 2 0 1)], [eR47 ([(⟨5, 7⟩ : api_Pair)] : List api_Pair), .flat false 2 24 1 (fun j => [[.i 0, .i 4096]].getD j []), .flat false 2 47 1 (fun j => [[.i 5, .i 3]].getD j [])]⟩) (by kernel_rfl) ?_
  refine ak_row 2 (kk := 2) (fz := false) (ty := 47) (n := ([(⟨5, 3⟩ : api_Pair)] : List api_Pair).length) (vec api_Pair.e api_Pair.z ([(⟨5, 3⟩ : api_Pair)] : List api_Pair)) (by kernel_rfl) vec_lit (st' := ⟨66, [(1, .own 0 2 0 (([(⟨5, 7⟩ : api_Pair)] : List api_Pair).length)), (12, .own 0 2 0 (([(⟨5, 7⟩ : api_Pair)] : List api_Pair).length)), (15, .agg [.i 1, .i 1, .i 3, .own 2 2 0 1, .i 0, .i 0, .i 0]), (16, .own 1 2 0 1)], [eR47 ([(⟨5, 7⟩ : api_Pair)] : List api_Pair), .flat false 2 24 1 (fun j => [[.i 0, .i 4096]].getD j []), eR47 ([(⟨5, 3⟩ : api_Pair)] : List api_Pair)]⟩) (by kernel_rfl) ?_
  refine ak_freeze 2 (kk := 2) (n := ([(⟨5, 3⟩ : api_Pair)] : List api_Pair).length) (ty := 47) (g := vec api_Pair.e api_Pair.z ([(⟨5, 3⟩ : api_Pair)] : List api_Pair)) (by kernel_rfl) (st' := ⟨66, [(1, .own 0 2 0 (([(⟨5, 7⟩ : api_Pair)] : List api_Pair).length)), (12, .own 0 2 0 (([(⟨5, 7⟩ : api_Pair)] : List api_Pair).length)), (15, .agg [.i 1, .i 1, .i 3, .own 2 2 0 1, .i 0, .i 0, .i 0]), (16, .own 1 2 0 1)], [eR47 ([(⟨5, 7⟩ : api_Pair)] : List api_Pair), .flat false 2 24 1 (fun j => [[.i 0, .i 4096]].getD j []), eF47 ([(⟨5, 3⟩ : api_Pair)] : List api_Pair)]⟩) (by kernel_rfl) ?_
  refine ak_sealS (av := .agg [.i 1, .i 1, .i 3, .own 2 2 0 1, .i 0, .i 0, .i 0]) (y := .agg [.i 1, .i 1, .i 3, eL47 true ([(⟨5, 3⟩ : api_Pair)] : List api_Pair), .i 0, .i 0, .i 0]) [1, 12, 15, 16] 15 (st' := ⟨66, [(1, .own 0 2 0 (([(⟨5, 7⟩ : api_Pair)] : List api_Pair).length)), (12, .own 0 2 0 (([(⟨5, 7⟩ : api_Pair)] : List api_Pair).length)), (15, .d (.agg [.i 1, .i 1, .i 3, eL47 true ([(⟨5, 3⟩ : api_Pair)] : List api_Pair), .i 0, .i 0, .i 0])), (16, .own 1 2 0 1)], [eR47 ([(⟨5, 7⟩ : api_Pair)] : List api_Pair), .flat false 2 24 1 (fun j => [[.i 0, .i 4096]].getD j []), eF47 ([(⟨5, 3⟩ : api_Pair)] : List api_Pair)]⟩) (by kernel_rfl) (.agg (.cons (.d _) (.cons (.d _) (.cons (.d _) (.cons (.own (ty := 47) (k := 2) (by kernel_rfl)) (.cons (.d _) (.cons (.d _) (.cons (.d _) .nil)))))))) (by kernel_rfl) ?_
  refine ak_row 1 (kk := 2) (fz := false) (ty := 24) (n := ([(⟨0, 4096⟩ : api_Span)] : List api_Span).length) (vec api_Span.e api_Span.z ([(⟨0, 4096⟩ : api_Span)] : List api_Span)) (by kernel_rfl) vec_lit (st' := ⟨66, [(1, .own 0 2 0 (([(⟨5, 7⟩ : api_Pair)] : List api_Pair).length)), (12, .own 0 2 0 (([(⟨5, 7⟩ : api_Pair)] : List api_Pair).length)), (15, .d (.agg [.i 1, .i 1, .i 3, eL47 true ([(⟨5, 3⟩ : api_Pair)] : List api_Pair), .i 0, .i 0, .i 0])), (16, .own 1 2 0 (([(⟨0, 4096⟩ : api_Span)] : List api_Span).length))], [eR47 ([(⟨5, 7⟩ : api_Pair)] : List api_Pair), eR24 ([(⟨0, 4096⟩ : api_Span)] : List api_Span), eF47 ([(⟨5, 3⟩ : api_Pair)] : List api_Pair)]⟩) (by kernel_rfl) ?_
  refine ak_freeze 1 (kk := 2) (n := ([(⟨0, 4096⟩ : api_Span)] : List api_Span).length) (ty := 24) (g := vec api_Span.e api_Span.z ([(⟨0, 4096⟩ : api_Span)] : List api_Span)) (by kernel_rfl) (st' := ⟨66, [(1, .own 0 2 0 (([(⟨5, 7⟩ : api_Pair)] : List api_Pair).length)), (12, .own 0 2 0 (([(⟨5, 7⟩ : api_Pair)] : List api_Pair).length)), (15, .d (.agg [.i 1, .i 1, .i 3, eL47 true ([(⟨5, 3⟩ : api_Pair)] : List api_Pair), .i 0, .i 0, .i 0])), (16, .own 1 2 0 (([(⟨0, 4096⟩ : api_Span)] : List api_Span).length))], [eR47 ([(⟨5, 7⟩ : api_Pair)] : List api_Pair), eF24 ([(⟨0, 4096⟩ : api_Span)] : List api_Span), eF47 ([(⟨5, 3⟩ : api_Pair)] : List api_Pair)]⟩) (by kernel_rfl) ?_
  obtain ⟨v1, h1, H⟩ := ibC H
  refine ak_callP (avs := [.own 0 2 0 (([(⟨5, 7⟩ : api_Pair)] : List api_Pair).length), .d (.agg [.i 1, .i 1, .i 3, eL47 true ([(⟨5, 3⟩ : api_Pair)] : List api_Pair), .i 0, .i 0, .i 0]), .own 1 2 0 (([(⟨0, 4096⟩ : api_Span)] : List api_Span).length)]) (dst := some 17) (k' := (K15 11110 6)) [1, 17] [] hP enters_16 (table_Apply.says (t0 := false) ([(⟨5, 7⟩ : api_Pair)] : List api_Pair) (⟨1, 1, 3, ([(⟨5, 3⟩ : api_Pair)] : List api_Pair), (⟨0, 0⟩ : api_Span), 0⟩ : api_Mut) ([(⟨0, 4096⟩ : api_Span)] : List api_Span) h1) (by kernel_rfl) (hands_none _) (.cons (.lend (ty := 47) (by kernel_rfl) rfl) (.cons (pass_d _) (.cons (.lend (ty := 24) (by kernel_rfl) rfl) .nil))) (st' := ⟨66, [(1, .own 0 2 0 (([(⟨5, 7⟩ : api_Pair)] : List api_Pair).length)), (17, .tup [.own 3 2 0 v1.1.length, .b v1.2])], [eR47 ([(⟨5, 7⟩ : api_Pair)] : List api_Pair), eF24 ([(⟨0, 4096⟩ : api_Span)] : List api_Span), eF47 ([(⟨5, 3⟩ : api_Pair)] : List api_Pair), eR47 v1.1]⟩) (by kernel_rfl) ?_
  refine goK hT 15 (K15 111110 7) ⟨66, [(3, .own 3 2 0 v1.1.length), (4, .b v1.2), (21, .own 0 2 0 (([(⟨5, 7⟩ : api_Pair)] : List api_Pair).length)), (25, .agg [.i 1, .i 1, .i 5, .own 4 2 0 2, .i 0, .i 0, .i 0]), (27, .own 5 2 0 1)], [eR47 ([(⟨5, 7⟩ : api_Pair)] : List api_Pair), eF24 ([(⟨0, 4096⟩ : api_Span)] : List api_Span), eF47 ([(⟨5, 3⟩ : api_Pair)] : List api_Pair), eR47 v1.1, .flat false 2 47 2 (fun j => [[.i 5, .i 4], [.i 9, .i 4]].getD j []), .flat false 2 24 1 (fun j => [[.i 9, .i 10]].getD j [])]⟩ ?_
  refine ak_row 4 (kk := 2) (fz := false) (ty := 47) (n := ([(⟨5, 4⟩ : api_Pair), (⟨9, 4⟩ : api_Pair)] : List api_Pair).length) (vec api_Pair.e api_Pair.z ([(⟨5, 4⟩ : api_Pair), (⟨9, 4⟩ : api_Pair)] : List api_Pair)) (by kernel_rfl) vec_lit (st' := ⟨66, [(3, .own 3 2 0 v1.1.length), (4, .b v1.2), (21, .own 0 2 0 (([(⟨5, 7⟩ : api_Pair)] : List api_Pair).length)), (25, .agg [.i 1, .i 1, .i 5, .own 4 2 0 2, .i 0, .i 0, .i 0]), (27, .own 5 2 0 1)], [eR47 ([(⟨5, 7⟩ : api_Pair)] : List api_Pair), eF24 ([(⟨0, 4096⟩ : api_Span)] : List api_Span), eF47 ([(⟨5, 3⟩ : api_Pair)] : List api_Pair), eR47 v1.1, eR47 ([(⟨5, 4⟩ : api_Pair), (⟨9, 4⟩ : api_Pair)] : List api_Pair), .flat false 2 24 1 (fun j => [[.i 9, .i 10]].getD j [])]⟩) (by kernel_rfl) ?_
  refine ak_freeze 4 (kk := 2) (n := ([(⟨5, 4⟩ : api_Pair), (⟨9, 4⟩ : api_Pair)] : List api_Pair).length) (ty := 47) (g := vec api_Pair.e api_Pair.z ([(⟨5, 4⟩ : api_Pair), (⟨9, 4⟩ : api_Pair)] : List api_Pair)) (by kernel_rfl) (st' := ⟨66, [(3, .own 3 2 0 v1.1.length), (4, .b v1.2), (21, .own 0 2 0 (([(⟨5, 7⟩ : api_Pair)] : List api_Pair).length)), (25, .agg [.i 1, .i 1, .i 5, .own 4 2 0 2, .i 0, .i 0, .i 0]), (27, .own 5 2 0 1)], [eR47 ([(⟨5, 7⟩ : api_Pair)] : List api_Pair), eF24 ([(⟨0, 4096⟩ : api_Span)] : List api_Span), eF47 ([(⟨5, 3⟩ : api_Pair)] : List api_Pair), eR47 v1.1, eF47 ([(⟨5, 4⟩ : api_Pair), (⟨9, 4⟩ : api_Pair)] : List api_Pair), .flat false 2 24 1 (fun j => [[.i 9, .i 10]].getD j [])]⟩) (by kernel_rfl) ?_
  refine ak_sealS (av := .agg [.i 1, .i 1, .i 5, .own 4 2 0 2, .i 0, .i 0, .i 0]) (y := .agg [.i 1, .i 1, .i 5, eL47 true ([(⟨5, 4⟩ : api_Pair), (⟨9, 4⟩ : api_Pair)] : List api_Pair), .i 0, .i 0, .i 0]) [3, 4, 21, 25, 27] 25 (st' := ⟨66, [(3, .own 3 2 0 v1.1.length), (4, .b v1.2), (21, .own 0 2 0 (([(⟨5, 7⟩ : api_Pair)] : List api_Pair).length)), (25, .d (.agg [.i 1, .i 1, .i 5, eL47 true ([(⟨5, 4⟩ : api_Pair), (⟨9, 4⟩ : api_Pair)] : List api_Pair), .i 0, .i 0, .i 0])), (27, .own 5 2 0 1)], [eR47 ([(⟨5, 7⟩ : api_Pair)] : List api_Pair), eF24 ([(⟨0, 4096⟩ : api_Span)] : List api_Span), eF47 ([(⟨5, 3⟩ : api_Pair)] : List api_Pair), eR47 v1.1, eF47 ([(⟨5, 4⟩ : api_Pair), (⟨9, 4⟩ : api_Pair)] : List api_Pair), .flat false 2 24 1 (fun j => [[.i 9, .i 10]].getD j [])]⟩) (by kernel_rfl) (.agg (.cons (.d _) (.cons (.d _) (.cons (.d _) (.cons (.own (ty := 47) (k := 2) (by kernel_rfl)) (.cons (.d _) (.cons (.d _) (.cons (.d _) .nil)))))))) (by kernel_rfl) ?_
  refine ak_row 5 (kk := 2) (fz := false) (ty := 24) (n := ([(⟨9, 10⟩ : api_Span)] : List api_Span).length) (vec api_Span.e api_Span.z ([(⟨9, 10⟩ : api_Span)] : List api_Span)) (by kernel_rfl) vec_lit (st' := ⟨66, [(3, .own 3 2 0 v1.1.length), (4, .b v1.2), (21, .own 0 2 0 (([(⟨5, 7⟩ : api_Pair)] : List api_Pair).length)), (25, .d (.agg [.i 1, .i 1, .i 5, eL47 true ([(⟨5, 4⟩ : api_Pair), (⟨9, 4⟩ : api_Pair)] : List api_Pair), .i 0, .i 0, .i 0])), (27, .own 5 2 0 (([(⟨9, 10⟩ : api_Span)] : List api_Span).length))], [eR47 ([(⟨5, 7⟩ : api_Pair)] : List api_Pair), eF24 ([(⟨0, 4096⟩ : api_Span)] : List api_Span), eF47 ([(⟨5, 3⟩ : api_Pair)] : List api_Pair), eR47 v1.1, eF47 ([(⟨5, 4⟩ : api_Pair), (⟨9, 4⟩ : api_Pair)] : List api_Pair), eR24 ([(⟨9, 10⟩ : api_Span)] : List api_Span)]⟩) (by kernel_rfl) ?_
  refine ak_freeze 5 (kk := 2) (n := ([(⟨9, 10⟩ : api_Span)] : List api_Span).length) (ty := 24) (g := vec api_Span.e api_Span.z ([(⟨9, 10⟩ : api_Span)] : List api_Span)) (by kernel_rfl) (st' := ⟨66, [(3, .own 3 2 0 v1.1.length), (4, .b v1.2), (21, .own 0 2 0 (([(⟨5, 7⟩ : api_Pair)] : List api_Pair).length)), (25, .d (.agg [.i 1, .i 1, .i 5, eL47 true ([(⟨5, 4⟩ : api_Pair), (⟨9, 4⟩ : api_Pair)] : List api_Pair), .i 0, .i 0, .i 0])), (27, .own 5 2 0 (([(⟨9, 10⟩ : api_Span)] : List api_Span).length))], [eR47 ([(⟨5, 7⟩ : api_Pair)] : List api_Pair), eF24 ([(⟨0, 4096⟩ : api_Span)] : List api_Span), eF47 ([(⟨5, 3⟩ : api_Pair)] : List api_Pair), eR47 v1.1, eF47 ([(⟨5, 4⟩ : api_Pair), (⟨9, 4⟩ : api_Pair)] : List api_Pair), eF24 ([(⟨9, 10⟩ : api_Span)] : List api_Span)]⟩) (by kernel_rfl) ?_
  obtain ⟨v2, h2, H⟩ := ibC H
  have Jj1 : ∀ (y1_0 : Bool), (splicelaw05_awake.j1 y1_0) = some r → AK X 15 ((K15 111111 1)) (Back X [] (.b r)) ⟨66, [(0, .b y1_0)], []⟩ := by
    intro y1_0 H
    obtain rfl := retC H
    exact ak_ret hf hX (av := .b y1_0) (by kernel_rfl) [] (sel_of_eq (by kernel_rfl)) (by decide) (by rw [h0]; rfl) (by kernel_rfl) (fun _ h => all_nil h) (.d (.v _))
  refine ak_callP (avs := [.own 0 2 0 (([(⟨5, 7⟩ : api_Pair)] : List api_Pair).length), .d (.agg [.i 1, .i 1, .i 5, eL47 true ([(⟨5, 4⟩ : api_Pair), (⟨9, 4⟩ : api_Pair)] : List api_Pair), .i 0, .i 0, .i 0]), .own 5 2 0 (([(⟨9, 10⟩ : api_Span)] : List api_Span).length)]) (dst := some 28) (k' := (K15 111110 8)) [3, 4, 28] [] hP enters_16 (table_Apply.says (t0 := false) ([(⟨5, 7⟩ : api_Pair)] : List api_Pair) (⟨1, 1, 5, ([(⟨5, 4⟩ : api_Pair), (⟨9, 4⟩ : api_Pair)] : List api_Pair), (⟨0, 0⟩ : api_Span), 0⟩ : api_Mut) ([(⟨9, 10⟩ : api_Span)] : List api_Span) h2) (by kernel_rfl) (hands_none _) (.cons (.lend (ty := 47) (by kernel_rfl) rfl) (.cons (pass_d _) (.cons (.lend (ty := 24) (by kernel_rfl) rfl) .nil))) (st' := ⟨66, [(3, .own 3 2 0 v1.1.length), (4, .b v1.2), (28, .tup [.own 6 2 0 v2.1.length, .b v2.2])], [eR47 ([(⟨5, 7⟩ : api_Pair)] : List api_Pair), eF24 ([(⟨0, 4096⟩ : api_Span)] : List api_Span), eF47 ([(⟨5, 3⟩ : api_Pair)] : List api_Pair), eR47 v1.1, eF47 ([(⟨5, 4⟩ : api_Pair), (⟨9, 4⟩ : api_Pair)] : List api_Pair), eF24 ([(⟨9, 10⟩ : api_Span)] : List api_Span), eR47 v2.1]⟩) (by kernel_rfl) ?_
  refine goK hT 10 (K15 1111110 2) ⟨66, [(3, .own 3 2 0 v1.1.length), (5, .own 6 2 0 v2.1.length), (6, .b v2.2), (32, .b v1.2)], [eR47 ([(⟨5, 7⟩ : api_Pair)] : List api_Pair), eF24 ([(⟨0, 4096⟩ : api_Span)] : List api_Span), eF47 ([(⟨5, 3⟩ : api_Pair)] : List api_Pair), eR47 v1.1, eF47 ([(⟨5, 4⟩ : api_Pair), (⟨9, 4⟩ : api_Pair)] : List api_Pair), eF24 ([(⟨9, 10⟩ : api_Span)] : List api_Span), eR47 v2.1]⟩ ?_
  by_cases c3 : v1.2 = true
  · replace H := iT c3 H
    rw [c3]
    refine goK hT 5 (K15 1111110 7) ⟨66, [(3, .own 3 2 0 v1.1.length), (5, .own 6 2 0 v2.1.length), (6, .b v2.2), (37, .b ((v1.1.length : Int) == 1))], [eR47 ([(⟨5, 7⟩ : api_Pair)] : List api_Pair), eF24 ([(⟨0, 4096⟩ : api_Span)] : List api_Span), eF47 ([(⟨5, 3⟩ : api_Pair)] : List api_Pair), eR47 v1.1, eF47 ([(⟨5, 4⟩ : api_Pair), (⟨9, 4⟩ : api_Pair)] : List api_Pair), eF24 ([(⟨9, 10⟩ : api_Span)] : List api_Span), eR47 v2.1]⟩ ?_
    by_cases c4 : (v1.1.length : Int) = 1
    · replace H := iT c4 H
      rw [eqT c4]
      refine goK hT 1 (K15 1111110 8) ⟨66, [(5, .own 6 2 0 v2.1.length), (6, .b v2.2), (37, .b true), (38, .own 3 2 0 v1.1.length)], [eR47 ([(⟨5, 7⟩ : api_Pair)] : List api_Pair), eF24 ([(⟨0, 4096⟩ : api_Span)] : List api_Span), eF47 ([(⟨5, 3⟩ : api_Pair)] : List api_Pair), eR47 v1.1, eF47 ([(⟨5, 4⟩ : api_Pair), (⟨9, 4⟩ : api_Pair)] : List api_Pair), eF24 ([(⟨9, 10⟩ : api_Span)] : List api_Span), eR47 v2.1]⟩ ?_
      obtain ⟨h5, H⟩ := iC H
      refine ak_idx hT [5, 6, 37, 39] (i := 0) (n := (v1.1.length : Int)) h5.1 h5.2 (k' := (K15 1111110 9)) (st' := ⟨66, [(5, .own 6 2 0 v2.1.length), (6, .b v2.2), (37, .b true), (39, .ptr 3 2 0 0)], [eR47 ([(⟨5, 7⟩ : api_Pair)] : List api_Pair), eF24 ([(⟨0, 4096⟩ : api_Span)] : List api_Span), eF47 ([(⟨5, 3⟩ : api_Pair)] : List api_Pair), eR47 v1.1, eF47 ([(⟨5, 4⟩ : api_Pair), (⟨9, 4⟩ : api_Pair)] : List api_Pair), eF24 ([(⟨9, 10⟩ : api_Span)] : List api_Span), eR47 v2.1]⟩) (by kernel_rfl) ?_
      refine goK hT 1 (K15 1111110 10) ⟨66, [(5, .own 6 2 0 v2.1.length), (6, .b v2.2), (37, .b true), (40, .ptr 3 2 0 1)], [eR47 ([(⟨5, 7⟩ : api_Pair)] : List api_Pair), eF24 ([(⟨0, 4096⟩ : api_Span)] : List api_Span), eF47 ([(⟨5, 3⟩ : api_Pair)] : List api_Pair), eR47 v1.1, eF47 ([(⟨5, 4⟩ : api_Pair), (⟨9, 4⟩ : api_Pair)] : List api_Pair), eF24 ([(⟨9, 10⟩ : api_Span)] : List api_Span), eR47 v2.1]⟩ ?_
      refine ak_ld hT [5, 6, 37, 41] (i := 0) (n := v1.1.length) (by omega) (k' := (K15 1111110 11)) (st' := ⟨66, [(5, .own 6 2 0 v2.1.length), (6, .b v2.2), (37, .b true), (41, .i ((v1.1.getD 0 api_Pair.z).Val))], [eR47 ([(⟨5, 7⟩ : api_Pair)] : List api_Pair), eF24 ([(⟨0, 4096⟩ : api_Span)] : List api_Span), eF47 ([(⟨5, 3⟩ : api_Pair)] : List api_Pair), eR47 v1.1, eF47 ([(⟨5, 4⟩ : api_Pair), (⟨9, 4⟩ : api_Pair)] : List api_Pair), eF24 ([(⟨9, 10⟩ : api_Span)] : List api_Span), eR47 v2.1]⟩) (by kernel_rfl) ?_
      refine goK hT 3 (K15 1111110 14) ⟨66, [(5, .own 6 2 0 v2.1.length), (6, .b v2.2), (44, .b (((v1.1.getD 0 api_Pair.z).Val) == 10))], [eR47 ([(⟨5, 7⟩ : api_Pair)] : List api_Pair), eF24 ([(⟨0, 4096⟩ : api_Span)] : List api_Span), eF47 ([(⟨5, 3⟩ : api_Pair)] : List api_Pair), eR47 v1.1, eF47 ([(⟨5, 4⟩ : api_Pair), (⟨9, 4⟩ : api_Pair)] : List api_Pair), eF24 ([(⟨9, 10⟩ : api_Span)] : List api_Span), eR47 v2.1]⟩ ?_
      by_cases c6 : ((v1.1.getD 0 api_Pair.z).Val) = 10
      · replace H := iT c6 H
        rw [eqT c6]
        refine goK hT 3 (K15 1111110 17) ⟨66, [(5, .own 6 2 0 v2.1.length), (47, .b v2.2)], [eR47 ([(⟨5, 7⟩ : api_Pair)] : List api_Pair), eF24 ([(⟨0, 4096⟩ : api_Span)] : List api_Span), eF47 ([(⟨5, 3⟩ : api_Pair)] : List api_Pair), eR47 v1.1, eF47 ([(⟨5, 4⟩ : api_Pair), (⟨9, 4⟩ : api_Pair)] : List api_Pair), eF24 ([(⟨9, 10⟩ : api_Span)] : List api_Span), eR47 v2.1]⟩ ?_
        by_cases c7 : v2.2 = true
        · replace H := iT c7 H
          rw [c7]
          refine goK hT 5 (K15 1111110 22) ⟨66, [(5, .own 6 2 0 v2.1.length), (52, .b ((v2.1.length : Int) == 2))], [eR47 ([(⟨5, 7⟩ : api_Pair)] : List api_Pair), eF24 ([(⟨0, 4096⟩ : api_Span)] : List api_Span), eF47 ([(⟨5, 3⟩ : api_Pair)] : List api_Pair), eR47 v1.1, eF47 ([(⟨5, 4⟩ : api_Pair), (⟨9, 4⟩ : api_Pair)] : List api_Pair), eF24 ([(⟨9, 10⟩ : api_Span)] : List api_Span), eR47 v2.1]⟩ ?_
          by_cases c8 : (v2.1.length : Int) = 2
          · replace H := iT c8 H
            rw [eqT c8]
            refine goK hT 1 (K15 1111110 23) ⟨66, [(5, .own 6 2 0 v2.1.length), (52, .b true), (53, .own 6 2 0 v2.1.length)], [eR47 ([(⟨5, 7⟩ : api_Pair)] : List api_Pair), eF24 ([(⟨0, 4096⟩ : api_Span)] : List api_Span), eF47 ([(⟨5, 3⟩ : api_Pair)] : List api_Pair), eR47 v1.1, eF47 ([(⟨5, 4⟩ : api_Pair), (⟨9, 4⟩ : api_Pair)] : List api_Pair), eF24 ([(⟨9, 10⟩ : api_Span)] : List api_Span), eR47 v2.1]⟩ ?_
            obtain ⟨h9, H⟩ := iC H
            refine ak_idx hT [5, 52, 54] (i := 0) (n := (v2.1.length : Int)) h9.1 h9.2 (k' := (K15 1111110 24)) (st' := ⟨66, [(5, .own 6 2 0 v2.1.length), (52, .b true), (54, .ptr 6 2 0 0)], [eR47 ([(⟨5, 7⟩ : api_Pair)] : List api_Pair), eF24 ([(⟨0, 4096⟩ : api_Span)] : List api_Span), eF47 ([(⟨5, 3⟩ : api_Pair)] : List api_Pair), eR47 v1.1, eF47 ([(⟨5, 4⟩ : api_Pair), (⟨9, 4⟩ : api_Pair)] : List api_Pair), eF24 ([(⟨9, 10⟩ : api_Span)] : List api_Span), eR47 v2.1]⟩) (by kernel_rfl) ?_
            refine goK hT 1 (K15 1111110 25) ⟨66, [(5, .own 6 2 0 v2.1.length), (52, .b true), (55, .ptr 6 2 0 1)], [eR47 ([(⟨5, 7⟩ : api_Pair)] : List api_Pair), eF24 ([(⟨0, 4096⟩ : api_Span)] : List api_Span), eF47 ([(⟨5, 3⟩ : api_Pair)] : List api_Pair), eR47 v1.1, eF47 ([(⟨5, 4⟩ : api_Pair), (⟨9, 4⟩ : api_Pair)] : List api_Pair), eF24 ([(⟨9, 10⟩ : api_Span)] : List api_Span), eR47 v2.1]⟩ ?_
            refine ak_ld hT [5, 52, 56] (i := 0) (n := v2.1.length) (by omega) (k' := (K15 1111110 26)) (st' := ⟨66, [(5, .own 6 2 0 v2.1.length), (52, .b true), (56, .i ((v2.1.getD 0 api_Pair.z).Val))], [eR47 ([(⟨5, 7⟩ : api_Pair)] : List api_Pair), eF24 ([(⟨0, 4096⟩ : api_Span)] : List api_Span), eF47 ([(⟨5, 3⟩ : api_Pair)] : List api_Pair), eR47 v1.1, eF47 ([(⟨5, 4⟩ : api_Pair), (⟨9, 4⟩ : api_Pair)] : List api_Pair), eF24 ([(⟨9, 10⟩ : api_Span)] : List api_Span), eR47 v2.1]⟩) (by kernel_rfl) ?_
            refine goK hT 3 (K15 1111110 29) ⟨66, [(5, .own 6 2 0 v2.1.length), (59, .b (((v2.1.getD 0 api_Pair.z).Val) == 7))], [eR47 ([(⟨5, 7⟩ : api_Pair)] : List api_Pair), eF24 ([(⟨0, 4096⟩ : api_Span)] : List api_Span), eF47 ([(⟨5, 3⟩ : api_Pair)] : List api_Pair), eR47 v1.1, eF47 ([(⟨5, 4⟩ : api_Pair), (⟨9, 4⟩ : api_Pair)] : List api_Pair), eF24 ([(⟨9, 10⟩ : api_Span)] : List api_Span), eR47 v2.1]⟩ ?_
            by_cases c10 : ((v2.1.getD 0 api_Pair.z).Val) = 7
            · replace H := iT c10 H
              rw [eqT c10]
              refine goK hT 1 (K15 1111110 30) ⟨66, [(59, .b true), (60, .own 6 2 0 v2.1.length)], [eR47 ([(⟨5, 7⟩ : api_Pair)] : List api_Pair), eF24 ([(⟨0, 4096⟩ : api_Span)] : List api_Span), eF47 ([(⟨5, 3⟩ : api_Pair)] : List api_Pair), eR47 v1.1, eF47 ([(⟨5, 4⟩ : api_Pair), (⟨9, 4⟩ : api_Pair)] : List api_Pair), eF24 ([(⟨9, 10⟩ : api_Span)] : List api_Span), eR47 v2.1]⟩ ?_
              obtain ⟨h11, H⟩ := iC H
              refine ak_idx hT [59, 61] (i := 1) (n := (v2.1.length : Int)) h11.1 h11.2 (k' := (K15 1111110 31)) (st' := ⟨66, [(59, .b true), (61, .ptr 6 2 1 0)], [eR47 ([(⟨5, 7⟩ : api_Pair)] : List api_Pair), eF24 ([(⟨0, 4096⟩ : api_Span)] : List api_Span), eF47 ([(⟨5, 3⟩ : api_Pair)] : List api_Pair), eR47 v1.1, eF47 ([(⟨5, 4⟩ : api_Pair), (⟨9, 4⟩ : api_Pair)] : List api_Pair), eF24 ([(⟨9, 10⟩ : api_Span)] : List api_Span), eR47 v2.1]⟩) (by kernel_rfl) ?_
              refine ak_ld hT [59, 62] (i := 1) (n := v2.1.length) (by omega) (k' := (K15 1111110 32)) (st' := ⟨66, [(59, .b true), (62, .d (eG47 (v2.1.getD 1 api_Pair.z)))], [eR47 ([(⟨5, 7⟩ : api_Pair)] : List api_Pair), eF24 ([(⟨0, 4096⟩ : api_Span)] : List api_Span), eF47 ([(⟨5, 3⟩ : api_Pair)] : List api_Pair), eR47 v1.1, eF47 ([(⟨5, 4⟩ : api_Pair), (⟨9, 4⟩ : api_Pair)] : List api_Pair), eF24 ([(⟨9, 10⟩ : api_Span)] : List api_Span), eR47 v2.1]⟩) (by kernel_rfl) ?_
              refine goK hT 5 (K15 111111 1) ⟨66, [(0, .b ((((v2.1.getD 1 api_Pair.z).Key) == 9) && (((v2.1.getD 1 api_Pair.z).Val) == 4)))], [eR47 ([(⟨5, 7⟩ : api_Pair)] : List api_Pair), eF24 ([(⟨0, 4096⟩ : api_Span)] : List api_Span), eF47 ([(⟨5, 3⟩ : api_Pair)] : List api_Pair), eR47 v1.1, eF47 ([(⟨5, 4⟩ : api_Pair), (⟨9, 4⟩ : api_Pair)] : List api_Pair), eF24 ([(⟨9, 10⟩ : api_Span)] : List api_Span), eR47 v2.1]⟩ ?_
              refine cutK [] ⟨66, [(0, .b ((((v2.1.getD 1 api_Pair.z).Key) == 9) && (((v2.1.getD 1 api_Pair.z).Val) == 4)))], []⟩ h0 ?_
              exact Jj1 ((((v2.1.getD 1 api_Pair.z).Key) == 9) && (((v2.1.getD 1 api_Pair.z).Val) == 4)) H
            · replace H := iF c10 H
              rw [eqF c10]
              refine goK hT 8 (K15 111111 1) ⟨66, [(0, .b false)], [eR47 ([(⟨5, 7⟩ : api_Pair)] : List api_Pair), eF24 ([(⟨0, 4096⟩ : api_Span)] : List api_Span), eF47 ([(⟨5, 3⟩ : api_Pair)] : List api_Pair), eR47 v1.1, eF47 ([(⟨5, 4⟩ : api_Pair), (⟨9, 4⟩ : api_Pair)] : List api_Pair), eF24 ([(⟨9, 10⟩ : api_Span)] : List api_Span), eR47 v2.1]⟩ ?_
              refine cutK [] ⟨66, [(0, .b false)], []⟩ h0 ?_
              exact Jj1 false H
          · replace H := iF c8 H
            rw [eqF c8]
            refine goK hT 15 (K15 111111 1) ⟨66, [(0, .b false)], [eR47 ([(⟨5, 7⟩ : api_Pair)] : List api_Pair), eF24 ([(⟨0, 4096⟩ : api_Span)] : List api_Span), eF47 ([(⟨5, 3⟩ : api_Pair)] : List api_Pair), eR47 v1.1, eF47 ([(⟨5, 4⟩ : api_Pair), (⟨9, 4⟩ : api_Pair)] : List api_Pair), eF24 ([(⟨9, 10⟩ : api_Span)] : List api_Span), eR47 v2.1]⟩ ?_
            refine cutK [] ⟨66, [(0, .b false)], []⟩ h0 ?_
            exact Jj1 false H
        · replace H := iF c7 H
          rw [boF c7]
          refine goK hT 20 (K15 111111 1) ⟨66, [(0, .b false)], [eR47 ([(⟨5, 7⟩ : api_Pair)] : List api_Pair), eF24 ([(⟨0, 4096⟩ : api_Span)] : List api_Span), eF47 ([(⟨5, 3⟩ : api_Pair)] : List api_Pair), eR47 v1.1, eF47 ([(⟨5, 4⟩ : api_Pair), (⟨9, 4⟩ : api_Pair)] : List api_Pair), eF24 ([(⟨9, 10⟩ : api_Span)] : List api_Span), eR47 v2.1]⟩ ?_
          refine cutK [] ⟨66, [(0, .b false)], []⟩ h0 ?_
          exact Jj1 false H
      · replace H := iF c6 H
        rw [eqF c6]
        refine goK hT 23 (K15 111111 1) ⟨66, [(0, .b false)], [eR47 ([(⟨5, 7⟩ : api_Pair)] : List api_Pair), eF24 ([(⟨0, 4096⟩ : api_Span)] : List api_Span), eF47 ([(⟨5, 3⟩ : api_Pair)] : List api_Pair), eR47 v1.1, eF47 ([(⟨5, 4⟩ : api_Pair), (⟨9, 4⟩ : api_Pair)] : List api_Pair), eF24 ([(⟨9, 10⟩ : api_Span)] : List api_Span), eR47 v2.1]⟩ ?_
        refine cutK [] ⟨66, [(0, .b false)], []⟩ h0 ?_
        exact Jj1 false H
    · replace H := iF c4 H
      rw [eqF c4]
      refine goK hT 30 (K15 111111 1) ⟨66, [(0, .b false)], [eR47 ([(⟨5, 7⟩ : api_Pair)] : List api_Pair), eF24 ([(⟨0, 4096⟩ : api_Span)] : List api_Span), eF47 ([(⟨5, 3⟩ : api_Pair)] : List api_Pair), eR47 v1.1, eF47 ([(⟨5, 4⟩ : api_Pair), (⟨9, 4⟩ : api_Pair)] : List api_Pair), eF24 ([(⟨9, 10⟩ : api_Span)] : List api_Span), eR47 v2.1]⟩ ?_
      refine cutK [] ⟨66, [(0, .b false)], []⟩ h0 ?_
      exact Jj1 false H
  · replace H := iF c3 H
    rw [boF c3]
    refine goK hT 35 (K15 111111 1) ⟨66, [(0, .b false)], [eR47 ([(⟨5, 7⟩ : api_Pair)] : List api_Pair), eF24 ([(⟨0, 4096⟩ : api_Span)] : List api_Span), eF47 ([(⟨5, 3⟩ : api_Pair)] : List api_Pair), eR47 v1.1, eF47 ([(⟨5, 4⟩ : api_Pair), (⟨9, 4⟩ : api_Pair)] : List api_Pair), eF24 ([(⟨9, 10⟩ : api_Span)] : List api_Span), eR47 v2.1]⟩ ?_
    refine cutK [] ⟨66, [(0, .b false)], []⟩ h0 ?_
    exact Jj1 false H


theorem vint_From.says (a0 : ByteArray) : Says Try.prog 58 [] [.s a0] [.box 129 [.s ((vint_From a0).s), .i ((vint_From a0).e_)]] (.ptr 0 0 0 0) := by
  obtain ⟨r, H⟩ : ∃ r, vint_From a0 = r := ⟨_, rfl⟩
  rw [H]
  refine says_of Try.func58 rfl (nt := 6) rfl (Nat.le_of_ble_eq_true rfl) fun X hP h0 hX => ?_
  have hT : TabOk X.P T := hP ▸ tok
  have hf : X.P.funcs[58]? = some Try.f58 := hP ▸ Try.func58
  refine goK hT 11 (K58 11 1) ⟨6, [(2, .ptr 0 0 0 0)], [.box 129 [.s a0, .i 0]]⟩ ?_
  obtain rfl := H
  exact ak_ret hf hX (av := .ptr 0 0 0 0) (by kernel_rfl) [0] (sel_of_eq (by kernel_rfl)) (by decide) (by rw [h0]; rfl) (by kernel_rfl) (fun _ h => all_cons (.box (.cons (.d (.v _)) (.cons (.d (.v _)) .nil))) (fun _ h => all_nil h) h) (.ptr _ _ _ _)


theorem vint_Reader_Err.says (a0 : vint_Reader) : Says Try.prog 60 [.box 129 (eC129 a0)] [.ptr 0 0 0 0] [.box 129 (eC129 a0)] (.i (vint_Reader_Err a0)) := by
  obtain ⟨r, H⟩ : ∃ r, vint_Reader_Err a0 = r := ⟨_, rfl⟩
  rw [H]
  refine says_of Try.func60 rfl (nt := 9) rfl (Nat.le_of_ble_eq_true rfl) fun X hP h0 hX => ?_
  have hT : TabOk X.P T := hP ▸ tok
  have hf : X.P.funcs[60]? = some Try.f60 := hP ▸ Try.func60
  refine goK hT 20 (K60 111 1) ⟨9, [(2, .i a0.e_)], [.box 129 (eC129 a0)]⟩ ?_
  obtain rfl := H
  exact ak_ret hf hX (av := .i a0.e_) (by kernel_rfl) [0] (sel_of_eq (by kernel_rfl)) (by decide) (by rw [h0]; rfl) (by kernel_rfl) (fun _ h => all_cons (.box (.cons (.d (.v _)) (.cons (.d (.v _)) .nil))) (fun _ h => all_nil h) h) (.d (.v _))


theorem vint_whole.says (a0 : ByteArray) {r : Bool} (H : vint_whole a0 = some r) : Says Try.prog 92 [] [.s a0] [] (.b r) := by
  refine says_of Try.func92 rfl (nt := 18) rfl (Nat.le_of_ble_eq_true rfl) fun X hP h0 hX => ?_
  have hT : TabOk X.P T := hP ▸ tok
  have hf : X.P.funcs[92]? = some Try.f92 := hP ▸ Try.func92
  refine goK hT 13 (K92 11010 0) ⟨18, [(0, .s a0), (5, .i (a0.size : Int)), (6, .i 0)], []⟩ ?_
  have L : ∀ n, (∀ (x1_6 : Int), iter (vint_whole.step a0) n (.l1 x1_6) = some r → AK X 92 ((K92 11010 0)) (Back X [] (.b r)) ⟨18, [(0, .s a0), (5, .i (a0.size : Int)), (6, .i x1_6)], []⟩) := by
    intro n
    induction n with
    | zero => exact fun _ H => iter0 H
    | succ n ih =>
      · intro x1_6 H
        refine goK hT 5 (K92 1101001 0) ⟨18, [(0, .s a0), (5, .i (a0.size : Int)), (6, .i x1_6), (7, .b (decide (x1_6 < (a0.size : Int))))], []⟩ ?_
        by_cases c1 : x1_6 < (a0.size : Int)
        · replace H := sT c1 H
          have Jj1 : ∀ (y1_16 : Bool), stk (vint_whole.j1 x1_6 y1_16) (iter (vint_whole.step a0) n) = some r → AK X 92 ((K92 11010011001 1)) (Back X [] (.b r)) ⟨18, [(0, .s a0), (5, .i (a0.size : Int)), (6, .i x1_6), (16, .b y1_16)], []⟩ := by
            intro y1_16 H
            by_cases c4 : y1_16 = true
            · replace H := sT c4 H
              rw [c4]
              refine goK hT 5 (K92 1101001100110 1) ⟨18, [(2, .b true)], []⟩ ?_
              obtain rfl := retC H
              exact ak_ret hf hX (av := .b true) (by kernel_rfl) [] (sel_of_eq (by kernel_rfl)) (by decide) (by rw [h0]; rfl) (by kernel_rfl) (fun _ h => all_nil h) (.d (.v _))
            · replace H := sF c4 H
              rw [boF c4]
              refine goK hT 3 (K92 11010011 1) ⟨18, [(0, .s a0), (5, .i (a0.size : Int)), (6, .i x1_6)], []⟩ ?_
              refine goK hT 5 (K92 11010 0) ⟨18, [(0, .s a0), (5, .i (a0.size : Int)), (6, .i (IntKind.wrap .i64 (x1_6 + 1)))], []⟩ ?_
              refine cutK [] ⟨18, [(0, .s a0), (5, .i (a0.size : Int)), (6, .i (IntKind.wrap .i64 (x1_6 + 1)))], []⟩ h0 ?_
              exact ih (IntKind.wrap .i64 (x1_6 + 1)) H
          rw [decide_eq_true c1]
          refine goK hT 2 (K92 1101001 1) ⟨18, [(0, .s a0), (5, .i (a0.size : Int)), (6, .i x1_6)], []⟩ ?_
          refine goK hT 12 (K92 110100110010 3) ⟨18, [(0, .s a0), (3, .i x1_6), (5, .i (a0.size : Int)), (6, .i x1_6), (11, .b (x1_6 == 9))], []⟩ ?_
          by_cases c2 : x1_6 = 9
          · replace H := sT c2 H
            rw [eqT c2]
            refine goK hT 6 (K92 11010011001 1) ⟨18, [(0, .s a0), (5, .i (a0.size : Int)), (6, .i x1_6), (16, .b true)], []⟩ ?_
            refine cutK [] ⟨18, [(0, .s a0), (5, .i (a0.size : Int)), (6, .i x1_6), (16, .b true)], []⟩ h0 ?_
            exact Jj1 true H
          · replace H := sF c2 H
            rw [eqF c2]
            refine goK hT 2 (K92 110100110010 5) ⟨18, [(0, .s a0), (5, .i (a0.size : Int)), (6, .i x1_6), (11, .b false), (12, .s a0), (13, .i x1_6)], []⟩ ?_
            obtain ⟨h3, H⟩ := sC H
            refine ak_idx hT [0, 5, 6, 11, 14] (i := x1_6) (n := (a0.size : Int)) h3.1 h3.2 (k' := (K92 110100110010 6)) (st' := ⟨18, [(0, .s a0), (5, .i (a0.size : Int)), (6, .i x1_6), (11, .b false), (14, .n .u8 (byteAt a0 x1_6))], []⟩) (by kernel_rfl) ?_
            refine goK hT 3 (K92 11010011001 1) ⟨18, [(0, .s a0), (5, .i (a0.size : Int)), (6, .i x1_6), (16, .b (decide ((byteAt a0 x1_6) < 128)))], []⟩ ?_
            refine cutK [] ⟨18, [(0, .s a0), (5, .i (a0.size : Int)), (6, .i x1_6), (16, .b (decide ((byteAt a0 x1_6) < 128)))], []⟩ h0 ?_
            exact Jj1 (decide ((byteAt a0 x1_6) < 128)) H
        · replace H := sF c1 H
          rw [decide_eq_false c1]
          refine goK hT 6 (K92 111 1) ⟨18, [(2, .b false)], []⟩ ?_
          obtain rfl := retC H
          exact ak_ret hf hX (av := .b false) (by kernel_rfl) [] (sel_of_eq (by kernel_rfl)) (by decide) (by rw [h0]; rfl) (by kernel_rfl) (fun _ h => all_nil h) (.d (.v _))
  refine cutK [] ⟨18, [(0, .s a0), (5, .i (a0.size : Int)), (6, .i 0)], []⟩ h0 ?_
  obtain ⟨n, H⟩ := loopC H
  exact (L n) 0 H


theorem vint_Reader_fail.says (a0 : vint_Reader) (a1 : Int) : Says Try.prog 93 [.box 129 (eC129 a0)] [.ptr 0 0 0 0, .i a1] [.box 129 [.s ((vint_Reader_fail a0 a1).s), .i ((vint_Reader_fail a0 a1).e_)]] (.tup []) := by
  obtain ⟨r, H⟩ : ∃ r, vint_Reader_fail a0 a1 = r := ⟨_, rfl⟩
  rw [H]
  refine says_of Try.func93 rfl (nt := 20) rfl (Nat.le_of_ble_eq_true rfl) fun X hP h0 hX => ?_
  have hT : TabOk X.P T := hP ▸ tok
  have hf : X.P.funcs[93]? = some Try.f93 := hP ▸ Try.func93
  have Jj1 : ∀ (y1_b0_0 : ByteArray) (y1_b0_1 : Int), (vint_Reader_fail.j1 y1_b0_0 y1_b0_1) = r → AK X 93 ([]) (Back X [.box 129 [.s r.s, .i r.e_]] (.tup [])) ⟨20, [], [.box 129 [.s y1_b0_0, .i y1_b0_1]]⟩ := by
    intro y1_b0_0 y1_b0_1 H
    obtain rfl := H
    exact ak_end hf hX (av := .tup []) (by kernel_rfl) [0] (sel_of_eq (by kernel_rfl)) (by decide) (by rw [h0]; rfl) (by kernel_rfl) (fun _ h => all_cons (.box (.cons (.d (.v _)) (.cons (.d (.v _)) .nil))) (fun _ h => all_nil h) h) (.tup .nil)
  refine goK hT 12 (K93 1 1) ⟨20, [(0, .ptr 0 0 0 0), (1, .i a1), (12, .b (a0.e_ == 0))], [.box 129 (eC129 a0)]⟩ ?_
  by_cases c1 : a0.e_ = 0
  · replace H := iT c1 H
    rw [eqT c1]
    refine goK hT 12 [] ⟨20, [], [.box 129 [.s (⟨#[]⟩ : ByteArray), .i a1]]⟩ ?_
    refine cutK [0] ⟨20, [], [.box 129 [.s (⟨#[]⟩ : ByteArray), .i a1]]⟩ h0 ?_
    exact Jj1 (⟨#[]⟩ : ByteArray) a1 H
  · replace H := iF c1 H
    rw [eqF c1]
    refine goK hT 2 [] ⟨20, [], [.box 129 (eC129 a0)]⟩ ?_
    refine cutK [0] ⟨20, [], [.box 129 [.s a0.s, .i a0.e_]]⟩ h0 ?_
    exact Jj1 a0.s a0.e_ H


theorem vint_Reader_Num.says (a0 : vint_Reader) {r : Int × vint_Reader} (H : vint_Reader_Num a0 = some r) : Says Try.prog 59 [.box 129 (eC129 a0)] [.ptr 0 0 0 0] [.box 129 [.s r.2.s, .i r.2.e_]] (.i r.1) := by
  refine says_of Try.func59 rfl (nt := 72) rfl (Nat.le_of_ble_eq_true rfl) fun X hP h0 hX => ?_
  have hT : TabOk X.P T := hP ▸ tok
  have hf : X.P.funcs[59]? = some Try.f59 := hP ▸ Try.func59
  refine goK hT 9 (K59 11000 1) ⟨72, [(0, .ptr 0 0 0 0), (6, .ptr 0 0 0 0)], [.box 129 (eC129 a0)]⟩ ?_
  refine ak_callP (avs := [.ptr 0 0 0 0]) (dst := some 7) (k' := (K59 11000 2)) [0, 7] [0] hP enters_60 (vint_Reader_Err.says a0) (by kernel_rfl) (hands_one rfl rfl) (.cons (.same (.ptr 0 0 0 0)) .nil) (st' := ⟨72, [(0, .ptr 0 0 0 0), (7, .i (vint_Reader_Err a0))], [.box 129 (eC129 a0)]⟩) (by kernel_rfl) ?_
  refine goK hT 2 (K59 1100 1) ⟨72, [(0, .ptr 0 0 0 0), (8, .b ((vint_Reader_Err a0) != 0))], [.box 129 (eC129 a0)]⟩ ?_
  by_cases c1 : (vint_Reader_Err a0) = 0
  · replace H := iT c1 H
    rw [neF c1]
    refine goK hT 2 (K59 110 1) ⟨72, [(0, .ptr 0 0 0 0)], [.box 129 (eC129 a0)]⟩ ?_
    refine goK hT 18 (K59 110111010 0) ⟨72, [(0, .ptr 0 0 0 0), (3, .i 0), (13, .i (a0.s.size : Int)), (14, .i 0)], [.box 129 (eC129 a0)]⟩ ?_
    have L : ∀ n, (∀ (x1_3 : Int) (x1_14 : Int), iter (vint_Reader_Num.step a0) n (.l1 x1_3 x1_14) = some r → AK X 59 ((K59 110111010 0)) (Back X [.box 129 [.s r.2.s, .i r.2.e_]] (.i r.1)) ⟨72, [(0, .ptr 0 0 0 0), (3, .i x1_3), (13, .i (a0.s.size : Int)), (14, .i x1_14)], [.box 129 (eC129 a0)]⟩) := by
      intro n
      induction n with
      | zero => exact fun _ _ H => iter0 H
      | succ n ih =>
        · intro x1_3 x1_14 H
          refine goK hT 5 (K59 11011101001 0) ⟨72, [(0, .ptr 0 0 0 0), (3, .i x1_3), (13, .i (a0.s.size : Int)), (14, .i x1_14), (15, .b (decide (x1_14 < (a0.s.size : Int))))], [.box 129 (eC129 a0)]⟩ ?_
          by_cases c2 : x1_14 < (a0.s.size : Int)
          · replace H := sT c2 H
            rw [decide_eq_true c2]
            refine goK hT 2 (K59 11011101001 1) ⟨72, [(0, .ptr 0 0 0 0), (3, .i x1_3), (13, .i (a0.s.size : Int)), (14, .i x1_14)], [.box 129 (eC129 a0)]⟩ ?_
            refine goK hT 14 (K59 1101110100110010 5) ⟨72, [(0, .ptr 0 0 0 0), (3, .i x1_3), (4, .i x1_14), (13, .i (a0.s.size : Int)), (14, .i x1_14), (20, .s a0.s), (21, .i x1_14)], [.box 129 (eC129 a0)]⟩ ?_
            obtain ⟨h7, H⟩ := sC H
            have Jj2 : ∀ (y2_23 : Bool), stk (vint_Reader_Num.j2 a0 x1_3 x1_14 y2_23) (iter (vint_Reader_Num.step a0) n) = some r → AK X 59 ((K59 110111010011001100 1)) (Back X [.box 129 [.s r.2.s, .i r.2.e_]] (.i r.1)) ⟨72, [(0, .ptr 0 0 0 0), (3, .i x1_3), (4, .i x1_14), (5, .n .u8 (byteAt a0.s x1_14)), (13, .i (a0.s.size : Int)), (14, .i x1_14), (23, .b y2_23)], [.box 129 (eC129 a0)]⟩ := by
              intro y2_23 H
              by_cases c10 : y2_23 = true
              · replace H := sT c10 H
                rw [c10]
                refine goK hT 9 (K59 110111100 4) ⟨72, [(0, .ptr 0 0 0 0), (66, .s a0.s)], [.box 129 (eC129 a0)]⟩ ?_
                obtain ⟨v4, h11, H⟩ := sbC H
                have Jj3 : ∀ (y3_b0_0 : ByteArray) (y3_b0_1 : Int), stk (vint_Reader_Num.j3 y3_b0_0 y3_b0_1) (iter (vint_Reader_Num.step a0) n) = some r → AK X 59 ((K59 1101111 1)) (Back X [.box 129 [.s r.2.s, .i r.2.e_]] (.i r.1)) ⟨72, [(0, .ptr 0 0 0 0)], [.box 129 [.s y3_b0_0, .i y3_b0_1]]⟩ := by
                  intro y3_b0_0 y3_b0_1 H
                  refine goK hT 3 (K59 110111110 1) ⟨72, [(70, .ptr 0 0 0 0)], [.box 129 [.s y3_b0_0, .i y3_b0_1]]⟩ ?_
                  refine ak_callP (avs := [.ptr 0 0 0 0, .i 5]) (dst := some 71) (k' := (K59 110111110 2)) [] [0] hP enters_93 (vint_Reader_fail.says (⟨y3_b0_0, y3_b0_1⟩ : vint_Reader) 5) (by kernel_rfl) (hands_one rfl rfl) (.cons (.same (.ptr 0 0 0 0)) (.cons (pass_d _) .nil)) (st' := ⟨72, [], [.box 129 [.s ((vint_Reader_fail (⟨y3_b0_0, y3_b0_1⟩ : vint_Reader) 5).s), .i ((vint_Reader_fail (⟨y3_b0_0, y3_b0_1⟩ : vint_Reader) 5).e_)]]⟩) (by kernel_rfl) ?_
                  obtain ⟨v6, h14, H⟩ := sdC H
                  rw [← h14]
                  refine goK hT 5 (K59 110111111 1) ⟨72, [(2, .i 0)], [.box 129 (eC129 v6)]⟩ ?_
                  obtain rfl := retC H
                  exact ak_ret hf hX (av := .i 0) (by kernel_rfl) [0] (sel_of_eq (by kernel_rfl)) (by decide) (by rw [h0]; rfl) (by kernel_rfl) (fun _ h => all_cons (.box (.cons (.d (.v _)) (.cons (.d (.v _)) .nil))) (fun _ h => all_nil h) h) (.d (.v _))
                refine ak_callP (avs := [.s a0.s]) (dst := some 67) (k' := (K59 110111100 5)) [0, 67] [] hP enters_92 (vint_whole.says a0.s h11) (by kernel_rfl) (hands_none _) (.cons (pass_d _) .nil) (st' := ⟨72, [(0, .ptr 0 0 0 0), (67, .b v4)], [.box 129 (eC129 a0)]⟩) (by kernel_rfl) ?_
                refine goK hT 1 (K59 11011110 1) ⟨72, [(0, .ptr 0 0 0 0), (67, .b v4)], [.box 129 (eC129 a0)]⟩ ?_
                by_cases c12 : v4 = true
                · replace H := sT c12 H
                  rw [c12]
                  refine goK hT 3 (K59 1101111010 1) ⟨72, [(0, .ptr 0 0 0 0), (68, .ptr 0 0 0 0)], [.box 129 (eC129 a0)]⟩ ?_
                  refine ak_callP (avs := [.ptr 0 0 0 0, .i 3]) (dst := some 69) (k' := (K59 1101111010 2)) [0] [0] hP enters_93 (vint_Reader_fail.says a0 3) (by kernel_rfl) (hands_one rfl rfl) (.cons (.same (.ptr 0 0 0 0)) (.cons (pass_d _) .nil)) (st' := ⟨72, [(0, .ptr 0 0 0 0)], [.box 129 [.s ((vint_Reader_fail a0 3).s), .i ((vint_Reader_fail a0 3).e_)]]⟩) (by kernel_rfl) ?_
                  obtain ⟨v5, h13, H⟩ := sdC H
                  rw [← h13]
                  refine goK hT 1 (K59 1101111 1) ⟨72, [(0, .ptr 0 0 0 0)], [.box 129 (eC129 v5)]⟩ ?_
                  refine cutK [0] ⟨72, [(0, .ptr 0 0 0 0)], [.box 129 [.s v5.s, .i v5.e_]]⟩ h0 ?_
                  exact Jj3 v5.s v5.e_ H
                · replace H := sF c12 H
                  rw [boF c12]
                  refine goK hT 2 (K59 1101111 1) ⟨72, [(0, .ptr 0 0 0 0)], [.box 129 (eC129 a0)]⟩ ?_
                  refine cutK [0] ⟨72, [(0, .ptr 0 0 0 0)], [.box 129 [.s a0.s, .i a0.e_]]⟩ h0 ?_
                  exact Jj3 a0.s a0.e_ H
              · replace H := sF c10 H
                rw [boF c10]
                refine goK hT 7 (K59 11011101001100110011 1) ⟨72, [(0, .ptr 0 0 0 0), (3, .i x1_3), (4, .i x1_14), (5, .n .u8 (byteAt a0.s x1_14)), (13, .i (a0.s.size : Int)), (14, .i x1_14), (34, .b (decide ((byteAt a0.s x1_14) < 128)))], [.box 129 (eC129 a0)]⟩ ?_
                by_cases c15 : (byteAt a0.s x1_14) < 128
                · replace H := sT c15 H
                  rw [decide_eq_true c15]
                  refine goK hT 10 (K59 11011101001100110011100 7) ⟨72, [(3, .i x1_3), (4, .i x1_14), (5, .n .u8 (byteAt a0.s x1_14)), (37, .ptr 0 0 0 0), (41, .s a0.s), (43, .i (IntKind.wrap .i64 (x1_14 + 1)))], [.box 129 (eC129 a0)]⟩ ?_
                  obtain ⟨h16, H⟩ := sC H
                  refine ak_sliceS (s := a0.s) (l := (some (.i64, IntKind.wrap .i64 (x1_14 + 1)))) (h := none) (dst := some 44) (k' := (K59 11011101001100110011100 8)) hT [3, 4, 5, 37, 44] (by kernel_rfl) h16 (st' := ⟨72, [(3, .i x1_3), (4, .i x1_14), (5, .n .u8 (byteAt a0.s x1_14)), (37, .ptr 0 0 0 0), (44, .s (a0.s.extract ((IntKind.wrap .i64 (x1_14 + 1)).toNat) a0.s.size))], [.box 129 (eC129 a0)]⟩) (by kernel_rfl) ?_
                  refine goK hT 11 (K59 110111010011001100111010 5) ⟨72, [(47, .i x1_3), (49, .i (IntKind.wrap .i64 (byteAt a0.s x1_14))), (51, .i (IntKind.wrap .i64 (7 * x1_14)))], [.box 129 [.s (a0.s.extract ((IntKind.wrap .i64 (x1_14 + 1)).toNat) a0.s.size), .i a0.e_]]⟩ ?_
                  obtain ⟨h17, H⟩ := sC H
                  refine ak_bin (op := .shl) (t := 3) (u := .int .i64 (IntKind.wrap .i64 (byteAt a0.s x1_14))) (v := .int .i64 (IntKind.wrap .i64 (7 * x1_14))) (z := .int .i64 (IntKind.wrap .i64 ((IntKind.wrap .i64 (byteAt a0.s x1_14)) * 2 ^ (min (IntKind.wrap .i64 (7 * x1_14)).toNat 64)))) (dst := some 52) (k' := (K59 110111010011001100111010 6)) hT [47, 52] (by kernel_rfl) (by simp only [binV, if_pos h17]; rfl) (st' := ⟨72, [(47, .i x1_3), (52, .i (IntKind.wrap .i64 ((IntKind.wrap .i64 (byteAt a0.s x1_14)) * 2 ^ (min (IntKind.wrap .i64 (7 * x1_14)).toNat 64))))], [.box 129 [.s (a0.s.extract ((IntKind.wrap .i64 (x1_14 + 1)).toNat) a0.s.size), .i a0.e_]]⟩) (by kernel_rfl) ?_
                  refine goK hT 2 (K59 110111010011001100111010 8) ⟨72, [(2, .i (bOr .i64 x1_3 (IntKind.wrap .i64 ((IntKind.wrap .i64 (byteAt a0.s x1_14)) * 2 ^ (min (IntKind.wrap .i64 (7 * x1_14)).toNat 64)))))], [.box 129 [.s (a0.s.extract ((IntKind.wrap .i64 (x1_14 + 1)).toNat) a0.s.size), .i a0.e_]]⟩ ?_
                  obtain ⟨v7, h18, H⟩ := sdC H
                  rw [← h18]
                  refine goK hT 1 (K59 11011101001100110011101 1) ⟨72, [(2, .i v7)], [.box 129 [.s (a0.s.extract ((IntKind.wrap .i64 (x1_14 + 1)).toNat) a0.s.size), .i a0.e_]]⟩ ?_
                  obtain rfl := retC H
                  exact ak_ret hf hX (av := .i v7) (by kernel_rfl) [0] (sel_of_eq (by kernel_rfl)) (by decide) (by rw [h0]; rfl) (by kernel_rfl) (fun _ h => all_cons (.box (.cons (.d (.v _)) (.cons (.d (.v _)) .nil))) (fun _ h => all_nil h) h) (.d (.v _))
                · replace H := sF c15 H
                  rw [decide_eq_false c15]
                  refine goK hT 3 (K59 1101110100110011 1) ⟨72, [(0, .ptr 0 0 0 0), (3, .i x1_3), (4, .i x1_14), (5, .n .u8 (byteAt a0.s x1_14)), (13, .i (a0.s.size : Int)), (14, .i x1_14)], [.box 129 (eC129 a0)]⟩ ?_
                  refine goK hT 7 (K59 11011101001100111 6) ⟨72, [(0, .ptr 0 0 0 0), (13, .i (a0.s.size : Int)), (14, .i x1_14), (54, .i x1_3), (57, .i (IntKind.wrap .i64 (bAnd .u8 (byteAt a0.s x1_14) 127))), (59, .i (IntKind.wrap .i64 (7 * x1_14)))], [.box 129 (eC129 a0)]⟩ ?_
                  obtain ⟨h19, H⟩ := sC H
                  refine ak_bin (op := .shl) (t := 3) (u := .int .i64 (IntKind.wrap .i64 (bAnd .u8 (byteAt a0.s x1_14) 127))) (v := .int .i64 (IntKind.wrap .i64 (7 * x1_14))) (z := .int .i64 (IntKind.wrap .i64 ((IntKind.wrap .i64 (bAnd .u8 (byteAt a0.s x1_14) 127)) * 2 ^ (min (IntKind.wrap .i64 (7 * x1_14)).toNat 64)))) (dst := some 60) (k' := (K59 11011101001100111 7)) hT [0, 13, 14, 54, 60] (by kernel_rfl) (by simp only [binV, if_pos h19]; rfl) (st' := ⟨72, [(0, .ptr 0 0 0 0), (13, .i (a0.s.size : Int)), (14, .i x1_14), (54, .i x1_3), (60, .i (IntKind.wrap .i64 ((IntKind.wrap .i64 (bAnd .u8 (byteAt a0.s x1_14) 127)) * 2 ^ (min (IntKind.wrap .i64 (7 * x1_14)).toNat 64))))], [.box 129 (eC129 a0)]⟩) (by kernel_rfl) ?_
                  refine goK hT 2 (K59 11011101001100111 9) ⟨72, [(0, .ptr 0 0 0 0), (3, .i (bOr .i64 x1_3 (IntKind.wrap .i64 ((IntKind.wrap .i64 (bAnd .u8 (byteAt a0.s x1_14) 127)) * 2 ^ (min (IntKind.wrap .i64 (7 * x1_14)).toNat 64))))), (13, .i (a0.s.size : Int)), (14, .i x1_14)], [.box 129 (eC129 a0)]⟩ ?_
                  obtain ⟨v8, h20, H⟩ := sdC H
                  rw [← h20]
                  refine goK hT 7 (K59 110111010 0) ⟨72, [(0, .ptr 0 0 0 0), (3, .i v8), (13, .i (a0.s.size : Int)), (14, .i (IntKind.wrap .i64 (x1_14 + 1)))], [.box 129 (eC129 a0)]⟩ ?_
                  refine cutK [0] ⟨72, [(0, .ptr 0 0 0 0), (3, .i v8), (13, .i (a0.s.size : Int)), (14, .i (IntKind.wrap .i64 (x1_14 + 1)))], [.box 129 (eC129 a0)]⟩ h0 ?_
                  exact ih v8 (IntKind.wrap .i64 (x1_14 + 1)) H
            refine ak_idx hT [0, 3, 4, 13, 14, 22] (i := x1_14) (n := (a0.s.size : Int)) h7.1 h7.2 (k' := (K59 1101110100110010 6)) (st' := ⟨72, [(0, .ptr 0 0 0 0), (3, .i x1_3), (4, .i x1_14), (13, .i (a0.s.size : Int)), (14, .i x1_14), (22, .n .u8 (byteAt a0.s x1_14))], [.box 129 (eC129 a0)]⟩) (by kernel_rfl) ?_
            refine goK hT 9 (K59 1101110100110011000 3) ⟨72, [(0, .ptr 0 0 0 0), (3, .i x1_3), (4, .i x1_14), (5, .n .u8 (byteAt a0.s x1_14)), (13, .i (a0.s.size : Int)), (14, .i x1_14), (26, .b (x1_14 == 9))], [.box 129 (eC129 a0)]⟩ ?_
            by_cases c8 : x1_14 = 9
            · replace H := sT c8 H
              rw [eqT c8]
              refine goK hT 9 (K59 110111010011001100 1) ⟨72, [(0, .ptr 0 0 0 0), (3, .i x1_3), (4, .i x1_14), (5, .n .u8 (byteAt a0.s x1_14)), (13, .i (a0.s.size : Int)), (14, .i x1_14), (23, .b true)], [.box 129 (eC129 a0)]⟩ ?_
              refine cutK [0] ⟨72, [(0, .ptr 0 0 0 0), (3, .i x1_3), (4, .i x1_14), (5, .n .u8 (byteAt a0.s x1_14)), (13, .i (a0.s.size : Int)), (14, .i x1_14), (23, .b true)], [.box 129 (eC129 a0)]⟩ h0 ?_
              exact Jj2 true H
            · replace H := sF c8 H
              rw [eqF c8]
              refine goK hT 3 (K59 1101110100110011000 6) ⟨72, [(0, .ptr 0 0 0 0), (3, .i x1_3), (4, .i x1_14), (5, .n .u8 (byteAt a0.s x1_14)), (13, .i (a0.s.size : Int)), (14, .i x1_14), (26, .b false), (29, .b (decide (x1_14 > 0)))], [.box 129 (eC129 a0)]⟩ ?_
              by_cases c9 : x1_14 > 0
              · replace H := sT c9 H
                rw [decide_eq_true c9]
                refine goK hT 6 (K59 110111010011001100 1) ⟨72, [(0, .ptr 0 0 0 0), (3, .i x1_3), (4, .i x1_14), (5, .n .u8 (byteAt a0.s x1_14)), (13, .i (a0.s.size : Int)), (14, .i x1_14), (23, .b ((byteAt a0.s x1_14) == 0))], [.box 129 (eC129 a0)]⟩ ?_
                refine cutK [0] ⟨72, [(0, .ptr 0 0 0 0), (3, .i x1_3), (4, .i x1_14), (5, .n .u8 (byteAt a0.s x1_14)), (13, .i (a0.s.size : Int)), (14, .i x1_14), (23, .b ((byteAt a0.s x1_14) == 0))], [.box 129 (eC129 a0)]⟩ h0 ?_
                exact Jj2 ((byteAt a0.s x1_14) == 0) H
              · replace H := sF c9 H
                rw [decide_eq_false c9]
                refine goK hT 6 (K59 110111010011001100 1) ⟨72, [(0, .ptr 0 0 0 0), (3, .i x1_3), (4, .i x1_14), (5, .n .u8 (byteAt a0.s x1_14)), (13, .i (a0.s.size : Int)), (14, .i x1_14), (23, .b false)], [.box 129 (eC129 a0)]⟩ ?_
                refine cutK [0] ⟨72, [(0, .ptr 0 0 0 0), (3, .i x1_3), (4, .i x1_14), (5, .n .u8 (byteAt a0.s x1_14)), (13, .i (a0.s.size : Int)), (14, .i x1_14), (23, .b false)], [.box 129 (eC129 a0)]⟩ h0 ?_
                exact Jj2 false H
          · replace H := sF c2 H
            rw [decide_eq_false c2]
            refine goK hT 9 (K59 110111100 4) ⟨72, [(0, .ptr 0 0 0 0), (66, .s a0.s)], [.box 129 (eC129 a0)]⟩ ?_
            obtain ⟨v1, h3, H⟩ := sbC H
            have Jj1 : ∀ (y1_b0_0 : ByteArray) (y1_b0_1 : Int), stk (vint_Reader_Num.j1 y1_b0_0 y1_b0_1) (iter (vint_Reader_Num.step a0) n) = some r → AK X 59 ((K59 1101111 1)) (Back X [.box 129 [.s r.2.s, .i r.2.e_]] (.i r.1)) ⟨72, [(0, .ptr 0 0 0 0)], [.box 129 [.s y1_b0_0, .i y1_b0_1]]⟩ := by
              intro y1_b0_0 y1_b0_1 H
              refine goK hT 3 (K59 110111110 1) ⟨72, [(70, .ptr 0 0 0 0)], [.box 129 [.s y1_b0_0, .i y1_b0_1]]⟩ ?_
              refine ak_callP (avs := [.ptr 0 0 0 0, .i 5]) (dst := some 71) (k' := (K59 110111110 2)) [] [0] hP enters_93 (vint_Reader_fail.says (⟨y1_b0_0, y1_b0_1⟩ : vint_Reader) 5) (by kernel_rfl) (hands_one rfl rfl) (.cons (.same (.ptr 0 0 0 0)) (.cons (pass_d _) .nil)) (st' := ⟨72, [], [.box 129 [.s ((vint_Reader_fail (⟨y1_b0_0, y1_b0_1⟩ : vint_Reader) 5).s), .i ((vint_Reader_fail (⟨y1_b0_0, y1_b0_1⟩ : vint_Reader) 5).e_)]]⟩) (by kernel_rfl) ?_
              obtain ⟨v3, h6, H⟩ := sdC H
              rw [← h6]
              refine goK hT 5 (K59 110111111 1) ⟨72, [(2, .i 0)], [.box 129 (eC129 v3)]⟩ ?_
              obtain rfl := retC H
              exact ak_ret hf hX (av := .i 0) (by kernel_rfl) [0] (sel_of_eq (by kernel_rfl)) (by decide) (by rw [h0]; rfl) (by kernel_rfl) (fun _ h => all_cons (.box (.cons (.d (.v _)) (.cons (.d (.v _)) .nil))) (fun _ h => all_nil h) h) (.d (.v _))
            refine ak_callP (avs := [.s a0.s]) (dst := some 67) (k' := (K59 110111100 5)) [0, 67] [] hP enters_92 (vint_whole.says a0.s h3) (by kernel_rfl) (hands_none _) (.cons (pass_d _) .nil) (st' := ⟨72, [(0, .ptr 0 0 0 0), (67, .b v1)], [.box 129 (eC129 a0)]⟩) (by kernel_rfl) ?_
            refine goK hT 1 (K59 11011110 1) ⟨72, [(0, .ptr 0 0 0 0), (67, .b v1)], [.box 129 (eC129 a0)]⟩ ?_
            by_cases c4 : v1 = true
            · replace H := sT c4 H
              rw [c4]
              refine goK hT 3 (K59 1101111010 1) ⟨72, [(0, .ptr 0 0 0 0), (68, .ptr 0 0 0 0)], [.box 129 (eC129 a0)]⟩ ?_
              refine ak_callP (avs := [.ptr 0 0 0 0, .i 3]) (dst := some 69) (k' := (K59 1101111010 2)) [0] [0] hP enters_93 (vint_Reader_fail.says a0 3) (by kernel_rfl) (hands_one rfl rfl) (.cons (.same (.ptr 0 0 0 0)) (.cons (pass_d _) .nil)) (st' := ⟨72, [(0, .ptr 0 0 0 0)], [.box 129 [.s ((vint_Reader_fail a0 3).s), .i ((vint_Reader_fail a0 3).e_)]]⟩) (by kernel_rfl) ?_
              obtain ⟨v2, h5, H⟩ := sdC H
              rw [← h5]
              refine goK hT 1 (K59 1101111 1) ⟨72, [(0, .ptr 0 0 0 0)], [.box 129 (eC129 v2)]⟩ ?_
              refine cutK [0] ⟨72, [(0, .ptr 0 0 0 0)], [.box 129 [.s v2.s, .i v2.e_]]⟩ h0 ?_
              exact Jj1 v2.s v2.e_ H
            · replace H := sF c4 H
              rw [boF c4]
              refine goK hT 2 (K59 1101111 1) ⟨72, [(0, .ptr 0 0 0 0)], [.box 129 (eC129 a0)]⟩ ?_
              refine cutK [0] ⟨72, [(0, .ptr 0 0 0 0)], [.box 129 [.s a0.s, .i a0.e_]]⟩ h0 ?_
              exact Jj1 a0.s a0.e_ H
    refine cutK [0] ⟨72, [(0, .ptr 0 0 0 0), (3, .i 0), (13, .i (a0.s.size : Int)), (14, .i 0)], [.box 129 (eC129 a0)]⟩ h0 ?_
    obtain ⟨n, H⟩ := loopC H
    exact (L n) 0 0 H
  · replace H := iF c1 H
    rw [neT c1]
    refine goK hT 5 (K59 110010 1) ⟨72, [(2, .i 0)], [.box 129 (eC129 a0)]⟩ ?_
    obtain rfl := retC H
    exact ak_ret hf hX (av := .i 0) (by kernel_rfl) [0] (sel_of_eq (by kernel_rfl)) (by decide) (by rw [h0]; rfl) (by kernel_rfl) (fun _ h => all_cons (.box (.cons (.d (.v _)) (.cons (.d (.v _)) .nil))) (fun _ h => all_nil h) h) (.d (.v _))


theorem vint_Reader_End.says (a0 : vint_Reader) : Says Try.prog 62 [.box 129 (eC129 a0)] [.ptr 0 0 0 0] [.box 129 (eC129 a0)] (.i (vint_Reader_End a0)) := by
  obtain ⟨r, H⟩ : ∃ r, vint_Reader_End a0 = r := ⟨_, rfl⟩
  rw [H]
  refine says_of Try.func62 rfl (nt := 15) rfl (Nat.le_of_ble_eq_true rfl) fun X hP h0 hX => ?_
  have hT : TabOk X.P T := hP ▸ tok
  have hf : X.P.funcs[62]? = some Try.f62 := hP ▸ Try.func62
  have Jj1 : ∀ (y1_12 : Bool), (vint_Reader_End.j1 a0 y1_12) = r → AK X 62 ((K62 110 1)) (Back X [.box 129 (eC129 a0)] (.i r)) ⟨15, [(0, .ptr 0 0 0 0), (12, .b y1_12)], [.box 129 (eC129 a0)]⟩ := by
    intro y1_12 H
    by_cases c2 : y1_12 = true
    · replace H := iT c2 H
      rw [c2]
      refine goK hT 5 (K62 11010 1) ⟨15, [(2, .i 2)], [.box 129 (eC129 a0)]⟩ ?_
      obtain rfl := H
      exact ak_ret hf hX (av := .i 2) (by kernel_rfl) [0] (sel_of_eq (by kernel_rfl)) (by decide) (by rw [h0]; rfl) (by kernel_rfl) (fun _ h => all_cons (.box (.cons (.d (.v _)) (.cons (.d (.v _)) .nil))) (fun _ h => all_nil h) h) (.d (.v _))
    · replace H := iF c2 H
      rw [boF c2]
      refine goK hT 2 (K62 11 1) ⟨15, [(0, .ptr 0 0 0 0)], [.box 129 (eC129 a0)]⟩ ?_
      refine goK hT 3 (K62 1110 1) ⟨15, [(13, .ptr 0 0 0 0)], [.box 129 (eC129 a0)]⟩ ?_
      refine ak_callP (avs := [.ptr 0 0 0 0]) (dst := some 14) (k' := (K62 1110 2)) [14] [0] hP enters_60 (vint_Reader_Err.says a0) (by kernel_rfl) (hands_one rfl rfl) (.cons (.same (.ptr 0 0 0 0)) .nil) (st' := ⟨15, [(14, .i (vint_Reader_Err a0))], [.box 129 (eC129 a0)]⟩) (by kernel_rfl) ?_
      refine goK hT 2 (K62 111 1) ⟨15, [(2, .i (vint_Reader_Err a0))], [.box 129 (eC129 a0)]⟩ ?_
      obtain rfl := H
      exact ak_ret hf hX (av := .i (vint_Reader_Err a0)) (by kernel_rfl) [0] (sel_of_eq (by kernel_rfl)) (by decide) (by rw [h0]; rfl) (by kernel_rfl) (fun _ h => all_cons (.box (.cons (.d (.v _)) (.cons (.d (.v _)) .nil))) (fun _ h => all_nil h) h) (.d (.v _))
  refine goK hT 8 (K62 1100 1) ⟨15, [(0, .ptr 0 0 0 0), (3, .ptr 0 0 0 0)], [.box 129 (eC129 a0)]⟩ ?_
  refine ak_callP (avs := [.ptr 0 0 0 0]) (dst := some 4) (k' := (K62 1100 2)) [0, 4] [0] hP enters_60 (vint_Reader_Err.says a0) (by kernel_rfl) (hands_one rfl rfl) (.cons (.same (.ptr 0 0 0 0)) .nil) (st' := ⟨15, [(0, .ptr 0 0 0 0), (4, .i (vint_Reader_Err a0))], [.box 129 (eC129 a0)]⟩) (by kernel_rfl) ?_
  refine goK hT 2 (K62 1100 4) ⟨15, [(0, .ptr 0 0 0 0), (6, .b ((vint_Reader_Err a0) == 0))], [.box 129 (eC129 a0)]⟩ ?_
  by_cases c1 : (vint_Reader_Err a0) = 0
  · replace H := iT c1 H
    rw [eqT c1]
    refine goK hT 7 (K62 110 1) ⟨15, [(0, .ptr 0 0 0 0), (12, .b (!(a0.s.toList == (⟨#[]⟩ : ByteArray).toList)))], [.box 129 (eC129 a0)]⟩ ?_
    refine cutK [0] ⟨15, [(0, .ptr 0 0 0 0), (12, .b (!(a0.s.toList == (⟨#[]⟩ : ByteArray).toList)))], [.box 129 (eC129 a0)]⟩ h0 ?_
    exact Jj1 (!(a0.s.toList == (⟨#[]⟩ : ByteArray).toList)) H
  · replace H := iF c1 H
    rw [eqF c1]
    refine goK hT 7 (K62 110 1) ⟨15, [(0, .ptr 0 0 0 0), (12, .b false)], [.box 129 (eC129 a0)]⟩ ?_
    refine cutK [0] ⟨15, [(0, .ptr 0 0 0 0), (12, .b false)], [.box 129 (eC129 a0)]⟩ h0 ?_
    exact Jj1 false H


theorem vint_Reader_Whole.says (a0 : vint_Reader) {r : Int × vint_Reader} (H : vint_Reader_Whole a0 = some r) : Says Try.prog 61 [.box 129 (eC129 a0)] [.ptr 0 0 0 0] [.box 129 [.s r.2.s, .i r.2.e_]] (.i r.1) := by
  refine says_of Try.func61 rfl (nt := 15) rfl (Nat.le_of_ble_eq_true rfl) fun X hP h0 hX => ?_
  have hT : TabOk X.P T := hP ▸ tok
  have hf : X.P.funcs[61]? = some Try.f61 := hP ▸ Try.func61
  refine goK hT 7 (K61 110 1) ⟨15, [(4, .ptr 0 0 0 0)], [.box 129 (eC129 a0)]⟩ ?_
  obtain ⟨v1, h1, H⟩ := ibC H
  refine ak_callP (avs := [.ptr 0 0 0 0]) (dst := some 5) (k' := (K61 110 2)) [5] [0] hP enters_59 (vint_Reader_Num.says a0 h1) (by kernel_rfl) (hands_one rfl rfl) (.cons (.same (.ptr 0 0 0 0)) .nil) (st' := ⟨15, [(5, .i v1.1)], [.box 129 (eC129 v1.2)]⟩) (by kernel_rfl) ?_
  refine goK hT 9 (K61 1110 1) ⟨15, [(3, .i v1.1), (8, .b ((bAnd .i64 v1.1 1) == 1))], [.box 129 (eC129 v1.2)]⟩ ?_
  by_cases c2 : (bAnd .i64 v1.1 1) = 1
  · replace H := iT c2 H
    rw [eqT c2]
    refine goK hT 8 (K61 1110100 5) ⟨15, [(2, .i (IntKind.wrap .i64 ((IntKind.wrap .i64 (0 - (Int.fdiv v1.1 2))) - 1)))], [.box 129 (eC129 v1.2)]⟩ ?_
    obtain ⟨v2, h3, H⟩ := idC H
    rw [← h3]
    refine goK hT 1 (K61 111010 1) ⟨15, [(2, .i v2)], [.box 129 (eC129 v1.2)]⟩ ?_
    obtain rfl := retC H
    exact ak_ret hf hX (av := .i v2) (by kernel_rfl) [0] (sel_of_eq (by kernel_rfl)) (by decide) (by rw [h0]; rfl) (by kernel_rfl) (fun _ h => all_cons (.box (.cons (.d (.v _)) (.cons (.d (.v _)) .nil))) (fun _ h => all_nil h) h) (.d (.v _))
  · replace H := iF c2 H
    rw [eqF c2]
    refine goK hT 2 (K61 111 1) ⟨15, [(3, .i v1.1)], [.box 129 (eC129 v1.2)]⟩ ?_
    refine goK hT 6 (K61 1111 1) ⟨15, [(2, .i (Int.fdiv v1.1 2))], [.box 129 (eC129 v1.2)]⟩ ?_
    obtain rfl := retC H
    exact ak_ret hf hX (av := .i (Int.fdiv v1.1 2)) (by kernel_rfl) [0] (sel_of_eq (by kernel_rfl)) (by decide) (by rw [h0]; rfl) (by kernel_rfl) (fun _ h => all_cons (.box (.cons (.d (.v _)) (.cons (.d (.v _)) .nil))) (fun _ h => all_nil h) h) (.d (.v _))


theorem table_Read.says (a0 : ByteArray) {r : (List api_Pair) × Int} (H : table_Read a0 = some r) : Says Try.prog 31 [] [.s a0] [eR47 r.1] (.tup [.own 0 2 0 r.1.length, .i r.2]) := by
  refine says_of Try.func31 rfl (nt := 42) rfl (Nat.le_of_ble_eq_true rfl) fun X hP h0 hX => ?_
  have hT : TabOk X.P T := hP ▸ tok
  have hf : X.P.funcs[31]? = some Try.f31 := hP ▸ Try.func31
  refine goK hT 8 (K31 110 1) ⟨42, [(9, .s a0)], []⟩ ?_
  refine ak_callP (avs := [.s a0]) (dst := some 10) (k' := (K31 110 2)) [10] [] hP enters_58 (vint_From.says a0) (by kernel_rfl) (hands_none _) (.cons (pass_d _) .nil) (st' := ⟨42, [(10, .ptr 0 0 0 0)], [.box 129 [.s ((vint_From a0).s), .i ((vint_From a0).e_)]]⟩) (by kernel_rfl) ?_
  obtain ⟨v1, h1, H⟩ := idC H
  rw [← h1]
  refine goK hT 10 (K31 111100 1) ⟨42, [(4, .ptr 0 0 0 0), (5, .ns), (11, .ptr 0 0 0 0)], [.box 129 (eC129 v1)]⟩ ?_
  obtain ⟨v2, h2, H⟩ := ibC H
  refine ak_callP (avs := [.ptr 0 0 0 0]) (dst := some 12) (k' := (K31 111100 2)) [4, 5, 12] [0] hP enters_59 (vint_Reader_Num.says v1 h2) (by kernel_rfl) (hands_one rfl rfl) (.cons (.same (.ptr 0 0 0 0)) .nil) (st' := ⟨42, [(4, .ptr 0 0 0 0), (5, .ns), (12, .i v2.1)], [.box 129 (eC129 v2.2)]⟩) (by kernel_rfl) ?_
  refine goK hT 5 (K31 1111010 0) ⟨42, [(4, .ptr 0 0 0 0), (5, .ns), (6, .i 0), (7, .i v2.1)], [.box 129 (eC129 v2.2)]⟩ ?_
  refine ak_nilS [4, 5, 6, 7] 5 2 47 (vec api_Pair.e api_Pair.z []) (st' := ⟨42, [(4, .ptr 0 0 0 0), (5, .own 1 2 0 0), (6, .i 0), (7, .i v2.1)], [.box 129 (eC129 v2.2), eR47 ([] : List api_Pair)]⟩) (by kernel_rfl) (by kernel_rfl) ?_
  have L : ∀ n, (∀ (x1_6 : Int) (x1_b0_0 : ByteArray) (x1_b0_1 : Int) (x1_r1 : List api_Pair), iter (table_Read.step v2) n (.l1 x1_6 x1_b0_0 x1_b0_1 x1_r1) = some r → AK X 31 ((K31 1111010 0)) (Back X [eR47 r.1] (.tup [.own 0 2 0 r.1.length, .i r.2])) ⟨42, [(4, .ptr 0 0 0 0), (5, .own 1 2 0 x1_r1.length), (6, .i x1_6), (7, .i v2.1)], [.box 129 [.s x1_b0_0, .i x1_b0_1], eR47 x1_r1]⟩) := by
    intro n
    induction n with
    | zero => exact fun _ _ _ _ H => iter0 H
    | succ n ih =>
      · intro x1_6 x1_b0_0 x1_b0_1 x1_r1 H
        have Jj1 : ∀ (y1_20 : Bool), stk (table_Read.j1 x1_6 x1_b0_0 x1_b0_1 x1_r1 y1_20) (iter (table_Read.step v2) n) = some r → AK X 31 ((K31 111101000 1)) (Back X [eR47 r.1] (.tup [.own 0 2 0 r.1.length, .i r.2])) ⟨42, [(4, .ptr 0 0 0 0), (5, .own 1 2 0 x1_r1.length), (6, .i x1_6), (7, .i v2.1), (20, .b y1_20)], [.box 129 [.s x1_b0_0, .i x1_b0_1], eR47 x1_r1]⟩ := by
          intro y1_20 H
          by_cases c4 : y1_20 = true
          · replace H := sT c4 H
            rw [c4]
            refine goK hT 2 (K31 11110100 1) ⟨42, [(4, .ptr 0 0 0 0), (5, .own 1 2 0 x1_r1.length), (6, .i x1_6), (7, .i v2.1)], [.box 129 [.s x1_b0_0, .i x1_b0_1], eR47 x1_r1]⟩ ?_
            refine goK hT 5 (K31 11110100100 2) ⟨42, [(4, .ptr 0 0 0 0), (6, .i x1_6), (7, .i v2.1), (23, .own 1 2 0 x1_r1.length), (24, .ptr 0 0 0 0)], [.box 129 [.s x1_b0_0, .i x1_b0_1], eR47 x1_r1]⟩ ?_
            obtain ⟨v4, h8, H⟩ := sbC H
            refine ak_callP (avs := [.ptr 0 0 0 0]) (dst := some 25) (k' := (K31 11110100100 3)) [4, 6, 7, 23, 25] [0] hP enters_59 (vint_Reader_Num.says (⟨x1_b0_0, x1_b0_1⟩ : vint_Reader) h8) (by kernel_rfl) (hands_one rfl rfl) (.cons (.same (.ptr 0 0 0 0)) .nil) (st' := ⟨42, [(4, .ptr 0 0 0 0), (6, .i x1_6), (7, .i v2.1), (23, .own 1 2 0 x1_r1.length), (25, .i v4.1)], [.box 129 (eC129 v4.2), eR47 x1_r1]⟩) (by kernel_rfl) ?_
            refine goK hT 1 (K31 11110100100 4) ⟨42, [(4, .ptr 0 0 0 0), (6, .i x1_6), (7, .i v2.1), (23, .own 1 2 0 x1_r1.length), (25, .i v4.1), (26, .ptr 0 0 0 0)], [.box 129 (eC129 v4.2), eR47 x1_r1]⟩ ?_
            obtain ⟨v5, h9, H⟩ := sbC H
            refine ak_callP (avs := [.ptr 0 0 0 0]) (dst := some 27) (k' := (K31 11110100100 5)) [4, 6, 7, 23, 25, 27] [0] hP enters_61 (vint_Reader_Whole.says v4.2 h9) (by kernel_rfl) (hands_one rfl rfl) (.cons (.same (.ptr 0 0 0 0)) .nil) (st' := ⟨42, [(4, .ptr 0 0 0 0), (6, .i x1_6), (7, .i v2.1), (23, .own 1 2 0 x1_r1.length), (25, .i v4.1), (27, .i v5.1)], [.box 129 (eC129 v5.2), eR47 x1_r1]⟩) (by kernel_rfl) ?_
            refine goK hT 2 (K31 11110100100 7) ⟨42, [(4, .ptr 0 0 0 0), (6, .i x1_6), (7, .i v2.1), (23, .own 1 2 0 x1_r1.length), (29, .own 2 2 0 1)], [.box 129 (eC129 v5.2), eR47 x1_r1, .flat false 2 47 1 (fun j => [[.i v4.1, .i v5.1]].getD j [])]⟩ ?_
            obtain ⟨h10, H⟩ := sC H
            refine ak_append1 (id := 1) (kk := 2) (by' := 16) (t := 22) (e := 47) (z := [.int .i64 0, .int .i64 0]) (dst := some 30) (id2 := 2) (e2 := 47) (fz := false) (k' := (K31 11110100100 8)) hT api_Pair.e api_Pair.z x1_r1 (⟨v4.1, v5.1⟩ : api_Pair) [4, 6, 7, 30] (by kernel_rfl) (by kernel_rfl) (by kernel_rfl) (by kernel_rfl) (by kernel_rfl) (by kernel_rfl) (by kernel_rfl) h10 (by omega) (st' := ⟨42, [(4, .ptr 0 0 0 0), (6, .i x1_6), (7, .i v2.1), (30, .own 3 2 0 ((x1_r1 ++ [(⟨v4.1, v5.1⟩ : api_Pair)]).length))], [.box 129 (eC129 v5.2), .gone, .flat false 2 47 1 (fun j => [[.i v4.1, .i v5.1]].getD j []), eR47 (x1_r1 ++ [(⟨v4.1, v5.1⟩ : api_Pair)])]⟩) (by kernel_rfl) ?_
            refine goK hT 9 (K31 1111010 0) ⟨42, [(4, .ptr 0 0 0 0), (5, .own 3 2 0 ((x1_r1 ++ [(⟨v4.1, v5.1⟩ : api_Pair)]).length)), (6, .i (IntKind.wrap .i64 (x1_6 + 1))), (7, .i v2.1)], [.box 129 (eC129 v5.2), .gone, .flat false 2 47 1 (fun j => [[.i v4.1, .i v5.1]].getD j []), eR47 (x1_r1 ++ [(⟨v4.1, v5.1⟩ : api_Pair)])]⟩ ?_
            refine cutK [0, 3] ⟨42, [(4, .ptr 0 0 0 0), (5, .own 1 2 0 (x1_r1 ++ [(⟨v4.1, v5.1⟩ : api_Pair)]).length), (6, .i (IntKind.wrap .i64 (x1_6 + 1))), (7, .i v2.1)], [.box 129 [.s v5.2.s, .i v5.2.e_], eR47 (x1_r1 ++ [(⟨v4.1, v5.1⟩ : api_Pair)])]⟩ h0 ?_
            exact ih (IntKind.wrap .i64 (x1_6 + 1)) v5.2.s v5.2.e_ (x1_r1 ++ [(⟨v4.1, v5.1⟩ : api_Pair)]) H
          · replace H := sF c4 H
            rw [boF c4]
            refine goK hT 6 (K31 1111100 1) ⟨42, [(5, .own 1 2 0 x1_r1.length), (31, .ptr 0 0 0 0)], [.box 129 [.s x1_b0_0, .i x1_b0_1], eR47 x1_r1]⟩ ?_
            refine ak_callP (avs := [.ptr 0 0 0 0]) (dst := some 32) (k' := (K31 1111100 2)) [5, 32] [0] hP enters_62 (vint_Reader_End.says (⟨x1_b0_0, x1_b0_1⟩ : vint_Reader)) (by kernel_rfl) (hands_one rfl rfl) (.cons (.same (.ptr 0 0 0 0)) .nil) (st' := ⟨42, [(5, .own 1 2 0 x1_r1.length), (32, .i (vint_Reader_End (⟨x1_b0_0, x1_b0_1⟩ : vint_Reader)))], [.box 129 [.s x1_b0_0, .i x1_b0_1], eR47 x1_r1]⟩) (by kernel_rfl) ?_
            refine goK hT 9 (K31 11111010 1) ⟨42, [(5, .own 1 2 0 x1_r1.length), (8, .i (vint_Reader_End (⟨x1_b0_0, x1_b0_1⟩ : vint_Reader))), (33, .b ((vint_Reader_End (⟨x1_b0_0, x1_b0_1⟩ : vint_Reader)) != 0))], [.box 129 [.s x1_b0_0, .i x1_b0_1], eR47 x1_r1]⟩ ?_
            by_cases c5 : (vint_Reader_End (⟨x1_b0_0, x1_b0_1⟩ : vint_Reader)) = 0
            · replace H := sT c5 H
              rw [neF c5]
              refine goK hT 4 (K31 11111010110 1) ⟨42, [(5, .own 1 2 0 x1_r1.length), (38, .own 1 2 0 x1_r1.length)], [.box 129 [.s x1_b0_0, .i x1_b0_1], eR47 x1_r1]⟩ ?_
              obtain ⟨v3, h6, H⟩ := sbC H
              refine ak_callP (avs := [.own 1 2 0 x1_r1.length]) (dst := some 39) (k' := (K31 11111010110 2)) [5, 39] [] hP enters_22 (table_Check.says (t0 := false) x1_r1 h6) (by kernel_rfl) (hands_none _) (.cons (.lend (ty := 47) (by kernel_rfl) rfl) .nil) (st' := ⟨42, [(5, .own 1 2 0 x1_r1.length), (39, .b v3)], [.box 129 [.s x1_b0_0, .i x1_b0_1], eR47 x1_r1]⟩) (by kernel_rfl) ?_
              refine goK hT 3 (K31 1111101011 1) ⟨42, [(5, .own 1 2 0 x1_r1.length), (37, .b (!v3))], [.box 129 [.s x1_b0_0, .i x1_b0_1], eR47 x1_r1]⟩ ?_
              by_cases c7 : v3 = true
              · replace H := sT c7 H
                rw [c7]
                refine goK hT 3 (K31 11111 1) ⟨42, [(5, .own 1 2 0 x1_r1.length)], [.box 129 [.s x1_b0_0, .i x1_b0_1], eR47 x1_r1]⟩ ?_
                refine goK hT 6 (K31 111111 1) ⟨42, [(2, .own 1 2 0 x1_r1.length), (3, .i 0)], [.box 129 [.s x1_b0_0, .i x1_b0_1], eR47 x1_r1]⟩ ?_
                obtain rfl := retC H
                exact ak_ret hf hX (av := .tup [.own 1 2 0 x1_r1.length, .i 0]) (by kernel_rfl) [1] (sel_of_eq (by kernel_rfl)) (by decide) (by rw [h0]; rfl) (by kernel_rfl) (fun _ h => all_cons (nr_vec api_Pair.nl) (fun _ h => all_nil h) h) (.tup (.cons (.own _ _ _ _) (.cons (.d (.v _)) .nil)))
              · replace H := sF c7 H
                rw [boF c7]
                refine goK hT 6 (K31 111110101110 1) ⟨42, [(2, .ns), (3, .i 3)], [.box 129 [.s x1_b0_0, .i x1_b0_1], eR47 x1_r1]⟩ ?_
                refine ak_nilS [2, 3] 2 2 47 (vec api_Pair.e api_Pair.z []) (st' := ⟨42, [(2, .own 2 2 0 0), (3, .i 3)], [.box 129 [.s x1_b0_0, .i x1_b0_1], eR47 x1_r1, eR47 ([] : List api_Pair)]⟩) (by kernel_rfl) (by kernel_rfl) ?_
                obtain rfl := retC H
                exact ak_ret hf hX (av := .tup [.own 2 2 0 0, .i 3]) (by kernel_rfl) [2] (sel_of_eq (by kernel_rfl)) (by decide) (by rw [h0]; rfl) (by kernel_rfl) (fun _ h => all_cons (nr_vec api_Pair.nl) (fun _ h => all_nil h) h) (.tup (.cons (.own _ _ _ _) (.cons (.d (.v _)) .nil)))
            · replace H := sF c5 H
              rw [neT c5]
              refine goK hT 7 (K31 1111101010 1) ⟨42, [(2, .ns), (3, .i (vint_Reader_End (⟨x1_b0_0, x1_b0_1⟩ : vint_Reader)))], [.box 129 [.s x1_b0_0, .i x1_b0_1], eR47 x1_r1]⟩ ?_
              refine ak_nilS [2, 3] 2 2 47 (vec api_Pair.e api_Pair.z []) (st' := ⟨42, [(2, .own 2 2 0 0), (3, .i (vint_Reader_End (⟨x1_b0_0, x1_b0_1⟩ : vint_Reader)))], [.box 129 [.s x1_b0_0, .i x1_b0_1], eR47 x1_r1, eR47 ([] : List api_Pair)]⟩) (by kernel_rfl) (by kernel_rfl) ?_
              obtain rfl := retC H
              exact ak_ret hf hX (av := .tup [.own 2 2 0 0, .i (vint_Reader_End (⟨x1_b0_0, x1_b0_1⟩ : vint_Reader))]) (by kernel_rfl) [2] (sel_of_eq (by kernel_rfl)) (by decide) (by rw [h0]; rfl) (by kernel_rfl) (fun _ h => all_cons (nr_vec api_Pair.nl) (fun _ h => all_nil h) h) (.tup (.cons (.own _ _ _ _) (.cons (.d (.v _)) .nil)))
        refine goK hT 7 (K31 1111010000 4) ⟨42, [(4, .ptr 0 0 0 0), (5, .own 1 2 0 x1_r1.length), (6, .i x1_6), (7, .i v2.1), (16, .b (decide (x1_6 < v2.1)))], [.box 129 [.s x1_b0_0, .i x1_b0_1], eR47 x1_r1]⟩ ?_
        by_cases c3 : x1_6 < v2.1
        · replace H := sT c3 H
          rw [decide_eq_true c3]
          refine goK hT 1 (K31 1111010000 5) ⟨42, [(4, .ptr 0 0 0 0), (5, .own 1 2 0 x1_r1.length), (6, .i x1_6), (7, .i v2.1), (16, .b true), (17, .ptr 0 0 0 0)], [.box 129 [.s x1_b0_0, .i x1_b0_1], eR47 x1_r1]⟩ ?_
          refine ak_callP (avs := [.ptr 0 0 0 0]) (dst := some 18) (k' := (K31 1111010000 6)) [4, 5, 6, 7, 16, 18] [0] hP enters_60 (vint_Reader_Err.says (⟨x1_b0_0, x1_b0_1⟩ : vint_Reader)) (by kernel_rfl) (hands_one rfl rfl) (.cons (.same (.ptr 0 0 0 0)) .nil) (st' := ⟨42, [(4, .ptr 0 0 0 0), (5, .own 1 2 0 x1_r1.length), (6, .i x1_6), (7, .i v2.1), (16, .b true), (18, .i (vint_Reader_Err (⟨x1_b0_0, x1_b0_1⟩ : vint_Reader)))], [.box 129 [.s x1_b0_0, .i x1_b0_1], eR47 x1_r1]⟩) (by kernel_rfl) ?_
          refine goK hT 3 (K31 111101000 1) ⟨42, [(4, .ptr 0 0 0 0), (5, .own 1 2 0 x1_r1.length), (6, .i x1_6), (7, .i v2.1), (20, .b ((vint_Reader_Err (⟨x1_b0_0, x1_b0_1⟩ : vint_Reader)) == 0))], [.box 129 [.s x1_b0_0, .i x1_b0_1], eR47 x1_r1]⟩ ?_
          refine cutK [0, 1] ⟨42, [(4, .ptr 0 0 0 0), (5, .own 1 2 0 x1_r1.length), (6, .i x1_6), (7, .i v2.1), (20, .b ((vint_Reader_Err (⟨x1_b0_0, x1_b0_1⟩ : vint_Reader)) == 0))], [.box 129 [.s x1_b0_0, .i x1_b0_1], eR47 x1_r1]⟩ h0 ?_
          exact Jj1 ((vint_Reader_Err (⟨x1_b0_0, x1_b0_1⟩ : vint_Reader)) == 0) H
        · replace H := sF c3 H
          rw [decide_eq_false c3]
          refine goK hT 5 (K31 111101000 1) ⟨42, [(4, .ptr 0 0 0 0), (5, .own 1 2 0 x1_r1.length), (6, .i x1_6), (7, .i v2.1), (20, .b false)], [.box 129 [.s x1_b0_0, .i x1_b0_1], eR47 x1_r1]⟩ ?_
          refine cutK [0, 1] ⟨42, [(4, .ptr 0 0 0 0), (5, .own 1 2 0 x1_r1.length), (6, .i x1_6), (7, .i v2.1), (20, .b false)], [.box 129 [.s x1_b0_0, .i x1_b0_1], eR47 x1_r1]⟩ h0 ?_
          exact Jj1 false H
  refine cutK [0, 1] ⟨42, [(4, .ptr 0 0 0 0), (5, .own 1 2 0 ([] : List api_Pair).length), (6, .i 0), (7, .i v2.1)], [.box 129 [.s v2.2.s, .i v2.2.e_], eR47 ([] : List api_Pair)]⟩ h0 ?_
  obtain ⟨n, H⟩ := loopC H
  exact (L n) 0 v2.2.s v2.2.e_ ([] : List api_Pair) H


theorem vint_Num.says (a0 : Int) {r : ByteArray} (H : vint_Num a0 = some r) : Says Try.prog 67 [] [.i a0] [] (.s r) := by
  refine says_of Try.func67 rfl (nt := 23) rfl (Nat.le_of_ble_eq_true rfl) fun X hP h0 hX => ?_
  have hT : TabOk X.P T := hP ▸ tok
  have hf : X.P.funcs[67]? = some Try.f67 := hP ▸ Try.func67
  refine goK hT 10 (K67 110 1) ⟨23, [(0, .i a0), (5, .b (decide (a0 < 0)))], []⟩ ?_
  by_cases c1 : a0 < 0
  · replace H := iT c1 H
    rw [decide_eq_true c1]
    refine goK hT 5 (K67 11010 1) ⟨23, [(2, .s (⟨#[]⟩ : ByteArray))], []⟩ ?_
    obtain rfl := retC H
    exact ak_ret hf hX (av := .s (⟨#[]⟩ : ByteArray)) (by kernel_rfl) [] (sel_of_eq (by kernel_rfl)) (by decide) (by rw [h0]; rfl) (by kernel_rfl) (fun _ h => all_nil h) (.d (.v _))
  · replace H := iF c1 H
    rw [decide_eq_false c1]
    refine goK hT 2 (K67 11 1) ⟨23, [(0, .i a0)], []⟩ ?_
    refine goK hT 7 (K67 111100 0) ⟨23, [(0, .i a0), (3, .ns)], []⟩ ?_
    refine ak_nilS [0, 3] 3 1 5 (vec (eI .u8) 0 []) (st' := ⟨23, [(0, .i a0), (3, .own 0 1 0 0)], [eR5 ([] : List Int)]⟩) (by kernel_rfl) (by kernel_rfl) ?_
    have L : ∀ n, (∀ (x1_0 : Int) (x1_r0 : List Int), iter (vint_Num.step) n (.l1 x1_0 x1_r0) = some r → AK X 67 ((K67 111100 0)) (Back X [] (.s r)) ⟨23, [(0, .i x1_0), (3, .own 0 1 0 x1_r0.length)], [eR5 x1_r0]⟩) := by
      intro n
      induction n with
      | zero => exact fun _ _ H => iter0 H
      | succ n ih =>
        · intro x1_0 x1_r0 H
          refine goK hT 6 (K67 11110000 1) ⟨23, [(0, .i x1_0), (3, .own 0 1 0 x1_r0.length), (7, .b (decide (x1_0 ≥ 128)))], [eR5 x1_r0]⟩ ?_
          by_cases c2 : x1_0 ≥ 128
          · replace H := sT c2 H
            rw [decide_eq_true c2]
            refine goK hT 2 (K67 1111000 1) ⟨23, [(0, .i x1_0), (3, .own 0 1 0 x1_r0.length)], [eR5 x1_r0]⟩ ?_
            refine goK hT 9 (K67 1111000100 6) ⟨23, [(0, .i x1_0), (8, .own 0 1 0 x1_r0.length), (13, .own 1 1 0 1)], [eR5 x1_r0, .flat false 1 5 1 (fun j => [[.n .u8 (bOr .u8 (IntKind.wrap .u8 (bAnd .i64 x1_0 127)) 128)]].getD j [])]⟩ ?_
            obtain ⟨h4, H⟩ := sC H
            refine ak_append1 (id := 0) (kk := 1) (by' := 1) (t := 103) (e := 5) (z := [.int .u8 0]) (dst := some 14) (id2 := 1) (e2 := 5) (fz := false) (k' := (K67 1111000100 7)) hT (eI .u8) 0 x1_r0 (bOr .u8 (IntKind.wrap .u8 (bAnd .i64 x1_0 127)) 128) [0, 14] (by kernel_rfl) (by kernel_rfl) (by kernel_rfl) (by kernel_rfl) (by kernel_rfl) (by kernel_rfl) (by kernel_rfl) h4 (by omega) (st' := ⟨23, [(0, .i x1_0), (14, .own 2 1 0 ((x1_r0 ++ [bOr .u8 (IntKind.wrap .u8 (bAnd .i64 x1_0 127)) 128]).length))], [.gone, .flat false 1 5 1 (fun j => [[.n .u8 (bOr .u8 (IntKind.wrap .u8 (bAnd .i64 x1_0 127)) 128)]].getD j []), eR5 (x1_r0 ++ [bOr .u8 (IntKind.wrap .u8 (bAnd .i64 x1_0 127)) 128])]⟩) (by kernel_rfl) ?_
            refine goK hT 9 (K67 111100 0) ⟨23, [(0, .i (Int.fdiv x1_0 128)), (3, .own 2 1 0 ((x1_r0 ++ [bOr .u8 (IntKind.wrap .u8 (bAnd .i64 x1_0 127)) 128]).length))], [.gone, .flat false 1 5 1 (fun j => [[.n .u8 (bOr .u8 (IntKind.wrap .u8 (bAnd .i64 x1_0 127)) 128)]].getD j []), eR5 (x1_r0 ++ [bOr .u8 (IntKind.wrap .u8 (bAnd .i64 x1_0 127)) 128])]⟩ ?_
            refine cutK [2] ⟨23, [(0, .i (Int.fdiv x1_0 128)), (3, .own 0 1 0 (x1_r0 ++ [bOr .u8 (IntKind.wrap .u8 (bAnd .i64 x1_0 127)) 128]).length)], [eR5 (x1_r0 ++ [bOr .u8 (IntKind.wrap .u8 (bAnd .i64 x1_0 127)) 128])]⟩ h0 ?_
            exact ih (Int.fdiv x1_0 128) (x1_r0 ++ [bOr .u8 (IntKind.wrap .u8 (bAnd .i64 x1_0 127)) 128]) H
          · replace H := sF c2 H
            rw [decide_eq_false c2]
            refine goK hT 8 (K67 111110 4) ⟨23, [(17, .own 0 1 0 x1_r0.length), (20, .own 1 1 0 1)], [eR5 x1_r0, .flat false 1 5 1 (fun j => [[.n .u8 (IntKind.wrap .u8 x1_0)]].getD j [])]⟩ ?_
            obtain ⟨h3, H⟩ := sC H
            refine ak_append1 (id := 0) (kk := 1) (by' := 1) (t := 103) (e := 5) (z := [.int .u8 0]) (dst := some 21) (id2 := 1) (e2 := 5) (fz := false) (k' := (K67 111110 5)) hT (eI .u8) 0 x1_r0 (IntKind.wrap .u8 x1_0) [21] (by kernel_rfl) (by kernel_rfl) (by kernel_rfl) (by kernel_rfl) (by kernel_rfl) (by kernel_rfl) (by kernel_rfl) h3 (by omega) (st' := ⟨23, [(21, .own 2 1 0 ((x1_r0 ++ [IntKind.wrap .u8 x1_0]).length))], [.gone, .flat false 1 5 1 (fun j => [[.n .u8 (IntKind.wrap .u8 x1_0)]].getD j []), eR5 (x1_r0 ++ [IntKind.wrap .u8 x1_0])]⟩) (by kernel_rfl) ?_
            refine ak_toStr (av := .own 2 1 0 ((x1_r0 ++ [IntKind.wrap .u8 x1_0]).length)) (dst := some 22) (k' := (K67 111110 6)) hT [22] (x1_r0 ++ [IntKind.wrap .u8 x1_0]) (by kernel_rfl) (.own (fz := false) (e := 5) (by kernel_rfl)) (st' := ⟨23, [(22, .s (strB (x1_r0 ++ [IntKind.wrap .u8 x1_0])))], [.gone, .flat false 1 5 1 (fun j => [[.n .u8 (IntKind.wrap .u8 x1_0)]].getD j []), eR5 (x1_r0 ++ [IntKind.wrap .u8 x1_0])]⟩) (by kernel_rfl) ?_
            refine goK hT 2 (K67 11111 1) ⟨23, [(2, .s (strB (x1_r0 ++ [IntKind.wrap .u8 x1_0])))], [.gone, .flat false 1 5 1 (fun j => [[.n .u8 (IntKind.wrap .u8 x1_0)]].getD j []), eR5 (x1_r0 ++ [IntKind.wrap .u8 x1_0])]⟩ ?_
            obtain rfl := retC H
            exact ak_ret hf hX (av := .s (strB (x1_r0 ++ [IntKind.wrap .u8 x1_0]))) (by kernel_rfl) [] (sel_of_eq (by kernel_rfl)) (by decide) (by rw [h0]; rfl) (by kernel_rfl) (fun _ h => all_nil h) (.d (.v _))
    refine cutK [0] ⟨23, [(0, .i a0), (3, .own 0 1 0 ([] : List Int).length)], [eR5 ([] : List Int)]⟩ h0 ?_
    obtain ⟨n, H⟩ := loopC H
    exact (L n) a0 ([] : List Int) H


theorem vint_may.says (a0 : Int) : Says Try.prog 96 [] [.i a0] [] (.b (vint_may a0)) := by
  obtain ⟨r, H⟩ : ∃ r, vint_may a0 = r := ⟨_, rfl⟩
  rw [H]
  refine says_of Try.func96 rfl (nt := 9) rfl (Nat.le_of_ble_eq_true rfl) fun X hP h0 hX => ?_
  have hT : TabOk X.P T := hP ▸ tok
  have hf : X.P.funcs[96]? = some Try.f96 := hP ▸ Try.func96
  have Jj1 : ∀ (y1_2 : Bool), (vint_may.j1 y1_2) = r → AK X 96 ((K96 11 1)) (Back X [] (.b r)) ⟨9, [(2, .b y1_2)], []⟩ := by
    intro y1_2 H
    obtain rfl := H
    exact ak_ret hf hX (av := .b y1_2) (by kernel_rfl) [] (sel_of_eq (by kernel_rfl)) (by decide) (by rw [h0]; rfl) (by kernel_rfl) (fun _ h => all_nil h) (.d (.v _))
  refine goK hT 9 (K96 110 3) ⟨9, [(0, .i a0), (5, .b (decide (a0 ≥ (-4611686018427387904))))], []⟩ ?_
  by_cases c1 : a0 ≥ (-4611686018427387904)
  · replace H := iT c1 H
    rw [decide_eq_true c1]
    refine goK hT 5 (K96 11 1) ⟨9, [(2, .b (decide (a0 ≤ 4611686018427387903)))], []⟩ ?_
    refine cutK [] ⟨9, [(2, .b (decide (a0 ≤ 4611686018427387903)))], []⟩ h0 ?_
    exact Jj1 (decide (a0 ≤ 4611686018427387903)) H
  · replace H := iF c1 H
    rw [decide_eq_false c1]
    refine goK hT 5 (K96 11 1) ⟨9, [(2, .b false)], []⟩ ?_
    refine cutK [] ⟨9, [(2, .b false)], []⟩ h0 ?_
    exact Jj1 false H


theorem vint_Whole.says (a0 : Int) {r : ByteArray} (H : vint_Whole a0 = some r) : Says Try.prog 68 [] [.i a0] [] (.s r) := by
  refine says_of Try.func68 rfl (nt := 17) rfl (Nat.le_of_ble_eq_true rfl) fun X hP h0 hX => ?_
  have hT : TabOk X.P T := hP ▸ tok
  have hf : X.P.funcs[68]? = some Try.f68 := hP ▸ Try.func68
  refine goK hT 9 (K68 11000 1) ⟨17, [(0, .i a0), (4, .i a0)], []⟩ ?_
  refine ak_callP (avs := [.i a0]) (dst := some 5) (k' := (K68 11000 2)) [0, 5] [] hP enters_96 (vint_may.says a0) (by kernel_rfl) (hands_none _) (.cons (pass_d _) .nil) (st' := ⟨17, [(0, .i a0), (5, .b (vint_may a0))], []⟩) (by kernel_rfl) ?_
  refine goK hT 3 (K68 1100 1) ⟨17, [(0, .i a0), (3, .b (!(vint_may a0)))], []⟩ ?_
  by_cases c1 : (vint_may a0) = true
  · replace H := iT c1 H
    rw [c1]
    refine goK hT 7 (K68 110011 1) ⟨17, [(0, .i a0), (7, .b (decide (a0 < 0)))], []⟩ ?_
    by_cases c2 : a0 < 0
    · replace H := iT c2 H
      rw [decide_eq_true c2]
      refine goK hT 6 (K68 110011100 3) ⟨17, [(12, .i (IntKind.wrap .i64 ((IntKind.wrap .i64 ((-2) * a0)) - 1)))], []⟩ ?_
      obtain ⟨v1, h3, H⟩ := ibC H
      refine ak_callP (avs := [.i (IntKind.wrap .i64 ((IntKind.wrap .i64 ((-2) * a0)) - 1))]) (dst := some 13) (k' := (K68 110011100 4)) [13] [] hP enters_67 (vint_Num.says (IntKind.wrap .i64 ((IntKind.wrap .i64 ((-2) * a0)) - 1)) h3) (by kernel_rfl) (hands_none _) (.cons (pass_d _) .nil) (st' := ⟨17, [(13, .s v1)], []⟩) (by kernel_rfl) ?_
      refine goK hT 2 (K68 11001110 1) ⟨17, [(2, .s v1)], []⟩ ?_
      obtain rfl := retC H
      exact ak_ret hf hX (av := .s v1) (by kernel_rfl) [] (sel_of_eq (by kernel_rfl)) (by decide) (by rw [h0]; rfl) (by kernel_rfl) (fun _ h => all_nil h) (.d (.v _))
    · replace H := iF c2 H
      rw [decide_eq_false c2]
      refine goK hT 3 (K68 11 1) ⟨17, [(0, .i a0)], []⟩ ?_
      refine goK hT 4 (K68 1110 2) ⟨17, [(15, .i (IntKind.wrap .i64 (2 * a0)))], []⟩ ?_
      obtain ⟨v2, h4, H⟩ := ibC H
      refine ak_callP (avs := [.i (IntKind.wrap .i64 (2 * a0))]) (dst := some 16) (k' := (K68 1110 3)) [16] [] hP enters_67 (vint_Num.says (IntKind.wrap .i64 (2 * a0)) h4) (by kernel_rfl) (hands_none _) (.cons (pass_d _) .nil) (st' := ⟨17, [(16, .s v2)], []⟩) (by kernel_rfl) ?_
      refine goK hT 2 (K68 111 1) ⟨17, [(2, .s v2)], []⟩ ?_
      obtain rfl := retC H
      exact ak_ret hf hX (av := .s v2) (by kernel_rfl) [] (sel_of_eq (by kernel_rfl)) (by decide) (by rw [h0]; rfl) (by kernel_rfl) (fun _ h => all_nil h) (.d (.v _))
  · replace H := iF c1 H
    rw [boF c1]
    refine goK hT 5 (K68 110010 1) ⟨17, [(2, .s (⟨#[]⟩ : ByteArray))], []⟩ ?_
    obtain rfl := retC H
    exact ak_ret hf hX (av := .s (⟨#[]⟩ : ByteArray)) (by kernel_rfl) [] (sel_of_eq (by kernel_rfl)) (by decide) (by rw [h0]; rfl) (by kernel_rfl) (fun _ h => all_nil h) (.d (.v _))


theorem table_Text.says {t0 : Bool} (a0 : List api_Pair) {r : ByteArray} (H : table_Text a0 = some r) : Says Try.prog 33 [] [.d (eL47 t0 a0)] [] (.s r) := by
  refine says_of Try.func33 rfl (nt := 29) rfl (Nat.le_of_ble_eq_true rfl) fun X hP h0 hX => ?_
  have hT : TabOk X.P T := hP ▸ tok
  have hf : X.P.funcs[33]? = some Try.f33 := hP ▸ Try.func33
  refine goK hT 8 (K33 1100 1) ⟨29, [(0, .d (eL47 t0 a0)), (6, .d (eL47 t0 a0))], []⟩ ?_
  obtain ⟨v1, h1, H⟩ := ibC H
  refine ak_callP (avs := [.d (eL47 t0 a0)]) (dst := some 7) (k' := (K33 1100 2)) [0, 7] [] hP enters_22 (table_Check.says (t0 := t0) a0 h1) (by kernel_rfl) (hands_none _) (.cons (pass_d _) .nil) (st' := ⟨29, [(0, .d (eL47 t0 a0)), (7, .b v1)], []⟩) (by kernel_rfl) ?_
  refine goK hT 2 (K33 110 1) ⟨29, [(0, .d (eL47 t0 a0)), (8, .b (!v1))], []⟩ ?_
  by_cases c2 : v1 = true
  · replace H := iT c2 H
    rw [c2]
    refine goK hT 2 (K33 11 1) ⟨29, [(0, .d (eL47 t0 a0))], []⟩ ?_
    refine goK hT 8 (K33 11110 2) ⟨29, [(0, .d (eL47 t0 a0)), (3, .ptr 0 0 0 0), (10, .i (a0.length : Int))], [.box 105 [.d .np, .ns]]⟩ ?_
    obtain ⟨v2, h3, H⟩ := ibC H
    refine ak_callP (avs := [.i (a0.length : Int)]) (dst := some 11) (k' := (K33 11110 3)) [0, 3, 11] [] hP enters_67 (vint_Num.says (a0.length : Int) h3) (by kernel_rfl) (hands_none _) (.cons (pass_d _) .nil) (st' := ⟨29, [(0, .d (eL47 t0 a0)), (3, .ptr 0 0 0 0), (11, .s v2)], [.box 105 [.d .np, .ns]]⟩) (by kernel_rfl) ?_
    refine ak_nilBox (tb := 105) (cs := [.d .np, .ns]) 0 1 1 5 (vec (eI .u8) 0 []) (st' := ⟨29, [(0, .d (eL47 t0 a0)), (3, .ptr 0 0 0 0), (11, .s v2)], [.box 105 [.d .np, .own 1 1 0 ((bytesL (⟨#[]⟩ : ByteArray)).length)], eR5 (bytesL (⟨#[]⟩ : ByteArray))]⟩) (by kernel_rfl) (by kernel_rfl) ?_
    obtain ⟨h4, H⟩ := iC H
    refine ak_callP (avs := [.ptr 0 0 0 0, .s v2]) (dst := some 12) (k' := (K33 11110 4)) [0, 3] [0, 1] hP enters_66 (bldWrite66 (.np) (.inl rfl) (⟨#[]⟩ : ByteArray) v2 h4) (by kernel_rfl) (hands_two rfl rfl rfl rfl (by decide)) (.cons (.same (.ptr 0 0 0 0)) (.cons (pass_d _) .nil)) (st' := ⟨29, [(0, .d (eL47 t0 a0)), (3, .ptr 0 0 0 0)], [.box 105 [.ptr 0 0 0 0, .own 2 1 0 ((bytesL ((⟨#[]⟩ : ByteArray) ++ v2)).length)], .gone, eR5 (bytesL ((⟨#[]⟩ : ByteArray) ++ v2))]⟩) (by kernel_rfl) ?_
    refine goK hT 10 (K33 11111010 0) ⟨29, [(3, .ptr 0 0 0 0), (13, .d (eL47 t0 a0)), (14, .i (a0.length : Int)), (15, .i 0)], [.box 105 [.ptr 0 0 0 0, .own 2 1 0 ((bytesL ((⟨#[]⟩ : ByteArray) ++ v2)).length)], .gone, eR5 (bytesL ((⟨#[]⟩ : ByteArray) ++ v2))]⟩ ?_
    have L : ∀ n, (∀ (x1_15 : Int) (x1_r1 : ByteArray), iter (table_Text.step a0) n (.l1 x1_15 x1_r1) = some r → AK X 33 ((K33 11111010 0)) (Back X [] (.s r)) ⟨29, [(3, .ptr 0 0 0 0), (13, .d (eL47 t0 a0)), (14, .i (a0.length : Int)), (15, .i x1_15)], [.box 105 [.ptr 0 0 0 0, .own 1 1 0 ((bytesL x1_r1).length)], eR5 (bytesL x1_r1)]⟩) := by
      intro n
      induction n with
      | zero => exact fun _ _ H => iter0 H
      | succ n ih =>
        · intro x1_15 x1_r1 H
          refine goK hT 5 (K33 1111101001 0) ⟨29, [(3, .ptr 0 0 0 0), (13, .d (eL47 t0 a0)), (14, .i (a0.length : Int)), (15, .i x1_15), (16, .b (decide (x1_15 < (a0.length : Int))))], [.box 105 [.ptr 0 0 0 0, .own 1 1 0 ((bytesL x1_r1).length)], eR5 (bytesL x1_r1)]⟩ ?_
          by_cases c5 : x1_15 < (a0.length : Int)
          · replace H := sT c5 H
            rw [decide_eq_true c5]
            refine goK hT 2 (K33 1111101001 1) ⟨29, [(3, .ptr 0 0 0 0), (13, .d (eL47 t0 a0)), (14, .i (a0.length : Int)), (15, .i x1_15)], [.box 105 [.ptr 0 0 0 0, .own 1 1 0 ((bytesL x1_r1).length)], eR5 (bytesL x1_r1)]⟩ ?_
            refine goK hT 4 (K33 11111010011000 0) ⟨29, [(3, .ptr 0 0 0 0), (13, .d (eL47 t0 a0)), (14, .i (a0.length : Int)), (15, .i x1_15)], [.box 105 [.ptr 0 0 0 0, .own 1 1 0 ((bytesL x1_r1).length)], eR5 (bytesL x1_r1)]⟩ ?_
            obtain ⟨h6, H⟩ := sC H
            refine ak_idx hT [3, 13, 14, 15, 17] (i := x1_15) (n := (a0.length : Int)) h6.1 h6.2 (k' := (K33 11111010011000 1)) (st' := ⟨29, [(3, .ptr 0 0 0 0), (13, .d (eL47 t0 a0)), (14, .i (a0.length : Int)), (15, .i x1_15), (17, .d (eP47 t0 a0 x1_15.toNat 0))], [.box 105 [.ptr 0 0 0 0, .own 1 1 0 ((bytesL x1_r1).length)], eR5 (bytesL x1_r1)]⟩) (by kernel_rfl) ?_
            refine goK hT 4 (K33 1111101001100 1) ⟨29, [(3, .ptr 0 0 0 0), (5, .ptr 2 0 0 0), (13, .d (eL47 t0 a0)), (14, .i (a0.length : Int)), (15, .i x1_15)], [.box 105 [.ptr 0 0 0 0, .own 1 1 0 ((bytesL x1_r1).length)], eR5 (bytesL x1_r1), .box 47 (eC47 (a0.getD x1_15.toNat api_Pair.z))]⟩ ?_
            obtain ⟨v3, h7, H⟩ := sbC H
            refine drawK (hP ▸ mixed) 5 [3, 5, 13, 14, 15] [some (.ptr 2 0 0 0), some (.i ((a0.getD x1_15.toNat api_Pair.z).Key)), some (.s v3), some (.ptr 2 0 0 1), some (.i ((a0.getD x1_15.toNat api_Pair.z).Val))] (opG (opG (opS (opG (opG op0 hT) hT) (fun R rest h => ak_callD (avs := [.i ((a0.getD x1_15.toNat api_Pair.z).Key)]) (dst := some 21) hP enters_67 (vint_Num.says ((a0.getD x1_15.toNat api_Pair.z).Key) h7) (by kernel_rfl) (.cons (pass_d _) .nil) (by kernel_rfl) h)) hT) hT) ?_
            refine goK hT 0 (K33 11111010011001 5) ⟨29, [(3, .ptr 0 0 0 0), (13, .d (eL47 t0 a0)), (14, .i (a0.length : Int)), (15, .i x1_15), (21, .s v3), (23, .i ((a0.getD x1_15.toNat api_Pair.z).Val))], [.box 105 [.ptr 0 0 0 0, .own 1 1 0 ((bytesL x1_r1).length)], eR5 (bytesL x1_r1), .box 47 (eC47 (a0.getD x1_15.toNat api_Pair.z))]⟩ ?_
            obtain ⟨v4, h8, H⟩ := sbC H
            refine ak_callP (avs := [.i ((a0.getD x1_15.toNat api_Pair.z).Val)]) (dst := some 24) (k' := (K33 11111010011001 6)) [3, 13, 14, 15, 21, 24] [] hP enters_68 (vint_Whole.says ((a0.getD x1_15.toNat api_Pair.z).Val) h8) (by kernel_rfl) (hands_none _) (.cons (pass_d _) .nil) (st' := ⟨29, [(3, .ptr 0 0 0 0), (13, .d (eL47 t0 a0)), (14, .i (a0.length : Int)), (15, .i x1_15), (21, .s v3), (24, .s v4)], [.box 105 [.ptr 0 0 0 0, .own 1 1 0 ((bytesL x1_r1).length)], eR5 (bytesL x1_r1), .box 47 (eC47 (a0.getD x1_15.toNat api_Pair.z))]⟩) (by kernel_rfl) ?_
            obtain ⟨h9, H⟩ := sC H
            refine ak_cat v3 v4 (some 25) [3, 13, 14, 15, 25] (k' := (K33 11111010011001 7)) (by kernel_rfl) h9 (st' := ⟨29, [(3, .ptr 0 0 0 0), (13, .d (eL47 t0 a0)), (14, .i (a0.length : Int)), (15, .i x1_15), (25, .s (v3 ++ v4))], [.box 105 [.ptr 0 0 0 0, .own 1 1 0 ((bytesL x1_r1).length)], eR5 (bytesL x1_r1), .box 47 (eC47 (a0.getD x1_15.toNat api_Pair.z))]⟩) (by kernel_rfl) ?_
            obtain ⟨h10, H⟩ := sC H
            refine ak_callP (avs := [.ptr 0 0 0 0, .s (v3 ++ v4)]) (dst := some 26) (k' := (K33 11111010011001 8)) [3, 13, 14, 15] [0, 1] hP enters_66 (bldWrite66 (.ptr 0 0 0 0) (.inr rfl) x1_r1 (v3 ++ v4) h10) (by kernel_rfl) (hands_two rfl rfl rfl rfl (by decide)) (.cons (.same (.ptr 0 0 0 0)) (.cons (pass_d _) .nil)) (st' := ⟨29, [(3, .ptr 0 0 0 0), (13, .d (eL47 t0 a0)), (14, .i (a0.length : Int)), (15, .i x1_15)], [.box 105 [.ptr 0 0 0 0, .own 3 1 0 ((bytesL (x1_r1 ++ (v3 ++ v4))).length)], .gone, .box 47 (eC47 (a0.getD x1_15.toNat api_Pair.z)), eR5 (bytesL (x1_r1 ++ (v3 ++ v4)))]⟩) (by kernel_rfl) ?_
            refine goK hT 7 (K33 11111010 0) ⟨29, [(3, .ptr 0 0 0 0), (13, .d (eL47 t0 a0)), (14, .i (a0.length : Int)), (15, .i (IntKind.wrap .i64 (x1_15 + 1)))], [.box 105 [.ptr 0 0 0 0, .own 3 1 0 ((bytesL (x1_r1 ++ (v3 ++ v4))).length)], .gone, .box 47 (eC47 (a0.getD x1_15.toNat api_Pair.z)), eR5 (bytesL (x1_r1 ++ (v3 ++ v4)))]⟩ ?_
            refine cutK [0, 3] ⟨29, [(3, .ptr 0 0 0 0), (13, .d (eL47 t0 a0)), (14, .i (a0.length : Int)), (15, .i (IntKind.wrap .i64 (x1_15 + 1)))], [.box 105 [.ptr 0 0 0 0, .own 1 1 0 ((bytesL (x1_r1 ++ (v3 ++ v4))).length)], eR5 (bytesL (x1_r1 ++ (v3 ++ v4)))]⟩ h0 ?_
            exact ih (IntKind.wrap .i64 (x1_15 + 1)) (x1_r1 ++ (v3 ++ v4)) H
          · replace H := sF c5 H
            rw [decide_eq_false c5]
            refine goK hT 4 (K33 1111110 0) ⟨29, [(3, .ptr 0 0 0 0)], [.box 105 [.ptr 0 0 0 0, .own 1 1 0 ((bytesL x1_r1).length)], eR5 (bytesL x1_r1)]⟩ ?_
            refine ak_bldStr (dst := some 28) (k' := (K33 1111110 1)) (st' := ⟨29, [(28, .s x1_r1)], [.gone, .gone]⟩) x1_r1 0 1 (.ptr 0 0 0 0) hP bldStr69 enters_69 h0 (by kernel_rfl) (by kernel_rfl) (by kernel_rfl) (by kernel_rfl) ?_
            refine goK hT 2 (K33 111111 1) ⟨29, [(2, .s x1_r1)], [.gone, .gone]⟩ ?_
            obtain rfl := retC H
            exact ak_ret hf hX (av := .s x1_r1) (by kernel_rfl) [] (sel_of_eq (by kernel_rfl)) (by decide) (by rw [h0]; rfl) (by kernel_rfl) (fun _ h => all_nil h) (.d (.v _))
    refine cutK [0, 2] ⟨29, [(3, .ptr 0 0 0 0), (13, .d (eL47 t0 a0)), (14, .i (a0.length : Int)), (15, .i 0)], [.box 105 [.ptr 0 0 0 0, .own 1 1 0 ((bytesL ((⟨#[]⟩ : ByteArray) ++ v2)).length)], eR5 (bytesL ((⟨#[]⟩ : ByteArray) ++ v2))]⟩ h0 ?_
    obtain ⟨n, H⟩ := loopC H
    exact (L n) 0 ((⟨#[]⟩ : ByteArray) ++ v2) H
  · replace H := iF c2 H
    rw [boF c2]
    refine goK hT 5 (K33 11010 1) ⟨29, [(2, .s (⟨#[]⟩ : ByteArray))], []⟩ ?_
    obtain rfl := retC H
    exact ak_ret hf hX (av := .s (⟨#[]⟩ : ByteArray)) (by kernel_rfl) [] (sel_of_eq (by kernel_rfl)) (by decide) (by rw [h0]; rfl) (by kernel_rfl) (fun _ h => all_nil h) (.d (.v _))


theorem splicelaw05_Refs.says {t0 : Bool} (a0 : List api_Pair) {r : List spliceref04_Pair} (H : splicelaw05_Refs a0 = some r) : Says Try.prog 18 [] [.d (eL47 t0 a0)] [eR90 r] (.own 0 2 0 r.length) := by
  refine says_of Try.func18 rfl (nt := 19) rfl (Nat.le_of_ble_eq_true rfl) fun X hP h0 hX => ?_
  have hT : TabOk X.P T := hP ▸ tok
  have hf : X.P.funcs[18]? = some Try.f18 := hP ▸ Try.func18
  refine goK hT 15 (K18 111010 0) ⟨19, [(0, .d (eL47 t0 a0)), (3, .ns), (4, .i 0)], []⟩ ?_
  refine ak_nilS [0, 3, 4] 3 2 90 (vec spliceref04_Pair.e spliceref04_Pair.z []) (st' := ⟨19, [(0, .d (eL47 t0 a0)), (3, .own 0 2 0 0), (4, .i 0)], [eR90 ([] : List spliceref04_Pair)]⟩) (by kernel_rfl) (by kernel_rfl) ?_
  have L : ∀ n, (∀ (x1_4 : Int) (x1_r0 : List spliceref04_Pair), iter (splicelaw05_Refs.step a0) n (.l1 x1_4 x1_r0) = some r → AK X 18 ((K18 111010 0)) (Back X [eR90 r] (.own 0 2 0 r.length)) ⟨19, [(0, .d (eL47 t0 a0)), (3, .own 0 2 0 x1_r0.length), (4, .i x1_4)], [eR90 x1_r0]⟩) := by
    intro n
    induction n with
    | zero => exact fun _ _ H => iter0 H
    | succ n ih =>
      · intro x1_4 x1_r0 H
        refine goK hT 8 (K18 11101000 1) ⟨19, [(0, .d (eL47 t0 a0)), (3, .own 0 2 0 x1_r0.length), (4, .i x1_4), (8, .b (decide (x1_4 < (a0.length : Int))))], [eR90 x1_r0]⟩ ?_
        by_cases c1 : x1_4 < (a0.length : Int)
        · replace H := sT c1 H
          rw [decide_eq_true c1]
          refine goK hT 2 (K18 1110100 1) ⟨19, [(0, .d (eL47 t0 a0)), (3, .own 0 2 0 x1_r0.length), (4, .i x1_4)], [eR90 x1_r0]⟩ ?_
          refine goK hT 6 (K18 1110100100 3) ⟨19, [(0, .d (eL47 t0 a0)), (4, .i x1_4), (11, .own 0 2 0 x1_r0.length), (12, .d (eL47 t0 a0)), (13, .i x1_4)], [eR90 x1_r0]⟩ ?_
          obtain ⟨h2, H⟩ := sC H
          refine ak_idx hT [0, 4, 11, 14] (i := x1_4) (n := (a0.length : Int)) h2.1 h2.2 (k' := (K18 1110100100 4)) (st' := ⟨19, [(0, .d (eL47 t0 a0)), (4, .i x1_4), (11, .own 0 2 0 x1_r0.length), (14, .d (eP47 t0 a0 x1_4.toNat 0))], [eR90 x1_r0]⟩) (by kernel_rfl) ?_
          refine goK hT 2 (K18 1110100100 6) ⟨19, [(0, .d (eL47 t0 a0)), (4, .i x1_4), (11, .own 0 2 0 x1_r0.length), (16, .own 1 2 0 1)], [eR90 x1_r0, .flat false 2 90 1 (fun j => [api_Pair.e (a0.getD x1_4.toNat api_Pair.z)].getD j [])]⟩ ?_
          obtain ⟨h3, H⟩ := sC H
          refine ak_append1 (id := 0) (kk := 2) (by' := 16) (t := 32) (e := 90) (z := [.int .i64 0, .int .i64 0]) (dst := some 17) (id2 := 1) (e2 := 90) (fz := false) (k' := (K18 1110100100 7)) hT spliceref04_Pair.e spliceref04_Pair.z x1_r0 (⟨(a0.getD x1_4.toNat api_Pair.z).Key, (a0.getD x1_4.toNat api_Pair.z).Val⟩ : spliceref04_Pair) [0, 4, 17] (by kernel_rfl) (by kernel_rfl) (by kernel_rfl) (by kernel_rfl) (by kernel_rfl) (by kernel_rfl) (by kernel_rfl) h3 (by omega) (st' := ⟨19, [(0, .d (eL47 t0 a0)), (4, .i x1_4), (17, .own 2 2 0 ((x1_r0 ++ [(⟨(a0.getD x1_4.toNat api_Pair.z).Key, (a0.getD x1_4.toNat api_Pair.z).Val⟩ : spliceref04_Pair)]).length))], [.gone, .flat false 2 90 1 (fun j => [api_Pair.e (a0.getD x1_4.toNat api_Pair.z)].getD j []), eR90 (x1_r0 ++ [(⟨(a0.getD x1_4.toNat api_Pair.z).Key, (a0.getD x1_4.toNat api_Pair.z).Val⟩ : spliceref04_Pair)])]⟩) (by kernel_rfl) ?_
          refine goK hT 9 (K18 111010 0) ⟨19, [(0, .d (eL47 t0 a0)), (3, .own 2 2 0 ((x1_r0 ++ [(⟨(a0.getD x1_4.toNat api_Pair.z).Key, (a0.getD x1_4.toNat api_Pair.z).Val⟩ : spliceref04_Pair)]).length)), (4, .i (IntKind.wrap .i64 (x1_4 + 1)))], [.gone, .flat false 2 90 1 (fun j => [api_Pair.e (a0.getD x1_4.toNat api_Pair.z)].getD j []), eR90 (x1_r0 ++ [(⟨(a0.getD x1_4.toNat api_Pair.z).Key, (a0.getD x1_4.toNat api_Pair.z).Val⟩ : spliceref04_Pair)])]⟩ ?_
          refine cutK [2] ⟨19, [(0, .d (eL47 t0 a0)), (3, .own 0 2 0 (x1_r0 ++ [(⟨(a0.getD x1_4.toNat api_Pair.z).Key, (a0.getD x1_4.toNat api_Pair.z).Val⟩ : spliceref04_Pair)]).length), (4, .i (IntKind.wrap .i64 (x1_4 + 1)))], [eR90 (x1_r0 ++ [(⟨(a0.getD x1_4.toNat api_Pair.z).Key, (a0.getD x1_4.toNat api_Pair.z).Val⟩ : spliceref04_Pair)])]⟩ h0 ?_
          exact ih (IntKind.wrap .i64 (x1_4 + 1)) (x1_r0 ++ [(⟨(a0.getD x1_4.toNat api_Pair.z).Key, (a0.getD x1_4.toNat api_Pair.z).Val⟩ : spliceref04_Pair)]) H
        · replace H := sF c1 H
          rw [decide_eq_false c1]
          refine goK hT 7 (K18 1111 1) ⟨19, [(2, .own 0 2 0 x1_r0.length)], [eR90 x1_r0]⟩ ?_
          obtain rfl := retC H
          exact ak_ret hf hX (av := .own 0 2 0 x1_r0.length) (by kernel_rfl) [0] (sel_of_eq (by kernel_rfl)) (by decide) (by rw [h0]; rfl) (by kernel_rfl) (fun _ h => all_cons (nr_vec spliceref04_Pair.nl) (fun _ h => all_nil h) h) (.own _ _ _ _)
  refine cutK [0] ⟨19, [(0, .d (eL47 t0 a0)), (3, .own 0 2 0 ([] : List spliceref04_Pair).length), (4, .i 0)], [eR90 ([] : List spliceref04_Pair)]⟩ h0 ?_
  obtain ⟨n, H⟩ := loopC H
  exact (L n) 0 ([] : List spliceref04_Pair) H


theorem spliceref05_Same.says {t0 : Bool} {t1 : Bool} (a0 : List spliceref04_Pair) (a1 : List spliceref04_Pair) {r : Bool} (H : spliceref05_Same a0 a1 = some r) : Says Try.prog 21 [] [.d (eL90 t0 a0), .d (eL90 t1 a1)] [] (.b r) := by
  refine says_of Try.func21 rfl (nt := 26) rfl (Nat.le_of_ble_eq_true rfl) fun X hP h0 hX => ?_
  have hT : TabOk X.P T := hP ▸ tok
  have hf : X.P.funcs[21]? = some Try.f21 := hP ▸ Try.func21
  refine goK hT 13 (K21 110 1) ⟨26, [(0, .d (eL90 t0 a0)), (1, .d (eL90 t1 a1)), (10, .b ((a0.length : Int) != (a1.length : Int)))], []⟩ ?_
  by_cases c1 : (a0.length : Int) = (a1.length : Int)
  · replace H := iT c1 H
    rw [neF c1]
    refine goK hT 2 (K21 11 1) ⟨26, [(0, .d (eL90 t0 a0)), (1, .d (eL90 t1 a1))], []⟩ ?_
    refine goK hT 7 (K21 111010 0) ⟨26, [(0, .d (eL90 t0 a0)), (1, .d (eL90 t1 a1)), (5, .i 0)], []⟩ ?_
    have L : ∀ n, (∀ (x1_5 : Int), iter (spliceref05_Same.step a0 a1) n (.l1 x1_5) = some r → AK X 21 ((K21 111010 0)) (Back X [] (.b r)) ⟨26, [(0, .d (eL90 t0 a0)), (1, .d (eL90 t1 a1)), (5, .i x1_5)], []⟩) := by
      intro n
      induction n with
      | zero => exact fun _ H => iter0 H
      | succ n ih =>
        · intro x1_5 H
          refine goK hT 8 (K21 11101000 1) ⟨26, [(0, .d (eL90 t0 a0)), (1, .d (eL90 t1 a1)), (5, .i x1_5), (14, .b (decide (x1_5 < (a0.length : Int))))], []⟩ ?_
          by_cases c2 : x1_5 < (a0.length : Int)
          · replace H := sT c2 H
            rw [decide_eq_true c2]
            refine goK hT 2 (K21 1110100 1) ⟨26, [(0, .d (eL90 t0 a0)), (1, .d (eL90 t1 a1)), (5, .i x1_5)], []⟩ ?_
            refine goK hT 3 (K21 1110100100 0) ⟨26, [(0, .d (eL90 t0 a0)), (1, .d (eL90 t1 a1)), (5, .i x1_5)], []⟩ ?_
            obtain ⟨h3, H⟩ := sC H
            obtain ⟨h4, H⟩ := sC H
            refine drawK (hP ▸ mixed) 9 [0, 1, 5] [some (.d (eL90 t0 a0)), some (.i x1_5), some (.d (eP90 t0 a0 x1_5.toNat 0)), some (.d (eG90 (a0.getD x1_5.toNat spliceref04_Pair.z))), some (.d (eL90 t1 a1)), some (.i x1_5), some (.d (eP90 t1 a1 x1_5.toNat 0)), some (.d (eG90 (a1.getD x1_5.toNat spliceref04_Pair.z))), some (.b (!((((a0.getD x1_5.toNat spliceref04_Pair.z).Key) == ((a1.getD x1_5.toNat spliceref04_Pair.z).Key)) && (((a0.getD x1_5.toNat spliceref04_Pair.z).Val) == ((a1.getD x1_5.toNat spliceref04_Pair.z).Val)))))] (opG (opG (opS (opG (opG (opG (opS (opG (opG op0 hT) hT) (fun R rest h => ak_idx0 hT (i := x1_5) (n := (a0.length : Int)) h3.1 h3.2 (by kernel_rfl) h)) hT) hT) hT) (fun R rest h => ak_idx0 hT (i := x1_5) (n := (a1.length : Int)) h4.1 h4.2 (by kernel_rfl) h)) hT) hT) ?_
            refine goK hT 1 (K21 1110100100 1) ⟨26, [(0, .d (eL90 t0 a0)), (1, .d (eL90 t1 a1)), (5, .i x1_5), (25, .b (!((((a0.getD x1_5.toNat spliceref04_Pair.z).Key) == ((a1.getD x1_5.toNat spliceref04_Pair.z).Key)) && (((a0.getD x1_5.toNat spliceref04_Pair.z).Val) == ((a1.getD x1_5.toNat spliceref04_Pair.z).Val)))))], []⟩ ?_
            by_cases c5 : ((a0.getD x1_5.toNat spliceref04_Pair.z).Key) = ((a1.getD x1_5.toNat spliceref04_Pair.z).Key)
            · replace H := sT c5 H
              rw [eqT c5]
              by_cases c6 : ((a0.getD x1_5.toNat spliceref04_Pair.z).Val) = ((a1.getD x1_5.toNat spliceref04_Pair.z).Val)
              · replace H := sT c6 H
                rw [eqT c6]
                refine goK hT 3 (K21 11101001 1) ⟨26, [(0, .d (eL90 t0 a0)), (1, .d (eL90 t1 a1)), (5, .i x1_5)], []⟩ ?_
                refine goK hT 6 (K21 111010 0) ⟨26, [(0, .d (eL90 t0 a0)), (1, .d (eL90 t1 a1)), (5, .i (IntKind.wrap .i64 (x1_5 + 1)))], []⟩ ?_
                refine cutK [] ⟨26, [(0, .d (eL90 t0 a0)), (1, .d (eL90 t1 a1)), (5, .i (IntKind.wrap .i64 (x1_5 + 1)))], []⟩ h0 ?_
                exact ih (IntKind.wrap .i64 (x1_5 + 1)) H
              · replace H := sF c6 H
                rw [eqF c6]
                refine goK hT 5 (K21 111010010010 1) ⟨26, [(4, .b false)], []⟩ ?_
                obtain rfl := retC H
                exact ak_ret hf hX (av := .b false) (by kernel_rfl) [] (sel_of_eq (by kernel_rfl)) (by decide) (by rw [h0]; rfl) (by kernel_rfl) (fun _ h => all_nil h) (.d (.v _))
            · replace H := sF c5 H
              rw [eqF c5]
              by_cases c7 : ((a0.getD x1_5.toNat spliceref04_Pair.z).Val) = ((a1.getD x1_5.toNat spliceref04_Pair.z).Val)
              · replace H := sT c7 H
                rw [eqT c7]
                refine goK hT 5 (K21 111010010010 1) ⟨26, [(4, .b false)], []⟩ ?_
                obtain rfl := retC H
                exact ak_ret hf hX (av := .b false) (by kernel_rfl) [] (sel_of_eq (by kernel_rfl)) (by decide) (by rw [h0]; rfl) (by kernel_rfl) (fun _ h => all_nil h) (.d (.v _))
              · replace H := sF c7 H
                rw [eqF c7]
                refine goK hT 5 (K21 111010010010 1) ⟨26, [(4, .b false)], []⟩ ?_
                obtain rfl := retC H
                exact ak_ret hf hX (av := .b false) (by kernel_rfl) [] (sel_of_eq (by kernel_rfl)) (by decide) (by rw [h0]; rfl) (by kernel_rfl) (fun _ h => all_nil h) (.d (.v _))
          · replace H := sF c2 H
            rw [decide_eq_false c2]
            refine goK hT 6 (K21 1111 1) ⟨26, [(4, .b true)], []⟩ ?_
            obtain rfl := retC H
            exact ak_ret hf hX (av := .b true) (by kernel_rfl) [] (sel_of_eq (by kernel_rfl)) (by decide) (by rw [h0]; rfl) (by kernel_rfl) (fun _ h => all_nil h) (.d (.v _))
    refine cutK [] ⟨26, [(0, .d (eL90 t0 a0)), (1, .d (eL90 t1 a1)), (5, .i 0)], []⟩ h0 ?_
    obtain ⟨n, H⟩ := loopC H
    exact (L n) 0 H
  · replace H := iF c1 H
    rw [neT c1]
    refine goK hT 5 (K21 11010 1) ⟨26, [(4, .b false)], []⟩ ?_
    obtain rfl := retC H
    exact ak_ret hf hX (av := .b false) (by kernel_rfl) [] (sel_of_eq (by kernel_rfl)) (by decide) (by rw [h0]; rfl) (by kernel_rfl) (fun _ h => all_nil h) (.d (.v _))


theorem splicelaw05_TableBack.says {t0 : Bool} (a0 : List api_Pair) (a1 : ByteArray) {r : Bool} (H : splicelaw05_TableBack a0 a1 = some r) : Says Try.prog 9 [] [.d (eL47 t0 a0), .s a1] [] (.b r) := by
  refine says_of Try.func9 rfl (nt := 62) rfl (Nat.le_of_ble_eq_true rfl) fun X hP h0 hX => ?_
  have hT : TabOk X.P T := hP ▸ tok
  have hf : X.P.funcs[9]? = some Try.f9 := hP ▸ Try.func9
  refine goK hT 9 (K9 1100 2) ⟨62, [(0, .d (eL47 t0 a0)), (1, .s a1), (9, .d (eL47 t0 a0)), (10, .d (.agg [.i 0, .i 0, .i 0, .ns, .i 0, .i 0, .i 0]))], []⟩ ?_
  refine ak_callP (avs := [.d (eL47 t0 a0), .d (.agg [.i 0, .i 0, .i 0, .ns, .i 0, .i 0, .i 0]), .ns]) (dst := some 11) (k' := (K9 1100 3)) [0, 1, 11] [] hP enters_14 (splicelaw05_few.says (t0 := t0) (t2 := true) a0 (⟨0, 0, 0, [], (⟨0, 0⟩ : api_Span), 0⟩ : api_Mut) ([] : List api_Span)) (by kernel_rfl) (hands_none _) (.cons (pass_d _) (.cons (.aggd (.cons (pass_d _) (.cons (pass_d _) (.cons (pass_d _) (.cons (.nil _ _) (.cons (pass_d _) (.cons (pass_d _) (.cons (pass_d _) .nil)))))))) (.cons (.nil _ _) .nil))) (st' := ⟨62, [(0, .d (eL47 t0 a0)), (1, .s a1), (11, .b (splicelaw05_few a0 (⟨0, 0, 0, [], (⟨0, 0⟩ : api_Span), 0⟩ : api_Mut) ([] : List api_Span)))], []⟩) (by kernel_rfl) ?_
  obtain ⟨v1, h1, H⟩ := idC H
  have Jj1 : ∀ (y1_17 : Bool), (splicelaw05_TableBack.j1 a0 a1 y1_17) = some r → AK X 9 ((K9 110 1)) (Back X [] (.b r)) ⟨62, [(0, .d (eL47 t0 a0)), (1, .s a1), (17, .b y1_17)], []⟩ := by
    intro y1_17 H
    by_cases c3 : y1_17 = true
    · replace H := iT c3 H
      rw [c3]
      refine goK hT 3 (K9 110100 0) ⟨62, [], []⟩ ?_
      obtain ⟨v2, h4, H⟩ := ibC H
      refine ak_callP (avs := []) (dst := some 18) (k' := (K9 110100 1)) [18] [] hP enters_15 (splicelaw05_awake.says h4) (by kernel_rfl) (hands_none _) .nil (st' := ⟨62, [(18, .b v2)], []⟩) (by kernel_rfl) ?_
      refine goK hT 2 (K9 11010 1) ⟨62, [(4, .b v2)], []⟩ ?_
      obtain rfl := retC H
      exact ak_ret hf hX (av := .b v2) (by kernel_rfl) [] (sel_of_eq (by kernel_rfl)) (by decide) (by rw [h0]; rfl) (by kernel_rfl) (fun _ h => all_nil h) (.d (.v _))
    · replace H := iF c3 H
      rw [boF c3]
      refine goK hT 2 (K9 11 1) ⟨62, [(0, .d (eL47 t0 a0)), (1, .s a1)], []⟩ ?_
      refine goK hT 4 (K9 11100 1) ⟨62, [(0, .d (eL47 t0 a0)), (1, .s a1), (19, .d (eL47 t0 a0))], []⟩ ?_
      obtain ⟨v3, h5, H⟩ := ibC H
      have Jj3 : (splicelaw05_TableBack.j3 a1) = some r → AK X 9 ((K9 111 1)) (Back X [] (.b r)) ⟨62, [(1, .s a1)], []⟩ := by
        intro H
        refine goK hT 3 (K9 11110 1) ⟨62, [(1, .s a1), (38, .s a1)], []⟩ ?_
        obtain ⟨v9, h14, H⟩ := ibC H
        refine ak_callP (avs := [.s a1]) (dst := some 39) (k' := (K9 11110 2)) [1, 39] [] hP enters_31 (table_Read.says a1 h14) (by kernel_rfl) (hands_none _) (.cons (pass_d _) .nil) (st' := ⟨62, [(1, .s a1), (39, .tup [.own 0 2 0 v9.1.length, .i v9.2])], [eR47 v9.1]⟩) (by kernel_rfl) ?_
        refine goK hT 8 (K9 111110 0) ⟨62, [(1, .s a1), (7, .own 0 2 0 v9.1.length), (8, .i v9.2)], [eR47 v9.1]⟩ ?_
        obtain ⟨v10, h15, H⟩ := ibC H
        have Jj4 : ∀ (y4_4 : Bool), (splicelaw05_TableBack.j4 y4_4) = some r → AK X 9 ((K9 11111 1)) (Back X [] (.b r)) ⟨62, [(4, .b y4_4)], []⟩ := by
          intro y4_4 H
          obtain rfl := retC H
          exact ak_ret hf hX (av := .b y4_4) (by kernel_rfl) [] (sel_of_eq (by kernel_rfl)) (by decide) (by rw [h0]; rfl) (by kernel_rfl) (fun _ h => all_nil h) (.d (.v _))
        refine ak_callP (avs := []) (dst := some 42) (k' := (K9 111110 1)) [1, 7, 8, 42] [] hP enters_15 (splicelaw05_awake.says h15) (by kernel_rfl) (hands_none _) .nil (st' := ⟨62, [(1, .s a1), (7, .own 0 2 0 v9.1.length), (8, .i v9.2), (42, .b v10)], [eR47 v9.1]⟩) (by kernel_rfl) ?_
        refine goK hT 1 (K9 111110 2) ⟨62, [(1, .s a1), (7, .own 0 2 0 v9.1.length), (8, .i v9.2), (43, .b v10)], [eR47 v9.1]⟩ ?_
        by_cases c16 : v10 = true
        · replace H := iT c16 H
          rw [c16]
          refine goK hT 3 (K9 111110 5) ⟨62, [(1, .s a1), (7, .own 0 2 0 v9.1.length), (8, .i v9.2), (43, .b true), (46, .b (v9.2 != 0))], [eR47 v9.1]⟩ ?_
          by_cases c17 : v9.2 = 0
          · replace H := iT c17 H
            rw [neF c17]
            refine goK hT 8 (K9 111110 13) ⟨62, [(1, .s a1), (7, .own 0 2 0 v9.1.length), (43, .b true), (51, .b false), (54, .b (v9.2 == 0))], [eR47 v9.1]⟩ ?_
            rw [eqT c17]
            refine goK hT 1 (K9 111110 14) ⟨62, [(1, .s a1), (43, .b true), (51, .b false), (54, .b true), (55, .own 0 2 0 v9.1.length)], [eR47 v9.1]⟩ ?_
            obtain ⟨v11, h18, H⟩ := ibC H
            refine ak_callP (avs := [.own 0 2 0 v9.1.length]) (dst := some 56) (k' := (K9 111110 15)) [1, 43, 51, 54, 56] [] hP enters_33 (table_Text.says (t0 := false) v9.1 h18) (by kernel_rfl) (hands_none _) (.cons (.lend (ty := 47) (by kernel_rfl) rfl) .nil) (st' := ⟨62, [(1, .s a1), (43, .b true), (51, .b false), (54, .b true), (56, .s v11)], [eR47 v9.1]⟩) (by kernel_rfl) ?_
            refine goK hT 7 (K9 11111 1) ⟨62, [(4, .b (v11.toList == a1.toList))], [eR47 v9.1]⟩ ?_
            refine cutK [] ⟨62, [(4, .b (v11.toList == a1.toList))], []⟩ h0 ?_
            exact Jj4 (v11.toList == a1.toList) H
          · replace H := iF c17 H
            rw [neT c17]
            refine goK hT 5 (K9 111110 10) ⟨62, [(1, .s a1), (7, .own 0 2 0 v9.1.length), (8, .i v9.2), (43, .b true), (51, .b ((v9.1.length : Int) == 0))], [eR47 v9.1]⟩ ?_
            by_cases c19 : (v9.1.length : Int) = 0
            · replace H := iT c19 H
              rw [eqT c19]
              refine goK hT 12 (K9 11111 1) ⟨62, [(4, .b true)], [eR47 v9.1]⟩ ?_
              refine cutK [] ⟨62, [(4, .b true)], []⟩ h0 ?_
              exact Jj4 true H
            · replace H := iF c19 H
              rw [eqF c19]
              refine goK hT 3 (K9 111110 13) ⟨62, [(1, .s a1), (7, .own 0 2 0 v9.1.length), (43, .b true), (51, .b false), (54, .b (v9.2 == 0))], [eR47 v9.1]⟩ ?_
              rw [eqF c17]
              refine goK hT 9 (K9 11111 1) ⟨62, [(4, .b false)], [eR47 v9.1]⟩ ?_
              refine cutK [] ⟨62, [(4, .b false)], []⟩ h0 ?_
              exact Jj4 false H
        · replace H := iF c16 H
          rw [boF c16]
          refine goK hT 20 (K9 11111 1) ⟨62, [(4, .b false)], [eR47 v9.1]⟩ ?_
          refine cutK [] ⟨62, [(4, .b false)], []⟩ h0 ?_
          exact Jj4 false H
      refine ak_callP (avs := [.d (eL47 t0 a0)]) (dst := some 20) (k' := (K9 11100 2)) [0, 1, 20] [] hP enters_22 (table_Check.says (t0 := t0) a0 h5) (by kernel_rfl) (hands_none _) (.cons (pass_d _) .nil) (st' := ⟨62, [(0, .d (eL47 t0 a0)), (1, .s a1), (20, .b v3)], []⟩) (by kernel_rfl) ?_
      refine goK hT 1 (K9 1110 1) ⟨62, [(0, .d (eL47 t0 a0)), (1, .s a1), (20, .b v3)], []⟩ ?_
      by_cases c6 : v3 = true
      · replace H := iT c6 H
        rw [c6]
        refine goK hT 4 (K9 1110100 1) ⟨62, [(0, .d (eL47 t0 a0)), (1, .s a1), (22, .d (eL47 t0 a0))], []⟩ ?_
        obtain ⟨v4, h7, H⟩ := ibC H
        refine ak_callP (avs := [.d (eL47 t0 a0)]) (dst := some 23) (k' := (K9 1110100 2)) [0, 1, 23] [] hP enters_33 (table_Text.says (t0 := t0) a0 h7) (by kernel_rfl) (hands_none _) (.cons (pass_d _) .nil) (st' := ⟨62, [(0, .d (eL47 t0 a0)), (1, .s a1), (23, .s v4)], []⟩) (by kernel_rfl) ?_
        obtain ⟨v5, h8, H⟩ := ibC H
        have Jj2 : ∀ (y2_36 : Bool), (splicelaw05_TableBack.j2 a1 y2_36) = some r → AK X 9 ((K9 1110101 1)) (Back X [] (.b r)) ⟨62, [(1, .s a1), (36, .b y2_36)], []⟩ := by
          intro y2_36 H
          by_cases c13 : y2_36 = true
          · replace H := iT c13 H
            rw [c13]
            refine goK hT 5 (K9 111010110 1) ⟨62, [(4, .b false)], []⟩ ?_
            obtain rfl := retC H
            exact ak_ret hf hX (av := .b false) (by kernel_rfl) [] (sel_of_eq (by kernel_rfl)) (by decide) (by rw [h0]; rfl) (by kernel_rfl) (fun _ h => all_nil h) (.d (.v _))
          · replace H := iF c13 H
            rw [boF c13]
            refine goK hT 2 (K9 111 1) ⟨62, [(1, .s a1)], []⟩ ?_
            refine cutK [] ⟨62, [(1, .s a1)], []⟩ h0 ?_
            exact Jj3 H
        refine ak_callP (avs := [.s v4]) (dst := some 24) (k' := (K9 1110100 3)) [0, 1, 24] [] hP enters_31 (table_Read.says v4 h8) (by kernel_rfl) (hands_none _) (.cons (pass_d _) .nil) (st' := ⟨62, [(0, .d (eL47 t0 a0)), (1, .s a1), (24, .tup [.own 0 2 0 v5.1.length, .i v5.2])], [eR47 v5.1]⟩) (by kernel_rfl) ?_
        refine goK hT 11 (K9 11101010 3) ⟨62, [(0, .d (eL47 t0 a0)), (1, .s a1), (5, .own 0 2 0 v5.1.length), (29, .b (v5.2 != 0))], [eR47 v5.1]⟩ ?_
        by_cases c9 : v5.2 = 0
        · replace H := iT c9 H
          rw [neF c9]
          refine goK hT 1 (K9 11101010 4) ⟨62, [(0, .d (eL47 t0 a0)), (1, .s a1), (29, .b false), (30, .own 0 2 0 v5.1.length)], [eR47 v5.1]⟩ ?_
          obtain ⟨v6, h10, H⟩ := ibC H
          refine ak_callP (avs := [.own 0 2 0 v5.1.length]) (dst := some 31) (k' := (K9 11101010 5)) [0, 1, 29, 31] [] hP enters_18 (splicelaw05_Refs.says (t0 := false) v5.1 h10) (by kernel_rfl) (hands_none _) (.cons (.lend (ty := 47) (by kernel_rfl) rfl) .nil) (st' := ⟨62, [(0, .d (eL47 t0 a0)), (1, .s a1), (29, .b false), (31, .own 1 2 0 v6.length)], [eR47 v5.1, eR90 v6]⟩) (by kernel_rfl) ?_
          refine goK hT 1 (K9 11101010 6) ⟨62, [(1, .s a1), (29, .b false), (31, .own 1 2 0 v6.length), (32, .d (eL47 t0 a0))], [eR47 v5.1, eR90 v6]⟩ ?_
          obtain ⟨v7, h11, H⟩ := ibC H
          refine ak_callP (avs := [.d (eL47 t0 a0)]) (dst := some 33) (k' := (K9 11101010 7)) [1, 29, 31, 33] [] hP enters_18 (splicelaw05_Refs.says (t0 := t0) a0 h11) (by kernel_rfl) (hands_none _) (.cons (pass_d _) .nil) (st' := ⟨62, [(1, .s a1), (29, .b false), (31, .own 1 2 0 v6.length), (33, .own 2 2 0 v7.length)], [eR47 v5.1, eR90 v6, eR90 v7]⟩) (by kernel_rfl) ?_
          obtain ⟨v8, h12, H⟩ := ibC H
          refine ak_callP (avs := [.own 1 2 0 v6.length, .own 2 2 0 v7.length]) (dst := some 34) (k' := (K9 11101010 8)) [1, 29, 34] [] hP enters_21 (spliceref05_Same.says (t0 := false) (t1 := false) v6 v7 h12) (by kernel_rfl) (hands_none _) (.cons (.lend (ty := 90) (by kernel_rfl) rfl) (.cons (.lend (ty := 90) (by kernel_rfl) rfl) .nil)) (st' := ⟨62, [(1, .s a1), (29, .b false), (34, .b v8)], [eR47 v5.1, eR90 v6, eR90 v7]⟩) (by kernel_rfl) ?_
          refine goK hT 3 (K9 1110101 1) ⟨62, [(1, .s a1), (36, .b (!v8))], [eR47 v5.1, eR90 v6, eR90 v7]⟩ ?_
          refine cutK [] ⟨62, [(1, .s a1), (36, .b (!v8))], []⟩ h0 ?_
          exact Jj2 (!v8) H
        · replace H := iF c9 H
          rw [neT c9]
          refine goK hT 8 (K9 1110101 1) ⟨62, [(1, .s a1), (36, .b true)], [eR47 v5.1]⟩ ?_
          refine cutK [] ⟨62, [(1, .s a1), (36, .b true)], []⟩ h0 ?_
          exact Jj2 true H
      · replace H := iF c6 H
        rw [boF c6]
        refine goK hT 2 (K9 111 1) ⟨62, [(1, .s a1)], []⟩ ?_
        refine cutK [] ⟨62, [(1, .s a1)], []⟩ h0 ?_
        exact Jj3 H
  rw [← h1]
  refine goK hT 2 (K9 1100 5) ⟨62, [(0, .d (eL47 t0 a0)), (1, .s a1), (13, .b (!v1))], []⟩ ?_
  by_cases c2 : v1 = true
  · replace H := iT c2 H
    rw [c2]
    refine goK hT 5 (K9 110 1) ⟨62, [(0, .d (eL47 t0 a0)), (1, .s a1), (17, .b (decide ((a1.size : Int) > 5000)))], []⟩ ?_
    refine cutK [] ⟨62, [(0, .d (eL47 t0 a0)), (1, .s a1), (17, .b (decide ((a1.size : Int) > 5000)))], []⟩ h0 ?_
    exact Jj1 (decide ((a1.size : Int) > 5000)) H
  · replace H := iF c2 H
    rw [boF c2]
    refine goK hT 5 (K9 110 1) ⟨62, [(0, .d (eL47 t0 a0)), (1, .s a1), (17, .b true)], []⟩ ?_
    refine cutK [] ⟨62, [(0, .d (eL47 t0 a0)), (1, .s a1), (17, .b true)], []⟩ h0 ?_
    exact Jj1 true H
end Go.SyP
