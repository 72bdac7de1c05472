/- Certificates, printed by gen.py. -/
import Derived.Test.YtijabmambppfhaaG05Cp0
set_option linter.unusedVariables false
set_option linter.unusedSimpArgs false
namespace Go.SyP
open Go Go.Sy Go.Proofs


theorem span_Check.says {t0 : Bool} (a0 : List api_Span) {r : Bool} (H : span_Check a0 = some r) : Says Try.prog 42 [] [.d (.sl t0 a0.length (vec api_Span.e api_Span.z a0))] [] (.b r) := by
  refine says_of Try.func42 rfl (nt := 34) rfl (Nat.le_of_ble_eq_true rfl) fun X hP h0 hX => ?_
  have hT : TabOk X.P T := hP ▸ tok
  have hf : X.P.funcs[42]? = some Try.f42 := hP ▸ Try.func42
  refine go hT 13 [0, 5, 6, 7] (k' := K42 [1, 0, 1, 0, 0]) (st' := ⟨34, [(0, .d (.sl t0 a0.length (vec api_Span.e api_Span.z a0))), (5, .d (.sl t0 a0.length (vec api_Span.e api_Span.z a0))), (6, .i (a0.length : Int)), (7, .i 0)], []⟩) (by kernel_rfl) ?_
  have L : ∀ n, (∀ (x1_7 : Int), iter (span_Check.step a0) n (.l1 x1_7) = some r → AK X 42 (K42 [1, 0, 1, 0, 0]) (Back X [] (.b r)) ⟨34, [(0, .d (.sl t0 a0.length (vec api_Span.e api_Span.z a0))), (5, .d (.sl t0 a0.length (vec api_Span.e api_Span.z a0))), (6, .i (a0.length : Int)), (7, .i x1_7)], []⟩) := by
    intro n
    induction n with
    | zero => exact fun _ H => iter0 H
    | succ n ih =>
      · intro x1_7 H
        refine go hT 5 [0, 5, 6, 7, 8] (k' := K42 [1, 0, 1, 0, 0, 1, 0]) (st' := ⟨34, [(0, .d (.sl t0 a0.length (vec api_Span.e api_Span.z a0))), (5, .d (.sl t0 a0.length (vec api_Span.e api_Span.z a0))), (6, .i (a0.length : Int)), (7, .i x1_7), (8, .b (decide (x1_7 < (a0.length : Int))))], []⟩) (by kernel_rfl) ?_
        by_cases c1 : x1_7 < (a0.length : Int)
        · replace H := iteT (K := fun o => stk o (iter (span_Check.step a0) n)) c1 H
          rw [decide_eq_true c1]
          refine go hT 2 [0, 5, 6, 7] (k' := K42 [1, 0, 1, 0, 0, 1, 1]) (st' := ⟨34, [(0, .d (.sl t0 a0.length (vec api_Span.e api_Span.z a0))), (5, .d (.sl t0 a0.length (vec api_Span.e api_Span.z a0))), (6, .i (a0.length : Int)), (7, .i x1_7)], []⟩) (by kernel_rfl) ?_
          refine go hT 5 [0, 5, 6, 7, 9] (k' := K42 [1, 0, 1, 0, 0, 1, 1, 0, 0, 0, 1]) (st' := ⟨34, [(0, .d (.sl t0 a0.length (vec api_Span.e api_Span.z a0))), (5, .d (.sl t0 a0.length (vec api_Span.e api_Span.z a0))), (6, .i (a0.length : Int)), (7, .i x1_7), (9, .i x1_7)], []⟩) (by kernel_rfl) ?_
          obtain ⟨h2, H⟩ := iteC (K := fun o => stk o (iter (span_Check.step a0) n)) rfl H
          have Jj1 : ∀ (y1_29 : Bool), stk (span_Check.j1 x1_7 y1_29) (iter (span_Check.step a0) n) = some r → AK X 42 (K42 [1, 0, 1, 0, 0, 1, 1, 0, 0, 1, 1]) (Back X [] (.b r)) ⟨34, [(0, .d (.sl t0 a0.length (vec api_Span.e api_Span.z a0))), (5, .d (.sl t0 a0.length (vec api_Span.e api_Span.z a0))), (6, .i (a0.length : Int)), (7, .i x1_7), (29, .b y1_29)], []⟩ := by
            intro y1_29 H
            by_cases c6 : y1_29 = true
            · replace H := iteT (K := fun o => stk o (iter (span_Check.step a0) n)) c6 H
              rw [c6]
              refine go hT 5 [2] (k' := K42 [1, 0, 1, 0, 0, 1, 1, 0, 0, 1, 1, 0, 1]) (st' := ⟨34, [(2, .b false)], []⟩) (by kernel_rfl) ?_
              obtain rfl := retC H
              exact ak_ret hf hX (av := .b false) (by kernel_rfl) [] (sel_of_eq (by kernel_rfl)) (by decide) (by rw [h0]; rfl) (by kernel_rfl) (fun _ h => all_nil h) (.d (.v _))
            · replace H := iteF (K := fun o => stk o (iter (span_Check.step a0) n)) c6 H
              rw [boF c6]
              refine go hT 3 [0, 5, 6, 7] (k' := K42 [1, 0, 1, 0, 0, 1, 1, 1]) (st' := ⟨34, [(0, .d (.sl t0 a0.length (vec api_Span.e api_Span.z a0))), (5, .d (.sl t0 a0.length (vec api_Span.e api_Span.z a0))), (6, .i (a0.length : Int)), (7, .i x1_7)], []⟩) (by kernel_rfl) ?_
              refine go hT 5 [0, 5, 6, 7] (k' := K42 [1, 0, 1, 0, 0]) (st' := ⟨34, [(0, .d (.sl t0 a0.length (vec api_Span.e api_Span.z a0))), (5, .d (.sl t0 a0.length (vec api_Span.e api_Span.z a0))), (6, .i (a0.length : Int)), (7, .i (IntKind.wrap .i64 (x1_7 + 1)))], []⟩) (by kernel_rfl) ?_
              refine ak_cut [0, 5, 6, 7] [] (st' := ⟨34, [(0, .d (.sl t0 a0.length (vec api_Span.e api_Span.z a0))), (5, .d (.sl t0 a0.length (vec api_Span.e api_Span.z a0))), (6, .i (a0.length : Int)), (7, .i (IntKind.wrap .i64 (x1_7 + 1)))], []⟩) (by kernel_rfl) (by kernel_rfl) rfl (by decide) (by rw [h0]; rfl) ?_
              exact ih (IntKind.wrap .i64 (x1_7 + 1)) H
          refine ak_idx hT [0, 5, 6, 7, 9, 10] (i := x1_7) (n := (a0.length : Int)) h2.1 h2.2 (k' := K42 [1, 0, 1, 0, 0, 1, 1, 0, 0, 0, 2]) (st' := ⟨34, [(0, .d (.sl t0 a0.length (vec api_Span.e api_Span.z a0))), (5, .d (.sl t0 a0.length (vec api_Span.e api_Span.z a0))), (6, .i (a0.length : Int)), (7, .i x1_7), (9, .i x1_7), (10, .d (.rop t0 a0.length (vec api_Span.e api_Span.z a0) x1_7.toNat 0))], []⟩) (by kernel_rfl) ?_
          refine go hT 6 [0, 3, 4, 5, 6, 7] (k' := K42 [1, 0, 1, 0, 0, 1, 1, 0, 0, 1, 0]) (st' := ⟨34, [(0, .d (.sl t0 a0.length (vec api_Span.e api_Span.z a0))), (3, .i x1_7), (4, .ptr 0 0 0 0), (5, .d (.sl t0 a0.length (vec api_Span.e api_Span.z a0))), (6, .i (a0.length : Int)), (7, .i x1_7)], [.box 24 [.i ((a0.getD x1_7.toNat api_Span.z).Lo), .i ((a0.getD x1_7.toNat api_Span.z).Hi)]]⟩) (by kernel_rfl) ?_
          by_cases c3 : (span_One (a0.getD x1_7.toNat api_Span.z)) = true
          · replace H := iteT (K := fun o => stk o (iter (span_Check.step a0) n)) c3 H
            by_cases c4 : x1_7 > 0
            · replace H := iteT (K := fun o => stk o (iter (span_Check.step a0) n)) c4 H
              obtain ⟨h5, H⟩ := iteC (K := fun o => stk o (iter (span_Check.step a0) n)) rfl H
              refine ak_drawAt (nt := 34) (rows := [.box 24 [.i ((a0.getD x1_7.toNat api_Span.z).Lo), .i ((a0.getD x1_7.toNat api_Span.z).Hi)]]) (hP ▸ mixed) 18 [0, 3, 4, 5, 6, 7] [(0, .d (.sl t0 a0.length (vec api_Span.e api_Span.z a0))), (3, .i x1_7), (4, .ptr 0 0 0 0), (5, .d (.sl t0 a0.length (vec api_Span.e api_Span.z a0))), (6, .i (a0.length : Int)), (7, .i x1_7)] [some (.d (.agg [.v (.int .i64 ((a0.getD x1_7.toNat api_Span.z).Lo)), .v (.int .i64 ((a0.getD x1_7.toNat api_Span.z).Hi))])), some (.b true), some (.b false), some (.b false), some (.i x1_7), some (.b true), some (.b true), some (.ptr 0 0 0 0), some (.i ((a0.getD x1_7.toNat api_Span.z).Lo)), some (.d (.sl t0 a0.length (vec api_Span.e api_Span.z a0))), some (.i x1_7), some (.i (IntKind.wrap .i64 (x1_7 - 1))), some (.d (.rop t0 a0.length (vec api_Span.e api_Span.z a0) ((IntKind.wrap .i64 (x1_7 - 1)).toNat) 0)), some (.d (.rop t0 a0.length (vec api_Span.e api_Span.z a0) ((IntKind.wrap .i64 (x1_7 - 1)).toNat) 1)), some (.i ((a0.getD ((IntKind.wrap .i64 (x1_7 - 1)).toNat) api_Span.z).Hi)), some (.b (decide (((a0.getD x1_7.toNat api_Span.z).Lo) ≤ ((a0.getD ((IntKind.wrap .i64 (x1_7 - 1)).toNat) api_Span.z).Hi)))), some (.b (decide (((a0.getD x1_7.toNat api_Span.z).Lo) ≤ ((a0.getD ((IntKind.wrap .i64 (x1_7 - 1)).toNat) api_Span.z).Hi)))), some (.b (decide (((a0.getD x1_7.toNat api_Span.z).Lo) ≤ ((a0.getD ((IntKind.wrap .i64 (x1_7 - 1)).toNat) api_Span.z).Hi))))] (by kernel_rfl) (by kernel_rfl) (by kernel_rfl) (opS (opS (opS (opS (opS (opS (opS (opS (opS (opS (opS (opS (opS (opS (opS (opS (opS (opS op0 (op_go hT fun R rest => by kernel_rfl)) (fun R rest h => ak_callD (avs := [.d (.agg [.v (.int .i64 ((a0.getD x1_7.toNat api_Span.z).Lo)), .v (.int .i64 ((a0.getD x1_7.toNat api_Span.z).Hi))])]) (dst := some 13) hP enters_56 (by have q := span_One.says (a0.getD x1_7.toNat api_Span.z); rw [c3] at q; exact q) (by kernel_rfl) (.cons (pass_d _) .nil) (by kernel_rfl) h)) (op_go hT fun R rest => by kernel_rfl)) (op_go hT fun R rest => by kernel_rfl)) (op_go hT fun R rest => by kernel_rfl)) (op_goE hT (st' := fun R rest => ⟨34, (17, .b (decide (x1_7 > 0))) :: needOf (opsAt (K42 [1, 0, 1, 0, 0, 1, 1, 0, 0, 1, 0])) [(0, .d (.sl t0 a0.length (vec api_Span.e api_Span.z a0))), (3, .i x1_7), (4, .ptr 0 0 0 0), (5, .d (.sl t0 a0.length (vec api_Span.e api_Span.z a0))), (6, .i (a0.length : Int)), (7, .i x1_7)] [some (.d (.agg [.v (.int .i64 ((a0.getD x1_7.toNat api_Span.z).Lo)), .v (.int .i64 ((a0.getD x1_7.toNat api_Span.z).Hi))])), some (.b true), some (.b false), some (.b false), some (.i x1_7), some (.b true), some (.b true), some (.ptr 0 0 0 0), some (.i ((a0.getD x1_7.toNat api_Span.z).Lo)), some (.d (.sl t0 a0.length (vec api_Span.e api_Span.z a0))), some (.i x1_7), some (.i (IntKind.wrap .i64 (x1_7 - 1))), some (.d (.rop t0 a0.length (vec api_Span.e api_Span.z a0) ((IntKind.wrap .i64 (x1_7 - 1)).toNat) 0)), some (.d (.rop t0 a0.length (vec api_Span.e api_Span.z a0) ((IntKind.wrap .i64 (x1_7 - 1)).toNat) 1)), some (.i ((a0.getD ((IntKind.wrap .i64 (x1_7 - 1)).toNat) api_Span.z).Hi)), some (.b (decide (((a0.getD x1_7.toNat api_Span.z).Lo) ≤ ((a0.getD ((IntKind.wrap .i64 (x1_7 - 1)).toNat) api_Span.z).Hi)))), some (.b (decide (((a0.getD x1_7.toNat api_Span.z).Lo) ≤ ((a0.getD ((IntKind.wrap .i64 (x1_7 - 1)).toNat) api_Span.z).Hi)))), some (.b (decide (((a0.getD x1_7.toNat api_Span.z).Lo) ≤ ((a0.getD ((IntKind.wrap .i64 (x1_7 - 1)).toNat) api_Span.z).Hi))))] 5 ++ rest, [.box 24 [.i ((a0.getD x1_7.toNat api_Span.z).Lo), .i ((a0.getD x1_7.toNat api_Span.z).Hi)]]⟩) (fun R rest => by kernel_rfl) (fun R rest => by rw [decide_eq_true c4]; first | done | rfl))) (op_go hT fun R rest => by kernel_rfl)) (op_go hT fun R rest => by kernel_rfl)) (op_go hT fun R rest => by kernel_rfl)) (op_go hT fun R rest => by kernel_rfl)) (op_go hT fun R rest => by kernel_rfl)) (op_go hT fun R rest => by kernel_rfl)) (fun R rest h => ak_idx0 hT (i := IntKind.wrap .i64 (x1_7 - 1)) (n := (a0.length : Int)) h5.1 h5.2 (by kernel_rfl) h)) (op_go hT fun R rest => by kernel_rfl)) (op_go hT fun R rest => by kernel_rfl)) (op_go hT fun R rest => by kernel_rfl)) (op_go hT fun R rest => by kernel_rfl)) (op_go hT fun R rest => by kernel_rfl)) ?_
              refine go hT 1 [0, 5, 6, 7, 29] (k' := K42 [1, 0, 1, 0, 0, 1, 1, 0, 0, 1, 1]) (st' := ⟨34, [(0, .d (.sl t0 a0.length (vec api_Span.e api_Span.z a0))), (5, .d (.sl t0 a0.length (vec api_Span.e api_Span.z a0))), (6, .i (a0.length : Int)), (7, .i x1_7), (29, .b (decide (((a0.getD x1_7.toNat api_Span.z).Lo) ≤ ((a0.getD ((IntKind.wrap .i64 (x1_7 - 1)).toNat) api_Span.z).Hi))))], [.box 24 [.i ((a0.getD x1_7.toNat api_Span.z).Lo), .i ((a0.getD x1_7.toNat api_Span.z).Hi)]]⟩) (by kernel_rfl) ?_
              refine ak_cut [0, 5, 6, 7, 29] [] (st' := ⟨34, [(0, .d (.sl t0 a0.length (vec api_Span.e api_Span.z a0))), (5, .d (.sl t0 a0.length (vec api_Span.e api_Span.z a0))), (6, .i (a0.length : Int)), (7, .i x1_7), (29, .b (decide (((a0.getD x1_7.toNat api_Span.z).Lo) ≤ ((a0.getD ((IntKind.wrap .i64 (x1_7 - 1)).toNat) api_Span.z).Hi))))], []⟩) (by kernel_rfl) (by kernel_rfl) rfl (by decide) (by rw [h0]; rfl) ?_
              exact Jj1 (decide (((a0.getD x1_7.toNat api_Span.z).Lo) ≤ ((a0.getD ((IntKind.wrap .i64 (x1_7 - 1)).toNat) api_Span.z).Hi))) H
            · replace H := iteF (K := fun o => stk o (iter (span_Check.step a0) n)) c4 H
              refine ak_drawAt (nt := 34) (rows := [.box 24 [.i ((a0.getD x1_7.toNat api_Span.z).Lo), .i ((a0.getD x1_7.toNat api_Span.z).Hi)]]) (hP ▸ mixed) 18 [0, 3, 4, 5, 6, 7] [(0, .d (.sl t0 a0.length (vec api_Span.e api_Span.z a0))), (3, .i x1_7), (4, .ptr 0 0 0 0), (5, .d (.sl t0 a0.length (vec api_Span.e api_Span.z a0))), (6, .i (a0.length : Int)), (7, .i x1_7)] [some (.d (.agg [.v (.int .i64 ((a0.getD x1_7.toNat api_Span.z).Lo)), .v (.int .i64 ((a0.getD x1_7.toNat api_Span.z).Hi))])), some (.b true), some (.b false), some (.b false), some (.i x1_7), some (.b false), some (.b false), some (.tup []), some (.tup []), some (.tup []), some (.tup []), some (.tup []), some (.tup []), some (.tup []), some (.tup []), some (.tup []), some (.b false), some (.b false)] (by kernel_rfl) (by kernel_rfl) (by kernel_rfl) (opS (opS (opS (opS (opS (opS (opS (opS (opS (opS (opS (opS (opS (opS (opS (opS (opS (opS op0 (op_go hT fun R rest => by kernel_rfl)) (fun R rest h => ak_callD (avs := [.d (.agg [.v (.int .i64 ((a0.getD x1_7.toNat api_Span.z).Lo)), .v (.int .i64 ((a0.getD x1_7.toNat api_Span.z).Hi))])]) (dst := some 13) hP enters_56 (by have q := span_One.says (a0.getD x1_7.toNat api_Span.z); rw [c3] at q; exact q) (by kernel_rfl) (.cons (pass_d _) .nil) (by kernel_rfl) h)) (op_go hT fun R rest => by kernel_rfl)) (op_go hT fun R rest => by kernel_rfl)) (op_go hT fun R rest => by kernel_rfl)) (op_goE hT (st' := fun R rest => ⟨34, (17, .b (decide (x1_7 > 0))) :: needOf (opsAt (K42 [1, 0, 1, 0, 0, 1, 1, 0, 0, 1, 0])) [(0, .d (.sl t0 a0.length (vec api_Span.e api_Span.z a0))), (3, .i x1_7), (4, .ptr 0 0 0 0), (5, .d (.sl t0 a0.length (vec api_Span.e api_Span.z a0))), (6, .i (a0.length : Int)), (7, .i x1_7)] [some (.d (.agg [.v (.int .i64 ((a0.getD x1_7.toNat api_Span.z).Lo)), .v (.int .i64 ((a0.getD x1_7.toNat api_Span.z).Hi))])), some (.b true), some (.b false), some (.b false), some (.i x1_7), some (.b false), some (.b false), some (.tup []), some (.tup []), some (.tup []), some (.tup []), some (.tup []), some (.tup []), some (.tup []), some (.tup []), some (.tup []), some (.b false), some (.b false)] 5 ++ rest, [.box 24 [.i ((a0.getD x1_7.toNat api_Span.z).Lo), .i ((a0.getD x1_7.toNat api_Span.z).Hi)]]⟩) (fun R rest => by kernel_rfl) (fun R rest => by rw [decide_eq_false c4]; first | done | rfl))) (op_go hT fun R rest => by kernel_rfl)) (op_go hT fun R rest => by kernel_rfl)) (op_go hT fun R rest => by kernel_rfl)) (op_go hT fun R rest => by kernel_rfl)) (op_go hT fun R rest => by kernel_rfl)) (op_go hT fun R rest => by kernel_rfl)) (op_go hT fun R rest => by kernel_rfl)) (op_go hT fun R rest => by kernel_rfl)) (op_go hT fun R rest => by kernel_rfl)) (op_go hT fun R rest => by kernel_rfl)) (op_go hT fun R rest => by kernel_rfl)) (op_go hT fun R rest => by kernel_rfl)) ?_
              refine go hT 1 [0, 5, 6, 7, 29] (k' := K42 [1, 0, 1, 0, 0, 1, 1, 0, 0, 1, 1]) (st' := ⟨34, [(0, .d (.sl t0 a0.length (vec api_Span.e api_Span.z a0))), (5, .d (.sl t0 a0.length (vec api_Span.e api_Span.z a0))), (6, .i (a0.length : Int)), (7, .i x1_7), (29, .b false)], [.box 24 [.i ((a0.getD x1_7.toNat api_Span.z).Lo), .i ((a0.getD x1_7.toNat api_Span.z).Hi)]]⟩) (by kernel_rfl) ?_
              refine ak_cut [0, 5, 6, 7, 29] [] (st' := ⟨34, [(0, .d (.sl t0 a0.length (vec api_Span.e api_Span.z a0))), (5, .d (.sl t0 a0.length (vec api_Span.e api_Span.z a0))), (6, .i (a0.length : Int)), (7, .i x1_7), (29, .b false)], []⟩) (by kernel_rfl) (by kernel_rfl) rfl (by decide) (by rw [h0]; rfl) ?_
              exact Jj1 false H
          · replace H := iteF (K := fun o => stk o (iter (span_Check.step a0) n)) c3 H
            refine ak_drawAt (nt := 34) (rows := [.box 24 [.i ((a0.getD x1_7.toNat api_Span.z).Lo), .i ((a0.getD x1_7.toNat api_Span.z).Hi)]]) (hP ▸ mixed) 18 [0, 3, 4, 5, 6, 7] [(0, .d (.sl t0 a0.length (vec api_Span.e api_Span.z a0))), (3, .i x1_7), (4, .ptr 0 0 0 0), (5, .d (.sl t0 a0.length (vec api_Span.e api_Span.z a0))), (6, .i (a0.length : Int)), (7, .i x1_7)] [some (.d (.agg [.v (.int .i64 ((a0.getD x1_7.toNat api_Span.z).Lo)), .v (.int .i64 ((a0.getD x1_7.toNat api_Span.z).Hi))])), some (.b false), some (.b true), some (.b true), some (.tup []), some (.tup []), some (.tup []), some (.tup []), some (.tup []), some (.tup []), some (.tup []), some (.tup []), some (.tup []), some (.tup []), some (.tup []), some (.tup []), some (.tup []), some (.b true)] (by kernel_rfl) (by kernel_rfl) (by kernel_rfl) (opS (opS (opS (opS (opS (opS (opS (opS (opS (opS (opS (opS (opS (opS (opS (opS (opS (opS op0 (op_go hT fun R rest => by kernel_rfl)) (fun R rest h => ak_callD (avs := [.d (.agg [.v (.int .i64 ((a0.getD x1_7.toNat api_Span.z).Lo)), .v (.int .i64 ((a0.getD x1_7.toNat api_Span.z).Hi))])]) (dst := some 13) hP enters_56 (by have q := span_One.says (a0.getD x1_7.toNat api_Span.z); rw [boF c3] at q; exact q) (by kernel_rfl) (.cons (pass_d _) .nil) (by kernel_rfl) h)) (op_go hT fun R rest => by kernel_rfl)) (op_go hT fun R rest => by kernel_rfl)) (op_go hT fun R rest => by kernel_rfl)) (op_go hT fun R rest => by kernel_rfl)) (op_go hT fun R rest => by kernel_rfl)) (op_go hT fun R rest => by kernel_rfl)) (op_go hT fun R rest => by kernel_rfl)) (op_go hT fun R rest => by kernel_rfl)) (op_go hT fun R rest => by kernel_rfl)) (op_go hT fun R rest => by kernel_rfl)) (op_go hT fun R rest => by kernel_rfl)) (op_go hT fun R rest => by kernel_rfl)) (op_go hT fun R rest => by kernel_rfl)) (op_go hT fun R rest => by kernel_rfl)) (op_go hT fun R rest => by kernel_rfl)) (op_go hT fun R rest => by kernel_rfl)) ?_
            refine go hT 1 [0, 5, 6, 7, 29] (k' := K42 [1, 0, 1, 0, 0, 1, 1, 0, 0, 1, 1]) (st' := ⟨34, [(0, .d (.sl t0 a0.length (vec api_Span.e api_Span.z a0))), (5, .d (.sl t0 a0.length (vec api_Span.e api_Span.z a0))), (6, .i (a0.length : Int)), (7, .i x1_7), (29, .b true)], [.box 24 [.i ((a0.getD x1_7.toNat api_Span.z).Lo), .i ((a0.getD x1_7.toNat api_Span.z).Hi)]]⟩) (by kernel_rfl) ?_
            refine ak_cut [0, 5, 6, 7, 29] [] (st' := ⟨34, [(0, .d (.sl t0 a0.length (vec api_Span.e api_Span.z a0))), (5, .d (.sl t0 a0.length (vec api_Span.e api_Span.z a0))), (6, .i (a0.length : Int)), (7, .i x1_7), (29, .b true)], []⟩) (by kernel_rfl) (by kernel_rfl) rfl (by decide) (by rw [h0]; rfl) ?_
            exact Jj1 true H
        · replace H := iteF (K := fun o => stk o (iter (span_Check.step a0) n)) c1 H
          rw [decide_eq_false c1]
          refine go hT 9 [2] (k' := K42 [1, 1, 1]) (st' := ⟨34, [(2, .b (decide ((a0.length : Int) ≤ 64)))], []⟩) (by kernel_rfl) ?_
          obtain rfl := retC H
          exact ak_ret hf hX (av := .b (decide ((a0.length : Int) ≤ 64))) (by kernel_rfl) [] (sel_of_eq (by kernel_rfl)) (by decide) (by rw [h0]; rfl) (by kernel_rfl) (fun _ h => all_nil h) (.d (.v _))
  refine ak_cut [0, 5, 6, 7] [] (st' := ⟨34, [(0, .d (.sl t0 a0.length (vec api_Span.e api_Span.z a0))), (5, .d (.sl t0 a0.length (vec api_Span.e api_Span.z a0))), (6, .i (a0.length : Int)), (7, .i 0)], []⟩) (by kernel_rfl) (by kernel_rfl) rfl (by decide) (by rw [h0]; rfl) ?_
  obtain ⟨n, H⟩ := loopC H
  exact (L n) 0 H


theorem spliceref05_Get.says {t0 : Bool} (a0 : List spliceref04_Pair) (a1 : Int) {r : spliceref05_Cell} (H : spliceref05_Get a0 a1 = some r) : Says Try.prog 27 [] [.d (.sl t0 a0.length (vec spliceref04_Pair.e spliceref04_Pair.z a0)), .i a1] [] (.d (.agg (spliceref05_Cell.e r))) := by
  refine says_of Try.func27 rfl (nt := 26) rfl (Nat.le_of_ble_eq_true rfl) fun X hP h0 hX => ?_
  have hT : TabOk X.P T := hP ▸ tok
  have hf : X.P.funcs[27]? = some Try.f27 := hP ▸ Try.func27
  refine go hT 11 [0, 1, 4, 5] (k' := K27 [1, 0, 1, 0, 0]) (st' := ⟨26, [(0, .d (.sl t0 a0.length (vec spliceref04_Pair.e spliceref04_Pair.z a0))), (1, .i a1), (4, .ptr 0 0 0 0), (5, .i 0)], [.box 52 [.i 0, .b false]]⟩) (by kernel_rfl) ?_
  have L : ∀ n, (∀ (x1_5 : Int), iter (spliceref05_Get.step a0 a1) n (.l1 x1_5) = some r → AK X 27 (K27 [1, 0, 1, 0, 0]) (Back X [] (.d (.agg (spliceref05_Cell.e r)))) ⟨26, [(0, .d (.sl t0 a0.length (vec spliceref04_Pair.e spliceref04_Pair.z a0))), (1, .i a1), (4, .ptr 0 0 0 0), (5, .i x1_5)], [.box 52 [.i 0, .b false]]⟩) := by
    intro n
    induction n with
    | zero => exact fun _ H => iter0 H
    | succ n ih =>
      · intro x1_5 H
        refine go hT 8 [0, 1, 4, 5, 9] (k' := K27 [1, 0, 1, 0, 0, 0, 1]) (st' := ⟨26, [(0, .d (.sl t0 a0.length (vec spliceref04_Pair.e spliceref04_Pair.z a0))), (1, .i a1), (4, .ptr 0 0 0 0), (5, .i x1_5), (9, .b (decide (x1_5 < (a0.length : Int))))], [.box 52 [.i 0, .b false]]⟩) (by kernel_rfl) ?_
        by_cases c1 : x1_5 < (a0.length : Int)
        · replace H := iteT (K := fun o => stk o (iter (spliceref05_Get.step a0 a1) n)) c1 H
          rw [decide_eq_true c1]
          refine go hT 2 [0, 1, 4, 5] (k' := K27 [1, 0, 1, 0, 0, 1]) (st' := ⟨26, [(0, .d (.sl t0 a0.length (vec spliceref04_Pair.e spliceref04_Pair.z a0))), (1, .i a1), (4, .ptr 0 0 0 0), (5, .i x1_5)], [.box 52 [.i 0, .b false]]⟩) (by kernel_rfl) ?_
          refine go hT 6 [0, 1, 4, 5, 12, 13] (k' := K27 [1, 0, 1, 0, 0, 1, 0, 0, 0, 2]) (st' := ⟨26, [(0, .d (.sl t0 a0.length (vec spliceref04_Pair.e spliceref04_Pair.z a0))), (1, .i a1), (4, .ptr 0 0 0 0), (5, .i x1_5), (12, .d (.sl t0 a0.length (vec spliceref04_Pair.e spliceref04_Pair.z a0))), (13, .i x1_5)], [.box 52 [.i 0, .b false]]⟩) (by kernel_rfl) ?_
          obtain ⟨h2, H⟩ := iteC (K := fun o => stk o (iter (spliceref05_Get.step a0 a1) n)) rfl H
          refine ak_idx hT [0, 1, 4, 5, 14] (i := x1_5) (n := (a0.length : Int)) h2.1 h2.2 (k' := K27 [1, 0, 1, 0, 0, 1, 0, 0, 0, 3]) (st' := ⟨26, [(0, .d (.sl t0 a0.length (vec spliceref04_Pair.e spliceref04_Pair.z a0))), (1, .i a1), (4, .ptr 0 0 0 0), (5, .i x1_5), (14, .d (.rop t0 a0.length (vec spliceref04_Pair.e spliceref04_Pair.z a0) x1_5.toNat 0))], [.box 52 [.i 0, .b false]]⟩) (by kernel_rfl) ?_
          refine go hT 5 [0, 1, 4, 5, 18] (k' := K27 [1, 0, 1, 0, 0, 1, 0, 0, 1]) (st' := ⟨26, [(0, .d (.sl t0 a0.length (vec spliceref04_Pair.e spliceref04_Pair.z a0))), (1, .i a1), (4, .ptr 0 0 0 0), (5, .i x1_5), (18, .b (((a0.getD x1_5.toNat spliceref04_Pair.z).Key) == a1))], [.box 52 [.i 0, .b false]]⟩) (by kernel_rfl) ?_
          by_cases c3 : ((a0.getD x1_5.toNat spliceref04_Pair.z).Key) = a1
          · replace H := iteT (K := fun o => stk o (iter (spliceref05_Get.step a0 a1) n)) c3 H
            rw [eqT c3]
            refine go hT 5 [4, 19, 20] (k' := K27 [1, 0, 1, 0, 0, 1, 0, 0, 1, 0, 0, 2]) (st' := ⟨26, [(4, .ptr 0 0 0 0), (19, .d (.sl t0 a0.length (vec spliceref04_Pair.e spliceref04_Pair.z a0))), (20, .i x1_5)], [.box 52 [.i 0, .b false]]⟩) (by kernel_rfl) ?_
            refine ak_idx hT [4, 21] (i := x1_5) (n := (a0.length : Int)) h2.1 h2.2 (k' := K27 [1, 0, 1, 0, 0, 1, 0, 0, 1, 0, 0, 3]) (st' := ⟨26, [(4, .ptr 0 0 0 0), (21, .d (.rop t0 a0.length (vec spliceref04_Pair.e spliceref04_Pair.z a0) x1_5.toNat 0))], [.box 52 [.i 0, .b false]]⟩) (by kernel_rfl) ?_
            refine go hT 5 [4] (k' := K27 [1, 0, 1, 0, 0, 1, 0, 0, 1, 0, 1]) (st' := ⟨26, [(4, .ptr 0 0 0 0)], [.box 52 [.i ((a0.getD x1_5.toNat spliceref04_Pair.z).Val), .b true]]⟩) (by kernel_rfl) ?_
            obtain rfl := retC H
            exact ak_retM hT hf hX (av := .d (.agg [.v (.int .i64 ((a0.getD x1_5.toNat spliceref04_Pair.z).Val)), .v (.bool true)])) (by kernel_rfl) [] (sel_of_eq (by kernel_rfl)) (by decide) (by rw [h0]; rfl) (by kernel_rfl) (fun _ h => all_nil h) (.d (.agg (spliceref05_Cell.nl _)))
          · replace H := iteF (K := fun o => stk o (iter (spliceref05_Get.step a0 a1) n)) c3 H
            rw [eqF c3]
            refine go hT 3 [0, 1, 4, 5] (k' := K27 [1, 0, 1, 0, 0, 1, 1]) (st' := ⟨26, [(0, .d (.sl t0 a0.length (vec spliceref04_Pair.e spliceref04_Pair.z a0))), (1, .i a1), (4, .ptr 0 0 0 0), (5, .i x1_5)], [.box 52 [.i 0, .b false]]⟩) (by kernel_rfl) ?_
            refine go hT 6 [0, 1, 4, 5] (k' := K27 [1, 0, 1, 0, 0]) (st' := ⟨26, [(0, .d (.sl t0 a0.length (vec spliceref04_Pair.e spliceref04_Pair.z a0))), (1, .i a1), (4, .ptr 0 0 0 0), (5, .i (IntKind.wrap .i64 (x1_5 + 1)))], [.box 52 [.i 0, .b false]]⟩) (by kernel_rfl) ?_
            refine ak_cut [0, 1, 4, 5] [0] (st' := ⟨26, [(0, .d (.sl t0 a0.length (vec spliceref04_Pair.e spliceref04_Pair.z a0))), (1, .i a1), (4, .ptr 0 0 0 0), (5, .i (IntKind.wrap .i64 (x1_5 + 1)))], [.box 52 [.i 0, .b false]]⟩) (by kernel_rfl) (by kernel_rfl) rfl (by decide) (by rw [h0]; rfl) ?_
            exact ih (IntKind.wrap .i64 (x1_5 + 1)) H
        · replace H := iteF (K := fun o => stk o (iter (spliceref05_Get.step a0 a1) n)) c1 H
          rw [decide_eq_false c1]
          refine go hT 7 [4] (k' := K27 [1, 1, 1]) (st' := ⟨26, [(4, .ptr 0 0 0 0)], [.box 52 [.i 0, .b false]]⟩) (by kernel_rfl) ?_
          obtain rfl := retC H
          exact ak_retM hT hf hX (av := .d (.agg [.v (.int .i64 0), .v (.bool false)])) (by kernel_rfl) [] (sel_of_eq (by kernel_rfl)) (by decide) (by rw [h0]; rfl) (by kernel_rfl) (fun _ h => all_nil h) (.d (.agg (spliceref05_Cell.nl _)))
  refine ak_cut [0, 1, 4, 5] [0] (st' := ⟨26, [(0, .d (.sl t0 a0.length (vec spliceref04_Pair.e spliceref04_Pair.z a0))), (1, .i a1), (4, .ptr 0 0 0 0), (5, .i 0)], [.box 52 [.i 0, .b false]]⟩) (by kernel_rfl) (by kernel_rfl) rfl (by decide) (by rw [h0]; rfl) ?_
  obtain ⟨n, H⟩ := loopC H
  exact (L n) 0 H


theorem spliceref05_Check.says {t0 : Bool} (a0 : List spliceref04_Pair) {r : Bool} (H : spliceref05_Check a0 = some r) : Says Try.prog 28 [] [.d (.sl t0 a0.length (vec spliceref04_Pair.e spliceref04_Pair.z a0))] [] (.b r) := by
  refine says_of Try.func28 rfl (nt := 56) rfl (Nat.le_of_ble_eq_true rfl) fun X hP h0 hX => ?_
  have hT : TabOk X.P T := hP ▸ tok
  have hf : X.P.funcs[28]? = some Try.f28 := hP ▸ Try.func28
  refine go hT 11 [0, 3] (k' := K28 [1, 0, 1, 0, 0]) (st' := ⟨56, [(0, .d (.sl t0 a0.length (vec spliceref04_Pair.e spliceref04_Pair.z a0))), (3, .i 0)], []⟩) (by kernel_rfl) ?_
  have L : ∀ n, (∀ (x1_3 : Int), iter (spliceref05_Check.step a0) n (.l1 x1_3) = some r → AK X 28 (K28 [1, 0, 1, 0, 0]) (Back X [] (.b r)) ⟨56, [(0, .d (.sl t0 a0.length (vec spliceref04_Pair.e spliceref04_Pair.z a0))), (3, .i x1_3)], []⟩) := by
    intro n
    induction n with
    | zero => exact fun _ H => iter0 H
    | succ n ih =>
      · intro x1_3 H
        refine go hT 8 [0, 3, 7] (k' := K28 [1, 0, 1, 0, 0, 0, 1]) (st' := ⟨56, [(0, .d (.sl t0 a0.length (vec spliceref04_Pair.e spliceref04_Pair.z a0))), (3, .i x1_3), (7, .b (decide (x1_3 < (a0.length : Int))))], []⟩) (by kernel_rfl) ?_
        by_cases c1 : x1_3 < (a0.length : Int)
        · replace H := iteT (K := fun o => stk o (iter (spliceref05_Check.step a0) n)) c1 H
          rw [decide_eq_true c1]
          refine go hT 2 [0, 3] (k' := K28 [1, 0, 1, 0, 0, 1]) (st' := ⟨56, [(0, .d (.sl t0 a0.length (vec spliceref04_Pair.e spliceref04_Pair.z a0))), (3, .i x1_3)], []⟩) (by kernel_rfl) ?_
          refine go hT 7 [0, 3, 10, 11] (k' := K28 [1, 0, 1, 0, 0, 1, 0, 0, 0, 0, 2]) (st' := ⟨56, [(0, .d (.sl t0 a0.length (vec spliceref04_Pair.e spliceref04_Pair.z a0))), (3, .i x1_3), (10, .d (.sl t0 a0.length (vec spliceref04_Pair.e spliceref04_Pair.z a0))), (11, .i x1_3)], []⟩) (by kernel_rfl) ?_
          obtain ⟨h2, H⟩ := iteC (K := fun o => stk o (iter (spliceref05_Check.step a0) n)) rfl H
          have Jj1 : ∀ (y1_39 : Bool), stk (spliceref05_Check.j1 a0 x1_3 y1_39) (iter (spliceref05_Check.step a0) n) = some r → AK X 28 (K28 [1, 0, 1, 0, 0, 1, 0, 0, 0, 1]) (Back X [] (.b r)) ⟨56, [(0, .d (.sl t0 a0.length (vec spliceref04_Pair.e spliceref04_Pair.z a0))), (3, .i x1_3), (39, .b y1_39)], []⟩ := by
            intro y1_39 H
            by_cases c6 : y1_39 = true
            · replace H := iteT (K := fun o => stk o (iter (spliceref05_Check.step a0) n)) c6 H
              rw [c6]
              refine go hT 5 [2] (k' := K28 [1, 0, 1, 0, 0, 1, 0, 0, 0, 1, 0, 1]) (st' := ⟨56, [(2, .b false)], []⟩) (by kernel_rfl) ?_
              obtain rfl := retC H
              exact ak_ret hf hX (av := .b false) (by kernel_rfl) [] (sel_of_eq (by kernel_rfl)) (by decide) (by rw [h0]; rfl) (by kernel_rfl) (fun _ h => all_nil h) (.d (.v _))
            · replace H := iteF (K := fun o => stk o (iter (spliceref05_Check.step a0) n)) c6 H
              have Jj2 : ∀ (y2_55 : Bool), stk (spliceref05_Check.j2 x1_3 y2_55) (iter (spliceref05_Check.step a0) n) = some r → AK X 28 (K28 [1, 0, 1, 0, 0, 1, 0, 0, 1, 1]) (Back X [] (.b r)) ⟨56, [(0, .d (.sl t0 a0.length (vec spliceref04_Pair.e spliceref04_Pair.z a0))), (3, .i x1_3), (55, .b y2_55)], []⟩ := by
                intro y2_55 H
                by_cases c9 : y2_55 = true
                · replace H := iteT (K := fun o => stk o (iter (spliceref05_Check.step a0) n)) c9 H
                  rw [c9]
                  refine go hT 5 [2] (k' := K28 [1, 0, 1, 0, 0, 1, 0, 0, 1, 1, 0, 1]) (st' := ⟨56, [(2, .b false)], []⟩) (by kernel_rfl) ?_
                  obtain rfl := retC H
                  exact ak_ret hf hX (av := .b false) (by kernel_rfl) [] (sel_of_eq (by kernel_rfl)) (by decide) (by rw [h0]; rfl) (by kernel_rfl) (fun _ h => all_nil h) (.d (.v _))
                · replace H := iteF (K := fun o => stk o (iter (spliceref05_Check.step a0) n)) c9 H
                  rw [boF c9]
                  refine go hT 3 [0, 3] (k' := K28 [1, 0, 1, 0, 0, 1, 1]) (st' := ⟨56, [(0, .d (.sl t0 a0.length (vec spliceref04_Pair.e spliceref04_Pair.z a0))), (3, .i x1_3)], []⟩) (by kernel_rfl) ?_
                  refine go hT 6 [0, 3] (k' := K28 [1, 0, 1, 0, 0]) (st' := ⟨56, [(0, .d (.sl t0 a0.length (vec spliceref04_Pair.e spliceref04_Pair.z a0))), (3, .i (IntKind.wrap .i64 (x1_3 + 1)))], []⟩) (by kernel_rfl) ?_
                  refine ak_cut [0, 3] [] (st' := ⟨56, [(0, .d (.sl t0 a0.length (vec spliceref04_Pair.e spliceref04_Pair.z a0))), (3, .i (IntKind.wrap .i64 (x1_3 + 1)))], []⟩) (by kernel_rfl) (by kernel_rfl) rfl (by decide) (by rw [h0]; rfl) ?_
                  exact ih (IntKind.wrap .i64 (x1_3 + 1)) H
              rw [boF c6]
              refine go hT 2 [0, 3] (k' := K28 [1, 0, 1, 0, 0, 1, 0, 0, 1]) (st' := ⟨56, [(0, .d (.sl t0 a0.length (vec spliceref04_Pair.e spliceref04_Pair.z a0))), (3, .i x1_3)], []⟩) (by kernel_rfl) ?_
              refine go hT 1 [0, 3] (k' := K28 [1, 0, 1, 0, 0, 1, 0, 0, 1, 0]) (st' := ⟨56, [(0, .d (.sl t0 a0.length (vec spliceref04_Pair.e spliceref04_Pair.z a0))), (3, .i x1_3)], []⟩) (by kernel_rfl) ?_
              by_cases c7 : x1_3 > 0
              · replace H := iteT (K := fun o => stk o (iter (spliceref05_Check.step a0) n)) c7 H
                obtain ⟨h8, H⟩ := iteC (K := fun o => stk o (iter (spliceref05_Check.step a0) n)) rfl H
                refine ak_drawAt (nt := 56) (rows := []) (hP ▸ mixed) 16 [0, 3] [(0, .d (.sl t0 a0.length (vec spliceref04_Pair.e spliceref04_Pair.z a0))), (3, .i x1_3)] [some (.i x1_3), some (.b true), some (.b true), some (.d (.sl t0 a0.length (vec spliceref04_Pair.e spliceref04_Pair.z a0))), some (.i x1_3), some (.d (.rop t0 a0.length (vec spliceref04_Pair.e spliceref04_Pair.z a0) x1_3.toNat 0)), some (.d (.rop t0 a0.length (vec spliceref04_Pair.e spliceref04_Pair.z a0) x1_3.toNat 0)), some (.i ((a0.getD x1_3.toNat spliceref04_Pair.z).Key)), some (.d (.sl t0 a0.length (vec spliceref04_Pair.e spliceref04_Pair.z a0))), some (.i x1_3), some (.i (IntKind.wrap .i64 (x1_3 - 1))), some (.d (.rop t0 a0.length (vec spliceref04_Pair.e spliceref04_Pair.z a0) ((IntKind.wrap .i64 (x1_3 - 1)).toNat) 0)), some (.d (.rop t0 a0.length (vec spliceref04_Pair.e spliceref04_Pair.z a0) ((IntKind.wrap .i64 (x1_3 - 1)).toNat) 0)), some (.i ((a0.getD ((IntKind.wrap .i64 (x1_3 - 1)).toNat) spliceref04_Pair.z).Key)), some (.b (decide (((a0.getD x1_3.toNat spliceref04_Pair.z).Key) ≤ ((a0.getD ((IntKind.wrap .i64 (x1_3 - 1)).toNat) spliceref04_Pair.z).Key)))), some (.b (decide (((a0.getD x1_3.toNat spliceref04_Pair.z).Key) ≤ ((a0.getD ((IntKind.wrap .i64 (x1_3 - 1)).toNat) spliceref04_Pair.z).Key))))] (by kernel_rfl) (by kernel_rfl) (by kernel_rfl) (opS (opS (opS (opS (opS (opS (opS (opS (opS (opS (opS (opS (opS (opS (opS (opS op0 (op_go hT fun R rest => by kernel_rfl)) (op_goE hT (st' := fun R rest => ⟨56, (41, .b (decide (x1_3 > 0))) :: needOf (opsAt (K28 [1, 0, 1, 0, 0, 1, 0, 0, 1, 0])) [(0, .d (.sl t0 a0.length (vec spliceref04_Pair.e spliceref04_Pair.z a0))), (3, .i x1_3)] [some (.i x1_3), some (.b true), some (.b true), some (.d (.sl t0 a0.length (vec spliceref04_Pair.e spliceref04_Pair.z a0))), some (.i x1_3), some (.d (.rop t0 a0.length (vec spliceref04_Pair.e spliceref04_Pair.z a0) x1_3.toNat 0)), some (.d (.rop t0 a0.length (vec spliceref04_Pair.e spliceref04_Pair.z a0) x1_3.toNat 0)), some (.i ((a0.getD x1_3.toNat spliceref04_Pair.z).Key)), some (.d (.sl t0 a0.length (vec spliceref04_Pair.e spliceref04_Pair.z a0))), some (.i x1_3), some (.i (IntKind.wrap .i64 (x1_3 - 1))), some (.d (.rop t0 a0.length (vec spliceref04_Pair.e spliceref04_Pair.z a0) ((IntKind.wrap .i64 (x1_3 - 1)).toNat) 0)), some (.d (.rop t0 a0.length (vec spliceref04_Pair.e spliceref04_Pair.z a0) ((IntKind.wrap .i64 (x1_3 - 1)).toNat) 0)), some (.i ((a0.getD ((IntKind.wrap .i64 (x1_3 - 1)).toNat) spliceref04_Pair.z).Key)), some (.b (decide (((a0.getD x1_3.toNat spliceref04_Pair.z).Key) ≤ ((a0.getD ((IntKind.wrap .i64 (x1_3 - 1)).toNat) spliceref04_Pair.z).Key)))), some (.b (decide (((a0.getD x1_3.toNat spliceref04_Pair.z).Key) ≤ ((a0.getD ((IntKind.wrap .i64 (x1_3 - 1)).toNat) spliceref04_Pair.z).Key))))] 1 ++ rest, []⟩) (fun R rest => by kernel_rfl) (fun R rest => by rw [decide_eq_true c7]; first | done | rfl))) (op_go hT fun R rest => by kernel_rfl)) (op_go hT fun R rest => by kernel_rfl)) (op_go hT fun R rest => by kernel_rfl)) (fun R rest h => ak_idx0 hT (i := x1_3) (n := (a0.length : Int)) h2.1 h2.2 (by kernel_rfl) h)) (op_go hT fun R rest => by kernel_rfl)) (op_go hT fun R rest => by kernel_rfl)) (op_go hT fun R rest => by kernel_rfl)) (op_go hT fun R rest => by kernel_rfl)) (op_go hT fun R rest => by kernel_rfl)) (fun R rest h => ak_idx0 hT (i := IntKind.wrap .i64 (x1_3 - 1)) (n := (a0.length : Int)) h8.1 h8.2 (by kernel_rfl) h)) (op_go hT fun R rest => by kernel_rfl)) (op_go hT fun R rest => by kernel_rfl)) (op_go hT fun R rest => by kernel_rfl)) (op_go hT fun R rest => by kernel_rfl)) ?_
                refine go hT 1 [0, 3, 55] (k' := K28 [1, 0, 1, 0, 0, 1, 0, 0, 1, 1]) (st' := ⟨56, [(0, .d (.sl t0 a0.length (vec spliceref04_Pair.e spliceref04_Pair.z a0))), (3, .i x1_3), (55, .b (decide (((a0.getD x1_3.toNat spliceref04_Pair.z).Key) ≤ ((a0.getD ((IntKind.wrap .i64 (x1_3 - 1)).toNat) spliceref04_Pair.z).Key))))], []⟩) (by kernel_rfl) ?_
                refine ak_cut [0, 3, 55] [] (st' := ⟨56, [(0, .d (.sl t0 a0.length (vec spliceref04_Pair.e spliceref04_Pair.z a0))), (3, .i x1_3), (55, .b (decide (((a0.getD x1_3.toNat spliceref04_Pair.z).Key) ≤ ((a0.getD ((IntKind.wrap .i64 (x1_3 - 1)).toNat) spliceref04_Pair.z).Key))))], []⟩) (by kernel_rfl) (by kernel_rfl) rfl (by decide) (by rw [h0]; rfl) ?_
                exact Jj2 (decide (((a0.getD x1_3.toNat spliceref04_Pair.z).Key) ≤ ((a0.getD ((IntKind.wrap .i64 (x1_3 - 1)).toNat) spliceref04_Pair.z).Key))) H
              · replace H := iteF (K := fun o => stk o (iter (spliceref05_Check.step a0) n)) c7 H
                refine ak_drawAt (nt := 56) (rows := []) (hP ▸ mixed) 16 [0, 3] [(0, .d (.sl t0 a0.length (vec spliceref04_Pair.e spliceref04_Pair.z a0))), (3, .i x1_3)] [some (.i x1_3), some (.b false), some (.b false), some (.tup []), some (.tup []), some (.tup []), some (.tup []), some (.tup []), some (.tup []), some (.tup []), some (.tup []), some (.tup []), some (.tup []), some (.tup []), some (.tup []), some (.b false)] (by kernel_rfl) (by kernel_rfl) (by kernel_rfl) (opS (opS (opS (opS (opS (opS (opS (opS (opS (opS (opS (opS (opS (opS (opS (opS op0 (op_go hT fun R rest => by kernel_rfl)) (op_goE hT (st' := fun R rest => ⟨56, (41, .b (decide (x1_3 > 0))) :: needOf (opsAt (K28 [1, 0, 1, 0, 0, 1, 0, 0, 1, 0])) [(0, .d (.sl t0 a0.length (vec spliceref04_Pair.e spliceref04_Pair.z a0))), (3, .i x1_3)] [some (.i x1_3), some (.b false), some (.b false), some (.tup []), some (.tup []), some (.tup []), some (.tup []), some (.tup []), some (.tup []), some (.tup []), some (.tup []), some (.tup []), some (.tup []), some (.tup []), some (.tup []), some (.b false)] 1 ++ rest, []⟩) (fun R rest => by kernel_rfl) (fun R rest => by rw [decide_eq_false c7]; first | done | rfl))) (op_go hT fun R rest => by kernel_rfl)) (op_go hT fun R rest => by kernel_rfl)) (op_go hT fun R rest => by kernel_rfl)) (op_go hT fun R rest => by kernel_rfl)) (op_go hT fun R rest => by kernel_rfl)) (op_go hT fun R rest => by kernel_rfl)) (op_go hT fun R rest => by kernel_rfl)) (op_go hT fun R rest => by kernel_rfl)) (op_go hT fun R rest => by kernel_rfl)) (op_go hT fun R rest => by kernel_rfl)) (op_go hT fun R rest => by kernel_rfl)) (op_go hT fun R rest => by kernel_rfl)) (op_go hT fun R rest => by kernel_rfl)) (op_go hT fun R rest => by kernel_rfl)) ?_
                refine go hT 1 [0, 3, 55] (k' := K28 [1, 0, 1, 0, 0, 1, 0, 0, 1, 1]) (st' := ⟨56, [(0, .d (.sl t0 a0.length (vec spliceref04_Pair.e spliceref04_Pair.z a0))), (3, .i x1_3), (55, .b false)], []⟩) (by kernel_rfl) ?_
                refine ak_cut [0, 3, 55] [] (st' := ⟨56, [(0, .d (.sl t0 a0.length (vec spliceref04_Pair.e spliceref04_Pair.z a0))), (3, .i x1_3), (55, .b false)], []⟩) (by kernel_rfl) (by kernel_rfl) rfl (by decide) (by rw [h0]; rfl) ?_
                exact Jj2 false H
          refine ak_idx hT [0, 3, 12] (i := x1_3) (n := (a0.length : Int)) h2.1 h2.2 (k' := K28 [1, 0, 1, 0, 0, 1, 0, 0, 0, 0, 3]) (st' := ⟨56, [(0, .d (.sl t0 a0.length (vec spliceref04_Pair.e spliceref04_Pair.z a0))), (3, .i x1_3), (12, .d (.rop t0 a0.length (vec spliceref04_Pair.e spliceref04_Pair.z a0) x1_3.toNat 0))], []⟩) (by kernel_rfl) ?_
          refine go hT 4 [0, 3, 16] (k' := K28 [1, 0, 1, 0, 0, 1, 0, 0, 0, 0, 7]) (st' := ⟨56, [(0, .d (.sl t0 a0.length (vec spliceref04_Pair.e spliceref04_Pair.z a0))), (3, .i x1_3), (16, .b (decide (((a0.getD x1_3.toNat spliceref04_Pair.z).Key) < 0)))], []⟩) (by kernel_rfl) ?_
          by_cases c3 : ((a0.getD x1_3.toNat spliceref04_Pair.z).Key) < 0
          · replace H := iteT (K := fun o => stk o (iter (spliceref05_Check.step a0) n)) c3 H
            rw [decide_eq_true c3]
            refine go hT 24 [0, 3, 39] (k' := K28 [1, 0, 1, 0, 0, 1, 0, 0, 0, 1]) (st' := ⟨56, [(0, .d (.sl t0 a0.length (vec spliceref04_Pair.e spliceref04_Pair.z a0))), (3, .i x1_3), (39, .b true)], []⟩) (by kernel_rfl) ?_
            refine ak_cut [0, 3, 39] [] (st' := ⟨56, [(0, .d (.sl t0 a0.length (vec spliceref04_Pair.e spliceref04_Pair.z a0))), (3, .i x1_3), (39, .b true)], []⟩) (by kernel_rfl) (by kernel_rfl) rfl (by decide) (by rw [h0]; rfl) ?_
            exact Jj1 true H
          · replace H := iteF (K := fun o => stk o (iter (spliceref05_Check.step a0) n)) c3 H
            rw [decide_eq_false c3]
            refine go hT 2 [0, 3, 16, 17, 18] (k' := K28 [1, 0, 1, 0, 0, 1, 0, 0, 0, 0, 9]) (st' := ⟨56, [(0, .d (.sl t0 a0.length (vec spliceref04_Pair.e spliceref04_Pair.z a0))), (3, .i x1_3), (16, .b false), (17, .d (.sl t0 a0.length (vec spliceref04_Pair.e spliceref04_Pair.z a0))), (18, .i x1_3)], []⟩) (by kernel_rfl) ?_
            refine ak_idx hT [0, 3, 16, 19] (i := x1_3) (n := (a0.length : Int)) h2.1 h2.2 (k' := K28 [1, 0, 1, 0, 0, 1, 0, 0, 0, 0, 10]) (st' := ⟨56, [(0, .d (.sl t0 a0.length (vec spliceref04_Pair.e spliceref04_Pair.z a0))), (3, .i x1_3), (16, .b false), (19, .d (.rop t0 a0.length (vec spliceref04_Pair.e spliceref04_Pair.z a0) x1_3.toNat 0))], []⟩) (by kernel_rfl) ?_
            refine go hT 5 [0, 3, 24] (k' := K28 [1, 0, 1, 0, 0, 1, 0, 0, 0, 0, 15]) (st' := ⟨56, [(0, .d (.sl t0 a0.length (vec spliceref04_Pair.e spliceref04_Pair.z a0))), (3, .i x1_3), (24, .b (decide (((a0.getD x1_3.toNat spliceref04_Pair.z).Key) > 4095)))], []⟩) (by kernel_rfl) ?_
            by_cases c4 : ((a0.getD x1_3.toNat spliceref04_Pair.z).Key) > 4095
            · replace H := iteT (K := fun o => stk o (iter (spliceref05_Check.step a0) n)) c4 H
              rw [decide_eq_true c4]
              refine go hT 16 [0, 3, 39] (k' := K28 [1, 0, 1, 0, 0, 1, 0, 0, 0, 1]) (st' := ⟨56, [(0, .d (.sl t0 a0.length (vec spliceref04_Pair.e spliceref04_Pair.z a0))), (3, .i x1_3), (39, .b true)], []⟩) (by kernel_rfl) ?_
              refine ak_cut [0, 3, 39] [] (st' := ⟨56, [(0, .d (.sl t0 a0.length (vec spliceref04_Pair.e spliceref04_Pair.z a0))), (3, .i x1_3), (39, .b true)], []⟩) (by kernel_rfl) (by kernel_rfl) rfl (by decide) (by rw [h0]; rfl) ?_
              exact Jj1 true H
            · replace H := iteF (K := fun o => stk o (iter (spliceref05_Check.step a0) n)) c4 H
              rw [decide_eq_false c4]
              refine go hT 2 [0, 3, 24, 25, 26] (k' := K28 [1, 0, 1, 0, 0, 1, 0, 0, 0, 0, 17]) (st' := ⟨56, [(0, .d (.sl t0 a0.length (vec spliceref04_Pair.e spliceref04_Pair.z a0))), (3, .i x1_3), (24, .b false), (25, .d (.sl t0 a0.length (vec spliceref04_Pair.e spliceref04_Pair.z a0))), (26, .i x1_3)], []⟩) (by kernel_rfl) ?_
              refine ak_idx hT [0, 3, 24, 27] (i := x1_3) (n := (a0.length : Int)) h2.1 h2.2 (k' := K28 [1, 0, 1, 0, 0, 1, 0, 0, 0, 0, 18]) (st' := ⟨56, [(0, .d (.sl t0 a0.length (vec spliceref04_Pair.e spliceref04_Pair.z a0))), (3, .i x1_3), (24, .b false), (27, .d (.rop t0 a0.length (vec spliceref04_Pair.e spliceref04_Pair.z a0) x1_3.toNat 0))], []⟩) (by kernel_rfl) ?_
              refine go hT 5 [0, 3, 32] (k' := K28 [1, 0, 1, 0, 0, 1, 0, 0, 0, 0, 23]) (st' := ⟨56, [(0, .d (.sl t0 a0.length (vec spliceref04_Pair.e spliceref04_Pair.z a0))), (3, .i x1_3), (32, .b (decide (((a0.getD x1_3.toNat spliceref04_Pair.z).Val) < (-1099511627776))))], []⟩) (by kernel_rfl) ?_
              by_cases c5 : ((a0.getD x1_3.toNat spliceref04_Pair.z).Val) < (-1099511627776)
              · replace H := iteT (K := fun o => stk o (iter (spliceref05_Check.step a0) n)) c5 H
                rw [decide_eq_true c5]
                refine go hT 8 [0, 3, 39] (k' := K28 [1, 0, 1, 0, 0, 1, 0, 0, 0, 1]) (st' := ⟨56, [(0, .d (.sl t0 a0.length (vec spliceref04_Pair.e spliceref04_Pair.z a0))), (3, .i x1_3), (39, .b true)], []⟩) (by kernel_rfl) ?_
                refine ak_cut [0, 3, 39] [] (st' := ⟨56, [(0, .d (.sl t0 a0.length (vec spliceref04_Pair.e spliceref04_Pair.z a0))), (3, .i x1_3), (39, .b true)], []⟩) (by kernel_rfl) (by kernel_rfl) rfl (by decide) (by rw [h0]; rfl) ?_
                exact Jj1 true H
              · replace H := iteF (K := fun o => stk o (iter (spliceref05_Check.step a0) n)) c5 H
                rw [decide_eq_false c5]
                refine go hT 2 [0, 3, 32, 33, 34] (k' := K28 [1, 0, 1, 0, 0, 1, 0, 0, 0, 0, 25]) (st' := ⟨56, [(0, .d (.sl t0 a0.length (vec spliceref04_Pair.e spliceref04_Pair.z a0))), (3, .i x1_3), (32, .b false), (33, .d (.sl t0 a0.length (vec spliceref04_Pair.e spliceref04_Pair.z a0))), (34, .i x1_3)], []⟩) (by kernel_rfl) ?_
                refine ak_idx hT [0, 3, 32, 35] (i := x1_3) (n := (a0.length : Int)) h2.1 h2.2 (k' := K28 [1, 0, 1, 0, 0, 1, 0, 0, 0, 0, 26]) (st' := ⟨56, [(0, .d (.sl t0 a0.length (vec spliceref04_Pair.e spliceref04_Pair.z a0))), (3, .i x1_3), (32, .b false), (35, .d (.rop t0 a0.length (vec spliceref04_Pair.e spliceref04_Pair.z a0) x1_3.toNat 0))], []⟩) (by kernel_rfl) ?_
                refine go hT 5 [0, 3, 39] (k' := K28 [1, 0, 1, 0, 0, 1, 0, 0, 0, 1]) (st' := ⟨56, [(0, .d (.sl t0 a0.length (vec spliceref04_Pair.e spliceref04_Pair.z a0))), (3, .i x1_3), (39, .b (decide (((a0.getD x1_3.toNat spliceref04_Pair.z).Val) > 1099511627776)))], []⟩) (by kernel_rfl) ?_
                refine ak_cut [0, 3, 39] [] (st' := ⟨56, [(0, .d (.sl t0 a0.length (vec spliceref04_Pair.e spliceref04_Pair.z a0))), (3, .i x1_3), (39, .b (decide (((a0.getD x1_3.toNat spliceref04_Pair.z).Val) > 1099511627776)))], []⟩) (by kernel_rfl) (by kernel_rfl) rfl (by decide) (by rw [h0]; rfl) ?_
                exact Jj1 (decide (((a0.getD x1_3.toNat spliceref04_Pair.z).Val) > 1099511627776)) H
        · replace H := iteF (K := fun o => stk o (iter (spliceref05_Check.step a0) n)) c1 H
          rw [decide_eq_false c1]
          refine go hT 6 [2] (k' := K28 [1, 1, 1]) (st' := ⟨56, [(2, .b true)], []⟩) (by kernel_rfl) ?_
          obtain rfl := retC H
          exact ak_ret hf hX (av := .b true) (by kernel_rfl) [] (sel_of_eq (by kernel_rfl)) (by decide) (by rw [h0]; rfl) (by kernel_rfl) (fun _ h => all_nil h) (.d (.v _))
  refine ak_cut [0, 3] [] (st' := ⟨56, [(0, .d (.sl t0 a0.length (vec spliceref04_Pair.e spliceref04_Pair.z a0))), (3, .i 0)], []⟩) (by kernel_rfl) (by kernel_rfl) rfl (by decide) (by rw [h0]; rfl) ?_
  obtain ⟨n, H⟩ := loopC H
  exact (L n) 0 H


theorem spliceref04_Touches.says (a0 : spliceref04_Mut) (a1 : Int) {r : Bool} (H : spliceref04_Touches a0 a1 = some r) : Says Try.prog 30 [] [.d (.agg (spliceref04_Mut.e a0)), .i a1] [] (.b r) := by
  refine says_of Try.func30 rfl (nt := 36) rfl (Nat.le_of_ble_eq_true rfl) fun X hP h0 hX => ?_
  have hT : TabOk X.P T := hP ▸ tok
  have hf : X.P.funcs[30]? = some Try.f30 := hP ▸ Try.func30
  refine go hT 12 [1, 2, 8] (k' := K30 [1, 0, 1]) (st' := ⟨36, [(1, .i a1), (2, .ptr 0 0 0 0), (8, .b (a0.Kind == 2))], [.box 38 [.i a0.Client, .i a0.Seq, .i a0.Kind, .d (.sl true a0.Pairs.length (vec spliceref04_Pair.e spliceref04_Pair.z a0.Pairs)), .i a0.Over.Lo, .i a0.Over.Hi, .i a0.Old]]⟩) (by kernel_rfl) ?_
  by_cases c1 : a0.Kind = 2
  · replace H := iteT (K := fun o => o) c1 H
    have Jj1 : ∀ (y1_4 : Bool), (spliceref04_Touches.j1 y1_4) = some r → AK X 30 (K30 [1, 0, 1, 0, 1]) (Back X [] (.b r)) ⟨36, [(4, .b y1_4)], []⟩ := by
      intro y1_4 H
      obtain rfl := retC H
      exact ak_ret hf hX (av := .b y1_4) (by kernel_rfl) [] (sel_of_eq (by kernel_rfl)) (by decide) (by rw [h0]; rfl) (by kernel_rfl) (fun _ h => all_nil h) (.d (.v _))
    rw [eqT c1]
    refine go hT 9 [1, 2, 14] (k' := K30 [1, 0, 1, 0, 0, 6]) (st' := ⟨36, [(1, .i a1), (2, .ptr 0 0 0 0), (14, .b (decide (a1 ≥ a0.Over.Lo)))], [.box 38 [.i a0.Client, .i a0.Seq, .i a0.Kind, .d (.sl true a0.Pairs.length (vec spliceref04_Pair.e spliceref04_Pair.z a0.Pairs)), .i a0.Over.Lo, .i a0.Over.Hi, .i a0.Old]]⟩) (by kernel_rfl) ?_
    by_cases c2 : a1 ≥ a0.Over.Lo
    · replace H := iteT (K := fun o => o) c2 H
      rw [decide_eq_true c2]
      refine go hT 8 [4] (k' := K30 [1, 0, 1, 0, 1]) (st' := ⟨36, [(4, .b (decide (a1 < a0.Over.Hi)))], [.box 38 [.i a0.Client, .i a0.Seq, .i a0.Kind, .d (.sl true a0.Pairs.length (vec spliceref04_Pair.e spliceref04_Pair.z a0.Pairs)), .i a0.Over.Lo, .i a0.Over.Hi, .i a0.Old]]⟩) (by kernel_rfl) ?_
      refine ak_cut [4] [] (st' := ⟨36, [(4, .b (decide (a1 < a0.Over.Hi)))], []⟩) (by kernel_rfl) (by kernel_rfl) rfl (by decide) (by rw [h0]; rfl) ?_
      exact Jj1 (decide (a1 < a0.Over.Hi)) H
    · replace H := iteF (K := fun o => o) c2 H
      rw [decide_eq_false c2]
      refine go hT 8 [4] (k' := K30 [1, 0, 1, 0, 1]) (st' := ⟨36, [(4, .b false)], [.box 38 [.i a0.Client, .i a0.Seq, .i a0.Kind, .d (.sl true a0.Pairs.length (vec spliceref04_Pair.e spliceref04_Pair.z a0.Pairs)), .i a0.Over.Lo, .i a0.Over.Hi, .i a0.Old]]⟩) (by kernel_rfl) ?_
      refine ak_cut [4] [] (st' := ⟨36, [(4, .b false)], []⟩) (by kernel_rfl) (by kernel_rfl) rfl (by decide) (by rw [h0]; rfl) ?_
      exact Jj1 false H
  · replace H := iteF (K := fun o => o) c1 H
    rw [eqF c1]
    refine go hT 2 [1, 2] (k' := K30 [1, 1]) (st' := ⟨36, [(1, .i a1), (2, .ptr 0 0 0 0)], [.box 38 [.i a0.Client, .i a0.Seq, .i a0.Kind, .d (.sl true a0.Pairs.length (vec spliceref04_Pair.e spliceref04_Pair.z a0.Pairs)), .i a0.Over.Lo, .i a0.Over.Hi, .i a0.Old]]⟩) (by kernel_rfl) ?_
    refine go hT 7 [1, 2, 5] (k' := K30 [1, 1, 0, 1, 0, 0]) (st' := ⟨36, [(1, .i a1), (2, .ptr 0 0 0 0), (5, .i 0)], [.box 38 [.i a0.Client, .i a0.Seq, .i a0.Kind, .d (.sl true a0.Pairs.length (vec spliceref04_Pair.e spliceref04_Pair.z a0.Pairs)), .i a0.Over.Lo, .i a0.Over.Hi, .i a0.Old]]⟩) (by kernel_rfl) ?_
    have L : ∀ n, (∀ (x1_5 : Int), iter (spliceref04_Touches.step a0 a1) n (.l1 x1_5) = some r → AK X 30 (K30 [1, 1, 0, 1, 0, 0]) (Back X [] (.b r)) ⟨36, [(1, .i a1), (2, .ptr 0 0 0 0), (5, .i x1_5)], [.box 38 [.i a0.Client, .i a0.Seq, .i a0.Kind, .d (.sl true a0.Pairs.length (vec spliceref04_Pair.e spliceref04_Pair.z a0.Pairs)), .i a0.Over.Lo, .i a0.Over.Hi, .i a0.Old]]⟩) := by
      intro n
      induction n with
      | zero => exact fun _ H => iter0 H
      | succ n ih =>
        · intro x1_5 H
          refine go hT 9 [1, 2, 5, 25] (k' := K30 [1, 1, 0, 1, 0, 0, 0, 1]) (st' := ⟨36, [(1, .i a1), (2, .ptr 0 0 0 0), (5, .i x1_5), (25, .b (decide (x1_5 < (a0.Pairs.length : Int))))], [.box 38 [.i a0.Client, .i a0.Seq, .i a0.Kind, .d (.sl true a0.Pairs.length (vec spliceref04_Pair.e spliceref04_Pair.z a0.Pairs)), .i a0.Over.Lo, .i a0.Over.Hi, .i a0.Old]]⟩) (by kernel_rfl) ?_
          by_cases c3 : x1_5 < (a0.Pairs.length : Int)
          · replace H := iteT (K := fun o => stk o (iter (spliceref04_Touches.step a0 a1) n)) c3 H
            rw [decide_eq_true c3]
            refine go hT 2 [1, 2, 5] (k' := K30 [1, 1, 0, 1, 0, 0, 1]) (st' := ⟨36, [(1, .i a1), (2, .ptr 0 0 0 0), (5, .i x1_5)], [.box 38 [.i a0.Client, .i a0.Seq, .i a0.Kind, .d (.sl true a0.Pairs.length (vec spliceref04_Pair.e spliceref04_Pair.z a0.Pairs)), .i a0.Over.Lo, .i a0.Over.Hi, .i a0.Old]]⟩) (by kernel_rfl) ?_
            refine go hT 7 [1, 2, 5, 29, 30] (k' := K30 [1, 1, 0, 1, 0, 0, 1, 0, 0, 0, 3]) (st' := ⟨36, [(1, .i a1), (2, .ptr 0 0 0 0), (5, .i x1_5), (29, .d (.sl true a0.Pairs.length (vec spliceref04_Pair.e spliceref04_Pair.z a0.Pairs))), (30, .i x1_5)], [.box 38 [.i a0.Client, .i a0.Seq, .i a0.Kind, .d (.sl true a0.Pairs.length (vec spliceref04_Pair.e spliceref04_Pair.z a0.Pairs)), .i a0.Over.Lo, .i a0.Over.Hi, .i a0.Old]]⟩) (by kernel_rfl) ?_
            obtain ⟨h4, H⟩ := iteC (K := fun o => stk o (iter (spliceref04_Touches.step a0 a1) n)) rfl H
            refine ak_idx hT [1, 2, 5, 31] (i := x1_5) (n := (a0.Pairs.length : Int)) h4.1 h4.2 (k' := K30 [1, 1, 0, 1, 0, 0, 1, 0, 0, 0, 4]) (st' := ⟨36, [(1, .i a1), (2, .ptr 0 0 0 0), (5, .i x1_5), (31, .d (.rop true a0.Pairs.length (vec spliceref04_Pair.e spliceref04_Pair.z a0.Pairs) x1_5.toNat 0))], [.box 38 [.i a0.Client, .i a0.Seq, .i a0.Kind, .d (.sl true a0.Pairs.length (vec spliceref04_Pair.e spliceref04_Pair.z a0.Pairs)), .i a0.Over.Lo, .i a0.Over.Hi, .i a0.Old]]⟩) (by kernel_rfl) ?_
            refine go hT 5 [1, 2, 5, 35] (k' := K30 [1, 1, 0, 1, 0, 0, 1, 0, 0, 1]) (st' := ⟨36, [(1, .i a1), (2, .ptr 0 0 0 0), (5, .i x1_5), (35, .b (((a0.Pairs.getD x1_5.toNat spliceref04_Pair.z).Key) == a1))], [.box 38 [.i a0.Client, .i a0.Seq, .i a0.Kind, .d (.sl true a0.Pairs.length (vec spliceref04_Pair.e spliceref04_Pair.z a0.Pairs)), .i a0.Over.Lo, .i a0.Over.Hi, .i a0.Old]]⟩) (by kernel_rfl) ?_
            by_cases c5 : ((a0.Pairs.getD x1_5.toNat spliceref04_Pair.z).Key) = a1
            · replace H := iteT (K := fun o => stk o (iter (spliceref04_Touches.step a0 a1) n)) c5 H
              rw [eqT c5]
              refine go hT 5 [4] (k' := K30 [1, 1, 0, 1, 0, 0, 1, 0, 0, 1, 0, 1]) (st' := ⟨36, [(4, .b true)], [.box 38 [.i a0.Client, .i a0.Seq, .i a0.Kind, .d (.sl true a0.Pairs.length (vec spliceref04_Pair.e spliceref04_Pair.z a0.Pairs)), .i a0.Over.Lo, .i a0.Over.Hi, .i a0.Old]]⟩) (by kernel_rfl) ?_
              obtain rfl := retC H
              exact ak_ret hf hX (av := .b true) (by kernel_rfl) [] (sel_of_eq (by kernel_rfl)) (by decide) (by rw [h0]; rfl) (by kernel_rfl) (fun _ h => all_nil h) (.d (.v _))
            · replace H := iteF (K := fun o => stk o (iter (spliceref04_Touches.step a0 a1) n)) c5 H
              rw [eqF c5]
              refine go hT 3 [1, 2, 5] (k' := K30 [1, 1, 0, 1, 0, 0, 1, 1]) (st' := ⟨36, [(1, .i a1), (2, .ptr 0 0 0 0), (5, .i x1_5)], [.box 38 [.i a0.Client, .i a0.Seq, .i a0.Kind, .d (.sl true a0.Pairs.length (vec spliceref04_Pair.e spliceref04_Pair.z a0.Pairs)), .i a0.Over.Lo, .i a0.Over.Hi, .i a0.Old]]⟩) (by kernel_rfl) ?_
              refine go hT 6 [1, 2, 5] (k' := K30 [1, 1, 0, 1, 0, 0]) (st' := ⟨36, [(1, .i a1), (2, .ptr 0 0 0 0), (5, .i (IntKind.wrap .i64 (x1_5 + 1)))], [.box 38 [.i a0.Client, .i a0.Seq, .i a0.Kind, .d (.sl true a0.Pairs.length (vec spliceref04_Pair.e spliceref04_Pair.z a0.Pairs)), .i a0.Over.Lo, .i a0.Over.Hi, .i a0.Old]]⟩) (by kernel_rfl) ?_
              refine ak_cut [1, 2, 5] [0] (st' := ⟨36, [(1, .i a1), (2, .ptr 0 0 0 0), (5, .i (IntKind.wrap .i64 (x1_5 + 1)))], [.box 38 [.i a0.Client, .i a0.Seq, .i a0.Kind, .d (.sl true a0.Pairs.length (vec spliceref04_Pair.e spliceref04_Pair.z a0.Pairs)), .i a0.Over.Lo, .i a0.Over.Hi, .i a0.Old]]⟩) (by kernel_rfl) (by kernel_rfl) rfl (by decide) (by rw [h0]; rfl) ?_
              exact ih (IntKind.wrap .i64 (x1_5 + 1)) H
          · replace H := iteF (K := fun o => stk o (iter (spliceref04_Touches.step a0 a1) n)) c3 H
            rw [decide_eq_false c3]
            refine go hT 6 [4] (k' := K30 [1, 1, 1, 1]) (st' := ⟨36, [(4, .b false)], [.box 38 [.i a0.Client, .i a0.Seq, .i a0.Kind, .d (.sl true a0.Pairs.length (vec spliceref04_Pair.e spliceref04_Pair.z a0.Pairs)), .i a0.Over.Lo, .i a0.Over.Hi, .i a0.Old]]⟩) (by kernel_rfl) ?_
            obtain rfl := retC H
            exact ak_ret hf hX (av := .b false) (by kernel_rfl) [] (sel_of_eq (by kernel_rfl)) (by decide) (by rw [h0]; rfl) (by kernel_rfl) (fun _ h => all_nil h) (.d (.v _))
    refine ak_cut [1, 2, 5] [0] (st' := ⟨36, [(1, .i a1), (2, .ptr 0 0 0 0), (5, .i 0)], [.box 38 [.i a0.Client, .i a0.Seq, .i a0.Kind, .d (.sl true a0.Pairs.length (vec spliceref04_Pair.e spliceref04_Pair.z a0.Pairs)), .i a0.Over.Lo, .i a0.Over.Hi, .i a0.Old]]⟩) (by kernel_rfl) (by kernel_rfl) rfl (by decide) (by rw [h0]; rfl) ?_
    obtain ⟨n, H⟩ := loopC H
    exact (L n) 0 H


theorem spliceref04_value.says (a0 : Int) : Says Try.prog 85 [] [.i a0] [] (.b (spliceref04_value a0)) := by
  obtain ⟨r, H⟩ : ∃ r, spliceref04_value a0 = r := ⟨_, rfl⟩
  rw [H]
  refine says_of Try.func85 rfl (nt := 9) rfl (Nat.le_of_ble_eq_true rfl) fun X hP h0 hX => ?_
  have hT : TabOk X.P T := hP ▸ tok
  have hf : X.P.funcs[85]? = some Try.f85 := hP ▸ Try.func85
  have Jj1 : ∀ (y1_2 : Bool), (spliceref04_value.j1 y1_2) = r → AK X 85 (K85 [1, 1]) (Back X [] (.b r)) ⟨9, [(2, .b y1_2)], []⟩ := by
    intro y1_2 H
    obtain rfl := H
    exact ak_ret hf hX (av := .b y1_2) (by kernel_rfl) [] (sel_of_eq (by kernel_rfl)) (by decide) (by rw [h0]; rfl) (by kernel_rfl) (fun _ h => all_nil h) (.d (.v _))
  refine go hT 9 [0, 5] (k' := K85 [1, 0, 3]) (st' := ⟨9, [(0, .i a0), (5, .b (decide (a0 ≥ (-1099511627776))))], []⟩) (by kernel_rfl) ?_
  by_cases c1 : a0 ≥ (-1099511627776)
  · replace H := iteT (K := fun o => o) c1 H
    rw [decide_eq_true c1]
    refine go hT 5 [2] (k' := K85 [1, 1]) (st' := ⟨9, [(2, .b (decide (a0 ≤ 1099511627776)))], []⟩) (by kernel_rfl) ?_
    refine ak_cut [2] [] (st' := ⟨9, [(2, .b (decide (a0 ≤ 1099511627776)))], []⟩) (by kernel_rfl) (by kernel_rfl) rfl (by decide) (by rw [h0]; rfl) ?_
    exact Jj1 (decide (a0 ≤ 1099511627776)) H
  · replace H := iteF (K := fun o => o) c1 H
    rw [decide_eq_false c1]
    refine go hT 5 [2] (k' := K85 [1, 1]) (st' := ⟨9, [(2, .b false)], []⟩) (by kernel_rfl) ?_
    refine ak_cut [2] [] (st' := ⟨9, [(2, .b false)], []⟩) (by kernel_rfl) (by kernel_rfl) rfl (by decide) (by rw [h0]; rfl) ?_
    exact Jj1 false H


theorem spliceref04_pairs.says {t0 : Bool} (a0 : List spliceref04_Pair) (a1 : Int) (a2 : Int) {r : Bool} (H : spliceref04_pairs a0 a1 a2 = some r) : Says Try.prog 84 [] [.d (.sl t0 a0.length (vec spliceref04_Pair.e spliceref04_Pair.z a0)), .i a1, .i a2] [] (.b r) := by
  refine says_of Try.func84 rfl (nt := 47) rfl (Nat.le_of_ble_eq_true rfl) fun X hP h0 hX => ?_
  have hT : TabOk X.P T := hP ▸ tok
  have hf : X.P.funcs[84]? = some Try.f84 := hP ▸ Try.func84
  have Jj1 : ∀ (y1_17 : Bool), (spliceref04_pairs.j1 a0 y1_17) = some r → AK X 84 (K84 [1, 0, 1]) (Back X [] (.b r)) ⟨47, [(0, .d (.sl t0 a0.length (vec spliceref04_Pair.e spliceref04_Pair.z a0))), (17, .b y1_17)], []⟩ := by
    intro y1_17 H
    by_cases c2 : y1_17 = true
    · replace H := iteT (K := fun o => o) c2 H
      rw [c2]
      refine go hT 5 [6] (k' := K84 [1, 0, 1, 0, 1]) (st' := ⟨47, [(6, .b false)], []⟩) (by kernel_rfl) ?_
      obtain rfl := retC H
      exact ak_ret hf hX (av := .b false) (by kernel_rfl) [] (sel_of_eq (by kernel_rfl)) (by decide) (by rw [h0]; rfl) (by kernel_rfl) (fun _ h => all_nil h) (.d (.v _))
    · replace H := iteF (K := fun o => o) c2 H
      rw [boF c2]
      refine go hT 2 [0] (k' := K84 [1, 1]) (st' := ⟨47, [(0, .d (.sl t0 a0.length (vec spliceref04_Pair.e spliceref04_Pair.z a0)))], []⟩) (by kernel_rfl) ?_
      refine go hT 7 [0, 7] (k' := K84 [1, 1, 0, 1, 0, 0]) (st' := ⟨47, [(0, .d (.sl t0 a0.length (vec spliceref04_Pair.e spliceref04_Pair.z a0))), (7, .i 0)], []⟩) (by kernel_rfl) ?_
      have L : ∀ n, (∀ (x1_7 : Int), iter (spliceref04_pairs.step a0) n (.l1 x1_7) = some r → AK X 84 (K84 [1, 1, 0, 1, 0, 0]) (Back X [] (.b r)) ⟨47, [(0, .d (.sl t0 a0.length (vec spliceref04_Pair.e spliceref04_Pair.z a0))), (7, .i x1_7)], []⟩) := by
        intro n
        induction n with
        | zero => exact fun _ H => iter0 H
        | succ n ih =>
          · intro x1_7 H
            refine go hT 8 [0, 7, 21] (k' := K84 [1, 1, 0, 1, 0, 0, 0, 1]) (st' := ⟨47, [(0, .d (.sl t0 a0.length (vec spliceref04_Pair.e spliceref04_Pair.z a0))), (7, .i x1_7), (21, .b (decide (x1_7 < (a0.length : Int))))], []⟩) (by kernel_rfl) ?_
            by_cases c3 : x1_7 < (a0.length : Int)
            · replace H := iteT (K := fun o => stk o (iter (spliceref04_pairs.step a0) n)) c3 H
              rw [decide_eq_true c3]
              refine go hT 2 [0, 7] (k' := K84 [1, 1, 0, 1, 0, 0, 1]) (st' := ⟨47, [(0, .d (.sl t0 a0.length (vec spliceref04_Pair.e spliceref04_Pair.z a0))), (7, .i x1_7)], []⟩) (by kernel_rfl) ?_
              refine go hT 6 [0, 7, 24, 25] (k' := K84 [1, 1, 0, 1, 0, 0, 1, 0, 0, 0, 2]) (st' := ⟨47, [(0, .d (.sl t0 a0.length (vec spliceref04_Pair.e spliceref04_Pair.z a0))), (7, .i x1_7), (24, .d (.sl t0 a0.length (vec spliceref04_Pair.e spliceref04_Pair.z a0))), (25, .i x1_7)], []⟩) (by kernel_rfl) ?_
              obtain ⟨h4, H⟩ := iteC (K := fun o => stk o (iter (spliceref04_pairs.step a0) n)) rfl H
              have Jj2 : ∀ (y2_46 : Bool), stk (spliceref04_pairs.j2 x1_7 y2_46) (iter (spliceref04_pairs.step a0) n) = some r → AK X 84 (K84 [1, 1, 0, 1, 0, 0, 1, 0, 0, 1]) (Back X [] (.b r)) ⟨47, [(0, .d (.sl t0 a0.length (vec spliceref04_Pair.e spliceref04_Pair.z a0))), (7, .i x1_7), (46, .b y2_46)], []⟩ := by
                intro y2_46 H
                by_cases c7 : y2_46 = true
                · replace H := iteT (K := fun o => stk o (iter (spliceref04_pairs.step a0) n)) c7 H
                  rw [c7]
                  refine go hT 5 [6] (k' := K84 [1, 1, 0, 1, 0, 0, 1, 0, 0, 1, 0, 1]) (st' := ⟨47, [(6, .b false)], []⟩) (by kernel_rfl) ?_
                  obtain rfl := retC H
                  exact ak_ret hf hX (av := .b false) (by kernel_rfl) [] (sel_of_eq (by kernel_rfl)) (by decide) (by rw [h0]; rfl) (by kernel_rfl) (fun _ h => all_nil h) (.d (.v _))
                · replace H := iteF (K := fun o => stk o (iter (spliceref04_pairs.step a0) n)) c7 H
                  rw [boF c7]
                  refine go hT 3 [0, 7] (k' := K84 [1, 1, 0, 1, 0, 0, 1, 1]) (st' := ⟨47, [(0, .d (.sl t0 a0.length (vec spliceref04_Pair.e spliceref04_Pair.z a0))), (7, .i x1_7)], []⟩) (by kernel_rfl) ?_
                  refine go hT 6 [0, 7] (k' := K84 [1, 1, 0, 1, 0, 0]) (st' := ⟨47, [(0, .d (.sl t0 a0.length (vec spliceref04_Pair.e spliceref04_Pair.z a0))), (7, .i (IntKind.wrap .i64 (x1_7 + 1)))], []⟩) (by kernel_rfl) ?_
                  refine ak_cut [0, 7] [] (st' := ⟨47, [(0, .d (.sl t0 a0.length (vec spliceref04_Pair.e spliceref04_Pair.z a0))), (7, .i (IntKind.wrap .i64 (x1_7 + 1)))], []⟩) (by kernel_rfl) (by kernel_rfl) rfl (by decide) (by rw [h0]; rfl) ?_
                  exact ih (IntKind.wrap .i64 (x1_7 + 1)) H
              refine ak_idx hT [0, 7, 26] (i := x1_7) (n := (a0.length : Int)) h4.1 h4.2 (k' := K84 [1, 1, 0, 1, 0, 0, 1, 0, 0, 0, 3]) (st' := ⟨47, [(0, .d (.sl t0 a0.length (vec spliceref04_Pair.e spliceref04_Pair.z a0))), (7, .i x1_7), (26, .d (.rop t0 a0.length (vec spliceref04_Pair.e spliceref04_Pair.z a0) x1_7.toNat 0))], []⟩) (by kernel_rfl) ?_
              refine go hT 4 [0, 7, 30] (k' := K84 [1, 1, 0, 1, 0, 0, 1, 0, 0, 0, 7]) (st' := ⟨47, [(0, .d (.sl t0 a0.length (vec spliceref04_Pair.e spliceref04_Pair.z a0))), (7, .i x1_7), (30, .b (decide (((a0.getD x1_7.toNat spliceref04_Pair.z).Key) < 0)))], []⟩) (by kernel_rfl) ?_
              by_cases c5 : ((a0.getD x1_7.toNat spliceref04_Pair.z).Key) < 0
              · replace H := iteT (K := fun o => stk o (iter (spliceref04_pairs.step a0) n)) c5 H
                rw [decide_eq_true c5]
                refine go hT 17 [0, 7, 46] (k' := K84 [1, 1, 0, 1, 0, 0, 1, 0, 0, 1]) (st' := ⟨47, [(0, .d (.sl t0 a0.length (vec spliceref04_Pair.e spliceref04_Pair.z a0))), (7, .i x1_7), (46, .b true)], []⟩) (by kernel_rfl) ?_
                refine ak_cut [0, 7, 46] [] (st' := ⟨47, [(0, .d (.sl t0 a0.length (vec spliceref04_Pair.e spliceref04_Pair.z a0))), (7, .i x1_7), (46, .b true)], []⟩) (by kernel_rfl) (by kernel_rfl) rfl (by decide) (by rw [h0]; rfl) ?_
                exact Jj2 true H
              · replace H := iteF (K := fun o => stk o (iter (spliceref04_pairs.step a0) n)) c5 H
                rw [decide_eq_false c5]
                refine go hT 2 [0, 7, 30, 31, 32] (k' := K84 [1, 1, 0, 1, 0, 0, 1, 0, 0, 0, 9]) (st' := ⟨47, [(0, .d (.sl t0 a0.length (vec spliceref04_Pair.e spliceref04_Pair.z a0))), (7, .i x1_7), (30, .b false), (31, .d (.sl t0 a0.length (vec spliceref04_Pair.e spliceref04_Pair.z a0))), (32, .i x1_7)], []⟩) (by kernel_rfl) ?_
                refine ak_idx hT [0, 7, 30, 33] (i := x1_7) (n := (a0.length : Int)) h4.1 h4.2 (k' := K84 [1, 1, 0, 1, 0, 0, 1, 0, 0, 0, 10]) (st' := ⟨47, [(0, .d (.sl t0 a0.length (vec spliceref04_Pair.e spliceref04_Pair.z a0))), (7, .i x1_7), (30, .b false), (33, .d (.rop t0 a0.length (vec spliceref04_Pair.e spliceref04_Pair.z a0) x1_7.toNat 0))], []⟩) (by kernel_rfl) ?_
                refine go hT 5 [0, 7, 38] (k' := K84 [1, 1, 0, 1, 0, 0, 1, 0, 0, 0, 15]) (st' := ⟨47, [(0, .d (.sl t0 a0.length (vec spliceref04_Pair.e spliceref04_Pair.z a0))), (7, .i x1_7), (38, .b (decide (((a0.getD x1_7.toNat spliceref04_Pair.z).Key) > 4095)))], []⟩) (by kernel_rfl) ?_
                by_cases c6 : ((a0.getD x1_7.toNat spliceref04_Pair.z).Key) > 4095
                · replace H := iteT (K := fun o => stk o (iter (spliceref04_pairs.step a0) n)) c6 H
                  rw [decide_eq_true c6]
                  refine go hT 9 [0, 7, 46] (k' := K84 [1, 1, 0, 1, 0, 0, 1, 0, 0, 1]) (st' := ⟨47, [(0, .d (.sl t0 a0.length (vec spliceref04_Pair.e spliceref04_Pair.z a0))), (7, .i x1_7), (46, .b true)], []⟩) (by kernel_rfl) ?_
                  refine ak_cut [0, 7, 46] [] (st' := ⟨47, [(0, .d (.sl t0 a0.length (vec spliceref04_Pair.e spliceref04_Pair.z a0))), (7, .i x1_7), (46, .b true)], []⟩) (by kernel_rfl) (by kernel_rfl) rfl (by decide) (by rw [h0]; rfl) ?_
                  exact Jj2 true H
                · replace H := iteF (K := fun o => stk o (iter (spliceref04_pairs.step a0) n)) c6 H
                  rw [decide_eq_false c6]
                  refine go hT 2 [0, 7, 38, 39, 40] (k' := K84 [1, 1, 0, 1, 0, 0, 1, 0, 0, 0, 17]) (st' := ⟨47, [(0, .d (.sl t0 a0.length (vec spliceref04_Pair.e spliceref04_Pair.z a0))), (7, .i x1_7), (38, .b false), (39, .d (.sl t0 a0.length (vec spliceref04_Pair.e spliceref04_Pair.z a0))), (40, .i x1_7)], []⟩) (by kernel_rfl) ?_
                  refine ak_idx hT [0, 7, 38, 41] (i := x1_7) (n := (a0.length : Int)) h4.1 h4.2 (k' := K84 [1, 1, 0, 1, 0, 0, 1, 0, 0, 0, 18]) (st' := ⟨47, [(0, .d (.sl t0 a0.length (vec spliceref04_Pair.e spliceref04_Pair.z a0))), (7, .i x1_7), (38, .b false), (41, .d (.rop t0 a0.length (vec spliceref04_Pair.e spliceref04_Pair.z a0) x1_7.toNat 0))], []⟩) (by kernel_rfl) ?_
                  refine go hT 2 [0, 7, 38, 43] (k' := K84 [1, 1, 0, 1, 0, 0, 1, 0, 0, 0, 20]) (st' := ⟨47, [(0, .d (.sl t0 a0.length (vec spliceref04_Pair.e spliceref04_Pair.z a0))), (7, .i x1_7), (38, .b false), (43, .i ((a0.getD x1_7.toNat spliceref04_Pair.z).Val))], []⟩) (by kernel_rfl) ?_
                  refine ak_callP (avs := [.i ((a0.getD x1_7.toNat spliceref04_Pair.z).Val)]) (dst := some 44) (k' := K84 [1, 1, 0, 1, 0, 0, 1, 0, 0, 0, 21]) [0, 7, 38, 44] [] hP enters_85 (spliceref04_value.says ((a0.getD x1_7.toNat spliceref04_Pair.z).Val)) (by kernel_rfl) (hands_none _) (.cons (pass_d _) .nil) (st' := ⟨47, [(0, .d (.sl t0 a0.length (vec spliceref04_Pair.e spliceref04_Pair.z a0))), (7, .i x1_7), (38, .b false), (44, .b (spliceref04_value ((a0.getD x1_7.toNat spliceref04_Pair.z).Val)))], []⟩) (by kernel_rfl) ?_
                  refine go hT 3 [0, 7, 46] (k' := K84 [1, 1, 0, 1, 0, 0, 1, 0, 0, 1]) (st' := ⟨47, [(0, .d (.sl t0 a0.length (vec spliceref04_Pair.e spliceref04_Pair.z a0))), (7, .i x1_7), (46, .b (!(spliceref04_value ((a0.getD x1_7.toNat spliceref04_Pair.z).Val))))], []⟩) (by kernel_rfl) ?_
                  refine ak_cut [0, 7, 46] [] (st' := ⟨47, [(0, .d (.sl t0 a0.length (vec spliceref04_Pair.e spliceref04_Pair.z a0))), (7, .i x1_7), (46, .b (!(spliceref04_value ((a0.getD x1_7.toNat spliceref04_Pair.z).Val))))], []⟩) (by kernel_rfl) (by kernel_rfl) rfl (by decide) (by rw [h0]; rfl) ?_
                  exact Jj2 (!(spliceref04_value ((a0.getD x1_7.toNat spliceref04_Pair.z).Val))) H
            · replace H := iteF (K := fun o => stk o (iter (spliceref04_pairs.step a0) n)) c3 H
              rw [decide_eq_false c3]
              refine go hT 6 [6] (k' := K84 [1, 1, 1, 1]) (st' := ⟨47, [(6, .b true)], []⟩) (by kernel_rfl) ?_
              obtain rfl := retC H
              exact ak_ret hf hX (av := .b true) (by kernel_rfl) [] (sel_of_eq (by kernel_rfl)) (by decide) (by rw [h0]; rfl) (by kernel_rfl) (fun _ h => all_nil h) (.d (.v _))
      refine ak_cut [0, 7] [] (st' := ⟨47, [(0, .d (.sl t0 a0.length (vec spliceref04_Pair.e spliceref04_Pair.z a0))), (7, .i 0)], []⟩) (by kernel_rfl) (by kernel_rfl) rfl (by decide) (by rw [h0]; rfl) ?_
      obtain ⟨n, H⟩ := loopC H
      exact (L n) 0 H
  refine go hT 12 [0, 2, 12] (k' := K84 [1, 0, 0, 5]) (st' := ⟨47, [(0, .d (.sl t0 a0.length (vec spliceref04_Pair.e spliceref04_Pair.z a0))), (2, .i a2), (12, .b (decide ((a0.length : Int) < a1)))], []⟩) (by kernel_rfl) ?_
  by_cases c1 : (a0.length : Int) < a1
  · replace H := iteT (K := fun o => o) c1 H
    rw [decide_eq_true c1]
    refine go hT 6 [0, 17] (k' := K84 [1, 0, 1]) (st' := ⟨47, [(0, .d (.sl t0 a0.length (vec spliceref04_Pair.e spliceref04_Pair.z a0))), (17, .b true)], []⟩) (by kernel_rfl) ?_
    refine ak_cut [0, 17] [] (st' := ⟨47, [(0, .d (.sl t0 a0.length (vec spliceref04_Pair.e spliceref04_Pair.z a0))), (17, .b true)], []⟩) (by kernel_rfl) (by kernel_rfl) rfl (by decide) (by rw [h0]; rfl) ?_
    exact Jj1 true H
  · replace H := iteF (K := fun o => o) c1 H
    rw [decide_eq_false c1]
    refine go hT 6 [0, 17] (k' := K84 [1, 0, 1]) (st' := ⟨47, [(0, .d (.sl t0 a0.length (vec spliceref04_Pair.e spliceref04_Pair.z a0))), (17, .b (decide ((a0.length : Int) > a2)))], []⟩) (by kernel_rfl) ?_
    refine ak_cut [0, 17] [] (st' := ⟨47, [(0, .d (.sl t0 a0.length (vec spliceref04_Pair.e spliceref04_Pair.z a0))), (17, .b (decide ((a0.length : Int) > a2)))], []⟩) (by kernel_rfl) (by kernel_rfl) rfl (by decide) (by rw [h0]; rfl) ?_
    exact Jj1 (decide ((a0.length : Int) > a2)) H


theorem spliceref04_Check.says (a0 : spliceref04_Mut) {r : Bool} (H : spliceref04_Check a0 = some r) : Says Try.prog 48 [] [.d (.agg (spliceref04_Mut.e a0))] [] (.b r) := by
  refine says_of Try.func48 rfl (nt := 143) rfl (Nat.le_of_ble_eq_true rfl) fun X hP h0 hX => ?_
  have hT : TabOk X.P T := hP ▸ tok
  have hf : X.P.funcs[48]? = some Try.f48 := hP ▸ Try.func48
  have Jj1 : ∀ (y1_21 : Bool), (spliceref04_Check.j1 a0 y1_21) = some r → AK X 48 (K48 [1, 0, 1]) (Back X [] (.b r)) ⟨143, [(1, .ptr 0 0 0 0), (21, .b y1_21)], [.box 38 [.i a0.Client, .i a0.Seq, .i a0.Kind, .d (.sl true a0.Pairs.length (vec spliceref04_Pair.e spliceref04_Pair.z a0.Pairs)), .i a0.Over.Lo, .i a0.Over.Hi, .i a0.Old]]⟩ := by
    intro y1_21 H
    by_cases c4 : y1_21 = true
    · replace H := iteT (K := fun o => o) c4 H
      rw [c4]
      refine go hT 5 [2] (k' := K48 [1, 0, 1, 0, 1]) (st' := ⟨143, [(2, .b false)], [.box 38 [.i a0.Client, .i a0.Seq, .i a0.Kind, .d (.sl true a0.Pairs.length (vec spliceref04_Pair.e spliceref04_Pair.z a0.Pairs)), .i a0.Over.Lo, .i a0.Over.Hi, .i a0.Old]]⟩) (by kernel_rfl) ?_
      obtain rfl := retC H
      exact ak_ret hf hX (av := .b false) (by kernel_rfl) [] (sel_of_eq (by kernel_rfl)) (by decide) (by rw [h0]; rfl) (by kernel_rfl) (fun _ h => all_nil h) (.d (.v _))
    · replace H := iteF (K := fun o => o) c4 H
      rw [boF c4]
      refine go hT 2 [1] (k' := K48 [1, 1]) (st' := ⟨143, [(1, .ptr 0 0 0 0)], [.box 38 [.i a0.Client, .i a0.Seq, .i a0.Kind, .d (.sl true a0.Pairs.length (vec spliceref04_Pair.e spliceref04_Pair.z a0.Pairs)), .i a0.Over.Lo, .i a0.Over.Hi, .i a0.Old]]⟩) (by kernel_rfl) ?_
      refine go hT 7 [1, 24] (k' := K48 [1, 1, 0, 1]) (st' := ⟨143, [(1, .ptr 0 0 0 0), (24, .b (a0.Kind == 2))], [.box 38 [.i a0.Client, .i a0.Seq, .i a0.Kind, .d (.sl true a0.Pairs.length (vec spliceref04_Pair.e spliceref04_Pair.z a0.Pairs)), .i a0.Over.Lo, .i a0.Over.Hi, .i a0.Old]]⟩) (by kernel_rfl) ?_
      by_cases c5 : a0.Kind = 2
      · replace H := iteT (K := fun o => o) c5 H
        have Jj2 : ∀ (y2_2 : Bool), (spliceref04_Check.j2 y2_2) = some r → AK X 48 (K48 [1, 1, 0, 1, 0, 1]) (Back X [] (.b r)) ⟨143, [(2, .b y2_2)], []⟩ := by
          intro y2_2 H
          obtain rfl := retC H
          exact ak_ret hf hX (av := .b y2_2) (by kernel_rfl) [] (sel_of_eq (by kernel_rfl)) (by decide) (by rw [h0]; rfl) (by kernel_rfl) (fun _ h => all_nil h) (.d (.v _))
        rw [eqT c5]
        refine go hT 8 [1, 29] (k' := K48 [1, 1, 0, 1, 0, 0, 5]) (st' := ⟨143, [(1, .ptr 0 0 0 0), (29, .b ((a0.Pairs.length : Int) == 0))], [.box 38 [.i a0.Client, .i a0.Seq, .i a0.Kind, .d (.sl true a0.Pairs.length (vec spliceref04_Pair.e spliceref04_Pair.z a0.Pairs)), .i a0.Over.Lo, .i a0.Over.Hi, .i a0.Old]]⟩) (by kernel_rfl) ?_
        by_cases c6 : (a0.Pairs.length : Int) = 0
        · replace H := iteT (K := fun o => o) c6 H
          rw [eqT c6]
          refine go hT 5 [1, 34] (k' := K48 [1, 1, 0, 1, 0, 0, 10]) (st' := ⟨143, [(1, .ptr 0 0 0 0), (34, .b (a0.Old == 0))], [.box 38 [.i a0.Client, .i a0.Seq, .i a0.Kind, .d (.sl true a0.Pairs.length (vec spliceref04_Pair.e spliceref04_Pair.z a0.Pairs)), .i a0.Over.Lo, .i a0.Over.Hi, .i a0.Old]]⟩) (by kernel_rfl) ?_
          by_cases c7 : a0.Old = 0
          · replace H := iteT (K := fun o => o) c7 H
            rw [eqT c7]
            refine go hT 2 [34, 36] (k' := K48 [1, 1, 0, 1, 0, 0, 12]) (st' := ⟨143, [(34, .b true), (36, .d (.agg [.v (.int .i64 a0.Over.Lo), .v (.int .i64 a0.Over.Hi)]))], [.box 38 [.i a0.Client, .i a0.Seq, .i a0.Kind, .d (.sl true a0.Pairs.length (vec spliceref04_Pair.e spliceref04_Pair.z a0.Pairs)), .i a0.Over.Lo, .i a0.Over.Hi, .i a0.Old]]⟩) (by kernel_rfl) ?_
            refine ak_callP (avs := [.d (.agg [.v (.int .i64 a0.Over.Lo), .v (.int .i64 a0.Over.Hi)])]) (dst := some 37) (k' := K48 [1, 1, 0, 1, 0, 0, 13]) [34, 37] [] hP enters_53 (spliceref03_One.says (⟨a0.Over.Lo, a0.Over.Hi⟩ : spliceref03_Span)) (by kernel_rfl) (hands_none _) (.cons (pass_d _) .nil) (st' := ⟨143, [(34, .b true), (37, .b (spliceref03_One (⟨a0.Over.Lo, a0.Over.Hi⟩ : spliceref03_Span)))], [.box 38 [.i a0.Client, .i a0.Seq, .i a0.Kind, .d (.sl true a0.Pairs.length (vec spliceref04_Pair.e spliceref04_Pair.z a0.Pairs)), .i a0.Over.Lo, .i a0.Over.Hi, .i a0.Old]]⟩) (by kernel_rfl) ?_
            refine go hT 3 [2] (k' := K48 [1, 1, 0, 1, 0, 1]) (st' := ⟨143, [(2, .b (spliceref03_One (⟨a0.Over.Lo, a0.Over.Hi⟩ : spliceref03_Span)))], [.box 38 [.i a0.Client, .i a0.Seq, .i a0.Kind, .d (.sl true a0.Pairs.length (vec spliceref04_Pair.e spliceref04_Pair.z a0.Pairs)), .i a0.Over.Lo, .i a0.Over.Hi, .i a0.Old]]⟩) (by kernel_rfl) ?_
            refine ak_cut [2] [] (st' := ⟨143, [(2, .b (spliceref03_One (⟨a0.Over.Lo, a0.Over.Hi⟩ : spliceref03_Span)))], []⟩) (by kernel_rfl) (by kernel_rfl) rfl (by decide) (by rw [h0]; rfl) ?_
            exact Jj2 (spliceref03_One (⟨a0.Over.Lo, a0.Over.Hi⟩ : spliceref03_Span)) H
          · replace H := iteF (K := fun o => o) c7 H
            rw [eqF c7]
            refine go hT 6 [2] (k' := K48 [1, 1, 0, 1, 0, 1]) (st' := ⟨143, [(2, .b false)], [.box 38 [.i a0.Client, .i a0.Seq, .i a0.Kind, .d (.sl true a0.Pairs.length (vec spliceref04_Pair.e spliceref04_Pair.z a0.Pairs)), .i a0.Over.Lo, .i a0.Over.Hi, .i a0.Old]]⟩) (by kernel_rfl) ?_
            refine ak_cut [2] [] (st' := ⟨143, [(2, .b false)], []⟩) (by kernel_rfl) (by kernel_rfl) rfl (by decide) (by rw [h0]; rfl) ?_
            exact Jj2 false H
        · replace H := iteF (K := fun o => o) c6 H
          rw [eqF c6]
          refine go hT 11 [2] (k' := K48 [1, 1, 0, 1, 0, 1]) (st' := ⟨143, [(2, .b false)], [.box 38 [.i a0.Client, .i a0.Seq, .i a0.Kind, .d (.sl true a0.Pairs.length (vec spliceref04_Pair.e spliceref04_Pair.z a0.Pairs)), .i a0.Over.Lo, .i a0.Over.Hi, .i a0.Old]]⟩) (by kernel_rfl) ?_
          refine ak_cut [2] [] (st' := ⟨143, [(2, .b false)], []⟩) (by kernel_rfl) (by kernel_rfl) rfl (by decide) (by rw [h0]; rfl) ?_
          exact Jj2 false H
      · replace H := iteF (K := fun o => o) c5 H
        have Jj3 : ∀ (y3_48 : Bool), (spliceref04_Check.j3 a0 y3_48) = some r → AK X 48 (K48 [1, 1, 1, 0, 1]) (Back X [] (.b r)) ⟨143, [(1, .ptr 0 0 0 0), (48, .b y3_48)], [.box 38 [.i a0.Client, .i a0.Seq, .i a0.Kind, .d (.sl true a0.Pairs.length (vec spliceref04_Pair.e spliceref04_Pair.z a0.Pairs)), .i a0.Over.Lo, .i a0.Over.Hi, .i a0.Old]]⟩ := by
          intro y3_48 H
          by_cases c9 : y3_48 = true
          · replace H := iteT (K := fun o => o) c9 H
            rw [c9]
            refine go hT 5 [2] (k' := K48 [1, 1, 1, 0, 1, 0, 1]) (st' := ⟨143, [(2, .b false)], [.box 38 [.i a0.Client, .i a0.Seq, .i a0.Kind, .d (.sl true a0.Pairs.length (vec spliceref04_Pair.e spliceref04_Pair.z a0.Pairs)), .i a0.Over.Lo, .i a0.Over.Hi, .i a0.Old]]⟩) (by kernel_rfl) ?_
            obtain rfl := retC H
            exact ak_ret hf hX (av := .b false) (by kernel_rfl) [] (sel_of_eq (by kernel_rfl)) (by decide) (by rw [h0]; rfl) (by kernel_rfl) (fun _ h => all_nil h) (.d (.v _))
          · replace H := iteF (K := fun o => o) c9 H
            rw [boF c9]
            refine go hT 2 [1] (k' := K48 [1, 1, 1, 1]) (st' := ⟨143, [(1, .ptr 0 0 0 0)], [.box 38 [.i a0.Client, .i a0.Seq, .i a0.Kind, .d (.sl true a0.Pairs.length (vec spliceref04_Pair.e spliceref04_Pair.z a0.Pairs)), .i a0.Over.Lo, .i a0.Over.Hi, .i a0.Old]]⟩) (by kernel_rfl) ?_
            refine go hT 7 [1, 51] (k' := K48 [1, 1, 1, 1, 0, 1]) (st' := ⟨143, [(1, .ptr 0 0 0 0), (51, .b (a0.Kind == 4))], [.box 38 [.i a0.Client, .i a0.Seq, .i a0.Kind, .d (.sl true a0.Pairs.length (vec spliceref04_Pair.e spliceref04_Pair.z a0.Pairs)), .i a0.Over.Lo, .i a0.Over.Hi, .i a0.Old]]⟩) (by kernel_rfl) ?_
            by_cases c10 : a0.Kind = 4
            · replace H := iteT (K := fun o => o) c10 H
              rw [eqT c10]
              refine go hT 5 [1, 53] (k' := K48 [1, 1, 1, 1, 0, 1, 0, 0, 2]) (st' := ⟨143, [(1, .ptr 0 0 0 0), (53, .d (.sl true a0.Pairs.length (vec spliceref04_Pair.e spliceref04_Pair.z a0.Pairs)))], [.box 38 [.i a0.Client, .i a0.Seq, .i a0.Kind, .d (.sl true a0.Pairs.length (vec spliceref04_Pair.e spliceref04_Pair.z a0.Pairs)), .i a0.Over.Lo, .i a0.Over.Hi, .i a0.Old]]⟩) (by kernel_rfl) ?_
              obtain ⟨v1, h11, H⟩ := bindC (K := fun o => o) rfl H
              have Jj4 : ∀ (y4_2 : Bool), (spliceref04_Check.j4 y4_2) = some r → AK X 48 (K48 [1, 1, 1, 1, 0, 1, 0, 1]) (Back X [] (.b r)) ⟨143, [(2, .b y4_2)], []⟩ := by
                intro y4_2 H
                obtain rfl := retC H
                exact ak_ret hf hX (av := .b y4_2) (by kernel_rfl) [] (sel_of_eq (by kernel_rfl)) (by decide) (by rw [h0]; rfl) (by kernel_rfl) (fun _ h => all_nil h) (.d (.v _))
              refine ak_callP (avs := [.d (.sl true a0.Pairs.length (vec spliceref04_Pair.e spliceref04_Pair.z a0.Pairs)), .i 1, .i 1]) (dst := some 54) (k' := K48 [1, 1, 1, 1, 0, 1, 0, 0, 3]) [1, 54] [] hP enters_84 (spliceref04_pairs.says (t0 := true) a0.Pairs 1 1 h11) (by kernel_rfl) (hands_none _) (.cons (pass_d _) (.cons (pass_d _) (.cons (pass_d _) .nil))) (st' := ⟨143, [(1, .ptr 0 0 0 0), (54, .b v1)], [.box 38 [.i a0.Client, .i a0.Seq, .i a0.Kind, .d (.sl true a0.Pairs.length (vec spliceref04_Pair.e spliceref04_Pair.z a0.Pairs)), .i a0.Over.Lo, .i a0.Over.Hi, .i a0.Old]]⟩) (by kernel_rfl) ?_
              refine go hT 1 [1, 55] (k' := K48 [1, 1, 1, 1, 0, 1, 0, 0, 4]) (st' := ⟨143, [(1, .ptr 0 0 0 0), (55, .b v1)], [.box 38 [.i a0.Client, .i a0.Seq, .i a0.Kind, .d (.sl true a0.Pairs.length (vec spliceref04_Pair.e spliceref04_Pair.z a0.Pairs)), .i a0.Over.Lo, .i a0.Over.Hi, .i a0.Old]]⟩) (by kernel_rfl) ?_
              by_cases c12 : v1 = true
              · replace H := iteT (K := fun o => o) c12 H
                rw [c12]
                refine go hT 2 [1, 55, 57] (k' := K48 [1, 1, 1, 1, 0, 1, 0, 0, 6]) (st' := ⟨143, [(1, .ptr 0 0 0 0), (55, .b true), (57, .i a0.Old)], [.box 38 [.i a0.Client, .i a0.Seq, .i a0.Kind, .d (.sl true a0.Pairs.length (vec spliceref04_Pair.e spliceref04_Pair.z a0.Pairs)), .i a0.Over.Lo, .i a0.Over.Hi, .i a0.Old]]⟩) (by kernel_rfl) ?_
                refine ak_callP (avs := [.i a0.Old]) (dst := some 58) (k' := K48 [1, 1, 1, 1, 0, 1, 0, 0, 7]) [1, 55, 58] [] hP enters_85 (spliceref04_value.says a0.Old) (by kernel_rfl) (hands_none _) (.cons (pass_d _) .nil) (st' := ⟨143, [(1, .ptr 0 0 0 0), (55, .b true), (58, .b (spliceref04_value a0.Old))], [.box 38 [.i a0.Client, .i a0.Seq, .i a0.Kind, .d (.sl true a0.Pairs.length (vec spliceref04_Pair.e spliceref04_Pair.z a0.Pairs)), .i a0.Over.Lo, .i a0.Over.Hi, .i a0.Old]]⟩) (by kernel_rfl) ?_
                refine go hT 1 [1, 55, 59] (k' := K48 [1, 1, 1, 1, 0, 1, 0, 0, 8]) (st' := ⟨143, [(1, .ptr 0 0 0 0), (55, .b true), (59, .b (spliceref04_value a0.Old))], [.box 38 [.i a0.Client, .i a0.Seq, .i a0.Kind, .d (.sl true a0.Pairs.length (vec spliceref04_Pair.e spliceref04_Pair.z a0.Pairs)), .i a0.Over.Lo, .i a0.Over.Hi, .i a0.Old]]⟩) (by kernel_rfl) ?_
                by_cases c13 : (spliceref04_value a0.Old) = true
                · replace H := iteT (K := fun o => o) c13 H
                  rw [c13]
                  refine go hT 7 [2] (k' := K48 [1, 1, 1, 1, 0, 1, 0, 1]) (st' := ⟨143, [(2, .b true)], [.box 38 [.i a0.Client, .i a0.Seq, .i a0.Kind, .d (.sl true a0.Pairs.length (vec spliceref04_Pair.e spliceref04_Pair.z a0.Pairs)), .i a0.Over.Lo, .i a0.Over.Hi, .i a0.Old]]⟩) (by kernel_rfl) ?_
                  refine ak_cut [2] [] (st' := ⟨143, [(2, .b true)], []⟩) (by kernel_rfl) (by kernel_rfl) rfl (by decide) (by rw [h0]; rfl) ?_
                  exact Jj4 true H
                · replace H := iteF (K := fun o => o) c13 H
                  rw [boF c13]
                  refine go hT 7 [2] (k' := K48 [1, 1, 1, 1, 0, 1, 0, 1]) (st' := ⟨143, [(2, .b (a0.Old == 1099511627777))], [.box 38 [.i a0.Client, .i a0.Seq, .i a0.Kind, .d (.sl true a0.Pairs.length (vec spliceref04_Pair.e spliceref04_Pair.z a0.Pairs)), .i a0.Over.Lo, .i a0.Over.Hi, .i a0.Old]]⟩) (by kernel_rfl) ?_
                  refine ak_cut [2] [] (st' := ⟨143, [(2, .b (a0.Old == 1099511627777))], []⟩) (by kernel_rfl) (by kernel_rfl) rfl (by decide) (by rw [h0]; rfl) ?_
                  exact Jj4 (a0.Old == 1099511627777) H
              · replace H := iteF (K := fun o => o) c12 H
                rw [boF c12]
                refine go hT 11 [2] (k' := K48 [1, 1, 1, 1, 0, 1, 0, 1]) (st' := ⟨143, [(2, .b false)], [.box 38 [.i a0.Client, .i a0.Seq, .i a0.Kind, .d (.sl true a0.Pairs.length (vec spliceref04_Pair.e spliceref04_Pair.z a0.Pairs)), .i a0.Over.Lo, .i a0.Over.Hi, .i a0.Old]]⟩) (by kernel_rfl) ?_
                refine ak_cut [2] [] (st' := ⟨143, [(2, .b false)], []⟩) (by kernel_rfl) (by kernel_rfl) rfl (by decide) (by rw [h0]; rfl) ?_
                exact Jj4 false H
            · replace H := iteF (K := fun o => o) c10 H
              rw [eqF c10]
              refine go hT 2 [1] (k' := K48 [1, 1, 1, 1, 1]) (st' := ⟨143, [(1, .ptr 0 0 0 0)], [.box 38 [.i a0.Client, .i a0.Seq, .i a0.Kind, .d (.sl true a0.Pairs.length (vec spliceref04_Pair.e spliceref04_Pair.z a0.Pairs)), .i a0.Over.Lo, .i a0.Over.Hi, .i a0.Old]]⟩) (by kernel_rfl) ?_
              refine go hT 7 [1, 67] (k' := K48 [1, 1, 1, 1, 1, 0, 1]) (st' := ⟨143, [(1, .ptr 0 0 0 0), (67, .b (a0.Old != 0))], [.box 38 [.i a0.Client, .i a0.Seq, .i a0.Kind, .d (.sl true a0.Pairs.length (vec spliceref04_Pair.e spliceref04_Pair.z a0.Pairs)), .i a0.Over.Lo, .i a0.Over.Hi, .i a0.Old]]⟩) (by kernel_rfl) ?_
              by_cases c14 : a0.Old = 0
              · replace H := iteT (K := fun o => o) c14 H
                rw [neF c14]
                refine go hT 2 [1] (k' := K48 [1, 1, 1, 1, 1, 1]) (st' := ⟨143, [(1, .ptr 0 0 0 0)], [.box 38 [.i a0.Client, .i a0.Seq, .i a0.Kind, .d (.sl true a0.Pairs.length (vec spliceref04_Pair.e spliceref04_Pair.z a0.Pairs)), .i a0.Over.Lo, .i a0.Over.Hi, .i a0.Old]]⟩) (by kernel_rfl) ?_
                refine go hT 7 [1, 70] (k' := K48 [1, 1, 1, 1, 1, 1, 0, 1]) (st' := ⟨143, [(1, .ptr 0 0 0 0), (70, .b (a0.Kind == 1))], [.box 38 [.i a0.Client, .i a0.Seq, .i a0.Kind, .d (.sl true a0.Pairs.length (vec spliceref04_Pair.e spliceref04_Pair.z a0.Pairs)), .i a0.Over.Lo, .i a0.Over.Hi, .i a0.Old]]⟩) (by kernel_rfl) ?_
                by_cases c15 : a0.Kind = 1
                · replace H := iteT (K := fun o => o) c15 H
                  rw [eqT c15]
                  refine go hT 8 [1, 3] (k' := K48 [1, 1, 1, 1, 1, 1, 0, 1, 0, 0, 1, 0, 0]) (st' := ⟨143, [(1, .ptr 0 0 0 0), (3, .i 1)], [.box 38 [.i a0.Client, .i a0.Seq, .i a0.Kind, .d (.sl true a0.Pairs.length (vec spliceref04_Pair.e spliceref04_Pair.z a0.Pairs)), .i a0.Over.Lo, .i a0.Over.Hi, .i a0.Old]]⟩) (by kernel_rfl) ?_
                  have L : ∀ n, (∀ (x1_3 : Int), iter (spliceref04_Check.step a0) n (.l1 x1_3) = some r → AK X 48 (K48 [1, 1, 1, 1, 1, 1, 0, 1, 0, 0, 1, 0, 0]) (Back X [] (.b r)) ⟨143, [(1, .ptr 0 0 0 0), (3, .i x1_3)], [.box 38 [.i a0.Client, .i a0.Seq, .i a0.Kind, .d (.sl true a0.Pairs.length (vec spliceref04_Pair.e spliceref04_Pair.z a0.Pairs)), .i a0.Over.Lo, .i a0.Over.Hi, .i a0.Old]]⟩) := by
                    intro n
                    induction n with
                    | zero => exact fun _ H => iter0 H
                    | succ n ih =>
                      · intro x1_3 H
                        refine go hT 9 [1, 3, 75] (k' := K48 [1, 1, 1, 1, 1, 1, 0, 1, 0, 0, 1, 0, 0, 0, 1]) (st' := ⟨143, [(1, .ptr 0 0 0 0), (3, .i x1_3), (75, .b (decide (x1_3 < (a0.Pairs.length : Int))))], [.box 38 [.i a0.Client, .i a0.Seq, .i a0.Kind, .d (.sl true a0.Pairs.length (vec spliceref04_Pair.e spliceref04_Pair.z a0.Pairs)), .i a0.Over.Lo, .i a0.Over.Hi, .i a0.Old]]⟩) (by kernel_rfl) ?_
                        by_cases c16 : x1_3 < (a0.Pairs.length : Int)
                        · replace H := iteT (K := fun o => stk o (iter (spliceref04_Check.step a0) n)) c16 H
                          rw [decide_eq_true c16]
                          refine go hT 2 [1, 3] (k' := K48 [1, 1, 1, 1, 1, 1, 0, 1, 0, 0, 1, 0, 0, 1]) (st' := ⟨143, [(1, .ptr 0 0 0 0), (3, .i x1_3)], [.box 38 [.i a0.Client, .i a0.Seq, .i a0.Kind, .d (.sl true a0.Pairs.length (vec spliceref04_Pair.e spliceref04_Pair.z a0.Pairs)), .i a0.Over.Lo, .i a0.Over.Hi, .i a0.Old]]⟩) (by kernel_rfl) ?_
                          refine go hT 3 [1, 3] (k' := K48 [1, 1, 1, 1, 1, 1, 0, 1, 0, 0, 1, 0, 0, 1, 0, 0, 0]) (st' := ⟨143, [(1, .ptr 0 0 0 0), (3, .i x1_3)], [.box 38 [.i a0.Client, .i a0.Seq, .i a0.Kind, .d (.sl true a0.Pairs.length (vec spliceref04_Pair.e spliceref04_Pair.z a0.Pairs)), .i a0.Over.Lo, .i a0.Over.Hi, .i a0.Old]]⟩) (by kernel_rfl) ?_
                          obtain ⟨h18, H⟩ := iteC (K := fun o => stk o (iter (spliceref04_Check.step a0) n)) rfl H
                          obtain ⟨h19, H⟩ := iteC (K := fun o => stk o (iter (spliceref04_Check.step a0) n)) rfl H
                          refine ak_drawAt (nt := 143) (rows := [.box 38 [.i a0.Client, .i a0.Seq, .i a0.Kind, .d (.sl true a0.Pairs.length (vec spliceref04_Pair.e spliceref04_Pair.z a0.Pairs)), .i a0.Over.Lo, .i a0.Over.Hi, .i a0.Old]]) (hP ▸ mixed) 14 [1, 3] [(1, .ptr 0 0 0 0), (3, .i x1_3)] [some (.ptr 0 0 0 3), some (.d (.sl true a0.Pairs.length (vec spliceref04_Pair.e spliceref04_Pair.z a0.Pairs))), some (.i x1_3), some (.i (IntKind.wrap .i64 (x1_3 - 1))), some (.d (.rop true a0.Pairs.length (vec spliceref04_Pair.e spliceref04_Pair.z a0.Pairs) ((IntKind.wrap .i64 (x1_3 - 1)).toNat) 0)), some (.d (.rop true a0.Pairs.length (vec spliceref04_Pair.e spliceref04_Pair.z a0.Pairs) ((IntKind.wrap .i64 (x1_3 - 1)).toNat) 0)), some (.i ((a0.Pairs.getD ((IntKind.wrap .i64 (x1_3 - 1)).toNat) spliceref04_Pair.z).Key)), some (.ptr 0 0 0 3), some (.d (.sl true a0.Pairs.length (vec spliceref04_Pair.e spliceref04_Pair.z a0.Pairs))), some (.i x1_3), some (.d (.rop true a0.Pairs.length (vec spliceref04_Pair.e spliceref04_Pair.z a0.Pairs) x1_3.toNat 0)), some (.d (.rop true a0.Pairs.length (vec spliceref04_Pair.e spliceref04_Pair.z a0.Pairs) x1_3.toNat 0)), some (.i ((a0.Pairs.getD x1_3.toNat spliceref04_Pair.z).Key)), some (.b (decide (((a0.Pairs.getD ((IntKind.wrap .i64 (x1_3 - 1)).toNat) spliceref04_Pair.z).Key) ≥ ((a0.Pairs.getD x1_3.toNat spliceref04_Pair.z).Key))))] (by kernel_rfl) (by kernel_rfl) (by kernel_rfl) (opS (opS (opS (opS (opS (opS (opS (opS (opS (opS (opS (opS (opS (opS op0 (op_go hT fun R rest => by kernel_rfl)) (op_go hT fun R rest => by kernel_rfl)) (op_go hT fun R rest => by kernel_rfl)) (op_go hT fun R rest => by kernel_rfl)) (fun R rest h => ak_idx0 hT (i := IntKind.wrap .i64 (x1_3 - 1)) (n := (a0.Pairs.length : Int)) h18.1 h18.2 (by kernel_rfl) h)) (op_go hT fun R rest => by kernel_rfl)) (op_go hT fun R rest => by kernel_rfl)) (op_go hT fun R rest => by kernel_rfl)) (op_go hT fun R rest => by kernel_rfl)) (op_go hT fun R rest => by kernel_rfl)) (fun R rest h => ak_idx0 hT (i := x1_3) (n := (a0.Pairs.length : Int)) h19.1 h19.2 (by kernel_rfl) h)) (op_go hT fun R rest => by kernel_rfl)) (op_go hT fun R rest => by kernel_rfl)) (op_go hT fun R rest => by kernel_rfl)) ?_
                          refine go hT 1 [1, 3, 91] (k' := K48 [1, 1, 1, 1, 1, 1, 0, 1, 0, 0, 1, 0, 0, 1, 0, 0, 1]) (st' := ⟨143, [(1, .ptr 0 0 0 0), (3, .i x1_3), (91, .b (decide (((a0.Pairs.getD ((IntKind.wrap .i64 (x1_3 - 1)).toNat) spliceref04_Pair.z).Key) ≥ ((a0.Pairs.getD x1_3.toNat spliceref04_Pair.z).Key))))], [.box 38 [.i a0.Client, .i a0.Seq, .i a0.Kind, .d (.sl true a0.Pairs.length (vec spliceref04_Pair.e spliceref04_Pair.z a0.Pairs)), .i a0.Over.Lo, .i a0.Over.Hi, .i a0.Old]]⟩) (by kernel_rfl) ?_
                          by_cases c20 : ((a0.Pairs.getD ((IntKind.wrap .i64 (x1_3 - 1)).toNat) spliceref04_Pair.z).Key) ≥ ((a0.Pairs.getD x1_3.toNat spliceref04_Pair.z).Key)
                          · replace H := iteT (K := fun o => stk o (iter (spliceref04_Check.step a0) n)) c20 H
                            rw [decide_eq_true c20]
                            refine go hT 5 [2] (k' := K48 [1, 1, 1, 1, 1, 1, 0, 1, 0, 0, 1, 0, 0, 1, 0, 0, 1, 0, 1]) (st' := ⟨143, [(2, .b false)], [.box 38 [.i a0.Client, .i a0.Seq, .i a0.Kind, .d (.sl true a0.Pairs.length (vec spliceref04_Pair.e spliceref04_Pair.z a0.Pairs)), .i a0.Over.Lo, .i a0.Over.Hi, .i a0.Old]]⟩) (by kernel_rfl) ?_
                            obtain rfl := retC H
                            exact ak_ret hf hX (av := .b false) (by kernel_rfl) [] (sel_of_eq (by kernel_rfl)) (by decide) (by rw [h0]; rfl) (by kernel_rfl) (fun _ h => all_nil h) (.d (.v _))
                          · replace H := iteF (K := fun o => stk o (iter (spliceref04_Check.step a0) n)) c20 H
                            rw [decide_eq_false c20]
                            refine go hT 3 [1, 3] (k' := K48 [1, 1, 1, 1, 1, 1, 0, 1, 0, 0, 1, 0, 0, 1, 1]) (st' := ⟨143, [(1, .ptr 0 0 0 0), (3, .i x1_3)], [.box 38 [.i a0.Client, .i a0.Seq, .i a0.Kind, .d (.sl true a0.Pairs.length (vec spliceref04_Pair.e spliceref04_Pair.z a0.Pairs)), .i a0.Over.Lo, .i a0.Over.Hi, .i a0.Old]]⟩) (by kernel_rfl) ?_
                            refine go hT 6 [1, 3] (k' := K48 [1, 1, 1, 1, 1, 1, 0, 1, 0, 0, 1, 0, 0]) (st' := ⟨143, [(1, .ptr 0 0 0 0), (3, .i (IntKind.wrap .i64 (x1_3 + 1)))], [.box 38 [.i a0.Client, .i a0.Seq, .i a0.Kind, .d (.sl true a0.Pairs.length (vec spliceref04_Pair.e spliceref04_Pair.z a0.Pairs)), .i a0.Over.Lo, .i a0.Over.Hi, .i a0.Old]]⟩) (by kernel_rfl) ?_
                            refine ak_cut [1, 3] [0] (st' := ⟨143, [(1, .ptr 0 0 0 0), (3, .i (IntKind.wrap .i64 (x1_3 + 1)))], [.box 38 [.i a0.Client, .i a0.Seq, .i a0.Kind, .d (.sl true a0.Pairs.length (vec spliceref04_Pair.e spliceref04_Pair.z a0.Pairs)), .i a0.Over.Lo, .i a0.Over.Hi, .i a0.Old]]⟩) (by kernel_rfl) (by kernel_rfl) rfl (by decide) (by rw [h0]; rfl) ?_
                            exact ih (IntKind.wrap .i64 (x1_3 + 1)) H
                        · replace H := iteF (K := fun o => stk o (iter (spliceref04_Check.step a0) n)) c16 H
                          rw [decide_eq_false c16]
                          refine go hT 6 [93] (k' := K48 [1, 1, 1, 1, 1, 1, 0, 1, 0, 1, 0, 2]) (st' := ⟨143, [(93, .d (.sl true a0.Pairs.length (vec spliceref04_Pair.e spliceref04_Pair.z a0.Pairs)))], [.box 38 [.i a0.Client, .i a0.Seq, .i a0.Kind, .d (.sl true a0.Pairs.length (vec spliceref04_Pair.e spliceref04_Pair.z a0.Pairs)), .i a0.Over.Lo, .i a0.Over.Hi, .i a0.Old]]⟩) (by kernel_rfl) ?_
                          obtain ⟨v2, h17, H⟩ := bindC (K := fun o => stk o (iter (spliceref04_Check.step a0) n)) rfl H
                          refine ak_callP (avs := [.d (.sl true a0.Pairs.length (vec spliceref04_Pair.e spliceref04_Pair.z a0.Pairs)), .i 1, .i 8]) (dst := some 94) (k' := K48 [1, 1, 1, 1, 1, 1, 0, 1, 0, 1, 0, 3]) [94] [] hP enters_84 (spliceref04_pairs.says (t0 := true) a0.Pairs 1 8 h17) (by kernel_rfl) (hands_none _) (.cons (pass_d _) (.cons (pass_d _) (.cons (pass_d _) .nil))) (st' := ⟨143, [(94, .b v2)], [.box 38 [.i a0.Client, .i a0.Seq, .i a0.Kind, .d (.sl true a0.Pairs.length (vec spliceref04_Pair.e spliceref04_Pair.z a0.Pairs)), .i a0.Over.Lo, .i a0.Over.Hi, .i a0.Old]]⟩) (by kernel_rfl) ?_
                          refine go hT 2 [2] (k' := K48 [1, 1, 1, 1, 1, 1, 0, 1, 0, 1, 1]) (st' := ⟨143, [(2, .b v2)], [.box 38 [.i a0.Client, .i a0.Seq, .i a0.Kind, .d (.sl true a0.Pairs.length (vec spliceref04_Pair.e spliceref04_Pair.z a0.Pairs)), .i a0.Over.Lo, .i a0.Over.Hi, .i a0.Old]]⟩) (by kernel_rfl) ?_
                          obtain rfl := retC H
                          exact ak_ret hf hX (av := .b v2) (by kernel_rfl) [] (sel_of_eq (by kernel_rfl)) (by decide) (by rw [h0]; rfl) (by kernel_rfl) (fun _ h => all_nil h) (.d (.v _))
                  refine ak_cut [1, 3] [0] (st' := ⟨143, [(1, .ptr 0 0 0 0), (3, .i 1)], [.box 38 [.i a0.Client, .i a0.Seq, .i a0.Kind, .d (.sl true a0.Pairs.length (vec spliceref04_Pair.e spliceref04_Pair.z a0.Pairs)), .i a0.Over.Lo, .i a0.Over.Hi, .i a0.Old]]⟩) (by kernel_rfl) (by kernel_rfl) rfl (by decide) (by rw [h0]; rfl) ?_
                  obtain ⟨n, H⟩ := loopC H
                  exact (L n) 1 H
                · replace H := iteF (K := fun o => o) c15 H
                  rw [eqF c15]
                  refine go hT 2 [1] (k' := K48 [1, 1, 1, 1, 1, 1, 1]) (st' := ⟨143, [(1, .ptr 0 0 0 0)], [.box 38 [.i a0.Client, .i a0.Seq, .i a0.Kind, .d (.sl true a0.Pairs.length (vec spliceref04_Pair.e spliceref04_Pair.z a0.Pairs)), .i a0.Over.Lo, .i a0.Over.Hi, .i a0.Old]]⟩) (by kernel_rfl) ?_
                  refine go hT 7 [1, 97] (k' := K48 [1, 1, 1, 1, 1, 1, 1, 0, 1]) (st' := ⟨143, [(1, .ptr 0 0 0 0), (97, .b (a0.Kind == 3))], [.box 38 [.i a0.Client, .i a0.Seq, .i a0.Kind, .d (.sl true a0.Pairs.length (vec spliceref04_Pair.e spliceref04_Pair.z a0.Pairs)), .i a0.Over.Lo, .i a0.Over.Hi, .i a0.Old]]⟩) (by kernel_rfl) ?_
                  by_cases c21 : a0.Kind = 3
                  · replace H := iteT (K := fun o => o) c21 H
                    rw [eqT c21]
                    refine go hT 5 [99] (k' := K48 [1, 1, 1, 1, 1, 1, 1, 0, 1, 0, 0, 2]) (st' := ⟨143, [(99, .d (.sl true a0.Pairs.length (vec spliceref04_Pair.e spliceref04_Pair.z a0.Pairs)))], [.box 38 [.i a0.Client, .i a0.Seq, .i a0.Kind, .d (.sl true a0.Pairs.length (vec spliceref04_Pair.e spliceref04_Pair.z a0.Pairs)), .i a0.Over.Lo, .i a0.Over.Hi, .i a0.Old]]⟩) (by kernel_rfl) ?_
                    obtain ⟨v3, h22, H⟩ := bindC (K := fun o => o) rfl H
                    refine ak_callP (avs := [.d (.sl true a0.Pairs.length (vec spliceref04_Pair.e spliceref04_Pair.z a0.Pairs)), .i 1, .i 1]) (dst := some 100) (k' := K48 [1, 1, 1, 1, 1, 1, 1, 0, 1, 0, 0, 3]) [100] [] hP enters_84 (spliceref04_pairs.says (t0 := true) a0.Pairs 1 1 h22) (by kernel_rfl) (hands_none _) (.cons (pass_d _) (.cons (pass_d _) (.cons (pass_d _) .nil))) (st' := ⟨143, [(100, .b v3)], [.box 38 [.i a0.Client, .i a0.Seq, .i a0.Kind, .d (.sl true a0.Pairs.length (vec spliceref04_Pair.e spliceref04_Pair.z a0.Pairs)), .i a0.Over.Lo, .i a0.Over.Hi, .i a0.Old]]⟩) (by kernel_rfl) ?_
                    refine go hT 2 [2] (k' := K48 [1, 1, 1, 1, 1, 1, 1, 0, 1, 0, 1]) (st' := ⟨143, [(2, .b v3)], [.box 38 [.i a0.Client, .i a0.Seq, .i a0.Kind, .d (.sl true a0.Pairs.length (vec spliceref04_Pair.e spliceref04_Pair.z a0.Pairs)), .i a0.Over.Lo, .i a0.Over.Hi, .i a0.Old]]⟩) (by kernel_rfl) ?_
                    obtain rfl := retC H
                    exact ak_ret hf hX (av := .b v3) (by kernel_rfl) [] (sel_of_eq (by kernel_rfl)) (by decide) (by rw [h0]; rfl) (by kernel_rfl) (fun _ h => all_nil h) (.d (.v _))
                  · replace H := iteF (K := fun o => o) c21 H
                    have Jj5 : ∀ (y5_2 : Bool), (spliceref04_Check.j5 y5_2) = some r → AK X 48 (K48 [1, 1, 1, 1, 1, 1, 1, 1, 1]) (Back X [] (.b r)) ⟨143, [(2, .b y5_2)], []⟩ := by
                      intro y5_2 H
                      obtain rfl := retC H
                      exact ak_ret hf hX (av := .b y5_2) (by kernel_rfl) [] (sel_of_eq (by kernel_rfl)) (by decide) (by rw [h0]; rfl) (by kernel_rfl) (fun _ h => all_nil h) (.d (.v _))
                    rw [eqF c21]
                    refine go hT 2 [1] (k' := K48 [1, 1, 1, 1, 1, 1, 1, 1]) (st' := ⟨143, [(1, .ptr 0 0 0 0)], [.box 38 [.i a0.Client, .i a0.Seq, .i a0.Kind, .d (.sl true a0.Pairs.length (vec spliceref04_Pair.e spliceref04_Pair.z a0.Pairs)), .i a0.Over.Lo, .i a0.Over.Hi, .i a0.Old]]⟩) (by kernel_rfl) ?_
                    refine go hT 1 [1] (k' := K48 [1, 1, 1, 1, 1, 1, 1, 1, 0]) (st' := ⟨143, [(1, .ptr 0 0 0 0)], [.box 38 [.i a0.Client, .i a0.Seq, .i a0.Kind, .d (.sl true a0.Pairs.length (vec spliceref04_Pair.e spliceref04_Pair.z a0.Pairs)), .i a0.Over.Lo, .i a0.Over.Hi, .i a0.Old]]⟩) (by kernel_rfl) ?_
                    by_cases c23 : a0.Kind = 5
                    · replace H := iteT (K := fun o => o) c23 H
                      obtain ⟨v4, h24, H⟩ := bindC (K := fun o => o) rfl H
                      by_cases c25 : v4 = true
                      · replace H := iteT (K := fun o => o) c25 H
                        obtain ⟨h26, H⟩ := iteC (K := fun o => o) rfl H
                        obtain ⟨h27, H⟩ := iteC (K := fun o => o) rfl H
                        by_cases c28 : ((a0.Pairs.getD 0 spliceref04_Pair.z).Key) = ((a0.Pairs.getD 1 spliceref04_Pair.z).Key)
                        · replace H := iteT (K := fun o => o) c28 H
                          refine ak_drawAt (nt := 143) (rows := [.box 38 [.i a0.Client, .i a0.Seq, .i a0.Kind, .d (.sl true a0.Pairs.length (vec spliceref04_Pair.e spliceref04_Pair.z a0.Pairs)), .i a0.Over.Lo, .i a0.Over.Hi, .i a0.Old]]) (hP ▸ mixed) 32 [1] [(1, .ptr 0 0 0 0)] [some (.ptr 0 0 0 2), some (.i a0.Kind), some (.b true), some (.b true), some (.ptr 0 0 0 3), some (.d (.sl true a0.Pairs.length (vec spliceref04_Pair.e spliceref04_Pair.z a0.Pairs))), some (.b true), some (.b true), some (.b true), some (.ptr 0 0 0 3), some (.d (.sl true a0.Pairs.length (vec spliceref04_Pair.e spliceref04_Pair.z a0.Pairs))), some (.d (.rop true a0.Pairs.length (vec spliceref04_Pair.e spliceref04_Pair.z a0.Pairs) 0 0)), some (.d (.rop true a0.Pairs.length (vec spliceref04_Pair.e spliceref04_Pair.z a0.Pairs) 0 0)), some (.i ((a0.Pairs.getD 0 spliceref04_Pair.z).Key)), some (.ptr 0 0 0 3), some (.d (.sl true a0.Pairs.length (vec spliceref04_Pair.e spliceref04_Pair.z a0.Pairs))), some (.d (.rop true a0.Pairs.length (vec spliceref04_Pair.e spliceref04_Pair.z a0.Pairs) 1 0)), some (.d (.rop true a0.Pairs.length (vec spliceref04_Pair.e spliceref04_Pair.z a0.Pairs) 1 0)), some (.i ((a0.Pairs.getD 1 spliceref04_Pair.z).Key)), some (.b false), some (.b false), some (.b false), some (.tup []), some (.tup []), some (.tup []), some (.tup []), some (.tup []), some (.tup []), some (.tup []), some (.tup []), some (.tup []), some (.tup [])] (by kernel_rfl) (by kernel_rfl) (by kernel_rfl) (opS (opS (opS (opS (opS (opS (opS (opS (opS (opS (opS (opS (opS (opS (opS (opS (opS (opS (opS (opS (opS (opS (opS (opS (opS (opS (opS (opS (opS (opS (opS (opS op0 (op_go hT fun R rest => by kernel_rfl)) (op_go hT fun R rest => by kernel_rfl)) (op_goE hT (st' := fun R rest => ⟨143, (103, .b (a0.Kind == 5)) :: needOf (opsAt (K48 [1, 1, 1, 1, 1, 1, 1, 1, 0])) [(1, .ptr 0 0 0 0)] [some (.ptr 0 0 0 2), some (.i a0.Kind), some (.b true), some (.b true), some (.ptr 0 0 0 3), some (.d (.sl true a0.Pairs.length (vec spliceref04_Pair.e spliceref04_Pair.z a0.Pairs))), some (.b true), some (.b true), some (.b true), some (.ptr 0 0 0 3), some (.d (.sl true a0.Pairs.length (vec spliceref04_Pair.e spliceref04_Pair.z a0.Pairs))), some (.d (.rop true a0.Pairs.length (vec spliceref04_Pair.e spliceref04_Pair.z a0.Pairs) 0 0)), some (.d (.rop true a0.Pairs.length (vec spliceref04_Pair.e spliceref04_Pair.z a0.Pairs) 0 0)), some (.i ((a0.Pairs.getD 0 spliceref04_Pair.z).Key)), some (.ptr 0 0 0 3), some (.d (.sl true a0.Pairs.length (vec spliceref04_Pair.e spliceref04_Pair.z a0.Pairs))), some (.d (.rop true a0.Pairs.length (vec spliceref04_Pair.e spliceref04_Pair.z a0.Pairs) 1 0)), some (.d (.rop true a0.Pairs.length (vec spliceref04_Pair.e spliceref04_Pair.z a0.Pairs) 1 0)), some (.i ((a0.Pairs.getD 1 spliceref04_Pair.z).Key)), some (.b false), some (.b false), some (.b false), some (.tup []), some (.tup []), some (.tup []), some (.tup []), some (.tup []), some (.tup []), some (.tup []), some (.tup []), some (.tup []), some (.tup [])] 2 ++ rest, [.box 38 [.i a0.Client, .i a0.Seq, .i a0.Kind, .d (.sl true a0.Pairs.length (vec spliceref04_Pair.e spliceref04_Pair.z a0.Pairs)), .i a0.Over.Lo, .i a0.Over.Hi, .i a0.Old]]⟩) (fun R rest => by kernel_rfl) (fun R rest => by rw [eqT c23]; first | done | rfl))) (op_go hT fun R rest => by kernel_rfl)) (op_go hT fun R rest => by kernel_rfl)) (op_go hT fun R rest => by kernel_rfl)) (fun R rest h => ak_callD (avs := [.d (.sl true a0.Pairs.length (vec spliceref04_Pair.e spliceref04_Pair.z a0.Pairs)), .i 2, .i 2]) (dst := some 107) hP enters_84 (by have q := spliceref04_pairs.says (t0 := true) a0.Pairs 2 2 h24; rw [c25] at q; exact q) (by kernel_rfl) (.cons (pass_d _) (.cons (pass_d _) (.cons (pass_d _) .nil))) (by kernel_rfl) h)) (op_go hT fun R rest => by kernel_rfl)) (op_go hT fun R rest => by kernel_rfl)) (op_go hT fun R rest => by kernel_rfl)) (op_go hT fun R rest => by kernel_rfl)) (fun R rest h => ak_idx0 hT (i := 0) (n := (a0.Pairs.length : Int)) h26.1 h26.2 (by kernel_rfl) h)) (op_go hT fun R rest => by kernel_rfl)) (op_go hT fun R rest => by kernel_rfl)) (op_go hT fun R rest => by kernel_rfl)) (op_go hT fun R rest => by kernel_rfl)) (fun R rest h => ak_idx0 hT (i := 1) (n := (a0.Pairs.length : Int)) h27.1 h27.2 (by kernel_rfl) h)) (op_go hT fun R rest => by kernel_rfl)) (op_go hT fun R rest => by kernel_rfl)) (op_goE hT (st' := fun R rest => ⟨143, (120, .b (((a0.Pairs.getD 0 spliceref04_Pair.z).Key) != ((a0.Pairs.getD 1 spliceref04_Pair.z).Key))) :: needOf (opsAt (K48 [1, 1, 1, 1, 1, 1, 1, 1, 0])) [(1, .ptr 0 0 0 0)] [some (.ptr 0 0 0 2), some (.i a0.Kind), some (.b true), some (.b true), some (.ptr 0 0 0 3), some (.d (.sl true a0.Pairs.length (vec spliceref04_Pair.e spliceref04_Pair.z a0.Pairs))), some (.b true), some (.b true), some (.b true), some (.ptr 0 0 0 3), some (.d (.sl true a0.Pairs.length (vec spliceref04_Pair.e spliceref04_Pair.z a0.Pairs))), some (.d (.rop true a0.Pairs.length (vec spliceref04_Pair.e spliceref04_Pair.z a0.Pairs) 0 0)), some (.d (.rop true a0.Pairs.length (vec spliceref04_Pair.e spliceref04_Pair.z a0.Pairs) 0 0)), some (.i ((a0.Pairs.getD 0 spliceref04_Pair.z).Key)), some (.ptr 0 0 0 3), some (.d (.sl true a0.Pairs.length (vec spliceref04_Pair.e spliceref04_Pair.z a0.Pairs))), some (.d (.rop true a0.Pairs.length (vec spliceref04_Pair.e spliceref04_Pair.z a0.Pairs) 1 0)), some (.d (.rop true a0.Pairs.length (vec spliceref04_Pair.e spliceref04_Pair.z a0.Pairs) 1 0)), some (.i ((a0.Pairs.getD 1 spliceref04_Pair.z).Key)), some (.b false), some (.b false), some (.b false), some (.tup []), some (.tup []), some (.tup []), some (.tup []), some (.tup []), some (.tup []), some (.tup []), some (.tup []), some (.tup []), some (.tup [])] 19 ++ rest, [.box 38 [.i a0.Client, .i a0.Seq, .i a0.Kind, .d (.sl true a0.Pairs.length (vec spliceref04_Pair.e spliceref04_Pair.z a0.Pairs)), .i a0.Over.Lo, .i a0.Over.Hi, .i a0.Old]]⟩) (fun R rest => by kernel_rfl) (fun R rest => by rw [neF c28]; first | done | rfl))) (op_go hT fun R rest => by kernel_rfl)) (op_go hT fun R rest => by kernel_rfl)) (op_go hT fun R rest => by kernel_rfl)) (op_go hT fun R rest => by kernel_rfl)) (op_go hT fun R rest => by kernel_rfl)) (op_go hT fun R rest => by kernel_rfl)) (op_go hT fun R rest => by kernel_rfl)) (op_go hT fun R rest => by kernel_rfl)) (op_go hT fun R rest => by kernel_rfl)) (op_go hT fun R rest => by kernel_rfl)) (op_go hT fun R rest => by kernel_rfl)) (op_go hT fun R rest => by kernel_rfl)) ?_
                          refine go hT 12 [2] (k' := K48 [1, 1, 1, 1, 1, 1, 1, 1, 1]) (st' := ⟨143, [(2, .b false)], [.box 38 [.i a0.Client, .i a0.Seq, .i a0.Kind, .d (.sl true a0.Pairs.length (vec spliceref04_Pair.e spliceref04_Pair.z a0.Pairs)), .i a0.Over.Lo, .i a0.Over.Hi, .i a0.Old]]⟩) (by kernel_rfl) ?_
                          refine ak_cut [2] [] (st' := ⟨143, [(2, .b false)], []⟩) (by kernel_rfl) (by kernel_rfl) rfl (by decide) (by rw [h0]; rfl) ?_
                          exact Jj5 false H
                        · replace H := iteF (K := fun o => o) c28 H
                          refine ak_drawAt (nt := 143) (rows := [.box 38 [.i a0.Client, .i a0.Seq, .i a0.Kind, .d (.sl true a0.Pairs.length (vec spliceref04_Pair.e spliceref04_Pair.z a0.Pairs)), .i a0.Over.Lo, .i a0.Over.Hi, .i a0.Old]]) (hP ▸ mixed) 32 [1] [(1, .ptr 0 0 0 0)] [some (.ptr 0 0 0 2), some (.i a0.Kind), some (.b true), some (.b true), some (.ptr 0 0 0 3), some (.d (.sl true a0.Pairs.length (vec spliceref04_Pair.e spliceref04_Pair.z a0.Pairs))), some (.b true), some (.b true), some (.b true), some (.ptr 0 0 0 3), some (.d (.sl true a0.Pairs.length (vec spliceref04_Pair.e spliceref04_Pair.z a0.Pairs))), some (.d (.rop true a0.Pairs.length (vec spliceref04_Pair.e spliceref04_Pair.z a0.Pairs) 0 0)), some (.d (.rop true a0.Pairs.length (vec spliceref04_Pair.e spliceref04_Pair.z a0.Pairs) 0 0)), some (.i ((a0.Pairs.getD 0 spliceref04_Pair.z).Key)), some (.ptr 0 0 0 3), some (.d (.sl true a0.Pairs.length (vec spliceref04_Pair.e spliceref04_Pair.z a0.Pairs))), some (.d (.rop true a0.Pairs.length (vec spliceref04_Pair.e spliceref04_Pair.z a0.Pairs) 1 0)), some (.d (.rop true a0.Pairs.length (vec spliceref04_Pair.e spliceref04_Pair.z a0.Pairs) 1 0)), some (.i ((a0.Pairs.getD 1 spliceref04_Pair.z).Key)), some (.b true), some (.b true), some (.b true), some (.ptr 0 0 0 3), some (.d (.sl true a0.Pairs.length (vec spliceref04_Pair.e spliceref04_Pair.z a0.Pairs))), some (.d (.rop true a0.Pairs.length (vec spliceref04_Pair.e spliceref04_Pair.z a0.Pairs) 0 0)), some (.d (.rop true a0.Pairs.length (vec spliceref04_Pair.e spliceref04_Pair.z a0.Pairs) 0 1)), some (.i ((a0.Pairs.getD 0 spliceref04_Pair.z).Val)), some (.ptr 0 0 0 3), some (.d (.sl true a0.Pairs.length (vec spliceref04_Pair.e spliceref04_Pair.z a0.Pairs))), some (.d (.rop true a0.Pairs.length (vec spliceref04_Pair.e spliceref04_Pair.z a0.Pairs) 1 0)), some (.d (.rop true a0.Pairs.length (vec spliceref04_Pair.e spliceref04_Pair.z a0.Pairs) 1 1)), some (.i ((a0.Pairs.getD 1 spliceref04_Pair.z).Val))] (by kernel_rfl) (by kernel_rfl) (by kernel_rfl) (opS (opS (opS (opS (opS (opS (opS (opS (opS (opS (opS (opS (opS (opS (opS (opS (opS (opS (opS (opS (opS (opS (opS (opS (opS (opS (opS (opS (opS (opS (opS (opS op0 (op_go hT fun R rest => by kernel_rfl)) (op_go hT fun R rest => by kernel_rfl)) (op_goE hT (st' := fun R rest => ⟨143, (103, .b (a0.Kind == 5)) :: needOf (opsAt (K48 [1, 1, 1, 1, 1, 1, 1, 1, 0])) [(1, .ptr 0 0 0 0)] [some (.ptr 0 0 0 2), some (.i a0.Kind), some (.b true), some (.b true), some (.ptr 0 0 0 3), some (.d (.sl true a0.Pairs.length (vec spliceref04_Pair.e spliceref04_Pair.z a0.Pairs))), some (.b true), some (.b true), some (.b true), some (.ptr 0 0 0 3), some (.d (.sl true a0.Pairs.length (vec spliceref04_Pair.e spliceref04_Pair.z a0.Pairs))), some (.d (.rop true a0.Pairs.length (vec spliceref04_Pair.e spliceref04_Pair.z a0.Pairs) 0 0)), some (.d (.rop true a0.Pairs.length (vec spliceref04_Pair.e spliceref04_Pair.z a0.Pairs) 0 0)), some (.i ((a0.Pairs.getD 0 spliceref04_Pair.z).Key)), some (.ptr 0 0 0 3), some (.d (.sl true a0.Pairs.length (vec spliceref04_Pair.e spliceref04_Pair.z a0.Pairs))), some (.d (.rop true a0.Pairs.length (vec spliceref04_Pair.e spliceref04_Pair.z a0.Pairs) 1 0)), some (.d (.rop true a0.Pairs.length (vec spliceref04_Pair.e spliceref04_Pair.z a0.Pairs) 1 0)), some (.i ((a0.Pairs.getD 1 spliceref04_Pair.z).Key)), some (.b true), some (.b true), some (.b true), some (.ptr 0 0 0 3), some (.d (.sl true a0.Pairs.length (vec spliceref04_Pair.e spliceref04_Pair.z a0.Pairs))), some (.d (.rop true a0.Pairs.length (vec spliceref04_Pair.e spliceref04_Pair.z a0.Pairs) 0 0)), some (.d (.rop true a0.Pairs.length (vec spliceref04_Pair.e spliceref04_Pair.z a0.Pairs) 0 1)), some (.i ((a0.Pairs.getD 0 spliceref04_Pair.z).Val)), some (.ptr 0 0 0 3), some (.d (.sl true a0.Pairs.length (vec spliceref04_Pair.e spliceref04_Pair.z a0.Pairs))), some (.d (.rop true a0.Pairs.length (vec spliceref04_Pair.e spliceref04_Pair.z a0.Pairs) 1 0)), some (.d (.rop true a0.Pairs.length (vec spliceref04_Pair.e spliceref04_Pair.z a0.Pairs) 1 1)), some (.i ((a0.Pairs.getD 1 spliceref04_Pair.z).Val))] 2 ++ rest, [.box 38 [.i a0.Client, .i a0.Seq, .i a0.Kind, .d (.sl true a0.Pairs.length (vec spliceref04_Pair.e spliceref04_Pair.z a0.Pairs)), .i a0.Over.Lo, .i a0.Over.Hi, .i a0.Old]]⟩) (fun R rest => by kernel_rfl) (fun R rest => by rw [eqT c23]; first | done | rfl))) (op_go hT fun R rest => by kernel_rfl)) (op_go hT fun R rest => by kernel_rfl)) (op_go hT fun R rest => by kernel_rfl)) (fun R rest h => ak_callD (avs := [.d (.sl true a0.Pairs.length (vec spliceref04_Pair.e spliceref04_Pair.z a0.Pairs)), .i 2, .i 2]) (dst := some 107) hP enters_84 (by have q := spliceref04_pairs.says (t0 := true) a0.Pairs 2 2 h24; rw [c25] at q; exact q) (by kernel_rfl) (.cons (pass_d _) (.cons (pass_d _) (.cons (pass_d _) .nil))) (by kernel_rfl) h)) (op_go hT fun R rest => by kernel_rfl)) (op_go hT fun R rest => by kernel_rfl)) (op_go hT fun R rest => by kernel_rfl)) (op_go hT fun R rest => by kernel_rfl)) (fun R rest h => ak_idx0 hT (i := 0) (n := (a0.Pairs.length : Int)) h26.1 h26.2 (by kernel_rfl) h)) (op_go hT fun R rest => by kernel_rfl)) (op_go hT fun R rest => by kernel_rfl)) (op_go hT fun R rest => by kernel_rfl)) (op_go hT fun R rest => by kernel_rfl)) (fun R rest h => ak_idx0 hT (i := 1) (n := (a0.Pairs.length : Int)) h27.1 h27.2 (by kernel_rfl) h)) (op_go hT fun R rest => by kernel_rfl)) (op_go hT fun R rest => by kernel_rfl)) (op_goE hT (st' := fun R rest => ⟨143, (120, .b (((a0.Pairs.getD 0 spliceref04_Pair.z).Key) != ((a0.Pairs.getD 1 spliceref04_Pair.z).Key))) :: needOf (opsAt (K48 [1, 1, 1, 1, 1, 1, 1, 1, 0])) [(1, .ptr 0 0 0 0)] [some (.ptr 0 0 0 2), some (.i a0.Kind), some (.b true), some (.b true), some (.ptr 0 0 0 3), some (.d (.sl true a0.Pairs.length (vec spliceref04_Pair.e spliceref04_Pair.z a0.Pairs))), some (.b true), some (.b true), some (.b true), some (.ptr 0 0 0 3), some (.d (.sl true a0.Pairs.length (vec spliceref04_Pair.e spliceref04_Pair.z a0.Pairs))), some (.d (.rop true a0.Pairs.length (vec spliceref04_Pair.e spliceref04_Pair.z a0.Pairs) 0 0)), some (.d (.rop true a0.Pairs.length (vec spliceref04_Pair.e spliceref04_Pair.z a0.Pairs) 0 0)), some (.i ((a0.Pairs.getD 0 spliceref04_Pair.z).Key)), some (.ptr 0 0 0 3), some (.d (.sl true a0.Pairs.length (vec spliceref04_Pair.e spliceref04_Pair.z a0.Pairs))), some (.d (.rop true a0.Pairs.length (vec spliceref04_Pair.e spliceref04_Pair.z a0.Pairs) 1 0)), some (.d (.rop true a0.Pairs.length (vec spliceref04_Pair.e spliceref04_Pair.z a0.Pairs) 1 0)), some (.i ((a0.Pairs.getD 1 spliceref04_Pair.z).Key)), some (.b true), some (.b true), some (.b true), some (.ptr 0 0 0 3), some (.d (.sl true a0.Pairs.length (vec spliceref04_Pair.e spliceref04_Pair.z a0.Pairs))), some (.d (.rop true a0.Pairs.length (vec spliceref04_Pair.e spliceref04_Pair.z a0.Pairs) 0 0)), some (.d (.rop true a0.Pairs.length (vec spliceref04_Pair.e spliceref04_Pair.z a0.Pairs) 0 1)), some (.i ((a0.Pairs.getD 0 spliceref04_Pair.z).Val)), some (.ptr 0 0 0 3), some (.d (.sl true a0.Pairs.length (vec spliceref04_Pair.e spliceref04_Pair.z a0.Pairs))), some (.d (.rop true a0.Pairs.length (vec spliceref04_Pair.e spliceref04_Pair.z a0.Pairs) 1 0)), some (.d (.rop true a0.Pairs.length (vec spliceref04_Pair.e spliceref04_Pair.z a0.Pairs) 1 1)), some (.i ((a0.Pairs.getD 1 spliceref04_Pair.z).Val))] 19 ++ rest, [.box 38 [.i a0.Client, .i a0.Seq, .i a0.Kind, .d (.sl true a0.Pairs.length (vec spliceref04_Pair.e spliceref04_Pair.z a0.Pairs)), .i a0.Over.Lo, .i a0.Over.Hi, .i a0.Old]]⟩) (fun R rest => by kernel_rfl) (fun R rest => by rw [neT c28]; first | done | rfl))) (op_go hT fun R rest => by kernel_rfl)) (op_go hT fun R rest => by kernel_rfl)) (op_go hT fun R rest => by kernel_rfl)) (op_go hT fun R rest => by kernel_rfl)) (fun R rest h => ak_idx0 hT (i := 0) (n := (a0.Pairs.length : Int)) h26.1 h26.2 (by kernel_rfl) h)) (op_go hT fun R rest => by kernel_rfl)) (op_go hT fun R rest => by kernel_rfl)) (op_go hT fun R rest => by kernel_rfl)) (op_go hT fun R rest => by kernel_rfl)) (fun R rest h => ak_idx0 hT (i := 1) (n := (a0.Pairs.length : Int)) h27.1 h27.2 (by kernel_rfl) h)) (op_go hT fun R rest => by kernel_rfl)) (op_go hT fun R rest => by kernel_rfl)) ?_
                          refine go hT 3 [1, 135] (k' := K48 [1, 1, 1, 1, 1, 1, 1, 1, 0, 35]) (st' := ⟨143, [(1, .ptr 0 0 0 0), (135, .b (((a0.Pairs.getD 0 spliceref04_Pair.z).Val) == ((a0.Pairs.getD 1 spliceref04_Pair.z).Val)))], [.box 38 [.i a0.Client, .i a0.Seq, .i a0.Kind, .d (.sl true a0.Pairs.length (vec spliceref04_Pair.e spliceref04_Pair.z a0.Pairs)), .i a0.Over.Lo, .i a0.Over.Hi, .i a0.Old]]⟩) (by kernel_rfl) ?_
                          by_cases c29 : ((a0.Pairs.getD 0 spliceref04_Pair.z).Val) = ((a0.Pairs.getD 1 spliceref04_Pair.z).Val)
                          · replace H := iteT (K := fun o => o) c29 H
                            rw [eqT c29]
                            refine go hT 2 [135, 137] (k' := K48 [1, 1, 1, 1, 1, 1, 1, 1, 0, 37]) (st' := ⟨143, [(135, .b true), (137, .d (.sl true a0.Pairs.length (vec spliceref04_Pair.e spliceref04_Pair.z a0.Pairs)))], [.box 38 [.i a0.Client, .i a0.Seq, .i a0.Kind, .d (.sl true a0.Pairs.length (vec spliceref04_Pair.e spliceref04_Pair.z a0.Pairs)), .i a0.Over.Lo, .i a0.Over.Hi, .i a0.Old]]⟩) (by kernel_rfl) ?_
                            refine ak_idx hT [135, 138] (i := 0) (n := (a0.Pairs.length : Int)) h26.1 h26.2 (k' := K48 [1, 1, 1, 1, 1, 1, 1, 1, 0, 38]) (st' := ⟨143, [(135, .b true), (138, .d (.rop true a0.Pairs.length (vec spliceref04_Pair.e spliceref04_Pair.z a0.Pairs) 0 0))], [.box 38 [.i a0.Client, .i a0.Seq, .i a0.Kind, .d (.sl true a0.Pairs.length (vec spliceref04_Pair.e spliceref04_Pair.z a0.Pairs)), .i a0.Over.Lo, .i a0.Over.Hi, .i a0.Old]]⟩) (by kernel_rfl) ?_
                            refine go hT 6 [2] (k' := K48 [1, 1, 1, 1, 1, 1, 1, 1, 1]) (st' := ⟨143, [(2, .b (decide (((a0.Pairs.getD 0 spliceref04_Pair.z).Val) ≥ 0)))], [.box 38 [.i a0.Client, .i a0.Seq, .i a0.Kind, .d (.sl true a0.Pairs.length (vec spliceref04_Pair.e spliceref04_Pair.z a0.Pairs)), .i a0.Over.Lo, .i a0.Over.Hi, .i a0.Old]]⟩) (by kernel_rfl) ?_
                            refine ak_cut [2] [] (st' := ⟨143, [(2, .b (decide (((a0.Pairs.getD 0 spliceref04_Pair.z).Val) ≥ 0)))], []⟩) (by kernel_rfl) (by kernel_rfl) rfl (by decide) (by rw [h0]; rfl) ?_
                            exact Jj5 (decide (((a0.Pairs.getD 0 spliceref04_Pair.z).Val) ≥ 0)) H
                          · replace H := iteF (K := fun o => o) c29 H
                            rw [eqF c29]
                            refine go hT 9 [2] (k' := K48 [1, 1, 1, 1, 1, 1, 1, 1, 1]) (st' := ⟨143, [(2, .b false)], [.box 38 [.i a0.Client, .i a0.Seq, .i a0.Kind, .d (.sl true a0.Pairs.length (vec spliceref04_Pair.e spliceref04_Pair.z a0.Pairs)), .i a0.Over.Lo, .i a0.Over.Hi, .i a0.Old]]⟩) (by kernel_rfl) ?_
                            refine ak_cut [2] [] (st' := ⟨143, [(2, .b false)], []⟩) (by kernel_rfl) (by kernel_rfl) rfl (by decide) (by rw [h0]; rfl) ?_
                            exact Jj5 false H
                      · replace H := iteF (K := fun o => o) c25 H
                        refine ak_drawAt (nt := 143) (rows := [.box 38 [.i a0.Client, .i a0.Seq, .i a0.Kind, .d (.sl true a0.Pairs.length (vec spliceref04_Pair.e spliceref04_Pair.z a0.Pairs)), .i a0.Over.Lo, .i a0.Over.Hi, .i a0.Old]]) (hP ▸ mixed) 32 [1] [(1, .ptr 0 0 0 0)] [some (.ptr 0 0 0 2), some (.i a0.Kind), some (.b true), some (.b true), some (.ptr 0 0 0 3), some (.d (.sl true a0.Pairs.length (vec spliceref04_Pair.e spliceref04_Pair.z a0.Pairs))), some (.b false), some (.b false), some (.b false), some (.tup []), some (.tup []), some (.tup []), some (.tup []), some (.tup []), some (.tup []), some (.tup []), some (.tup []), some (.tup []), some (.tup []), some (.tup []), some (.b false), some (.b false), some (.tup []), some (.tup []), some (.tup []), some (.tup []), some (.tup []), some (.tup []), some (.tup []), some (.tup []), some (.tup []), some (.tup [])] (by kernel_rfl) (by kernel_rfl) (by kernel_rfl) (opS (opS (opS (opS (opS (opS (opS (opS (opS (opS (opS (opS (opS (opS (opS (opS (opS (opS (opS (opS (opS (opS (opS (opS (opS (opS (opS (opS (opS (opS (opS (opS op0 (op_go hT fun R rest => by kernel_rfl)) (op_go hT fun R rest => by kernel_rfl)) (op_goE hT (st' := fun R rest => ⟨143, (103, .b (a0.Kind == 5)) :: needOf (opsAt (K48 [1, 1, 1, 1, 1, 1, 1, 1, 0])) [(1, .ptr 0 0 0 0)] [some (.ptr 0 0 0 2), some (.i a0.Kind), some (.b true), some (.b true), some (.ptr 0 0 0 3), some (.d (.sl true a0.Pairs.length (vec spliceref04_Pair.e spliceref04_Pair.z a0.Pairs))), some (.b false), some (.b false), some (.b false), some (.tup []), some (.tup []), some (.tup []), some (.tup []), some (.tup []), some (.tup []), some (.tup []), some (.tup []), some (.tup []), some (.tup []), some (.tup []), some (.b false), some (.b false), some (.tup []), some (.tup []), some (.tup []), some (.tup []), some (.tup []), some (.tup []), some (.tup []), some (.tup []), some (.tup []), some (.tup [])] 2 ++ rest, [.box 38 [.i a0.Client, .i a0.Seq, .i a0.Kind, .d (.sl true a0.Pairs.length (vec spliceref04_Pair.e spliceref04_Pair.z a0.Pairs)), .i a0.Over.Lo, .i a0.Over.Hi, .i a0.Old]]⟩) (fun R rest => by kernel_rfl) (fun R rest => by rw [eqT c23]; first | done | rfl))) (op_go hT fun R rest => by kernel_rfl)) (op_go hT fun R rest => by kernel_rfl)) (op_go hT fun R rest => by kernel_rfl)) (fun R rest h => ak_callD (avs := [.d (.sl true a0.Pairs.length (vec spliceref04_Pair.e spliceref04_Pair.z a0.Pairs)), .i 2, .i 2]) (dst := some 107) hP enters_84 (by have q := spliceref04_pairs.says (t0 := true) a0.Pairs 2 2 h24; rw [boF c25] at q; exact q) (by kernel_rfl) (.cons (pass_d _) (.cons (pass_d _) (.cons (pass_d _) .nil))) (by kernel_rfl) h)) (op_go hT fun R rest => by kernel_rfl)) (op_go hT fun R rest => by kernel_rfl)) (op_go hT fun R rest => by kernel_rfl)) (op_go hT fun R rest => by kernel_rfl)) (op_go hT fun R rest => by kernel_rfl)) (op_go hT fun R rest => by kernel_rfl)) (op_go hT fun R rest => by kernel_rfl)) (op_go hT fun R rest => by kernel_rfl)) (op_go hT fun R rest => by kernel_rfl)) (op_go hT fun R rest => by kernel_rfl)) (op_go hT fun R rest => by kernel_rfl)) (op_go hT fun R rest => by kernel_rfl)) (op_go hT fun R rest => by kernel_rfl)) (op_go hT fun R rest => by kernel_rfl)) (op_go hT fun R rest => by kernel_rfl)) (op_go hT fun R rest => by kernel_rfl)) (op_go hT fun R rest => by kernel_rfl)) (op_go hT fun R rest => by kernel_rfl)) (op_go hT fun R rest => by kernel_rfl)) (op_go hT fun R rest => by kernel_rfl)) (op_go hT fun R rest => by kernel_rfl)) (op_go hT fun R rest => by kernel_rfl)) (op_go hT fun R rest => by kernel_rfl)) (op_go hT fun R rest => by kernel_rfl)) (op_go hT fun R rest => by kernel_rfl)) ?_
                        refine go hT 12 [2] (k' := K48 [1, 1, 1, 1, 1, 1, 1, 1, 1]) (st' := ⟨143, [(2, .b false)], [.box 38 [.i a0.Client, .i a0.Seq, .i a0.Kind, .d (.sl true a0.Pairs.length (vec spliceref04_Pair.e spliceref04_Pair.z a0.Pairs)), .i a0.Over.Lo, .i a0.Over.Hi, .i a0.Old]]⟩) (by kernel_rfl) ?_
                        refine ak_cut [2] [] (st' := ⟨143, [(2, .b false)], []⟩) (by kernel_rfl) (by kernel_rfl) rfl (by decide) (by rw [h0]; rfl) ?_
                        exact Jj5 false H
                    · replace H := iteF (K := fun o => o) c23 H
                      refine ak_drawAt (nt := 143) (rows := [.box 38 [.i a0.Client, .i a0.Seq, .i a0.Kind, .d (.sl true a0.Pairs.length (vec spliceref04_Pair.e spliceref04_Pair.z a0.Pairs)), .i a0.Over.Lo, .i a0.Over.Hi, .i a0.Old]]) (hP ▸ mixed) 32 [1] [(1, .ptr 0 0 0 0)] [some (.ptr 0 0 0 2), some (.i a0.Kind), some (.b false), some (.b false), some (.tup []), some (.tup []), some (.tup []), some (.b false), some (.b false), some (.tup []), some (.tup []), some (.tup []), some (.tup []), some (.tup []), some (.tup []), some (.tup []), some (.tup []), some (.tup []), some (.tup []), some (.tup []), some (.b false), some (.b false), some (.tup []), some (.tup []), some (.tup []), some (.tup []), some (.tup []), some (.tup []), some (.tup []), some (.tup []), some (.tup []), some (.tup [])] (by kernel_rfl) (by kernel_rfl) (by kernel_rfl) (opS (opS (opS (opS (opS (opS (opS (opS (opS (opS (opS (opS (opS (opS (opS (opS (opS (opS (opS (opS (opS (opS (opS (opS (opS (opS (opS (opS (opS (opS (opS (opS op0 (op_go hT fun R rest => by kernel_rfl)) (op_go hT fun R rest => by kernel_rfl)) (op_goE hT (st' := fun R rest => ⟨143, (103, .b (a0.Kind == 5)) :: needOf (opsAt (K48 [1, 1, 1, 1, 1, 1, 1, 1, 0])) [(1, .ptr 0 0 0 0)] [some (.ptr 0 0 0 2), some (.i a0.Kind), some (.b false), some (.b false), some (.tup []), some (.tup []), some (.tup []), some (.b false), some (.b false), some (.tup []), some (.tup []), some (.tup []), some (.tup []), some (.tup []), some (.tup []), some (.tup []), some (.tup []), some (.tup []), some (.tup []), some (.tup []), some (.b false), some (.b false), some (.tup []), some (.tup []), some (.tup []), some (.tup []), some (.tup []), some (.tup []), some (.tup []), some (.tup []), some (.tup []), some (.tup [])] 2 ++ rest, [.box 38 [.i a0.Client, .i a0.Seq, .i a0.Kind, .d (.sl true a0.Pairs.length (vec spliceref04_Pair.e spliceref04_Pair.z a0.Pairs)), .i a0.Over.Lo, .i a0.Over.Hi, .i a0.Old]]⟩) (fun R rest => by kernel_rfl) (fun R rest => by rw [eqF c23]; first | done | rfl))) (op_go hT fun R rest => by kernel_rfl)) (op_go hT fun R rest => by kernel_rfl)) (op_go hT fun R rest => by kernel_rfl)) (op_go hT fun R rest => by kernel_rfl)) (op_go hT fun R rest => by kernel_rfl)) (op_go hT fun R rest => by kernel_rfl)) (op_go hT fun R rest => by kernel_rfl)) (op_go hT fun R rest => by kernel_rfl)) (op_go hT fun R rest => by kernel_rfl)) (op_go hT fun R rest => by kernel_rfl)) (op_go hT fun R rest => by kernel_rfl)) (op_go hT fun R rest => by kernel_rfl)) (op_go hT fun R rest => by kernel_rfl)) (op_go hT fun R rest => by kernel_rfl)) (op_go hT fun R rest => by kernel_rfl)) (op_go hT fun R rest => by kernel_rfl)) (op_go hT fun R rest => by kernel_rfl)) (op_go hT fun R rest => by kernel_rfl)) (op_go hT fun R rest => by kernel_rfl)) (op_go hT fun R rest => by kernel_rfl)) (op_go hT fun R rest => by kernel_rfl)) (op_go hT fun R rest => by kernel_rfl)) (op_go hT fun R rest => by kernel_rfl)) (op_go hT fun R rest => by kernel_rfl)) (op_go hT fun R rest => by kernel_rfl)) (op_go hT fun R rest => by kernel_rfl)) (op_go hT fun R rest => by kernel_rfl)) (op_go hT fun R rest => by kernel_rfl)) (op_go hT fun R rest => by kernel_rfl)) ?_
                      refine go hT 12 [2] (k' := K48 [1, 1, 1, 1, 1, 1, 1, 1, 1]) (st' := ⟨143, [(2, .b false)], [.box 38 [.i a0.Client, .i a0.Seq, .i a0.Kind, .d (.sl true a0.Pairs.length (vec spliceref04_Pair.e spliceref04_Pair.z a0.Pairs)), .i a0.Over.Lo, .i a0.Over.Hi, .i a0.Old]]⟩) (by kernel_rfl) ?_
                      refine ak_cut [2] [] (st' := ⟨143, [(2, .b false)], []⟩) (by kernel_rfl) (by kernel_rfl) rfl (by decide) (by rw [h0]; rfl) ?_
                      exact Jj5 false H
              · replace H := iteF (K := fun o => o) c14 H
                rw [neT c14]
                refine go hT 5 [2] (k' := K48 [1, 1, 1, 1, 1, 0, 1, 0, 1]) (st' := ⟨143, [(2, .b false)], [.box 38 [.i a0.Client, .i a0.Seq, .i a0.Kind, .d (.sl true a0.Pairs.length (vec spliceref04_Pair.e spliceref04_Pair.z a0.Pairs)), .i a0.Over.Lo, .i a0.Over.Hi, .i a0.Old]]⟩) (by kernel_rfl) ?_
                obtain rfl := retC H
                exact ak_ret hf hX (av := .b false) (by kernel_rfl) [] (sel_of_eq (by kernel_rfl)) (by decide) (by rw [h0]; rfl) (by kernel_rfl) (fun _ h => all_nil h) (.d (.v _))
        rw [eqF c5]
        refine go hT 2 [1] (k' := K48 [1, 1, 1]) (st' := ⟨143, [(1, .ptr 0 0 0 0)], [.box 38 [.i a0.Client, .i a0.Seq, .i a0.Kind, .d (.sl true a0.Pairs.length (vec spliceref04_Pair.e spliceref04_Pair.z a0.Pairs)), .i a0.Over.Lo, .i a0.Over.Hi, .i a0.Old]]⟩) (by kernel_rfl) ?_
        refine go hT 8 [1, 43] (k' := K48 [1, 1, 1, 0, 0, 5]) (st' := ⟨143, [(1, .ptr 0 0 0 0), (43, .b (a0.Over.Lo != 0))], [.box 38 [.i a0.Client, .i a0.Seq, .i a0.Kind, .d (.sl true a0.Pairs.length (vec spliceref04_Pair.e spliceref04_Pair.z a0.Pairs)), .i a0.Over.Lo, .i a0.Over.Hi, .i a0.Old]]⟩) (by kernel_rfl) ?_
        by_cases c8 : a0.Over.Lo = 0
        · replace H := iteT (K := fun o => o) c8 H
          rw [neF c8]
          refine go hT 6 [1, 48] (k' := K48 [1, 1, 1, 0, 1]) (st' := ⟨143, [(1, .ptr 0 0 0 0), (48, .b (a0.Over.Hi != 0))], [.box 38 [.i a0.Client, .i a0.Seq, .i a0.Kind, .d (.sl true a0.Pairs.length (vec spliceref04_Pair.e spliceref04_Pair.z a0.Pairs)), .i a0.Over.Lo, .i a0.Over.Hi, .i a0.Old]]⟩) (by kernel_rfl) ?_
          refine ak_cut [1, 48] [0] (st' := ⟨143, [(1, .ptr 0 0 0 0), (48, .b (a0.Over.Hi != 0))], [.box 38 [.i a0.Client, .i a0.Seq, .i a0.Kind, .d (.sl true a0.Pairs.length (vec spliceref04_Pair.e spliceref04_Pair.z a0.Pairs)), .i a0.Over.Lo, .i a0.Over.Hi, .i a0.Old]]⟩) (by kernel_rfl) (by kernel_rfl) rfl (by decide) (by rw [h0]; rfl) ?_
          exact Jj3 (a0.Over.Hi != 0) H
        · replace H := iteF (K := fun o => o) c8 H
          rw [neT c8]
          refine go hT 6 [1, 48] (k' := K48 [1, 1, 1, 0, 1]) (st' := ⟨143, [(1, .ptr 0 0 0 0), (48, .b true)], [.box 38 [.i a0.Client, .i a0.Seq, .i a0.Kind, .d (.sl true a0.Pairs.length (vec spliceref04_Pair.e spliceref04_Pair.z a0.Pairs)), .i a0.Over.Lo, .i a0.Over.Hi, .i a0.Old]]⟩) (by kernel_rfl) ?_
          refine ak_cut [1, 48] [0] (st' := ⟨143, [(1, .ptr 0 0 0 0), (48, .b true)], [.box 38 [.i a0.Client, .i a0.Seq, .i a0.Kind, .d (.sl true a0.Pairs.length (vec spliceref04_Pair.e spliceref04_Pair.z a0.Pairs)), .i a0.Over.Lo, .i a0.Over.Hi, .i a0.Old]]⟩) (by kernel_rfl) (by kernel_rfl) rfl (by decide) (by rw [h0]; rfl) ?_
          exact Jj3 true H
  refine go hT 12 [1, 7] (k' := K48 [1, 0, 0, 4]) (st' := ⟨143, [(1, .ptr 0 0 0 0), (7, .b (decide (a0.Client < 1)))], [.box 38 [.i a0.Client, .i a0.Seq, .i a0.Kind, .d (.sl true a0.Pairs.length (vec spliceref04_Pair.e spliceref04_Pair.z a0.Pairs)), .i a0.Over.Lo, .i a0.Over.Hi, .i a0.Old]]⟩) (by kernel_rfl) ?_
  by_cases c1 : a0.Client < 1
  · replace H := iteT (K := fun o => o) c1 H
    rw [decide_eq_true c1]
    refine go hT 15 [1, 21] (k' := K48 [1, 0, 1]) (st' := ⟨143, [(1, .ptr 0 0 0 0), (21, .b true)], [.box 38 [.i a0.Client, .i a0.Seq, .i a0.Kind, .d (.sl true a0.Pairs.length (vec spliceref04_Pair.e spliceref04_Pair.z a0.Pairs)), .i a0.Over.Lo, .i a0.Over.Hi, .i a0.Old]]⟩) (by kernel_rfl) ?_
    refine ak_cut [1, 21] [0] (st' := ⟨143, [(1, .ptr 0 0 0 0), (21, .b true)], [.box 38 [.i a0.Client, .i a0.Seq, .i a0.Kind, .d (.sl true a0.Pairs.length (vec spliceref04_Pair.e spliceref04_Pair.z a0.Pairs)), .i a0.Over.Lo, .i a0.Over.Hi, .i a0.Old]]⟩) (by kernel_rfl) (by kernel_rfl) rfl (by decide) (by rw [h0]; rfl) ?_
    exact Jj1 true H
  · replace H := iteF (K := fun o => o) c1 H
    rw [decide_eq_false c1]
    refine go hT 5 [1, 12] (k' := K48 [1, 0, 0, 9]) (st' := ⟨143, [(1, .ptr 0 0 0 0), (12, .b (decide (a0.Client > 1048576)))], [.box 38 [.i a0.Client, .i a0.Seq, .i a0.Kind, .d (.sl true a0.Pairs.length (vec spliceref04_Pair.e spliceref04_Pair.z a0.Pairs)), .i a0.Over.Lo, .i a0.Over.Hi, .i a0.Old]]⟩) (by kernel_rfl) ?_
    by_cases c2 : a0.Client > 1048576
    · replace H := iteT (K := fun o => o) c2 H
      rw [decide_eq_true c2]
      refine go hT 10 [1, 21] (k' := K48 [1, 0, 1]) (st' := ⟨143, [(1, .ptr 0 0 0 0), (21, .b true)], [.box 38 [.i a0.Client, .i a0.Seq, .i a0.Kind, .d (.sl true a0.Pairs.length (vec spliceref04_Pair.e spliceref04_Pair.z a0.Pairs)), .i a0.Over.Lo, .i a0.Over.Hi, .i a0.Old]]⟩) (by kernel_rfl) ?_
      refine ak_cut [1, 21] [0] (st' := ⟨143, [(1, .ptr 0 0 0 0), (21, .b true)], [.box 38 [.i a0.Client, .i a0.Seq, .i a0.Kind, .d (.sl true a0.Pairs.length (vec spliceref04_Pair.e spliceref04_Pair.z a0.Pairs)), .i a0.Over.Lo, .i a0.Over.Hi, .i a0.Old]]⟩) (by kernel_rfl) (by kernel_rfl) rfl (by decide) (by rw [h0]; rfl) ?_
      exact Jj1 true H
    · replace H := iteF (K := fun o => o) c2 H
      rw [decide_eq_false c2]
      refine go hT 5 [1, 17] (k' := K48 [1, 0, 0, 14]) (st' := ⟨143, [(1, .ptr 0 0 0 0), (17, .b (decide (a0.Seq < 1)))], [.box 38 [.i a0.Client, .i a0.Seq, .i a0.Kind, .d (.sl true a0.Pairs.length (vec spliceref04_Pair.e spliceref04_Pair.z a0.Pairs)), .i a0.Over.Lo, .i a0.Over.Hi, .i a0.Old]]⟩) (by kernel_rfl) ?_
      by_cases c3 : a0.Seq < 1
      · replace H := iteT (K := fun o => o) c3 H
        rw [decide_eq_true c3]
        refine go hT 5 [1, 21] (k' := K48 [1, 0, 1]) (st' := ⟨143, [(1, .ptr 0 0 0 0), (21, .b true)], [.box 38 [.i a0.Client, .i a0.Seq, .i a0.Kind, .d (.sl true a0.Pairs.length (vec spliceref04_Pair.e spliceref04_Pair.z a0.Pairs)), .i a0.Over.Lo, .i a0.Over.Hi, .i a0.Old]]⟩) (by kernel_rfl) ?_
        refine ak_cut [1, 21] [0] (st' := ⟨143, [(1, .ptr 0 0 0 0), (21, .b true)], [.box 38 [.i a0.Client, .i a0.Seq, .i a0.Kind, .d (.sl true a0.Pairs.length (vec spliceref04_Pair.e spliceref04_Pair.z a0.Pairs)), .i a0.Over.Lo, .i a0.Over.Hi, .i a0.Old]]⟩) (by kernel_rfl) (by kernel_rfl) rfl (by decide) (by rw [h0]; rfl) ?_
        exact Jj1 true H
      · replace H := iteF (K := fun o => o) c3 H
        rw [decide_eq_false c3]
        refine go hT 5 [1, 21] (k' := K48 [1, 0, 1]) (st' := ⟨143, [(1, .ptr 0 0 0 0), (21, .b (decide (a0.Seq > 1073741824)))], [.box 38 [.i a0.Client, .i a0.Seq, .i a0.Kind, .d (.sl true a0.Pairs.length (vec spliceref04_Pair.e spliceref04_Pair.z a0.Pairs)), .i a0.Over.Lo, .i a0.Over.Hi, .i a0.Old]]⟩) (by kernel_rfl) ?_
        refine ak_cut [1, 21] [0] (st' := ⟨143, [(1, .ptr 0 0 0 0), (21, .b (decide (a0.Seq > 1073741824)))], [.box 38 [.i a0.Client, .i a0.Seq, .i a0.Kind, .d (.sl true a0.Pairs.length (vec spliceref04_Pair.e spliceref04_Pair.z a0.Pairs)), .i a0.Over.Lo, .i a0.Over.Hi, .i a0.Old]]⟩) (by kernel_rfl) (by kernel_rfl) rfl (by decide) (by rw [h0]; rfl) ?_
        exact Jj1 (decide (a0.Seq > 1073741824)) H


theorem spliceref05_more.says {t0 : Bool} (a0 : List Int) (a1 : Int) {r : List Int} (H : spliceref05_more a0 a1 = some r) : Says Try.prog 86 [] [.d (.sl t0 a0.length (vec (eI .i64) 0 a0)), .i a1] [.flat false 1 3 r.length (vec (eI .i64) 0 r)] (.own 0 1 0 r.length) := by
  refine says_of Try.func86 rfl (nt := 48) rfl (Nat.le_of_ble_eq_true rfl) fun X hP h0 hX => ?_
  have hT : TabOk X.P T := hP ▸ tok
  have hf : X.P.funcs[86]? = some Try.f86 := hP ▸ Try.func86
  refine go hT 19 [0, 1, 5, 6, 7] (k' := K86 [1, 1, 1, 0, 1, 0, 0]) (st' := ⟨48, [(0, .d (.sl t0 a0.length (vec (eI .i64) 0 a0))), (1, .i a1), (5, .d (.v (.slice none 0 0))), (6, .b false), (7, .i 0)], []⟩) (by kernel_rfl) ?_
  refine ak_nilS [0, 1, 5, 6, 7] 5 1 3 (vec (eI .i64) 0 []) (st' := ⟨48, [(0, .d (.sl t0 a0.length (vec (eI .i64) 0 a0))), (1, .i a1), (5, .own 0 1 0 0), (6, .b false), (7, .i 0)], [.flat false 1 3 ([] : List Int).length (vec (eI .i64) 0 ([] : List Int))]⟩) (by kernel_rfl) (by kernel_rfl) ?_
  have L : ∀ n, (∀ (x1_6 : Bool) (x1_7 : Int) (x1_r0 : List Int), iter (spliceref05_more.step a0 a1) n (.l1 x1_6 x1_7 x1_r0) = some r → AK X 86 (K86 [1, 1, 1, 0, 1, 0, 0]) (Back X [.flat false 1 3 r.length (vec (eI .i64) 0 r)] (.own 0 1 0 r.length)) ⟨48, [(0, .d (.sl t0 a0.length (vec (eI .i64) 0 a0))), (1, .i a1), (5, .own 0 1 0 x1_r0.length), (6, .b x1_6), (7, .i x1_7)], [.flat false 1 3 x1_r0.length (vec (eI .i64) 0 x1_r0)]⟩) := by
    intro n
    induction n with
    | zero => exact fun _ _ _ H => iter0 H
    | succ n ih =>
      · intro x1_6 x1_7 x1_r0 H
        refine go hT 8 [0, 1, 5, 6, 7, 11] (k' := K86 [1, 1, 1, 0, 1, 0, 0, 0, 1]) (st' := ⟨48, [(0, .d (.sl t0 a0.length (vec (eI .i64) 0 a0))), (1, .i a1), (5, .own 0 1 0 x1_r0.length), (6, .b x1_6), (7, .i x1_7), (11, .b (decide (x1_7 < (a0.length : Int))))], [.flat false 1 3 x1_r0.length (vec (eI .i64) 0 x1_r0)]⟩) (by kernel_rfl) ?_
        by_cases c1 : x1_7 < (a0.length : Int)
        · replace H := iteT (K := fun o => stk o (iter (spliceref05_more.step a0 a1) n)) c1 H
          rw [decide_eq_true c1]
          refine go hT 2 [0, 1, 5, 6, 7] (k' := K86 [1, 1, 1, 0, 1, 0, 0, 1]) (st' := ⟨48, [(0, .d (.sl t0 a0.length (vec (eI .i64) 0 a0))), (1, .i a1), (5, .own 0 1 0 x1_r0.length), (6, .b x1_6), (7, .i x1_7)], [.flat false 1 3 x1_r0.length (vec (eI .i64) 0 x1_r0)]⟩) (by kernel_rfl) ?_
          refine go hT 7 [0, 1, 5, 6, 7, 14, 15] (k' := K86 [1, 1, 1, 0, 1, 0, 0, 1, 0, 0, 0, 0, 2]) (st' := ⟨48, [(0, .d (.sl t0 a0.length (vec (eI .i64) 0 a0))), (1, .i a1), (5, .own 0 1 0 x1_r0.length), (6, .b x1_6), (7, .i x1_7), (14, .d (.sl t0 a0.length (vec (eI .i64) 0 a0))), (15, .i x1_7)], [.flat false 1 3 x1_r0.length (vec (eI .i64) 0 x1_r0)]⟩) (by kernel_rfl) ?_
          obtain ⟨h4, H⟩ := iteC (K := fun o => stk o (iter (spliceref05_more.step a0 a1) n)) rfl H
          have Jj2 : ∀ (y2_6 : Bool), stk (spliceref05_more.j2 a0 a1 x1_7 x1_r0 y2_6) (iter (spliceref05_more.step a0 a1) n) = some r → AK X 86 (K86 [1, 1, 1, 0, 1, 0, 0, 1, 0, 0, 1]) (Back X [.flat false 1 3 r.length (vec (eI .i64) 0 r)] (.own 0 1 0 r.length)) ⟨48, [(0, .d (.sl t0 a0.length (vec (eI .i64) 0 a0))), (1, .i a1), (5, .own 0 1 0 x1_r0.length), (6, .b y2_6), (7, .i x1_7)], [.flat false 1 3 x1_r0.length (vec (eI .i64) 0 x1_r0)]⟩ := by
            intro y2_6 H
            have Jj3 : ∀ (y3_6 : Bool) (y3_29 : Bool), stk (spliceref05_more.j3 a0 a1 x1_7 x1_r0 y3_6 y3_29) (iter (spliceref05_more.step a0 a1) n) = some r → AK X 86 (K86 [1, 1, 1, 0, 1, 0, 0, 1, 0, 0, 1, 0, 1]) (Back X [.flat false 1 3 r.length (vec (eI .i64) 0 r)] (.own 0 1 0 r.length)) ⟨48, [(0, .d (.sl t0 a0.length (vec (eI .i64) 0 a0))), (1, .i a1), (5, .own 0 1 0 x1_r0.length), (6, .b y3_6), (7, .i x1_7), (29, .b y3_29)], [.flat false 1 3 x1_r0.length (vec (eI .i64) 0 x1_r0)]⟩ := by
              intro y3_6 y3_29 H
              have Jj4 : ∀ (y4_6 : Bool) (y4_r0 : List Int), stk (spliceref05_more.j4 a0 x1_7 y4_6 y4_r0) (iter (spliceref05_more.step a0 a1) n) = some r → AK X 86 (K86 [1, 1, 1, 0, 1, 0, 0, 1, 0, 0, 1, 1]) (Back X [.flat false 1 3 r.length (vec (eI .i64) 0 r)] (.own 0 1 0 r.length)) ⟨48, [(0, .d (.sl t0 a0.length (vec (eI .i64) 0 a0))), (1, .i a1), (5, .own 0 1 0 y4_r0.length), (6, .b y4_6), (7, .i x1_7)], [.flat false 1 3 y4_r0.length (vec (eI .i64) 0 y4_r0)]⟩ := by
                intro y4_6 y4_r0 H
                refine go hT 4 [0, 1, 6, 7, 34, 35, 36] (k' := K86 [1, 1, 1, 0, 1, 0, 0, 1, 0, 0, 1, 1, 3]) (st' := ⟨48, [(0, .d (.sl t0 a0.length (vec (eI .i64) 0 a0))), (1, .i a1), (6, .b y4_6), (7, .i x1_7), (34, .own 0 1 0 y4_r0.length), (35, .d (.sl t0 a0.length (vec (eI .i64) 0 a0))), (36, .i x1_7)], [.flat false 1 3 y4_r0.length (vec (eI .i64) 0 y4_r0)]⟩) (by kernel_rfl) ?_
                refine ak_idx hT [0, 1, 6, 7, 34, 37] (i := x1_7) (n := (a0.length : Int)) h4.1 h4.2 (k' := K86 [1, 1, 1, 0, 1, 0, 0, 1, 0, 0, 1, 1, 4]) (st' := ⟨48, [(0, .d (.sl t0 a0.length (vec (eI .i64) 0 a0))), (1, .i a1), (6, .b y4_6), (7, .i x1_7), (34, .own 0 1 0 y4_r0.length), (37, .d (.rop t0 a0.length (vec (eI .i64) 0 a0) x1_7.toNat 0))], [.flat false 1 3 y4_r0.length (vec (eI .i64) 0 y4_r0)]⟩) (by kernel_rfl) ?_
                refine go hT 2 [0, 1, 6, 7, 34, 39] (k' := K86 [1, 1, 1, 0, 1, 0, 0, 1, 0, 0, 1, 1, 6]) (st' := ⟨48, [(0, .d (.sl t0 a0.length (vec (eI .i64) 0 a0))), (1, .i a1), (6, .b y4_6), (7, .i x1_7), (34, .own 0 1 0 y4_r0.length), (39, .own 1 1 0 1)], [.flat false 1 3 y4_r0.length (vec (eI .i64) 0 y4_r0), .flat false 1 3 1 (fun j => [[.v (.int .i64 (a0.getD x1_7.toNat 0))]].getD j [])]⟩) (by kernel_rfl) ?_
                obtain ⟨h9, H⟩ := iteC (K := fun o => stk o (iter (spliceref05_more.step a0 a1) n)) rfl H
                refine ak_append1 (id := 0) (kk := 1) (by' := 8) (t := 85) (e := 3) (z := [.int .i64 0]) (dst := some 40) (id2 := 1) (e2 := 3) (fz := false) (k' := K86 [1, 1, 1, 0, 1, 0, 0, 1, 0, 0, 1, 1, 7]) hT (eI .i64) 0 y4_r0 (a0.getD x1_7.toNat 0) [0, 1, 6, 7, 40] (by kernel_rfl) (by kernel_rfl) (by kernel_rfl) (by kernel_rfl) (by kernel_rfl) (by kernel_rfl) (by kernel_rfl) h9 (by omega) (st' := ⟨48, [(0, .d (.sl t0 a0.length (vec (eI .i64) 0 a0))), (1, .i a1), (6, .b y4_6), (7, .i x1_7), (40, .own 2 1 0 ((y4_r0 ++ [a0.getD x1_7.toNat 0]).length))], [.gone, .flat false 1 3 1 (fun j => [[.v (.int .i64 (a0.getD x1_7.toNat 0))]].getD j []), .flat false 1 3 (y4_r0 ++ [a0.getD x1_7.toNat 0]).length (vec (eI .i64) 0 (y4_r0 ++ [a0.getD x1_7.toNat 0]))]⟩) (by kernel_rfl) ?_
                refine go hT 9 [0, 1, 5, 6, 7] (k' := K86 [1, 1, 1, 0, 1, 0, 0]) (st' := ⟨48, [(0, .d (.sl t0 a0.length (vec (eI .i64) 0 a0))), (1, .i a1), (5, .own 2 1 0 ((y4_r0 ++ [a0.getD x1_7.toNat 0]).length)), (6, .b y4_6), (7, .i (IntKind.wrap .i64 (x1_7 + 1)))], [.gone, .flat false 1 3 1 (fun j => [[.v (.int .i64 (a0.getD x1_7.toNat 0))]].getD j []), .flat false 1 3 (y4_r0 ++ [a0.getD x1_7.toNat 0]).length (vec (eI .i64) 0 (y4_r0 ++ [a0.getD x1_7.toNat 0]))]⟩) (by kernel_rfl) ?_
                refine ak_cut [0, 1, 5, 6, 7] [2] (st' := ⟨48, [(0, .d (.sl t0 a0.length (vec (eI .i64) 0 a0))), (1, .i a1), (5, .own 0 1 0 (y4_r0 ++ [a0.getD x1_7.toNat 0]).length), (6, .b y4_6), (7, .i (IntKind.wrap .i64 (x1_7 + 1)))], [.flat false 1 3 (y4_r0 ++ [a0.getD x1_7.toNat 0]).length (vec (eI .i64) 0 (y4_r0 ++ [a0.getD x1_7.toNat 0]))]⟩) (by kernel_rfl) (by kernel_rfl) rfl (by decide) (by rw [h0]; rfl) ?_
                exact ih y4_6 (IntKind.wrap .i64 (x1_7 + 1)) (y4_r0 ++ [a0.getD x1_7.toNat 0]) H
              by_cases c7 : y3_29 = true
              · replace H := iteT (K := fun o => stk o (iter (spliceref05_more.step a0 a1) n)) c7 H
                rw [c7]
                refine go hT 6 [0, 1, 7, 30, 32] (k' := K86 [1, 1, 1, 0, 1, 0, 0, 1, 0, 0, 1, 0, 1, 0, 0, 3]) (st' := ⟨48, [(0, .d (.sl t0 a0.length (vec (eI .i64) 0 a0))), (1, .i a1), (7, .i x1_7), (30, .own 0 1 0 x1_r0.length), (32, .own 1 1 0 1)], [.flat false 1 3 x1_r0.length (vec (eI .i64) 0 x1_r0), .flat false 1 3 1 (fun j => [[.v (.int .i64 a1)]].getD j [])]⟩) (by kernel_rfl) ?_
                obtain ⟨h8, H⟩ := iteC (K := fun o => stk o (iter (spliceref05_more.step a0 a1) n)) rfl H
                refine ak_append1 (id := 0) (kk := 1) (by' := 8) (t := 85) (e := 3) (z := [.int .i64 0]) (dst := some 33) (id2 := 1) (e2 := 3) (fz := false) (k' := K86 [1, 1, 1, 0, 1, 0, 0, 1, 0, 0, 1, 0, 1, 0, 0, 4]) hT (eI .i64) 0 x1_r0 a1 [0, 1, 7, 33] (by kernel_rfl) (by kernel_rfl) (by kernel_rfl) (by kernel_rfl) (by kernel_rfl) (by kernel_rfl) (by kernel_rfl) h8 (by omega) (st' := ⟨48, [(0, .d (.sl t0 a0.length (vec (eI .i64) 0 a0))), (1, .i a1), (7, .i x1_7), (33, .own 2 1 0 ((x1_r0 ++ [a1]).length))], [.gone, .flat false 1 3 1 (fun j => [[.v (.int .i64 a1)]].getD j []), .flat false 1 3 (x1_r0 ++ [a1]).length (vec (eI .i64) 0 (x1_r0 ++ [a1]))]⟩) (by kernel_rfl) ?_
                refine go hT 5 [0, 1, 5, 6, 7] (k' := K86 [1, 1, 1, 0, 1, 0, 0, 1, 0, 0, 1, 1]) (st' := ⟨48, [(0, .d (.sl t0 a0.length (vec (eI .i64) 0 a0))), (1, .i a1), (5, .own 2 1 0 ((x1_r0 ++ [a1]).length)), (6, .b true), (7, .i x1_7)], [.gone, .flat false 1 3 1 (fun j => [[.v (.int .i64 a1)]].getD j []), .flat false 1 3 (x1_r0 ++ [a1]).length (vec (eI .i64) 0 (x1_r0 ++ [a1]))]⟩) (by kernel_rfl) ?_
                refine ak_cut [0, 1, 5, 6, 7] [2] (st' := ⟨48, [(0, .d (.sl t0 a0.length (vec (eI .i64) 0 a0))), (1, .i a1), (5, .own 0 1 0 (x1_r0 ++ [a1]).length), (6, .b true), (7, .i x1_7)], [.flat false 1 3 (x1_r0 ++ [a1]).length (vec (eI .i64) 0 (x1_r0 ++ [a1]))]⟩) (by kernel_rfl) (by kernel_rfl) rfl (by decide) (by rw [h0]; rfl) ?_
                exact Jj4 true (x1_r0 ++ [a1]) H
              · replace H := iteF (K := fun o => stk o (iter (spliceref05_more.step a0 a1) n)) c7 H
                rw [boF c7]
                refine go hT 2 [0, 1, 5, 6, 7] (k' := K86 [1, 1, 1, 0, 1, 0, 0, 1, 0, 0, 1, 1]) (st' := ⟨48, [(0, .d (.sl t0 a0.length (vec (eI .i64) 0 a0))), (1, .i a1), (5, .own 0 1 0 x1_r0.length), (6, .b y3_6), (7, .i x1_7)], [.flat false 1 3 x1_r0.length (vec (eI .i64) 0 x1_r0)]⟩) (by kernel_rfl) ?_
                refine ak_cut [0, 1, 5, 6, 7] [0] (st' := ⟨48, [(0, .d (.sl t0 a0.length (vec (eI .i64) 0 a0))), (1, .i a1), (5, .own 0 1 0 x1_r0.length), (6, .b y3_6), (7, .i x1_7)], [.flat false 1 3 x1_r0.length (vec (eI .i64) 0 x1_r0)]⟩) (by kernel_rfl) (by kernel_rfl) rfl (by decide) (by rw [h0]; rfl) ?_
                exact Jj4 y3_6 x1_r0 H
            refine go hT 6 [0, 1, 5, 6, 7, 22] (k' := K86 [1, 1, 1, 0, 1, 0, 0, 1, 0, 0, 1, 0, 0, 3]) (st' := ⟨48, [(0, .d (.sl t0 a0.length (vec (eI .i64) 0 a0))), (1, .i a1), (5, .own 0 1 0 x1_r0.length), (6, .b y2_6), (7, .i x1_7), (22, .b (!y2_6))], [.flat false 1 3 x1_r0.length (vec (eI .i64) 0 x1_r0)]⟩) (by kernel_rfl) ?_
            by_cases c6 : y2_6 = true
            · replace H := iteT (K := fun o => stk o (iter (spliceref05_more.step a0 a1) n)) c6 H
              rw [c6]
              refine go hT 8 [0, 1, 5, 6, 7, 29] (k' := K86 [1, 1, 1, 0, 1, 0, 0, 1, 0, 0, 1, 0, 1]) (st' := ⟨48, [(0, .d (.sl t0 a0.length (vec (eI .i64) 0 a0))), (1, .i a1), (5, .own 0 1 0 x1_r0.length), (6, .b true), (7, .i x1_7), (29, .b false)], [.flat false 1 3 x1_r0.length (vec (eI .i64) 0 x1_r0)]⟩) (by kernel_rfl) ?_
              refine ak_cut [0, 1, 5, 6, 7, 29] [0] (st' := ⟨48, [(0, .d (.sl t0 a0.length (vec (eI .i64) 0 a0))), (1, .i a1), (5, .own 0 1 0 x1_r0.length), (6, .b true), (7, .i x1_7), (29, .b false)], [.flat false 1 3 x1_r0.length (vec (eI .i64) 0 x1_r0)]⟩) (by kernel_rfl) (by kernel_rfl) rfl (by decide) (by rw [h0]; rfl) ?_
              exact Jj3 true false H
            · replace H := iteF (K := fun o => stk o (iter (spliceref05_more.step a0 a1) n)) c6 H
              rw [boF c6]
              refine go hT 2 [0, 1, 5, 6, 7, 22, 23, 24] (k' := K86 [1, 1, 1, 0, 1, 0, 0, 1, 0, 0, 1, 0, 0, 5]) (st' := ⟨48, [(0, .d (.sl t0 a0.length (vec (eI .i64) 0 a0))), (1, .i a1), (5, .own 0 1 0 x1_r0.length), (6, .b false), (7, .i x1_7), (22, .b true), (23, .d (.sl t0 a0.length (vec (eI .i64) 0 a0))), (24, .i x1_7)], [.flat false 1 3 x1_r0.length (vec (eI .i64) 0 x1_r0)]⟩) (by kernel_rfl) ?_
              refine ak_idx hT [0, 1, 5, 6, 7, 22, 25] (i := x1_7) (n := (a0.length : Int)) h4.1 h4.2 (k' := K86 [1, 1, 1, 0, 1, 0, 0, 1, 0, 0, 1, 0, 0, 6]) (st' := ⟨48, [(0, .d (.sl t0 a0.length (vec (eI .i64) 0 a0))), (1, .i a1), (5, .own 0 1 0 x1_r0.length), (6, .b false), (7, .i x1_7), (22, .b true), (25, .d (.rop t0 a0.length (vec (eI .i64) 0 a0) x1_7.toNat 0))], [.flat false 1 3 x1_r0.length (vec (eI .i64) 0 x1_r0)]⟩) (by kernel_rfl) ?_
              refine go hT 5 [0, 1, 5, 6, 7, 29] (k' := K86 [1, 1, 1, 0, 1, 0, 0, 1, 0, 0, 1, 0, 1]) (st' := ⟨48, [(0, .d (.sl t0 a0.length (vec (eI .i64) 0 a0))), (1, .i a1), (5, .own 0 1 0 x1_r0.length), (6, .b false), (7, .i x1_7), (29, .b (decide ((a0.getD x1_7.toNat 0) > a1)))], [.flat false 1 3 x1_r0.length (vec (eI .i64) 0 x1_r0)]⟩) (by kernel_rfl) ?_
              refine ak_cut [0, 1, 5, 6, 7, 29] [0] (st' := ⟨48, [(0, .d (.sl t0 a0.length (vec (eI .i64) 0 a0))), (1, .i a1), (5, .own 0 1 0 x1_r0.length), (6, .b false), (7, .i x1_7), (29, .b (decide ((a0.getD x1_7.toNat 0) > a1)))], [.flat false 1 3 x1_r0.length (vec (eI .i64) 0 x1_r0)]⟩) (by kernel_rfl) (by kernel_rfl) rfl (by decide) (by rw [h0]; rfl) ?_
              exact Jj3 false (decide ((a0.getD x1_7.toNat 0) > a1)) H
          refine ak_idx hT [0, 1, 5, 6, 7, 16] (i := x1_7) (n := (a0.length : Int)) h4.1 h4.2 (k' := K86 [1, 1, 1, 0, 1, 0, 0, 1, 0, 0, 0, 0, 3]) (st' := ⟨48, [(0, .d (.sl t0 a0.length (vec (eI .i64) 0 a0))), (1, .i a1), (5, .own 0 1 0 x1_r0.length), (6, .b x1_6), (7, .i x1_7), (16, .d (.rop t0 a0.length (vec (eI .i64) 0 a0) x1_7.toNat 0))], [.flat false 1 3 x1_r0.length (vec (eI .i64) 0 x1_r0)]⟩) (by kernel_rfl) ?_
          refine go hT 4 [0, 1, 5, 6, 7, 19] (k' := K86 [1, 1, 1, 0, 1, 0, 0, 1, 0, 0, 0, 1]) (st' := ⟨48, [(0, .d (.sl t0 a0.length (vec (eI .i64) 0 a0))), (1, .i a1), (5, .own 0 1 0 x1_r0.length), (6, .b x1_6), (7, .i x1_7), (19, .b ((a0.getD x1_7.toNat 0) == a1))], [.flat false 1 3 x1_r0.length (vec (eI .i64) 0 x1_r0)]⟩) (by kernel_rfl) ?_
          by_cases c5 : (a0.getD x1_7.toNat 0) = a1
          · replace H := iteT (K := fun o => stk o (iter (spliceref05_more.step a0 a1) n)) c5 H
            rw [eqT c5]
            refine go hT 4 [0, 1, 5, 6, 7] (k' := K86 [1, 1, 1, 0, 1, 0, 0, 1, 0, 0, 1]) (st' := ⟨48, [(0, .d (.sl t0 a0.length (vec (eI .i64) 0 a0))), (1, .i a1), (5, .own 0 1 0 x1_r0.length), (6, .b true), (7, .i x1_7)], [.flat false 1 3 x1_r0.length (vec (eI .i64) 0 x1_r0)]⟩) (by kernel_rfl) ?_
            refine ak_cut [0, 1, 5, 6, 7] [0] (st' := ⟨48, [(0, .d (.sl t0 a0.length (vec (eI .i64) 0 a0))), (1, .i a1), (5, .own 0 1 0 x1_r0.length), (6, .b true), (7, .i x1_7)], [.flat false 1 3 x1_r0.length (vec (eI .i64) 0 x1_r0)]⟩) (by kernel_rfl) (by kernel_rfl) rfl (by decide) (by rw [h0]; rfl) ?_
            exact Jj2 true H
          · replace H := iteF (K := fun o => stk o (iter (spliceref05_more.step a0 a1) n)) c5 H
            rw [eqF c5]
            refine go hT 2 [0, 1, 5, 6, 7] (k' := K86 [1, 1, 1, 0, 1, 0, 0, 1, 0, 0, 1]) (st' := ⟨48, [(0, .d (.sl t0 a0.length (vec (eI .i64) 0 a0))), (1, .i a1), (5, .own 0 1 0 x1_r0.length), (6, .b x1_6), (7, .i x1_7)], [.flat false 1 3 x1_r0.length (vec (eI .i64) 0 x1_r0)]⟩) (by kernel_rfl) ?_
            refine ak_cut [0, 1, 5, 6, 7] [0] (st' := ⟨48, [(0, .d (.sl t0 a0.length (vec (eI .i64) 0 a0))), (1, .i a1), (5, .own 0 1 0 x1_r0.length), (6, .b x1_6), (7, .i x1_7)], [.flat false 1 3 x1_r0.length (vec (eI .i64) 0 x1_r0)]⟩) (by kernel_rfl) (by kernel_rfl) rfl (by decide) (by rw [h0]; rfl) ?_
            exact Jj2 x1_6 H
        · replace H := iteF (K := fun o => stk o (iter (spliceref05_more.step a0 a1) n)) c1 H
          have Jj1 : ∀ (y1_r0 : List Int), stk (spliceref05_more.j1 y1_r0) (iter (spliceref05_more.step a0 a1) n) = some r → AK X 86 (K86 [1, 1, 1, 1, 1]) (Back X [.flat false 1 3 r.length (vec (eI .i64) 0 r)] (.own 0 1 0 r.length)) ⟨48, [(5, .own 0 1 0 y1_r0.length)], [.flat false 1 3 y1_r0.length (vec (eI .i64) 0 y1_r0)]⟩ := by
            intro y1_r0 H
            refine go hT 5 [4] (k' := K86 [1, 1, 1, 1, 1, 1]) (st' := ⟨48, [(4, .own 0 1 0 y1_r0.length)], [.flat false 1 3 y1_r0.length (vec (eI .i64) 0 y1_r0)]⟩) (by kernel_rfl) ?_
            obtain rfl := retC H
            exact ak_ret hf hX (av := .own 0 1 0 y1_r0.length) (by kernel_rfl) [0] (sel_of_eq (by kernel_rfl)) (by decide) (by rw [h0]; rfl) (by kernel_rfl) (fun _ h => all_cons (nr_vec (nlI .i64)) (fun _ h => all_nil h) h) (.own _ _ _ _)
          rw [decide_eq_false c1]
          refine go hT 8 [1, 5, 42] (k' := K86 [1, 1, 1, 1, 0, 1]) (st' := ⟨48, [(1, .i a1), (5, .own 0 1 0 x1_r0.length), (42, .b (!x1_6))], [.flat false 1 3 x1_r0.length (vec (eI .i64) 0 x1_r0)]⟩) (by kernel_rfl) ?_
          by_cases c2 : x1_6 = true
          · replace H := iteT (K := fun o => stk o (iter (spliceref05_more.step a0 a1) n)) c2 H
            rw [c2]
            refine go hT 2 [5] (k' := K86 [1, 1, 1, 1, 1]) (st' := ⟨48, [(5, .own 0 1 0 x1_r0.length)], [.flat false 1 3 x1_r0.length (vec (eI .i64) 0 x1_r0)]⟩) (by kernel_rfl) ?_
            refine ak_cut [5] [0] (st' := ⟨48, [(5, .own 0 1 0 x1_r0.length)], [.flat false 1 3 x1_r0.length (vec (eI .i64) 0 x1_r0)]⟩) (by kernel_rfl) (by kernel_rfl) rfl (by decide) (by rw [h0]; rfl) ?_
            exact Jj1 x1_r0 H
          · replace H := iteF (K := fun o => stk o (iter (spliceref05_more.step a0 a1) n)) c2 H
            rw [boF c2]
            refine go hT 5 [43, 45] (k' := K86 [1, 1, 1, 1, 0, 1, 0, 3]) (st' := ⟨48, [(43, .own 0 1 0 x1_r0.length), (45, .own 1 1 0 1)], [.flat false 1 3 x1_r0.length (vec (eI .i64) 0 x1_r0), .flat false 1 3 1 (fun j => [[.v (.int .i64 a1)]].getD j [])]⟩) (by kernel_rfl) ?_
            obtain ⟨h3, H⟩ := iteC (K := fun o => stk o (iter (spliceref05_more.step a0 a1) n)) rfl H
            refine ak_append1 (id := 0) (kk := 1) (by' := 8) (t := 85) (e := 3) (z := [.int .i64 0]) (dst := some 46) (id2 := 1) (e2 := 3) (fz := false) (k' := K86 [1, 1, 1, 1, 0, 1, 0, 4]) hT (eI .i64) 0 x1_r0 a1 [46] (by kernel_rfl) (by kernel_rfl) (by kernel_rfl) (by kernel_rfl) (by kernel_rfl) (by kernel_rfl) (by kernel_rfl) h3 (by omega) (st' := ⟨48, [(46, .own 2 1 0 ((x1_r0 ++ [a1]).length))], [.gone, .flat false 1 3 1 (fun j => [[.v (.int .i64 a1)]].getD j []), .flat false 1 3 (x1_r0 ++ [a1]).length (vec (eI .i64) 0 (x1_r0 ++ [a1]))]⟩) (by kernel_rfl) ?_
            refine go hT 2 [5] (k' := K86 [1, 1, 1, 1, 1]) (st' := ⟨48, [(5, .own 2 1 0 ((x1_r0 ++ [a1]).length))], [.gone, .flat false 1 3 1 (fun j => [[.v (.int .i64 a1)]].getD j []), .flat false 1 3 (x1_r0 ++ [a1]).length (vec (eI .i64) 0 (x1_r0 ++ [a1]))]⟩) (by kernel_rfl) ?_
            refine ak_cut [5] [2] (st' := ⟨48, [(5, .own 0 1 0 (x1_r0 ++ [a1]).length)], [.flat false 1 3 (x1_r0 ++ [a1]).length (vec (eI .i64) 0 (x1_r0 ++ [a1]))]⟩) (by kernel_rfl) (by kernel_rfl) rfl (by decide) (by rw [h0]; rfl) ?_
            exact Jj1 (x1_r0 ++ [a1]) H
  refine ak_cut [0, 1, 5, 6, 7] [0] (st' := ⟨48, [(0, .d (.sl t0 a0.length (vec (eI .i64) 0 a0))), (1, .i a1), (5, .own 0 1 0 ([] : List Int).length), (6, .b false), (7, .i 0)], [.flat false 1 3 ([] : List Int).length (vec (eI .i64) 0 ([] : List Int))]⟩) (by kernel_rfl) (by kernel_rfl) rfl (by decide) (by rw [h0]; rfl) ?_
  obtain ⟨n, H⟩ := loopC H
  exact (L n) false 0 ([] : List Int) H


theorem spliceref05_keys.says {t0 : Bool} (a0 : List spliceref04_Pair) (a1 : spliceref04_Mut) {r : List Int} (H : spliceref05_keys a0 a1 = some r) : Says Try.prog 49 [] [.d (.sl t0 a0.length (vec spliceref04_Pair.e spliceref04_Pair.z a0)), .d (.agg (spliceref04_Mut.e a1))] [.flat false 1 3 r.length (vec (eI .i64) 0 r)] (.own 0 1 0 r.length) := by
  refine says_of Try.func49 rfl (nt := 37) rfl (Nat.le_of_ble_eq_true rfl) fun X hP h0 hX => ?_
  have hT : TabOk X.P T := hP ▸ tok
  have hf : X.P.funcs[49]? = some Try.f49 := hP ▸ Try.func49
  refine go hT 16 [0, 3, 5, 6] (k' := K49 [1, 1, 0, 1, 0, 0]) (st' := ⟨37, [(0, .d (.sl t0 a0.length (vec spliceref04_Pair.e spliceref04_Pair.z a0))), (3, .ptr 0 0 0 0), (5, .d (.v (.slice none 0 0))), (6, .i 0)], [.box 38 [.i a1.Client, .i a1.Seq, .i a1.Kind, .d (.sl true a1.Pairs.length (vec spliceref04_Pair.e spliceref04_Pair.z a1.Pairs)), .i a1.Over.Lo, .i a1.Over.Hi, .i a1.Old]]⟩) (by kernel_rfl) ?_
  refine ak_nilS [0, 3, 5, 6] 5 1 3 (vec (eI .i64) 0 []) (st' := ⟨37, [(0, .d (.sl t0 a0.length (vec spliceref04_Pair.e spliceref04_Pair.z a0))), (3, .ptr 0 0 0 0), (5, .own 1 1 0 0), (6, .i 0)], [.box 38 [.i a1.Client, .i a1.Seq, .i a1.Kind, .d (.sl true a1.Pairs.length (vec spliceref04_Pair.e spliceref04_Pair.z a1.Pairs)), .i a1.Over.Lo, .i a1.Over.Hi, .i a1.Old], .flat false 1 3 ([] : List Int).length (vec (eI .i64) 0 ([] : List Int))]⟩) (by kernel_rfl) (by kernel_rfl) ?_
  have L : ∀ n, (∀ (x1_6 : Int) (x1_r1 : List Int), iter (spliceref05_keys.step a0 a1) n (.l1 x1_6 x1_r1) = some r → AK X 49 (K49 [1, 1, 0, 1, 0, 0]) (Back X [.flat false 1 3 r.length (vec (eI .i64) 0 r)] (.own 0 1 0 r.length)) ⟨37, [(0, .d (.sl t0 a0.length (vec spliceref04_Pair.e spliceref04_Pair.z a0))), (3, .ptr 0 0 0 0), (5, .own 1 1 0 x1_r1.length), (6, .i x1_6)], [.box 38 [.i a1.Client, .i a1.Seq, .i a1.Kind, .d (.sl true a1.Pairs.length (vec spliceref04_Pair.e spliceref04_Pair.z a1.Pairs)), .i a1.Over.Lo, .i a1.Over.Hi, .i a1.Old], .flat false 1 3 x1_r1.length (vec (eI .i64) 0 x1_r1)]⟩) ∧ (∀ (x2_7 : Int) (x2_r1 : List Int), iter (spliceref05_keys.step a0 a1) n (.l2 x2_7 x2_r1) = some r → AK X 49 (K49 [1, 1, 1, 0, 1, 0, 0]) (Back X [.flat false 1 3 r.length (vec (eI .i64) 0 r)] (.own 0 1 0 r.length)) ⟨37, [(3, .ptr 0 0 0 0), (5, .own 1 1 0 x2_r1.length), (7, .i x2_7)], [.box 38 [.i a1.Client, .i a1.Seq, .i a1.Kind, .d (.sl true a1.Pairs.length (vec spliceref04_Pair.e spliceref04_Pair.z a1.Pairs)), .i a1.Over.Lo, .i a1.Over.Hi, .i a1.Old], .flat false 1 3 x2_r1.length (vec (eI .i64) 0 x2_r1)]⟩) := by
    intro n
    induction n with
    | zero => exact ⟨fun _ _ H => iter0 H, fun _ _ H => iter0 H⟩
    | succ n ih =>
      refine ⟨?_, ?_⟩
      · intro x1_6 x1_r1 H
        refine go hT 8 [0, 3, 5, 6, 11] (k' := K49 [1, 1, 0, 1, 0, 0, 0, 1]) (st' := ⟨37, [(0, .d (.sl t0 a0.length (vec spliceref04_Pair.e spliceref04_Pair.z a0))), (3, .ptr 0 0 0 0), (5, .own 1 1 0 x1_r1.length), (6, .i x1_6), (11, .b (decide (x1_6 < (a0.length : Int))))], [.box 38 [.i a1.Client, .i a1.Seq, .i a1.Kind, .d (.sl true a1.Pairs.length (vec spliceref04_Pair.e spliceref04_Pair.z a1.Pairs)), .i a1.Over.Lo, .i a1.Over.Hi, .i a1.Old], .flat false 1 3 x1_r1.length (vec (eI .i64) 0 x1_r1)]⟩) (by kernel_rfl) ?_
        by_cases c1 : x1_6 < (a0.length : Int)
        · replace H := iteT (K := fun o => stk o (iter (spliceref05_keys.step a0 a1) n)) c1 H
          rw [decide_eq_true c1]
          refine go hT 2 [0, 3, 5, 6] (k' := K49 [1, 1, 0, 1, 0, 0, 1]) (st' := ⟨37, [(0, .d (.sl t0 a0.length (vec spliceref04_Pair.e spliceref04_Pair.z a0))), (3, .ptr 0 0 0 0), (5, .own 1 1 0 x1_r1.length), (6, .i x1_6)], [.box 38 [.i a1.Client, .i a1.Seq, .i a1.Kind, .d (.sl true a1.Pairs.length (vec spliceref04_Pair.e spliceref04_Pair.z a1.Pairs)), .i a1.Over.Lo, .i a1.Over.Hi, .i a1.Old], .flat false 1 3 x1_r1.length (vec (eI .i64) 0 x1_r1)]⟩) (by kernel_rfl) ?_
          refine go hT 6 [0, 3, 6, 14, 15, 16] (k' := K49 [1, 1, 0, 1, 0, 0, 1, 0, 0, 3]) (st' := ⟨37, [(0, .d (.sl t0 a0.length (vec spliceref04_Pair.e spliceref04_Pair.z a0))), (3, .ptr 0 0 0 0), (6, .i x1_6), (14, .own 1 1 0 x1_r1.length), (15, .d (.sl t0 a0.length (vec spliceref04_Pair.e spliceref04_Pair.z a0))), (16, .i x1_6)], [.box 38 [.i a1.Client, .i a1.Seq, .i a1.Kind, .d (.sl true a1.Pairs.length (vec spliceref04_Pair.e spliceref04_Pair.z a1.Pairs)), .i a1.Over.Lo, .i a1.Over.Hi, .i a1.Old], .flat false 1 3 x1_r1.length (vec (eI .i64) 0 x1_r1)]⟩) (by kernel_rfl) ?_
          obtain ⟨h2, H⟩ := iteC (K := fun o => stk o (iter (spliceref05_keys.step a0 a1) n)) rfl H
          refine ak_idx hT [0, 3, 6, 14, 17] (i := x1_6) (n := (a0.length : Int)) h2.1 h2.2 (k' := K49 [1, 1, 0, 1, 0, 0, 1, 0, 0, 4]) (st' := ⟨37, [(0, .d (.sl t0 a0.length (vec spliceref04_Pair.e spliceref04_Pair.z a0))), (3, .ptr 0 0 0 0), (6, .i x1_6), (14, .own 1 1 0 x1_r1.length), (17, .d (.rop t0 a0.length (vec spliceref04_Pair.e spliceref04_Pair.z a0) x1_6.toNat 0))], [.box 38 [.i a1.Client, .i a1.Seq, .i a1.Kind, .d (.sl true a1.Pairs.length (vec spliceref04_Pair.e spliceref04_Pair.z a1.Pairs)), .i a1.Over.Lo, .i a1.Over.Hi, .i a1.Old], .flat false 1 3 x1_r1.length (vec (eI .i64) 0 x1_r1)]⟩) (by kernel_rfl) ?_
          refine go hT 2 [0, 3, 6, 14, 19] (k' := K49 [1, 1, 0, 1, 0, 0, 1, 0, 0, 6]) (st' := ⟨37, [(0, .d (.sl t0 a0.length (vec spliceref04_Pair.e spliceref04_Pair.z a0))), (3, .ptr 0 0 0 0), (6, .i x1_6), (14, .own 1 1 0 x1_r1.length), (19, .i ((a0.getD x1_6.toNat spliceref04_Pair.z).Key))], [.box 38 [.i a1.Client, .i a1.Seq, .i a1.Kind, .d (.sl true a1.Pairs.length (vec spliceref04_Pair.e spliceref04_Pair.z a1.Pairs)), .i a1.Over.Lo, .i a1.Over.Hi, .i a1.Old], .flat false 1 3 x1_r1.length (vec (eI .i64) 0 x1_r1)]⟩) (by kernel_rfl) ?_
          obtain ⟨v1, h3, H⟩ := bindC (K := fun o => stk o (iter (spliceref05_keys.step a0 a1) n)) rfl H
          refine ak_callP (avs := [.own 1 1 0 x1_r1.length, .i ((a0.getD x1_6.toNat spliceref04_Pair.z).Key)]) (dst := some 20) (k' := K49 [1, 1, 0, 1, 0, 0, 1, 0, 0, 7]) [0, 3, 6, 20] [] hP enters_86 (spliceref05_more.says (t0 := false) x1_r1 ((a0.getD x1_6.toNat spliceref04_Pair.z).Key) h3) (by kernel_rfl) (hands_none _) (.cons (.lend (ty := 3) (by kernel_rfl) rfl) (.cons (pass_d _) .nil)) (st' := ⟨37, [(0, .d (.sl t0 a0.length (vec spliceref04_Pair.e spliceref04_Pair.z a0))), (3, .ptr 0 0 0 0), (6, .i x1_6), (20, .own 2 1 0 v1.length)], [.box 38 [.i a1.Client, .i a1.Seq, .i a1.Kind, .d (.sl true a1.Pairs.length (vec spliceref04_Pair.e spliceref04_Pair.z a1.Pairs)), .i a1.Over.Lo, .i a1.Over.Hi, .i a1.Old], .flat false 1 3 x1_r1.length (vec (eI .i64) 0 x1_r1), .flat false 1 3 v1.length (vec (eI .i64) 0 v1)]⟩) (by kernel_rfl) ?_
          refine go hT 9 [0, 3, 5, 6] (k' := K49 [1, 1, 0, 1, 0, 0]) (st' := ⟨37, [(0, .d (.sl t0 a0.length (vec spliceref04_Pair.e spliceref04_Pair.z a0))), (3, .ptr 0 0 0 0), (5, .own 2 1 0 v1.length), (6, .i (IntKind.wrap .i64 (x1_6 + 1)))], [.box 38 [.i a1.Client, .i a1.Seq, .i a1.Kind, .d (.sl true a1.Pairs.length (vec spliceref04_Pair.e spliceref04_Pair.z a1.Pairs)), .i a1.Over.Lo, .i a1.Over.Hi, .i a1.Old], .flat false 1 3 x1_r1.length (vec (eI .i64) 0 x1_r1), .flat false 1 3 v1.length (vec (eI .i64) 0 v1)]⟩) (by kernel_rfl) ?_
          refine ak_cut [0, 3, 5, 6] [0, 2] (st' := ⟨37, [(0, .d (.sl t0 a0.length (vec spliceref04_Pair.e spliceref04_Pair.z a0))), (3, .ptr 0 0 0 0), (5, .own 1 1 0 v1.length), (6, .i (IntKind.wrap .i64 (x1_6 + 1)))], [.box 38 [.i a1.Client, .i a1.Seq, .i a1.Kind, .d (.sl true a1.Pairs.length (vec spliceref04_Pair.e spliceref04_Pair.z a1.Pairs)), .i a1.Over.Lo, .i a1.Over.Hi, .i a1.Old], .flat false 1 3 v1.length (vec (eI .i64) 0 v1)]⟩) (by kernel_rfl) (by kernel_rfl) rfl (by decide) (by rw [h0]; rfl) ?_
          exact ih.1 (IntKind.wrap .i64 (x1_6 + 1)) v1 H
        · replace H := iteF (K := fun o => stk o (iter (spliceref05_keys.step a0 a1) n)) c1 H
          rw [decide_eq_false c1]
          refine go hT 9 [3, 5, 7] (k' := K49 [1, 1, 1, 0, 1, 0, 0]) (st' := ⟨37, [(3, .ptr 0 0 0 0), (5, .own 1 1 0 x1_r1.length), (7, .i 0)], [.box 38 [.i a1.Client, .i a1.Seq, .i a1.Kind, .d (.sl true a1.Pairs.length (vec spliceref04_Pair.e spliceref04_Pair.z a1.Pairs)), .i a1.Over.Lo, .i a1.Over.Hi, .i a1.Old], .flat false 1 3 x1_r1.length (vec (eI .i64) 0 x1_r1)]⟩) (by kernel_rfl) ?_
          refine ak_cut [3, 5, 7] [0, 1] (st' := ⟨37, [(3, .ptr 0 0 0 0), (5, .own 1 1 0 x1_r1.length), (7, .i 0)], [.box 38 [.i a1.Client, .i a1.Seq, .i a1.Kind, .d (.sl true a1.Pairs.length (vec spliceref04_Pair.e spliceref04_Pair.z a1.Pairs)), .i a1.Over.Lo, .i a1.Over.Hi, .i a1.Old], .flat false 1 3 x1_r1.length (vec (eI .i64) 0 x1_r1)]⟩) (by kernel_rfl) (by kernel_rfl) rfl (by decide) (by rw [h0]; rfl) ?_
          exact ih.2 0 x1_r1 H
      · intro x2_7 x2_r1 H
        refine go hT 9 [3, 5, 7, 25] (k' := K49 [1, 1, 1, 0, 1, 0, 0, 0, 1]) (st' := ⟨37, [(3, .ptr 0 0 0 0), (5, .own 1 1 0 x2_r1.length), (7, .i x2_7), (25, .b (decide (x2_7 < (a1.Pairs.length : Int))))], [.box 38 [.i a1.Client, .i a1.Seq, .i a1.Kind, .d (.sl true a1.Pairs.length (vec spliceref04_Pair.e spliceref04_Pair.z a1.Pairs)), .i a1.Over.Lo, .i a1.Over.Hi, .i a1.Old], .flat false 1 3 x2_r1.length (vec (eI .i64) 0 x2_r1)]⟩) (by kernel_rfl) ?_
        by_cases c4 : x2_7 < (a1.Pairs.length : Int)
        · replace H := iteT (K := fun o => stk o (iter (spliceref05_keys.step a0 a1) n)) c4 H
          rw [decide_eq_true c4]
          refine go hT 2 [3, 5, 7] (k' := K49 [1, 1, 1, 0, 1, 0, 0, 1]) (st' := ⟨37, [(3, .ptr 0 0 0 0), (5, .own 1 1 0 x2_r1.length), (7, .i x2_7)], [.box 38 [.i a1.Client, .i a1.Seq, .i a1.Kind, .d (.sl true a1.Pairs.length (vec spliceref04_Pair.e spliceref04_Pair.z a1.Pairs)), .i a1.Over.Lo, .i a1.Over.Hi, .i a1.Old], .flat false 1 3 x2_r1.length (vec (eI .i64) 0 x2_r1)]⟩) (by kernel_rfl) ?_
          refine go hT 7 [3, 7, 28, 30, 31] (k' := K49 [1, 1, 1, 0, 1, 0, 0, 1, 0, 0, 4]) (st' := ⟨37, [(3, .ptr 0 0 0 0), (7, .i x2_7), (28, .own 1 1 0 x2_r1.length), (30, .d (.sl true a1.Pairs.length (vec spliceref04_Pair.e spliceref04_Pair.z a1.Pairs))), (31, .i x2_7)], [.box 38 [.i a1.Client, .i a1.Seq, .i a1.Kind, .d (.sl true a1.Pairs.length (vec spliceref04_Pair.e spliceref04_Pair.z a1.Pairs)), .i a1.Over.Lo, .i a1.Over.Hi, .i a1.Old], .flat false 1 3 x2_r1.length (vec (eI .i64) 0 x2_r1)]⟩) (by kernel_rfl) ?_
          obtain ⟨h5, H⟩ := iteC (K := fun o => stk o (iter (spliceref05_keys.step a0 a1) n)) rfl H
          refine ak_idx hT [3, 7, 28, 32] (i := x2_7) (n := (a1.Pairs.length : Int)) h5.1 h5.2 (k' := K49 [1, 1, 1, 0, 1, 0, 0, 1, 0, 0, 5]) (st' := ⟨37, [(3, .ptr 0 0 0 0), (7, .i x2_7), (28, .own 1 1 0 x2_r1.length), (32, .d (.rop true a1.Pairs.length (vec spliceref04_Pair.e spliceref04_Pair.z a1.Pairs) x2_7.toNat 0))], [.box 38 [.i a1.Client, .i a1.Seq, .i a1.Kind, .d (.sl true a1.Pairs.length (vec spliceref04_Pair.e spliceref04_Pair.z a1.Pairs)), .i a1.Over.Lo, .i a1.Over.Hi, .i a1.Old], .flat false 1 3 x2_r1.length (vec (eI .i64) 0 x2_r1)]⟩) (by kernel_rfl) ?_
          refine go hT 2 [3, 7, 28, 34] (k' := K49 [1, 1, 1, 0, 1, 0, 0, 1, 0, 0, 7]) (st' := ⟨37, [(3, .ptr 0 0 0 0), (7, .i x2_7), (28, .own 1 1 0 x2_r1.length), (34, .i ((a1.Pairs.getD x2_7.toNat spliceref04_Pair.z).Key))], [.box 38 [.i a1.Client, .i a1.Seq, .i a1.Kind, .d (.sl true a1.Pairs.length (vec spliceref04_Pair.e spliceref04_Pair.z a1.Pairs)), .i a1.Over.Lo, .i a1.Over.Hi, .i a1.Old], .flat false 1 3 x2_r1.length (vec (eI .i64) 0 x2_r1)]⟩) (by kernel_rfl) ?_
          obtain ⟨v2, h6, H⟩ := bindC (K := fun o => stk o (iter (spliceref05_keys.step a0 a1) n)) rfl H
          refine ak_callP (avs := [.own 1 1 0 x2_r1.length, .i ((a1.Pairs.getD x2_7.toNat spliceref04_Pair.z).Key)]) (dst := some 35) (k' := K49 [1, 1, 1, 0, 1, 0, 0, 1, 0, 0, 8]) [3, 7, 35] [] hP enters_86 (spliceref05_more.says (t0 := false) x2_r1 ((a1.Pairs.getD x2_7.toNat spliceref04_Pair.z).Key) h6) (by kernel_rfl) (hands_none _) (.cons (.lend (ty := 3) (by kernel_rfl) rfl) (.cons (pass_d _) .nil)) (st' := ⟨37, [(3, .ptr 0 0 0 0), (7, .i x2_7), (35, .own 2 1 0 v2.length)], [.box 38 [.i a1.Client, .i a1.Seq, .i a1.Kind, .d (.sl true a1.Pairs.length (vec spliceref04_Pair.e spliceref04_Pair.z a1.Pairs)), .i a1.Over.Lo, .i a1.Over.Hi, .i a1.Old], .flat false 1 3 x2_r1.length (vec (eI .i64) 0 x2_r1), .flat false 1 3 v2.length (vec (eI .i64) 0 v2)]⟩) (by kernel_rfl) ?_
          refine go hT 9 [3, 5, 7] (k' := K49 [1, 1, 1, 0, 1, 0, 0]) (st' := ⟨37, [(3, .ptr 0 0 0 0), (5, .own 2 1 0 v2.length), (7, .i (IntKind.wrap .i64 (x2_7 + 1)))], [.box 38 [.i a1.Client, .i a1.Seq, .i a1.Kind, .d (.sl true a1.Pairs.length (vec spliceref04_Pair.e spliceref04_Pair.z a1.Pairs)), .i a1.Over.Lo, .i a1.Over.Hi, .i a1.Old], .flat false 1 3 x2_r1.length (vec (eI .i64) 0 x2_r1), .flat false 1 3 v2.length (vec (eI .i64) 0 v2)]⟩) (by kernel_rfl) ?_
          refine ak_cut [3, 5, 7] [0, 2] (st' := ⟨37, [(3, .ptr 0 0 0 0), (5, .own 1 1 0 v2.length), (7, .i (IntKind.wrap .i64 (x2_7 + 1)))], [.box 38 [.i a1.Client, .i a1.Seq, .i a1.Kind, .d (.sl true a1.Pairs.length (vec spliceref04_Pair.e spliceref04_Pair.z a1.Pairs)), .i a1.Over.Lo, .i a1.Over.Hi, .i a1.Old], .flat false 1 3 v2.length (vec (eI .i64) 0 v2)]⟩) (by kernel_rfl) (by kernel_rfl) rfl (by decide) (by rw [h0]; rfl) ?_
          exact ih.2 (IntKind.wrap .i64 (x2_7 + 1)) v2 H
        · replace H := iteF (K := fun o => stk o (iter (spliceref05_keys.step a0 a1) n)) c4 H
          rw [decide_eq_false c4]
          refine go hT 7 [4] (k' := K49 [1, 1, 1, 1, 1]) (st' := ⟨37, [(4, .own 1 1 0 x2_r1.length)], [.box 38 [.i a1.Client, .i a1.Seq, .i a1.Kind, .d (.sl true a1.Pairs.length (vec spliceref04_Pair.e spliceref04_Pair.z a1.Pairs)), .i a1.Over.Lo, .i a1.Over.Hi, .i a1.Old], .flat false 1 3 x2_r1.length (vec (eI .i64) 0 x2_r1)]⟩) (by kernel_rfl) ?_
          obtain rfl := retC H
          exact ak_ret hf hX (av := .own 1 1 0 x2_r1.length) (by kernel_rfl) [1] (sel_of_eq (by kernel_rfl)) (by decide) (by rw [h0]; rfl) (by kernel_rfl) (fun _ h => all_cons (nr_vec (nlI .i64)) (fun _ h => all_nil h) h) (.own _ _ _ _)
  refine ak_cut [0, 3, 5, 6] [0, 1] (st' := ⟨37, [(0, .d (.sl t0 a0.length (vec spliceref04_Pair.e spliceref04_Pair.z a0))), (3, .ptr 0 0 0 0), (5, .own 1 1 0 ([] : List Int).length), (6, .i 0)], [.box 38 [.i a1.Client, .i a1.Seq, .i a1.Kind, .d (.sl true a1.Pairs.length (vec spliceref04_Pair.e spliceref04_Pair.z a1.Pairs)), .i a1.Over.Lo, .i a1.Over.Hi, .i a1.Old], .flat false 1 3 ([] : List Int).length (vec (eI .i64) 0 ([] : List Int))]⟩) (by kernel_rfl) (by kernel_rfl) rfl (by decide) (by rw [h0]; rfl) ?_
  obtain ⟨n, H⟩ := loopC H
  exact (L n).1 0 ([] : List Int) H


theorem spliceref03_Has.says {t0 : Bool} (a0 : List spliceref03_Span) (a1 : Int) {r : Bool} (H : spliceref03_Has a0 a1 = some r) : Says Try.prog 50 [] [.d (.sl t0 a0.length (vec spliceref03_Span.e spliceref03_Span.z a0)), .i a1] [] (.b r) := by
  refine says_of Try.func50 rfl (nt := 35) rfl (Nat.le_of_ble_eq_true rfl) fun X hP h0 hX => ?_
  have hT : TabOk X.P T := hP ▸ tok
  have hf : X.P.funcs[50]? = some Try.f50 := hP ▸ Try.func50
  refine go hT 11 [0, 1, 5] (k' := K50 [1, 0, 1, 0, 0]) (st' := ⟨35, [(0, .d (.sl t0 a0.length (vec spliceref03_Span.e spliceref03_Span.z a0))), (1, .i a1), (5, .i 0)], []⟩) (by kernel_rfl) ?_
  have L : ∀ n, (∀ (x1_5 : Int), iter (spliceref03_Has.step a0 a1) n (.l1 x1_5) = some r → AK X 50 (K50 [1, 0, 1, 0, 0]) (Back X [] (.b r)) ⟨35, [(0, .d (.sl t0 a0.length (vec spliceref03_Span.e spliceref03_Span.z a0))), (1, .i a1), (5, .i x1_5)], []⟩) := by
    intro n
    induction n with
    | zero => exact fun _ H => iter0 H
    | succ n ih =>
      · intro x1_5 H
        refine go hT 8 [0, 1, 5, 9] (k' := K50 [1, 0, 1, 0, 0, 0, 1]) (st' := ⟨35, [(0, .d (.sl t0 a0.length (vec spliceref03_Span.e spliceref03_Span.z a0))), (1, .i a1), (5, .i x1_5), (9, .b (decide (x1_5 < (a0.length : Int))))], []⟩) (by kernel_rfl) ?_
        by_cases c1 : x1_5 < (a0.length : Int)
        · replace H := iteT (K := fun o => stk o (iter (spliceref03_Has.step a0 a1) n)) c1 H
          rw [decide_eq_true c1]
          refine go hT 2 [0, 1, 5] (k' := K50 [1, 0, 1, 0, 0, 1]) (st' := ⟨35, [(0, .d (.sl t0 a0.length (vec spliceref03_Span.e spliceref03_Span.z a0))), (1, .i a1), (5, .i x1_5)], []⟩) (by kernel_rfl) ?_
          refine go hT 6 [0, 1, 5, 12, 13] (k' := K50 [1, 0, 1, 0, 0, 1, 0, 0, 0, 2]) (st' := ⟨35, [(0, .d (.sl t0 a0.length (vec spliceref03_Span.e spliceref03_Span.z a0))), (1, .i a1), (5, .i x1_5), (12, .d (.sl t0 a0.length (vec spliceref03_Span.e spliceref03_Span.z a0))), (13, .i x1_5)], []⟩) (by kernel_rfl) ?_
          obtain ⟨h2, H⟩ := iteC (K := fun o => stk o (iter (spliceref03_Has.step a0 a1) n)) rfl H
          have Jj1 : ∀ (y1_34 : Bool), stk (spliceref03_Has.j1 x1_5 y1_34) (iter (spliceref03_Has.step a0 a1) n) = some r → AK X 50 (K50 [1, 0, 1, 0, 0, 1, 0, 0, 1]) (Back X [] (.b r)) ⟨35, [(0, .d (.sl t0 a0.length (vec spliceref03_Span.e spliceref03_Span.z a0))), (1, .i a1), (5, .i x1_5), (34, .b y1_34)], []⟩ := by
            intro y1_34 H
            by_cases c5 : y1_34 = true
            · replace H := iteT (K := fun o => stk o (iter (spliceref03_Has.step a0 a1) n)) c5 H
              rw [c5]
              refine go hT 5 [4] (k' := K50 [1, 0, 1, 0, 0, 1, 0, 0, 1, 0, 1]) (st' := ⟨35, [(4, .b true)], []⟩) (by kernel_rfl) ?_
              obtain rfl := retC H
              exact ak_ret hf hX (av := .b true) (by kernel_rfl) [] (sel_of_eq (by kernel_rfl)) (by decide) (by rw [h0]; rfl) (by kernel_rfl) (fun _ h => all_nil h) (.d (.v _))
            · replace H := iteF (K := fun o => stk o (iter (spliceref03_Has.step a0 a1) n)) c5 H
              rw [boF c5]
              refine go hT 3 [0, 1, 5] (k' := K50 [1, 0, 1, 0, 0, 1, 1]) (st' := ⟨35, [(0, .d (.sl t0 a0.length (vec spliceref03_Span.e spliceref03_Span.z a0))), (1, .i a1), (5, .i x1_5)], []⟩) (by kernel_rfl) ?_
              refine go hT 6 [0, 1, 5] (k' := K50 [1, 0, 1, 0, 0]) (st' := ⟨35, [(0, .d (.sl t0 a0.length (vec spliceref03_Span.e spliceref03_Span.z a0))), (1, .i a1), (5, .i (IntKind.wrap .i64 (x1_5 + 1)))], []⟩) (by kernel_rfl) ?_
              refine ak_cut [0, 1, 5] [] (st' := ⟨35, [(0, .d (.sl t0 a0.length (vec spliceref03_Span.e spliceref03_Span.z a0))), (1, .i a1), (5, .i (IntKind.wrap .i64 (x1_5 + 1)))], []⟩) (by kernel_rfl) (by kernel_rfl) rfl (by decide) (by rw [h0]; rfl) ?_
              exact ih (IntKind.wrap .i64 (x1_5 + 1)) H
          refine ak_idx hT [0, 1, 5, 14] (i := x1_5) (n := (a0.length : Int)) h2.1 h2.2 (k' := K50 [1, 0, 1, 0, 0, 1, 0, 0, 0, 3]) (st' := ⟨35, [(0, .d (.sl t0 a0.length (vec spliceref03_Span.e spliceref03_Span.z a0))), (1, .i a1), (5, .i x1_5), (14, .d (.rop t0 a0.length (vec spliceref03_Span.e spliceref03_Span.z a0) x1_5.toNat 0))], []⟩) (by kernel_rfl) ?_
          refine go hT 1 [0, 1, 5, 15] (k' := K50 [1, 0, 1, 0, 0, 1, 0, 0, 0, 4]) (st' := ⟨35, [(0, .d (.sl t0 a0.length (vec spliceref03_Span.e spliceref03_Span.z a0))), (1, .i a1), (5, .i x1_5), (15, .d (.agg (spliceref03_Span.e (a0.getD x1_5.toNat spliceref03_Span.z))))], []⟩) (by kernel_rfl) ?_
          refine ak_callP (avs := [.d (.agg (spliceref03_Span.e (a0.getD x1_5.toNat spliceref03_Span.z)))]) (dst := some 16) (k' := K50 [1, 0, 1, 0, 0, 1, 0, 0, 0, 5]) [0, 1, 5, 16] [] hP enters_53 (spliceref03_One.says (a0.getD x1_5.toNat spliceref03_Span.z)) (by kernel_rfl) (hands_none _) (.cons (pass_d _) .nil) (st' := ⟨35, [(0, .d (.sl t0 a0.length (vec spliceref03_Span.e spliceref03_Span.z a0))), (1, .i a1), (5, .i x1_5), (16, .b (spliceref03_One (a0.getD x1_5.toNat spliceref03_Span.z)))], []⟩) (by kernel_rfl) ?_
          refine go hT 1 [0, 1, 5, 17] (k' := K50 [1, 0, 1, 0, 0, 1, 0, 0, 0, 6]) (st' := ⟨35, [(0, .d (.sl t0 a0.length (vec spliceref03_Span.e spliceref03_Span.z a0))), (1, .i a1), (5, .i x1_5), (17, .b (spliceref03_One (a0.getD x1_5.toNat spliceref03_Span.z)))], []⟩) (by kernel_rfl) ?_
          by_cases c3 : (spliceref03_One (a0.getD x1_5.toNat spliceref03_Span.z)) = true
          · replace H := iteT (K := fun o => stk o (iter (spliceref03_Has.step a0 a1) n)) c3 H
            rw [c3]
            refine go hT 3 [0, 1, 5, 17, 18, 19, 20] (k' := K50 [1, 0, 1, 0, 0, 1, 0, 0, 0, 9]) (st' := ⟨35, [(0, .d (.sl t0 a0.length (vec spliceref03_Span.e spliceref03_Span.z a0))), (1, .i a1), (5, .i x1_5), (17, .b true), (18, .i a1), (19, .d (.sl t0 a0.length (vec spliceref03_Span.e spliceref03_Span.z a0))), (20, .i x1_5)], []⟩) (by kernel_rfl) ?_
            refine ak_idx hT [0, 1, 5, 17, 18, 21] (i := x1_5) (n := (a0.length : Int)) h2.1 h2.2 (k' := K50 [1, 0, 1, 0, 0, 1, 0, 0, 0, 10]) (st' := ⟨35, [(0, .d (.sl t0 a0.length (vec spliceref03_Span.e spliceref03_Span.z a0))), (1, .i a1), (5, .i x1_5), (17, .b true), (18, .i a1), (21, .d (.rop t0 a0.length (vec spliceref03_Span.e spliceref03_Span.z a0) x1_5.toNat 0))], []⟩) (by kernel_rfl) ?_
            refine go hT 5 [0, 1, 5, 26] (k' := K50 [1, 0, 1, 0, 0, 1, 0, 0, 0, 15]) (st' := ⟨35, [(0, .d (.sl t0 a0.length (vec spliceref03_Span.e spliceref03_Span.z a0))), (1, .i a1), (5, .i x1_5), (26, .b (decide (a1 ≥ ((a0.getD x1_5.toNat spliceref03_Span.z).Lo))))], []⟩) (by kernel_rfl) ?_
            by_cases c4 : a1 ≥ ((a0.getD x1_5.toNat spliceref03_Span.z).Lo)
            · replace H := iteT (K := fun o => stk o (iter (spliceref03_Has.step a0 a1) n)) c4 H
              rw [decide_eq_true c4]
              refine go hT 3 [0, 1, 5, 26, 27, 28, 29] (k' := K50 [1, 0, 1, 0, 0, 1, 0, 0, 0, 18]) (st' := ⟨35, [(0, .d (.sl t0 a0.length (vec spliceref03_Span.e spliceref03_Span.z a0))), (1, .i a1), (5, .i x1_5), (26, .b true), (27, .i a1), (28, .d (.sl t0 a0.length (vec spliceref03_Span.e spliceref03_Span.z a0))), (29, .i x1_5)], []⟩) (by kernel_rfl) ?_
              refine ak_idx hT [0, 1, 5, 26, 27, 30] (i := x1_5) (n := (a0.length : Int)) h2.1 h2.2 (k' := K50 [1, 0, 1, 0, 0, 1, 0, 0, 0, 19]) (st' := ⟨35, [(0, .d (.sl t0 a0.length (vec spliceref03_Span.e spliceref03_Span.z a0))), (1, .i a1), (5, .i x1_5), (26, .b true), (27, .i a1), (30, .d (.rop t0 a0.length (vec spliceref03_Span.e spliceref03_Span.z a0) x1_5.toNat 0))], []⟩) (by kernel_rfl) ?_
              refine go hT 5 [0, 1, 5, 34] (k' := K50 [1, 0, 1, 0, 0, 1, 0, 0, 1]) (st' := ⟨35, [(0, .d (.sl t0 a0.length (vec spliceref03_Span.e spliceref03_Span.z a0))), (1, .i a1), (5, .i x1_5), (34, .b (decide (a1 < ((a0.getD x1_5.toNat spliceref03_Span.z).Hi))))], []⟩) (by kernel_rfl) ?_
              refine ak_cut [0, 1, 5, 34] [] (st' := ⟨35, [(0, .d (.sl t0 a0.length (vec spliceref03_Span.e spliceref03_Span.z a0))), (1, .i a1), (5, .i x1_5), (34, .b (decide (a1 < ((a0.getD x1_5.toNat spliceref03_Span.z).Hi))))], []⟩) (by kernel_rfl) (by kernel_rfl) rfl (by decide) (by rw [h0]; rfl) ?_
              exact Jj1 (decide (a1 < ((a0.getD x1_5.toNat spliceref03_Span.z).Hi))) H
            · replace H := iteF (K := fun o => stk o (iter (spliceref03_Has.step a0 a1) n)) c4 H
              rw [decide_eq_false c4]
              refine go hT 9 [0, 1, 5, 34] (k' := K50 [1, 0, 1, 0, 0, 1, 0, 0, 1]) (st' := ⟨35, [(0, .d (.sl t0 a0.length (vec spliceref03_Span.e spliceref03_Span.z a0))), (1, .i a1), (5, .i x1_5), (34, .b false)], []⟩) (by kernel_rfl) ?_
              refine ak_cut [0, 1, 5, 34] [] (st' := ⟨35, [(0, .d (.sl t0 a0.length (vec spliceref03_Span.e spliceref03_Span.z a0))), (1, .i a1), (5, .i x1_5), (34, .b false)], []⟩) (by kernel_rfl) (by kernel_rfl) rfl (by decide) (by rw [h0]; rfl) ?_
              exact Jj1 false H
          · replace H := iteF (K := fun o => stk o (iter (spliceref03_Has.step a0 a1) n)) c3 H
            rw [boF c3]
            refine go hT 18 [0, 1, 5, 34] (k' := K50 [1, 0, 1, 0, 0, 1, 0, 0, 1]) (st' := ⟨35, [(0, .d (.sl t0 a0.length (vec spliceref03_Span.e spliceref03_Span.z a0))), (1, .i a1), (5, .i x1_5), (34, .b false)], []⟩) (by kernel_rfl) ?_
            refine ak_cut [0, 1, 5, 34] [] (st' := ⟨35, [(0, .d (.sl t0 a0.length (vec spliceref03_Span.e spliceref03_Span.z a0))), (1, .i a1), (5, .i x1_5), (34, .b false)], []⟩) (by kernel_rfl) (by kernel_rfl) rfl (by decide) (by rw [h0]; rfl) ?_
            exact Jj1 false H
        · replace H := iteF (K := fun o => stk o (iter (spliceref03_Has.step a0 a1) n)) c1 H
          rw [decide_eq_false c1]
          refine go hT 6 [4] (k' := K50 [1, 1, 1]) (st' := ⟨35, [(4, .b false)], []⟩) (by kernel_rfl) ?_
          obtain rfl := retC H
          exact ak_ret hf hX (av := .b false) (by kernel_rfl) [] (sel_of_eq (by kernel_rfl)) (by decide) (by rw [h0]; rfl) (by kernel_rfl) (fun _ h => all_nil h) (.d (.v _))
  refine ak_cut [0, 1, 5] [] (st' := ⟨35, [(0, .d (.sl t0 a0.length (vec spliceref03_Span.e spliceref03_Span.z a0))), (1, .i a1), (5, .i 0)], []⟩) (by kernel_rfl) (by kernel_rfl) rfl (by decide) (by rw [h0]; rfl) ?_
  obtain ⟨n, H⟩ := loopC H
  exact (L n) 0 H


theorem spliceref05_within.says (a0 : Int) : Says Try.prog 87 [] [.i a0] [] (.i (spliceref05_within a0)) := by
  obtain ⟨r, H⟩ : ∃ r, spliceref05_within a0 = r := ⟨_, rfl⟩
  rw [H]
  refine says_of Try.func87 rfl (nt := 8) rfl (Nat.le_of_ble_eq_true rfl) fun X hP h0 hX => ?_
  have hT : TabOk X.P T := hP ▸ tok
  have hf : X.P.funcs[87]? = some Try.f87 := hP ▸ Try.func87
  refine go hT 10 [0, 4] (k' := K87 [1, 0, 1]) (st' := ⟨8, [(0, .i a0), (4, .b (decide (a0 > 1099511627776)))], []⟩) (by kernel_rfl) ?_
  by_cases c1 : a0 > 1099511627776
  · replace H := iteT (K := fun o => o) c1 H
    rw [decide_eq_true c1]
    refine go hT 5 [2] (k' := K87 [1, 0, 1, 0, 1]) (st' := ⟨8, [(2, .i 1099511627776)], []⟩) (by kernel_rfl) ?_
    obtain rfl := H
    exact ak_ret hf hX (av := .i 1099511627776) (by kernel_rfl) [] (sel_of_eq (by kernel_rfl)) (by decide) (by rw [h0]; rfl) (by kernel_rfl) (fun _ h => all_nil h) (.d (.v _))
  · replace H := iteF (K := fun o => o) c1 H
    rw [decide_eq_false c1]
    refine go hT 2 [0] (k' := K87 [1, 1]) (st' := ⟨8, [(0, .i a0)], []⟩) (by kernel_rfl) ?_
    refine go hT 6 [0, 6] (k' := K87 [1, 1, 0, 1]) (st' := ⟨8, [(0, .i a0), (6, .b (decide (a0 < (-1099511627776))))], []⟩) (by kernel_rfl) ?_
    by_cases c2 : a0 < (-1099511627776)
    · replace H := iteT (K := fun o => o) c2 H
      rw [decide_eq_true c2]
      refine go hT 5 [2] (k' := K87 [1, 1, 0, 1, 0, 1]) (st' := ⟨8, [(2, .i (-1099511627776))], []⟩) (by kernel_rfl) ?_
      obtain rfl := H
      exact ak_ret hf hX (av := .i (-1099511627776)) (by kernel_rfl) [] (sel_of_eq (by kernel_rfl)) (by decide) (by rw [h0]; rfl) (by kernel_rfl) (fun _ h => all_nil h) (.d (.v _))
    · replace H := iteF (K := fun o => o) c2 H
      rw [decide_eq_false c2]
      refine go hT 2 [0] (k' := K87 [1, 1, 1]) (st' := ⟨8, [(0, .i a0)], []⟩) (by kernel_rfl) ?_
      refine go hT 5 [2] (k' := K87 [1, 1, 1, 1]) (st' := ⟨8, [(2, .i a0)], []⟩) (by kernel_rfl) ?_
      obtain rfl := H
      exact ak_ret hf hX (av := .i a0) (by kernel_rfl) [] (sel_of_eq (by kernel_rfl)) (by decide) (by rw [h0]; rfl) (by kernel_rfl) (fun _ h => all_nil h) (.d (.v _))
end Go.SyP
