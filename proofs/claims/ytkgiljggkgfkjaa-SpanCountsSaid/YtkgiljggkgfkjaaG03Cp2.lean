/- Certificates, printed by gen.py. -/
import Derived.Test.YtkgiljggkgfkjaaG03Cp1
set_option linter.unusedVariables false
set_option linter.unusedSimpArgs false
namespace Go.SyP
open Go Go.Sy Go.Proofs

theorem splicelaw03_awake.says {r : Bool} (H : splicelaw03_awake = some r) : Says Try.prog 14 [] [] [] (.d (.v (.bool r))) := by
  refine says_of Try.func14 rfl (nt := 50) rfl (Nat.le_of_ble_eq_true rfl) fun X hP h0 hX => ?_
  have hT : TabOk X.P T := hP ▸ tok
  have hf : X.P.funcs[14]? = some Try.f14 := hP ▸ Try.func14
  refine go hT 10 [9] (k' := stackAt (Try.f14.body.getD .skip) [1, 0, 4] []) (st' := ⟨50, [(9, .own 0 2 0 3)], [.flat false 2 39 3 (fun j => [[.v (.int .i64 5), .v (.int .i64 7)], [.v (.int .i64 1), .v (.int .i64 3)], [.v (.int .i64 3), .v (.int .i64 4)]].getD j [])]⟩) (by kernel_rfl) ?_
  refine ak_row 0 (kk := 2) (fz := false) (ty := 39) (n := ([(⟨5, 7⟩ : api_Span), (⟨1, 3⟩ : api_Span), (⟨3, 4⟩ : api_Span)] : List api_Span).length) (vec api_Span.e api_Span.z ([(⟨5, 7⟩ : api_Span), (⟨1, 3⟩ : api_Span), (⟨3, 4⟩ : api_Span)] : List api_Span)) (by kernel_rfl) vec_lit (st' := ⟨50, [(9, .own 0 2 0 (([(⟨5, 7⟩ : api_Span), (⟨1, 3⟩ : api_Span), (⟨3, 4⟩ : api_Span)] : List api_Span).length))], [.flat false 2 39 ([(⟨5, 7⟩ : api_Span), (⟨1, 3⟩ : api_Span), (⟨3, 4⟩ : api_Span)] : List api_Span).length (vec api_Span.e api_Span.z ([(⟨5, 7⟩ : api_Span), (⟨1, 3⟩ : api_Span), (⟨3, 4⟩ : api_Span)] : List api_Span))]⟩) (by kernel_rfl) ?_
  refine ak_freeze 0 (kk := 2) (n := ([(⟨5, 7⟩ : api_Span), (⟨1, 3⟩ : api_Span), (⟨3, 4⟩ : api_Span)] : List api_Span).length) (ty := 39) (g := vec api_Span.e api_Span.z ([(⟨5, 7⟩ : api_Span), (⟨1, 3⟩ : api_Span), (⟨3, 4⟩ : api_Span)] : List api_Span)) (by kernel_rfl) (st' := ⟨50, [(9, .own 0 2 0 (([(⟨5, 7⟩ : api_Span), (⟨1, 3⟩ : api_Span), (⟨3, 4⟩ : api_Span)] : List api_Span).length))], [.flat true 2 39 ([(⟨5, 7⟩ : api_Span), (⟨1, 3⟩ : api_Span), (⟨3, 4⟩ : api_Span)] : List api_Span).length (vec api_Span.e api_Span.z ([(⟨5, 7⟩ : api_Span), (⟨1, 3⟩ : api_Span), (⟨3, 4⟩ : api_Span)] : List api_Span))]⟩) (by kernel_rfl) ?_
  obtain ⟨v1, h1, H⟩ := bindC (K := fun o => o) rfl H
  refine ak_callP (avs := [.own 0 2 0 (([(⟨5, 7⟩ : api_Span), (⟨1, 3⟩ : api_Span), (⟨3, 4⟩ : api_Span)] : List api_Span).length)]) (dst := some 10) (k' := stackAt (Try.f14.body.getD .skip) [1, 0, 5] []) [10] [] hP enters_15 (span_Make.says ([(⟨5, 7⟩ : api_Span), (⟨1, 3⟩ : api_Span), (⟨3, 4⟩ : api_Span)] : List api_Span) h1) (by kernel_rfl) (hands_none _) (.cons (.lend (ty := 39) (by kernel_rfl) rfl) .nil) (st' := ⟨50, [(10, .tup [.d (.sl true v1.1.length (vec api_Span.e api_Span.z v1.1)), .d (.v (.int .i64 v1.2))])], [.flat true 2 39 ([(⟨5, 7⟩ : api_Span), (⟨1, 3⟩ : api_Span), (⟨3, 4⟩ : api_Span)] : List api_Span).length (vec api_Span.e api_Span.z ([(⟨5, 7⟩ : api_Span), (⟨1, 3⟩ : api_Span), (⟨3, 4⟩ : api_Span)] : List api_Span))]⟩) (by kernel_rfl) ?_
  refine go hT 11 [1, 2, 14, 16] (k' := stackAt (Try.f14.body.getD .skip) [1, 1, 0, 3] []) (st' := ⟨50, [(1, .d (.sl true v1.1.length (vec api_Span.e api_Span.z v1.1))), (2, .d (.v (.int .i64 v1.2))), (14, .d (.sl true v1.1.length (vec api_Span.e api_Span.z v1.1))), (16, .own 1 2 0 1)], [.flat true 2 39 ([(⟨5, 7⟩ : api_Span), (⟨1, 3⟩ : api_Span), (⟨3, 4⟩ : api_Span)] : List api_Span).length (vec api_Span.e api_Span.z ([(⟨5, 7⟩ : api_Span), (⟨1, 3⟩ : api_Span), (⟨3, 4⟩ : api_Span)] : List api_Span)), .flat false 2 39 1 (fun j => [[.v (.int .i64 3), .v (.int .i64 6)]].getD j [])]⟩) (by kernel_rfl) ?_
  refine ak_row 1 (kk := 2) (fz := false) (ty := 39) (n := ([(⟨3, 6⟩ : api_Span)] : List api_Span).length) (vec api_Span.e api_Span.z ([(⟨3, 6⟩ : api_Span)] : List api_Span)) (by kernel_rfl) vec_lit (st' := ⟨50, [(1, .d (.sl true v1.1.length (vec api_Span.e api_Span.z v1.1))), (2, .d (.v (.int .i64 v1.2))), (14, .d (.sl true v1.1.length (vec api_Span.e api_Span.z v1.1))), (16, .own 1 2 0 (([(⟨3, 6⟩ : api_Span)] : List api_Span).length))], [.flat true 2 39 ([(⟨5, 7⟩ : api_Span), (⟨1, 3⟩ : api_Span), (⟨3, 4⟩ : api_Span)] : List api_Span).length (vec api_Span.e api_Span.z ([(⟨5, 7⟩ : api_Span), (⟨1, 3⟩ : api_Span), (⟨3, 4⟩ : api_Span)] : List api_Span)), .flat false 2 39 ([(⟨3, 6⟩ : api_Span)] : List api_Span).length (vec api_Span.e api_Span.z ([(⟨3, 6⟩ : api_Span)] : List api_Span))]⟩) (by kernel_rfl) ?_
  obtain ⟨v2, h2, H⟩ := bindC (K := fun o => o) rfl H
  have Jj1 : ∀ (y1_0 : Bool), (splicelaw03_awake.j1 y1_0) = some r → AK X 14 (stackAt (Try.f14.body.getD .skip) [1, 1, 1, 1] []) (Back X [] (.d (.v (.bool r)))) ⟨50, [(0, .d (.v (.bool y1_0)))], []⟩ := by
    intro y1_0 H
    obtain rfl := retC H
    exact ak_ret hf hX (av := .d (.v (.bool y1_0))) (by kernel_rfl) [] (sel_of_eq (by kernel_rfl)) (by decide) (by rw [h0]; rfl) (by kernel_rfl) (fun _ h => all_nil h) (.d (.v _))
  refine ak_callP (avs := [.d (.sl true v1.1.length (vec api_Span.e api_Span.z v1.1)), .own 1 2 0 (([(⟨3, 6⟩ : api_Span)] : List api_Span).length)]) (dst := some 17) (k' := stackAt (Try.f14.body.getD .skip) [1, 1, 0, 4] []) [1, 2, 17] [] hP enters_19 (span_Meet.says (t0 := true) (t1 := false) v1.1 ([(⟨3, 6⟩ : api_Span)] : List api_Span) h2) (by kernel_rfl) (hands_none _) (.cons (pass_d _) (.cons (.lend (ty := 39) (by kernel_rfl) rfl) .nil)) (st' := ⟨50, [(1, .d (.sl true v1.1.length (vec api_Span.e api_Span.z v1.1))), (2, .d (.v (.int .i64 v1.2))), (17, .tup [.d (.sl true v2.1.length (vec api_Span.e api_Span.z v2.1)), .d (.v (.int .i64 v2.2))])], [.flat true 2 39 ([(⟨5, 7⟩ : api_Span), (⟨1, 3⟩ : api_Span), (⟨3, 4⟩ : api_Span)] : List api_Span).length (vec api_Span.e api_Span.z ([(⟨5, 7⟩ : api_Span), (⟨1, 3⟩ : api_Span), (⟨3, 4⟩ : api_Span)] : List api_Span)), .flat false 2 39 ([(⟨3, 6⟩ : api_Span)] : List api_Span).length (vec api_Span.e api_Span.z ([(⟨3, 6⟩ : api_Span)] : List api_Span))]⟩) (by kernel_rfl) ?_
  refine go hT 11 [1, 3, 4, 22] (k' := stackAt (Try.f14.body.getD .skip) [1, 1, 1, 0, 3] []) (st' := ⟨50, [(1, .d (.sl true v1.1.length (vec api_Span.e api_Span.z v1.1))), (3, .d (.sl true v2.1.length (vec api_Span.e api_Span.z v2.1))), (4, .d (.v (.int .i64 v2.2))), (22, .d (.v (.bool (v1.2 == 0))))], [.flat true 2 39 ([(⟨5, 7⟩ : api_Span), (⟨1, 3⟩ : api_Span), (⟨3, 4⟩ : api_Span)] : List api_Span).length (vec api_Span.e api_Span.z ([(⟨5, 7⟩ : api_Span), (⟨1, 3⟩ : api_Span), (⟨3, 4⟩ : api_Span)] : List api_Span)), .flat false 2 39 ([(⟨3, 6⟩ : api_Span)] : List api_Span).length (vec api_Span.e api_Span.z ([(⟨3, 6⟩ : api_Span)] : List api_Span))]⟩) (by kernel_rfl) ?_
  by_cases c3 : v1.2 = 0
  · replace H := iteT (K := fun o => o) c3 H
    rw [eqT c3]
    refine go hT 5 [1, 3, 4, 27] (k' := stackAt (Try.f14.body.getD .skip) [1, 1, 1, 0, 8] []) (st' := ⟨50, [(1, .d (.sl true v1.1.length (vec api_Span.e api_Span.z v1.1))), (3, .d (.sl true v2.1.length (vec api_Span.e api_Span.z v2.1))), (4, .d (.v (.int .i64 v2.2))), (27, .d (.v (.bool ((v1.1.length : Int) == 2))))], [.flat true 2 39 ([(⟨5, 7⟩ : api_Span), (⟨1, 3⟩ : api_Span), (⟨3, 4⟩ : api_Span)] : List api_Span).length (vec api_Span.e api_Span.z ([(⟨5, 7⟩ : api_Span), (⟨1, 3⟩ : api_Span), (⟨3, 4⟩ : api_Span)] : List api_Span)), .flat false 2 39 ([(⟨3, 6⟩ : api_Span)] : List api_Span).length (vec api_Span.e api_Span.z ([(⟨3, 6⟩ : api_Span)] : List api_Span))]⟩) (by kernel_rfl) ?_
    by_cases c4 : (v1.1.length : Int) = 2
    · replace H := iteT (K := fun o => o) c4 H
      rw [eqT c4]
      refine go hT 1 [3, 4, 27, 28] (k' := stackAt (Try.f14.body.getD .skip) [1, 1, 1, 0, 9] []) (st' := ⟨50, [(3, .d (.sl true v2.1.length (vec api_Span.e api_Span.z v2.1))), (4, .d (.v (.int .i64 v2.2))), (27, .d (.v (.bool true))), (28, .d (.sl true v1.1.length (vec api_Span.e api_Span.z v1.1)))], [.flat true 2 39 ([(⟨5, 7⟩ : api_Span), (⟨1, 3⟩ : api_Span), (⟨3, 4⟩ : api_Span)] : List api_Span).length (vec api_Span.e api_Span.z ([(⟨5, 7⟩ : api_Span), (⟨1, 3⟩ : api_Span), (⟨3, 4⟩ : api_Span)] : List api_Span)), .flat false 2 39 ([(⟨3, 6⟩ : api_Span)] : List api_Span).length (vec api_Span.e api_Span.z ([(⟨3, 6⟩ : api_Span)] : List api_Span))]⟩) (by kernel_rfl) ?_
      obtain ⟨h5, H⟩ := iteC (K := fun o => o) rfl H
      refine ak_idx hT [3, 4, 27, 29] (i := 0) (n := (v1.1.length : Int)) h5.1 h5.2 (k' := stackAt (Try.f14.body.getD .skip) [1, 1, 1, 0, 10] []) (st' := ⟨50, [(3, .d (.sl true v2.1.length (vec api_Span.e api_Span.z v2.1))), (4, .d (.v (.int .i64 v2.2))), (27, .d (.v (.bool true))), (29, .d (.rop true v1.1.length (vec api_Span.e api_Span.z v1.1) 0 0))], [.flat true 2 39 ([(⟨5, 7⟩ : api_Span), (⟨1, 3⟩ : api_Span), (⟨3, 4⟩ : api_Span)] : List api_Span).length (vec api_Span.e api_Span.z ([(⟨5, 7⟩ : api_Span), (⟨1, 3⟩ : api_Span), (⟨3, 4⟩ : api_Span)] : List api_Span)), .flat false 2 39 ([(⟨3, 6⟩ : api_Span)] : List api_Span).length (vec api_Span.e api_Span.z ([(⟨3, 6⟩ : api_Span)] : List api_Span))]⟩) (by kernel_rfl) ?_
      refine go hT 5 [3, 4, 34] (k' := stackAt (Try.f14.body.getD .skip) [1, 1, 1, 0, 15] []) (st' := ⟨50, [(3, .d (.sl true v2.1.length (vec api_Span.e api_Span.z v2.1))), (4, .d (.v (.int .i64 v2.2))), (34, .d (.v (.bool ((((v1.1.getD 0 api_Span.z).Lo) == 1) && (((v1.1.getD 0 api_Span.z).Hi) == 4)))))], [.flat true 2 39 ([(⟨5, 7⟩ : api_Span), (⟨1, 3⟩ : api_Span), (⟨3, 4⟩ : api_Span)] : List api_Span).length (vec api_Span.e api_Span.z ([(⟨5, 7⟩ : api_Span), (⟨1, 3⟩ : api_Span), (⟨3, 4⟩ : api_Span)] : List api_Span)), .flat false 2 39 ([(⟨3, 6⟩ : api_Span)] : List api_Span).length (vec api_Span.e api_Span.z ([(⟨3, 6⟩ : api_Span)] : List api_Span))]⟩) (by kernel_rfl) ?_
      by_cases c6 : ((v1.1.getD 0 api_Span.z).Lo) = 1
      · replace H := iteT (K := fun o => o) c6 H
        rw [eqT c6]
        by_cases c7 : ((v1.1.getD 0 api_Span.z).Hi) = 4
        · replace H := iteT (K := fun o => o) c7 H
          rw [eqT c7]
          refine go hT 4 [3, 38] (k' := stackAt (Try.f14.body.getD .skip) [1, 1, 1, 0, 19] []) (st' := ⟨50, [(3, .d (.sl true v2.1.length (vec api_Span.e api_Span.z v2.1))), (38, .d (.v (.bool (v2.2 == 0))))], [.flat true 2 39 ([(⟨5, 7⟩ : api_Span), (⟨1, 3⟩ : api_Span), (⟨3, 4⟩ : api_Span)] : List api_Span).length (vec api_Span.e api_Span.z ([(⟨5, 7⟩ : api_Span), (⟨1, 3⟩ : api_Span), (⟨3, 4⟩ : api_Span)] : List api_Span)), .flat false 2 39 ([(⟨3, 6⟩ : api_Span)] : List api_Span).length (vec api_Span.e api_Span.z ([(⟨3, 6⟩ : api_Span)] : List api_Span))]⟩) (by kernel_rfl) ?_
          by_cases c8 : v2.2 = 0
          · replace H := iteT (K := fun o => o) c8 H
            rw [eqT c8]
            refine go hT 5 [3, 43] (k' := stackAt (Try.f14.body.getD .skip) [1, 1, 1, 0, 24] []) (st' := ⟨50, [(3, .d (.sl true v2.1.length (vec api_Span.e api_Span.z v2.1))), (43, .d (.v (.bool ((v2.1.length : Int) == 2))))], [.flat true 2 39 ([(⟨5, 7⟩ : api_Span), (⟨1, 3⟩ : api_Span), (⟨3, 4⟩ : api_Span)] : List api_Span).length (vec api_Span.e api_Span.z ([(⟨5, 7⟩ : api_Span), (⟨1, 3⟩ : api_Span), (⟨3, 4⟩ : api_Span)] : List api_Span)), .flat false 2 39 ([(⟨3, 6⟩ : api_Span)] : List api_Span).length (vec api_Span.e api_Span.z ([(⟨3, 6⟩ : api_Span)] : List api_Span))]⟩) (by kernel_rfl) ?_
            by_cases c9 : (v2.1.length : Int) = 2
            · replace H := iteT (K := fun o => o) c9 H
              rw [eqT c9]
              refine go hT 1 [43, 44] (k' := stackAt (Try.f14.body.getD .skip) [1, 1, 1, 0, 25] []) (st' := ⟨50, [(43, .d (.v (.bool true))), (44, .d (.sl true v2.1.length (vec api_Span.e api_Span.z v2.1)))], [.flat true 2 39 ([(⟨5, 7⟩ : api_Span), (⟨1, 3⟩ : api_Span), (⟨3, 4⟩ : api_Span)] : List api_Span).length (vec api_Span.e api_Span.z ([(⟨5, 7⟩ : api_Span), (⟨1, 3⟩ : api_Span), (⟨3, 4⟩ : api_Span)] : List api_Span)), .flat false 2 39 ([(⟨3, 6⟩ : api_Span)] : List api_Span).length (vec api_Span.e api_Span.z ([(⟨3, 6⟩ : api_Span)] : List api_Span))]⟩) (by kernel_rfl) ?_
              obtain ⟨h10, H⟩ := iteC (K := fun o => o) rfl H
              refine ak_idx hT [43, 45] (i := 1) (n := (v2.1.length : Int)) h10.1 h10.2 (k' := stackAt (Try.f14.body.getD .skip) [1, 1, 1, 0, 26] []) (st' := ⟨50, [(43, .d (.v (.bool true))), (45, .d (.rop true v2.1.length (vec api_Span.e api_Span.z v2.1) 1 0))], [.flat true 2 39 ([(⟨5, 7⟩ : api_Span), (⟨1, 3⟩ : api_Span), (⟨3, 4⟩ : api_Span)] : List api_Span).length (vec api_Span.e api_Span.z ([(⟨5, 7⟩ : api_Span), (⟨1, 3⟩ : api_Span), (⟨3, 4⟩ : api_Span)] : List api_Span)), .flat false 2 39 ([(⟨3, 6⟩ : api_Span)] : List api_Span).length (vec api_Span.e api_Span.z ([(⟨3, 6⟩ : api_Span)] : List api_Span))]⟩) (by kernel_rfl) ?_
              refine go hT 6 [0] (k' := stackAt (Try.f14.body.getD .skip) [1, 1, 1, 1] []) (st' := ⟨50, [(0, .d (.v (.bool ((((v2.1.getD 1 api_Span.z).Lo) == 5) && (((v2.1.getD 1 api_Span.z).Hi) == 6)))))], [.flat true 2 39 ([(⟨5, 7⟩ : api_Span), (⟨1, 3⟩ : api_Span), (⟨3, 4⟩ : api_Span)] : List api_Span).length (vec api_Span.e api_Span.z ([(⟨5, 7⟩ : api_Span), (⟨1, 3⟩ : api_Span), (⟨3, 4⟩ : api_Span)] : List api_Span)), .flat false 2 39 ([(⟨3, 6⟩ : api_Span)] : List api_Span).length (vec api_Span.e api_Span.z ([(⟨3, 6⟩ : api_Span)] : List api_Span))]⟩) (by kernel_rfl) ?_
              refine ak_cut [0] [] (st' := ⟨50, [(0, .d (.v (.bool ((((v2.1.getD 1 api_Span.z).Lo) == 5) && (((v2.1.getD 1 api_Span.z).Hi) == 6)))))], []⟩) (by kernel_rfl) (by kernel_rfl) rfl (by decide) (by rw [h0]; rfl) ?_
              exact Jj1 ((((v2.1.getD 1 api_Span.z).Lo) == 5) && (((v2.1.getD 1 api_Span.z).Hi) == 6)) H
            · replace H := iteF (K := fun o => o) c9 H
              rw [eqF c9]
              refine go hT 8 [0] (k' := stackAt (Try.f14.body.getD .skip) [1, 1, 1, 1] []) (st' := ⟨50, [(0, .d (.v (.bool false)))], [.flat true 2 39 ([(⟨5, 7⟩ : api_Span), (⟨1, 3⟩ : api_Span), (⟨3, 4⟩ : api_Span)] : List api_Span).length (vec api_Span.e api_Span.z ([(⟨5, 7⟩ : api_Span), (⟨1, 3⟩ : api_Span), (⟨3, 4⟩ : api_Span)] : List api_Span)), .flat false 2 39 ([(⟨3, 6⟩ : api_Span)] : List api_Span).length (vec api_Span.e api_Span.z ([(⟨3, 6⟩ : api_Span)] : List api_Span))]⟩) (by kernel_rfl) ?_
              refine ak_cut [0] [] (st' := ⟨50, [(0, .d (.v (.bool false)))], []⟩) (by kernel_rfl) (by kernel_rfl) rfl (by decide) (by rw [h0]; rfl) ?_
              exact Jj1 false H
          · replace H := iteF (K := fun o => o) c8 H
            rw [eqF c8]
            refine go hT 13 [0] (k' := stackAt (Try.f14.body.getD .skip) [1, 1, 1, 1] []) (st' := ⟨50, [(0, .d (.v (.bool false)))], [.flat true 2 39 ([(⟨5, 7⟩ : api_Span), (⟨1, 3⟩ : api_Span), (⟨3, 4⟩ : api_Span)] : List api_Span).length (vec api_Span.e api_Span.z ([(⟨5, 7⟩ : api_Span), (⟨1, 3⟩ : api_Span), (⟨3, 4⟩ : api_Span)] : List api_Span)), .flat false 2 39 ([(⟨3, 6⟩ : api_Span)] : List api_Span).length (vec api_Span.e api_Span.z ([(⟨3, 6⟩ : api_Span)] : List api_Span))]⟩) (by kernel_rfl) ?_
            refine ak_cut [0] [] (st' := ⟨50, [(0, .d (.v (.bool false)))], []⟩) (by kernel_rfl) (by kernel_rfl) rfl (by decide) (by rw [h0]; rfl) ?_
            exact Jj1 false H
        · replace H := iteF (K := fun o => o) c7 H
          rw [eqF c7]
          refine go hT 17 [0] (k' := stackAt (Try.f14.body.getD .skip) [1, 1, 1, 1] []) (st' := ⟨50, [(0, .d (.v (.bool false)))], [.flat true 2 39 ([(⟨5, 7⟩ : api_Span), (⟨1, 3⟩ : api_Span), (⟨3, 4⟩ : api_Span)] : List api_Span).length (vec api_Span.e api_Span.z ([(⟨5, 7⟩ : api_Span), (⟨1, 3⟩ : api_Span), (⟨3, 4⟩ : api_Span)] : List api_Span)), .flat false 2 39 ([(⟨3, 6⟩ : api_Span)] : List api_Span).length (vec api_Span.e api_Span.z ([(⟨3, 6⟩ : api_Span)] : List api_Span))]⟩) (by kernel_rfl) ?_
          refine ak_cut [0] [] (st' := ⟨50, [(0, .d (.v (.bool false)))], []⟩) (by kernel_rfl) (by kernel_rfl) rfl (by decide) (by rw [h0]; rfl) ?_
          exact Jj1 false H
      · replace H := iteF (K := fun o => o) c6 H
        rw [eqF c6]
        by_cases c11 : ((v1.1.getD 0 api_Span.z).Hi) = 4
        · replace H := iteT (K := fun o => o) c11 H
          rw [eqT c11]
          refine go hT 17 [0] (k' := stackAt (Try.f14.body.getD .skip) [1, 1, 1, 1] []) (st' := ⟨50, [(0, .d (.v (.bool false)))], [.flat true 2 39 ([(⟨5, 7⟩ : api_Span), (⟨1, 3⟩ : api_Span), (⟨3, 4⟩ : api_Span)] : List api_Span).length (vec api_Span.e api_Span.z ([(⟨5, 7⟩ : api_Span), (⟨1, 3⟩ : api_Span), (⟨3, 4⟩ : api_Span)] : List api_Span)), .flat false 2 39 ([(⟨3, 6⟩ : api_Span)] : List api_Span).length (vec api_Span.e api_Span.z ([(⟨3, 6⟩ : api_Span)] : List api_Span))]⟩) (by kernel_rfl) ?_
          refine ak_cut [0] [] (st' := ⟨50, [(0, .d (.v (.bool false)))], []⟩) (by kernel_rfl) (by kernel_rfl) rfl (by decide) (by rw [h0]; rfl) ?_
          exact Jj1 false H
        · replace H := iteF (K := fun o => o) c11 H
          rw [eqF c11]
          refine go hT 17 [0] (k' := stackAt (Try.f14.body.getD .skip) [1, 1, 1, 1] []) (st' := ⟨50, [(0, .d (.v (.bool false)))], [.flat true 2 39 ([(⟨5, 7⟩ : api_Span), (⟨1, 3⟩ : api_Span), (⟨3, 4⟩ : api_Span)] : List api_Span).length (vec api_Span.e api_Span.z ([(⟨5, 7⟩ : api_Span), (⟨1, 3⟩ : api_Span), (⟨3, 4⟩ : api_Span)] : List api_Span)), .flat false 2 39 ([(⟨3, 6⟩ : api_Span)] : List api_Span).length (vec api_Span.e api_Span.z ([(⟨3, 6⟩ : api_Span)] : List api_Span))]⟩) (by kernel_rfl) ?_
          refine ak_cut [0] [] (st' := ⟨50, [(0, .d (.v (.bool false)))], []⟩) (by kernel_rfl) (by kernel_rfl) rfl (by decide) (by rw [h0]; rfl) ?_
          exact Jj1 false H
    · replace H := iteF (K := fun o => o) c4 H
      rw [eqF c4]
      refine go hT 24 [0] (k' := stackAt (Try.f14.body.getD .skip) [1, 1, 1, 1] []) (st' := ⟨50, [(0, .d (.v (.bool false)))], [.flat true 2 39 ([(⟨5, 7⟩ : api_Span), (⟨1, 3⟩ : api_Span), (⟨3, 4⟩ : api_Span)] : List api_Span).length (vec api_Span.e api_Span.z ([(⟨5, 7⟩ : api_Span), (⟨1, 3⟩ : api_Span), (⟨3, 4⟩ : api_Span)] : List api_Span)), .flat false 2 39 ([(⟨3, 6⟩ : api_Span)] : List api_Span).length (vec api_Span.e api_Span.z ([(⟨3, 6⟩ : api_Span)] : List api_Span))]⟩) (by kernel_rfl) ?_
      refine ak_cut [0] [] (st' := ⟨50, [(0, .d (.v (.bool false)))], []⟩) (by kernel_rfl) (by kernel_rfl) rfl (by decide) (by rw [h0]; rfl) ?_
      exact Jj1 false H
  · replace H := iteF (K := fun o => o) c3 H
    rw [eqF c3]
    refine go hT 29 [0] (k' := stackAt (Try.f14.body.getD .skip) [1, 1, 1, 1] []) (st' := ⟨50, [(0, .d (.v (.bool false)))], [.flat true 2 39 ([(⟨5, 7⟩ : api_Span), (⟨1, 3⟩ : api_Span), (⟨3, 4⟩ : api_Span)] : List api_Span).length (vec api_Span.e api_Span.z ([(⟨5, 7⟩ : api_Span), (⟨1, 3⟩ : api_Span), (⟨3, 4⟩ : api_Span)] : List api_Span)), .flat false 2 39 ([(⟨3, 6⟩ : api_Span)] : List api_Span).length (vec api_Span.e api_Span.z ([(⟨3, 6⟩ : api_Span)] : List api_Span))]⟩) (by kernel_rfl) ?_
    refine ak_cut [0] [] (st' := ⟨50, [(0, .d (.v (.bool false)))], []⟩) (by kernel_rfl) (by kernel_rfl) rfl (by decide) (by rw [h0]; rfl) ?_
    exact Jj1 false H


theorem splicelaw03_SpanCounts.says (a0 : List api_Span) (a1 : List api_Span) {r : Bool} (H : splicelaw03_SpanCounts a0 a1 = some r) : Says Try.prog 11 [] [.d (.sl true a0.length (vec api_Span.e api_Span.z a0)), .d (.sl true a1.length (vec api_Span.e api_Span.z a1))] [] (.d (.v (.bool r))) := by
  refine says_of Try.func11 rfl (nt := 60) rfl (Nat.le_of_ble_eq_true rfl) fun X hP h0 hX => ?_
  have hT : TabOk X.P T := hP ▸ tok
  have hf : X.P.funcs[11]? = some Try.f11 := hP ▸ Try.func11
  have Jj1 : ∀ (y1_16 : Bool), (splicelaw03_SpanCounts.j1 a0 a1 y1_16) = some r → AK X 11 (stackAt (Try.f11.body.getD .skip) [1, 0, 1] []) (Back X [] (.d (.v (.bool r)))) ⟨60, [(0, .d (.sl true a0.length (vec api_Span.e api_Span.z a0))), (1, .d (.sl true a1.length (vec api_Span.e api_Span.z a1))), (16, .d (.v (.bool y1_16)))], []⟩ := by
    intro y1_16 H
    by_cases c2 : y1_16 = true
    · replace H := iteT (K := fun o => o) c2 H
      rw [c2]
      refine go hT 3 [] (k' := stackAt (Try.f11.body.getD .skip) [1, 0, 1, 0, 0, 0] []) (st' := ⟨60, [], []⟩) (by kernel_rfl) ?_
      obtain ⟨v1, h3, H⟩ := bindC (K := fun o => o) rfl H
      refine ak_callP (avs := []) (dst := some 17) (k' := stackAt (Try.f11.body.getD .skip) [1, 0, 1, 0, 0, 1] []) [17] [] hP enters_14 (splicelaw03_awake.says h3) (by kernel_rfl) (hands_none _) .nil (st' := ⟨60, [(17, .d (.v (.bool v1)))], []⟩) (by kernel_rfl) ?_
      refine go hT 2 [4] (k' := stackAt (Try.f11.body.getD .skip) [1, 0, 1, 0, 1] []) (st' := ⟨60, [(4, .d (.v (.bool v1)))], []⟩) (by kernel_rfl) ?_
      obtain rfl := retC H
      exact ak_ret hf hX (av := .d (.v (.bool v1))) (by kernel_rfl) [] (sel_of_eq (by kernel_rfl)) (by decide) (by rw [h0]; rfl) (by kernel_rfl) (fun _ h => all_nil h) (.d (.v _))
    · replace H := iteF (K := fun o => o) c2 H
      rw [boF c2]
      refine go hT 2 [0, 1] (k' := stackAt (Try.f11.body.getD .skip) [1, 1] []) (st' := ⟨60, [(0, .d (.sl true a0.length (vec api_Span.e api_Span.z a0))), (1, .d (.sl true a1.length (vec api_Span.e api_Span.z a1)))], []⟩) (by kernel_rfl) ?_
      refine go hT 4 [0, 1, 19, 20] (k' := stackAt (Try.f11.body.getD .skip) [1, 1, 0, 2] []) (st' := ⟨60, [(0, .d (.sl true a0.length (vec api_Span.e api_Span.z a0))), (1, .d (.sl true a1.length (vec api_Span.e api_Span.z a1))), (19, .d (.sl true a0.length (vec api_Span.e api_Span.z a0))), (20, .d (.sl true a1.length (vec api_Span.e api_Span.z a1)))], []⟩) (by kernel_rfl) ?_
      obtain ⟨v2, h4, H⟩ := bindC (K := fun o => o) rfl H
      refine ak_callP (avs := [.d (.sl true a0.length (vec api_Span.e api_Span.z a0)), .d (.sl true a1.length (vec api_Span.e api_Span.z a1))]) (dst := some 21) (k' := stackAt (Try.f11.body.getD .skip) [1, 1, 0, 3] []) [0, 1, 21] [] hP enters_34 (span_Join.says a0 a1 h4) (by kernel_rfl) (hands_none _) (.cons (pass_d _) (.cons (pass_d _) .nil)) (st' := ⟨60, [(0, .d (.sl true a0.length (vec api_Span.e api_Span.z a0))), (1, .d (.sl true a1.length (vec api_Span.e api_Span.z a1))), (21, .tup [.d (.sl true v2.1.length (vec api_Span.e api_Span.z v2.1)), .d (.v (.int .i64 v2.2))])], []⟩) (by kernel_rfl) ?_
      refine go hT 10 [0, 1, 5, 6, 25, 26] (k' := stackAt (Try.f11.body.getD .skip) [1, 1, 1, 0, 2] []) (st' := ⟨60, [(0, .d (.sl true a0.length (vec api_Span.e api_Span.z a0))), (1, .d (.sl true a1.length (vec api_Span.e api_Span.z a1))), (5, .d (.sl true v2.1.length (vec api_Span.e api_Span.z v2.1))), (6, .d (.v (.int .i64 v2.2))), (25, .d (.sl true a0.length (vec api_Span.e api_Span.z a0))), (26, .d (.sl true a1.length (vec api_Span.e api_Span.z a1)))], []⟩) (by kernel_rfl) ?_
      obtain ⟨v3, h5, H⟩ := bindC (K := fun o => o) rfl H
      have Jj2 : ∀ (y2_35 : Bool), (splicelaw03_SpanCounts.j2 a0 a1 v2 v3 y2_35) = some r → AK X 11 (stackAt (Try.f11.body.getD .skip) [1, 1, 1, 1, 0, 1] []) (Back X [] (.d (.v (.bool r)))) ⟨60, [(0, .d (.sl true a0.length (vec api_Span.e api_Span.z a0))), (1, .d (.sl true a1.length (vec api_Span.e api_Span.z a1))), (5, .d (.sl true v2.1.length (vec api_Span.e api_Span.z v2.1))), (7, .d (.sl true v3.1.length (vec api_Span.e api_Span.z v3.1))), (35, .d (.v (.bool y2_35)))], []⟩ := by
        intro y2_35 H
        by_cases c7 : y2_35 = true
        · replace H := iteT (K := fun o => o) c7 H
          rw [c7]
          refine go hT 3 [] (k' := stackAt (Try.f11.body.getD .skip) [1, 1, 1, 1, 0, 1, 0, 0, 0] []) (st' := ⟨60, [], []⟩) (by kernel_rfl) ?_
          obtain ⟨v4, h8, H⟩ := bindC (K := fun o => o) rfl H
          refine ak_callP (avs := []) (dst := some 36) (k' := stackAt (Try.f11.body.getD .skip) [1, 1, 1, 1, 0, 1, 0, 0, 1] []) [36] [] hP enters_14 (splicelaw03_awake.says h8) (by kernel_rfl) (hands_none _) .nil (st' := ⟨60, [(36, .d (.v (.bool v4)))], []⟩) (by kernel_rfl) ?_
          refine go hT 2 [4] (k' := stackAt (Try.f11.body.getD .skip) [1, 1, 1, 1, 0, 1, 0, 1] []) (st' := ⟨60, [(4, .d (.v (.bool v4)))], []⟩) (by kernel_rfl) ?_
          obtain rfl := retC H
          exact ak_ret hf hX (av := .d (.v (.bool v4))) (by kernel_rfl) [] (sel_of_eq (by kernel_rfl)) (by decide) (by rw [h0]; rfl) (by kernel_rfl) (fun _ h => all_nil h) (.d (.v _))
        · replace H := iteF (K := fun o => o) c7 H
          rw [boF c7]
          refine go hT 2 [0, 1, 5, 7] (k' := stackAt (Try.f11.body.getD .skip) [1, 1, 1, 1, 1] []) (st' := ⟨60, [(0, .d (.sl true a0.length (vec api_Span.e api_Span.z a0))), (1, .d (.sl true a1.length (vec api_Span.e api_Span.z a1))), (5, .d (.sl true v2.1.length (vec api_Span.e api_Span.z v2.1))), (7, .d (.sl true v3.1.length (vec api_Span.e api_Span.z v3.1)))], []⟩) (by kernel_rfl) ?_
          refine go hT 2 [0, 1, 5, 7] (k' := stackAt (Try.f11.body.getD .skip) [1, 1, 1, 1, 1, 0, 0] []) (st' := ⟨60, [(0, .d (.sl true a0.length (vec api_Span.e api_Span.z a0))), (1, .d (.sl true a1.length (vec api_Span.e api_Span.z a1))), (5, .d (.sl true v2.1.length (vec api_Span.e api_Span.z v2.1))), (7, .d (.sl true v3.1.length (vec api_Span.e api_Span.z v3.1)))], []⟩) (by kernel_rfl) ?_
          obtain ⟨v5, h9, H⟩ := bindC (K := fun o => o) rfl H
          have Jj3 : ∀ (y3_4 : Bool), (splicelaw03_SpanCounts.j3 y3_4) = some r → AK X 11 (stackAt (Try.f11.body.getD .skip) [1, 1, 1, 1, 1, 1] []) (Back X [] (.d (.v (.bool r)))) ⟨60, [(4, .d (.v (.bool y3_4)))], []⟩ := by
            intro y3_4 H
            obtain rfl := retC H
            exact ak_ret hf hX (av := .d (.v (.bool y3_4))) (by kernel_rfl) [] (sel_of_eq (by kernel_rfl)) (by decide) (by rw [h0]; rfl) (by kernel_rfl) (fun _ h => all_nil h) (.d (.v _))
          refine ak_callP (avs := []) (dst := some 37) (k' := stackAt (Try.f11.body.getD .skip) [1, 1, 1, 1, 1, 0, 1] []) [0, 1, 5, 7, 37] [] hP enters_14 (splicelaw03_awake.says h9) (by kernel_rfl) (hands_none _) .nil (st' := ⟨60, [(0, .d (.sl true a0.length (vec api_Span.e api_Span.z a0))), (1, .d (.sl true a1.length (vec api_Span.e api_Span.z a1))), (5, .d (.sl true v2.1.length (vec api_Span.e api_Span.z v2.1))), (7, .d (.sl true v3.1.length (vec api_Span.e api_Span.z v3.1))), (37, .d (.v (.bool v5)))], []⟩) (by kernel_rfl) ?_
          refine go hT 1 [0, 1, 5, 7, 38] (k' := stackAt (Try.f11.body.getD .skip) [1, 1, 1, 1, 1, 0, 2] []) (st' := ⟨60, [(0, .d (.sl true a0.length (vec api_Span.e api_Span.z a0))), (1, .d (.sl true a1.length (vec api_Span.e api_Span.z a1))), (5, .d (.sl true v2.1.length (vec api_Span.e api_Span.z v2.1))), (7, .d (.sl true v3.1.length (vec api_Span.e api_Span.z v3.1))), (38, .d (.v (.bool v5)))], []⟩) (by kernel_rfl) ?_
          by_cases c10 : v5 = true
          · replace H := iteT (K := fun o => o) c10 H
            rw [c10]
            refine go hT 1 [0, 1, 5, 7, 38, 39] (k' := stackAt (Try.f11.body.getD .skip) [1, 1, 1, 1, 1, 0, 3] []) (st' := ⟨60, [(0, .d (.sl true a0.length (vec api_Span.e api_Span.z a0))), (1, .d (.sl true a1.length (vec api_Span.e api_Span.z a1))), (5, .d (.sl true v2.1.length (vec api_Span.e api_Span.z v2.1))), (7, .d (.sl true v3.1.length (vec api_Span.e api_Span.z v3.1))), (38, .d (.v (.bool true))), (39, .d (.sl true a0.length (vec api_Span.e api_Span.z a0)))], []⟩) (by kernel_rfl) ?_
            obtain ⟨v6, h11, H⟩ := bindC (K := fun o => o) rfl H
            refine ak_callP (avs := [.d (.sl true a0.length (vec api_Span.e api_Span.z a0))]) (dst := some 40) (k' := stackAt (Try.f11.body.getD .skip) [1, 1, 1, 1, 1, 0, 4] []) [0, 1, 5, 7, 38, 40] [] hP enters_29 (span_Count.says (t0 := true) a0 h11) (by kernel_rfl) (hands_none _) (.cons (pass_d _) .nil) (st' := ⟨60, [(0, .d (.sl true a0.length (vec api_Span.e api_Span.z a0))), (1, .d (.sl true a1.length (vec api_Span.e api_Span.z a1))), (5, .d (.sl true v2.1.length (vec api_Span.e api_Span.z v2.1))), (7, .d (.sl true v3.1.length (vec api_Span.e api_Span.z v3.1))), (38, .d (.v (.bool true))), (40, .d (.v (.int .i64 v6)))], []⟩) (by kernel_rfl) ?_
            refine go hT 1 [0, 1, 5, 7, 38, 40, 41] (k' := stackAt (Try.f11.body.getD .skip) [1, 1, 1, 1, 1, 0, 5] []) (st' := ⟨60, [(0, .d (.sl true a0.length (vec api_Span.e api_Span.z a0))), (1, .d (.sl true a1.length (vec api_Span.e api_Span.z a1))), (5, .d (.sl true v2.1.length (vec api_Span.e api_Span.z v2.1))), (7, .d (.sl true v3.1.length (vec api_Span.e api_Span.z v3.1))), (38, .d (.v (.bool true))), (40, .d (.v (.int .i64 v6))), (41, .d (.sl true a1.length (vec api_Span.e api_Span.z a1)))], []⟩) (by kernel_rfl) ?_
            obtain ⟨v7, h12, H⟩ := bindC (K := fun o => o) rfl H
            refine ak_callP (avs := [.d (.sl true a1.length (vec api_Span.e api_Span.z a1))]) (dst := some 42) (k' := stackAt (Try.f11.body.getD .skip) [1, 1, 1, 1, 1, 0, 6] []) [0, 1, 5, 7, 38, 40, 42] [] hP enters_29 (span_Count.says (t0 := true) a1 h12) (by kernel_rfl) (hands_none _) (.cons (pass_d _) .nil) (st' := ⟨60, [(0, .d (.sl true a0.length (vec api_Span.e api_Span.z a0))), (1, .d (.sl true a1.length (vec api_Span.e api_Span.z a1))), (5, .d (.sl true v2.1.length (vec api_Span.e api_Span.z v2.1))), (7, .d (.sl true v3.1.length (vec api_Span.e api_Span.z v3.1))), (38, .d (.v (.bool true))), (40, .d (.v (.int .i64 v6))), (42, .d (.v (.int .i64 v7)))], []⟩) (by kernel_rfl) ?_
            refine go hT 2 [0, 1, 7, 38, 43, 44] (k' := stackAt (Try.f11.body.getD .skip) [1, 1, 1, 1, 1, 0, 8] []) (st' := ⟨60, [(0, .d (.sl true a0.length (vec api_Span.e api_Span.z a0))), (1, .d (.sl true a1.length (vec api_Span.e api_Span.z a1))), (7, .d (.sl true v3.1.length (vec api_Span.e api_Span.z v3.1))), (38, .d (.v (.bool true))), (43, .d (.v (.int .i64 (IntKind.wrap .i64 (v6 + v7))))), (44, .d (.sl true v2.1.length (vec api_Span.e api_Span.z v2.1)))], []⟩) (by kernel_rfl) ?_
            obtain ⟨v8, h13, H⟩ := bindC (K := fun o => o) rfl H
            refine ak_callP (avs := [.d (.sl true v2.1.length (vec api_Span.e api_Span.z v2.1))]) (dst := some 45) (k' := stackAt (Try.f11.body.getD .skip) [1, 1, 1, 1, 1, 0, 9] []) [0, 1, 7, 38, 43, 45] [] hP enters_29 (span_Count.says (t0 := true) v2.1 h13) (by kernel_rfl) (hands_none _) (.cons (pass_d _) .nil) (st' := ⟨60, [(0, .d (.sl true a0.length (vec api_Span.e api_Span.z a0))), (1, .d (.sl true a1.length (vec api_Span.e api_Span.z a1))), (7, .d (.sl true v3.1.length (vec api_Span.e api_Span.z v3.1))), (38, .d (.v (.bool true))), (43, .d (.v (.int .i64 (IntKind.wrap .i64 (v6 + v7))))), (45, .d (.v (.int .i64 v8)))], []⟩) (by kernel_rfl) ?_
            refine go hT 1 [0, 1, 7, 38, 43, 45, 46] (k' := stackAt (Try.f11.body.getD .skip) [1, 1, 1, 1, 1, 0, 10] []) (st' := ⟨60, [(0, .d (.sl true a0.length (vec api_Span.e api_Span.z a0))), (1, .d (.sl true a1.length (vec api_Span.e api_Span.z a1))), (7, .d (.sl true v3.1.length (vec api_Span.e api_Span.z v3.1))), (38, .d (.v (.bool true))), (43, .d (.v (.int .i64 (IntKind.wrap .i64 (v6 + v7))))), (45, .d (.v (.int .i64 v8))), (46, .d (.sl true v3.1.length (vec api_Span.e api_Span.z v3.1)))], []⟩) (by kernel_rfl) ?_
            obtain ⟨v9, h14, H⟩ := bindC (K := fun o => o) rfl H
            refine ak_callP (avs := [.d (.sl true v3.1.length (vec api_Span.e api_Span.z v3.1))]) (dst := some 47) (k' := stackAt (Try.f11.body.getD .skip) [1, 1, 1, 1, 1, 0, 11] []) [0, 1, 7, 38, 43, 45, 47] [] hP enters_29 (span_Count.says (t0 := true) v3.1 h14) (by kernel_rfl) (hands_none _) (.cons (pass_d _) .nil) (st' := ⟨60, [(0, .d (.sl true a0.length (vec api_Span.e api_Span.z a0))), (1, .d (.sl true a1.length (vec api_Span.e api_Span.z a1))), (7, .d (.sl true v3.1.length (vec api_Span.e api_Span.z v3.1))), (38, .d (.v (.bool true))), (43, .d (.v (.int .i64 (IntKind.wrap .i64 (v6 + v7))))), (45, .d (.v (.int .i64 v8))), (47, .d (.v (.int .i64 v9)))], []⟩) (by kernel_rfl) ?_
            refine go hT 4 [0, 1, 7, 51] (k' := stackAt (Try.f11.body.getD .skip) [1, 1, 1, 1, 1, 0, 15] []) (st' := ⟨60, [(0, .d (.sl true a0.length (vec api_Span.e api_Span.z a0))), (1, .d (.sl true a1.length (vec api_Span.e api_Span.z a1))), (7, .d (.sl true v3.1.length (vec api_Span.e api_Span.z v3.1))), (51, .d (.v (.bool ((IntKind.wrap .i64 (v6 + v7)) == (IntKind.wrap .i64 (v8 + v9))))))], []⟩) (by kernel_rfl) ?_
            by_cases c15 : (IntKind.wrap .i64 (v6 + v7)) = (IntKind.wrap .i64 (v8 + v9))
            · replace H := iteT (K := fun o => o) c15 H
              rw [eqT c15]
              refine go hT 2 [7, 51, 52, 53] (k' := stackAt (Try.f11.body.getD .skip) [1, 1, 1, 1, 1, 0, 17] []) (st' := ⟨60, [(7, .d (.sl true v3.1.length (vec api_Span.e api_Span.z v3.1))), (51, .d (.v (.bool true))), (52, .d (.sl true a0.length (vec api_Span.e api_Span.z a0))), (53, .d (.sl true a1.length (vec api_Span.e api_Span.z a1)))], []⟩) (by kernel_rfl) ?_
              obtain ⟨v10, h16, H⟩ := bindC (K := fun o => o) rfl H
              refine ak_callP (avs := [.d (.sl true a0.length (vec api_Span.e api_Span.z a0)), .d (.sl true a1.length (vec api_Span.e api_Span.z a1))]) (dst := some 54) (k' := stackAt (Try.f11.body.getD .skip) [1, 1, 1, 1, 1, 0, 18] []) [7, 51, 54] [] hP enters_22 (span_Touch.says (t0 := true) (t1 := true) a0 a1 h16) (by kernel_rfl) (hands_none _) (.cons (pass_d _) (.cons (pass_d _) .nil)) (st' := ⟨60, [(7, .d (.sl true v3.1.length (vec api_Span.e api_Span.z v3.1))), (51, .d (.v (.bool true))), (54, .d (.v (.bool v10)))], []⟩) (by kernel_rfl) ?_
              refine go hT 1 [51, 54, 55] (k' := stackAt (Try.f11.body.getD .skip) [1, 1, 1, 1, 1, 0, 19] []) (st' := ⟨60, [(51, .d (.v (.bool true))), (54, .d (.v (.bool v10))), (55, .d (.sl true v3.1.length (vec api_Span.e api_Span.z v3.1)))], []⟩) (by kernel_rfl) ?_
              obtain ⟨v11, h17, H⟩ := bindC (K := fun o => o) rfl H
              refine ak_callP (avs := [.d (.sl true v3.1.length (vec api_Span.e api_Span.z v3.1))]) (dst := some 56) (k' := stackAt (Try.f11.body.getD .skip) [1, 1, 1, 1, 1, 0, 20] []) [51, 54, 56] [] hP enters_29 (span_Count.says (t0 := true) v3.1 h17) (by kernel_rfl) (hands_none _) (.cons (pass_d _) .nil) (st' := ⟨60, [(51, .d (.v (.bool true))), (54, .d (.v (.bool v10))), (56, .d (.v (.int .i64 v11)))], []⟩) (by kernel_rfl) ?_
              refine go hT 5 [4] (k' := stackAt (Try.f11.body.getD .skip) [1, 1, 1, 1, 1, 1] []) (st' := ⟨60, [(4, .d (.v (.bool (v10 == (decide (v11 > 0))))))], []⟩) (by kernel_rfl) ?_
              refine ak_cut [4] [] (st' := ⟨60, [(4, .d (.v (.bool (v10 == (decide (v11 > 0))))))], []⟩) (by kernel_rfl) (by kernel_rfl) rfl (by decide) (by rw [h0]; rfl) ?_
              exact Jj3 (v10 == (decide (v11 > 0))) H
            · replace H := iteF (K := fun o => o) c15 H
              rw [eqF c15]
              refine go hT 10 [4] (k' := stackAt (Try.f11.body.getD .skip) [1, 1, 1, 1, 1, 1] []) (st' := ⟨60, [(4, .d (.v (.bool false)))], []⟩) (by kernel_rfl) ?_
              refine ak_cut [4] [] (st' := ⟨60, [(4, .d (.v (.bool false)))], []⟩) (by kernel_rfl) (by kernel_rfl) rfl (by decide) (by rw [h0]; rfl) ?_
              exact Jj3 false H
          · replace H := iteF (K := fun o => o) c10 H
            rw [boF c10]
            refine go hT 23 [4] (k' := stackAt (Try.f11.body.getD .skip) [1, 1, 1, 1, 1, 1] []) (st' := ⟨60, [(4, .d (.v (.bool false)))], []⟩) (by kernel_rfl) ?_
            refine ak_cut [4] [] (st' := ⟨60, [(4, .d (.v (.bool false)))], []⟩) (by kernel_rfl) (by kernel_rfl) rfl (by decide) (by rw [h0]; rfl) ?_
            exact Jj3 false H
      refine ak_callP (avs := [.d (.sl true a0.length (vec api_Span.e api_Span.z a0)), .d (.sl true a1.length (vec api_Span.e api_Span.z a1))]) (dst := some 27) (k' := stackAt (Try.f11.body.getD .skip) [1, 1, 1, 0, 3] []) [0, 1, 5, 6, 27] [] hP enters_19 (span_Meet.says (t0 := true) (t1 := true) a0 a1 h5) (by kernel_rfl) (hands_none _) (.cons (pass_d _) (.cons (pass_d _) .nil)) (st' := ⟨60, [(0, .d (.sl true a0.length (vec api_Span.e api_Span.z a0))), (1, .d (.sl true a1.length (vec api_Span.e api_Span.z a1))), (5, .d (.sl true v2.1.length (vec api_Span.e api_Span.z v2.1))), (6, .d (.v (.int .i64 v2.2))), (27, .tup [.d (.sl true v3.1.length (vec api_Span.e api_Span.z v3.1)), .d (.v (.int .i64 v3.2))])], []⟩) (by kernel_rfl) ?_
      refine go hT 12 [0, 1, 5, 7, 8, 32] (k' := stackAt (Try.f11.body.getD .skip) [1, 1, 1, 1, 0, 0, 3] []) (st' := ⟨60, [(0, .d (.sl true a0.length (vec api_Span.e api_Span.z a0))), (1, .d (.sl true a1.length (vec api_Span.e api_Span.z a1))), (5, .d (.sl true v2.1.length (vec api_Span.e api_Span.z v2.1))), (7, .d (.sl true v3.1.length (vec api_Span.e api_Span.z v3.1))), (8, .d (.v (.int .i64 v3.2))), (32, .d (.v (.bool (v2.2 != 0))))], []⟩) (by kernel_rfl) ?_
      by_cases c6 : v2.2 = 0
      · replace H := iteT (K := fun o => o) c6 H
        rw [neF c6]
        refine go hT 4 [0, 1, 5, 7, 35] (k' := stackAt (Try.f11.body.getD .skip) [1, 1, 1, 1, 0, 1] []) (st' := ⟨60, [(0, .d (.sl true a0.length (vec api_Span.e api_Span.z a0))), (1, .d (.sl true a1.length (vec api_Span.e api_Span.z a1))), (5, .d (.sl true v2.1.length (vec api_Span.e api_Span.z v2.1))), (7, .d (.sl true v3.1.length (vec api_Span.e api_Span.z v3.1))), (35, .d (.v (.bool (v3.2 != 0))))], []⟩) (by kernel_rfl) ?_
        refine ak_cut [0, 1, 5, 7, 35] [] (st' := ⟨60, [(0, .d (.sl true a0.length (vec api_Span.e api_Span.z a0))), (1, .d (.sl true a1.length (vec api_Span.e api_Span.z a1))), (5, .d (.sl true v2.1.length (vec api_Span.e api_Span.z v2.1))), (7, .d (.sl true v3.1.length (vec api_Span.e api_Span.z v3.1))), (35, .d (.v (.bool (v3.2 != 0))))], []⟩) (by kernel_rfl) (by kernel_rfl) rfl (by decide) (by rw [h0]; rfl) ?_
        exact Jj2 (v3.2 != 0) H
      · replace H := iteF (K := fun o => o) c6 H
        rw [neT c6]
        refine go hT 4 [0, 1, 5, 7, 35] (k' := stackAt (Try.f11.body.getD .skip) [1, 1, 1, 1, 0, 1] []) (st' := ⟨60, [(0, .d (.sl true a0.length (vec api_Span.e api_Span.z a0))), (1, .d (.sl true a1.length (vec api_Span.e api_Span.z a1))), (5, .d (.sl true v2.1.length (vec api_Span.e api_Span.z v2.1))), (7, .d (.sl true v3.1.length (vec api_Span.e api_Span.z v3.1))), (35, .d (.v (.bool true)))], []⟩) (by kernel_rfl) ?_
        refine ak_cut [0, 1, 5, 7, 35] [] (st' := ⟨60, [(0, .d (.sl true a0.length (vec api_Span.e api_Span.z a0))), (1, .d (.sl true a1.length (vec api_Span.e api_Span.z a1))), (5, .d (.sl true v2.1.length (vec api_Span.e api_Span.z v2.1))), (7, .d (.sl true v3.1.length (vec api_Span.e api_Span.z v3.1))), (35, .d (.v (.bool true)))], []⟩) (by kernel_rfl) (by kernel_rfl) rfl (by decide) (by rw [h0]; rfl) ?_
        exact Jj2 true H
  refine go hT 8 [0, 1, 9] (k' := stackAt (Try.f11.body.getD .skip) [1, 0, 0, 1] []) (st' := ⟨60, [(0, .d (.sl true a0.length (vec api_Span.e api_Span.z a0))), (1, .d (.sl true a1.length (vec api_Span.e api_Span.z a1))), (9, .d (.sl true a0.length (vec api_Span.e api_Span.z a0)))], []⟩) (by kernel_rfl) ?_
  refine ak_callP (avs := [.d (.sl true a0.length (vec api_Span.e api_Span.z a0))]) (dst := some 10) (k' := stackAt (Try.f11.body.getD .skip) [1, 0, 0, 2] []) [0, 1, 10] [] hP enters_13 (splicelaw03_few.says (t0 := true) a0) (by kernel_rfl) (hands_none _) (.cons (pass_d _) .nil) (st' := ⟨60, [(0, .d (.sl true a0.length (vec api_Span.e api_Span.z a0))), (1, .d (.sl true a1.length (vec api_Span.e api_Span.z a1))), (10, .d (.v (.bool (splicelaw03_few a0))))], []⟩) (by kernel_rfl) ?_
  refine go hT 2 [0, 1, 12] (k' := stackAt (Try.f11.body.getD .skip) [1, 0, 0, 4] []) (st' := ⟨60, [(0, .d (.sl true a0.length (vec api_Span.e api_Span.z a0))), (1, .d (.sl true a1.length (vec api_Span.e api_Span.z a1))), (12, .d (.v (.bool (!(splicelaw03_few a0)))))], []⟩) (by kernel_rfl) ?_
  by_cases c1 : (splicelaw03_few a0) = true
  · replace H := iteT (K := fun o => o) c1 H
    rw [c1]
    refine go hT 1 [0, 1, 12, 13] (k' := stackAt (Try.f11.body.getD .skip) [1, 0, 0, 5] []) (st' := ⟨60, [(0, .d (.sl true a0.length (vec api_Span.e api_Span.z a0))), (1, .d (.sl true a1.length (vec api_Span.e api_Span.z a1))), (12, .d (.v (.bool false))), (13, .d (.sl true a1.length (vec api_Span.e api_Span.z a1)))], []⟩) (by kernel_rfl) ?_
    refine ak_callP (avs := [.d (.sl true a1.length (vec api_Span.e api_Span.z a1))]) (dst := some 14) (k' := stackAt (Try.f11.body.getD .skip) [1, 0, 0, 6] []) [0, 1, 12, 14] [] hP enters_13 (splicelaw03_few.says (t0 := true) a1) (by kernel_rfl) (hands_none _) (.cons (pass_d _) .nil) (st' := ⟨60, [(0, .d (.sl true a0.length (vec api_Span.e api_Span.z a0))), (1, .d (.sl true a1.length (vec api_Span.e api_Span.z a1))), (12, .d (.v (.bool false))), (14, .d (.v (.bool (splicelaw03_few a1))))], []⟩) (by kernel_rfl) ?_
    refine go hT 3 [0, 1, 16] (k' := stackAt (Try.f11.body.getD .skip) [1, 0, 1] []) (st' := ⟨60, [(0, .d (.sl true a0.length (vec api_Span.e api_Span.z a0))), (1, .d (.sl true a1.length (vec api_Span.e api_Span.z a1))), (16, .d (.v (.bool (!(splicelaw03_few a1)))))], []⟩) (by kernel_rfl) ?_
    refine ak_cut [0, 1, 16] [] (st' := ⟨60, [(0, .d (.sl true a0.length (vec api_Span.e api_Span.z a0))), (1, .d (.sl true a1.length (vec api_Span.e api_Span.z a1))), (16, .d (.v (.bool (!(splicelaw03_few a1)))))], []⟩) (by kernel_rfl) (by kernel_rfl) rfl (by decide) (by rw [h0]; rfl) ?_
    exact Jj1 (!(splicelaw03_few a1)) H
  · replace H := iteF (K := fun o => o) c1 H
    rw [boF c1]
    refine go hT 5 [0, 1, 16] (k' := stackAt (Try.f11.body.getD .skip) [1, 0, 1] []) (st' := ⟨60, [(0, .d (.sl true a0.length (vec api_Span.e api_Span.z a0))), (1, .d (.sl true a1.length (vec api_Span.e api_Span.z a1))), (16, .d (.v (.bool true)))], []⟩) (by kernel_rfl) ?_
    refine ak_cut [0, 1, 16] [] (st' := ⟨60, [(0, .d (.sl true a0.length (vec api_Span.e api_Span.z a0))), (1, .d (.sl true a1.length (vec api_Span.e api_Span.z a1))), (16, .d (.v (.bool true)))], []⟩) (by kernel_rfl) (by kernel_rfl) rfl (by decide) (by rw [h0]; rfl) ?_
    exact Jj1 true H
end Go.SyP
