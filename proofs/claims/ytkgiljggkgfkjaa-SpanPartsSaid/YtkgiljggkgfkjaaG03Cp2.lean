/- Certificates, printed by gen.py. -/
import Derived.Test.YtkgiljggkgfkjaaG03Cp1
set_option linter.unusedVariables false
set_option linter.unusedSimpArgs false
namespace Go.SyP
open Go Go.Sy Go.Proofs

theorem splicelaw03_awake.says {r : Bool} (H : splicelaw03_awake = some r) : Says Try.prog 14 [] [] [] (.d (.v (.bool r))) := by
  refine says_of Try.func14 rfl (nt := 50) rfl (Nat.le_of_ble_eq_true rfl) fun X hP h0 hX => ?_
  have hT : TabOk X.P T := hP ▸ tok
  have hf : X.P.funcs[14]? = some Try.f14 := hP ▸ Try.func14
  refine go hT 10 [9] (k' := stackAt (Try.f14.body.getD .skip) [1, 0, 4] []) (st' := ⟨50, [(9, .own 0 2 0 3)], [.flat false 2 39 3 (fun j => [[.v (.int .i64 5), .v (.int .i64 7)], [.v (.int .i64 1), .v (.int .i64 3)], [.v (.int .i64 3), .v (.int .i64 4)]].getD j [])]⟩) (by kernel_rfl) ?_
  refine ak_row 0 (kk := 2) (fz := false) (ty := 39) (n := ([(⟨5, 7⟩ : api_Span), (⟨1, 3⟩ : api_Span), (⟨3, 4⟩ : api_Span)] : List api_Span).length) (vec api_Span.e api_Span.z ([(⟨5, 7⟩ : api_Span), (⟨1, 3⟩ : api_Span), (⟨3, 4⟩ : api_Span)] : List api_Span)) (by kernel_rfl) vec_lit (st' := ⟨50, [(9, .own 0 2 0 (([(⟨5, 7⟩ : api_Span), (⟨1, 3⟩ : api_Span), (⟨3, 4⟩ : api_Span)] : List api_Span).length))], [.flat false 2 39 ([(⟨5, 7⟩ : api_Span), (⟨1, 3⟩ : api_Span), (⟨3, 4⟩ : api_Span)] : List api_Span).length (vec api_Span.e api_Span.z ([(⟨5, 7⟩ : api_Span), (⟨1, 3⟩ : api_Span), (⟨3, 4⟩ : api_Span)] : List api_Span))]⟩) (by kernel_rfl) ?_
  refine ak_freeze 0 (kk := 2) (n := ([(⟨5, 7⟩ : api_Span), (⟨1, 3⟩ : api_Span), (⟨3, 4⟩ : api_Span)] : List api_Span).length) (ty := 39) (g := vec api_Span.e api_Span.z ([(⟨5, 7⟩ : api_Span), (⟨1, 3⟩ : api_Span), (⟨3, 4⟩ : api_Span)] : List api_Span)) (by kernel_rfl) (st' := ⟨50, [(9, .own 0 2 0 (([(⟨5, 7⟩ : api_Span), (⟨1, 3⟩ : api_Span), (⟨3, 4⟩ : api_Span)] : List api_Span).length))], [.flat true 2 39 ([(⟨5, 7⟩ : api_Span), (⟨1, 3⟩ : api_Span), (⟨3, 4⟩ : api_Span)] : List api_Span).length (vec api_Span.e api_Span.z ([(⟨5, 7⟩ : api_Span), (⟨1, 3⟩ : api_Span), (⟨3, 4⟩ : api_Span)] : List api_Span))]⟩) (by kernel_rfl) ?_
  obtain ⟨v1, h1, H⟩ := bindC (K := fun o => o) rfl H
  refine ak_callP (avs := [.own 0 2 0 (([(⟨5, 7⟩ : api_Span), (⟨1, 3⟩ : api_Span), (⟨3, 4⟩ : api_Span)] : List api_Span).length)]) (dst := some 10) (k' := stackAt (Try.f14.body.getD .skip) [1, 0, 5] []) [10] [] hP enters_15 (span_Make.says ([(⟨5, 7⟩ : api_Span), (⟨1, 3⟩ : api_Span), (⟨3, 4⟩ : api_Span)] : List api_Span) h1) (by kernel_rfl) (hands_none _) (.cons (.lend (ty := 39) (by kernel_rfl) rfl) .nil) (st' := ⟨50, [(10, .tup [.d (.sl true v1.1.length (vec api_Span.e api_Span.z v1.1)), .d (.v (.int .i64 v1.2))])], [.flat true 2 39 ([(⟨5, 7⟩ : api_Span), (⟨1, 3⟩ : api_Span), (⟨3, 4⟩ : api_Span)] : List api_Span).length (vec api_Span.e api_Span.z ([(⟨5, 7⟩ : api_Span), (⟨1, 3⟩ : api_Span), (⟨3, 4⟩ : api_Span)] : List api_Span))]⟩) (by kernel_rfl) ?_
  refine go hT 11 [1, 2, 14, 16] (k' := stackAt (Try.f14.body.getD .skip) [1, 1, 0, 3] []) (st' := ⟨50, [(1, .d (.sl true v1.1.length (vec api_Span.e api_Span.z v1.1))), (2, .d (.v (.int .i64 v1.2))), (14, .d (.sl true v1.1.length (vec api_Span.e api_Span.z v1.1))), (16, .own 1 2 0 1)], [.flat true 2 39 ([(⟨5, 7⟩ : api_Span), (⟨1, 3⟩ : api_Span), (⟨3, 4⟩ : api_Span)] : List api_Span).length (vec api_Span.e api_Span.z ([(⟨5, 7⟩ : api_Span), (⟨1, 3⟩ : api_Span), (⟨3, 4⟩ : api_Span)] : List api_Span)), .flat false 2 39 1 (fun j => [[.v (.int .i64 3), .v (.int .i64 6)]].getD j [])]⟩) (by kernel_rfl) ?_
  refine ak_row 1 (kk := 2) (fz := false) (ty := 39) (n := ([(⟨3, 6⟩ : api_Span)] : List api_Span).length) (vec api_Span.e api_Span.z ([(⟨3, 6⟩ : api_Span)] : List api_Span)) (by kernel_rfl) vec_lit (st' := ⟨50, [(1, .d (.sl true v1.1.length (vec api_Span.e api_Span.z v1.1))), (2, .d (.v (.int .i64 v1.2))), (14, .d (.sl true v1.1.length (vec api_Span.e api_Span.z v1.1))), (16, .own 1 2 0 (([(⟨3, 6⟩ : api_Span)] : List api_Span).length))], [.flat true 2 39 ([(⟨5, 7⟩ : api_Span), (⟨1, 3⟩ : api_Span), (⟨3, 4⟩ : api_Span)] : List api_Span).length (vec api_Span.e api_Span.z ([(⟨5, 7⟩ : api_Span), (⟨1, 3⟩ : api_Span), (⟨3, 4⟩ : api_Span)] : List api_Span)), .flat false 2 39 ([(⟨3, 6⟩ : api_Span)] : List api_Span).length (vec api_Span.e api_Span.z ([(⟨3, 6⟩ : api_Span)] : List api_Span))]⟩) (by kernel_rfl) ?_
  obtain ⟨v2, h2, H⟩ := bindC (K := fun o => o) rfl H
  have Jj1 : ∀ (y1_0 : Bool), (splicelaw03_awake.j1 y1_0) = some r → AK X 14 (stackAt (Try.f14.body.getD .skip) [1, 1, 1, 1] []) (Back X [] (.d (.v (.bool r)))) ⟨50, [(0, .d (.v (.bool y1_0)))], []⟩ := by
    intro y1_0 H
    obtain rfl := retC H
    exact ak_ret hf hX (av := .d (.v (.bool y1_0))) (by kernel_rfl) [] (sel_of_eq (by kernel_rfl)) (by decide) (by rw [h0]; rfl) (by kernel_rfl) (fun _ h => all_nil h) (.d (.v _))
  refine ak_callP (avs := [.d (.sl true v1.1.length (vec api_Span.e api_Span.z v1.1)), .own 1 2 0 (([(⟨3, 6⟩ : api_Span)] : List api_Span).length)]) (dst := some 17) (k' := stackAt (Try.f14.body.getD .skip) [1, 1, 0, 4] []) [1, 2, 17] [] hP enters_19 (span_Meet.says (t0 := true) (t1 := false) v1.1 ([(⟨3, 6⟩ : api_Span)] : List api_Span) h2) (by kernel_rfl) (hands_none _) (.cons (pass_d _) (.cons (.lend (ty := 39) (by kernel_rfl) rfl) .nil)) (st' := ⟨50, [(1, .d (.sl true v1.1.length (vec api_Span.e api_Span.z v1.1))), (2, .d (.v (.int .i64 v1.2))), (17, .tup [.d (.sl true v2.1.length (vec api_Span.e api_Span.z v2.1)), .d (.v (.int .i64 v2.2))])], [.flat true 2 39 ([(⟨5, 7⟩ : api_Span), (⟨1, 3⟩ : api_Span), (⟨3, 4⟩ : api_Span)] : List api_Span).length (vec api_Span.e api_Span.z ([(⟨5, 7⟩ : api_Span), (⟨1, 3⟩ : api_Span), (⟨3, 4⟩ : api_Span)] : List api_Span)), .flat false 2 39 ([(⟨3, 6⟩ : api_Span)] : List api_Span).length (vec api_Span.e api_Span.z ([(⟨3, 6⟩ : api_Span)] : List api_Span))]⟩) (by kernel_rfl) ?_
  refine go hT 11 [1, 3, 4, 22] (k' := stackAt (Try.f14.body.getD .skip) [1, 1, 1, 0, 3] []) (st' := ⟨50, [(1, .d (.sl true v1.1.length (vec api_Span.e api_Span.z v1.1))), (3, .d (.sl true v2.1.length (vec api_Span.e api_Span.z v2.1))), (4, .d (.v (.int .i64 v2.2))), (22, .d (.v (.bool (v1.2 == 0))))], [.flat true 2 39 ([(⟨5, 7⟩ : api_Span), (⟨1, 3⟩ : api_Span), (⟨3, 4⟩ : api_Span)] : List api_Span).length (vec api_Span.e api_Span.z ([(⟨5, 7⟩ : api_Span), (⟨1, 3⟩ : api_Span), (⟨3, 4⟩ : api_Span)] : List api_Span)), .flat false 2 39 ([(⟨3, 6⟩ : api_Span)] : List api_Span).length (vec api_Span.e api_Span.z ([(⟨3, 6⟩ : api_Span)] : List api_Span))]⟩) (by kernel_rfl) ?_
  by_cases c3 : v1.2 = 0
  · replace H := iteT (K := fun o => o) c3 H
    rw [eqT c3]
    refine go hT 5 [1, 3, 4, 27] (k' := stackAt (Try.f14.body.getD .skip) [1, 1, 1, 0, 8] []) (st' := ⟨50, [(1, .d (.sl true v1.1.length (vec api_Span.e api_Span.z v1.1))), (3, .d (.sl true v2.1.length (vec api_Span.e api_Span.z v2.1))), (4, .d (.v (.int .i64 v2.2))), (27, .d (.v (.bool ((v1.1.length : Int) == 2))))], [.flat true 2 39 ([(⟨5, 7⟩ : api_Span), (⟨1, 3⟩ : api_Span), (⟨3, 4⟩ : api_Span)] : List api_Span).length (vec api_Span.e api_Span.z ([(⟨5, 7⟩ : api_Span), (⟨1, 3⟩ : api_Span), (⟨3, 4⟩ : api_Span)] : List api_Span)), .flat false 2 39 ([(⟨3, 6⟩ : api_Span)] : List api_Span).length (vec api_Span.e api_Span.z ([(⟨3, 6⟩ : api_Span)] : List api_Span))]⟩) (by kernel_rfl) ?_
    by_cases c4 : (v1.1.length : Int) = 2
    · replace H := iteT (K := fun o => o) c4 H
      rw [eqT c4]
      refine go hT 1 [3, 4, 27, 28] (k' := stackAt (Try.f14.body.getD .skip) [1, 1, 1, 0, 9] []) (st' := ⟨50, [(3, .d (.sl true v2.1.length (vec api_Span.e api_Span.z v2.1))), (4, .d (.v (.int .i64 v2.2))), (27, .d (.v (.bool true))), (28, .d (.sl true v1.1.length (vec api_Span.e api_Span.z v1.1)))], [.flat true 2 39 ([(⟨5, 7⟩ : api_Span), (⟨1, 3⟩ : api_Span), (⟨3, 4⟩ : api_Span)] : List api_Span).length (vec api_Span.e api_Span.z ([(⟨5, 7⟩ : api_Span), (⟨1, 3⟩ : api_Span), (⟨3, 4⟩ : api_Span)] : List api_Span)), .flat false 2 39 ([(⟨3, 6⟩ : api_Span)] : List api_Span).length (vec api_Span.e api_Span.z ([(⟨3, 6⟩ : api_Span)] : List api_Span))]⟩) (by kernel_rfl) ?_
      obtain ⟨h5, H⟩ := iteC (K := fun o => o) rfl H
      refine ak_idx hT [3, 4, 27, 29] (i := 0) (n := (v1.1.length : Int)) h5.1 h5.2 (k' := stackAt (Try.f14.body.getD .skip) [1, 1, 1, 0, 10] []) (st' := ⟨50, [(3, .d (.sl true v2.1.length (vec api_Span.e api_Span.z v2.1))), (4, .d (.v (.int .i64 v2.2))), (27, .d (.v (.bool true))), (29, .d (.rop true v1.1.length (vec api_Span.e api_Span.z v1.1) 0 0))], [.flat true 2 39 ([(⟨5, 7⟩ : api_Span), (⟨1, 3⟩ : api_Span), (⟨3, 4⟩ : api_Span)] : List api_Span).length (vec api_Span.e api_Span.z ([(⟨5, 7⟩ : api_Span), (⟨1, 3⟩ : api_Span), (⟨3, 4⟩ : api_Span)] : List api_Span)), .flat false 2 39 ([(⟨3, 6⟩ : api_Span)] : List api_Span).length (vec api_Span.e api_Span.z ([(⟨3, 6⟩ : api_Span)] : List api_Span))]⟩) (by kernel_rfl) ?_
      refine go hT 5 [3, 4, 34] (k' := stackAt (Try.f14.body.getD .skip) [1, 1, 1, 0, 15] []) (st' := ⟨50, [(3, .d (.sl true v2.1.length (vec api_Span.e api_Span.z v2.1))), (4, .d (.v (.int .i64 v2.2))), (34, .d (.v (.bool ((((v1.1.getD 0 api_Span.z).Lo) == 1) && (((v1.1.getD 0 api_Span.z).Hi) == 4)))))], [.flat true 2 39 ([(⟨5, 7⟩ : api_Span), (⟨1, 3⟩ : api_Span), (⟨3, 4⟩ : api_Span)] : List api_Span).length (vec api_Span.e api_Span.z ([(⟨5, 7⟩ : api_Span), (⟨1, 3⟩ : api_Span), (⟨3, 4⟩ : api_Span)] : List api_Span)), .flat false 2 39 ([(⟨3, 6⟩ : api_Span)] : List api_Span).length (vec api_Span.e api_Span.z ([(⟨3, 6⟩ : api_Span)] : List api_Span))]⟩) (by kernel_rfl) ?_
      by_cases c6 : ((v1.1.getD 0 api_Span.z).Lo) = 1
      · replace H := iteT (K := fun o => o) c6 H
        rw [eqT c6]
        by_cases c7 : ((v1.1.getD 0 api_Span.z).Hi) = 4
        · replace H := iteT (K := fun o => o) c7 H
          rw [eqT c7]
          refine go hT 4 [3, 38] (k' := stackAt (Try.f14.body.getD .skip) [1, 1, 1, 0, 19] []) (st' := ⟨50, [(3, .d (.sl true v2.1.length (vec api_Span.e api_Span.z v2.1))), (38, .d (.v (.bool (v2.2 == 0))))], [.flat true 2 39 ([(⟨5, 7⟩ : api_Span), (⟨1, 3⟩ : api_Span), (⟨3, 4⟩ : api_Span)] : List api_Span).length (vec api_Span.e api_Span.z ([(⟨5, 7⟩ : api_Span), (⟨1, 3⟩ : api_Span), (⟨3, 4⟩ : api_Span)] : List api_Span)), .flat false 2 39 ([(⟨3, 6⟩ : api_Span)] : List api_Span).length (vec api_Span.e api_Span.z ([(⟨3, 6⟩ : api_Span)] : List api_Span))]⟩) (by kernel_rfl) ?_
          by_cases c8 : v2.2 = 0
          · replace H := iteT (K := fun o => o) c8 H
            rw [eqT c8]
            refine go hT 5 [3, 43] (k' := stackAt (Try.f14.body.getD .skip) [1, 1, 1, 0, 24] []) (st' := ⟨50, [(3, .d (.sl true v2.1.length (vec api_Span.e api_Span.z v2.1))), (43, .d (.v (.bool ((v2.1.length : Int) == 2))))], [.flat true 2 39 ([(⟨5, 7⟩ : api_Span), (⟨1, 3⟩ : api_Span), (⟨3, 4⟩ : api_Span)] : List api_Span).length (vec api_Span.e api_Span.z ([(⟨5, 7⟩ : api_Span), (⟨1, 3⟩ : api_Span), (⟨3, 4⟩ : api_Span)] : List api_Span)), .flat false 2 39 ([(⟨3, 6⟩ : api_Span)] : List api_Span).length (vec api_Span.e api_Span.z ([(⟨3, 6⟩ : api_Span)] : List api_Span))]⟩) (by kernel_rfl) ?_
            by_cases c9 : (v2.1.length : Int) = 2
            · replace H := iteT (K := fun o => o) c9 H
              rw [eqT c9]
              refine go hT 1 [43, 44] (k' := stackAt (Try.f14.body.getD .skip) [1, 1, 1, 0, 25] []) (st' := ⟨50, [(43, .d (.v (.bool true))), (44, .d (.sl true v2.1.length (vec api_Span.e api_Span.z v2.1)))], [.flat true 2 39 ([(⟨5, 7⟩ : api_Span), (⟨1, 3⟩ : api_Span), (⟨3, 4⟩ : api_Span)] : List api_Span).length (vec api_Span.e api_Span.z ([(⟨5, 7⟩ : api_Span), (⟨1, 3⟩ : api_Span), (⟨3, 4⟩ : api_Span)] : List api_Span)), .flat false 2 39 ([(⟨3, 6⟩ : api_Span)] : List api_Span).length (vec api_Span.e api_Span.z ([(⟨3, 6⟩ : api_Span)] : List api_Span))]⟩) (by kernel_rfl) ?_
              obtain ⟨h10, H⟩ := iteC (K := fun o => o) rfl H
              refine ak_idx hT [43, 45] (i := 1) (n := (v2.1.length : Int)) h10.1 h10.2 (k' := stackAt (Try.f14.body.getD .skip) [1, 1, 1, 0, 26] []) (st' := ⟨50, [(43, .d (.v (.bool true))), (45, .d (.rop true v2.1.length (vec api_Span.e api_Span.z v2.1) 1 0))], [.flat true 2 39 ([(⟨5, 7⟩ : api_Span), (⟨1, 3⟩ : api_Span), (⟨3, 4⟩ : api_Span)] : List api_Span).length (vec api_Span.e api_Span.z ([(⟨5, 7⟩ : api_Span), (⟨1, 3⟩ : api_Span), (⟨3, 4⟩ : api_Span)] : List api_Span)), .flat false 2 39 ([(⟨3, 6⟩ : api_Span)] : List api_Span).length (vec api_Span.e api_Span.z ([(⟨3, 6⟩ : api_Span)] : List api_Span))]⟩) (by kernel_rfl) ?_
              refine go hT 6 [0] (k' := stackAt (Try.f14.body.getD .skip) [1, 1, 1, 1] []) (st' := ⟨50, [(0, .d (.v (.bool ((((v2.1.getD 1 api_Span.z).Lo) == 5) && (((v2.1.getD 1 api_Span.z).Hi) == 6)))))], [.flat true 2 39 ([(⟨5, 7⟩ : api_Span), (⟨1, 3⟩ : api_Span), (⟨3, 4⟩ : api_Span)] : List api_Span).length (vec api_Span.e api_Span.z ([(⟨5, 7⟩ : api_Span), (⟨1, 3⟩ : api_Span), (⟨3, 4⟩ : api_Span)] : List api_Span)), .flat false 2 39 ([(⟨3, 6⟩ : api_Span)] : List api_Span).length (vec api_Span.e api_Span.z ([(⟨3, 6⟩ : api_Span)] : List api_Span))]⟩) (by kernel_rfl) ?_
              refine ak_cut [0] [] (st' := ⟨50, [(0, .d (.v (.bool ((((v2.1.getD 1 api_Span.z).Lo) == 5) && (((v2.1.getD 1 api_Span.z).Hi) == 6)))))], []⟩) (by kernel_rfl) (by kernel_rfl) rfl (by decide) (by rw [h0]; rfl) ?_
              exact Jj1 ((((v2.1.getD 1 api_Span.z).Lo) == 5) && (((v2.1.getD 1 api_Span.z).Hi) == 6)) H
            · replace H := iteF (K := fun o => o) c9 H
              rw [eqF c9]
              refine go hT 8 [0] (k' := stackAt (Try.f14.body.getD .skip) [1, 1, 1, 1] []) (st' := ⟨50, [(0, .d (.v (.bool false)))], [.flat true 2 39 ([(⟨5, 7⟩ : api_Span), (⟨1, 3⟩ : api_Span), (⟨3, 4⟩ : api_Span)] : List api_Span).length (vec api_Span.e api_Span.z ([(⟨5, 7⟩ : api_Span), (⟨1, 3⟩ : api_Span), (⟨3, 4⟩ : api_Span)] : List api_Span)), .flat false 2 39 ([(⟨3, 6⟩ : api_Span)] : List api_Span).length (vec api_Span.e api_Span.z ([(⟨3, 6⟩ : api_Span)] : List api_Span))]⟩) (by kernel_rfl) ?_
              refine ak_cut [0] [] (st' := ⟨50, [(0, .d (.v (.bool false)))], []⟩) (by kernel_rfl) (by kernel_rfl) rfl (by decide) (by rw [h0]; rfl) ?_
              exact Jj1 false H
          · replace H := iteF (K := fun o => o) c8 H
            rw [eqF c8]
            refine go hT 13 [0] (k' := stackAt (Try.f14.body.getD .skip) [1, 1, 1, 1] []) (st' := ⟨50, [(0, .d (.v (.bool false)))], [.flat true 2 39 ([(⟨5, 7⟩ : api_Span), (⟨1, 3⟩ : api_Span), (⟨3, 4⟩ : api_Span)] : List api_Span).length (vec api_Span.e api_Span.z ([(⟨5, 7⟩ : api_Span), (⟨1, 3⟩ : api_Span), (⟨3, 4⟩ : api_Span)] : List api_Span)), .flat false 2 39 ([(⟨3, 6⟩ : api_Span)] : List api_Span).length (vec api_Span.e api_Span.z ([(⟨3, 6⟩ : api_Span)] : List api_Span))]⟩) (by kernel_rfl) ?_
            refine ak_cut [0] [] (st' := ⟨50, [(0, .d (.v (.bool false)))], []⟩) (by kernel_rfl) (by kernel_rfl) rfl (by decide) (by rw [h0]; rfl) ?_
            exact Jj1 false H
        · replace H := iteF (K := fun o => o) c7 H
          rw [eqF c7]
          refine go hT 17 [0] (k' := stackAt (Try.f14.body.getD .skip) [1, 1, 1, 1] []) (st' := ⟨50, [(0, .d (.v (.bool false)))], [.flat true 2 39 ([(⟨5, 7⟩ : api_Span), (⟨1, 3⟩ : api_Span), (⟨3, 4⟩ : api_Span)] : List api_Span).length (vec api_Span.e api_Span.z ([(⟨5, 7⟩ : api_Span), (⟨1, 3⟩ : api_Span), (⟨3, 4⟩ : api_Span)] : List api_Span)), .flat false 2 39 ([(⟨3, 6⟩ : api_Span)] : List api_Span).length (vec api_Span.e api_Span.z ([(⟨3, 6⟩ : api_Span)] : List api_Span))]⟩) (by kernel_rfl) ?_
          refine ak_cut [0] [] (st' := ⟨50, [(0, .d (.v (.bool false)))], []⟩) (by kernel_rfl) (by kernel_rfl) rfl (by decide) (by rw [h0]; rfl) ?_
          exact Jj1 false H
      · replace H := iteF (K := fun o => o) c6 H
        rw [eqF c6]
        by_cases c11 : ((v1.1.getD 0 api_Span.z).Hi) = 4
        · replace H := iteT (K := fun o => o) c11 H
          rw [eqT c11]
          refine go hT 17 [0] (k' := stackAt (Try.f14.body.getD .skip) [1, 1, 1, 1] []) (st' := ⟨50, [(0, .d (.v (.bool false)))], [.flat true 2 39 ([(⟨5, 7⟩ : api_Span), (⟨1, 3⟩ : api_Span), (⟨3, 4⟩ : api_Span)] : List api_Span).length (vec api_Span.e api_Span.z ([(⟨5, 7⟩ : api_Span), (⟨1, 3⟩ : api_Span), (⟨3, 4⟩ : api_Span)] : List api_Span)), .flat false 2 39 ([(⟨3, 6⟩ : api_Span)] : List api_Span).length (vec api_Span.e api_Span.z ([(⟨3, 6⟩ : api_Span)] : List api_Span))]⟩) (by kernel_rfl) ?_
          refine ak_cut [0] [] (st' := ⟨50, [(0, .d (.v (.bool false)))], []⟩) (by kernel_rfl) (by kernel_rfl) rfl (by decide) (by rw [h0]; rfl) ?_
          exact Jj1 false H
        · replace H := iteF (K := fun o => o) c11 H
          rw [eqF c11]
          refine go hT 17 [0] (k' := stackAt (Try.f14.body.getD .skip) [1, 1, 1, 1] []) (st' := ⟨50, [(0, .d (.v (.bool false)))], [.flat true 2 39 ([(⟨5, 7⟩ : api_Span), (⟨1, 3⟩ : api_Span), (⟨3, 4⟩ : api_Span)] : List api_Span).length (vec api_Span.e api_Span.z ([(⟨5, 7⟩ : api_Span), (⟨1, 3⟩ : api_Span), (⟨3, 4⟩ : api_Span)] : List api_Span)), .flat false 2 39 ([(⟨3, 6⟩ : api_Span)] : List api_Span).length (vec api_Span.e api_Span.z ([(⟨3, 6⟩ : api_Span)] : List api_Span))]⟩) (by kernel_rfl) ?_
          refine ak_cut [0] [] (st' := ⟨50, [(0, .d (.v (.bool false)))], []⟩) (by kernel_rfl) (by kernel_rfl) rfl (by decide) (by rw [h0]; rfl) ?_
          exact Jj1 false H
    · replace H := iteF (K := fun o => o) c4 H
      rw [eqF c4]
      refine go hT 24 [0] (k' := stackAt (Try.f14.body.getD .skip) [1, 1, 1, 1] []) (st' := ⟨50, [(0, .d (.v (.bool false)))], [.flat true 2 39 ([(⟨5, 7⟩ : api_Span), (⟨1, 3⟩ : api_Span), (⟨3, 4⟩ : api_Span)] : List api_Span).length (vec api_Span.e api_Span.z ([(⟨5, 7⟩ : api_Span), (⟨1, 3⟩ : api_Span), (⟨3, 4⟩ : api_Span)] : List api_Span)), .flat false 2 39 ([(⟨3, 6⟩ : api_Span)] : List api_Span).length (vec api_Span.e api_Span.z ([(⟨3, 6⟩ : api_Span)] : List api_Span))]⟩) (by kernel_rfl) ?_
      refine ak_cut [0] [] (st' := ⟨50, [(0, .d (.v (.bool false)))], []⟩) (by kernel_rfl) (by kernel_rfl) rfl (by decide) (by rw [h0]; rfl) ?_
      exact Jj1 false H
  · replace H := iteF (K := fun o => o) c3 H
    rw [eqF c3]
    refine go hT 29 [0] (k' := stackAt (Try.f14.body.getD .skip) [1, 1, 1, 1] []) (st' := ⟨50, [(0, .d (.v (.bool false)))], [.flat true 2 39 ([(⟨5, 7⟩ : api_Span), (⟨1, 3⟩ : api_Span), (⟨3, 4⟩ : api_Span)] : List api_Span).length (vec api_Span.e api_Span.z ([(⟨5, 7⟩ : api_Span), (⟨1, 3⟩ : api_Span), (⟨3, 4⟩ : api_Span)] : List api_Span)), .flat false 2 39 ([(⟨3, 6⟩ : api_Span)] : List api_Span).length (vec api_Span.e api_Span.z ([(⟨3, 6⟩ : api_Span)] : List api_Span))]⟩) (by kernel_rfl) ?_
    refine ak_cut [0] [] (st' := ⟨50, [(0, .d (.v (.bool false)))], []⟩) (by kernel_rfl) (by kernel_rfl) rfl (by decide) (by rw [h0]; rfl) ?_
    exact Jj1 false H


theorem splicelaw03_SpanParts.says {t0 : Bool} {t1 : Bool} (a0 : List api_Span) (a1 : List api_Span) {r : Bool} (H : splicelaw03_SpanParts a0 a1 = some r) : Says Try.prog 12 [] [.d (.sl t0 a0.length (vec api_Span.e api_Span.z a0)), .d (.sl t1 a1.length (vec api_Span.e api_Span.z a1))] [] (.d (.v (.bool r))) := by
  refine says_of Try.func12 rfl (nt := 81) rfl (Nat.le_of_ble_eq_true rfl) fun X hP h0 hX => ?_
  have hT : TabOk X.P T := hP ▸ tok
  have hf : X.P.funcs[12]? = some Try.f12 := hP ▸ Try.func12
  have Jj1 : ∀ (y1_18 : Bool), (splicelaw03_SpanParts.j1 a0 a1 y1_18) = some r → AK X 12 (stackAt (Try.f12.body.getD .skip) [1, 0, 1] []) (Back X [] (.d (.v (.bool r)))) ⟨81, [(0, .d (.sl t0 a0.length (vec api_Span.e api_Span.z a0))), (1, .d (.sl t1 a1.length (vec api_Span.e api_Span.z a1))), (18, .d (.v (.bool y1_18)))], []⟩ := by
    intro y1_18 H
    by_cases c2 : y1_18 = true
    · replace H := iteT (K := fun o => o) c2 H
      rw [c2]
      refine go hT 3 [] (k' := stackAt (Try.f12.body.getD .skip) [1, 0, 1, 0, 0, 0] []) (st' := ⟨81, [], []⟩) (by kernel_rfl) ?_
      obtain ⟨v1, h3, H⟩ := bindC (K := fun o => o) rfl H
      refine ak_callP (avs := []) (dst := some 19) (k' := stackAt (Try.f12.body.getD .skip) [1, 0, 1, 0, 0, 1] []) [19] [] hP enters_14 (splicelaw03_awake.says h3) (by kernel_rfl) (hands_none _) .nil (st' := ⟨81, [(19, .d (.v (.bool v1)))], []⟩) (by kernel_rfl) ?_
      refine go hT 2 [4] (k' := stackAt (Try.f12.body.getD .skip) [1, 0, 1, 0, 1] []) (st' := ⟨81, [(4, .d (.v (.bool v1)))], []⟩) (by kernel_rfl) ?_
      obtain rfl := retC H
      exact ak_ret hf hX (av := .d (.v (.bool v1))) (by kernel_rfl) [] (sel_of_eq (by kernel_rfl)) (by decide) (by rw [h0]; rfl) (by kernel_rfl) (fun _ h => all_nil h) (.d (.v _))
    · replace H := iteF (K := fun o => o) c2 H
      rw [boF c2]
      refine go hT 2 [0, 1] (k' := stackAt (Try.f12.body.getD .skip) [1, 1] []) (st' := ⟨81, [(0, .d (.sl t0 a0.length (vec api_Span.e api_Span.z a0))), (1, .d (.sl t1 a1.length (vec api_Span.e api_Span.z a1)))], []⟩) (by kernel_rfl) ?_
      refine go hT 4 [0, 1, 21, 22] (k' := stackAt (Try.f12.body.getD .skip) [1, 1, 0, 2] []) (st' := ⟨81, [(0, .d (.sl t0 a0.length (vec api_Span.e api_Span.z a0))), (1, .d (.sl t1 a1.length (vec api_Span.e api_Span.z a1))), (21, .d (.sl t0 a0.length (vec api_Span.e api_Span.z a0))), (22, .d (.sl t1 a1.length (vec api_Span.e api_Span.z a1)))], []⟩) (by kernel_rfl) ?_
      obtain ⟨v2, h4, H⟩ := bindC (K := fun o => o) rfl H
      refine ak_callP (avs := [.d (.sl t0 a0.length (vec api_Span.e api_Span.z a0)), .d (.sl t1 a1.length (vec api_Span.e api_Span.z a1))]) (dst := some 23) (k' := stackAt (Try.f12.body.getD .skip) [1, 1, 0, 3] []) [0, 1, 23] [] hP enters_19 (span_Meet.says (t0 := t0) (t1 := t1) a0 a1 h4) (by kernel_rfl) (hands_none _) (.cons (pass_d _) (.cons (pass_d _) .nil)) (st' := ⟨81, [(0, .d (.sl t0 a0.length (vec api_Span.e api_Span.z a0))), (1, .d (.sl t1 a1.length (vec api_Span.e api_Span.z a1))), (23, .tup [.d (.sl true v2.1.length (vec api_Span.e api_Span.z v2.1)), .d (.v (.int .i64 v2.2))])], []⟩) (by kernel_rfl) ?_
      refine go hT 10 [0, 1, 5, 6, 27, 28] (k' := stackAt (Try.f12.body.getD .skip) [1, 1, 1, 0, 2] []) (st' := ⟨81, [(0, .d (.sl t0 a0.length (vec api_Span.e api_Span.z a0))), (1, .d (.sl t1 a1.length (vec api_Span.e api_Span.z a1))), (5, .d (.sl true v2.1.length (vec api_Span.e api_Span.z v2.1))), (6, .d (.v (.int .i64 v2.2))), (27, .d (.sl t0 a0.length (vec api_Span.e api_Span.z a0))), (28, .d (.sl t1 a1.length (vec api_Span.e api_Span.z a1)))], []⟩) (by kernel_rfl) ?_
      obtain ⟨v3, h5, H⟩ := bindC (K := fun o => o) rfl H
      have Jj2 : ∀ (y2_37 : Bool), (splicelaw03_SpanParts.j2 a0 a1 v2 v3 y2_37) = some r → AK X 12 (stackAt (Try.f12.body.getD .skip) [1, 1, 1, 1, 0, 1] []) (Back X [] (.d (.v (.bool r)))) ⟨81, [(0, .d (.sl t0 a0.length (vec api_Span.e api_Span.z a0))), (1, .d (.sl t1 a1.length (vec api_Span.e api_Span.z a1))), (5, .d (.sl true v2.1.length (vec api_Span.e api_Span.z v2.1))), (7, .d (.sl true v3.1.length (vec api_Span.e api_Span.z v3.1))), (37, .d (.v (.bool y2_37)))], []⟩ := by
        intro y2_37 H
        by_cases c7 : y2_37 = true
        · replace H := iteT (K := fun o => o) c7 H
          rw [c7]
          refine go hT 3 [] (k' := stackAt (Try.f12.body.getD .skip) [1, 1, 1, 1, 0, 1, 0, 0, 0] []) (st' := ⟨81, [], []⟩) (by kernel_rfl) ?_
          obtain ⟨v4, h8, H⟩ := bindC (K := fun o => o) rfl H
          refine ak_callP (avs := []) (dst := some 38) (k' := stackAt (Try.f12.body.getD .skip) [1, 1, 1, 1, 0, 1, 0, 0, 1] []) [38] [] hP enters_14 (splicelaw03_awake.says h8) (by kernel_rfl) (hands_none _) .nil (st' := ⟨81, [(38, .d (.v (.bool v4)))], []⟩) (by kernel_rfl) ?_
          refine go hT 2 [4] (k' := stackAt (Try.f12.body.getD .skip) [1, 1, 1, 1, 0, 1, 0, 1] []) (st' := ⟨81, [(4, .d (.v (.bool v4)))], []⟩) (by kernel_rfl) ?_
          obtain rfl := retC H
          exact ak_ret hf hX (av := .d (.v (.bool v4))) (by kernel_rfl) [] (sel_of_eq (by kernel_rfl)) (by decide) (by rw [h0]; rfl) (by kernel_rfl) (fun _ h => all_nil h) (.d (.v _))
        · replace H := iteF (K := fun o => o) c7 H
          rw [boF c7]
          refine go hT 2 [0, 1, 5, 7] (k' := stackAt (Try.f12.body.getD .skip) [1, 1, 1, 1, 1] []) (st' := ⟨81, [(0, .d (.sl t0 a0.length (vec api_Span.e api_Span.z a0))), (1, .d (.sl t1 a1.length (vec api_Span.e api_Span.z a1))), (5, .d (.sl true v2.1.length (vec api_Span.e api_Span.z v2.1))), (7, .d (.sl true v3.1.length (vec api_Span.e api_Span.z v3.1)))], []⟩) (by kernel_rfl) ?_
          refine go hT 4 [0, 1, 5, 7, 40, 41] (k' := stackAt (Try.f12.body.getD .skip) [1, 1, 1, 1, 1, 0, 2] []) (st' := ⟨81, [(0, .d (.sl t0 a0.length (vec api_Span.e api_Span.z a0))), (1, .d (.sl t1 a1.length (vec api_Span.e api_Span.z a1))), (5, .d (.sl true v2.1.length (vec api_Span.e api_Span.z v2.1))), (7, .d (.sl true v3.1.length (vec api_Span.e api_Span.z v3.1))), (40, .d (.sl true v2.1.length (vec api_Span.e api_Span.z v2.1))), (41, .d (.sl true v3.1.length (vec api_Span.e api_Span.z v3.1)))], []⟩) (by kernel_rfl) ?_
          obtain ⟨v5, h9, H⟩ := bindC (K := fun o => o) rfl H
          refine ak_callP (avs := [.d (.sl true v2.1.length (vec api_Span.e api_Span.z v2.1)), .d (.sl true v3.1.length (vec api_Span.e api_Span.z v3.1))]) (dst := some 42) (k' := stackAt (Try.f12.body.getD .skip) [1, 1, 1, 1, 1, 0, 3] []) [0, 1, 5, 7, 42] [] hP enters_34 (span_Join.says v2.1 v3.1 h9) (by kernel_rfl) (hands_none _) (.cons (pass_d _) (.cons (pass_d _) .nil)) (st' := ⟨81, [(0, .d (.sl t0 a0.length (vec api_Span.e api_Span.z a0))), (1, .d (.sl t1 a1.length (vec api_Span.e api_Span.z a1))), (5, .d (.sl true v2.1.length (vec api_Span.e api_Span.z v2.1))), (7, .d (.sl true v3.1.length (vec api_Span.e api_Span.z v3.1))), (42, .tup [.d (.sl true v5.1.length (vec api_Span.e api_Span.z v5.1)), .d (.v (.int .i64 v5.2))])], []⟩) (by kernel_rfl) ?_
          refine go hT 8 [0, 1, 5, 7, 9, 10] (k' := stackAt (Try.f12.body.getD .skip) [1, 1, 1, 1, 1, 1, 0, 0] []) (st' := ⟨81, [(0, .d (.sl t0 a0.length (vec api_Span.e api_Span.z a0))), (1, .d (.sl t1 a1.length (vec api_Span.e api_Span.z a1))), (5, .d (.sl true v2.1.length (vec api_Span.e api_Span.z v2.1))), (7, .d (.sl true v3.1.length (vec api_Span.e api_Span.z v3.1))), (9, .d (.sl true v5.1.length (vec api_Span.e api_Span.z v5.1))), (10, .d (.v (.int .i64 v5.2)))], []⟩) (by kernel_rfl) ?_
          obtain ⟨v6, h10, H⟩ := bindC (K := fun o => o) rfl H
          have Jj3 : ∀ (y3_4 : Bool), (splicelaw03_SpanParts.j3 y3_4) = some r → AK X 12 (stackAt (Try.f12.body.getD .skip) [1, 1, 1, 1, 1, 1, 1] []) (Back X [] (.d (.v (.bool r)))) ⟨81, [(4, .d (.v (.bool y3_4)))], []⟩ := by
            intro y3_4 H
            obtain rfl := retC H
            exact ak_ret hf hX (av := .d (.v (.bool y3_4))) (by kernel_rfl) [] (sel_of_eq (by kernel_rfl)) (by decide) (by rw [h0]; rfl) (by kernel_rfl) (fun _ h => all_nil h) (.d (.v _))
          refine ak_callP (avs := []) (dst := some 45) (k' := stackAt (Try.f12.body.getD .skip) [1, 1, 1, 1, 1, 1, 0, 1] []) [0, 1, 5, 7, 9, 10, 45] [] hP enters_14 (splicelaw03_awake.says h10) (by kernel_rfl) (hands_none _) .nil (st' := ⟨81, [(0, .d (.sl t0 a0.length (vec api_Span.e api_Span.z a0))), (1, .d (.sl t1 a1.length (vec api_Span.e api_Span.z a1))), (5, .d (.sl true v2.1.length (vec api_Span.e api_Span.z v2.1))), (7, .d (.sl true v3.1.length (vec api_Span.e api_Span.z v3.1))), (9, .d (.sl true v5.1.length (vec api_Span.e api_Span.z v5.1))), (10, .d (.v (.int .i64 v5.2))), (45, .d (.v (.bool v6)))], []⟩) (by kernel_rfl) ?_
          refine go hT 1 [0, 1, 5, 7, 9, 10, 46] (k' := stackAt (Try.f12.body.getD .skip) [1, 1, 1, 1, 1, 1, 0, 2] []) (st' := ⟨81, [(0, .d (.sl t0 a0.length (vec api_Span.e api_Span.z a0))), (1, .d (.sl t1 a1.length (vec api_Span.e api_Span.z a1))), (5, .d (.sl true v2.1.length (vec api_Span.e api_Span.z v2.1))), (7, .d (.sl true v3.1.length (vec api_Span.e api_Span.z v3.1))), (9, .d (.sl true v5.1.length (vec api_Span.e api_Span.z v5.1))), (10, .d (.v (.int .i64 v5.2))), (46, .d (.v (.bool v6)))], []⟩) (by kernel_rfl) ?_
          by_cases c11 : v6 = true
          · replace H := iteT (K := fun o => o) c11 H
            rw [c11]
            refine go hT 4 [0, 1, 5, 7, 9, 50] (k' := stackAt (Try.f12.body.getD .skip) [1, 1, 1, 1, 1, 1, 0, 6] []) (st' := ⟨81, [(0, .d (.sl t0 a0.length (vec api_Span.e api_Span.z a0))), (1, .d (.sl t1 a1.length (vec api_Span.e api_Span.z a1))), (5, .d (.sl true v2.1.length (vec api_Span.e api_Span.z v2.1))), (7, .d (.sl true v3.1.length (vec api_Span.e api_Span.z v3.1))), (9, .d (.sl true v5.1.length (vec api_Span.e api_Span.z v5.1))), (50, .d (.v (.bool (v5.2 == 0))))], []⟩) (by kernel_rfl) ?_
            by_cases c12 : v5.2 = 0
            · replace H := iteT (K := fun o => o) c12 H
              rw [eqT c12]
              refine go hT 2 [0, 1, 5, 7, 50, 51, 52] (k' := stackAt (Try.f12.body.getD .skip) [1, 1, 1, 1, 1, 1, 0, 8] []) (st' := ⟨81, [(0, .d (.sl t0 a0.length (vec api_Span.e api_Span.z a0))), (1, .d (.sl t1 a1.length (vec api_Span.e api_Span.z a1))), (5, .d (.sl true v2.1.length (vec api_Span.e api_Span.z v2.1))), (7, .d (.sl true v3.1.length (vec api_Span.e api_Span.z v3.1))), (50, .d (.v (.bool true))), (51, .d (.sl true v5.1.length (vec api_Span.e api_Span.z v5.1))), (52, .d (.sl t0 a0.length (vec api_Span.e api_Span.z a0)))], []⟩) (by kernel_rfl) ?_
              obtain ⟨v7, h13, H⟩ := bindC (K := fun o => o) rfl H
              refine ak_callP (avs := [.d (.sl true v5.1.length (vec api_Span.e api_Span.z v5.1)), .d (.sl t0 a0.length (vec api_Span.e api_Span.z a0))]) (dst := some 53) (k' := stackAt (Try.f12.body.getD .skip) [1, 1, 1, 1, 1, 1, 0, 9] []) [0, 1, 5, 7, 50, 53] [] hP enters_31 (splicelaw03_alike.says (t0 := true) (t1 := t0) v5.1 a0 h13) (by kernel_rfl) (hands_none _) (.cons (pass_d _) (.cons (pass_d _) .nil)) (st' := ⟨81, [(0, .d (.sl t0 a0.length (vec api_Span.e api_Span.z a0))), (1, .d (.sl t1 a1.length (vec api_Span.e api_Span.z a1))), (5, .d (.sl true v2.1.length (vec api_Span.e api_Span.z v2.1))), (7, .d (.sl true v3.1.length (vec api_Span.e api_Span.z v3.1))), (50, .d (.v (.bool true))), (53, .d (.v (.bool v7)))], []⟩) (by kernel_rfl) ?_
              refine go hT 2 [0, 1, 5, 7, 55] (k' := stackAt (Try.f12.body.getD .skip) [1, 1, 1, 1, 1, 1, 0, 11] []) (st' := ⟨81, [(0, .d (.sl t0 a0.length (vec api_Span.e api_Span.z a0))), (1, .d (.sl t1 a1.length (vec api_Span.e api_Span.z a1))), (5, .d (.sl true v2.1.length (vec api_Span.e api_Span.z v2.1))), (7, .d (.sl true v3.1.length (vec api_Span.e api_Span.z v3.1))), (55, .d (.v (.bool v7)))], []⟩) (by kernel_rfl) ?_
              by_cases c14 : v7 = true
              · replace H := iteT (K := fun o => o) c14 H
                rw [c14]
                refine go hT 2 [0, 1, 5, 7, 55, 56, 57] (k' := stackAt (Try.f12.body.getD .skip) [1, 1, 1, 1, 1, 1, 0, 13] []) (st' := ⟨81, [(0, .d (.sl t0 a0.length (vec api_Span.e api_Span.z a0))), (1, .d (.sl t1 a1.length (vec api_Span.e api_Span.z a1))), (5, .d (.sl true v2.1.length (vec api_Span.e api_Span.z v2.1))), (7, .d (.sl true v3.1.length (vec api_Span.e api_Span.z v3.1))), (55, .d (.v (.bool true))), (56, .d (.sl true v2.1.length (vec api_Span.e api_Span.z v2.1))), (57, .d (.sl true v3.1.length (vec api_Span.e api_Span.z v3.1)))], []⟩) (by kernel_rfl) ?_
                obtain ⟨v8, h15, H⟩ := bindC (K := fun o => o) rfl H
                refine ak_callP (avs := [.d (.sl true v2.1.length (vec api_Span.e api_Span.z v2.1)), .d (.sl true v3.1.length (vec api_Span.e api_Span.z v3.1))]) (dst := some 58) (k' := stackAt (Try.f12.body.getD .skip) [1, 1, 1, 1, 1, 1, 0, 14] []) [0, 1, 5, 7, 55, 58] [] hP enters_22 (span_Touch.says (t0 := true) (t1 := true) v2.1 v3.1 h15) (by kernel_rfl) (hands_none _) (.cons (pass_d _) (.cons (pass_d _) .nil)) (st' := ⟨81, [(0, .d (.sl t0 a0.length (vec api_Span.e api_Span.z a0))), (1, .d (.sl t1 a1.length (vec api_Span.e api_Span.z a1))), (5, .d (.sl true v2.1.length (vec api_Span.e api_Span.z v2.1))), (7, .d (.sl true v3.1.length (vec api_Span.e api_Span.z v3.1))), (55, .d (.v (.bool true))), (58, .d (.v (.bool v8)))], []⟩) (by kernel_rfl) ?_
                refine go hT 3 [0, 1, 5, 7, 61] (k' := stackAt (Try.f12.body.getD .skip) [1, 1, 1, 1, 1, 1, 0, 17] []) (st' := ⟨81, [(0, .d (.sl t0 a0.length (vec api_Span.e api_Span.z a0))), (1, .d (.sl t1 a1.length (vec api_Span.e api_Span.z a1))), (5, .d (.sl true v2.1.length (vec api_Span.e api_Span.z v2.1))), (7, .d (.sl true v3.1.length (vec api_Span.e api_Span.z v3.1))), (61, .d (.v (.bool (!v8))))], []⟩) (by kernel_rfl) ?_
                by_cases c16 : v8 = true
                · replace H := iteT (K := fun o => o) c16 H
                  rw [c16]
                  refine go hT 21 [4] (k' := stackAt (Try.f12.body.getD .skip) [1, 1, 1, 1, 1, 1, 1] []) (st' := ⟨81, [(4, .d (.v (.bool false)))], []⟩) (by kernel_rfl) ?_
                  refine ak_cut [4] [] (st' := ⟨81, [(4, .d (.v (.bool false)))], []⟩) (by kernel_rfl) (by kernel_rfl) rfl (by decide) (by rw [h0]; rfl) ?_
                  exact Jj3 false H
                · replace H := iteF (K := fun o => o) c16 H
                  rw [boF c16]
                  refine go hT 1 [0, 1, 5, 7, 61, 62] (k' := stackAt (Try.f12.body.getD .skip) [1, 1, 1, 1, 1, 1, 0, 18] []) (st' := ⟨81, [(0, .d (.sl t0 a0.length (vec api_Span.e api_Span.z a0))), (1, .d (.sl t1 a1.length (vec api_Span.e api_Span.z a1))), (5, .d (.sl true v2.1.length (vec api_Span.e api_Span.z v2.1))), (7, .d (.sl true v3.1.length (vec api_Span.e api_Span.z v3.1))), (61, .d (.v (.bool true))), (62, .d (.sl true v2.1.length (vec api_Span.e api_Span.z v2.1)))], []⟩) (by kernel_rfl) ?_
                  obtain ⟨v9, h17, H⟩ := bindC (K := fun o => o) rfl H
                  refine ak_callP (avs := [.d (.sl true v2.1.length (vec api_Span.e api_Span.z v2.1))]) (dst := some 63) (k' := stackAt (Try.f12.body.getD .skip) [1, 1, 1, 1, 1, 1, 0, 19] []) [0, 1, 5, 7, 61, 63] [] hP enters_29 (span_Count.says (t0 := true) v2.1 h17) (by kernel_rfl) (hands_none _) (.cons (pass_d _) .nil) (st' := ⟨81, [(0, .d (.sl t0 a0.length (vec api_Span.e api_Span.z a0))), (1, .d (.sl t1 a1.length (vec api_Span.e api_Span.z a1))), (5, .d (.sl true v2.1.length (vec api_Span.e api_Span.z v2.1))), (7, .d (.sl true v3.1.length (vec api_Span.e api_Span.z v3.1))), (61, .d (.v (.bool true))), (63, .d (.v (.int .i64 v9)))], []⟩) (by kernel_rfl) ?_
                  refine go hT 1 [0, 1, 5, 61, 63, 64] (k' := stackAt (Try.f12.body.getD .skip) [1, 1, 1, 1, 1, 1, 0, 20] []) (st' := ⟨81, [(0, .d (.sl t0 a0.length (vec api_Span.e api_Span.z a0))), (1, .d (.sl t1 a1.length (vec api_Span.e api_Span.z a1))), (5, .d (.sl true v2.1.length (vec api_Span.e api_Span.z v2.1))), (61, .d (.v (.bool true))), (63, .d (.v (.int .i64 v9))), (64, .d (.sl true v3.1.length (vec api_Span.e api_Span.z v3.1)))], []⟩) (by kernel_rfl) ?_
                  obtain ⟨v10, h18, H⟩ := bindC (K := fun o => o) rfl H
                  refine ak_callP (avs := [.d (.sl true v3.1.length (vec api_Span.e api_Span.z v3.1))]) (dst := some 65) (k' := stackAt (Try.f12.body.getD .skip) [1, 1, 1, 1, 1, 1, 0, 21] []) [0, 1, 5, 61, 63, 65] [] hP enters_29 (span_Count.says (t0 := true) v3.1 h18) (by kernel_rfl) (hands_none _) (.cons (pass_d _) .nil) (st' := ⟨81, [(0, .d (.sl t0 a0.length (vec api_Span.e api_Span.z a0))), (1, .d (.sl t1 a1.length (vec api_Span.e api_Span.z a1))), (5, .d (.sl true v2.1.length (vec api_Span.e api_Span.z v2.1))), (61, .d (.v (.bool true))), (63, .d (.v (.int .i64 v9))), (65, .d (.v (.int .i64 v10)))], []⟩) (by kernel_rfl) ?_
                  refine go hT 2 [0, 1, 5, 61, 66, 67] (k' := stackAt (Try.f12.body.getD .skip) [1, 1, 1, 1, 1, 1, 0, 23] []) (st' := ⟨81, [(0, .d (.sl t0 a0.length (vec api_Span.e api_Span.z a0))), (1, .d (.sl t1 a1.length (vec api_Span.e api_Span.z a1))), (5, .d (.sl true v2.1.length (vec api_Span.e api_Span.z v2.1))), (61, .d (.v (.bool true))), (66, .d (.v (.int .i64 (IntKind.wrap .i64 (v9 + v10))))), (67, .d (.sl t0 a0.length (vec api_Span.e api_Span.z a0)))], []⟩) (by kernel_rfl) ?_
                  obtain ⟨v11, h19, H⟩ := bindC (K := fun o => o) rfl H
                  refine ak_callP (avs := [.d (.sl t0 a0.length (vec api_Span.e api_Span.z a0))]) (dst := some 68) (k' := stackAt (Try.f12.body.getD .skip) [1, 1, 1, 1, 1, 1, 0, 24] []) [0, 1, 5, 61, 66, 68] [] hP enters_29 (span_Count.says (t0 := t0) a0 h19) (by kernel_rfl) (hands_none _) (.cons (pass_d _) .nil) (st' := ⟨81, [(0, .d (.sl t0 a0.length (vec api_Span.e api_Span.z a0))), (1, .d (.sl t1 a1.length (vec api_Span.e api_Span.z a1))), (5, .d (.sl true v2.1.length (vec api_Span.e api_Span.z v2.1))), (61, .d (.v (.bool true))), (66, .d (.v (.int .i64 (IntKind.wrap .i64 (v9 + v10))))), (68, .d (.v (.int .i64 v11)))], []⟩) (by kernel_rfl) ?_
                  refine go hT 3 [0, 1, 5, 71] (k' := stackAt (Try.f12.body.getD .skip) [1, 1, 1, 1, 1, 1, 0, 27] []) (st' := ⟨81, [(0, .d (.sl t0 a0.length (vec api_Span.e api_Span.z a0))), (1, .d (.sl t1 a1.length (vec api_Span.e api_Span.z a1))), (5, .d (.sl true v2.1.length (vec api_Span.e api_Span.z v2.1))), (71, .d (.v (.bool ((IntKind.wrap .i64 (v9 + v10)) == v11))))], []⟩) (by kernel_rfl) ?_
                  by_cases c20 : (IntKind.wrap .i64 (v9 + v10)) = v11
                  · replace H := iteT (K := fun o => o) c20 H
                    rw [eqT c20]
                    refine go hT 2 [0, 5, 71, 72, 73] (k' := stackAt (Try.f12.body.getD .skip) [1, 1, 1, 1, 1, 1, 0, 29] []) (st' := ⟨81, [(0, .d (.sl t0 a0.length (vec api_Span.e api_Span.z a0))), (5, .d (.sl true v2.1.length (vec api_Span.e api_Span.z v2.1))), (71, .d (.v (.bool true))), (72, .d (.sl true v2.1.length (vec api_Span.e api_Span.z v2.1))), (73, .d (.sl t1 a1.length (vec api_Span.e api_Span.z a1)))], []⟩) (by kernel_rfl) ?_
                    obtain ⟨v12, h21, H⟩ := bindC (K := fun o => o) rfl H
                    refine ak_callP (avs := [.d (.sl true v2.1.length (vec api_Span.e api_Span.z v2.1)), .d (.sl t1 a1.length (vec api_Span.e api_Span.z a1))]) (dst := some 74) (k' := stackAt (Try.f12.body.getD .skip) [1, 1, 1, 1, 1, 1, 0, 30] []) [0, 5, 71, 74] [] hP enters_32 (span_Within.says (t0 := true) (t1 := t1) v2.1 a1 h21) (by kernel_rfl) (hands_none _) (.cons (pass_d _) (.cons (pass_d _) .nil)) (st' := ⟨81, [(0, .d (.sl t0 a0.length (vec api_Span.e api_Span.z a0))), (5, .d (.sl true v2.1.length (vec api_Span.e api_Span.z v2.1))), (71, .d (.v (.bool true))), (74, .d (.v (.bool v12)))], []⟩) (by kernel_rfl) ?_
                    refine go hT 2 [0, 5, 76] (k' := stackAt (Try.f12.body.getD .skip) [1, 1, 1, 1, 1, 1, 0, 32] []) (st' := ⟨81, [(0, .d (.sl t0 a0.length (vec api_Span.e api_Span.z a0))), (5, .d (.sl true v2.1.length (vec api_Span.e api_Span.z v2.1))), (76, .d (.v (.bool v12)))], []⟩) (by kernel_rfl) ?_
                    by_cases c22 : v12 = true
                    · replace H := iteT (K := fun o => o) c22 H
                      rw [c22]
                      refine go hT 2 [76, 77, 78] (k' := stackAt (Try.f12.body.getD .skip) [1, 1, 1, 1, 1, 1, 0, 34] []) (st' := ⟨81, [(76, .d (.v (.bool true))), (77, .d (.sl true v2.1.length (vec api_Span.e api_Span.z v2.1))), (78, .d (.sl t0 a0.length (vec api_Span.e api_Span.z a0)))], []⟩) (by kernel_rfl) ?_
                      obtain ⟨v13, h23, H⟩ := bindC (K := fun o => o) rfl H
                      refine ak_callP (avs := [.d (.sl true v2.1.length (vec api_Span.e api_Span.z v2.1)), .d (.sl t0 a0.length (vec api_Span.e api_Span.z a0))]) (dst := some 79) (k' := stackAt (Try.f12.body.getD .skip) [1, 1, 1, 1, 1, 1, 0, 35] []) [76, 79] [] hP enters_32 (span_Within.says (t0 := true) (t1 := t0) v2.1 a0 h23) (by kernel_rfl) (hands_none _) (.cons (pass_d _) (.cons (pass_d _) .nil)) (st' := ⟨81, [(76, .d (.v (.bool true))), (79, .d (.v (.bool v13)))], []⟩) (by kernel_rfl) ?_
                      refine go hT 3 [4] (k' := stackAt (Try.f12.body.getD .skip) [1, 1, 1, 1, 1, 1, 1] []) (st' := ⟨81, [(4, .d (.v (.bool v13)))], []⟩) (by kernel_rfl) ?_
                      refine ak_cut [4] [] (st' := ⟨81, [(4, .d (.v (.bool v13)))], []⟩) (by kernel_rfl) (by kernel_rfl) rfl (by decide) (by rw [h0]; rfl) ?_
                      exact Jj3 v13 H
                    · replace H := iteF (K := fun o => o) c22 H
                      rw [boF c22]
                      refine go hT 6 [4] (k' := stackAt (Try.f12.body.getD .skip) [1, 1, 1, 1, 1, 1, 1] []) (st' := ⟨81, [(4, .d (.v (.bool false)))], []⟩) (by kernel_rfl) ?_
                      refine ak_cut [4] [] (st' := ⟨81, [(4, .d (.v (.bool false)))], []⟩) (by kernel_rfl) (by kernel_rfl) rfl (by decide) (by rw [h0]; rfl) ?_
                      exact Jj3 false H
                  · replace H := iteF (K := fun o => o) c20 H
                    rw [eqF c20]
                    refine go hT 11 [4] (k' := stackAt (Try.f12.body.getD .skip) [1, 1, 1, 1, 1, 1, 1] []) (st' := ⟨81, [(4, .d (.v (.bool false)))], []⟩) (by kernel_rfl) ?_
                    refine ak_cut [4] [] (st' := ⟨81, [(4, .d (.v (.bool false)))], []⟩) (by kernel_rfl) (by kernel_rfl) rfl (by decide) (by rw [h0]; rfl) ?_
                    exact Jj3 false H
              · replace H := iteF (K := fun o => o) c14 H
                rw [boF c14]
                refine go hT 27 [4] (k' := stackAt (Try.f12.body.getD .skip) [1, 1, 1, 1, 1, 1, 1] []) (st' := ⟨81, [(4, .d (.v (.bool false)))], []⟩) (by kernel_rfl) ?_
                refine ak_cut [4] [] (st' := ⟨81, [(4, .d (.v (.bool false)))], []⟩) (by kernel_rfl) (by kernel_rfl) rfl (by decide) (by rw [h0]; rfl) ?_
                exact Jj3 false H
            · replace H := iteF (K := fun o => o) c12 H
              rw [eqF c12]
              refine go hT 32 [4] (k' := stackAt (Try.f12.body.getD .skip) [1, 1, 1, 1, 1, 1, 1] []) (st' := ⟨81, [(4, .d (.v (.bool false)))], []⟩) (by kernel_rfl) ?_
              refine ak_cut [4] [] (st' := ⟨81, [(4, .d (.v (.bool false)))], []⟩) (by kernel_rfl) (by kernel_rfl) rfl (by decide) (by rw [h0]; rfl) ?_
              exact Jj3 false H
          · replace H := iteF (K := fun o => o) c11 H
            rw [boF c11]
            refine go hT 36 [4] (k' := stackAt (Try.f12.body.getD .skip) [1, 1, 1, 1, 1, 1, 1] []) (st' := ⟨81, [(4, .d (.v (.bool false)))], []⟩) (by kernel_rfl) ?_
            refine ak_cut [4] [] (st' := ⟨81, [(4, .d (.v (.bool false)))], []⟩) (by kernel_rfl) (by kernel_rfl) rfl (by decide) (by rw [h0]; rfl) ?_
            exact Jj3 false H
      refine ak_callP (avs := [.d (.sl t0 a0.length (vec api_Span.e api_Span.z a0)), .d (.sl t1 a1.length (vec api_Span.e api_Span.z a1))]) (dst := some 29) (k' := stackAt (Try.f12.body.getD .skip) [1, 1, 1, 0, 3] []) [0, 1, 5, 6, 29] [] hP enters_33 (span_Less.says (t0 := t0) (t1 := t1) a0 a1 h5) (by kernel_rfl) (hands_none _) (.cons (pass_d _) (.cons (pass_d _) .nil)) (st' := ⟨81, [(0, .d (.sl t0 a0.length (vec api_Span.e api_Span.z a0))), (1, .d (.sl t1 a1.length (vec api_Span.e api_Span.z a1))), (5, .d (.sl true v2.1.length (vec api_Span.e api_Span.z v2.1))), (6, .d (.v (.int .i64 v2.2))), (29, .tup [.d (.sl true v3.1.length (vec api_Span.e api_Span.z v3.1)), .d (.v (.int .i64 v3.2))])], []⟩) (by kernel_rfl) ?_
      refine go hT 12 [0, 1, 5, 7, 8, 34] (k' := stackAt (Try.f12.body.getD .skip) [1, 1, 1, 1, 0, 0, 3] []) (st' := ⟨81, [(0, .d (.sl t0 a0.length (vec api_Span.e api_Span.z a0))), (1, .d (.sl t1 a1.length (vec api_Span.e api_Span.z a1))), (5, .d (.sl true v2.1.length (vec api_Span.e api_Span.z v2.1))), (7, .d (.sl true v3.1.length (vec api_Span.e api_Span.z v3.1))), (8, .d (.v (.int .i64 v3.2))), (34, .d (.v (.bool (v2.2 != 0))))], []⟩) (by kernel_rfl) ?_
      by_cases c6 : v2.2 = 0
      · replace H := iteT (K := fun o => o) c6 H
        rw [neF c6]
        refine go hT 4 [0, 1, 5, 7, 37] (k' := stackAt (Try.f12.body.getD .skip) [1, 1, 1, 1, 0, 1] []) (st' := ⟨81, [(0, .d (.sl t0 a0.length (vec api_Span.e api_Span.z a0))), (1, .d (.sl t1 a1.length (vec api_Span.e api_Span.z a1))), (5, .d (.sl true v2.1.length (vec api_Span.e api_Span.z v2.1))), (7, .d (.sl true v3.1.length (vec api_Span.e api_Span.z v3.1))), (37, .d (.v (.bool (v3.2 != 0))))], []⟩) (by kernel_rfl) ?_
        refine ak_cut [0, 1, 5, 7, 37] [] (st' := ⟨81, [(0, .d (.sl t0 a0.length (vec api_Span.e api_Span.z a0))), (1, .d (.sl t1 a1.length (vec api_Span.e api_Span.z a1))), (5, .d (.sl true v2.1.length (vec api_Span.e api_Span.z v2.1))), (7, .d (.sl true v3.1.length (vec api_Span.e api_Span.z v3.1))), (37, .d (.v (.bool (v3.2 != 0))))], []⟩) (by kernel_rfl) (by kernel_rfl) rfl (by decide) (by rw [h0]; rfl) ?_
        exact Jj2 (v3.2 != 0) H
      · replace H := iteF (K := fun o => o) c6 H
        rw [neT c6]
        refine go hT 4 [0, 1, 5, 7, 37] (k' := stackAt (Try.f12.body.getD .skip) [1, 1, 1, 1, 0, 1] []) (st' := ⟨81, [(0, .d (.sl t0 a0.length (vec api_Span.e api_Span.z a0))), (1, .d (.sl t1 a1.length (vec api_Span.e api_Span.z a1))), (5, .d (.sl true v2.1.length (vec api_Span.e api_Span.z v2.1))), (7, .d (.sl true v3.1.length (vec api_Span.e api_Span.z v3.1))), (37, .d (.v (.bool true)))], []⟩) (by kernel_rfl) ?_
        refine ak_cut [0, 1, 5, 7, 37] [] (st' := ⟨81, [(0, .d (.sl t0 a0.length (vec api_Span.e api_Span.z a0))), (1, .d (.sl t1 a1.length (vec api_Span.e api_Span.z a1))), (5, .d (.sl true v2.1.length (vec api_Span.e api_Span.z v2.1))), (7, .d (.sl true v3.1.length (vec api_Span.e api_Span.z v3.1))), (37, .d (.v (.bool true)))], []⟩) (by kernel_rfl) (by kernel_rfl) rfl (by decide) (by rw [h0]; rfl) ?_
        exact Jj2 true H
  refine go hT 8 [0, 1, 11] (k' := stackAt (Try.f12.body.getD .skip) [1, 0, 0, 1] []) (st' := ⟨81, [(0, .d (.sl t0 a0.length (vec api_Span.e api_Span.z a0))), (1, .d (.sl t1 a1.length (vec api_Span.e api_Span.z a1))), (11, .d (.sl t0 a0.length (vec api_Span.e api_Span.z a0)))], []⟩) (by kernel_rfl) ?_
  refine ak_callP (avs := [.d (.sl t0 a0.length (vec api_Span.e api_Span.z a0))]) (dst := some 12) (k' := stackAt (Try.f12.body.getD .skip) [1, 0, 0, 2] []) [0, 1, 12] [] hP enters_13 (splicelaw03_few.says (t0 := t0) a0) (by kernel_rfl) (hands_none _) (.cons (pass_d _) .nil) (st' := ⟨81, [(0, .d (.sl t0 a0.length (vec api_Span.e api_Span.z a0))), (1, .d (.sl t1 a1.length (vec api_Span.e api_Span.z a1))), (12, .d (.v (.bool (splicelaw03_few a0))))], []⟩) (by kernel_rfl) ?_
  refine go hT 2 [0, 1, 14] (k' := stackAt (Try.f12.body.getD .skip) [1, 0, 0, 4] []) (st' := ⟨81, [(0, .d (.sl t0 a0.length (vec api_Span.e api_Span.z a0))), (1, .d (.sl t1 a1.length (vec api_Span.e api_Span.z a1))), (14, .d (.v (.bool (!(splicelaw03_few a0)))))], []⟩) (by kernel_rfl) ?_
  by_cases c1 : (splicelaw03_few a0) = true
  · replace H := iteT (K := fun o => o) c1 H
    rw [c1]
    refine go hT 1 [0, 1, 14, 15] (k' := stackAt (Try.f12.body.getD .skip) [1, 0, 0, 5] []) (st' := ⟨81, [(0, .d (.sl t0 a0.length (vec api_Span.e api_Span.z a0))), (1, .d (.sl t1 a1.length (vec api_Span.e api_Span.z a1))), (14, .d (.v (.bool false))), (15, .d (.sl t1 a1.length (vec api_Span.e api_Span.z a1)))], []⟩) (by kernel_rfl) ?_
    refine ak_callP (avs := [.d (.sl t1 a1.length (vec api_Span.e api_Span.z a1))]) (dst := some 16) (k' := stackAt (Try.f12.body.getD .skip) [1, 0, 0, 6] []) [0, 1, 14, 16] [] hP enters_13 (splicelaw03_few.says (t0 := t1) a1) (by kernel_rfl) (hands_none _) (.cons (pass_d _) .nil) (st' := ⟨81, [(0, .d (.sl t0 a0.length (vec api_Span.e api_Span.z a0))), (1, .d (.sl t1 a1.length (vec api_Span.e api_Span.z a1))), (14, .d (.v (.bool false))), (16, .d (.v (.bool (splicelaw03_few a1))))], []⟩) (by kernel_rfl) ?_
    refine go hT 3 [0, 1, 18] (k' := stackAt (Try.f12.body.getD .skip) [1, 0, 1] []) (st' := ⟨81, [(0, .d (.sl t0 a0.length (vec api_Span.e api_Span.z a0))), (1, .d (.sl t1 a1.length (vec api_Span.e api_Span.z a1))), (18, .d (.v (.bool (!(splicelaw03_few a1)))))], []⟩) (by kernel_rfl) ?_
    refine ak_cut [0, 1, 18] [] (st' := ⟨81, [(0, .d (.sl t0 a0.length (vec api_Span.e api_Span.z a0))), (1, .d (.sl t1 a1.length (vec api_Span.e api_Span.z a1))), (18, .d (.v (.bool (!(splicelaw03_few a1)))))], []⟩) (by kernel_rfl) (by kernel_rfl) rfl (by decide) (by rw [h0]; rfl) ?_
    exact Jj1 (!(splicelaw03_few a1)) H
  · replace H := iteF (K := fun o => o) c1 H
    rw [boF c1]
    refine go hT 5 [0, 1, 18] (k' := stackAt (Try.f12.body.getD .skip) [1, 0, 1] []) (st' := ⟨81, [(0, .d (.sl t0 a0.length (vec api_Span.e api_Span.z a0))), (1, .d (.sl t1 a1.length (vec api_Span.e api_Span.z a1))), (18, .d (.v (.bool true)))], []⟩) (by kernel_rfl) ?_
    refine ak_cut [0, 1, 18] [] (st' := ⟨81, [(0, .d (.sl t0 a0.length (vec api_Span.e api_Span.z a0))), (1, .d (.sl t1 a1.length (vec api_Span.e api_Span.z a1))), (18, .d (.v (.bool true)))], []⟩) (by kernel_rfl) (by kernel_rfl) rfl (by decide) (by rw [h0]; rfl) ?_
    exact Jj1 true H
end Go.SyP
