/- Certificates, printed by gen.py. -/
import Derived.Test.YtkgiljggkgfkjaaG03Cp1
set_option linter.unusedVariables false
set_option linter.unusedSimpArgs false
namespace Go.SyP
open Go Go.Sy Go.Proofs

theorem splicelaw03_awake.says {r : Bool} (H : splicelaw03_awake = some r) : Says Try.prog 14 [] [] [] (.d (.v (.bool r))) := by
  refine says_of Try.func14 rfl (nt := 50) rfl (Nat.le_of_ble_eq_true rfl) fun X hP h0 hX => ?_
  have hT : TabOk X.P T := hP ▸ tok
  have hf : X.P.funcs[14]? = some Try.f14 := hP ▸ Try.func14
  refine go hT 10 [9] (k' := stackAt (Try.f14.body.getD .skip) [1, 0, 4] []) (st' := ⟨50, [(9, .own 0 2 0 3)], [.flat false 2 39 3 (fun j => [[.v (.int .i64 5), .v (.int .i64 7)], [.v (.int .i64 1), .v (.int .i64 3)], [.v (.int .i64 3), .v (.int .i64 4)]].getD j [])]⟩) (by kernel_rfl) ?_
  refine ak_row 0 (kk := 2) (fz := false) (ty := 39) (n := ([(⟨5, 7⟩ : api_Span), (⟨1, 3⟩ : api_Span), (⟨3, 4⟩ : api_Span)] : List api_Span).length) (vec api_Span.e api_Span.z ([(⟨5, 7⟩ : api_Span), (⟨1, 3⟩ : api_Span), (⟨3, 4⟩ : api_Span)] : List api_Span)) (by kernel_rfl) vec_lit (st' := ⟨50, [(9, .own 0 2 0 (([(⟨5, 7⟩ : api_Span), (⟨1, 3⟩ : api_Span), (⟨3, 4⟩ : api_Span)] : List api_Span).length))], [.flat false 2 39 ([(⟨5, 7⟩ : api_Span), (⟨1, 3⟩ : api_Span), (⟨3, 4⟩ : api_Span)] : List api_Span).length (vec api_Span.e api_Span.z ([(⟨5, 7⟩ : api_Span), (⟨1, 3⟩ : api_Span), (⟨3, 4⟩ : api_Span)] : List api_Span))]⟩) (by kernel_rfl) ?_
  refine ak_freeze 0 (kk := 2) (n := ([(⟨5, 7⟩ : api_Span), (⟨1, 3⟩ : api_Span), (⟨3, 4⟩ : api_Span)] : List api_Span).length) (ty := 39) (g := vec api_Span.e api_Span.z ([(⟨5, 7⟩ : api_Span), (⟨1, 3⟩ : api_Span), (⟨3, 4⟩ : api_Span)] : List api_Span)) (by kernel_rfl) (st' := ⟨50, [(9, .own 0 2 0 (([(⟨5, 7⟩ : api_Span), (⟨1, 3⟩ : api_Span), (⟨3, 4⟩ : api_Span)] : List api_Span).length))], [.flat true 2 39 ([(⟨5, 7⟩ : api_Span), (⟨1, 3⟩ : api_Span), (⟨3, 4⟩ : api_Span)] : List api_Span).length (vec api_Span.e api_Span.z ([(⟨5, 7⟩ : api_Span), (⟨1, 3⟩ : api_Span), (⟨3, 4⟩ : api_Span)] : List api_Span))]⟩) (by kernel_rfl) ?_
  obtain ⟨v1, h1, H⟩ := bindC (K := fun o => o) rfl H
  refine ak_callP (avs := [.own 0 2 0 (([(⟨5, 7⟩ : api_Span), (⟨1, 3⟩ : api_Span), (⟨3, 4⟩ : api_Span)] : List api_Span).length)]) (dst := some 10) (k' := stackAt (Try.f14.body.getD .skip) [1, 0, 5] []) [10] [] hP enters_15 (span_Make.says ([(⟨5, 7⟩ : api_Span), (⟨1, 3⟩ : api_Span), (⟨3, 4⟩ : api_Span)] : List api_Span) h1) (by kernel_rfl) (hands_none _) (.cons (.lend (ty := 39) (by kernel_rfl) rfl) .nil) (st' := ⟨50, [(10, .tup [.d (.sl true v1.1.length (vec api_Span.e api_Span.z v1.1)), .d (.v (.int .i64 v1.2))])], [.flat true 2 39 ([(⟨5, 7⟩ : api_Span), (⟨1, 3⟩ : api_Span), (⟨3, 4⟩ : api_Span)] : List api_Span).length (vec api_Span.e api_Span.z ([(⟨5, 7⟩ : api_Span), (⟨1, 3⟩ : api_Span), (⟨3, 4⟩ : api_Span)] : List api_Span))]⟩) (by kernel_rfl) ?_
  refine go hT 11 [1, 2, 14, 16] (k' := stackAt (Try.f14.body.getD .skip) [1, 1, 0, 3] []) (st' := ⟨50, [(1, .d (.sl true v1.1.length (vec api_Span.e api_Span.z v1.1))), (2, .d (.v (.int .i64 v1.2))), (14, .d (.sl true v1.1.length (vec api_Span.e api_Span.z v1.1))), (16, .own 1 2 0 1)], [.flat true 2 39 ([(⟨5, 7⟩ : api_Span), (⟨1, 3⟩ : api_Span), (⟨3, 4⟩ : api_Span)] : List api_Span).length (vec api_Span.e api_Span.z ([(⟨5, 7⟩ : api_Span), (⟨1, 3⟩ : api_Span), (⟨3, 4⟩ : api_Span)] : List api_Span)), .flat false 2 39 1 (fun j => [[.v (.int .i64 3), .v (.int .i64 6)]].getD j [])]⟩) (by kernel_rfl) ?_
  refine ak_row 1 (kk := 2) (fz := false) (ty := 39) (n := ([(⟨3, 6⟩ : api_Span)] : List api_Span).length) (vec api_Span.e api_Span.z ([(⟨3, 6⟩ : api_Span)] : List api_Span)) (by kernel_rfl) vec_lit (st' := ⟨50, [(1, .d (.sl true v1.1.length (vec api_Span.e api_Span.z v1.1))), (2, .d (.v (.int .i64 v1.2))), (14, .d (.sl true v1.1.length (vec api_Span.e api_Span.z v1.1))), (16, .own 1 2 0 (([(⟨3, 6⟩ : api_Span)] : List api_Span).length))], [.flat true 2 39 ([(⟨5, 7⟩ : api_Span), (⟨1, 3⟩ : api_Span), (⟨3, 4⟩ : api_Span)] : List api_Span).length (vec api_Span.e api_Span.z ([(⟨5, 7⟩ : api_Span), (⟨1, 3⟩ : api_Span), (⟨3, 4⟩ : api_Span)] : List api_Span)), .flat false 2 39 ([(⟨3, 6⟩ : api_Span)] : List api_Span).length (vec api_Span.e api_Span.z ([(⟨3, 6⟩ : api_Span)] : List api_Span))]⟩) (by kernel_rfl) ?_
  obtain ⟨v2, h2, H⟩ := bindC (K := fun o => o) rfl H
  have Jj1 : ∀ (y1_0 : Bool), (splicelaw03_awake.j1 y1_0) = some r → AK X 14 (stackAt (Try.f14.body.getD .skip) [1, 1, 1, 1] []) (Back X [] (.d (.v (.bool r)))) ⟨50, [(0, .d (.v (.bool y1_0)))], []⟩ := by
    intro y1_0 H
    obtain rfl := retC H
    exact ak_ret hf hX (av := .d (.v (.bool y1_0))) (by kernel_rfl) [] (sel_of_eq (by kernel_rfl)) (by decide) (by rw [h0]; rfl) (by kernel_rfl) (fun _ h => all_nil h) (.d (.v _))
  refine ak_callP (avs := [.d (.sl true v1.1.length (vec api_Span.e api_Span.z v1.1)), .own 1 2 0 (([(⟨3, 6⟩ : api_Span)] : List api_Span).length)]) (dst := some 17) (k' := stackAt (Try.f14.body.getD .skip) [1, 1, 0, 4] []) [1, 2, 17] [] hP enters_19 (span_Meet.says (t0 := true) (t1 := false) v1.1 ([(⟨3, 6⟩ : api_Span)] : List api_Span) h2) (by kernel_rfl) (hands_none _) (.cons (pass_d _) (.cons (.lend (ty := 39) (by kernel_rfl) rfl) .nil)) (st' := ⟨50, [(1, .d (.sl true v1.1.length (vec api_Span.e api_Span.z v1.1))), (2, .d (.v (.int .i64 v1.2))), (17, .tup [.d (.sl true v2.1.length (vec api_Span.e api_Span.z v2.1)), .d (.v (.int .i64 v2.2))])], [.flat true 2 39 ([(⟨5, 7⟩ : api_Span), (⟨1, 3⟩ : api_Span), (⟨3, 4⟩ : api_Span)] : List api_Span).length (vec api_Span.e api_Span.z ([(⟨5, 7⟩ : api_Span), (⟨1, 3⟩ : api_Span), (⟨3, 4⟩ : api_Span)] : List api_Span)), .flat false 2 39 ([(⟨3, 6⟩ : api_Span)] : List api_Span).length (vec api_Span.e api_Span.z ([(⟨3, 6⟩ : api_Span)] : List api_Span))]⟩) (by kernel_rfl) ?_
  refine go hT 11 [1, 3, 4, 22] (k' := stackAt (Try.f14.body.getD .skip) [1, 1, 1, 0, 3] []) (st' := ⟨50, [(1, .d (.sl true v1.1.length (vec api_Span.e api_Span.z v1.1))), (3, .d (.sl true v2.1.length (vec api_Span.e api_Span.z v2.1))), (4, .d (.v (.int .i64 v2.2))), (22, .d (.v (.bool (v1.2 == 0))))], [.flat true 2 39 ([(⟨5, 7⟩ : api_Span), (⟨1, 3⟩ : api_Span), (⟨3, 4⟩ : api_Span)] : List api_Span).length (vec api_Span.e api_Span.z ([(⟨5, 7⟩ : api_Span), (⟨1, 3⟩ : api_Span), (⟨3, 4⟩ : api_Span)] : List api_Span)), .flat false 2 39 ([(⟨3, 6⟩ : api_Span)] : List api_Span).length (vec api_Span.e api_Span.z ([(⟨3, 6⟩ : api_Span)] : List api_Span))]⟩) (by kernel_rfl) ?_
  by_cases c3 : v1.2 = 0
  · replace H := iteT (K := fun o => o) c3 H
    rw [eqT c3]
    refine go hT 5 [1, 3, 4, 27] (k' := stackAt (Try.f14.body.getD .skip) [1, 1, 1, 0, 8] []) (st' := ⟨50, [(1, .d (.sl true v1.1.length (vec api_Span.e api_Span.z v1.1))), (3, .d (.sl true v2.1.length (vec api_Span.e api_Span.z v2.1))), (4, .d (.v (.int .i64 v2.2))), (27, .d (.v (.bool ((v1.1.length : Int) == 2))))], [.flat true 2 39 ([(⟨5, 7⟩ : api_Span), (⟨1, 3⟩ : api_Span), (⟨3, 4⟩ : api_Span)] : List api_Span).length (vec api_Span.e api_Span.z ([(⟨5, 7⟩ : api_Span), (⟨1, 3⟩ : api_Span), (⟨3, 4⟩ : api_Span)] : List api_Span)), .flat false 2 39 ([(⟨3, 6⟩ : api_Span)] : List api_Span).length (vec api_Span.e api_Span.z ([(⟨3, 6⟩ : api_Span)] : List api_Span))]⟩) (by kernel_rfl) ?_
    by_cases c4 : (v1.1.length : Int) = 2
    · replace H := iteT (K := fun o => o) c4 H
      rw [eqT c4]
      refine go hT 1 [3, 4, 27, 28] (k' := stackAt (Try.f14.body.getD .skip) [1, 1, 1, 0, 9] []) (st' := ⟨50, [(3, .d (.sl true v2.1.length (vec api_Span.e api_Span.z v2.1))), (4, .d (.v (.int .i64 v2.2))), (27, .d (.v (.bool true))), (28, .d (.sl true v1.1.length (vec api_Span.e api_Span.z v1.1)))], [.flat true 2 39 ([(⟨5, 7⟩ : api_Span), (⟨1, 3⟩ : api_Span), (⟨3, 4⟩ : api_Span)] : List api_Span).length (vec api_Span.e api_Span.z ([(⟨5, 7⟩ : api_Span), (⟨1, 3⟩ : api_Span), (⟨3, 4⟩ : api_Span)] : List api_Span)), .flat false 2 39 ([(⟨3, 6⟩ : api_Span)] : List api_Span).length (vec api_Span.e api_Span.z ([(⟨3, 6⟩ : api_Span)] : List api_Span))]⟩) (by kernel_rfl) ?_
      obtain ⟨h5, H⟩ := iteC (K := fun o => o) rfl H
      refine ak_idx hT [3, 4, 27, 29] (i := 0) (n := (v1.1.length : Int)) h5.1 h5.2 (k' := stackAt (Try.f14.body.getD .skip) [1, 1, 1, 0, 10] []) (st' := ⟨50, [(3, .d (.sl true v2.1.length (vec api_Span.e api_Span.z v2.1))), (4, .d (.v (.int .i64 v2.2))), (27, .d (.v (.bool true))), (29, .d (.rop true v1.1.length (vec api_Span.e api_Span.z v1.1) 0 0))], [.flat true 2 39 ([(⟨5, 7⟩ : api_Span), (⟨1, 3⟩ : api_Span), (⟨3, 4⟩ : api_Span)] : List api_Span).length (vec api_Span.e api_Span.z ([(⟨5, 7⟩ : api_Span), (⟨1, 3⟩ : api_Span), (⟨3, 4⟩ : api_Span)] : List api_Span)), .flat false 2 39 ([(⟨3, 6⟩ : api_Span)] : List api_Span).length (vec api_Span.e api_Span.z ([(⟨3, 6⟩ : api_Span)] : List api_Span))]⟩) (by kernel_rfl) ?_
      refine go hT 5 [3, 4, 34] (k' := stackAt (Try.f14.body.getD .skip) [1, 1, 1, 0, 15] []) (st' := ⟨50, [(3, .d (.sl true v2.1.length (vec api_Span.e api_Span.z v2.1))), (4, .d (.v (.int .i64 v2.2))), (34, .d (.v (.bool ((((v1.1.getD 0 api_Span.z).Lo) == 1) && (((v1.1.getD 0 api_Span.z).Hi) == 4)))))], [.flat true 2 39 ([(⟨5, 7⟩ : api_Span), (⟨1, 3⟩ : api_Span), (⟨3, 4⟩ : api_Span)] : List api_Span).length (vec api_Span.e api_Span.z ([(⟨5, 7⟩ : api_Span), (⟨1, 3⟩ : api_Span), (⟨3, 4⟩ : api_Span)] : List api_Span)), .flat false 2 39 ([(⟨3, 6⟩ : api_Span)] : List api_Span).length (vec api_Span.e api_Span.z ([(⟨3, 6⟩ : api_Span)] : List api_Span))]⟩) (by kernel_rfl) ?_
      by_cases c6 : ((v1.1.getD 0 api_Span.z).Lo) = 1
      · replace H := iteT (K := fun o => o) c6 H
        rw [eqT c6]
        by_cases c7 : ((v1.1.getD 0 api_Span.z).Hi) = 4
        · replace H := iteT (K := fun o => o) c7 H
          rw [eqT c7]
          refine go hT 4 [3, 38] (k' := stackAt (Try.f14.body.getD .skip) [1, 1, 1, 0, 19] []) (st' := ⟨50, [(3, .d (.sl true v2.1.length (vec api_Span.e api_Span.z v2.1))), (38, .d (.v (.bool (v2.2 == 0))))], [.flat true 2 39 ([(⟨5, 7⟩ : api_Span), (⟨1, 3⟩ : api_Span), (⟨3, 4⟩ : api_Span)] : List api_Span).length (vec api_Span.e api_Span.z ([(⟨5, 7⟩ : api_Span), (⟨1, 3⟩ : api_Span), (⟨3, 4⟩ : api_Span)] : List api_Span)), .flat false 2 39 ([(⟨3, 6⟩ : api_Span)] : List api_Span).length (vec api_Span.e api_Span.z ([(⟨3, 6⟩ : api_Span)] : List api_Span))]⟩) (by kernel_rfl) ?_
          by_cases c8 : v2.2 = 0
          · replace H := iteT (K := fun o => o) c8 H
            rw [eqT c8]
            refine go hT 5 [3, 43] (k' := stackAt (Try.f14.body.getD .skip) [1, 1, 1, 0, 24] []) (st' := ⟨50, [(3, .d (.sl true v2.1.length (vec api_Span.e api_Span.z v2.1))), (43, .d (.v (.bool ((v2.1.length : Int) == 2))))], [.flat true 2 39 ([(⟨5, 7⟩ : api_Span), (⟨1, 3⟩ : api_Span), (⟨3, 4⟩ : api_Span)] : List api_Span).length (vec api_Span.e api_Span.z ([(⟨5, 7⟩ : api_Span), (⟨1, 3⟩ : api_Span), (⟨3, 4⟩ : api_Span)] : List api_Span)), .flat false 2 39 ([(⟨3, 6⟩ : api_Span)] : List api_Span).length (vec api_Span.e api_Span.z ([(⟨3, 6⟩ : api_Span)] : List api_Span))]⟩) (by kernel_rfl) ?_
            by_cases c9 : (v2.1.length : Int) = 2
            · replace H := iteT (K := fun o => o) c9 H
              rw [eqT c9]
              refine go hT 1 [43, 44] (k' := stackAt (Try.f14.body.getD .skip) [1, 1, 1, 0, 25] []) (st' := ⟨50, [(43, .d (.v (.bool true))), (44, .d (.sl true v2.1.length (vec api_Span.e api_Span.z v2.1)))], [.flat true 2 39 ([(⟨5, 7⟩ : api_Span), (⟨1, 3⟩ : api_Span), (⟨3, 4⟩ : api_Span)] : List api_Span).length (vec api_Span.e api_Span.z ([(⟨5, 7⟩ : api_Span), (⟨1, 3⟩ : api_Span), (⟨3, 4⟩ : api_Span)] : List api_Span)), .flat false 2 39 ([(⟨3, 6⟩ : api_Span)] : List api_Span).length (vec api_Span.e api_Span.z ([(⟨3, 6⟩ : api_Span)] : List api_Span))]⟩) (by kernel_rfl) ?_
              obtain ⟨h10, H⟩ := iteC (K := fun o => o) rfl H
              refine ak_idx hT [43, 45] (i := 1) (n := (v2.1.length : Int)) h10.1 h10.2 (k' := stackAt (Try.f14.body.getD .skip) [1, 1, 1, 0, 26] []) (st' := ⟨50, [(43, .d (.v (.bool true))), (45, .d (.rop true v2.1.length (vec api_Span.e api_Span.z v2.1) 1 0))], [.flat true 2 39 ([(⟨5, 7⟩ : api_Span), (⟨1, 3⟩ : api_Span), (⟨3, 4⟩ : api_Span)] : List api_Span).length (vec api_Span.e api_Span.z ([(⟨5, 7⟩ : api_Span), (⟨1, 3⟩ : api_Span), (⟨3, 4⟩ : api_Span)] : List api_Span)), .flat false 2 39 ([(⟨3, 6⟩ : api_Span)] : List api_Span).length (vec api_Span.e api_Span.z ([(⟨3, 6⟩ : api_Span)] : List api_Span))]⟩) (by kernel_rfl) ?_
              refine go hT 6 [0] (k' := stackAt (Try.f14.body.getD .skip) [1, 1, 1, 1] []) (st' := ⟨50, [(0, .d (.v (.bool ((((v2.1.getD 1 api_Span.z).Lo) == 5) && (((v2.1.getD 1 api_Span.z).Hi) == 6)))))], [.flat true 2 39 ([(⟨5, 7⟩ : api_Span), (⟨1, 3⟩ : api_Span), (⟨3, 4⟩ : api_Span)] : List api_Span).length (vec api_Span.e api_Span.z ([(⟨5, 7⟩ : api_Span), (⟨1, 3⟩ : api_Span), (⟨3, 4⟩ : api_Span)] : List api_Span)), .flat false 2 39 ([(⟨3, 6⟩ : api_Span)] : List api_Span).length (vec api_Span.e api_Span.z ([(⟨3, 6⟩ : api_Span)] : List api_Span))]⟩) (by kernel_rfl) ?_
              refine ak_cut [0] [] (st' := ⟨50, [(0, .d (.v (.bool ((((v2.1.getD 1 api_Span.z).Lo) == 5) && (((v2.1.getD 1 api_Span.z).Hi) == 6)))))], []⟩) (by kernel_rfl) (by kernel_rfl) rfl (by decide) (by rw [h0]; rfl) ?_
              exact Jj1 ((((v2.1.getD 1 api_Span.z).Lo) == 5) && (((v2.1.getD 1 api_Span.z).Hi) == 6)) H
            · replace H := iteF (K := fun o => o) c9 H
              rw [eqF c9]
              refine go hT 8 [0] (k' := stackAt (Try.f14.body.getD .skip) [1, 1, 1, 1] []) (st' := ⟨50, [(0, .d (.v (.bool false)))], [.flat true 2 39 ([(⟨5, 7⟩ : api_Span), (⟨1, 3⟩ : api_Span), (⟨3, 4⟩ : api_Span)] : List api_Span).length (vec api_Span.e api_Span.z ([(⟨5, 7⟩ : api_Span), (⟨1, 3⟩ : api_Span), (⟨3, 4⟩ : api_Span)] : List api_Span)), .flat false 2 39 ([(⟨3, 6⟩ : api_Span)] : List api_Span).length (vec api_Span.e api_Span.z ([(⟨3, 6⟩ : api_Span)] : List api_Span))]⟩) (by kernel_rfl) ?_
              refine ak_cut [0] [] (st' := ⟨50, [(0, .d (.v (.bool false)))], []⟩) (by kernel_rfl) (by kernel_rfl) rfl (by decide) (by rw [h0]; rfl) ?_
              exact Jj1 false H
          · replace H := iteF (K := fun o => o) c8 H
            rw [eqF c8]
            refine go hT 13 [0] (k' := stackAt (Try.f14.body.getD .skip) [1, 1, 1, 1] []) (st' := ⟨50, [(0, .d (.v (.bool false)))], [.flat true 2 39 ([(⟨5, 7⟩ : api_Span), (⟨1, 3⟩ : api_Span), (⟨3, 4⟩ : api_Span)] : List api_Span).length (vec api_Span.e api_Span.z ([(⟨5, 7⟩ : api_Span), (⟨1, 3⟩ : api_Span), (⟨3, 4⟩ : api_Span)] : List api_Span)), .flat false 2 39 ([(⟨3, 6⟩ : api_Span)] : List api_Span).length (vec api_Span.e api_Span.z ([(⟨3, 6⟩ : api_Span)] : List api_Span))]⟩) (by kernel_rfl) ?_
            refine ak_cut [0] [] (st' := ⟨50, [(0, .d (.v (.bool false)))], []⟩) (by kernel_rfl) (by kernel_rfl) rfl (by decide) (by rw [h0]; rfl) ?_
            exact Jj1 false H
        · replace H := iteF (K := fun o => o) c7 H
          rw [eqF c7]
          refine go hT 17 [0] (k' := stackAt (Try.f14.body.getD .skip) [1, 1, 1, 1] []) (st' := ⟨50, [(0, .d (.v (.bool false)))], [.flat true 2 39 ([(⟨5, 7⟩ : api_Span), (⟨1, 3⟩ : api_Span), (⟨3, 4⟩ : api_Span)] : List api_Span).length (vec api_Span.e api_Span.z ([(⟨5, 7⟩ : api_Span), (⟨1, 3⟩ : api_Span), (⟨3, 4⟩ : api_Span)] : List api_Span)), .flat false 2 39 ([(⟨3, 6⟩ : api_Span)] : List api_Span).length (vec api_Span.e api_Span.z ([(⟨3, 6⟩ : api_Span)] : List api_Span))]⟩) (by kernel_rfl) ?_
          refine ak_cut [0] [] (st' := ⟨50, [(0, .d (.v (.bool false)))], []⟩) (by kernel_rfl) (by kernel_rfl) rfl (by decide) (by rw [h0]; rfl) ?_
          exact Jj1 false H
      · replace H := iteF (K := fun o => o) c6 H
        rw [eqF c6]
        by_cases c11 : ((v1.1.getD 0 api_Span.z).Hi) = 4
        · replace H := iteT (K := fun o => o) c11 H
          rw [eqT c11]
          refine go hT 17 [0] (k' := stackAt (Try.f14.body.getD .skip) [1, 1, 1, 1] []) (st' := ⟨50, [(0, .d (.v (.bool false)))], [.flat true 2 39 ([(⟨5, 7⟩ : api_Span), (⟨1, 3⟩ : api_Span), (⟨3, 4⟩ : api_Span)] : List api_Span).length (vec api_Span.e api_Span.z ([(⟨5, 7⟩ : api_Span), (⟨1, 3⟩ : api_Span), (⟨3, 4⟩ : api_Span)] : List api_Span)), .flat false 2 39 ([(⟨3, 6⟩ : api_Span)] : List api_Span).length (vec api_Span.e api_Span.z ([(⟨3, 6⟩ : api_Span)] : List api_Span))]⟩) (by kernel_rfl) ?_
          refine ak_cut [0] [] (st' := ⟨50, [(0, .d (.v (.bool false)))], []⟩) (by kernel_rfl) (by kernel_rfl) rfl (by decide) (by rw [h0]; rfl) ?_
          exact Jj1 false H
        · replace H := iteF (K := fun o => o) c11 H
          rw [eqF c11]
          refine go hT 17 [0] (k' := stackAt (Try.f14.body.getD .skip) [1, 1, 1, 1] []) (st' := ⟨50, [(0, .d (.v (.bool false)))], [.flat true 2 39 ([(⟨5, 7⟩ : api_Span), (⟨1, 3⟩ : api_Span), (⟨3, 4⟩ : api_Span)] : List api_Span).length (vec api_Span.e api_Span.z ([(⟨5, 7⟩ : api_Span), (⟨1, 3⟩ : api_Span), (⟨3, 4⟩ : api_Span)] : List api_Span)), .flat false 2 39 ([(⟨3, 6⟩ : api_Span)] : List api_Span).length (vec api_Span.e api_Span.z ([(⟨3, 6⟩ : api_Span)] : List api_Span))]⟩) (by kernel_rfl) ?_
          refine ak_cut [0] [] (st' := ⟨50, [(0, .d (.v (.bool false)))], []⟩) (by kernel_rfl) (by kernel_rfl) rfl (by decide) (by rw [h0]; rfl) ?_
          exact Jj1 false H
    · replace H := iteF (K := fun o => o) c4 H
      rw [eqF c4]
      refine go hT 24 [0] (k' := stackAt (Try.f14.body.getD .skip) [1, 1, 1, 1] []) (st' := ⟨50, [(0, .d (.v (.bool false)))], [.flat true 2 39 ([(⟨5, 7⟩ : api_Span), (⟨1, 3⟩ : api_Span), (⟨3, 4⟩ : api_Span)] : List api_Span).length (vec api_Span.e api_Span.z ([(⟨5, 7⟩ : api_Span), (⟨1, 3⟩ : api_Span), (⟨3, 4⟩ : api_Span)] : List api_Span)), .flat false 2 39 ([(⟨3, 6⟩ : api_Span)] : List api_Span).length (vec api_Span.e api_Span.z ([(⟨3, 6⟩ : api_Span)] : List api_Span))]⟩) (by kernel_rfl) ?_
      refine ak_cut [0] [] (st' := ⟨50, [(0, .d (.v (.bool false)))], []⟩) (by kernel_rfl) (by kernel_rfl) rfl (by decide) (by rw [h0]; rfl) ?_
      exact Jj1 false H
  · replace H := iteF (K := fun o => o) c3 H
    rw [eqF c3]
    refine go hT 29 [0] (k' := stackAt (Try.f14.body.getD .skip) [1, 1, 1, 1] []) (st' := ⟨50, [(0, .d (.v (.bool false)))], [.flat true 2 39 ([(⟨5, 7⟩ : api_Span), (⟨1, 3⟩ : api_Span), (⟨3, 4⟩ : api_Span)] : List api_Span).length (vec api_Span.e api_Span.z ([(⟨5, 7⟩ : api_Span), (⟨1, 3⟩ : api_Span), (⟨3, 4⟩ : api_Span)] : List api_Span)), .flat false 2 39 ([(⟨3, 6⟩ : api_Span)] : List api_Span).length (vec api_Span.e api_Span.z ([(⟨3, 6⟩ : api_Span)] : List api_Span))]⟩) (by kernel_rfl) ?_
    refine ak_cut [0] [] (st' := ⟨50, [(0, .d (.v (.bool false)))], []⟩) (by kernel_rfl) (by kernel_rfl) rfl (by decide) (by rw [h0]; rfl) ?_
    exact Jj1 false H


theorem splicelaw03_SpanSpreads.says {t0 : Bool} (a0 : List api_Span) (a1 : List api_Span) (a2 : List api_Span) {r : Bool} (H : splicelaw03_SpanSpreads a0 a1 a2 = some r) : Says Try.prog 10 [] [.d (.sl t0 a0.length (vec api_Span.e api_Span.z a0)), .d (.sl true a1.length (vec api_Span.e api_Span.z a1)), .d (.sl true a2.length (vec api_Span.e api_Span.z a2))] [] (.d (.v (.bool r))) := by
  refine says_of Try.func10 rfl (nt := 86) rfl (Nat.le_of_ble_eq_true rfl) fun X hP h0 hX => ?_
  have hT : TabOk X.P T := hP ▸ tok
  have hf : X.P.funcs[10]? = some Try.f10 := hP ▸ Try.func10
  have Jj1 : ∀ (y1_29 : Bool), (splicelaw03_SpanSpreads.j1 a0 a1 a2 y1_29) = some r → AK X 10 (stackAt (Try.f10.body.getD .skip) [1, 0, 1] []) (Back X [] (.d (.v (.bool r)))) ⟨86, [(0, .d (.sl t0 a0.length (vec api_Span.e api_Span.z a0))), (1, .d (.sl true a1.length (vec api_Span.e api_Span.z a1))), (2, .d (.sl true a2.length (vec api_Span.e api_Span.z a2))), (29, .d (.v (.bool y1_29)))], []⟩ := by
    intro y1_29 H
    by_cases c3 : y1_29 = true
    · replace H := iteT (K := fun o => o) c3 H
      rw [c3]
      refine go hT 3 [] (k' := stackAt (Try.f10.body.getD .skip) [1, 0, 1, 0, 0, 0] []) (st' := ⟨86, [], []⟩) (by kernel_rfl) ?_
      obtain ⟨v1, h4, H⟩ := bindC (K := fun o => o) rfl H
      refine ak_callP (avs := []) (dst := some 30) (k' := stackAt (Try.f10.body.getD .skip) [1, 0, 1, 0, 0, 1] []) [30] [] hP enters_14 (splicelaw03_awake.says h4) (by kernel_rfl) (hands_none _) .nil (st' := ⟨86, [(30, .d (.v (.bool v1)))], []⟩) (by kernel_rfl) ?_
      refine go hT 2 [6] (k' := stackAt (Try.f10.body.getD .skip) [1, 0, 1, 0, 1] []) (st' := ⟨86, [(6, .d (.v (.bool v1)))], []⟩) (by kernel_rfl) ?_
      obtain rfl := retC H
      exact ak_ret hf hX (av := .d (.v (.bool v1))) (by kernel_rfl) [] (sel_of_eq (by kernel_rfl)) (by decide) (by rw [h0]; rfl) (by kernel_rfl) (fun _ h => all_nil h) (.d (.v _))
    · replace H := iteF (K := fun o => o) c3 H
      rw [boF c3]
      refine go hT 2 [0, 1, 2] (k' := stackAt (Try.f10.body.getD .skip) [1, 1] []) (st' := ⟨86, [(0, .d (.sl t0 a0.length (vec api_Span.e api_Span.z a0))), (1, .d (.sl true a1.length (vec api_Span.e api_Span.z a1))), (2, .d (.sl true a2.length (vec api_Span.e api_Span.z a2)))], []⟩) (by kernel_rfl) ?_
      refine go hT 4 [0, 1, 2, 32, 33] (k' := stackAt (Try.f10.body.getD .skip) [1, 1, 0, 2] []) (st' := ⟨86, [(0, .d (.sl t0 a0.length (vec api_Span.e api_Span.z a0))), (1, .d (.sl true a1.length (vec api_Span.e api_Span.z a1))), (2, .d (.sl true a2.length (vec api_Span.e api_Span.z a2))), (32, .d (.sl true a1.length (vec api_Span.e api_Span.z a1))), (33, .d (.sl true a2.length (vec api_Span.e api_Span.z a2)))], []⟩) (by kernel_rfl) ?_
      obtain ⟨v2, h5, H⟩ := bindC (K := fun o => o) rfl H
      refine ak_callP (avs := [.d (.sl true a1.length (vec api_Span.e api_Span.z a1)), .d (.sl true a2.length (vec api_Span.e api_Span.z a2))]) (dst := some 34) (k' := stackAt (Try.f10.body.getD .skip) [1, 1, 0, 3] []) [0, 1, 2, 34] [] hP enters_34 (span_Join.says a1 a2 h5) (by kernel_rfl) (hands_none _) (.cons (pass_d _) (.cons (pass_d _) .nil)) (st' := ⟨86, [(0, .d (.sl t0 a0.length (vec api_Span.e api_Span.z a0))), (1, .d (.sl true a1.length (vec api_Span.e api_Span.z a1))), (2, .d (.sl true a2.length (vec api_Span.e api_Span.z a2))), (34, .tup [.d (.sl true v2.1.length (vec api_Span.e api_Span.z v2.1)), .d (.v (.int .i64 v2.2))])], []⟩) (by kernel_rfl) ?_
      refine go hT 10 [0, 1, 2, 8, 38, 39] (k' := stackAt (Try.f10.body.getD .skip) [1, 1, 1, 0, 2] []) (st' := ⟨86, [(0, .d (.sl t0 a0.length (vec api_Span.e api_Span.z a0))), (1, .d (.sl true a1.length (vec api_Span.e api_Span.z a1))), (2, .d (.sl true a2.length (vec api_Span.e api_Span.z a2))), (8, .d (.v (.int .i64 v2.2))), (38, .d (.sl t0 a0.length (vec api_Span.e api_Span.z a0))), (39, .d (.sl true v2.1.length (vec api_Span.e api_Span.z v2.1)))], []⟩) (by kernel_rfl) ?_
      obtain ⟨v3, h6, H⟩ := bindC (K := fun o => o) rfl H
      refine ak_callP (avs := [.d (.sl t0 a0.length (vec api_Span.e api_Span.z a0)), .d (.sl true v2.1.length (vec api_Span.e api_Span.z v2.1))]) (dst := some 40) (k' := stackAt (Try.f10.body.getD .skip) [1, 1, 1, 0, 3] []) [0, 1, 2, 8, 40] [] hP enters_19 (span_Meet.says (t0 := t0) (t1 := true) a0 v2.1 h6) (by kernel_rfl) (hands_none _) (.cons (pass_d _) (.cons (pass_d _) .nil)) (st' := ⟨86, [(0, .d (.sl t0 a0.length (vec api_Span.e api_Span.z a0))), (1, .d (.sl true a1.length (vec api_Span.e api_Span.z a1))), (2, .d (.sl true a2.length (vec api_Span.e api_Span.z a2))), (8, .d (.v (.int .i64 v2.2))), (40, .tup [.d (.sl true v3.1.length (vec api_Span.e api_Span.z v3.1)), .d (.v (.int .i64 v3.2))])], []⟩) (by kernel_rfl) ?_
      refine go hT 10 [0, 2, 8, 9, 10, 44, 45] (k' := stackAt (Try.f10.body.getD .skip) [1, 1, 1, 1, 0, 2] []) (st' := ⟨86, [(0, .d (.sl t0 a0.length (vec api_Span.e api_Span.z a0))), (2, .d (.sl true a2.length (vec api_Span.e api_Span.z a2))), (8, .d (.v (.int .i64 v2.2))), (9, .d (.sl true v3.1.length (vec api_Span.e api_Span.z v3.1))), (10, .d (.v (.int .i64 v3.2))), (44, .d (.sl t0 a0.length (vec api_Span.e api_Span.z a0))), (45, .d (.sl true a1.length (vec api_Span.e api_Span.z a1)))], []⟩) (by kernel_rfl) ?_
      obtain ⟨v4, h7, H⟩ := bindC (K := fun o => o) rfl H
      refine ak_callP (avs := [.d (.sl t0 a0.length (vec api_Span.e api_Span.z a0)), .d (.sl true a1.length (vec api_Span.e api_Span.z a1))]) (dst := some 46) (k' := stackAt (Try.f10.body.getD .skip) [1, 1, 1, 1, 0, 3] []) [0, 2, 8, 9, 10, 46] [] hP enters_19 (span_Meet.says (t0 := t0) (t1 := true) a0 a1 h7) (by kernel_rfl) (hands_none _) (.cons (pass_d _) (.cons (pass_d _) .nil)) (st' := ⟨86, [(0, .d (.sl t0 a0.length (vec api_Span.e api_Span.z a0))), (2, .d (.sl true a2.length (vec api_Span.e api_Span.z a2))), (8, .d (.v (.int .i64 v2.2))), (9, .d (.sl true v3.1.length (vec api_Span.e api_Span.z v3.1))), (10, .d (.v (.int .i64 v3.2))), (46, .tup [.d (.sl true v4.1.length (vec api_Span.e api_Span.z v4.1)), .d (.v (.int .i64 v4.2))])], []⟩) (by kernel_rfl) ?_
      refine go hT 10 [8, 9, 10, 11, 12, 50, 51] (k' := stackAt (Try.f10.body.getD .skip) [1, 1, 1, 1, 1, 0, 2] []) (st' := ⟨86, [(8, .d (.v (.int .i64 v2.2))), (9, .d (.sl true v3.1.length (vec api_Span.e api_Span.z v3.1))), (10, .d (.v (.int .i64 v3.2))), (11, .d (.sl true v4.1.length (vec api_Span.e api_Span.z v4.1))), (12, .d (.v (.int .i64 v4.2))), (50, .d (.sl t0 a0.length (vec api_Span.e api_Span.z a0))), (51, .d (.sl true a2.length (vec api_Span.e api_Span.z a2)))], []⟩) (by kernel_rfl) ?_
      obtain ⟨v5, h8, H⟩ := bindC (K := fun o => o) rfl H
      refine ak_callP (avs := [.d (.sl t0 a0.length (vec api_Span.e api_Span.z a0)), .d (.sl true a2.length (vec api_Span.e api_Span.z a2))]) (dst := some 52) (k' := stackAt (Try.f10.body.getD .skip) [1, 1, 1, 1, 1, 0, 3] []) [8, 9, 10, 11, 12, 52] [] hP enters_19 (span_Meet.says (t0 := t0) (t1 := true) a0 a2 h8) (by kernel_rfl) (hands_none _) (.cons (pass_d _) (.cons (pass_d _) .nil)) (st' := ⟨86, [(8, .d (.v (.int .i64 v2.2))), (9, .d (.sl true v3.1.length (vec api_Span.e api_Span.z v3.1))), (10, .d (.v (.int .i64 v3.2))), (11, .d (.sl true v4.1.length (vec api_Span.e api_Span.z v4.1))), (12, .d (.v (.int .i64 v4.2))), (52, .tup [.d (.sl true v5.1.length (vec api_Span.e api_Span.z v5.1)), .d (.v (.int .i64 v5.2))])], []⟩) (by kernel_rfl) ?_
      refine go hT 10 [8, 9, 10, 12, 14, 56, 57] (k' := stackAt (Try.f10.body.getD .skip) [1, 1, 1, 1, 1, 1, 0, 2] []) (st' := ⟨86, [(8, .d (.v (.int .i64 v2.2))), (9, .d (.sl true v3.1.length (vec api_Span.e api_Span.z v3.1))), (10, .d (.v (.int .i64 v3.2))), (12, .d (.v (.int .i64 v4.2))), (14, .d (.v (.int .i64 v5.2))), (56, .d (.sl true v4.1.length (vec api_Span.e api_Span.z v4.1))), (57, .d (.sl true v5.1.length (vec api_Span.e api_Span.z v5.1)))], []⟩) (by kernel_rfl) ?_
      obtain ⟨v6, h9, H⟩ := bindC (K := fun o => o) rfl H
      have Jj2 : ∀ (y2_78 : Bool), (splicelaw03_SpanSpreads.j2 v3 v6 y2_78) = some r → AK X 10 (stackAt (Try.f10.body.getD .skip) [1, 1, 1, 1, 1, 1, 1, 0, 1] []) (Back X [] (.d (.v (.bool r)))) ⟨86, [(9, .d (.sl true v3.1.length (vec api_Span.e api_Span.z v3.1))), (15, .d (.sl true v6.1.length (vec api_Span.e api_Span.z v6.1))), (78, .d (.v (.bool y2_78)))], []⟩ := by
        intro y2_78 H
        by_cases c14 : y2_78 = true
        · replace H := iteT (K := fun o => o) c14 H
          rw [c14]
          refine go hT 3 [] (k' := stackAt (Try.f10.body.getD .skip) [1, 1, 1, 1, 1, 1, 1, 0, 1, 0, 0, 0] []) (st' := ⟨86, [], []⟩) (by kernel_rfl) ?_
          obtain ⟨v7, h15, H⟩ := bindC (K := fun o => o) rfl H
          refine ak_callP (avs := []) (dst := some 79) (k' := stackAt (Try.f10.body.getD .skip) [1, 1, 1, 1, 1, 1, 1, 0, 1, 0, 0, 1] []) [79] [] hP enters_14 (splicelaw03_awake.says h15) (by kernel_rfl) (hands_none _) .nil (st' := ⟨86, [(79, .d (.v (.bool v7)))], []⟩) (by kernel_rfl) ?_
          refine go hT 2 [6] (k' := stackAt (Try.f10.body.getD .skip) [1, 1, 1, 1, 1, 1, 1, 0, 1, 0, 1] []) (st' := ⟨86, [(6, .d (.v (.bool v7)))], []⟩) (by kernel_rfl) ?_
          obtain rfl := retC H
          exact ak_ret hf hX (av := .d (.v (.bool v7))) (by kernel_rfl) [] (sel_of_eq (by kernel_rfl)) (by decide) (by rw [h0]; rfl) (by kernel_rfl) (fun _ h => all_nil h) (.d (.v _))
        · replace H := iteF (K := fun o => o) c14 H
          rw [boF c14]
          refine go hT 2 [9, 15] (k' := stackAt (Try.f10.body.getD .skip) [1, 1, 1, 1, 1, 1, 1, 1] []) (st' := ⟨86, [(9, .d (.sl true v3.1.length (vec api_Span.e api_Span.z v3.1))), (15, .d (.sl true v6.1.length (vec api_Span.e api_Span.z v6.1)))], []⟩) (by kernel_rfl) ?_
          refine go hT 2 [9, 15] (k' := stackAt (Try.f10.body.getD .skip) [1, 1, 1, 1, 1, 1, 1, 1, 0, 0] []) (st' := ⟨86, [(9, .d (.sl true v3.1.length (vec api_Span.e api_Span.z v3.1))), (15, .d (.sl true v6.1.length (vec api_Span.e api_Span.z v6.1)))], []⟩) (by kernel_rfl) ?_
          obtain ⟨v8, h16, H⟩ := bindC (K := fun o => o) rfl H
          have Jj3 : ∀ (y3_6 : Bool), (splicelaw03_SpanSpreads.j3 y3_6) = some r → AK X 10 (stackAt (Try.f10.body.getD .skip) [1, 1, 1, 1, 1, 1, 1, 1, 1] []) (Back X [] (.d (.v (.bool r)))) ⟨86, [(6, .d (.v (.bool y3_6)))], []⟩ := by
            intro y3_6 H
            obtain rfl := retC H
            exact ak_ret hf hX (av := .d (.v (.bool y3_6))) (by kernel_rfl) [] (sel_of_eq (by kernel_rfl)) (by decide) (by rw [h0]; rfl) (by kernel_rfl) (fun _ h => all_nil h) (.d (.v _))
          refine ak_callP (avs := []) (dst := some 80) (k' := stackAt (Try.f10.body.getD .skip) [1, 1, 1, 1, 1, 1, 1, 1, 0, 1] []) [9, 15, 80] [] hP enters_14 (splicelaw03_awake.says h16) (by kernel_rfl) (hands_none _) .nil (st' := ⟨86, [(9, .d (.sl true v3.1.length (vec api_Span.e api_Span.z v3.1))), (15, .d (.sl true v6.1.length (vec api_Span.e api_Span.z v6.1))), (80, .d (.v (.bool v8)))], []⟩) (by kernel_rfl) ?_
          refine go hT 1 [9, 15, 81] (k' := stackAt (Try.f10.body.getD .skip) [1, 1, 1, 1, 1, 1, 1, 1, 0, 2] []) (st' := ⟨86, [(9, .d (.sl true v3.1.length (vec api_Span.e api_Span.z v3.1))), (15, .d (.sl true v6.1.length (vec api_Span.e api_Span.z v6.1))), (81, .d (.v (.bool v8)))], []⟩) (by kernel_rfl) ?_
          by_cases c17 : v8 = true
          · replace H := iteT (K := fun o => o) c17 H
            rw [c17]
            refine go hT 2 [81, 82, 83] (k' := stackAt (Try.f10.body.getD .skip) [1, 1, 1, 1, 1, 1, 1, 1, 0, 4] []) (st' := ⟨86, [(81, .d (.v (.bool true))), (82, .d (.sl true v3.1.length (vec api_Span.e api_Span.z v3.1))), (83, .d (.sl true v6.1.length (vec api_Span.e api_Span.z v6.1)))], []⟩) (by kernel_rfl) ?_
            obtain ⟨v9, h18, H⟩ := bindC (K := fun o => o) rfl H
            refine ak_callP (avs := [.d (.sl true v3.1.length (vec api_Span.e api_Span.z v3.1)), .d (.sl true v6.1.length (vec api_Span.e api_Span.z v6.1))]) (dst := some 84) (k' := stackAt (Try.f10.body.getD .skip) [1, 1, 1, 1, 1, 1, 1, 1, 0, 5] []) [81, 84] [] hP enters_31 (splicelaw03_alike.says (t0 := true) (t1 := true) v3.1 v6.1 h18) (by kernel_rfl) (hands_none _) (.cons (pass_d _) (.cons (pass_d _) .nil)) (st' := ⟨86, [(81, .d (.v (.bool true))), (84, .d (.v (.bool v9)))], []⟩) (by kernel_rfl) ?_
            refine go hT 3 [6] (k' := stackAt (Try.f10.body.getD .skip) [1, 1, 1, 1, 1, 1, 1, 1, 1] []) (st' := ⟨86, [(6, .d (.v (.bool v9)))], []⟩) (by kernel_rfl) ?_
            refine ak_cut [6] [] (st' := ⟨86, [(6, .d (.v (.bool v9)))], []⟩) (by kernel_rfl) (by kernel_rfl) rfl (by decide) (by rw [h0]; rfl) ?_
            exact Jj3 v9 H
          · replace H := iteF (K := fun o => o) c17 H
            rw [boF c17]
            refine go hT 6 [6] (k' := stackAt (Try.f10.body.getD .skip) [1, 1, 1, 1, 1, 1, 1, 1, 1] []) (st' := ⟨86, [(6, .d (.v (.bool false)))], []⟩) (by kernel_rfl) ?_
            refine ak_cut [6] [] (st' := ⟨86, [(6, .d (.v (.bool false)))], []⟩) (by kernel_rfl) (by kernel_rfl) rfl (by decide) (by rw [h0]; rfl) ?_
            exact Jj3 false H
      refine ak_callP (avs := [.d (.sl true v4.1.length (vec api_Span.e api_Span.z v4.1)), .d (.sl true v5.1.length (vec api_Span.e api_Span.z v5.1))]) (dst := some 58) (k' := stackAt (Try.f10.body.getD .skip) [1, 1, 1, 1, 1, 1, 0, 3] []) [8, 9, 10, 12, 14, 58] [] hP enters_34 (span_Join.says v4.1 v5.1 h9) (by kernel_rfl) (hands_none _) (.cons (pass_d _) (.cons (pass_d _) .nil)) (st' := ⟨86, [(8, .d (.v (.int .i64 v2.2))), (9, .d (.sl true v3.1.length (vec api_Span.e api_Span.z v3.1))), (10, .d (.v (.int .i64 v3.2))), (12, .d (.v (.int .i64 v4.2))), (14, .d (.v (.int .i64 v5.2))), (58, .tup [.d (.sl true v6.1.length (vec api_Span.e api_Span.z v6.1)), .d (.v (.int .i64 v6.2))])], []⟩) (by kernel_rfl) ?_
      refine go hT 12 [9, 10, 12, 14, 15, 16, 63] (k' := stackAt (Try.f10.body.getD .skip) [1, 1, 1, 1, 1, 1, 1, 0, 0, 3] []) (st' := ⟨86, [(9, .d (.sl true v3.1.length (vec api_Span.e api_Span.z v3.1))), (10, .d (.v (.int .i64 v3.2))), (12, .d (.v (.int .i64 v4.2))), (14, .d (.v (.int .i64 v5.2))), (15, .d (.sl true v6.1.length (vec api_Span.e api_Span.z v6.1))), (16, .d (.v (.int .i64 v6.2))), (63, .d (.v (.bool (v2.2 != 0))))], []⟩) (by kernel_rfl) ?_
      by_cases c10 : v2.2 = 0
      · replace H := iteT (K := fun o => o) c10 H
        rw [neF c10]
        refine go hT 4 [9, 12, 14, 15, 16, 67] (k' := stackAt (Try.f10.body.getD .skip) [1, 1, 1, 1, 1, 1, 1, 0, 0, 7] []) (st' := ⟨86, [(9, .d (.sl true v3.1.length (vec api_Span.e api_Span.z v3.1))), (12, .d (.v (.int .i64 v4.2))), (14, .d (.v (.int .i64 v5.2))), (15, .d (.sl true v6.1.length (vec api_Span.e api_Span.z v6.1))), (16, .d (.v (.int .i64 v6.2))), (67, .d (.v (.bool (v3.2 != 0))))], []⟩) (by kernel_rfl) ?_
        by_cases c11 : v3.2 = 0
        · replace H := iteT (K := fun o => o) c11 H
          rw [neF c11]
          refine go hT 4 [9, 14, 15, 16, 71] (k' := stackAt (Try.f10.body.getD .skip) [1, 1, 1, 1, 1, 1, 1, 0, 0, 11] []) (st' := ⟨86, [(9, .d (.sl true v3.1.length (vec api_Span.e api_Span.z v3.1))), (14, .d (.v (.int .i64 v5.2))), (15, .d (.sl true v6.1.length (vec api_Span.e api_Span.z v6.1))), (16, .d (.v (.int .i64 v6.2))), (71, .d (.v (.bool (v4.2 != 0))))], []⟩) (by kernel_rfl) ?_
          by_cases c12 : v4.2 = 0
          · replace H := iteT (K := fun o => o) c12 H
            rw [neF c12]
            refine go hT 4 [9, 15, 16, 75] (k' := stackAt (Try.f10.body.getD .skip) [1, 1, 1, 1, 1, 1, 1, 0, 0, 15] []) (st' := ⟨86, [(9, .d (.sl true v3.1.length (vec api_Span.e api_Span.z v3.1))), (15, .d (.sl true v6.1.length (vec api_Span.e api_Span.z v6.1))), (16, .d (.v (.int .i64 v6.2))), (75, .d (.v (.bool (v5.2 != 0))))], []⟩) (by kernel_rfl) ?_
            by_cases c13 : v5.2 = 0
            · replace H := iteT (K := fun o => o) c13 H
              rw [neF c13]
              refine go hT 4 [9, 15, 78] (k' := stackAt (Try.f10.body.getD .skip) [1, 1, 1, 1, 1, 1, 1, 0, 1] []) (st' := ⟨86, [(9, .d (.sl true v3.1.length (vec api_Span.e api_Span.z v3.1))), (15, .d (.sl true v6.1.length (vec api_Span.e api_Span.z v6.1))), (78, .d (.v (.bool (v6.2 != 0))))], []⟩) (by kernel_rfl) ?_
              refine ak_cut [9, 15, 78] [] (st' := ⟨86, [(9, .d (.sl true v3.1.length (vec api_Span.e api_Span.z v3.1))), (15, .d (.sl true v6.1.length (vec api_Span.e api_Span.z v6.1))), (78, .d (.v (.bool (v6.2 != 0))))], []⟩) (by kernel_rfl) (by kernel_rfl) rfl (by decide) (by rw [h0]; rfl) ?_
              exact Jj2 (v6.2 != 0) H
            · replace H := iteF (K := fun o => o) c13 H
              rw [neT c13]
              refine go hT 4 [9, 15, 78] (k' := stackAt (Try.f10.body.getD .skip) [1, 1, 1, 1, 1, 1, 1, 0, 1] []) (st' := ⟨86, [(9, .d (.sl true v3.1.length (vec api_Span.e api_Span.z v3.1))), (15, .d (.sl true v6.1.length (vec api_Span.e api_Span.z v6.1))), (78, .d (.v (.bool true)))], []⟩) (by kernel_rfl) ?_
              refine ak_cut [9, 15, 78] [] (st' := ⟨86, [(9, .d (.sl true v3.1.length (vec api_Span.e api_Span.z v3.1))), (15, .d (.sl true v6.1.length (vec api_Span.e api_Span.z v6.1))), (78, .d (.v (.bool true)))], []⟩) (by kernel_rfl) (by kernel_rfl) rfl (by decide) (by rw [h0]; rfl) ?_
              exact Jj2 true H
          · replace H := iteF (K := fun o => o) c12 H
            rw [neT c12]
            refine go hT 8 [9, 15, 78] (k' := stackAt (Try.f10.body.getD .skip) [1, 1, 1, 1, 1, 1, 1, 0, 1] []) (st' := ⟨86, [(9, .d (.sl true v3.1.length (vec api_Span.e api_Span.z v3.1))), (15, .d (.sl true v6.1.length (vec api_Span.e api_Span.z v6.1))), (78, .d (.v (.bool true)))], []⟩) (by kernel_rfl) ?_
            refine ak_cut [9, 15, 78] [] (st' := ⟨86, [(9, .d (.sl true v3.1.length (vec api_Span.e api_Span.z v3.1))), (15, .d (.sl true v6.1.length (vec api_Span.e api_Span.z v6.1))), (78, .d (.v (.bool true)))], []⟩) (by kernel_rfl) (by kernel_rfl) rfl (by decide) (by rw [h0]; rfl) ?_
            exact Jj2 true H
        · replace H := iteF (K := fun o => o) c11 H
          rw [neT c11]
          refine go hT 12 [9, 15, 78] (k' := stackAt (Try.f10.body.getD .skip) [1, 1, 1, 1, 1, 1, 1, 0, 1] []) (st' := ⟨86, [(9, .d (.sl true v3.1.length (vec api_Span.e api_Span.z v3.1))), (15, .d (.sl true v6.1.length (vec api_Span.e api_Span.z v6.1))), (78, .d (.v (.bool true)))], []⟩) (by kernel_rfl) ?_
          refine ak_cut [9, 15, 78] [] (st' := ⟨86, [(9, .d (.sl true v3.1.length (vec api_Span.e api_Span.z v3.1))), (15, .d (.sl true v6.1.length (vec api_Span.e api_Span.z v6.1))), (78, .d (.v (.bool true)))], []⟩) (by kernel_rfl) (by kernel_rfl) rfl (by decide) (by rw [h0]; rfl) ?_
          exact Jj2 true H
      · replace H := iteF (K := fun o => o) c10 H
        rw [neT c10]
        refine go hT 16 [9, 15, 78] (k' := stackAt (Try.f10.body.getD .skip) [1, 1, 1, 1, 1, 1, 1, 0, 1] []) (st' := ⟨86, [(9, .d (.sl true v3.1.length (vec api_Span.e api_Span.z v3.1))), (15, .d (.sl true v6.1.length (vec api_Span.e api_Span.z v6.1))), (78, .d (.v (.bool true)))], []⟩) (by kernel_rfl) ?_
        refine ak_cut [9, 15, 78] [] (st' := ⟨86, [(9, .d (.sl true v3.1.length (vec api_Span.e api_Span.z v3.1))), (15, .d (.sl true v6.1.length (vec api_Span.e api_Span.z v6.1))), (78, .d (.v (.bool true)))], []⟩) (by kernel_rfl) (by kernel_rfl) rfl (by decide) (by rw [h0]; rfl) ?_
        exact Jj2 true H
  refine go hT 8 [0, 1, 2, 17] (k' := stackAt (Try.f10.body.getD .skip) [1, 0, 0, 1] []) (st' := ⟨86, [(0, .d (.sl t0 a0.length (vec api_Span.e api_Span.z a0))), (1, .d (.sl true a1.length (vec api_Span.e api_Span.z a1))), (2, .d (.sl true a2.length (vec api_Span.e api_Span.z a2))), (17, .d (.sl t0 a0.length (vec api_Span.e api_Span.z a0)))], []⟩) (by kernel_rfl) ?_
  refine ak_callP (avs := [.d (.sl t0 a0.length (vec api_Span.e api_Span.z a0))]) (dst := some 18) (k' := stackAt (Try.f10.body.getD .skip) [1, 0, 0, 2] []) [0, 1, 2, 18] [] hP enters_13 (splicelaw03_few.says (t0 := t0) a0) (by kernel_rfl) (hands_none _) (.cons (pass_d _) .nil) (st' := ⟨86, [(0, .d (.sl t0 a0.length (vec api_Span.e api_Span.z a0))), (1, .d (.sl true a1.length (vec api_Span.e api_Span.z a1))), (2, .d (.sl true a2.length (vec api_Span.e api_Span.z a2))), (18, .d (.v (.bool (splicelaw03_few a0))))], []⟩) (by kernel_rfl) ?_
  refine go hT 2 [0, 1, 2, 20] (k' := stackAt (Try.f10.body.getD .skip) [1, 0, 0, 4] []) (st' := ⟨86, [(0, .d (.sl t0 a0.length (vec api_Span.e api_Span.z a0))), (1, .d (.sl true a1.length (vec api_Span.e api_Span.z a1))), (2, .d (.sl true a2.length (vec api_Span.e api_Span.z a2))), (20, .d (.v (.bool (!(splicelaw03_few a0)))))], []⟩) (by kernel_rfl) ?_
  by_cases c1 : (splicelaw03_few a0) = true
  · replace H := iteT (K := fun o => o) c1 H
    rw [c1]
    refine go hT 1 [0, 1, 2, 20, 21] (k' := stackAt (Try.f10.body.getD .skip) [1, 0, 0, 5] []) (st' := ⟨86, [(0, .d (.sl t0 a0.length (vec api_Span.e api_Span.z a0))), (1, .d (.sl true a1.length (vec api_Span.e api_Span.z a1))), (2, .d (.sl true a2.length (vec api_Span.e api_Span.z a2))), (20, .d (.v (.bool false))), (21, .d (.sl true a1.length (vec api_Span.e api_Span.z a1)))], []⟩) (by kernel_rfl) ?_
    refine ak_callP (avs := [.d (.sl true a1.length (vec api_Span.e api_Span.z a1))]) (dst := some 22) (k' := stackAt (Try.f10.body.getD .skip) [1, 0, 0, 6] []) [0, 1, 2, 20, 22] [] hP enters_13 (splicelaw03_few.says (t0 := true) a1) (by kernel_rfl) (hands_none _) (.cons (pass_d _) .nil) (st' := ⟨86, [(0, .d (.sl t0 a0.length (vec api_Span.e api_Span.z a0))), (1, .d (.sl true a1.length (vec api_Span.e api_Span.z a1))), (2, .d (.sl true a2.length (vec api_Span.e api_Span.z a2))), (20, .d (.v (.bool false))), (22, .d (.v (.bool (splicelaw03_few a1))))], []⟩) (by kernel_rfl) ?_
    refine go hT 3 [0, 1, 2, 25] (k' := stackAt (Try.f10.body.getD .skip) [1, 0, 0, 9] []) (st' := ⟨86, [(0, .d (.sl t0 a0.length (vec api_Span.e api_Span.z a0))), (1, .d (.sl true a1.length (vec api_Span.e api_Span.z a1))), (2, .d (.sl true a2.length (vec api_Span.e api_Span.z a2))), (25, .d (.v (.bool (!(splicelaw03_few a1)))))], []⟩) (by kernel_rfl) ?_
    by_cases c2 : (splicelaw03_few a1) = true
    · replace H := iteT (K := fun o => o) c2 H
      rw [c2]
      refine go hT 1 [0, 1, 2, 25, 26] (k' := stackAt (Try.f10.body.getD .skip) [1, 0, 0, 10] []) (st' := ⟨86, [(0, .d (.sl t0 a0.length (vec api_Span.e api_Span.z a0))), (1, .d (.sl true a1.length (vec api_Span.e api_Span.z a1))), (2, .d (.sl true a2.length (vec api_Span.e api_Span.z a2))), (25, .d (.v (.bool false))), (26, .d (.sl true a2.length (vec api_Span.e api_Span.z a2)))], []⟩) (by kernel_rfl) ?_
      refine ak_callP (avs := [.d (.sl true a2.length (vec api_Span.e api_Span.z a2))]) (dst := some 27) (k' := stackAt (Try.f10.body.getD .skip) [1, 0, 0, 11] []) [0, 1, 2, 25, 27] [] hP enters_13 (splicelaw03_few.says (t0 := true) a2) (by kernel_rfl) (hands_none _) (.cons (pass_d _) .nil) (st' := ⟨86, [(0, .d (.sl t0 a0.length (vec api_Span.e api_Span.z a0))), (1, .d (.sl true a1.length (vec api_Span.e api_Span.z a1))), (2, .d (.sl true a2.length (vec api_Span.e api_Span.z a2))), (25, .d (.v (.bool false))), (27, .d (.v (.bool (splicelaw03_few a2))))], []⟩) (by kernel_rfl) ?_
      refine go hT 3 [0, 1, 2, 29] (k' := stackAt (Try.f10.body.getD .skip) [1, 0, 1] []) (st' := ⟨86, [(0, .d (.sl t0 a0.length (vec api_Span.e api_Span.z a0))), (1, .d (.sl true a1.length (vec api_Span.e api_Span.z a1))), (2, .d (.sl true a2.length (vec api_Span.e api_Span.z a2))), (29, .d (.v (.bool (!(splicelaw03_few a2)))))], []⟩) (by kernel_rfl) ?_
      refine ak_cut [0, 1, 2, 29] [] (st' := ⟨86, [(0, .d (.sl t0 a0.length (vec api_Span.e api_Span.z a0))), (1, .d (.sl true a1.length (vec api_Span.e api_Span.z a1))), (2, .d (.sl true a2.length (vec api_Span.e api_Span.z a2))), (29, .d (.v (.bool (!(splicelaw03_few a2)))))], []⟩) (by kernel_rfl) (by kernel_rfl) rfl (by decide) (by rw [h0]; rfl) ?_
      exact Jj1 (!(splicelaw03_few a2)) H
    · replace H := iteF (K := fun o => o) c2 H
      rw [boF c2]
      refine go hT 5 [0, 1, 2, 29] (k' := stackAt (Try.f10.body.getD .skip) [1, 0, 1] []) (st' := ⟨86, [(0, .d (.sl t0 a0.length (vec api_Span.e api_Span.z a0))), (1, .d (.sl true a1.length (vec api_Span.e api_Span.z a1))), (2, .d (.sl true a2.length (vec api_Span.e api_Span.z a2))), (29, .d (.v (.bool true)))], []⟩) (by kernel_rfl) ?_
      refine ak_cut [0, 1, 2, 29] [] (st' := ⟨86, [(0, .d (.sl t0 a0.length (vec api_Span.e api_Span.z a0))), (1, .d (.sl true a1.length (vec api_Span.e api_Span.z a1))), (2, .d (.sl true a2.length (vec api_Span.e api_Span.z a2))), (29, .d (.v (.bool true)))], []⟩) (by kernel_rfl) (by kernel_rfl) rfl (by decide) (by rw [h0]; rfl) ?_
      exact Jj1 true H
  · replace H := iteF (K := fun o => o) c1 H
    rw [boF c1]
    refine go hT 10 [0, 1, 2, 29] (k' := stackAt (Try.f10.body.getD .skip) [1, 0, 1] []) (st' := ⟨86, [(0, .d (.sl t0 a0.length (vec api_Span.e api_Span.z a0))), (1, .d (.sl true a1.length (vec api_Span.e api_Span.z a1))), (2, .d (.sl true a2.length (vec api_Span.e api_Span.z a2))), (29, .d (.v (.bool true)))], []⟩) (by kernel_rfl) ?_
    refine ak_cut [0, 1, 2, 29] [] (st' := ⟨86, [(0, .d (.sl t0 a0.length (vec api_Span.e api_Span.z a0))), (1, .d (.sl true a1.length (vec api_Span.e api_Span.z a1))), (2, .d (.sl true a2.length (vec api_Span.e api_Span.z a2))), (29, .d (.v (.bool true)))], []⟩) (by kernel_rfl) (by kernel_rfl) rfl (by decide) (by rw [h0]; rfl) ?_
    exact Jj1 true H
end Go.SyP
